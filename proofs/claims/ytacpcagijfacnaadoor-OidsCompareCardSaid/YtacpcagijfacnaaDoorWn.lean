/- Chapters 6, 7 (oids, oidsets): Put. -/
import Derived.Test.YtacpcagijfacnaaDoorWm
import Derived.Test.YtacpcagijfacnaaDoorWi
import Derived.Test.YtacpcagijfacnaaDoorWh
import Derived.Outline
namespace Go.Proofs.YtacpcagijfacnaaDoor
open Go.RowKit Go.Shelf
open Go.Proofs.YtacpcagijfacnaaDoorW.PrintWords (rd Ev gate_dst gate_store Kd.C_below Kd.C_of_reads Kd.reads_of_C ReadsOf.at_ rdOf blk_new blk_below blk_cell blk_alloc blk_lt blk_frozen blk_drew blk_set Kd.C Kd.int)
attribute [local go_sem] Oper.semAt_some
set_option linter.unusedSimpArgs false
set_option linter.unusedVariables false
set_option maxRecDepth 50000
theorem clip_any (g n c : Nat) (hn : n ≤ c) (_hc : n ≤ 1000000) (w : World) : Calls Tryd.prog 29 #[.slice (some ⟨g, 0, none⟩) n c] w fun e w' => e = .returned (.slice (some ⟨g, 0, none⟩) n n) ∧ w' = w := by
  go_enter Tryd.func29, Tryd.ntmps29
  go_wp2
  go_ret
  exact ⟨rfl, rfl⟩
/-- Whole numbers as bytes in a block. -/
def Octs (w : World) (g : Nat) (l : List Int) : Prop := ∀ i, i < l.length → w.cell? ⟨g, i, none⟩ = some (.int .u8 (l.getD i 0))
def PutP (l : List Int) (w : World) (e : Ending) (w' : World) : Prop := ∃ g : Nat, e = .returned (.tuple #[.slice (some ⟨g, 0, none⟩) l.length l.length, .int .i64 0]) ∧ w.heap.size ≤ g ∧ Octs w' g l ∧ Below w.heap.size w w'
theorem infoB : (Tryd.prog.info? 5).map (fun i => (i.zero, i.size, i.bytes)) = some (some (.int .u8 0), 1, 1) := by kernel_rfl
theorem octs_row {W : World} {g n c base : Nat} {l : List Int} (h : W.ownsRow base 5 1 (.slice (some ⟨g, 0, none⟩) n c) n (l.map (Value.int .u8))) : base ≤ g ∧ n ≤ c ∧ n = l.length ∧ Octs W g l := by
  obtain ⟨hl, h | ⟨g', cap, cur, hv, hb, hh, hn, _, hs, ht⟩⟩ := h
  · cases h.1
  · injection hv with hp _ hc
    injection hp with hp
    injection hp with hg
    subst hg hc
    have hl' : n = l.length := by simpa using hl.symm
    refine ⟨hb, hn, hl', fun i hi => ?_⟩
    rw [blk_cell hh i]
    have e : (cur.toList.take (n * 1))[i]? = some (.int .u8 (l.getD i 0)) := by
      rw [ht, List.getElem?_map, List.getElem?_eq_getElem hi, List.getD, List.getElem?_eq_getElem hi]; rfl
    rw [List.getElem?_take, if_pos (by omega)] at e
    simpa using e
/-! The marks of loops over a function that have run. -/
def mkD (D : Nat) : Deferred := { target := .collected D, args := #[] }
structure Marks (lo hi : Nat) (Ds : List Nat) (W : World) : Prop where
  nd : Ds.Nodup
  at_ : ∀ D ∈ Ds, lo ≤ D ∧ D < hi ∧ W.heap[D]? = some (.deferred (some []))
theorem Marks.nil (lo hi : Nat) (W : World) : Marks lo hi [] W := ⟨List.nodup_nil, fun _ h => by cases h⟩
theorem Marks.others {lo hi : Nat} {Ds : List Nat} {W W' : World} (h : Marks lo hi Ds W) (k : KeepsOthers W W') : Marks lo hi Ds W' := ⟨h.nd, fun D hD => ⟨(h.at_ D hD).1, (h.at_ D hD).2.1, k.same D _ (h.at_ D hD).2.2 rfl⟩⟩
theorem Marks.own {lo hi B : Nat} {Ds : List Nat} (hB : hi ≤ B) : OwnFrom (β := List Int) B (fun _ W => Marks lo hi Ds W) := fun s W W' row h hg hr =>
  ⟨h.nd, fun D hD => by
    obtain ⟨h1, h2, h3⟩ := h.at_ D hD
    refine ⟨h1, h2, ?_⟩
    rw [hg.block D (Array.getElem?_eq_some_iff.1 h3).1 (fun e => by have := (hr D e.symm).1; omega)]
    exact h3⟩
theorem Marks.cons {lo hi hi' D : Nat} {Ds : List Nat} {W : World} (h : Marks lo hi Ds W) (h1 : hi ≤ D) (h2 : D < hi') (hlo : lo ≤ hi) (hD : W.heap[D]? = some (.deferred (some []))) : Marks lo hi' (D :: Ds) W :=
  ⟨List.nodup_cons.mpr ⟨fun hm => by have := (h.at_ D hm).2.1; omega, h.nd⟩, fun E hE => by
    rcases List.mem_cons.mp hE with rfl | hE
    · exact ⟨by omega, h2, hD⟩
    · obtain ⟨a, b, c⟩ := h.at_ E hE
      exact ⟨a, by omega, c⟩⟩
theorem Marks.tail {lo hi D : Nat} {Ds : List Nat} {W : World} (h : Marks lo hi (D :: Ds) W) (o : Obj) : Marks lo hi Ds (W.putObj D o) :=
  ⟨(List.nodup_cons.mp h.nd).2, fun E hE => by
    obtain ⟨a, b, c⟩ := h.at_ E (List.mem_cons_of_mem _ hE)
    refine ⟨a, b, ?_⟩
    rw [World.putObj_heap_other (fun e => (List.nodup_cons.mp h.nd).1 (by rw [← e]; exact hE))]
    exact c⟩
theorem leaves_marks {F : Fence} {n : Nat} {P : Program} {fn : Func} {tmps : Array Value} {R : Ending → World → Prop} {lo hi : Nat} (Φ : World → Prop)
    (hΦ : ∀ W D, Φ W → lo ≤ D → W.heap[D]? = some (.deferred (some [])) → Φ (W.putObj D (.deferred none)))
    (hend : ∀ W, Φ W → LeavesIn F n P fn tmps R [] .returning W) : ∀ (Ds : List Nat) (W : World), Marks lo hi Ds W → Φ W → LeavesInM F n P fn tmps R (Ds.map mkD) .returning W
  | [], W, _, h => hend W h
  | D :: Ds, W, hm, h => by
    obtain ⟨h1, h2, h3⟩ := hm.at_ D (List.mem_cons_self ..)
    exact ⟨by simp, .inl ⟨D, _, rfl, run_takeDeferred h3, leaves_marks Φ hΦ hend Ds _ (hm.tail _) (hΦ W D h h1 h3)⟩⟩
theorem blk_not_row {W : World} {B : Nat} {t e : TypeId} {cs : Array Value} {fz : Nat × Nat} (h : W.heap[B]? = some (.cells cs t fz)) (hte : t ≠ e) {base size k : Nat} {v : Value} {xs : List Value} (hr : W.ownsRow base e size v k xs) : some B ≠ v.ownBlock := by
  rcases hr.2 with ⟨rfl, _⟩ | ⟨g, cap, cur, rfl, _, hgb, _⟩
  · simp [Value.ownBlock]
  · intro e'
    obtain rfl : B = g := by simpa [Value.ownBlock] using e'
    rw [h] at hgb; cases hgb; exact hte rfl
theorem blk_own (B : Nat) (t : TypeId) (cs : Array Value) (fz : Nat × Nat) : Own (β := List Int) (fun _ W => W.heap[B]? = some (.cells cs t fz)) := by
  rintro s X Y row hv hg hrow
  rw [hg.block B (Array.getElem?_eq_some_iff.1 hv).1 (fun e' => ?_)]
  · exact hv
  · obtain ⟨o, ho, hc⟩ := hrow B e'.symm
    rw [hv] at ho; cases ho; cases hc
/-- What stands between two rounds of Put's outer loop. -/
structure PuS (w : World) (gs : Nat) (cs : Array Value) (B : Nat) (L : List Int) (Ds : List Nat) (W : World) : Prop where
  out : ∃ v, Boxed W B 22 v ∧ W.ownsRow w.heap.size 5 1 v L.length (L.map (Value.int .u8)) ∧ True
  subs : W.heap[gs]? = some (.cells cs 24 (0, 0))
  b : Below w.heap.size w W
  m : Marks w.heap.size W.heap.size Ds W
/-- The octets of an OID. -/
def subsO (N : Nat) (xs : List Int) : List Int := (xs.getD 1 0 + 40 * xs.getD 0 0) :: (arcsO N xs).drop 2
def encO (N : Nat) (xs : List Int) : List Int := (subsO N xs).flatMap gl
set_option maxHeartbeats 4000000 in
theorem put_err (N : Nat) (xs : List Int) (w : World) (hx : xs.length = 16) (hr : chkO (N : Int) xs = 1) :
    Calls Tryd.prog 11 #[oidV (N : Int) xs] w fun e w' => e = .returned (.tuple #[.slice none 0 0, .int .i64 1]) ∧ Below w.heap.size w w' := by
  have CX := Lib.hid (fun W => check_any (N : Int) xs W hx (by omega))
  rw [hr] at CX
  have HX := Lib.hid hx
  have B0 := Lib.hid ((Below.refl w.heap.size w).alloc (Nat.le_refl _) (.cells (oidC (N : Int) xs) 27))
  have hB := Lib.hid (blk_new w (.cells (oidC (N : Int) xs) 27))
  go_enter Tryd.func11, Tryd.ntmps11
  go_wp2_with (first
    | ((with_reducible refine gate_dst (N := 10) rfl ?_); refine wpList_load_row rfl 27 _ rfl w.heap.size rfl 27 (oidC (N : Int) xs) (0, 0) _ hB.out Tryd.underlying27 rfl (oid_info _ _ HX.out) ?_)
    | (go_at_call 25; refine (CX.out _).mono ?_; rintro e w1 ⟨rfl, hb⟩; have B1 := Lib.hid (B0.out.trans (hb.mono B0.out.size)); clear hb))
  go_ret2
  exact ⟨rfl, B1.out⟩
theorem info24c : ∃ i0 : TypeInfo, Tryd.prog.info? 24 = some i0 ∧ i0.zero = some (.int .u32 0) ∧ i0.size = 1 ∧ i0.bytes = 4 := by
  have h := info24
  revert h
  cases Tryd.prog.info? 24 with
  | none => intro h; cases h
  | some i => intro h; simp only [Option.map_some, Option.some.injEq, Prod.mk.injEq] at h; exact ⟨i, rfl, h.1, h.2.1, h.2.2⟩
theorem size24 : ∀ w, (Go.sizeOf 24).run Tryd.prog w = .ok 1 w := fun w => by go_simp
/-- What Clone answers. -/
theorem clone_is (g off c : Nat) (l : List Int) (w : World) (hl0 : l ≠ []) (hl : l.length ≤ 1000) (hr : Kd.C (Kd.int .u32) w (some ⟨g, off, none⟩) l.length l) :
    Calls Tryd.prog 26 #[.slice (some ⟨g, off, none⟩) l.length c] w fun e w' => ∃ g' cap cur, e = .returned (.slice (some ⟨g', 0, none⟩) l.length cap) ∧ w.heap.size ≤ g' ∧ w'.heap[g']? = some (.cells cur 24 (0, 0)) ∧ l.length ≤ cap ∧ cap ≤ maxLen ∧ cur.size = cap ∧ cur.toList.take l.length = l.map (Value.int .u32) ∧ Below w.heap.size w w' := by
  obtain ⟨i0, hi, hz0, hz1, hz2⟩ := info24c
  have hrd := Kd.reads_of_C (enc := Value.int .u32) (d := (0 : Int)) (h1 := fun _ => rfl) hr
  have hc : ∀ j u, (l.map (Value.int .u32))[j]? = some u → w.cell? ⟨g, off + j, none⟩ = some u := fun j u hj => by
    have hj' : j < l.length := by
      by_cases hlt : j < l.length
      · exact hlt
      · rw [List.getElem?_eq_none (by simp; omega)] at hj; cases hj
    obtain ⟨a', ha', hc⟩ := hrd.at_ (j : Int) (by omega) (by omega)
    injection ha' with ha'
    subst ha'
    simp only [Int.toNat_natCast, Lib.add_plain] at hc
    rw [hc]
    rw [List.getElem?_map, List.getElem?_eq_getElem hj'] at hj
    rw [← hj]
    simp [rdOf, List.getD, List.getElem?_eq_getElem hj']
  refine (Tryd.slices_Clone i0 (.int .u32 0) 1 4 hi hz0 hz1 hz2 rfl (by decide) size24 g off l.length c (l.map (Value.int .u32)) w (by simp) (by unfold maxLen; omega) (by omega) hc (by simp [Value.oneCell'])).mono ?_
  rintro e w' ⟨v', rfl, ⟨hlen, h | ⟨g', cap, cur, rfl, hb, hh, hn, hm, hs, ht⟩⟩, hnil, hb'⟩
  · exact absurd (List.length_eq_zero_iff.mp h.2) hl0
  · refine ⟨g', cap, cur, rfl, hb, hh, hn, hm, by simpa using hs, ?_, hb'⟩
    rw [← ht, Nat.mul_one]
end Go.Proofs.YtacpcagijfacnaaDoor
