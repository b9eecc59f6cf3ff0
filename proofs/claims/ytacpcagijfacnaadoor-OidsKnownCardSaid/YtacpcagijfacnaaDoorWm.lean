/- Chapters 6, 7 (oids, oidsets): Has. -/
import Derived.Test.YtacpcagijfacnaaDoorWi
import Derived.Test.YtacpcagijfacnaaDoorWGuard
import Derived.Deep.RegionHeld3
import Derived.Test.YtacpcagijfacnaaDoorWd
import Derived.Outline
import Derived.Shelf.Strings.SlTrimAscii
namespace Go.Proofs.YtacpcagijfacnaaDoor
open Go.RowKit Go.Shelf
open Go.Proofs.YtacpcagijfacnaaDoorW.PrintWords (gate_guard rd Ev at_rounds gate_dst gate_store Kd.C_below Kd.C_of_reads Kd.reads_of_C ReadsOf.at_ rdOf blk_new blk_below blk_cell blk_alloc blk_lt blk_frozen blk_drew blk_set Kd.C Kd.int Kd.C_take)
set_option linter.unusedSimpArgs false
set_option linter.unusedVariables false
set_option maxRecDepth 50000
theorem eq_ev (A B : List Int) (hA : A.length ≤ 1000000) (hAB : A.length = B.length) : ∀ (d j : Nat), d = A.length - j → j ≤ A.length →
    Ev (fun k => Pr.slices_Equal_uint32_uint32.l0 k A B (A.length : Int) (j : Int)) (decide (A.drop j = B.drop j))
  | 0, j, hd, hj => by
    obtain rfl : j = A.length := by omega
    refine Ev.step (f := fun _ => some true) (fun k => ?_) ?_
    · rw [Pr.slices_Equal_uint32_uint32.l0, if_neg (by omega)]
    · rw [List.drop_length, List.drop_of_length_le (by omega)]; exact Ev.now _
  | d + 1, j, hd, hj => by
    have hlt : j < A.length := by omega
    have ih := eq_ev A B hA hAB d (j + 1) (by omega) (by omega)
    have hB : j < B.length := by omega
    rw [drop_at hlt, drop_at hB]
    have w1 : wrap64 ((j : Int) + 1) = ((j + 1 : Nat) : Int) := by unfold wrap64; omega
    have r1 : rd A (j : Int) = A.getD j 0 := by unfold rd; rw [Int.toNat_natCast]
    have r2 : rd B (j : Int) = B.getD j 0 := by unfold rd; rw [Int.toNat_natCast]
    generalize A.getD j 0 = a at *
    generalize B.getD j 0 = b at *
    by_cases h : a = b
    · subst h
      have e : decide (a :: A.drop (j + 1) = a :: B.drop (j + 1)) = decide (A.drop (j + 1) = B.drop (j + 1)) := by simp
      rw [e]
      refine Ev.step (fun k => ?_) ih
      rw [Pr.slices_Equal_uint32_uint32.l0, if_pos (by omega), if_pos (by omega), if_pos (by omega), if_pos (by omega), r1, r2, if_pos rfl, w1]
    · have e : decide (a :: A.drop (j + 1) = b :: B.drop (j + 1)) = false := by simp [h]
      rw [e]
      refine Ev.step (f := fun _ => some false) (fun k => ?_) (Ev.now _)
      rw [Pr.slices_Equal_uint32_uint32.l0, if_pos (by omega), if_pos (by omega), if_pos (by omega), if_pos (by omega), r1, r2, if_neg h]
theorem sequal_is (A0 A1 : Option Addr) (c0 c1 L0 L1 : Nat) (l0 l1 : List Int) (w : World) (e0 : l0.length = L0) (e1 : l1.length = L1) (h0 : l0.length ≤ 1000000) (hr0 : Kd.C (Kd.int .u32) w A0 l0.length l0) (hc0 : l0.length ≤ c0) (hr1 : Kd.C (Kd.int .u32) w A1 l1.length l1) (hc1 : l1.length ≤ c1) :
    Calls Tryd.prog 35 #[.slice A0 L0 c0, .slice A1 L1 c1] w fun e w' => e = .returned (.bool (decide (l0 = l1))) ∧ Below w.heap.size w w' := by
  subst e0 e1
  by_cases hl : l0.length = l1.length
  · obtain ⟨K, h⟩ := eq_ev l0 l1 h0 hl l0.length 0 rfl (by omega)
    exact (Pr.slices_Equal_uint32_uint32.calls K A0 c0 l0 A1 c1 l1 _ w hr0 hc0 hr1 hc1 (by have := h K (Nat.le_refl _); unfold Pr.slices_Equal_uint32_uint32.f; rw [if_pos (by omega)]; simpa using this)).mono fun e w' ⟨he, hd⟩ => ⟨he, drawn_below hd⟩
  · have e : decide (l0 = l1) = false := decide_eq_false fun h => hl (by rw [h])
    rw [e]
    exact (Pr.slices_Equal_uint32_uint32.calls 0 A0 c0 l0 A1 c1 l1 _ w hr0 hc0 hr1 hc1 (by unfold Pr.slices_Equal_uint32_uint32.f; rw [if_neg (by omega)])).mono fun e w' ⟨he, hd⟩ => ⟨he, drawn_below hd⟩
/-- Has, in plain data. -/
def hasO (N : Nat) (xs : List Int) (M : Nat) (ys : List Int) : Bool := decide (chkO (N : Int) xs = 0 ∧ chkO (M : Int) ys = 0 ∧ N < M ∧ arcsO N xs = (arcsO M ys).take N)
theorem chkO_n {N : Nat} {xs : List Int} (h : chkO (N : Int) xs = 0) : 2 ≤ N ∧ N ≤ 16 := by
  unfold chkO at h
  by_cases h1 : (N : Int) < 2
  · rw [if_pos h1] at h; cases h
  by_cases h2 : 16 < (N : Int)
  · rw [if_neg h1, if_pos h2] at h; cases h
  omega
theorem has_keep {N M : Nat} {xs ys : List Int} {w W W' : World} (h : W.cell? ⟨w.heap.size, 0, none⟩ = some (.int .u8 (N : Int)) ∧ Bx2 N xs M ys w W) (hb : Below W.heap.size W W') : W'.cell? ⟨w.heap.size, 0, none⟩ = some (.int .u8 (N : Int)) ∧ Bx2 N xs M ys w W' :=
  ⟨(oid_cells (h.2.next hb).x).1, h.2.next hb⟩
theorem arcs_x {N M : Nat} {xs ys : List Int} {w W : World} (hN : N < 256) (hx : xs.length = 16) (h : W.cell? ⟨w.heap.size, 0, none⟩ = some (.int .u8 (N : Int)) ∧ Bx2 N xs M ys w W) :
    Calls Tryd.prog 27 #[.pointer (some ⟨w.heap.size, 0, none⟩)] W fun e w' => e = .returned (.slice (some ⟨w.heap.size, 1, none⟩) (arcsO N xs).length 16) ∧ w'.cell? ⟨w.heap.size, 0, none⟩ = some (.int .u8 (N : Int)) ∧ Bx2 N xs M ys w w' :=
  (arcs_of w.heap.size N xs W h.1 hN hx).mono fun e w' ⟨h1, h2⟩ => ⟨h1, has_keep h h2⟩
theorem arcs_y {N M : Nat} {xs ys : List Int} {w W : World} (hM : M < 256) (hy : ys.length = 16) (h : W.cell? ⟨w.heap.size, 0, none⟩ = some (.int .u8 (N : Int)) ∧ Bx2 N xs M ys w W) :
    Calls Tryd.prog 27 #[.pointer (some ⟨w.heap.size + 1, 0, none⟩)] W fun e w' => e = .returned (.slice (some ⟨w.heap.size + 1, 1, none⟩) (arcsO M ys).length 16) ∧ w'.cell? ⟨w.heap.size, 0, none⟩ = some (.int .u8 (N : Int)) ∧ Bx2 N xs M ys w w' :=
  (arcs_of (w.heap.size + 1) M ys W (oid_cells h.2.y).1 hM hy).mono fun e w' ⟨h1, h2⟩ => ⟨h1, has_keep h h2⟩
set_option maxHeartbeats 4000000 in
theorem has_any (N : Nat) (xs : List Int) (M : Nat) (ys : List Int) (w : World) (hN : N < 256) (hM : M < 256) (hx : xs.length = 16) (hy : ys.length = 16) :
    Calls Tryd.prog 20 #[oidV (N : Int) xs, oidV (M : Int) ys] w fun e w' => e = .returned (.bool (hasO N xs M ys)) ∧ Below w.heap.size w w' := by
  generalize hres : hasO N xs M ys = r
  have HRES := Lib.hid hres
  have S := Lib.hid (Bx2.start N xs M ys w)
  have HX := Lib.hid hx
  have HY := Lib.hid hy
  have LX := Lib.hid (arcsO_len (N := N) hx)
  have LY := Lib.hid (arcsO_len (N := M) hy)
  have CX := Lib.hid (fun W => check_any (N : Int) xs W hx (by omega))
  have CY := Lib.hid (fun W => check_any (M : Int) ys W hy (by omega))
  clear hx hy hres
  by_cases h1 : chkO (N : Int) xs = 0
  case neg =>
    obtain rfl : r = false := by rw [← HRES.out]; unfold hasO; exact decide_eq_false fun h => h1 h.1
    have e1 := (chkO_01 (N : Int) xs).resolve_left h1
    rw [e1] at CX
    clear h1 e1
    go_enter Tryd.func20, Tryd.ntmps20
    go_wp2_with (first
      | ((with_reducible refine gate_dst (N := 5) rfl ?_); refine wpList_load_row rfl 27 _ rfl w.heap.size rfl 27 (oidC (N : Int) xs) (0, 0) _ S.out.x Tryd.underlying27 rfl (oid_info _ _ HX.out) ?_)
      | (go_at_call 25; refine (CX.out _).mono ?_; rintro e w1 ⟨rfl, hb⟩; have S1 := Lib.hid (S.out.next hb); clear hb))
    go_ret
    exact ⟨rfl, S1.out.b⟩
  case pos =>
  obtain ⟨n2, n16⟩ := chkO_n h1
  have H1 := Lib.hid h1
  rw [h1] at CX
  clear h1
  by_cases h2 : chkO (M : Int) ys = 0
  case neg =>
    obtain rfl : r = false := by rw [← HRES.out]; unfold hasO; exact decide_eq_false fun h => h2 h.2.1
    have e1 := (chkO_01 (M : Int) ys).resolve_left h2
    rw [e1] at CY
    clear h2 e1
    go_enter Tryd.func20, Tryd.ntmps20
    go_wp2_with (first
      | ((with_reducible refine gate_dst (N := 5) rfl ?_); refine wpList_load_row rfl 27 _ rfl w.heap.size rfl 27 (oidC (N : Int) xs) (0, 0) _ S.out.x Tryd.underlying27 rfl (oid_info _ _ HX.out) ?_)
      | ((with_reducible refine gate_dst (N := 9) rfl ?_); (try (refine gate_guard (by rfl) ?_; dsimp only)); refine wpList_load_row rfl 27 _ rfl (w.heap.size + 1) rfl 27 (oidC (M : Int) ys) (0, 0) _ S1.out.y Tryd.underlying27 rfl (oid_info _ _ HY.out) ?_)
      | (go_at_call 25; first
        | (with_reducible refine (CX.out _).mono ?_; rintro e w1 ⟨rfl, hb⟩; have S1 := Lib.hid (S.out.next hb); clear hb)
        | (with_reducible refine (CY.out _).mono ?_; rintro e w2 ⟨rfl, hb⟩; have S2 := Lib.hid (S1.out.next hb); clear hb)))
    go_ret
    exact ⟨rfl, S2.out.b⟩
  case pos =>
  obtain ⟨m2, m16⟩ := chkO_n h2
  have H2 := Lib.hid h2
  rw [h2] at CY
  clear h2
  by_cases h3 : N < M
  case neg =>
    obtain rfl : r = false := by rw [← HRES.out]; unfold hasO; exact decide_eq_false fun h => h3 h.2.2.1
    have h3' : ¬ (N : Int) < (M : Int) := by omega
    have h3'' : (M : Int) ≤ (N : Int) := by omega
    go_enter Tryd.func20, Tryd.ntmps20
    go_wp2_with (first
      | ((with_reducible refine gate_dst (N := 5) rfl ?_); refine wpList_load_row rfl 27 _ rfl w.heap.size rfl 27 (oidC (N : Int) xs) (0, 0) _ S.out.x Tryd.underlying27 rfl (oid_info _ _ HX.out) ?_)
      | ((with_reducible refine gate_dst (N := 9) rfl ?_); (try (refine gate_guard (by rfl) ?_; dsimp only)); refine wpList_load_row rfl 27 _ rfl (w.heap.size + 1) rfl 27 (oidC (M : Int) ys) (0, 0) _ S1.out.y Tryd.underlying27 rfl (oid_info _ _ HY.out) ?_)
      | (go_at_call 25; first
        | (with_reducible refine (CX.out _).mono ?_; rintro e w1 ⟨rfl, hb⟩; have S1 := Lib.hid (S.out.next hb); clear hb)
        | (with_reducible refine (CY.out _).mono ?_; rintro e w2 ⟨rfl, hb⟩; have S2 := Lib.hid (S1.out.next hb); clear hb; have c1 := (oid_cells S2.out.x).1; have c2 := (oid_cells S2.out.y).1)))
    go_ret
    exact ⟨rfl, S2.out.b⟩
  case pos =>
  have LX' : Hid ((arcsO N xs).length = N) := by have := LX.out; show _ = _; omega
  have LY' : Hid (((arcsO M ys).take N).length = N) := by have := LY.out; show _ = _; rw [List.length_take]; omega
  have e0 : r = decide (arcsO N xs = (arcsO M ys).take N) := by
    rw [← HRES.out]; unfold hasO
    rw [H1.out, H2.out]
    simp [h3]
  have E0 := Lib.hid e0
  clear e0 HRES
  have h3' : (N : Int) < (M : Int) := by omega
  have h3'' : ¬ (M : Int) ≤ (N : Int) := by omega
  have hN0 : ¬ (N : Int) < 0 := by omega
  have n16q : (N : Int) ≤ 16 := by omega
  have n16z : (0 : Int) ≤ (N : Int) := by omega
  obtain ⟨LA, hLA⟩ : ∃ LA, (arcsO M ys).length = LA := ⟨_, rfl⟩
  have HLA := Lib.hid hLA
  go_enter Tryd.func20, Tryd.ntmps20
  go_upto_region 3 with (first
    | ((with_reducible refine gate_dst (N := 5) rfl ?_); refine wpList_load_row rfl 27 _ rfl w.heap.size rfl 27 (oidC (N : Int) xs) (0, 0) _ S.out.x Tryd.underlying27 rfl (oid_info _ _ HX.out) ?_)
    | ((with_reducible refine gate_dst (N := 9) rfl ?_); (try (refine gate_guard (by rfl) ?_; dsimp only)); refine wpList_load_row rfl 27 _ rfl (w.heap.size + 1) rfl 27 (oidC (M : Int) ys) (0, 0) _ S1.out.y Tryd.underlying27 rfl (oid_info _ _ HY.out) ?_)
    | (go_at_call 25; first
      | (with_reducible refine (CX.out _).mono ?_; rintro e w1 ⟨rfl, hb⟩; have S1 := Lib.hid (S.out.next hb); clear hb)
      | (with_reducible refine (CY.out _).mono ?_; rintro e w2 ⟨rfl, hb⟩; have S2 := Lib.hid (S1.out.next hb); clear hb; have c1 := (oid_cells S2.out.x).1; have c2 := (oid_cells S2.out.y).1)))
  have hS : w2.cell? ⟨w.heap.size, 0, none⟩ = some (.int .u8 (N : Int)) ∧ Bx2 N xs M ys w w2 := ⟨c1, S2.out⟩
  have hS' := has_keep hS ((Below.refl _ _).drew)
  have HA := Lib.hid (fun W hW => arcs_x (N := N) (xs := xs) (M := M) (ys := ys) (w := w) (W := W) hN HX.out hW)
  have HB := Lib.hid (fun W hW => arcs_y (N := N) (xs := xs) (M := M) (ys := ys) (w := w) (W := W) hM HY.out hW)
  rw [HLA.out] at HB
  rw [LX'.out] at HA
  have HE : Hid (∀ W, (W.cell? ⟨w.heap.size, 0, none⟩ = some (.int .u8 (N : Int)) ∧ Bx2 N xs M ys w W) → Calls Tryd.prog 35 #[.slice (some ⟨w.heap.size, 1, none⟩) N 16, .slice (some ⟨w.heap.size + 1, 1, none⟩) N 16] W fun e w' => e = .returned (.bool (decide (arcsO N xs = (arcsO M ys).take N))) ∧ w'.cell? ⟨w.heap.size, 0, none⟩ = some (.int .u8 (N : Int)) ∧ Bx2 N xs M ys w w') := fun W hW =>
    (sequal_is _ _ 16 16 _ _ (arcsO N xs) ((arcsO M ys).take N) _ LX'.out LY'.out (by rw [LX'.out]; omega) (oid_src HX.out hW.2.x) (by rw [LX'.out]; omega) (by exact Kd.C_take (oid_src (N := M) HY.out hW.2.y) (by have := LY.out; omega)) (by rw [LY'.out]; omega)).mono fun e w' ⟨h1, h2⟩ => ⟨h1, has_keep hW h2⟩
  go_region_held3 (fun W => W.cell? ⟨w.heap.size, 0, none⟩ = some (.int .u8 (N : Int)) ∧ Bx2 N xs M ys w W)
    (first | assumption | exact has_keep (by assumption) (by assumption))
    (first
      | (go_at_call 27; first
          | ((with_reducible refine (HA.out _ (by assumption)).mono ?_); rintro e w' ⟨rfl, hk⟩)
          | ((with_reducible refine (HB.out _ (by assumption)).mono ?_); rintro e w' ⟨rfl, hk⟩))
      | (go_at_call 35; ((with_reducible refine (HE.out _ (by assumption)).mono ?_); rintro e w' ⟨rfl, hk⟩)))
  all_goals
    go_wp2
    go_ret
    exact ⟨congrArg (fun b => Ending.returned (.bool b)) E0.out.symm, hk.2.b⟩
end Go.Proofs.YtacpcagijfacnaaDoor
namespace Go.Proofs.YtacpcagijfacnaaDoor
open Go.RowKit Go.Shelf
open Go.Proofs.YtacpcagijfacnaaDoorW.PrintWords (rd Ev gate_dst gate_store Kd.C_below Kd.C_of_reads Kd.reads_of_C ReadsOf.at_ rdOf blk_new blk_below blk_cell blk_alloc blk_lt blk_frozen blk_drew blk_set Kd.C Kd.int)
attribute [local go_sem] Oper.semAt_some
set_option linter.unusedSimpArgs false
set_option linter.unusedVariables false
set_option maxRecDepth 50000
theorem clip_any (g n c : Nat) (hn : n ≤ c) (_hc : n ≤ 1000000) (w : World) : Calls Tryd.prog 29 #[.slice (some ⟨g, 0, none⟩) n c] w fun e w' => e = .returned (.slice (some ⟨g, 0, none⟩) n n) ∧ w' = w := by
  go_enter Tryd.func29, Tryd.ntmps29
  go_wp2
  go_ret
  exact ⟨rfl, rfl⟩
/-- Whole numbers as bytes in a block. -/
def Octs (w : World) (g : Nat) (l : List Int) : Prop := ∀ i, i < l.length → w.cell? ⟨g, i, none⟩ = some (.int .u8 (l.getD i 0))
def PutP (l : List Int) (w : World) (e : Ending) (w' : World) : Prop := ∃ g : Nat, e = .returned (.tuple #[.slice (some ⟨g, 0, none⟩) l.length l.length, .int .i64 0]) ∧ w.heap.size ≤ g ∧ Octs w' g l ∧ Below w.heap.size w w'
theorem infoB : (Tryd.prog.info? 5).map (fun i => (i.zero, i.size, i.bytes)) = some (some (.int .u8 0), 1, 1) := by kernel_rfl
theorem octs_row {W : World} {g n c base : Nat} {l : List Int} (h : W.ownsRow base 5 1 (.slice (some ⟨g, 0, none⟩) n c) n (l.map (Value.int .u8))) : base ≤ g ∧ n ≤ c ∧ n = l.length ∧ Octs W g l := by
  obtain ⟨hl, h | ⟨g', cap, cur, hv, hb, hh, hn, _, hs, ht⟩⟩ := h
  · cases h.1
  · injection hv with hp _ hc
    injection hp with hp
    injection hp with hg
    subst hg hc
    have hl' : n = l.length := by simpa using hl.symm
    refine ⟨hb, hn, hl', fun i hi => ?_⟩
    rw [blk_cell hh i]
    have e : (cur.toList.take (n * 1))[i]? = some (.int .u8 (l.getD i 0)) := by
      rw [ht, List.getElem?_map, List.getElem?_eq_getElem hi, List.getD, List.getElem?_eq_getElem hi]; rfl
    rw [List.getElem?_take, if_pos (by omega)] at e
    simpa using e
/-! The marks of loops over a function that have run. -/
def mkD (D : Nat) : Deferred := { target := .collected D, args := #[] }
structure Marks (lo hi : Nat) (Ds : List Nat) (W : World) : Prop where
  nd : Ds.Nodup
  at_ : ∀ D ∈ Ds, lo ≤ D ∧ D < hi ∧ W.heap[D]? = some (.deferred (some []))
theorem Marks.nil (lo hi : Nat) (W : World) : Marks lo hi [] W := ⟨List.nodup_nil, fun _ h => by cases h⟩
theorem Marks.others {lo hi : Nat} {Ds : List Nat} {W W' : World} (h : Marks lo hi Ds W) (k : KeepsOthers W W') : Marks lo hi Ds W' := ⟨h.nd, fun D hD => ⟨(h.at_ D hD).1, (h.at_ D hD).2.1, k.same D _ (h.at_ D hD).2.2 rfl⟩⟩
theorem Marks.own {lo hi B : Nat} {Ds : List Nat} (hB : hi ≤ B) : OwnFrom (β := List Int) B (fun _ W => Marks lo hi Ds W) := fun s W W' row h hg hr =>
  ⟨h.nd, fun D hD => by
    obtain ⟨h1, h2, h3⟩ := h.at_ D hD
    refine ⟨h1, h2, ?_⟩
    rw [hg.block D (Array.getElem?_eq_some_iff.1 h3).1 (fun e => by have := (hr D e.symm).1; omega)]
    exact h3⟩
theorem Marks.cons {lo hi hi' D : Nat} {Ds : List Nat} {W : World} (h : Marks lo hi Ds W) (h1 : hi ≤ D) (h2 : D < hi') (hlo : lo ≤ hi) (hD : W.heap[D]? = some (.deferred (some []))) : Marks lo hi' (D :: Ds) W :=
  ⟨List.nodup_cons.mpr ⟨fun hm => by have := (h.at_ D hm).2.1; omega, h.nd⟩, fun E hE => by
    rcases List.mem_cons.mp hE with rfl | hE
    · exact ⟨by omega, h2, hD⟩
    · obtain ⟨a, b, c⟩ := h.at_ E hE
      exact ⟨a, by omega, c⟩⟩
theorem Marks.tail {lo hi D : Nat} {Ds : List Nat} {W : World} (h : Marks lo hi (D :: Ds) W) (o : Obj) : Marks lo hi Ds (W.putObj D o) :=
  ⟨(List.nodup_cons.mp h.nd).2, fun E hE => by
    obtain ⟨a, b, c⟩ := h.at_ E (List.mem_cons_of_mem _ hE)
    refine ⟨a, b, ?_⟩
    rw [World.putObj_heap_other (fun e => (List.nodup_cons.mp h.nd).1 (by rw [← e]; exact hE))]
    exact c⟩
theorem leaves_marks {F : Fence} {n : Nat} {P : Program} {fn : Func} {tmps : Array Value} {R : Ending → World → Prop} {lo hi : Nat} (Φ : World → Prop)
    (hΦ : ∀ W D, Φ W → lo ≤ D → W.heap[D]? = some (.deferred (some [])) → Φ (W.putObj D (.deferred none)))
    (hend : ∀ W, Φ W → LeavesIn F n P fn tmps R [] .returning W) : ∀ (Ds : List Nat) (W : World), Marks lo hi Ds W → Φ W → LeavesInM F n P fn tmps R (Ds.map mkD) .returning W
  | [], W, _, h => hend W h
  | D :: Ds, W, hm, h => by
    obtain ⟨h1, h2, h3⟩ := hm.at_ D (List.mem_cons_self ..)
    exact ⟨by simp, .inl ⟨D, _, rfl, run_takeDeferred h3, leaves_marks Φ hΦ hend Ds _ (hm.tail _) (hΦ W D h h1 h3)⟩⟩
theorem blk_not_row {W : World} {B : Nat} {t e : TypeId} {cs : Array Value} {fz : Nat × Nat} (h : W.heap[B]? = some (.cells cs t fz)) (hte : t ≠ e) {base size k : Nat} {v : Value} {xs : List Value} (hr : W.ownsRow base e size v k xs) : some B ≠ v.ownBlock := by
  rcases hr.2 with ⟨rfl, _⟩ | ⟨g, cap, cur, rfl, _, hgb, _⟩
  · simp [Value.ownBlock]
  · intro e'
    obtain rfl : B = g := by simpa [Value.ownBlock] using e'
    rw [h] at hgb; cases hgb; exact hte rfl
theorem blk_own (B : Nat) (t : TypeId) (cs : Array Value) (fz : Nat × Nat) : Own (β := List Int) (fun _ W => W.heap[B]? = some (.cells cs t fz)) := by
  rintro s X Y row hv hg hrow
  rw [hg.block B (Array.getElem?_eq_some_iff.1 hv).1 (fun e' => ?_)]
  · exact hv
  · obtain ⟨o, ho, hc⟩ := hrow B e'.symm
    rw [hv] at ho; cases ho; cases hc
/-- What stands between two rounds of Put's outer loop. -/
structure PuS (w : World) (gs : Nat) (cs : Array Value) (B : Nat) (L : List Int) (Ds : List Nat) (W : World) : Prop where
  out : ∃ v, Boxed W B 22 v ∧ W.ownsRow w.heap.size 5 1 v L.length (L.map (Value.int .u8)) ∧ True
  subs : W.heap[gs]? = some (.cells cs 24 (0, 0))
  b : Below w.heap.size w W
  m : Marks w.heap.size W.heap.size Ds W
/-- The octets of an OID. -/
def subsO (N : Nat) (xs : List Int) : List Int := (xs.getD 1 0 + 40 * xs.getD 0 0) :: (arcsO N xs).drop 2
def encO (N : Nat) (xs : List Int) : List Int := (subsO N xs).flatMap gl
set_option maxHeartbeats 4000000 in
theorem put_err (N : Nat) (xs : List Int) (w : World) (hx : xs.length = 16) (hr : chkO (N : Int) xs = 1) :
    Calls Tryd.prog 11 #[oidV (N : Int) xs] w fun e w' => e = .returned (.tuple #[.slice none 0 0, .int .i64 1]) ∧ Below w.heap.size w w' := by
  have CX := Lib.hid (fun W => check_any (N : Int) xs W hx (by omega))
  rw [hr] at CX
  have HX := Lib.hid hx
  have B0 := Lib.hid ((Below.refl w.heap.size w).alloc (Nat.le_refl _) (.cells (oidC (N : Int) xs) 27))
  have hB := Lib.hid (blk_new w (.cells (oidC (N : Int) xs) 27))
  go_enter Tryd.func11, Tryd.ntmps11
  go_wp2_with (first
    | ((with_reducible refine gate_dst (N := 10) rfl ?_); refine wpList_load_row rfl 27 _ rfl w.heap.size rfl 27 (oidC (N : Int) xs) (0, 0) _ hB.out Tryd.underlying27 rfl (oid_info _ _ HX.out) ?_)
    | (go_at_call 25; refine (CX.out _).mono ?_; rintro e w1 ⟨rfl, hb⟩; have B1 := Lib.hid (B0.out.trans (hb.mono B0.out.size)); clear hb))
  go_ret2
  exact ⟨rfl, B1.out⟩
theorem info24c : ∃ i0 : TypeInfo, Tryd.prog.info? 24 = some i0 ∧ i0.zero = some (.int .u32 0) ∧ i0.size = 1 ∧ i0.bytes = 4 := by
  have h := info24
  revert h
  cases Tryd.prog.info? 24 with
  | none => intro h; cases h
  | some i => intro h; simp only [Option.map_some, Option.some.injEq, Prod.mk.injEq] at h; exact ⟨i, rfl, h.1, h.2.1, h.2.2⟩
theorem size24 : ∀ w, (Go.sizeOf 24).run Tryd.prog w = .ok 1 w := fun w => by go_simp
/-- What Clone answers. -/
theorem clone_is (g off c : Nat) (l : List Int) (w : World) (hl0 : l ≠ []) (hl : l.length ≤ 1000) (hr : Kd.C (Kd.int .u32) w (some ⟨g, off, none⟩) l.length l) :
    Calls Tryd.prog 26 #[.slice (some ⟨g, off, none⟩) l.length c] w fun e w' => ∃ g' cap cur, e = .returned (.slice (some ⟨g', 0, none⟩) l.length cap) ∧ w.heap.size ≤ g' ∧ w'.heap[g']? = some (.cells cur 24 (0, 0)) ∧ l.length ≤ cap ∧ cap ≤ maxLen ∧ cur.size = cap ∧ cur.toList.take l.length = l.map (Value.int .u32) ∧ Below w.heap.size w w' := by
  obtain ⟨i0, hi, hz0, hz1, hz2⟩ := info24c
  have hrd := Kd.reads_of_C (enc := Value.int .u32) (d := (0 : Int)) (h1 := fun _ => rfl) hr
  have hc : ∀ j u, (l.map (Value.int .u32))[j]? = some u → w.cell? ⟨g, off + j, none⟩ = some u := fun j u hj => by
    have hj' : j < l.length := by
      by_cases hlt : j < l.length
      · exact hlt
      · rw [List.getElem?_eq_none (by simp; omega)] at hj; cases hj
    obtain ⟨a', ha', hc⟩ := hrd.at_ (j : Int) (by omega) (by omega)
    injection ha' with ha'
    subst ha'
    simp only [Int.toNat_natCast, Lib.add_plain] at hc
    rw [hc]
    rw [List.getElem?_map, List.getElem?_eq_getElem hj'] at hj
    rw [← hj]
    simp [rdOf, List.getD, List.getElem?_eq_getElem hj']
  refine (Tryd.slices_Clone i0 (.int .u32 0) 1 4 hi hz0 hz1 hz2 rfl (by decide) size24 g off l.length c (l.map (Value.int .u32)) w (by simp) (by unfold maxLen; omega) (by omega) hc (by simp [Value.oneCell'])).mono ?_
  rintro e w' ⟨v', rfl, ⟨hlen, h | ⟨g', cap, cur, rfl, hb, hh, hn, hm, hs, ht⟩⟩, hnil, hb'⟩
  · exact absurd (List.length_eq_zero_iff.mp h.2) hl0
  · refine ⟨g', cap, cur, rfl, hb, hh, hn, hm, by simpa using hs, ?_, hb'⟩
    rw [← ht, Nat.mul_one]
end Go.Proofs.YtacpcagijfacnaaDoor
namespace Go.Proofs.YtacpcagijfacnaaDoor
open Go.RowKit Go.Shelf
open Go.Proofs.YtacpcagijfacnaaDoorW.PrintWords (rd Ev gate_dst gate_store Kd.C_below Kd.C_of_reads Kd.reads_of_C ReadsOf.at_ rdOf blk_new blk_below blk_cell blk_alloc blk_lt blk_frozen blk_drew blk_set Kd.C Kd.int)
attribute [local go_sem] Oper.semAt_some
set_option linter.unusedSimpArgs false
set_option linter.unusedVariables false
set_option maxRecDepth 50000
theorem chkO_ok {n : Int} {xs : List Int} (h : chkO n xs = 0) : xs.getD 0 0 ≤ 2 ∧ (xs.getD 0 0 < 2 → xs.getD 1 0 ≤ 39) ∧ xs.getD 1 0 ≤ 4294967215 := by
  unfold chkO at h
  by_cases h1 : n < 2
  · rw [if_pos h1] at h; cases h
  by_cases h2 : 16 < n
  · rw [if_neg h1, if_pos h2] at h; cases h
  rw [if_neg h1, if_neg h2] at h
  by_cases h3 : 2 < xs.getD 0 0
  · rw [if_pos h3] at h; cases h
  rw [if_neg h3] at h
  by_cases h4 : xs.getD 0 0 < 2 ∧ 39 < xs.getD 1 0
  · rw [if_pos h4] at h; cases h
  rw [if_neg h4] at h
  by_cases h5 : 4294967215 < xs.getD 1 0
  · rw [if_pos h5] at h; cases h
  exact ⟨by omega, fun h6 => by by_cases h7 : 39 < xs.getD 1 0; · exact absurd ⟨h6, h7⟩ h4
                                · omega, by omega⟩
/-- Each arc is a uint32. -/
def U32 (xs : List Int) : Prop := ∀ x ∈ xs, 0 ≤ x ∧ x < 4294967296
theorem U32.getD {xs : List Int} (h : U32 xs) (i : Nat) : 0 ≤ xs.getD i 0 ∧ xs.getD i 0 < 4294967296 := by
  rw [List.getD_eq_getElem?_getD]
  rcases Nat.lt_or_ge i xs.length with h1 | h1
  · rw [List.getElem?_eq_getElem h1]; exact h _ (List.getElem_mem h1)
  · rw [List.getElem?_eq_none h1]; exact ⟨by simp, by simp⟩
theorem clone_len (g off c : Nat) (l : List Int) (L : Nat) (w : World) (hL : l.length = L) (hl0 : L ≠ 0) (hl : L ≤ 1000) (hr : Kd.C (Kd.int .u32) w (some ⟨g, off, none⟩) l.length l) :
    Calls Tryd.prog 26 #[.slice (some ⟨g, off, none⟩) L c] w fun e w' => ∃ g' cap cur, e = .returned (.slice (some ⟨g', 0, none⟩) L cap) ∧ w.heap.size ≤ g' ∧ w'.heap[g']? = some (.cells cur 24 (0, 0)) ∧ L ≤ cap ∧ cap ≤ maxLen ∧ cur.size = cap ∧ cur.toList.take L = l.map (Value.int .u32) ∧ Below w.heap.size w w' := by
  subst hL
  exact clone_is g off c l w (fun h => hl0 (by rw [h]; rfl)) hl hr
/-- What stands between two rounds of the inner loop. -/
structure PuI (w : World) (gs : Nat) (cs : Array Value) (B : Nat) (L : List Int) (hi : Nat) (Ds : List Nat) (Bn : Nat) (s : Int) (pre : List Int) (W : World) : Prop where
  out : ∃ v, Boxed W B 22 v ∧ W.ownsRow w.heap.size 5 1 v (L.length + pre.length) ((L ++ pre).map (Value.int .u8)) ∧ True
  subs : W.heap[gs]? = some (.cells cs 24 (0, 0))
  b : Below w.heap.size w W
  m : Marks w.heap.size hi Ds W
  n : Boxed W Bn 24 (.int .u32 s)
theorem PuI.own (w : World) (gs : Nat) (cs : Array Value) (B : Nat) (L : List Int) (hi : Nat) (Ds : List Nat) (Bn : Nat) (s : Int) (C : Nat) (h1 : hi ≤ C) (h2 : w.heap.size ≤ C) : OwnFrom C (PuI w gs cs B L hi Ds Bn s) := by
  intro pre W W' row h hg hr
  exact ⟨(holdsRow_own w.heap.size B 22 5 1 (fun pre : List Int => L.length + pre.length) (fun pre => (L ++ pre).map (Value.int .u8)) (fun _ _ => True)).from C pre W W' row h.out hg hr,
    (blk_own gs 24 cs (0, 0)).from C pre W W' row h.subs hg hr, (ownFrom_below (β := List Int) (Nat.le_refl _) h2) pre W W' row h.b hg hr, Marks.own h1 pre W W' row h.m hg hr,
    (blk_own Bn 24 #[.int .u32 s] (0, 0)).from C pre W W' row h.n hg hr⟩
theorem PuI.step {w : World} {gs : Nat} {cs : Array Value} {B : Nat} {L : List Int} {hi : Nat} {Ds : List Nat} {Bn : Nat} {s : Int} {pre : List Int} {W : World} (h : PuI w gs cs B L hi Ds Bn s pre W) {v v' : Value} {x : Int} {tmp : Obj} {w2 : World}
    (hv : Boxed W B 22 v) (hrow : W.ownsRow w.heap.size 5 1 v (L.length + pre.length) ((L ++ pre).map (Value.int .u8))) (hB : w.heap.size ≤ B)
    (hown' : w2.ownsRow w.heap.size 5 1 v' (L.length + pre.length + 1) ((L ++ pre).map (Value.int .u8) ++ [.int .u8 x])) (hgrow : (W.alloc tmp).grownBy w2 v.ownBlock) :
    Boxed w2 B 22 v ∧ KeepsOthers W (w2.setCell ⟨B, 0, none⟩ v') ∧ KeepC Bn W (w2.setCell ⟨B, 0, none⟩ v') ∧ PuI w gs cs B L hi Ds Bn s (pre ++ [x]) (w2.setCell ⟨B, 0, none⟩ v') := by
  obtain ⟨hv1, hv2, hr2, hk2, hb2⟩ := hv.appended (by decide) hrow h.b.size hB hown' hgrow
  have keep : ∀ (g : Nat) (t : TypeId) (c : Array Value) (fz : Nat × Nat), t ≠ 5 → t ≠ 22 → W.heap[g]? = some (.cells c t fz) → (w2.setCell ⟨B, 0, none⟩ v').heap[g]? = some (.cells c t fz) := fun g t c fz ht ht2 hg => by
    have hne : g ≠ B := fun e => by subst e; rw [show W.heap[g]? = _ from hv] at hg; cases hg; exact ht2 rfl
    rw [Below.heap_setCell _ _ _ _ (by exact hne)]
    have h1 : (W.alloc tmp).heap[g]? = some (.cells c t fz) := by rw [Below.heap_alloc W tmp g (Array.getElem?_eq_some_iff.1 hg).1]; exact hg
    rw [hgrow.block g (Array.getElem?_eq_some_iff.1 h1).1 (blk_not_row hg ht hrow)]
    exact h1
  have hn2 := keep Bn 24 _ _ (by decide) (by decide) h.n
  refine ⟨hv1, hk2, fun u hu => ?_, ⟨_, hv2, ?_, trivial⟩, keep gs 24 _ _ (by decide) (by decide) h.subs, h.b.trans hb2, h.m.others hk2, hn2⟩
  · rw [h.n.cell] at hu
    rw [← hu]; exact blk_cell hn2 0
  · have e : (L ++ (pre ++ [x])).map (Value.int .u8) = (L ++ pre).map (Value.int .u8) ++ [.int .u8 x] := by simp
    rw [e, List.length_append, List.length_singleton, ← Nat.add_assoc]
    exact hr2
theorem flat_len (S : List Int) : (S.flatMap gl).length ≤ 5 * S.length := by
  induction S with
  | nil => simp
  | cons a r ih => rw [List.flatMap_cons, List.length_append, List.length_cons]; have := (gl_len a).2; omega
theorem flat_take {S : List Int} {j : Nat} (h : j < S.length) : (S.take (j + 1)).flatMap gl = (S.take j).flatMap gl ++ gl (S.getD j 0) := by
  rw [List.take_add_one, List.getElem?_eq_getElem h, Option.toList_some, List.flatMap_append, List.getD_eq_getElem?_getD, List.getElem?_eq_getElem h, Option.getD_some]
  simp
set_option maxHeartbeats 4000000 in
theorem put_ok (N : Nat) (xs : List Int) (w : World) (hN : N < 256) (hx : xs.length = 16) (hu : U32 xs) (h0 : chkO (N : Int) xs = 0) :
    Calls Tryd.prog 11 #[oidV (N : Int) xs] w (PutP (encO N xs) w) := by
  have CX := Lib.hid (fun W => check_any (N : Int) xs W hx (by omega))
  rw [h0] at CX
  obtain ⟨n2, n16⟩ := chkO_n h0
  obtain ⟨k1, k2, k3⟩ := chkO_ok h0
  have u0 := hu.getD 0
  have u1 := hu.getD 1
  have HU := Lib.hid hu
  have HX := Lib.hid hx
  have LX : Hid ((arcsO N xs).length = N) := by have := arcsO_len (N := N) hx; show _ = _; omega
  have B0 := Lib.hid ((Below.refl w.heap.size w).alloc (Nat.le_refl _) (.cells (oidC (N : Int) xs) 27))
  have hB := Lib.hid (blk_new w (.cells (oidC (N : Int) xs) 27))
  have hsub : ∀ i, i < N → (arcsO N xs).getD i 0 = xs.getD i 0 := fun i hi => by
    unfold arcsO
    rw [List.getD_eq_getElem?_getD, List.getD_eq_getElem?_getD, List.getElem?_take, if_pos (by omega)]
  have HSUB := Lib.hid hsub
  clear hsub hx hu h0
  generalize ha0 : xs.getD 0 0 = a0 at *
  generalize ha1 : xs.getD 1 0 = a1 at *
  have HA0 := Lib.hid ha0
  have HA1 := Lib.hid ha1
  clear ha0 ha1
  have q1 : 40 * a0 % 4294967296 = 40 * a0 := by omega
  have q2 : (a1 + 40 * a0) % 4294967296 = a1 + 40 * a0 := by omega
  have q3 : (1 : Int) ≤ (N : Int) := by omega
  refine callsIn_wide.1 (callsIn_of_wp_marks (n := 3) Tryd.func11 rfl trivial ?_ rfl)
  simp only [Tryd.ntmps11, List.size_toArray, List.length_cons, List.length_nil, Nat.reduceAdd, Nat.reduceSub, Array.replicate_succ, Array.replicate_zero, List.push_toArray, List.append_toArray, List.nil_append, List.cons_append]
  refine wpIn_wide.2 ?_
  go_upto_region 4 with (first
    | ((with_reducible refine gate_dst (N := 10) rfl ?_); refine wpList_load_row rfl 27 _ rfl w.heap.size rfl 27 (oidC (N : Int) xs) (0, 0) _ hB.out Tryd.underlying27 rfl (oid_info _ _ HX.out) ?_)
    | (go_at_call 25; refine (CX.out _).mono ?_; rintro e w1 ⟨rfl, hb⟩; have B1 := Lib.hid (B0.out.trans (hb.mono B0.out.size)); have hB1 := Lib.hid (blk_below hB.out hb); clear hb))
  have B2 : Hid (Below w.heap.size w (w1.alloc (.cells #[.slice none 0 0] 22))) := B1.out.alloc B1.out.size _
  have hO2 := Lib.hid (blk_new w1 (.cells #[.slice none 0 0] 22))
  have hB2 : Hid ((w1.alloc (.cells #[.slice none 0 0] 22)).heap[w.heap.size]? = some (.cells (oidC (N : Int) xs) 27 (0, 0))) := blk_alloc hB1.out _
  have hwlt : w.heap.size ≤ w1.heap.size := B1.out.size
  go_upto_region 6 with (first
    | (go_at_call 27; refine (arcs_of w.heap.size N xs _ (oid_cells hB2.out).1 hN HX.out).mono ?_; rintro e w3 ⟨rfl, hb⟩; have B3 := Lib.hid (B2.out.trans (hb.mono B2.out.size)); have hB3 := Lib.hid (blk_below hB2.out hb); have hO3 := Lib.hid (blk_below hO2.out hb); clear hb; rw [LX.out])
    | (go_at_call 26; refine (clone_len w.heap.size 1 16 (arcsO N xs) N _ LX.out (by omega) (by omega) (oid_src HX.out hB3.out)).mono ?_; rintro e w4 ⟨g, cap, cur, rfl, hg, hcur, hc1, hc2, hc3, hc4, hb⟩; have B4 := Lib.hid (B3.out.trans (hb.mono B3.out.size)); have hB4 := Lib.hid (blk_below hB3.out hb); have hO4 := Lib.hid (blk_below hO3.out hb); clear hb; have hgw : w1.heap.size < g := Nat.lt_of_lt_of_le (blk_lt hO3.out) hg; have hcapI : (N : Int) ≤ (cap : Int) := (by omega)))
  have hcurI : ∀ i, i < N → cur[i]? = some (.int .u32 (xs.getD i 0)) := fun i hi => by
    have e : (cur.toList.take N)[i]? = some (.int .u32 (xs.getD i 0)) := by
      rw [hc4, List.getElem?_map, List.getElem?_eq_getElem (by rw [LX.out]; exact hi), Option.map_some, ← HSUB.out i hi, List.getD_eq_getElem?_getD, List.getElem?_eq_getElem (by rw [LX.out]; exact hi), Option.getD_some]
    rw [List.getElem?_take, if_pos hi] at e
    simpa using e
  have HC := Lib.hid hcurI
  have HCUR := Lib.hid hcur
  have HC2 := Lib.hid hc2
  have cs1 : w4.cell? ⟨g, 1, none⟩ = some (.int .u32 a1) := by rw [blk_cell hcur 1, hcurI 1 (by omega), HA1.out]
  have fs1 : w4.frozen? ⟨g, 1, none⟩ = false := blk_frozen hcur 1
  have ca0 : w4.cell? ⟨w.heap.size, 1, none⟩ = some (.int .u32 a0) := by rw [← HA0.out]; exact (oid_cells hB4.out).2 0 (by rw [HX.out]; omega)
  clear hcurI hcur hc2 hc4 hc3 hg
  obtain ⟨M, hM⟩ : ∃ M, N - 1 = M := ⟨_, rfl⟩
  rw [hM]
  have hM1 : (0 : Int) < (M : Int) := by omega
  have hM0 : (0 : Int) ≤ (M : Int) := by omega
  go_region
  have hcsI : ∀ i, i < M → (cur.setIfInBounds 1 (.int .u32 (a1 + 40 * a0)))[1 + i]? = some (.int .u32 ((subsO N xs).getD i 0)) := fun i hi => by
    by_cases hi0 : i = 0
    · subst hi0
      have := HC.out 1 (by omega)
      have hsz : 1 < cur.size := (Array.getElem?_eq_some_iff.1 this).1
      rw [Nat.add_zero, Array.getElem?_setIfInBounds_self_of_lt hsz]
      unfold subsO
      rw [HA0.out, HA1.out]; rfl
    · rw [Array.getElem?_setIfInBounds_ne (by omega), HC.out (1 + i) (by omega)]
      unfold subsO
      obtain ⟨k, rfl⟩ : ∃ k, i = k + 1 := ⟨i - 1, by omega⟩
      have e2 : ((arcsO N xs).drop 2).getD k 0 = xs.getD (2 + k) 0 := by rw [List.getD_eq_getElem?_getD, List.getElem?_drop, ← List.getD_eq_getElem?_getD, HSUB.out (2 + k) (by omega)]
      rw [List.getD_cons_succ, e2, show 1 + (k + 1) = 2 + k by omega]
  have CSI := Lib.hid hcsI
  have hSL : (subsO N xs).length = M := by
    unfold subsO; rw [List.length_cons, List.length_drop, LX.out]; omega
  have SL := Lib.hid hSL
  have hSb : ∀ i, 0 ≤ (subsO N xs).getD i 0 ∧ (subsO N xs).getD i 0 < 4294967296 := fun i => by
    unfold subsO
    cases i with
    | zero => rw [List.getD_cons_zero, HA0.out, HA1.out]; omega
    | succ k =>
      rw [List.getD_cons_succ]
      refine U32.getD (xs := (arcsO N xs).drop 2) (fun x hx => ?_) k
      exact HU.out x (List.mem_of_mem_take (List.mem_of_mem_drop hx))
  have SB := Lib.hid hSb
  have P0 : Hid (PuS w g (cur.setIfInBounds 1 (.int .u32 (a1 + 40 * a0))) w1.heap.size [] [] (w4.setCell ⟨g, 1, none⟩ (.int .u32 (a1 + 40 * a0))).drew) := by
    have b5 : Below w.heap.size w (w4.setCell ⟨g, 1, none⟩ (.int .u32 (a1 + 40 * a0))) := B4.out.setCell (by show _ ≤ g; omega) _
    exact ⟨⟨_, blk_drew (by rw [Below.heap_setCell _ _ _ _ (by show w1.heap.size ≠ g; omega)]; exact hO4.out), ⟨rfl, .inl ⟨rfl, rfl⟩⟩, trivial⟩, blk_drew (blk_set HCUR.out 1 _), b5.drew, Marks.nil _ _ _⟩
  generalize hcs : cur.setIfInBounds 1 (.int .u32 (a1 + 40 * a0)) = cs at *
  generalize (w4.setCell ⟨g, 1, none⟩ (.int .u32 (a1 + 40 * a0))).drew = W5 at *
  obtain ⟨B, hBd⟩ : ∃ B, B = w1.heap.size := ⟨_, rfl⟩
  rw [← hBd] at P0 ⊢
  have hwB : w.heap.size ≤ B := by omega
  clear hBd
  clear hcsI hSL hSb cs1 fs1 ca0 hcs
  obtain ⟨i0, hi, hz0, hz1, hz2⟩ := info_parts infoB
  go_upto_region 8 with fail
  refine wp_loop (fun a' w' => ∃ (j : Nat) (Ds : List Nat) (u8 u9 u29 u30 u31 u32 u33 u34 u35 u36 u37 u38 u39 u40 : Value), j ≤ M ∧ u29 = .int .i64 (j : Int) ∧ Hid (PuS w g cs B ((subsO N xs).take j |>.flatMap gl) Ds w') ∧
    a' = { tmps := #[oidV (N : Int) xs, .pointer (some ⟨w.heap.size, 0, none⟩), .slice none 0 0, .int .i64 0, .int .i64 0, .pointer (some ⟨B, 0, none⟩), .slice (some ⟨g, 1, none⟩) M (cap - 1), undef, u8, u9, .agg (oidC (N : Int) xs), .int .i64 0, .int .i64 0, .bool false, undef,
      .slice (some ⟨w.heap.size, 1, none⟩) N 16, .slice (some ⟨g, 0, none⟩) N cap, .slice (some ⟨g, 1, none⟩) M (cap - 1), .slice (some ⟨g, 1, none⟩) M (cap - 1), .pointer (some ⟨g, 1, none⟩), .int .u32 a1, .pointer (some ⟨w.heap.size, 1, none⟩), .pointer (some ⟨w.heap.size, 1, none⟩), .int .u32 a0, .int .u32 (40 * a0), .int .u32 (a1 + 40 * a0),
      .pointer (some ⟨g, 1, none⟩), .slice (some ⟨g, 1, none⟩) M (cap - 1), .int .i64 M, u29, u30, u31, u32, u33, u34, u35, u36, u37, u38, u39, u40, undef, undef], defers := Ds.map mkD })
    (fun a' _ => M - (intOf (a'.tmps.getD 29 undef)).toNat) ?_ ?_
  · exact ⟨0, [], _, _, _, _, _, _, _, _, _, _, _, _, _, _, Nat.zero_le _, rfl, P0, rfl⟩
  rintro a' wr ⟨j, Ds, u8, u9, u29, u30, u31, u32, u33, u34, u35, u36, u37, u38, u39, u40, hj, rfl, P, rfl⟩
  by_cases hlt : j < M
  · have hjn : ¬ j = M := by omega
    have cj : wr.cell? ⟨g, 1 + j, none⟩ = some (.int .u32 ((subsO N xs).getD j 0)) := by rw [blk_cell P.out.subs (1 + j), CSI.out j hlt]
    have hsb := SB.out j
    have FT := Lib.hid (flat_take (S := subsO N xs) (j := j) (by rw [SL.out]; exact hlt))
    have hLl : ((subsO N xs).take j |>.flatMap gl).length ≤ 5 * j := Nat.le_trans (flat_len _) (by rw [List.length_take]; omega)
    generalize ((subsO N xs).take j).flatMap gl = L at *
    generalize (subsO N xs).getD j 0 = s at *
    go_wp2_with (go_at_call 28; refine (callsIn_wide.1 (groups_in Fence.wide 2 trivial rfl s _)).mono ?_; rintro e w' ⟨rfl, rfl⟩)
    have bN := Boxed.new wr 24 (.int .u32 s)
    have hlen := gl_len s
    refine (wpIn_wide (n := 3)).1 ?_
    refine wpIn_rangeFunc_ownG rfl (by omega) (gf := 36) (lb := #[.pointer (some ⟨wr.heap.size, 0, none⟩)]) rfl trivial (enters_of Tryd.func36 (by kernel_rfl) rfl)
      (groups_stops Fence.wide (3 - 1) trivial rfl (by omega) wr.heap.size s hsb.1 hsb.2 _ (by simp) bN.cell) keepC_t keepC_b (Below.refl _ _) (fun _ => rfl)
      (PuI w g cs B L wr.heap.size Ds wr.heap.size s) (fun _ _ _ => False)
      (PuI.own w g cs B L wr.heap.size Ds wr.heap.size s _ (by simp) (by have := P.out.b.size; simp; omega))
      (fun _ _ _ _ _ hs _ _ => hs) ?h0
      (fun x => { tmps := #[oidV (N : Int) xs, .pointer (some ⟨w.heap.size, 0, none⟩), .slice none 0 0, .int .i64 0, .int .i64 0, .pointer (some ⟨B, 0, none⟩), .slice (some ⟨g, 1, none⟩) M (cap - 1), undef, .int .u32 s, .int .u8 x, .agg (oidC (N : Int) xs), .int .i64 0, .int .i64 0, .bool false, undef,
        .slice (some ⟨w.heap.size, 1, none⟩) N 16, .slice (some ⟨g, 0, none⟩) N cap, .slice (some ⟨g, 1, none⟩) M (cap - 1), .slice (some ⟨g, 1, none⟩) M (cap - 1), .pointer (some ⟨g, 1, none⟩), .int .u32 a1, .pointer (some ⟨w.heap.size, 1, none⟩), .pointer (some ⟨w.heap.size, 1, none⟩), .int .u32 a0, .int .u32 (40 * a0), .int .u32 (a1 + 40 * a0),
        .pointer (some ⟨g, 1, none⟩), .slice (some ⟨g, 1, none⟩) M (cap - 1), .int .i64 M, .int .i64 (j : Int), .bool true, .pointer (some ⟨g, 1 + j, none⟩), .int .u32 s, .int .u32 s, .func (.func 36) #[] #[.pointer (some ⟨wr.heap.size, 0, none⟩)], .int .u8 x, u36, u37, u38, u39, u40, undef, undef], defers := [] }) ?assign ?body ?done ?stop
    case h0 =>
      obtain ⟨v, hv, hrow, _⟩ := P.out.out
      refine ⟨⟨v, hv.alloc _, ?_, trivial⟩, blk_alloc P.out.subs _, P.out.b.alloc P.out.b.size _, P.out.m.others (KeepsOthers.alloc _ _), bN⟩
      rw [List.append_nil]
      exact hrow.alloc _
    case assign =>
      intro l x W K hK
      gi_wp2
      exact hK
    case body =>
      rintro l pre x W PI hlp
      obtain ⟨v, hv, hrow, _⟩ := PI.out
      have hc := hv.cell
      have PIH := Lib.hid PI
      have hwW : w.heap.size ≤ W.heap.size := PI.b.size
      clear PI
      gi_wp2_with (gi_at_builtin; refine wpListIn_append_own _ rfl _ _ 22 rfl w.heap.size 5 i0 (.int .u8 0) 1 1 Tryd.underlying22 hi hz0 hz1 hz2 rfl (by decide) _ _ _ rfl (hrow.alloc _) ⟨W.heap.size, 0, none⟩ 1 1 [.int .u8 x] rfl rfl (cell_one_new _ _ _) (by simp [Value.oneCell']) (by unfold maxLen; omega) (by omega) (by simp; omega) ?_; intro v' w2 hown' hgrow _; obtain ⟨g', cap', rfl⟩ := ownsRow_succ hown'; obtain ⟨hv1, hk2, hkc, hI2⟩ := PIH.out.step hv hrow hwB hown' hgrow; have hc1 := hv1.cell; have hf1 := hv1.frozen)
      exact ⟨hk2.from _, hkc, hI2⟩
    case done =>
      rintro D ys W hD rfl PI hK
      have PIH := Lib.hid PI
      clear PI
      have hDW : D < W.heap.size := (Array.getElem?_eq_some_iff.1 hK).1
      have hDr : wr.heap.size < D := by simp at hD; omega
      go_wp2
      refine ⟨⟨j + 1, D :: Ds, _, _, _, _, _, _, _, _, _, _, _, _, _, _, by omega, ?_, ?_, rfl⟩, ?_⟩
      · go_num
      · refine ⟨?_, PIH.out.subs, PIH.out.b, PIH.out.m.cons (by omega) hDW (by have := P.out.b.size; omega) hK⟩
        obtain ⟨v, hv, hrow, _⟩ := PIH.out.out
        rw [FT.out]
        refine ⟨v, hv, ?_, trivial⟩
        rw [List.length_append]
        exact hrow
      · simp [intOf]; omega
    case stop =>
      rintro D c pre W _ _ h _
      exact h.elim
  · obtain rfl : j = M := by omega
    obtain ⟨v, hv, hrow, _⟩ := P.out.out
    have hLe : encO N xs = ((subsO N xs).take j).flatMap gl := by unfold encO; rw [List.take_of_length_le (by rw [SL.out]; omega)]
    have hL1 : 1 ≤ (encO N xs).length := by unfold encO subsO; rw [List.flatMap_cons, List.length_append]; have := (gl_len (xs.getD 1 0 + 40 * xs.getD 0 0)).1; omega
    have hL2 : (encO N xs).length ≤ 5 * j := by have := flat_len (subsO N xs); rw [SL.out] at this; exact this
    rw [← hLe] at hrow
    have PM := Lib.hid P.out.m
    have PB := Lib.hid P.out.b
    clear P hLe SL SB CSI
    generalize encO N xs = L at *
    obtain ⟨K, hK⟩ : ∃ K, L.length = K + 1 := ⟨L.length - 1, by omega⟩
    rw [hK] at hrow
    obtain ⟨go, capo, rfl⟩ := ownsRow_succ hrow
    have ho := Lib.hid (octs_row (l := L) hrow)
    have hcap := ho.out.2.1
    have HK := Lib.hid hK
    have hKb : K + 1 ≤ 1000000 := by omega
    clear hrow hK
    have hc := hv.cell
    go_wp2_with (go_at_call 29; refine (clip_any go _ capo hcap hKb _).mono ?_; rintro e w' ⟨rfl, rfl⟩)
    refine leaves_marks (lo := w.heap.size) (hi := w'.heap.size) (fun W' => Octs W' go L ∧ Below w.heap.size w W') ?_ ?_ Ds _ PM.out ⟨ho.out.2.2.2, PB.out⟩
    · rintro W D ⟨h1, h2⟩ hD hK
      exact ⟨fun i hi => cell_kept (h1 i hi) (grownBy_putObj' _ D (.deferred none)) (fun r e => by cases e; exact ⟨_, hK, rfl⟩), h2.trans (belowK_b (w := w) (Nat.le_refl _) _ D _ _ hD hK rfl rfl)⟩
    · rintro W ⟨h1, h2⟩
      exact ⟨_, results_tmp2 rfl _ _ _, go, by rw [HK.out]; rfl, ho.out.1, h1, h2⟩
end Go.Proofs.YtacpcagijfacnaaDoor
namespace Go.Proofs.YtacpcagijfacnaaDoor
open Go.RowKit Go.Shelf
open Go.Proofs.YtacpcagijfacnaaDoorW.PrintWords (rd Ev gate_dst gate_store Kd.C_below Kd.C_of_reads Kd.reads_of_C ReadsOf.at_ rdOf blk_new blk_below blk_cell blk_alloc blk_lt blk_frozen blk_drew blk_set Kd.C Kd.int)
set_option linter.unusedSimpArgs false
set_option linter.unusedVariables false
set_option maxRecDepth 50000
theorem info9 : (Tryd.prog.info? 9).map (fun i => (i.zero, i.size, i.bytes)) = some (some (.string ⟨#[]⟩), 1, 16) := by kernel_rfl
/-- The dotted form. -/
def digO (x : Int) : List UInt8 := Lib.decDigits x.toNat
def txtO (N : Nat) (xs : List Int) : List UInt8 := Lib.join ((arcsO N xs).map digO) [46]
theorem dig_len {x : Int} (h : x < 18446744073709551616) : (digO x).length ≤ 20 := by
  unfold digO
  rw [Lib.decDigits_length]
  by_cases h1 : 1 ≤ x.toNat
  · have := Lib.numDigits_eq x.toNat h1 (by omega); split at this <;> omega
  · rw [show x.toNat = 0 by omega, ← Lib.decDigits_length, Lib.decDigits_one (by omega)]; simp
theorem joinTail_len (r : List (List UInt8)) (h : ∀ x ∈ r, x.length ≤ 20) : (Lib.joinTail [46] r).length ≤ 21 * r.length := by
  induction r with
  | nil => simp [Lib.joinTail]
  | cons a r ih =>
    have e : Lib.joinTail [46] (a :: r) = ([46] ++ a) ++ Lib.joinTail [46] r := by simp [Lib.joinTail]
    rw [e, List.length_append, List.length_append, List.length_cons]
    have h1 := h a (by simp)
    have h2 := ih (fun x hx => h x (List.mem_cons_of_mem _ hx))
    simp only [List.length_cons, List.length_nil]
    omega
theorem join_len (r : List (List UInt8)) (h : ∀ x ∈ r, x.length ≤ 20) : (Lib.join r [46]).length ≤ 21 * r.length := by
  cases r with
  | nil => simp [Lib.join_nil]
  | cons a r =>
    rw [Lib.join_cons, List.length_append, List.length_cons]
    have h1 := h a (by simp)
    have h2 := joinTail_len r (fun x hx => h x (List.mem_cons_of_mem _ hx))
    omega
set_option maxHeartbeats 4000000 in
theorem text_err (N : Nat) (xs : List Int) (w : World) (hx : xs.length = 16) (hr : chkO (N : Int) xs = 1) :
    Calls Tryd.prog 15 #[oidV (N : Int) xs] w fun e w' => e = .returned (.string ⟨#[63]⟩) ∧ Below w.heap.size w w' := by
  have CX := Lib.hid (fun W => check_any (N : Int) xs W hx (by omega))
  rw [hr] at CX
  have HX := Lib.hid hx
  have B0 := Lib.hid ((Below.refl w.heap.size w).alloc (Nat.le_refl _) (.cells (oidC (N : Int) xs) 27))
  have hB := Lib.hid (blk_new w (.cells (oidC (N : Int) xs) 27))
  go_enter Tryd.func15, Tryd.ntmps15
  go_wp2_with (first
    | ((with_reducible refine gate_dst (N := 6) rfl ?_); refine wpList_load_row rfl 27 _ rfl w.heap.size rfl 27 (oidC (N : Int) xs) (0, 0) _ hB.out Tryd.underlying27 rfl (oid_info _ _ HX.out) ?_)
    | (go_at_call 25; refine (CX.out _).mono ?_; rintro e w1 ⟨rfl, hb⟩; have B1 := Lib.hid (B0.out.trans (hb.mono B0.out.size)); clear hb))
  go_ret
  exact ⟨rfl, B1.out⟩
/-- What stands while the texts of the arcs are laid. -/
structure TxS (w : World) (N : Nat) (xs : List Int) (G : Nat) (j : Nat) (W : World) : Prop where
  s : St w W
  x : W.heap[w.heap.size]? = some (.cells (oidC (N : Int) xs) 27 (0, 0))
  o : ∃ cur, W.heap[G]? = some (.cells cur 9 (0, 0)) ∧ cur.size = N ∧ ∀ i, i < j → cur[i]? = some (.string ⟨(digO (xs.getD i 0)).toArray⟩)
theorem TxS.next {w : World} {N : Nat} {xs : List Int} {G j : Nat} {W W' : World} (h : TxS w N xs G j W) (hb : Below W.heap.size W W') : TxS w N xs G j W' := by
  obtain ⟨cur, h1, h2, h3⟩ := h.o
  exact ⟨h.s.next hb, blk_below h.x hb, cur, blk_below h1 hb, h2, h3⟩
theorem TxS.set {w : World} {N : Nat} {xs : List Int} {G j : Nat} {W : World} (h : TxS w N xs G j W) (hw : 3 < w.heap.size) (hG : w.heap.size < G) (hj : j < N) :
    TxS w N xs G (j + 1) (W.setCell ⟨G, j, none⟩ (.string ⟨(digO (xs.getD j 0)).toArray⟩)) := by
  obtain ⟨cur, h1, h2, h3⟩ := h.o
  refine ⟨h.s.set hw (by show w.heap.size ≤ G; omega) _, ?_, _, blk_set h1 j _, by simp [h2], fun i hi => ?_⟩
  · rw [Below.heap_setCell _ _ _ _ (by show w.heap.size ≠ G; omega)]; exact h.x
  · by_cases e : i = j
    · subst e; rw [Array.getElem?_setIfInBounds_self_of_lt (by omega)]
    · rw [Array.getElem?_setIfInBounds_ne (by omega)]; exact h3 i (by omega)
theorem TxS.at_ {w : World} {N : Nat} {xs : List Int} {G j : Nat} {W : World} (h : TxS w N xs G j W) (hj : j < N) : ∃ v, W.cell? ⟨G, j, none⟩ = some v ∧ W.frozen? ⟨G, j, none⟩ = false := by
  obtain ⟨cur, h1, h2, h3⟩ := h.o
  exact ⟨cur[j]'(by omega), by rw [blk_cell h1 j, Array.getElem?_eq_getElem (by omega)], blk_frozen h1 j⟩
set_option maxHeartbeats 4000000 in
theorem text_ok (N : Nat) (xs : List Int) (w : World) (hN : N < 256) (hx : xs.length = 16) (hu : U32 xs) (h0 : chkO (N : Int) xs = 0) (hT : Tabs w) :
    Calls Tryd.prog 15 #[oidV (N : Int) xs] w fun e w' => e = .returned (.string ⟨(txtO N xs).toArray⟩) ∧ Below w.heap.size w w' := by
  have CX := Lib.hid (fun W => check_any (N : Int) xs W hx (by omega))
  rw [h0] at CX
  obtain ⟨n2, n16⟩ := chkO_n h0
  have HU := Lib.hid hu
  have HX := Lib.hid hx
  have LX : Hid ((arcsO N xs).length = N) := by have := arcsO_len (N := N) hx; show _ = _; omega
  have S0 := Lib.hid ((St.refl hT).alloc (.cells (oidC (N : Int) xs) 27))
  have hB := Lib.hid (blk_new w (.cells (oidC (N : Int) xs) 27))
  have hsub : ∀ i, i < N → (arcsO N xs).getD i 0 = xs.getD i 0 := fun i hi => by
    unfold arcsO
    rw [List.getD_eq_getElem?_getD, List.getD_eq_getElem?_getD, List.getElem?_take, if_pos (by omega)]
  have HSUB := Lib.hid hsub
  have hw3 := hT.five
  obtain ⟨i0, hi, hz0, hz1, hz2⟩ := info_parts info9
  have hb16 : i0.bytes * N ≤ 281474976710656 := by rw [hz2]; omega
  clear hsub hx hu h0 hT hz2
  go_enter Tryd.func15, Tryd.ntmps15
  go_upto_region 4 with (first
    | ((with_reducible refine gate_dst (N := 6) rfl ?_); refine wpList_load_row rfl 27 _ rfl w.heap.size rfl 27 (oidC (N : Int) xs) (0, 0) _ hB.out Tryd.underlying27 rfl (oid_info _ _ HX.out) ?_)
    | (go_at_call 25; refine (CX.out _).mono ?_; rintro e w1 ⟨rfl, hb⟩; have S1 := Lib.hid (S0.out.next hb); have hB1 := Lib.hid (blk_below hB.out hb); clear hb; have c0 := (oid_cells hB1.out).1)
    | ((with_reducible refine gate_dst (N := 11) rfl ?_); refine wpList_make_full _ rfl _ _ 61 rfl w1.heap.size 9 i0 (.string ⟨#[]⟩) 1 Tryd.underlying61 hi hz0 hz1 .u8 .u8 (N : Int) (N : Int) N rfl rfl rfl rfl hb16 (by unfold maxLen; omega) (Nat.le_refl _) ?_; intro w2 hown hgrow))
  have hb2 : Below w1.heap.size w1 w2 := (Below.refl w1.heap.size w1).grown hgrow (Nat.le_refl _) (fun j e => by cases e)
  have T0 : Hid (TxS w N xs w1.heap.size 0 w2) := by
    refine ⟨S1.out.next hb2, blk_below hB1.out hb2, ?_⟩
    rcases hown.2 with ⟨h, _⟩ | ⟨g, cap, cur, hv, _, hh, _, _, hs, _⟩
    · cases h
    · injection hv with hp _ hc
      injection hp with hp
      injection hp with hg
      subst hg hc
      exact ⟨cur, hh, by simpa using hs, fun i hi => by omega⟩
  have hGw : w.heap.size < w1.heap.size := blk_lt hB1.out
  generalize w1.heap.size = G at *
  have c2 : w2.cell? ⟨w.heap.size, 0, none⟩ = some (.int .u8 (N : Int)) := (oid_cells T0.out.x).1
  clear hown hgrow hb2 c0
  go_upto_region 5 with (go_at_call 27; refine (arcs_of w.heap.size N xs _ c2 hN HX.out).mono ?_; rintro e w3 ⟨rfl, hb⟩; have T1 := Lib.hid (T0.out.next hb); clear hb; rw [LX.out])
  go_loopw [14] (fun i W => ∃ j : Nat, j ≤ N ∧ i = .int .i64 (j : Int) ∧ Hid (TxS w N xs G j W)) (fun i _ => N - (intOf i).toNat)
  case atStart => exact ⟨0, Nat.zero_le _, rfl, T1⟩
  case round =>
    obtain ⟨j, hj, rfl, T⟩ := hrel
    by_cases hlt : j < N
    · obtain ⟨u, hu⟩ : ∃ u : Nat, xs.getD j 0 = (u : Int) := ⟨(xs.getD j 0).toNat, by have := (HU.out.getD j).1; omega⟩
      have hub : (u : Int) < 4294967296 := by rw [← hu]; exact (HU.out.getD j).2
      have cj : wr.cell? ⟨w.heap.size, 1 + j, none⟩ = some (.int .u32 (u : Int)) := by rw [← hu]; exact (oid_cells T.out.x).2 j (by rw [HX.out]; omega)
      have hw : (u : Int) % 18446744073709551616 = (u : Int) := by omega
      have hjn : ¬ j = N := by omega
      have hdig : digO (xs.getD j 0) = Lib.decDigits u := by unfold digO; rw [hu]; rfl
      have HD := Lib.hid hdig
      clear hdig hu
      go_wp2_with (go_at_call 31; refine (fu_any u (by omega) _ T.out.s.t).mono ?_; rintro e w4 ⟨rfl, hb⟩; have T2 := Lib.hid (T.out.next hb); clear hb; have hat := T2.out.at_ hlt; obtain ⟨vj, cv, fv⟩ := hat)
      go_round
      case rel => exact ⟨j + 1, by omega, by go_num, by have := T2.out.set hw3 hGw hlt; rw [HD.out] at this; exact this⟩
      case measure => simp [intOf]; omega
    · obtain rfl : j = N := by omega
      have hJ : Hid (∀ W, TxS w j xs G j W → Calls Tryd.prog 32 #[.slice (some ⟨G, 0, none⟩) j j, .string ⟨#[46]⟩] W fun e w' => e = .returned (.string ⟨(txtO j xs).toArray⟩) ∧ Below W.heap.size W w') := by
        intro W T
        obtain ⟨cur, h1, h2, h3⟩ := T.o
        have hl : ((arcsO j xs).map (fun x => (⟨(digO x).toArray⟩ : ByteArray))).length = j := by rw [List.length_map, LX.out]
        have e1 : ((arcsO j xs).map (fun x => (⟨(digO x).toArray⟩ : ByteArray))).map (·.data.toList) = (arcsO j xs).map digO := by
          rw [List.map_map]; rfl
        have e2 : (⟨#[46]⟩ : ByteArray).data.toList = [46] := rfl
        have hjl := Tryd.strings_Join G 0 j ((arcsO j xs).map (fun x => (⟨(digO x).toArray⟩ : ByteArray))) ⟨#[46]⟩ W
          (fun i x hx => by
            have hi' : i < j := by
              by_cases h : i < j
              · exact h
              · rw [List.getElem?_eq_none (by omega)] at hx; cases hx
            rw [Nat.zero_add, blk_cell h1 i, h3 i hi']
            rw [List.getElem?_map, List.getElem?_eq_getElem (by rw [LX.out]; exact hi'), Option.map_some] at hx
            injection hx with hx
            rw [← hx, ← HSUB.out i hi', List.getD_eq_getElem?_getD, List.getElem?_eq_getElem (by rw [LX.out]; exact hi'), Option.getD_some])
          (blk_lt h1) (by omega) (by omega)
          (by
            rw [e1, e2]
            have := join_len ((arcsO j xs).map digO) (fun x hx => by
              obtain ⟨y, hy, rfl⟩ := List.mem_map.mp hx
              have := (HU.out y (List.mem_of_mem_take hy)).2
              exact dig_len (by omega))
            rw [List.length_map, LX.out] at this
            omega)
        rw [hl, e1, e2] at hjl
        exact hjl
      go_wp2_with (go_at_call 32; refine (hJ.out _ T.out).mono ?_; rintro e w5 ⟨rfl, hb⟩)
      go_ret
      exact ⟨rfl, (T.out.s.next hb).b⟩
end Go.Proofs.YtacpcagijfacnaaDoor
namespace Go.Proofs.YtacpcagijfacnaaDoor
open Go.RowKit Go.Shelf Go.Lib
open Go.Proofs.YtacpcagijfacnaaDoorW.PrintWords (gate_guard gate_dst)
set_option linter.unusedSimpArgs false
set_option linter.unusedVariables false
set_option maxRecDepth 50000
abbrev digs : List UInt8 := [48, 49, 50, 51, 52, 53, 54, 55, 56, 57]
theorem dropWhile_nil {p : UInt8 → Bool} : ∀ {l : List UInt8}, l.dropWhile p = [] ↔ l.all p = true
  | [] => by simp
  | a :: r => by
    have ih := dropWhile_nil (p := p) (l := r)
    rw [List.dropWhile_cons, List.all_cons]
    cases h : p a
    · simp
    · simpa using ih
theorem dropWhile_last {p : UInt8 → Bool} : ∀ {l : List UInt8} {a : UInt8} {t : List UInt8}, l.dropWhile p = a :: t → p a = false
  | [], a, t, h => by simp at h
  | b :: r, a, t, h => by
    rw [List.dropWhile_cons] at h
    cases hb : p b
    · rw [hb] at h; simp at h; rw [← h.1]; exact hb
    · rw [hb] at h; exact dropWhile_last h
theorem trimS_nil (l cs : List UInt8) : Lib.trimS l cs = [] ↔ l.all (cs.contains ·) = true := by
  unfold Lib.trimS Lib.trimLeftS Lib.trimRightS
  rw [dropWhile_nil]
  constructor
  · intro h
    cases hr : l.reverse.dropWhile (cs.contains ·) with
    | nil => rw [dropWhile_nil] at hr; simpa using hr
    | cons a t =>
      rw [hr] at h
      have h1 := dropWhile_last hr
      rw [List.all_eq_true] at h
      have h2 := h a (by simp)
      rw [h1] at h2; cases h2
  · intro h
    have : l.reverse.dropWhile (cs.contains ·) = [] := by rw [dropWhile_nil]; simpa using h
    rw [this]; rfl
/-- A decimal number without leading zeros. -/
def decB : List UInt8 → Bool
  | [] => false
  | b :: r => decide (r = [] ∧ b = 48) || (decide (b ≠ 48) && (b :: r).all (digs.contains ·))
theorem decimal_cons (b : UInt8) (r : List UInt8) (w : World) (hl : (b :: r).length ≤ 1000000) :
    Calls Tryd.prog 40 #[.string ⟨(b :: r).toArray⟩] w fun e w' => e = .returned (.bool (decB (b :: r))) ∧ Below w.heap.size w w' := by
  generalize hres : decB (b :: r) = res
  have HRES := Lib.hid hres
  clear hres
  by_cases h1 : r = [] ∧ b = 48
  · obtain ⟨rfl, rfl⟩ := h1
    obtain rfl : res = true := by rw [← HRES.out]; rfl
    go_enter Tryd.func40, Tryd.ntmps40
    go_wp2
    go_ret
    exact ⟨rfl, Below.refl _ _⟩
  have hne : ¬ ((⟨(b :: r).toArray⟩ : ByteArray) = ⟨#[48]⟩) := fun h => h1 (by
    have := congrArg (fun x : ByteArray => x.data.toList) h
    simp at this
    exact ⟨this.2, this.1⟩)
  have hne2 : ¬ ((⟨(b :: r).toArray⟩ : ByteArray) = ⟨#[]⟩) := fun h => by
    have := congrArg (fun x : ByteArray => x.data.toList) h
    simp at this
  have hcon0 := Any.strings_Trim_laid Tryd.lays160 (by kernel_rfl) ⟨(b :: r).toArray⟩ ⟨#[48, 49, 50, 51, 52, 53, 54, 55, 56, 57]⟩
  have hcon := hcon0 w (by rw [ByteArray.size]; simp at hl ⊢; omega) (by decide) (ascii_of_all (by decide))
  change Calls Tryd.prog 49 _ _ (fun e w' => e = .returned (.string ⟨(Lib.trimS (b :: r) digs).toArray⟩) ∧ Below w.heap.size w w') at hcon
  clear hcon0
  have HT := Lib.hid (trimS_nil (b :: r) digs)
  have HCON := Lib.hid hcon
  clear hcon
  generalize Lib.trimS (b :: r) digs = T at *
  clear hne hne2
  by_cases h48 : b = 48
  · subst h48
    obtain rfl : res = false := by rw [← HRES.out]; unfold decB; simp; exact fun h => h1 ⟨h, rfl⟩
    go_enter Tryd.func40, Tryd.ntmps40
    have hr : r.isEmpty = false := by cases r with | nil => exact absurd ⟨rfl, rfl⟩ h1 | cons a t => rfl
    go_wp2
    go_ret
    exact ⟨rfl, Below.refl _ _⟩
  · have h48' : ¬ (b.toNat : Int) = 48 := fun h => h48 (UInt8.toNat_inj.mp (by show b.toNat = 48; omega))
    have hbn : ((b.toNat : Int) != 48) = true := by simpa using h48'
    have h48b : (b == 48) = false := by simp [h48]
    have h48n : ¬ b.toNat = 48 := fun h => h48 (UInt8.toNat_inj.mp h)
    have hix : (⟨(b :: r).toArray⟩ : ByteArray)[0]'(by rw [ByteArray.size]; simp) = b := rfl
    by_cases hall : T = []
    · obtain rfl : res = true := by rw [← HRES.out]; simp only [decB]; rw [HT.out.mp hall]; simp [h48]
      subst hall
      clear HT
      go_enter Tryd.func40, Tryd.ntmps40
      go_wp2_with (go_at_call 49; refine HCON.out.mono ?_; rintro e w' ⟨rfl, hb⟩)
      go_ret
      exact ⟨rfl, hb⟩
    · obtain rfl : res = false := by rw [← HRES.out]; simp only [decB]; rw [Bool.eq_false_iff.mpr (fun h => hall (HT.out.mpr h))]; simp; exact fun h h2 => h1 ⟨h, h2⟩
      obtain ⟨t0, t1, rfl⟩ : ∃ t0 t1, T = t0 :: t1 := by cases T with | nil => exact absurd rfl hall | cons a t => exact ⟨a, t, rfl⟩
      go_enter Tryd.func40, Tryd.ntmps40
      go_wp2_with (go_at_call 49; refine HCON.out.mono ?_; rintro e w' ⟨rfl, hb⟩)
      go_ret
      exact ⟨rfl, hb⟩
theorem decimal_nil (w : World) : Calls Tryd.prog 40 #[.string ⟨#[]⟩] w fun e w' => e = .returned (.bool false) ∧ Below w.heap.size w w' := by
  go_enter Tryd.func40, Tryd.ntmps40
  go_wp2
  go_ret
  exact ⟨rfl, Below.refl _ _⟩
theorem decimal_is (l : List UInt8) (w : World) (hl : l.length ≤ 1000000) :
    Calls Tryd.prog 40 #[.string ⟨l.toArray⟩] w fun e w' => e = .returned (.bool (decB l)) ∧ Below w.heap.size w w' := by
  cases l with
  | nil => exact decimal_nil w
  | cons b r => exact decimal_cons b r w hl
end Go.Proofs.YtacpcagijfacnaaDoor
namespace Go.Proofs.YtacpcagijfacnaaDoor
open Go.RowKit Go.Shelf
open Go.Proofs.YtacpcagijfacnaaDoorW.PrintWords (gate_guard gate_dst gate_store blk_new blk_below blk_cell blk_alloc blk_lt blk_frozen blk_drew blk_set)
set_option linter.unusedSimpArgs false
set_option linter.unusedVariables false
set_option maxRecDepth 50000
/-- The pieces between the dots. -/
def splitP : List UInt8 → List (List UInt8)
  | [] => [[]]
  | b :: r => if b = 46 then [] :: splitP r else (b :: (splitP r).headD []) :: (splitP r).tail
theorem splitP_ne (l : List UInt8) : splitP l ≠ [] := by
  cases l with
  | nil => simp [splitP]
  | cons b r => unfold splitP; split <;> simp
theorem index_cons46 (b : UInt8) (r : List UInt8) (h : b ≠ 46) : Lib.index (b :: r) [46] = if Lib.index r [46] = -1 then -1 else Lib.index r [46] + 1 := by
  have e : ([46] : List UInt8).isPrefixOf (b :: r) = false := by simp [List.isPrefixOf]; exact fun e => absurd e.symm h
  rw [Lib.index, e]
  by_cases h1 : Lib.index r [46] = -1
  · simp [h1]
  · simp [h1]
theorem index_hit46 (r : List UInt8) : Lib.index (46 :: r) [46] = 0 := by
  have e : ([46] : List UInt8).isPrefixOf (46 :: r) = true := by simp [List.isPrefixOf]
  rw [Lib.index, e]; rfl
theorem split_is46 : ∀ (l : List UInt8), Lib.splitK [46] 0 (Lib.count l [46]) l = splitP l
  | [] => by
    have h : Lib.index ([] : List UInt8) [46] = -1 := rfl
    rw [Lib.count_miss h]; rfl
  | b :: r => by
    have ih := split_is46 r
    by_cases hb : b = 46
    · subst hb
      have h := index_hit46 r
      rw [Lib.count_hit (by simp) (i := 0) h, Nat.add_comm 1]
      simp only [List.length_cons, List.length_nil, Nat.zero_add, List.drop_succ_cons, List.drop_zero]
      rw [Lib.splitK, h]
      simp only [splitP, if_true]
      rw [← ih]
      rfl
    · have h := index_cons46 b r hb
      simp only [splitP, if_neg hb]
      rw [← ih]
      by_cases h1 : Lib.index r [46] = -1
      · rw [if_pos h1] at h
        rw [Lib.count_miss h, Lib.count_miss h1]
        rfl
      · rw [if_neg h1] at h
        obtain ⟨i, hi⟩ : ∃ i : Nat, Lib.index r [46] = i := ⟨(Lib.index r [46]).toNat, by have := Lib.index_ge r [46]; omega⟩
        have h2 : Lib.index (b :: r) [46] = ((i + 1 : Nat) : Int) := by omega
        have hn1 : (Lib.index r [46] == -1) = false := by simpa using h1
        have hn2 : (Lib.index (b :: r) [46] == -1) = false := by rw [h2]; simp; omega
        rw [Lib.count_hit (by simp) h2, Lib.count_hit (by simp) hi, Nat.add_comm 1, Nat.add_comm 1]
        simp only [List.length_cons, List.length_nil, Nat.zero_add]
        rw [Lib.splitK, hn2, Lib.splitK, hn1, h2, hi]
        simp only [Bool.false_eq_true, if_false, Int.toNat_natCast, Nat.add_zero, List.take_succ_cons, List.length_cons, List.length_nil, Nat.zero_add, List.drop_succ_cons, List.headD_cons, List.tail_cons]
theorem splitP_len (l : List UInt8) : (splitP l).length ≤ l.length + 1 := by
  induction l with
  | nil => simp [splitP]
  | cons b r ih =>
    unfold splitP
    split
    · simp; omega
    · have := List.length_pos_iff.mpr (splitP_ne r)
      simp only [List.length_cons, List.length_tail]; omega
theorem splitP_each {l : List UInt8} : ∀ p ∈ splitP l, p.length ≤ l.length := by
  induction l with
  | nil => intro p hp; simp [splitP] at hp; subst hp; simp
  | cons b r ih =>
    intro p hp
    unfold splitP at hp
    split at hp
    · rcases List.mem_cons.mp hp with rfl | hp
      · simp
      · have := ih p hp; simp; omega
    · rcases List.mem_cons.mp hp with rfl | hp
      · obtain ⟨a, t, e⟩ : ∃ a t, splitP r = a :: t := by cases h : splitP r with | nil => exact absurd h (splitP_ne r) | cons a t => exact ⟨a, t, rfl⟩
        rw [e, List.headD_cons, List.length_cons, List.length_cons]
        have := ih a (by rw [e]; simp); omega
      · have := ih p (List.mem_of_mem_tail hp); simp; omega
def strC (P : List (List UInt8)) : Array Value := (P.map fun p => Value.string ⟨p.toArray⟩).toArray
theorem split_call (l : List UInt8) (w : World) (hl : l.length ≤ 1000000) (hT : Tabs w) :
    Calls Tryd.prog 37 #[.string ⟨l.toArray⟩, .string ⟨#[46]⟩] w fun e w' => e = .returned (.slice (some ⟨w.heap.size, 0, none⟩) (splitP l).length (splitP l).length) ∧ w' = w.alloc (.cells (strC (splitP l)) 9) := by
  obtain ⟨m, hm⟩ := hT.ml
  have h := Tryd.strings_Split ⟨l.toArray⟩ ⟨#[46]⟩ m w (by rw [ByteArray.size]; simp; omega) hm (by decide)
  have hd := Lib.splitB_data ⟨#[46]⟩ 0 (Lib.countB ⟨l.toArray⟩ ⟨#[46]⟩) ⟨l.toArray⟩
  have e0 : (⟨l.toArray⟩ : ByteArray).data.toList = l := by simp
  have e1 : (⟨#[46]⟩ : ByteArray).data.toList = [46] := rfl
  have e2 : Lib.countB ⟨l.toArray⟩ ⟨#[46]⟩ = Lib.count l [46] := by show Lib.count _ _ = _; rw [e0, e1]
  rw [e0, e1, e2, split_is46] at hd
  rw [e2] at h
  have hlen : Lib.count l [46] + 1 = (splitP l).length := by
    have : ∀ (k : Nat) (s : List UInt8), Lib.count s [46] = k → (Lib.splitK [46] 0 k s).length = k + 1 := by
      intro k
      induction k with
      | zero => intro s _; rfl
      | succ k ih =>
        intro s hk
        by_cases h1 : Lib.index s [46] = -1
        · rw [Lib.count_miss h1] at hk; cases hk
        · obtain ⟨i, hi⟩ : ∃ i : Nat, Lib.index s [46] = i := ⟨(Lib.index s [46]).toNat, by have := Lib.index_ge s [46]; omega⟩
          rw [Lib.count_hit (by simp) hi] at hk
          have hn1 : (Lib.index s [46] == -1) = false := by simpa using h1
          rw [Lib.splitK, hn1, hi]
          simp only [Bool.false_eq_true, if_false, List.length_cons, Int.toNat_natCast]
          rw [ih _ (by simp only [List.length_cons, List.length_nil] at hk ⊢; omega)]
    rw [← split_is46, this _ _ rfl]
  rw [hlen] at h
  refine h.mono ?_
  rintro e w' ⟨rfl, rfl⟩
  refine ⟨rfl, ?_⟩
  congr 2
  unfold strC
  rw [← hd, List.map_map]
  congr 1
/-- The number that a decimal piece spells. -/
def valA (acc : Nat) (l : List UInt8) : Nat := l.foldl (fun a c => a * 10 + (c.toNat - 48)) acc
theorem valA_nil (acc : Nat) : valA acc [] = acc := rfl
theorem valA_cons (acc : Nat) (c : UInt8) (r : List UInt8) : valA acc (c :: r) = valA (acc * 10 + (c.toNat - 48)) r := by unfold valA; exact List.foldl_cons
def valB (l : List UInt8) : Nat := valA 0 l
theorem valA_ge (l : List UInt8) : ∀ acc, acc ≤ valA acc l := by
  induction l with
  | nil => intro acc; exact Nat.le_refl _
  | cons c r ih => intro acc; rw [valA_cons]; exact Nat.le_trans (by omega) (ih _)
def isDig (c : UInt8) : Bool := decide (48 ≤ c.toNat ∧ c.toNat ≤ 57)
theorem digs_range : ∀ c : Fin 256, digs.contains (UInt8.ofNat c.val) = decide (48 ≤ c.val ∧ c.val ≤ 57) := by decide +kernel
theorem digs_iff (c : UInt8) : digs.contains c = isDig c := by
  have h := digs_range (Fin.mk c.toNat (UInt8.toNat_lt c))
  rw [UInt8.ofNat_toNat] at h
  exact h
theorem all_dig (l : List UInt8) : l.all (digs.contains ·) = l.all isDig := by
  congr 1
  funext c
  exact digs_iff c
theorem parseM (M : Nat) (hM : M < 1844674407370955162) (l : List UInt8) : ∀ acc, acc ≤ M → l.all isDig = true → Lib.parseUintM M acc l = if valA acc l ≤ M then .ok (valA acc l) else .range := by
  induction l with
  | nil => intro acc h _; rw [Lib.parseUintM, valA_nil, if_pos h]
  | cons c r ih =>
    intro acc h hd
    rw [List.all_cons, Bool.and_eq_true] at hd
    have hc' := of_decide_eq_true hd.1
    rw [valA_cons, Lib.parseUintM, if_pos hc', if_neg (by omega)]
    by_cases h2 : M < acc * 10 + (c.toNat - 48)
    · rw [if_pos h2, if_neg]
      have := valA_ge r (acc * 10 + (c.toNat - 48)); omega
    · rw [if_neg h2]
      exact ih _ (by omega) hd.2
theorem decB_all {p : List UInt8} (h : decB p = true) : p ≠ [] ∧ p.all isDig = true := by
  rw [← all_dig]
  cases p with
  | nil => cases h
  | cons b r =>
    refine ⟨by simp, ?_⟩
    simp only [decB, Bool.or_eq_true, Bool.and_eq_true, decide_eq_true_eq] at h
    rcases h with ⟨rfl, rfl⟩ | h
    · decide
    · exact h.2
theorem parse32 {p : List UInt8} (h : decB p = true) : Lib.parseUintB 32 p = if valB p ≤ 4294967295 then .ok (valB p) else .range := by
  obtain ⟨h1, h2⟩ := decB_all h
  unfold Lib.parseUintB
  rw [if_neg h1, parseM _ (by decide) p 0 (by omega) h2]
  rfl
theorem below_bytes (w : World) (t : ByteArray) : Below w.heap.size w (Lib.bytesWorld w 5 t) := Lib.bytesWorld_below w 5 t
theorem pu_ok (p : List UInt8) (w : World) (hl : p.length ≤ 1000000) (hd : decB p = true) (hv : valB p ≤ 4294967295) :
    Calls Tryd.prog 41 #[.string ⟨p.toArray⟩, .int .i64 10, .int .i64 32] w fun e w' => e = .returned (.tuple #[.int .u64 (valB p : Int), .nilIface]) ∧ Below w.heap.size w w' := by
  have h := parse32 hd
  rw [if_pos hv] at h
  refine (Tryd.strconv_ParseUint_10_at32_ok ⟨p.toArray⟩ (by rw [ByteArray.size]; simp; omega) (valB p) (by simpa using h) w).mono ?_
  rintro e w' ⟨rfl, rfl | rfl⟩
  · exact ⟨rfl, Below.refl _ _⟩
  · exact ⟨rfl, below_bytes w _⟩
theorem pu_big (p : List UInt8) (w : World) (hl : p.length ≤ 1000000) (hd : decB p = true) (hv : ¬ valB p ≤ 4294967295) (hT : Tabs w) :
    Calls Tryd.prog 41 #[.string ⟨p.toArray⟩, .int .i64 10, .int .i64 32] w fun e w' => ∃ N, e = .returned (.tuple #[.int .u64 4294967295, .iface 107 (.pointer (some ⟨N, 0, none⟩))]) ∧ Below w.heap.size w w' := by
  have h := parse32 hd
  rw [if_neg hv] at h
  obtain ⟨t, q, he⟩ := hT.er
  refine (Tryd.strconv_ParseUint_10_at32_range ⟨p.toArray⟩ (by rw [ByteArray.size]; simp; omega) (by simpa using h) (.iface t q) w he (.inr ⟨t, q, rfl⟩)).mono ?_
  rintro e w' ⟨N, rfl, _, _, hb⟩
  exact ⟨N, rfl, hb⟩
theorem pfun_is (l : List UInt8) (w : World) (hl : l.length ≤ 1000000) :
    Calls Tryd.prog 39 #[.string ⟨l.toArray⟩] w fun e w' => e = .returned (.bool (!decB l)) ∧ Below w.heap.size w w' := by
  have H := Lib.hid (fun W => decimal_is l W hl)
  generalize decB l = d at *
  go_enter Tryd.func39, Tryd.ntmps39
  go_wp2_with (go_at_call 40; refine (H.out _).mono ?_; rintro e w' ⟨rfl, hb⟩)
  go_ret
  exact ⟨rfl, hb⟩
theorem strC_at {P : List (List UInt8)} {W : World} {G : Nat} (h : W.heap[G]? = some (.cells (strC P) 9 (0, 0))) {j : Nat} (hj : j < P.length) : W.cell? ⟨G, j, none⟩ = some (.string ⟨(P.getD j []).toArray⟩) := by
  rw [blk_cell h j]
  unfold strC
  simp [List.getD, List.getElem?_eq_getElem hj]
theorem dropP_at {P : List (List UInt8)} {k : Nat} (h : k < P.length) : P.drop k = P.getD k [] :: P.drop (k + 1) := by
  rw [List.drop_eq_getElem_cons h]
  congr 1
  simp [List.getD, List.getElem?_eq_getElem h]
set_option maxHeartbeats 2000000 in
theorem ixf_is (P : List (List UInt8)) (G c : Nat) (w : World) (hP : ∀ p ∈ P, p.length ≤ 1000000) (hG : w.heap[G]? = some (.cells (strC P) 9 (0, 0))) (hPl : P.length ≤ 1000001) (hc : P.length ≤ c) :
    Calls Tryd.prog 48 #[.slice (some ⟨G, 0, none⟩) P.length c, .func (.func 39) #[] #[]] w fun e w' => ∃ r : Int, e = .returned (.int .i64 r) ∧ (0 ≤ r ↔ P.all decB = false) ∧ Below w.heap.size w w' := by
  have HP := Lib.hid hP
  have HG := Lib.hid hG
  clear hP hG
  go_enter Tryd.func48, Tryd.ntmps48
  go_upto_region 2 with fail
  go_loopw [8] (fun i W => ∃ j : Nat, j ≤ P.length ∧ i = .int .i64 (j : Int) ∧ Hid (P.all decB = (P.drop j).all decB) ∧ Hid (Below w.heap.size w W)) (fun i _ => P.length - (intOf i).toNat)
  case atStart => exact ⟨0, Nat.zero_le _, rfl, Lib.hid rfl, Below.refl _ _⟩
  case round =>
    obtain ⟨j, hj, rfl, hA, hB⟩ := hrel
    by_cases hlt : j < P.length
    · have cj := strC_at (blk_below HG.out hB.out) hlt
      have hjn : ¬ j = P.length := by omega
      have hpl := HP.out (P.getD j []) (by rw [List.getD_eq_getElem?_getD, List.getElem?_eq_getElem hlt, Option.getD_some]; exact List.getElem_mem hlt)
      have HC := Lib.hid (fun W => pfun_is (P.getD j []) W hpl)
      have hd := hA.out
      rw [dropP_at hlt, List.all_cons] at hd
      clear hA
      generalize P.getD j [] = p at *
      cases hdec : decB p
      · rw [hdec] at HC hd
        have HD := Lib.hid hd
        clear hd
        rw [Bool.not_false] at HC
        go_wp2_with (go_at_call 39; refine (HC.out _).mono ?_; rintro e w' ⟨rfl, hb⟩; have hb' := hB.out.trans (hb.mono hB.out.size))
        go_ret
        exact ⟨_, rfl, by rw [HD.out]; simp, hb'⟩
      · rw [hdec] at HC hd
        rw [Bool.true_and] at hd
        have HD := Lib.hid hd
        clear hd
        rw [Bool.not_true] at HC
        go_wp2_with (go_at_call 39; refine (HC.out _).mono ?_; rintro e w' ⟨rfl, hb⟩; have hb' := Lib.hid (hB.out.trans (hb.mono hB.out.size)))
        go_round
        case rel => exact ⟨j + 1, by omega, by go_num, HD, hb'⟩
        case measure => simp [intOf]; omega
    · obtain rfl : j = P.length := by omega
      have hd := hA.out
      rw [List.drop_length] at hd
      have HD := Lib.hid hd
      clear hA hd
      go_wp2
      go_ret
      exact ⟨_, rfl, by rw [HD.out]; simp, hB.out⟩
theorem cf_is (P : List (List UInt8)) (G c : Nat) (w : World) (hP : ∀ p ∈ P, p.length ≤ 1000000) (hG : w.heap[G]? = some (.cells (strC P) 9 (0, 0))) (hPl : P.length ≤ 1000001) (hc : P.length ≤ c) :
    Calls Tryd.prog 38 #[.slice (some ⟨G, 0, none⟩) P.length c, .func (.func 39) #[] #[]] w fun e w' => e = .returned (.bool (!P.all decB)) ∧ Below w.heap.size w w' := by
  have H := Lib.hid (ixf_is P G c w hP hG hPl hc)
  generalize hd : P.all decB = d at *
  clear hP hG
  go_enter Tryd.func38, Tryd.ntmps38
  go_upto_region 1 with fail
  cases d
  · go_wp2_with (go_at_call 48; refine H.out.mono ?_; rintro e w' ⟨r, rfl, hr, hb⟩; have hr0 : 0 ≤ r := hr.mpr rfl)
    go_ret
    exact ⟨rfl, hb⟩
  · go_wp2_with (go_at_call 48; refine H.out.mono ?_; rintro e w' ⟨r, rfl, hr, hb⟩; have hr0 : ¬ 0 ≤ r := fun h => by cases hr.mp h)
    go_ret
    exact ⟨rfl, hb⟩
end Go.Proofs.YtacpcagijfacnaaDoor
