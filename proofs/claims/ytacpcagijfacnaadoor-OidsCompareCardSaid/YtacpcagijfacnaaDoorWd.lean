/- Chapters 6, 7 (oids, oidsets): Compare. -/
import Derived.Test.YtacpcagijfacnaaDoorWc
import Derived.Test.YtacpcagijfacnaaDoorQb
namespace Go.Proofs.YtacpcagijfacnaaDoor
open Go.RowKit Go.Shelf
open Go.Proofs.YtacpcagijfacnaaDoorW.PrintWords (rd Ev at_rounds gate_dst gate_store Kd.C_below Kd.C_of_reads Kd.reads_of_C ReadsOf.at_ rdOf blk_new blk_below blk_cell blk_alloc blk_lt blk_frozen blk_drew blk_set Kd.C Kd.int)
set_option linter.unusedSimpArgs false
set_option linter.unusedVariables false
set_option maxRecDepth 50000
/-- The order of lists. -/
def cmpL : List Int → List Int → Int
  | [], [] => 0
  | [], _ :: _ => -1
  | _ :: _, [] => 1
  | a :: r, b :: s => if a < b then -1 else if b < a then 1 else cmpL r s
theorem cmp1 (a b : Int) : Pr.cmp_Compare_uint32.f a b = some (if a < b then -1 else if b < a then 1 else 0) := by
  unfold Pr.cmp_Compare_uint32.f Pr.cmp_isNaN_uint32.f
  have h1 : (a != a) = false := by simp
  have h2 : (b != b) = false := by simp
  simp only [Option.bind_some, h1, h2, Bool.false_eq_true, if_false]
  by_cases h : a < b
  · rw [if_pos h, if_pos h]
  · rw [if_neg h, if_neg h]
    by_cases h2 : b < a
    · rw [if_pos (by omega), if_pos h2]
    · rw [if_neg (by omega), if_neg h2]
theorem sc_ev (A B : List Int) (hA : A.length ≤ 1000000) : ∀ (d j : Nat), d = A.length - j → j ≤ A.length → j ≤ B.length →
    Ev (fun k => Pr.slices_Compare_uint32_uint32.l0 k A B A (A.length : Int) (j : Int)) (cmpL (A.drop j) (B.drop j))
  | 0, j, hd, hj, hb => by
    obtain rfl : j = A.length := by omega
    rw [List.drop_length]
    refine Ev.step (f := fun _ => some (cmpL [] (B.drop A.length))) (fun k => ?_) (Ev.now _)
    rw [Pr.slices_Compare_uint32_uint32.l0, if_neg (by omega)]
    by_cases h : A.length < B.length
    · rw [if_pos (by omega), drop_at h]; rfl
    · rw [if_neg (by omega), List.drop_of_length_le (by omega)]; rfl
  | d + 1, j, hd, hj, hb => by
    have hlt : j < A.length := by omega
    by_cases hB : j < B.length
    · have ih := sc_ev A B hA d (j + 1) (by omega) (by omega) (by omega)
      rw [drop_at hlt, drop_at hB]
      have w1 : wrap64 ((j : Int) + 1) = ((j + 1 : Nat) : Int) := by unfold wrap64; omega
      have r1 : rd A (j : Int) = A.getD j 0 := by unfold rd; rw [Int.toNat_natCast]
      have r2 : rd B (j : Int) = B.getD j 0 := by unfold rd; rw [Int.toNat_natCast]
      generalize A.getD j 0 = a at *
      generalize B.getD j 0 = b at *
      by_cases h : a < b
      · refine Ev.step (f := fun _ => some (cmpL (a :: A.drop (j + 1)) (b :: B.drop (j + 1)))) (fun k => ?_) (Ev.now _)
        rw [Pr.slices_Compare_uint32_uint32.l0, if_pos (by omega), if_pos (by omega), if_pos (by omega), if_neg (by omega), if_pos (by omega), r1, r2, cmp1, Option.bind_some, if_pos h, if_neg (by omega)]
        simp only [cmpL]; rw [if_pos h]
      · by_cases h2 : b < a
        · refine Ev.step (f := fun _ => some (cmpL (a :: A.drop (j + 1)) (b :: B.drop (j + 1)))) (fun k => ?_) (Ev.now _)
          rw [Pr.slices_Compare_uint32_uint32.l0, if_pos (by omega), if_pos (by omega), if_pos (by omega), if_neg (by omega), if_pos (by omega), r1, r2, cmp1, Option.bind_some, if_neg h, if_pos h2, if_neg (by omega)]
          simp only [cmpL]; rw [if_neg h, if_pos h2]
        · have e : cmpL (a :: A.drop (j + 1)) (b :: B.drop (j + 1)) = cmpL (A.drop (j + 1)) (B.drop (j + 1)) := by simp only [cmpL]; rw [if_neg h, if_neg h2]
          rw [e]
          refine Ev.step (fun k => ?_) ih
          rw [Pr.slices_Compare_uint32_uint32.l0, if_pos (by omega), if_pos (by omega), if_pos (by omega), if_neg (by omega), if_pos (by omega), r1, r2, cmp1, Option.bind_some, if_neg h, if_neg h2, if_pos rfl, w1]
    · rw [drop_at hlt, List.drop_of_length_le (by omega : B.length ≤ j)]
      refine Ev.step (f := fun _ => some 1) (fun k => ?_) (Ev.now _)
      rw [Pr.slices_Compare_uint32_uint32.l0, if_pos (by omega), if_pos (by omega), if_pos (by omega), if_pos (by omega)]
theorem drawn_below {w w' : World} (h : Go.Proofs.YtacpcagijfacnaaDoorW.PrintWords.Drawn0 w w') : Below w.heap.size w w' := by
  obtain ⟨m, rfl⟩ := h
  exact Go.Proofs.YtacpcagijfacnaaDoorW.PrintWords.pw_below_drewN (Below.refl _ _) m
theorem scompare_is (A0 A1 : Option Addr) (c0 c1 : Nat) (l0 l1 : List Int) (w : World) (h0 : l0.length ≤ 1000000) (hr0 : Kd.C (Kd.int .u32) w A0 l0.length l0) (hc0 : l0.length ≤ c0) (hr1 : Kd.C (Kd.int .u32) w A1 l1.length l1) (hc1 : l1.length ≤ c1) :
    Calls Tryd.prog 33 #[.slice A0 l0.length c0, .slice A1 l1.length c1] w fun e w' => e = .returned (.int .i64 (cmpL l0 l1)) ∧ Below w.heap.size w w' := by
  obtain ⟨K, h⟩ := sc_ev l0 l1 h0 l0.length 0 rfl (by omega) (by omega)
  exact (Pr.slices_Compare_uint32_uint32.calls K A0 c0 l0 A1 c1 l1 _ w hr0 hc0 hr1 hc1 (by have := h K (Nat.le_refl _); simpa [Pr.slices_Compare_uint32_uint32.f] using this)).mono fun e w' ⟨he, hd⟩ => ⟨he, drawn_below hd⟩
/-- The arcs that count. -/
def arcsO (N : Nat) (xs : List Int) : List Int := xs.take (min N 16)
theorem arcsO_len {N : Nat} {xs : List Int} (h : xs.length = 16) : (arcsO N xs).length = min N 16 := by unfold arcsO; rw [List.length_take]; omega
theorem oid_src {W : World} {g N : Nat} {xs : List Int} {n : Int} {t : TypeId} (hx : xs.length = 16) (h : W.heap[g]? = some (.cells (oidC n xs) t (0, 0))) : Kd.C (Kd.int .u32) W (some ⟨g, 1, none⟩) (arcsO N xs).length (arcsO N xs) := by
  have hl := arcsO_len (N := N) hx
  refine Kd.C_of_reads (d := (0 : Int)) ⟨rfl, by omega, fun hn => ⟨⟨g, 1, none⟩, rfl, fun j hj => ?_⟩⟩
  rw [Lib.add_plain, (oid_cells h).2 j (by omega)]
  unfold arcsO at hj ⊢
  rw [List.getD_eq_getElem?_getD, List.getD_eq_getElem?_getD, List.getElem?_take, if_pos (by rw [List.length_take] at hj; omega)]
theorem arcs_of (g N : Nat) (xs : List Int) (w : World) (h : w.cell? ⟨g, 0, none⟩ = some (.int .u8 (N : Int))) (hN : N < 256) (hx : xs.length = 16) :
    Calls Tryd.prog 27 #[.pointer (some ⟨g, 0, none⟩)] w fun e w' => e = .returned (.slice (some ⟨g, 1, none⟩) (arcsO N xs).length 16) ∧ Below w.heap.size w w' := by
  rw [arcsO_len hx]
  exact arcs_is g N w h hN
/-- Two boxed OIDs in a world that has grown out of w. -/
structure Bx2 (N : Nat) (xs : List Int) (M : Nat) (ys : List Int) (w W : World) : Prop where
  b : Below w.heap.size w W
  x : W.heap[w.heap.size]? = some (.cells (oidC (N : Int) xs) 27 (0, 0))
  y : W.heap[w.heap.size + 1]? = some (.cells (oidC (M : Int) ys) 27 (0, 0))
theorem Bx2.next {N M : Nat} {xs ys : List Int} {w W W' : World} (h : Bx2 N xs M ys w W) (hb : Below W.heap.size W W') : Bx2 N xs M ys w W' := ⟨h.b.trans (hb.mono h.b.size), blk_below h.x hb, blk_below h.y hb⟩
theorem Bx2.start (N : Nat) (xs : List Int) (M : Nat) (ys : List Int) (w : World) : Bx2 N xs M ys w ((w.alloc (.cells (oidC (N : Int) xs) 27)).alloc (.cells (oidC (M : Int) ys) 27)) := by
  refine ⟨((Below.refl _ _).alloc (Nat.le_refl _) _).alloc (by simp) _, blk_alloc (blk_new w _) _, ?_⟩
  have := blk_new (w.alloc (.cells (oidC (N : Int) xs) 27)) (.cells (oidC (M : Int) ys) 27)
  rwa [World.size_alloc] at this
set_option maxHeartbeats 2000000 in
theorem compare_any (N : Nat) (xs : List Int) (M : Nat) (ys : List Int) (w : World) (hN : N < 256) (hM : M < 256) (hx : xs.length = 16) (hy : ys.length = 16) :
    Calls Tryd.prog 17 #[oidV (N : Int) xs, oidV (M : Int) ys] w fun e w' => e = .returned (.int .i64 (cmpL (arcsO N xs) (arcsO M ys))) ∧ Below w.heap.size w w' := by
  have S := Lib.hid (Bx2.start N xs M ys w)
  have HX := Lib.hid hx
  have HY := Lib.hid hy
  have LX := Lib.hid (arcsO_len (N := N) hx)
  have LY := Lib.hid (arcsO_len (N := M) hy)
  clear hx hy
  go_enter Tryd.func17, Tryd.ntmps17
  go_wp2_with (first
    | (go_at_call 27; first
        | (with_reducible refine (arcs_of w.heap.size N xs _ (oid_cells S.out.x).1 hN HX.out).mono ?_; rintro e w1 ⟨rfl, hb⟩; have S1 := Lib.hid (S.out.next hb); clear hb)
        | (with_reducible refine (arcs_of (w.heap.size + 1) M ys _ (oid_cells S1.out.y).1 hM HY.out).mono ?_; rintro e w2 ⟨rfl, hb⟩; have S2 := Lib.hid (S1.out.next hb); clear hb))
    | (go_at_call 33; refine (scompare_is _ _ 16 16 _ _ _ (by rw [LX.out]; omega) (oid_src HX.out S2.out.x) (by rw [LX.out]; omega) (oid_src HY.out S2.out.y) (by rw [LY.out]; omega)).mono ?_; rintro e w3 ⟨rfl, hb⟩; have S3 := Lib.hid (S2.out.next hb); clear hb))
  go_ret
  exact ⟨rfl, S3.out.b⟩
end Go.Proofs.YtacpcagijfacnaaDoor
