/- Chapters 6, 7 (oids, oidsets): Has. -/
import Derived.Test.YtacpcagijfacnaaDoorWl
import Derived.Test.YtacpcagijfacnaaDoorWGuard
import Derived.Deep.RegionHeld3
namespace Go.Proofs.YtacpcagijfacnaaDoor
open Go.RowKit Go.Shelf
open Go.Proofs.YtacpcagijfacnaaDoorW.PrintWords (gate_guard rd Ev at_rounds gate_dst gate_store Kd.C_below Kd.C_of_reads Kd.reads_of_C ReadsOf.at_ rdOf blk_new blk_below blk_cell blk_alloc blk_lt blk_frozen blk_drew blk_set Kd.C Kd.int Kd.C_take)
set_option linter.unusedSimpArgs false
set_option linter.unusedVariables false
set_option maxRecDepth 50000
theorem eq_ev (A B : List Int) (hA : A.length ≤ 1000000) (hAB : A.length = B.length) : ∀ (d j : Nat), d = A.length - j → j ≤ A.length →
    Ev (fun k => Pr.slices_Equal_uint32_uint32.l0 k A B (A.length : Int) (j : Int)) (decide (A.drop j = B.drop j))
  | 0, j, hd, hj => by
    obtain rfl : j = A.length := by omega
    refine Ev.step (f := fun _ => some true) (fun k => ?_) ?_
    · rw [Pr.slices_Equal_uint32_uint32.l0, if_neg (by omega)]
    · rw [List.drop_length, List.drop_of_length_le (by omega)]; exact Ev.now _
  | d + 1, j, hd, hj => by
    have hlt : j < A.length := by omega
    have ih := eq_ev A B hA hAB d (j + 1) (by omega) (by omega)
    have hB : j < B.length := by omega
    rw [drop_at hlt, drop_at hB]
    have w1 : wrap64 ((j : Int) + 1) = ((j + 1 : Nat) : Int) := by unfold wrap64; omega
    have r1 : rd A (j : Int) = A.getD j 0 := by unfold rd; rw [Int.toNat_natCast]
    have r2 : rd B (j : Int) = B.getD j 0 := by unfold rd; rw [Int.toNat_natCast]
    generalize A.getD j 0 = a at *
    generalize B.getD j 0 = b at *
    by_cases h : a = b
    · subst h
      have e : decide (a :: A.drop (j + 1) = a :: B.drop (j + 1)) = decide (A.drop (j + 1) = B.drop (j + 1)) := by simp
      rw [e]
      refine Ev.step (fun k => ?_) ih
      rw [Pr.slices_Equal_uint32_uint32.l0, if_pos (by omega), if_pos (by omega), if_pos (by omega), if_pos (by omega), r1, r2, if_pos rfl, w1]
    · have e : decide (a :: A.drop (j + 1) = b :: B.drop (j + 1)) = false := by simp [h]
      rw [e]
      refine Ev.step (f := fun _ => some false) (fun k => ?_) (Ev.now _)
      rw [Pr.slices_Equal_uint32_uint32.l0, if_pos (by omega), if_pos (by omega), if_pos (by omega), if_pos (by omega), r1, r2, if_neg h]
theorem sequal_is (A0 A1 : Option Addr) (c0 c1 L0 L1 : Nat) (l0 l1 : List Int) (w : World) (e0 : l0.length = L0) (e1 : l1.length = L1) (h0 : l0.length ≤ 1000000) (hr0 : Kd.C (Kd.int .u32) w A0 l0.length l0) (hc0 : l0.length ≤ c0) (hr1 : Kd.C (Kd.int .u32) w A1 l1.length l1) (hc1 : l1.length ≤ c1) :
    Calls Tryd.prog 35 #[.slice A0 L0 c0, .slice A1 L1 c1] w fun e w' => e = .returned (.bool (decide (l0 = l1))) ∧ Below w.heap.size w w' := by
  subst e0 e1
  by_cases hl : l0.length = l1.length
  · obtain ⟨K, h⟩ := eq_ev l0 l1 h0 hl l0.length 0 rfl (by omega)
    exact (Pr.slices_Equal_uint32_uint32.calls K A0 c0 l0 A1 c1 l1 _ w hr0 hc0 hr1 hc1 (by have := h K (Nat.le_refl _); unfold Pr.slices_Equal_uint32_uint32.f; rw [if_pos (by omega)]; simpa using this)).mono fun e w' ⟨he, hd⟩ => ⟨he, drawn_below hd⟩
  · have e : decide (l0 = l1) = false := decide_eq_false fun h => hl (by rw [h])
    rw [e]
    exact (Pr.slices_Equal_uint32_uint32.calls 0 A0 c0 l0 A1 c1 l1 _ w hr0 hc0 hr1 hc1 (by unfold Pr.slices_Equal_uint32_uint32.f; rw [if_neg (by omega)])).mono fun e w' ⟨he, hd⟩ => ⟨he, drawn_below hd⟩
/-- Has, in plain data. -/
def hasO (N : Nat) (xs : List Int) (M : Nat) (ys : List Int) : Bool := decide (chkO (N : Int) xs = 0 ∧ chkO (M : Int) ys = 0 ∧ N < M ∧ arcsO N xs = (arcsO M ys).take N)
theorem chkO_n {N : Nat} {xs : List Int} (h : chkO (N : Int) xs = 0) : 2 ≤ N ∧ N ≤ 16 := by
  unfold chkO at h
  by_cases h1 : (N : Int) < 2
  · rw [if_pos h1] at h; cases h
  by_cases h2 : 16 < (N : Int)
  · rw [if_neg h1, if_pos h2] at h; cases h
  omega
theorem has_keep {N M : Nat} {xs ys : List Int} {w W W' : World} (h : W.cell? ⟨w.heap.size, 0, none⟩ = some (.int .u8 (N : Int)) ∧ Bx2 N xs M ys w W) (hb : Below W.heap.size W W') : W'.cell? ⟨w.heap.size, 0, none⟩ = some (.int .u8 (N : Int)) ∧ Bx2 N xs M ys w W' :=
  ⟨(oid_cells (h.2.next hb).x).1, h.2.next hb⟩
theorem arcs_x {N M : Nat} {xs ys : List Int} {w W : World} (hN : N < 256) (hx : xs.length = 16) (h : W.cell? ⟨w.heap.size, 0, none⟩ = some (.int .u8 (N : Int)) ∧ Bx2 N xs M ys w W) :
    Calls Tryd.prog 27 #[.pointer (some ⟨w.heap.size, 0, none⟩)] W fun e w' => e = .returned (.slice (some ⟨w.heap.size, 1, none⟩) (arcsO N xs).length 16) ∧ w'.cell? ⟨w.heap.size, 0, none⟩ = some (.int .u8 (N : Int)) ∧ Bx2 N xs M ys w w' :=
  (arcs_of w.heap.size N xs W h.1 hN hx).mono fun e w' ⟨h1, h2⟩ => ⟨h1, has_keep h h2⟩
theorem arcs_y {N M : Nat} {xs ys : List Int} {w W : World} (hM : M < 256) (hy : ys.length = 16) (h : W.cell? ⟨w.heap.size, 0, none⟩ = some (.int .u8 (N : Int)) ∧ Bx2 N xs M ys w W) :
    Calls Tryd.prog 27 #[.pointer (some ⟨w.heap.size + 1, 0, none⟩)] W fun e w' => e = .returned (.slice (some ⟨w.heap.size + 1, 1, none⟩) (arcsO M ys).length 16) ∧ w'.cell? ⟨w.heap.size, 0, none⟩ = some (.int .u8 (N : Int)) ∧ Bx2 N xs M ys w w' :=
  (arcs_of (w.heap.size + 1) M ys W (oid_cells h.2.y).1 hM hy).mono fun e w' ⟨h1, h2⟩ => ⟨h1, has_keep h h2⟩
set_option maxHeartbeats 4000000 in
theorem has_any (N : Nat) (xs : List Int) (M : Nat) (ys : List Int) (w : World) (hN : N < 256) (hM : M < 256) (hx : xs.length = 16) (hy : ys.length = 16) :
    Calls Tryd.prog 20 #[oidV (N : Int) xs, oidV (M : Int) ys] w fun e w' => e = .returned (.bool (hasO N xs M ys)) ∧ Below w.heap.size w w' := by
  generalize hres : hasO N xs M ys = r
  have HRES := Lib.hid hres
  have S := Lib.hid (Bx2.start N xs M ys w)
  have HX := Lib.hid hx
  have HY := Lib.hid hy
  have LX := Lib.hid (arcsO_len (N := N) hx)
  have LY := Lib.hid (arcsO_len (N := M) hy)
  have CX := Lib.hid (fun W => check_any (N : Int) xs W hx (by omega))
  have CY := Lib.hid (fun W => check_any (M : Int) ys W hy (by omega))
  clear hx hy hres
  by_cases h1 : chkO (N : Int) xs = 0
  case neg =>
    obtain rfl : r = false := by rw [← HRES.out]; unfold hasO; exact decide_eq_false fun h => h1 h.1
    have e1 := (chkO_01 (N : Int) xs).resolve_left h1
    rw [e1] at CX
    clear h1 e1
    go_enter Tryd.func20, Tryd.ntmps20
    go_wp2_with (first
      | ((with_reducible refine gate_dst (N := 5) rfl ?_); refine wpList_load_row rfl 27 _ rfl w.heap.size rfl 27 (oidC (N : Int) xs) (0, 0) _ S.out.x Tryd.underlying27 rfl (oid_info _ _ HX.out) ?_)
      | (go_at_call 25; refine (CX.out _).mono ?_; rintro e w1 ⟨rfl, hb⟩; have S1 := Lib.hid (S.out.next hb); clear hb))
    go_ret
    exact ⟨rfl, S1.out.b⟩
  case pos =>
  obtain ⟨n2, n16⟩ := chkO_n h1
  have H1 := Lib.hid h1
  rw [h1] at CX
  clear h1
  by_cases h2 : chkO (M : Int) ys = 0
  case neg =>
    obtain rfl : r = false := by rw [← HRES.out]; unfold hasO; exact decide_eq_false fun h => h2 h.2.1
    have e1 := (chkO_01 (M : Int) ys).resolve_left h2
    rw [e1] at CY
    clear h2 e1
    go_enter Tryd.func20, Tryd.ntmps20
    go_wp2_with (first
      | ((with_reducible refine gate_dst (N := 5) rfl ?_); refine wpList_load_row rfl 27 _ rfl w.heap.size rfl 27 (oidC (N : Int) xs) (0, 0) _ S.out.x Tryd.underlying27 rfl (oid_info _ _ HX.out) ?_)
      | ((with_reducible refine gate_dst (N := 9) rfl ?_); (try (refine gate_guard (by rfl) ?_; dsimp only)); refine wpList_load_row rfl 27 _ rfl (w.heap.size + 1) rfl 27 (oidC (M : Int) ys) (0, 0) _ S1.out.y Tryd.underlying27 rfl (oid_info _ _ HY.out) ?_)
      | (go_at_call 25; first
        | (with_reducible refine (CX.out _).mono ?_; rintro e w1 ⟨rfl, hb⟩; have S1 := Lib.hid (S.out.next hb); clear hb)
        | (with_reducible refine (CY.out _).mono ?_; rintro e w2 ⟨rfl, hb⟩; have S2 := Lib.hid (S1.out.next hb); clear hb)))
    go_ret
    exact ⟨rfl, S2.out.b⟩
  case pos =>
  obtain ⟨m2, m16⟩ := chkO_n h2
  have H2 := Lib.hid h2
  rw [h2] at CY
  clear h2
  by_cases h3 : N < M
  case neg =>
    obtain rfl : r = false := by rw [← HRES.out]; unfold hasO; exact decide_eq_false fun h => h3 h.2.2.1
    have h3' : ¬ (N : Int) < (M : Int) := by omega
    have h3'' : (M : Int) ≤ (N : Int) := by omega
    go_enter Tryd.func20, Tryd.ntmps20
    go_wp2_with (first
      | ((with_reducible refine gate_dst (N := 5) rfl ?_); refine wpList_load_row rfl 27 _ rfl w.heap.size rfl 27 (oidC (N : Int) xs) (0, 0) _ S.out.x Tryd.underlying27 rfl (oid_info _ _ HX.out) ?_)
      | ((with_reducible refine gate_dst (N := 9) rfl ?_); (try (refine gate_guard (by rfl) ?_; dsimp only)); refine wpList_load_row rfl 27 _ rfl (w.heap.size + 1) rfl 27 (oidC (M : Int) ys) (0, 0) _ S1.out.y Tryd.underlying27 rfl (oid_info _ _ HY.out) ?_)
      | (go_at_call 25; first
        | (with_reducible refine (CX.out _).mono ?_; rintro e w1 ⟨rfl, hb⟩; have S1 := Lib.hid (S.out.next hb); clear hb)
        | (with_reducible refine (CY.out _).mono ?_; rintro e w2 ⟨rfl, hb⟩; have S2 := Lib.hid (S1.out.next hb); clear hb; have c1 := (oid_cells S2.out.x).1; have c2 := (oid_cells S2.out.y).1)))
    go_ret
    exact ⟨rfl, S2.out.b⟩
  case pos =>
  have LX' : Hid ((arcsO N xs).length = N) := by have := LX.out; show _ = _; omega
  have LY' : Hid (((arcsO M ys).take N).length = N) := by have := LY.out; show _ = _; rw [List.length_take]; omega
  have e0 : r = decide (arcsO N xs = (arcsO M ys).take N) := by
    rw [← HRES.out]; unfold hasO
    rw [H1.out, H2.out]
    simp [h3]
  have E0 := Lib.hid e0
  clear e0 HRES
  have h3' : (N : Int) < (M : Int) := by omega
  have h3'' : ¬ (M : Int) ≤ (N : Int) := by omega
  have hN0 : ¬ (N : Int) < 0 := by omega
  have n16q : (N : Int) ≤ 16 := by omega
  have n16z : (0 : Int) ≤ (N : Int) := by omega
  obtain ⟨LA, hLA⟩ : ∃ LA, (arcsO M ys).length = LA := ⟨_, rfl⟩
  have HLA := Lib.hid hLA
  go_enter Tryd.func20, Tryd.ntmps20
  go_upto_region 3 with (first
    | ((with_reducible refine gate_dst (N := 5) rfl ?_); refine wpList_load_row rfl 27 _ rfl w.heap.size rfl 27 (oidC (N : Int) xs) (0, 0) _ S.out.x Tryd.underlying27 rfl (oid_info _ _ HX.out) ?_)
    | ((with_reducible refine gate_dst (N := 9) rfl ?_); (try (refine gate_guard (by rfl) ?_; dsimp only)); refine wpList_load_row rfl 27 _ rfl (w.heap.size + 1) rfl 27 (oidC (M : Int) ys) (0, 0) _ S1.out.y Tryd.underlying27 rfl (oid_info _ _ HY.out) ?_)
    | (go_at_call 25; first
      | (with_reducible refine (CX.out _).mono ?_; rintro e w1 ⟨rfl, hb⟩; have S1 := Lib.hid (S.out.next hb); clear hb)
      | (with_reducible refine (CY.out _).mono ?_; rintro e w2 ⟨rfl, hb⟩; have S2 := Lib.hid (S1.out.next hb); clear hb; have c1 := (oid_cells S2.out.x).1; have c2 := (oid_cells S2.out.y).1)))
  have hS : w2.cell? ⟨w.heap.size, 0, none⟩ = some (.int .u8 (N : Int)) ∧ Bx2 N xs M ys w w2 := ⟨c1, S2.out⟩
  have hS' := has_keep hS ((Below.refl _ _).drew)
  have HA := Lib.hid (fun W hW => arcs_x (N := N) (xs := xs) (M := M) (ys := ys) (w := w) (W := W) hN HX.out hW)
  have HB := Lib.hid (fun W hW => arcs_y (N := N) (xs := xs) (M := M) (ys := ys) (w := w) (W := W) hM HY.out hW)
  rw [HLA.out] at HB
  rw [LX'.out] at HA
  have HE : Hid (∀ W, (W.cell? ⟨w.heap.size, 0, none⟩ = some (.int .u8 (N : Int)) ∧ Bx2 N xs M ys w W) → Calls Tryd.prog 35 #[.slice (some ⟨w.heap.size, 1, none⟩) N 16, .slice (some ⟨w.heap.size + 1, 1, none⟩) N 16] W fun e w' => e = .returned (.bool (decide (arcsO N xs = (arcsO M ys).take N))) ∧ w'.cell? ⟨w.heap.size, 0, none⟩ = some (.int .u8 (N : Int)) ∧ Bx2 N xs M ys w w') := fun W hW =>
    (sequal_is _ _ 16 16 _ _ (arcsO N xs) ((arcsO M ys).take N) _ LX'.out LY'.out (by rw [LX'.out]; omega) (oid_src HX.out hW.2.x) (by rw [LX'.out]; omega) (by exact Kd.C_take (oid_src (N := M) HY.out hW.2.y) (by have := LY.out; omega)) (by rw [LY'.out]; omega)).mono fun e w' ⟨h1, h2⟩ => ⟨h1, has_keep hW h2⟩
  go_region_held3 (fun W => W.cell? ⟨w.heap.size, 0, none⟩ = some (.int .u8 (N : Int)) ∧ Bx2 N xs M ys w W)
    (first | assumption | exact has_keep (by assumption) (by assumption))
    (first
      | (go_at_call 27; first
          | ((with_reducible refine (HA.out _ (by assumption)).mono ?_); rintro e w' ⟨rfl, hk⟩)
          | ((with_reducible refine (HB.out _ (by assumption)).mono ?_); rintro e w' ⟨rfl, hk⟩))
      | (go_at_call 35; ((with_reducible refine (HE.out _ (by assumption)).mono ?_); rintro e w' ⟨rfl, hk⟩)))
  all_goals
    go_wp2
    go_ret
    exact ⟨congrArg (fun b => Ending.returned (.bool b)) E0.out.symm, hk.2.b⟩
end Go.Proofs.YtacpcagijfacnaaDoor
