/- Chapters 6, 7 (oids, oidsets): the reference's Compare. -/
import Derived.Test.YtacpcagijfacnaaDoorWf
namespace Go.Proofs.YtacpcagijfacnaaDoor
open Go.RowKit Go.Shelf
open Go.Proofs.YtacpcagijfacnaaDoorW.PrintWords (rd Ev at_rounds gate_dst gate_store Kd.C_below Kd.C_of_reads Kd.reads_of_C ReadsOf.at_ rdOf blk_new blk_below blk_cell blk_alloc blk_lt blk_frozen blk_drew blk_set Kd.C Kd.int)
set_option linter.unusedSimpArgs false
set_option linter.unusedVariables false
set_option maxRecDepth 50000
theorem arcsO_at {N : Nat} {xs : List Int} {j : Nat} (hx : xs.length = 16) (hj : j < (arcsO N xs).length) : (arcsO N xs).getD j 0 = xs.getD j 0 := by
  unfold arcsO at hj ⊢
  rw [List.getD_eq_getElem?_getD, List.getD_eq_getElem?_getD, List.getElem?_take, if_pos (by rw [List.length_take] at hj; omega)]
theorem cmpL_cons (a b : Int) (r s : List Int) : cmpL (a :: r) (b :: s) = if a < b then -1 else if b < a then 1 else cmpL r s := rfl
theorem Bx2.drew {N M : Nat} {xs ys : List Int} {w W : World} (h : Bx2 N xs M ys w W) : Bx2 N xs M ys w W.drew := h.next ((Below.refl _ _).drew)
set_option maxHeartbeats 4000000 in
theorem rcompare_any (N : Nat) (xs : List Int) (M : Nat) (ys : List Int) (w : World) (hN : N < 256) (hM : M < 256) (hx : xs.length = 16) (hy : ys.length = 16) :
    Calls Tryd.prog 16 #[oidV (N : Int) xs, oidV (M : Int) ys] w fun e w' => e = .returned (.int .i64 (cmpL (arcsO N xs) (arcsO M ys))) ∧ Below w.heap.size w w' := by
  have S := Lib.hid (Bx2.start N xs M ys w)
  have HX := Lib.hid hx
  have HY := Lib.hid hy
  have LX := Lib.hid (arcsO_len (N := N) hx)
  have LY := Lib.hid (arcsO_len (N := M) hy)
  clear hx hy
  obtain ⟨P, hP⟩ : ∃ P, P = min N 16 := ⟨_, rfl⟩
  obtain ⟨Q, hQ⟩ : ∃ Q, Q = min M 16 := ⟨_, rfl⟩
  have hm1 : min (N : Int) 16 = (P : Int) := by omega
  have hm2 : min (M : Int) 16 = (Q : Int) := by omega
  have hP16 : P ≤ 16 := by omega
  have hQ16 : Q ≤ 16 := by omega
  rw [← hP] at LX
  rw [← hQ] at LY
  clear hP hQ
  have x0 := (oid_cells S.out.x).1
  have y0 := (oid_cells S.out.y).1
  have A0 := Lib.hid (fun j (hj : j < (arcsO N xs).length) => arcsO_at HX.out hj)
  have B0 := Lib.hid (fun j (hj : j < (arcsO M ys).length) => arcsO_at HY.out hj)
  generalize hA : arcsO N xs = A at *
  generalize hB : arcsO M ys = B at *
  clear hA hB
  go_enter Tryd.func16, Tryd.ntmps16
  go_upto_region 1 with fail
  generalize (w.alloc (.cells (oidC (N : Int) xs) 27)).alloc (.cells (oidC (M : Int) ys) 27) = W at *
  go_region
  have S1 := Lib.hid (S.out.drew)
  generalize W.drew = W1 at *
  go_upto_region 3 with fail
  go_loopw [7] (fun i wr => ∃ j : Nat, j ≤ P ∧ j ≤ Q ∧ i = .int .i64 (j : Int) ∧ Hid (Bx2 N xs M ys w wr) ∧ Hid (cmpL (A.drop j) (B.drop j) = cmpL A B)) (fun i _ => 16 - (intOf i).toNat)
  case atStart => exact ⟨0, Nat.zero_le _, Nat.zero_le _, rfl, S1, Lib.hid rfl⟩
  case round =>
    obtain ⟨j, hj1, hj2, rfl, T, hc⟩ := hrel
    by_cases hlt : j < P ∧ j < Q
    · obtain ⟨g1, g2⟩ := hlt
      have cx := (oid_cells T.out.x).2 j (by rw [HX.out]; omega)
      have cy := (oid_cells T.out.y).2 j (by rw [HY.out]; omega)
      have T1 := Lib.hid T.out.drew
      have T2 := Lib.hid T.out.drew.drew
      have cx1 := (oid_cells T1.out.x).2 j (by rw [HX.out]; omega)
      have cy1 := (oid_cells T1.out.y).2 j (by rw [HY.out]; omega)
      have hd := hc.out
      rw [drop_at (show j < A.length by rw [LX.out]; exact g1), drop_at (show j < B.length by rw [LY.out]; exact g2), cmpL_cons, A0.out j (by rw [LX.out]; exact g1), B0.out j (by rw [LY.out]; exact g2)] at hd
      have h16 : j < 16 := by omega
      generalize xs.getD j 0 = a at *
      generalize ys.getD j 0 = b at *
      rcases Int.lt_trichotomy a b with h | h | h
      · rw [if_pos h] at hd
        have HD := Lib.hid hd
        clear hd hc
        go_upto_region 5 with fail
        go_region
        go_wp2
        go_ret
        exact ⟨congrArg (fun z => Ending.returned (.int .i64 z)) HD.out, T1.out.b⟩
      · subst h
        rw [if_neg (by omega), if_neg (by omega)] at hd
        have HD := Lib.hid hd
        clear hd hc
        go_upto_region 5 with fail
        go_region
        go_upto_region 7 with fail
        go_region
        go_wp2
        go_round
        case rel => exact ⟨j + 1, by omega, by omega, by go_num, T2, HD⟩
        case measure => simp [intOf]; omega
      · rw [if_neg (by omega), if_pos h] at hd
        have HD := Lib.hid hd
        have h' : ¬ a < b := by omega
        clear hd hc
        go_upto_region 5 with fail
        go_region
        go_upto_region 7 with fail
        go_region
        go_wp2
        go_ret
        exact ⟨congrArg (fun z => Ending.returned (.int .i64 z)) HD.out, T2.out.b⟩
    · have hd := hc.out
      by_cases e1 : j = P
      · subst e1
        rw [List.drop_of_length_le (by rw [LX.out]; omega)] at hd
        by_cases e2 : j = Q
        · subst e2
          rw [List.drop_of_length_le (by rw [LY.out]; omega)] at hd
          have HD := Lib.hid hd
          clear hd hc hlt
          go_wp2
          go_ret
          exact ⟨congrArg (fun z => Ending.returned (.int .i64 z)) HD.out, T.out.b⟩
        · have g : j < Q := by omega
          rw [drop_at (show j < B.length by rw [LY.out]; exact g)] at hd
          have HD := Lib.hid hd
          clear hd hc hlt
          go_wp2
          go_ret
          exact ⟨congrArg (fun z => Ending.returned (.int .i64 z)) HD.out, T.out.b⟩
      · have e2 : j = Q := by omega
        have g : j < P := by omega
        subst e2
        rw [List.drop_of_length_le (by rw [LY.out]; omega : B.length ≤ j), drop_at (show j < A.length by rw [LX.out]; exact g)] at hd
        have HD := Lib.hid hd
        clear hd hc hlt
        go_wp2
        go_ret
        exact ⟨congrArg (fun z => Ending.returned (.int .i64 z)) HD.out, T.out.b⟩
end Go.Proofs.YtacpcagijfacnaaDoor
