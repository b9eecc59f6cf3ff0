/- Chapters 6, 7 (oids, oidsets): the reference's Check, Any, Compare. -/
import Derived.Test.YtacpcagijfacnaaDoorWd
namespace Go.Proofs.YtacpcagijfacnaaDoor
open Go.RowKit Go.Shelf
open Go.Proofs.YtacpcagijfacnaaDoorW.PrintWords (rd Ev at_rounds gate_dst gate_store Kd.C_below Kd.C_of_reads Kd.reads_of_C ReadsOf.at_ rdOf blk_new blk_below blk_cell blk_alloc blk_lt blk_frozen blk_drew blk_set Kd.C Kd.int)
set_option linter.unusedSimpArgs false
set_option linter.unusedVariables false
set_option maxRecDepth 50000
set_option maxHeartbeats 4000000 in
theorem rcheck_any (N : Nat) (xs : List Int) (w : World) (hl : xs.length = 16) (h0 : N < 256) :
    Calls Tryd.prog 18 #[oidV (N : Int) xs] w fun e w' => e = .returned (.int .i64 (chkO (N : Int) xs)) ∧ Below w.heap.size w w' := by
  have hb := Lib.hid ((Below.refl w.heap.size w).alloc (Nat.le_refl _) (.cells (oidC N xs) 27))
  have hB := blk_new w (.cells (oidC N xs) 27)
  obtain ⟨c0, ca⟩ := oid_cells hB
  have c1 := ca 0 (by omega)
  have c2 := ca 1 (by omega)
  have CA := Lib.hid ca
  clear ca hB
  unfold chkO
  generalize hW : w.alloc (.cells (oidC N xs) 27) = W at *
  go_enter Tryd.func18, Tryd.ntmps18
  by_cases h1 : (N : Int) < 2
  · rw [if_pos h1]
    go_wp2
    go_ret
    exact ⟨rfl, hb.out⟩
  rw [if_neg h1]
  by_cases h2 : 16 < (N : Int)
  · rw [if_pos h2]
    go_wp2
    go_ret
    exact ⟨rfl, hb.out⟩
  rw [if_neg h2, Int.toNat_natCast]
  generalize hr0 : (if 2 < xs.getD 0 0 then (1 : Int) else if xs.getD 0 0 < 2 ∧ 39 < xs.getD 1 0 then 1 else if 4294967215 < xs.getD 1 0 then 1 else if ∀ x ∈ xs.drop N, x = 0 then 0 else 1) = r
  generalize ha0 : xs.getD 0 0 = a0 at *
  generalize ha1 : xs.getD 1 0 = a1 at *
  have hr := Lib.hid hr0
  clear hr0
  have HL := Lib.hid hl
  clear hl
  have hN16 : N ≤ 16 := by omega
  go_upto_region 4 with fail
  go_loop [3] (fun i => ∃ k : Nat, N ≤ k ∧ k ≤ 16 ∧ i = .int .i64 (k : Int) ∧ Hid ((∀ x ∈ xs.drop k, x = 0) ↔ ∀ x ∈ xs.drop N, x = 0)) (fun i => 16 - (intOf i).toNat)
  case atStart => exact ⟨N, Nat.le_refl _, hN16, by first | rfl | go_num, Iff.rfl⟩
  case round =>
    obtain ⟨k, hk0, hk, rfl, hc⟩ := hrel
    by_cases hlt : k < 16
    · have cx := CA.out k (by rw [HL.out]; omega)
      have hd := hc.out
      rw [drop_at (show k < xs.length by rw [HL.out]; omega)] at hd
      generalize hx : xs.getD k 0 = x at *
      by_cases hx0 : x = 0
      · subst hx0
        have HD : Hid ((∀ x ∈ xs.drop (k + 1), x = 0) ↔ ∀ x ∈ xs.drop N, x = 0) := by
          refine Iff.trans ⟨fun h x hx => ?_, fun h x hx => h x (List.mem_cons_of_mem _ hx)⟩ hd
          rcases List.mem_cons.mp hx with rfl | hx
          · rfl
          · exact h x hx
        clear hd hc hx
        go_wp2
        go_round
        case rel => exact ⟨k + 1, by omega, by omega, by go_num, HD⟩
        case measure => simp [intOf]; omega
      · have hn : ¬ ∀ x ∈ xs.drop N, x = 0 := fun h => hx0 (hd.mpr h x (by simp))
        obtain rfl : r = 1 := by
          rw [← hr.out, if_neg hn]
          repeat' split
          all_goals rfl
        clear hd hc hx hn
        go_wp2
        go_ret
        exact ⟨rfl, hb.out⟩
    · obtain rfl : k = 16 := by omega
      have hd := hc.out
      rw [List.drop_of_length_le (by rw [HL.out]; omega)] at hd
      have hz := hd.mp (by simp)
      clear hd hc
      rw [if_pos hz] at hr
      clear hz
      by_cases g1 : 2 < a0
      · obtain rfl : r = 1 := by rw [← hr.out, if_pos g1]
        have g2 : ¬ a0 < 2 := by omega
        have g3 : ¬ a0 = 2 := by omega
        clear hr
        go_wp2
        go_ret
        exact ⟨rfl, hb.out⟩
      by_cases g4 : a0 < 2
      · by_cases g5 : 39 < a1
        · obtain rfl : r = 1 := by rw [← hr.out, if_neg g1, if_pos ⟨g4, g5⟩]
          have g6 : ¬ a1 < 40 := by omega
          have g3 : ¬ a0 = 2 := by omega
          clear hr
          go_wp2
          go_ret
          exact ⟨rfl, hb.out⟩
        · obtain rfl : r = 0 := by rw [← hr.out, if_neg g1, if_neg (fun h => g5 h.2), if_neg (by omega)]
          have g6 : a1 < 40 := by omega
          clear hr
          go_wp2
          go_ret
          exact ⟨rfl, hb.out⟩
      · have g3 : a0 = 2 := by omega
        by_cases g7 : 4294967215 < a1
        · obtain rfl : r = 1 := by rw [← hr.out, if_neg g1, if_neg (fun h => g4 h.1), if_pos g7]
          clear hr ha0
          subst g3
          go_wp2
          go_ret
          exact ⟨rfl, hb.out⟩
        · obtain rfl : r = 0 := by rw [← hr.out, if_neg g1, if_neg (fun h => g4 h.1), if_neg g7]
          clear hr ha0
          subst g3
          go_wp2
          go_ret
          exact ⟨rfl, hb.out⟩
end Go.Proofs.YtacpcagijfacnaaDoor
