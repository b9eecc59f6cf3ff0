/- Chapter 10 (times): the contract of Seconds. -/
import Derived.Test.YtbncjjobdipmgaaDoorWe
namespace Go.Proofs.YtbncjjobdipmgaaDoor
open Go.RowKit Pl

theorem seconds_no (y mo d h mi s : Int) (w : World) (hT : Tabs w) (hk : okB y mo d h mi s = false) :
    Calls Tryd.prog 18 #[.agg #[.int .i64 y, .int .i64 mo, .int .i64 d, .int .i64 h, .int .i64 mi, .int .i64 s]] w fun e w' => e = .returned (.int .i64 (-1)) ∧ Below w.heap.size w w' := by
  have H : Hid (∀ w, Tabs w → Calls Tryd.prog 15 #[.agg #[.int .i64 y, .int .i64 mo, .int .i64 d, .int .i64 h, .int .i64 mi, .int .i64 s]] w fun e w' => e = .returned (.int .i64 1) ∧ Below w.heap.size w w') := fun w hT => check_no hk w hT
  clear hk
  have hS := (St.refl hT).alloc (.cells #[.int .i64 y, .int .i64 mo, .int .i64 d, .int .i64 h, .int .i64 mi, .int .i64 s] 23)
  go_enter Tryd.func18, Tryd.ntmps18
  go_wp2_with (go_at_call 15; refine (H.out _ (hT.alloc _)).mono ?_; rintro e w' ⟨rfl, hb⟩; have hS' := hS.next hb)
  go_ret
  exact ⟨rfl, St.b (w := w) (by assumption)⟩

set_option maxHeartbeats 1000000 in
theorem seconds_ok (y d h mi s : Int) (M : Nat) (w : World) (hT : Tabs w) (hk : okB y ((M : Int) + 1) d h mi s = true) :
    Calls Tryd.prog 18 #[.agg #[.int .i64 y, .int .i64 ((M : Int) + 1), .int .i64 d, .int .i64 h, .int .i64 mi, .int .i64 s]] w fun e w' => e = .returned (.int .i64 (86400 * (dby y + cumd y M + (d - 1)) + 3600 * h + 60 * mi + s)) ∧ Below w.heap.size w w' := by
  obtain ⟨b0, b1, b2, b3, b4, _, b5, b6, b7, b8, b9, b10, b11⟩ := okB_bounds hk
  have H : Hid (∀ w, Tabs w → Calls Tryd.prog 15 #[.agg #[.int .i64 y, .int .i64 ((M : Int) + 1), .int .i64 d, .int .i64 h, .int .i64 mi, .int .i64 s]] w fun e w' => e = .returned (.int .i64 0) ∧ Below w.heap.size w w') := fun w hT => check_ok hk w hT
  clear hk
  have hB := dby_bd y b0 (by omega)
  have hC := cumd_le y M
  go_enter Tryd.func18, Tryd.ntmps18
  go_wp2_with (first
    | (go_at_call 15; refine (H.out _ (hT.alloc _)).mono ?_; rintro e w1 ⟨rfl, hb⟩; have h6 := six_new hb hT; obtain ⟨c0, c1, c2, c3, c4, c5, hS⟩ := h6)
    | (go_at_call 34; refine (before_any _ b0 (by omega) _).mono ?_; rintro e w1 ⟨rfl, rfl⟩))
  go_loop [3, 4] (fun n m => ∃ k : Nat, k ≤ M ∧ m = .int .i64 ((k : Int) + 1) ∧ n = .int .i64 (dby y + cumd y k)) (fun _ m => M + 1 - (intOf m).toNat)
  case atStart => exact ⟨0, by omega, rfl, by simp [cumd]⟩
  case round =>
    obtain ⟨k, hk, rfl, rfl⟩ := hrel
    have hD := cumd_le y k
    by_cases hlt : k < M
    · have hE := cumd_le y (k + 1)
      have hF : Hid (cumd y (k + 1) = cumd y k + dim y ((k : Int) + 1)) := rfl
      have hG := dim_le y ((k : Int) + 1)
      go_wp2_with (go_at_call 12; refine (days_any _ _ _ hS.t).mono ?_; rintro e w1 ⟨rfl, rfl⟩)
      go_round
      case rel => exact ⟨k + 1, by omega, by go_num, by rw [hF.out]; go_num⟩
      case measure => simp [intOf]; omega
    · obtain rfl : k = M := by omega
      go_wp2
      go_ret
      exact ⟨rfl, hS.b⟩
end Go.Proofs.YtbncjjobdipmgaaDoor
