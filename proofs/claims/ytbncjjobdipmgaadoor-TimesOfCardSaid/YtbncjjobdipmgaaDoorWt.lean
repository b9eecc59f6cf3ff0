/- Chapter 10 (times): the contract of the reference's Check. -/
import Derived.Test.YtbncjjobdipmgaaDoorWs
namespace Go.Proofs.YtbncjjobdipmgaaDoor
open Go.RowKit Pl

theorem rcheck_0 (y mo d h mi s : Int) (w : World) (h0 : y < 0) : Calls Tryd.prog 14 #[.agg #[.int .i64 y, .int .i64 mo, .int .i64 d, .int .i64 h, .int .i64 mi, .int .i64 s]] w fun e w' => e = .returned (.int .i64 1) ∧ Below w.heap.size w w' := by
  have g0 : decide (y < 0) = true := by simp; omega
  go_enter Tryd.func14, Tryd.ntmps14
  go_wp2_with fail
  go_quiet (fail)
  go_wp2
  go_ret
  exact ⟨rfl, below_drewN ((Below.refl _ _).alloc (Nat.le_refl _) _) _⟩

theorem rcheck_1 (y mo d h mi s : Int) (w : World) (h0 : 0 ≤ y) (h1 : 9999 < y) : Calls Tryd.prog 14 #[.agg #[.int .i64 y, .int .i64 mo, .int .i64 d, .int .i64 h, .int .i64 mi, .int .i64 s]] w fun e w' => e = .returned (.int .i64 1) ∧ Below w.heap.size w w' := by
  have g0 : decide (y < 0) = false := by simp; omega
  have g1 : decide (9999 < y) = true := by simp; omega
  go_enter Tryd.func14, Tryd.ntmps14
  go_wp2_with fail
  go_quiet (fail)
  go_wp2
  go_ret
  exact ⟨rfl, below_drewN ((Below.refl _ _).alloc (Nat.le_refl _) _) _⟩

theorem rcheck_2 (y mo d h mi s : Int) (w : World) (h0 : 0 ≤ y) (h1 : y ≤ 9999) (h2 : d < 1) : Calls Tryd.prog 14 #[.agg #[.int .i64 y, .int .i64 mo, .int .i64 d, .int .i64 h, .int .i64 mi, .int .i64 s]] w fun e w' => e = .returned (.int .i64 1) ∧ Below w.heap.size w w' := by
  have g0 : decide (y < 0) = false := by simp; omega
  have g1 : decide (9999 < y) = false := by simp; omega
  have g2 : decide (d < 1) = true := by simp; omega
  go_enter Tryd.func14, Tryd.ntmps14
  go_wp2_with fail
  go_quiet (fail)
  go_wp2
  go_ret
  exact ⟨rfl, below_drewN ((Below.refl _ _).alloc (Nat.le_refl _) _) _⟩

theorem rcheck_3 (y mo d h mi s D : Int) (w : World) (hT : Tabs w)
  (H : Hid (∀ w, Tabs w → Calls Tryd.prog 13 #[.int .i64 y, .int .i64 mo] w fun e w' => e = .returned (.int .i64 D) ∧ w' = w)) (h0 : 0 ≤ y) (h1 : y ≤ 9999) (h2 : 1 ≤ d) (h3 : D < d) : Calls Tryd.prog 14 #[.agg #[.int .i64 y, .int .i64 mo, .int .i64 d, .int .i64 h, .int .i64 mi, .int .i64 s]] w fun e w' => e = .returned (.int .i64 1) ∧ Below w.heap.size w w' := by
  have g0 : decide (y < 0) = false := by simp; omega
  have g1 : decide (9999 < y) = false := by simp; omega
  have g2 : decide (d < 1) = false := by simp; omega
  have g3 : decide (D < d) = true := by simp; omega
  go_enter Tryd.func14, Tryd.ntmps14
  go_wp2_with fail
  go_quiet ((go_at_call 13; exact Calls.quiet_of_same (H.out _ ((hT.alloc _).drewN _))))
  go_wp2
  go_ret
  exact ⟨rfl, below_drewN ((Below.refl _ _).alloc (Nat.le_refl _) _) _⟩

theorem rcheck_4 (y mo d h mi s D : Int) (w : World) (hT : Tabs w)
  (H : Hid (∀ w, Tabs w → Calls Tryd.prog 13 #[.int .i64 y, .int .i64 mo] w fun e w' => e = .returned (.int .i64 D) ∧ w' = w)) (h0 : 0 ≤ y) (h1 : y ≤ 9999) (h2 : 1 ≤ d) (h3 : d ≤ D) (h4 : h < 0) : Calls Tryd.prog 14 #[.agg #[.int .i64 y, .int .i64 mo, .int .i64 d, .int .i64 h, .int .i64 mi, .int .i64 s]] w fun e w' => e = .returned (.int .i64 1) ∧ Below w.heap.size w w' := by
  have g0 : decide (y < 0) = false := by simp; omega
  have g1 : decide (9999 < y) = false := by simp; omega
  have g2 : decide (d < 1) = false := by simp; omega
  have g3 : decide (D < d) = false := by simp; omega
  have g4 : decide (h < 0) = true := by simp; omega
  go_enter Tryd.func14, Tryd.ntmps14
  go_wp2_with fail
  go_quiet ((go_at_call 13; exact Calls.quiet_of_same (H.out _ ((hT.alloc _).drewN _))))
  go_wp2
  go_ret
  exact ⟨rfl, below_drewN ((Below.refl _ _).alloc (Nat.le_refl _) _) _⟩

theorem rcheck_5 (y mo d h mi s D : Int) (w : World) (hT : Tabs w)
  (H : Hid (∀ w, Tabs w → Calls Tryd.prog 13 #[.int .i64 y, .int .i64 mo] w fun e w' => e = .returned (.int .i64 D) ∧ w' = w)) (h0 : 0 ≤ y) (h1 : y ≤ 9999) (h2 : 1 ≤ d) (h3 : d ≤ D) (h4 : 0 ≤ h) (h5 : 23 < h) : Calls Tryd.prog 14 #[.agg #[.int .i64 y, .int .i64 mo, .int .i64 d, .int .i64 h, .int .i64 mi, .int .i64 s]] w fun e w' => e = .returned (.int .i64 1) ∧ Below w.heap.size w w' := by
  have g0 : decide (y < 0) = false := by simp; omega
  have g1 : decide (9999 < y) = false := by simp; omega
  have g2 : decide (d < 1) = false := by simp; omega
  have g3 : decide (D < d) = false := by simp; omega
  have g4 : decide (h < 0) = false := by simp; omega
  have g5 : decide (23 < h) = true := by simp; omega
  go_enter Tryd.func14, Tryd.ntmps14
  go_wp2_with fail
  go_quiet ((go_at_call 13; exact Calls.quiet_of_same (H.out _ ((hT.alloc _).drewN _))))
  go_wp2
  go_ret
  exact ⟨rfl, below_drewN ((Below.refl _ _).alloc (Nat.le_refl _) _) _⟩

theorem rcheck_6 (y mo d h mi s D : Int) (w : World) (hT : Tabs w)
  (H : Hid (∀ w, Tabs w → Calls Tryd.prog 13 #[.int .i64 y, .int .i64 mo] w fun e w' => e = .returned (.int .i64 D) ∧ w' = w)) (h0 : 0 ≤ y) (h1 : y ≤ 9999) (h2 : 1 ≤ d) (h3 : d ≤ D) (h4 : 0 ≤ h) (h5 : h ≤ 23) (h6 : mi < 0) : Calls Tryd.prog 14 #[.agg #[.int .i64 y, .int .i64 mo, .int .i64 d, .int .i64 h, .int .i64 mi, .int .i64 s]] w fun e w' => e = .returned (.int .i64 1) ∧ Below w.heap.size w w' := by
  have g0 : decide (y < 0) = false := by simp; omega
  have g1 : decide (9999 < y) = false := by simp; omega
  have g2 : decide (d < 1) = false := by simp; omega
  have g3 : decide (D < d) = false := by simp; omega
  have g4 : decide (h < 0) = false := by simp; omega
  have g5 : decide (23 < h) = false := by simp; omega
  have g6 : decide (mi < 0) = true := by simp; omega
  go_enter Tryd.func14, Tryd.ntmps14
  go_wp2_with fail
  go_quiet ((go_at_call 13; exact Calls.quiet_of_same (H.out _ ((hT.alloc _).drewN _))))
  go_wp2
  go_ret
  exact ⟨rfl, below_drewN ((Below.refl _ _).alloc (Nat.le_refl _) _) _⟩

theorem rcheck_7 (y mo d h mi s D : Int) (w : World) (hT : Tabs w)
  (H : Hid (∀ w, Tabs w → Calls Tryd.prog 13 #[.int .i64 y, .int .i64 mo] w fun e w' => e = .returned (.int .i64 D) ∧ w' = w)) (h0 : 0 ≤ y) (h1 : y ≤ 9999) (h2 : 1 ≤ d) (h3 : d ≤ D) (h4 : 0 ≤ h) (h5 : h ≤ 23) (h6 : 0 ≤ mi) (h7 : 59 < mi) : Calls Tryd.prog 14 #[.agg #[.int .i64 y, .int .i64 mo, .int .i64 d, .int .i64 h, .int .i64 mi, .int .i64 s]] w fun e w' => e = .returned (.int .i64 1) ∧ Below w.heap.size w w' := by
  have g0 : decide (y < 0) = false := by simp; omega
  have g1 : decide (9999 < y) = false := by simp; omega
  have g2 : decide (d < 1) = false := by simp; omega
  have g3 : decide (D < d) = false := by simp; omega
  have g4 : decide (h < 0) = false := by simp; omega
  have g5 : decide (23 < h) = false := by simp; omega
  have g6 : decide (mi < 0) = false := by simp; omega
  have g7 : decide (59 < mi) = true := by simp; omega
  go_enter Tryd.func14, Tryd.ntmps14
  go_wp2_with fail
  go_quiet ((go_at_call 13; exact Calls.quiet_of_same (H.out _ ((hT.alloc _).drewN _))))
  go_wp2
  go_ret
  exact ⟨rfl, below_drewN ((Below.refl _ _).alloc (Nat.le_refl _) _) _⟩

theorem rcheck_8 (y mo d h mi s D : Int) (w : World) (hT : Tabs w)
  (H : Hid (∀ w, Tabs w → Calls Tryd.prog 13 #[.int .i64 y, .int .i64 mo] w fun e w' => e = .returned (.int .i64 D) ∧ w' = w)) (h0 : 0 ≤ y) (h1 : y ≤ 9999) (h2 : 1 ≤ d) (h3 : d ≤ D) (h4 : 0 ≤ h) (h5 : h ≤ 23) (h6 : 0 ≤ mi) (h7 : mi ≤ 59) (h8 : s < 0) : Calls Tryd.prog 14 #[.agg #[.int .i64 y, .int .i64 mo, .int .i64 d, .int .i64 h, .int .i64 mi, .int .i64 s]] w fun e w' => e = .returned (.int .i64 1) ∧ Below w.heap.size w w' := by
  have g0 : decide (y < 0) = false := by simp; omega
  have g1 : decide (9999 < y) = false := by simp; omega
  have g2 : decide (d < 1) = false := by simp; omega
  have g3 : decide (D < d) = false := by simp; omega
  have g4 : decide (h < 0) = false := by simp; omega
  have g5 : decide (23 < h) = false := by simp; omega
  have g6 : decide (mi < 0) = false := by simp; omega
  have g7 : decide (59 < mi) = false := by simp; omega
  have g8 : decide (s < 0) = true := by simp; omega
  go_enter Tryd.func14, Tryd.ntmps14
  go_wp2_with fail
  go_quiet ((go_at_call 13; exact Calls.quiet_of_same (H.out _ ((hT.alloc _).drewN _))))
  go_wp2
  go_ret
  exact ⟨rfl, below_drewN ((Below.refl _ _).alloc (Nat.le_refl _) _) _⟩

theorem rcheck_9 (y mo d h mi s D : Int) (w : World) (hT : Tabs w)
  (H : Hid (∀ w, Tabs w → Calls Tryd.prog 13 #[.int .i64 y, .int .i64 mo] w fun e w' => e = .returned (.int .i64 D) ∧ w' = w)) (h0 : 0 ≤ y) (h1 : y ≤ 9999) (h2 : 1 ≤ d) (h3 : d ≤ D) (h4 : 0 ≤ h) (h5 : h ≤ 23) (h6 : 0 ≤ mi) (h7 : mi ≤ 59) (h8 : 0 ≤ s) (h9 : 59 < s) : Calls Tryd.prog 14 #[.agg #[.int .i64 y, .int .i64 mo, .int .i64 d, .int .i64 h, .int .i64 mi, .int .i64 s]] w fun e w' => e = .returned (.int .i64 1) ∧ Below w.heap.size w w' := by
  have g0 : decide (y < 0) = false := by simp; omega
  have g1 : decide (9999 < y) = false := by simp; omega
  have g2 : decide (d < 1) = false := by simp; omega
  have g3 : decide (D < d) = false := by simp; omega
  have g4 : decide (h < 0) = false := by simp; omega
  have g5 : decide (23 < h) = false := by simp; omega
  have g6 : decide (mi < 0) = false := by simp; omega
  have g7 : decide (59 < mi) = false := by simp; omega
  have g8 : decide (s < 0) = false := by simp; omega
  have g9 : decide (59 < s) = true := by simp; omega
  go_enter Tryd.func14, Tryd.ntmps14
  go_wp2_with fail
  go_quiet ((go_at_call 13; exact Calls.quiet_of_same (H.out _ ((hT.alloc _).drewN _))))
  go_wp2
  go_ret
  exact ⟨rfl, below_drewN ((Below.refl _ _).alloc (Nat.le_refl _) _) _⟩

theorem rcheck_10 (y mo d h mi s D : Int) (w : World) (hT : Tabs w)
  (H : Hid (∀ w, Tabs w → Calls Tryd.prog 13 #[.int .i64 y, .int .i64 mo] w fun e w' => e = .returned (.int .i64 D) ∧ w' = w)) (h0 : 0 ≤ y) (h1 : y ≤ 9999) (h2 : 1 ≤ d) (h3 : d ≤ D) (h4 : 0 ≤ h) (h5 : h ≤ 23) (h6 : 0 ≤ mi) (h7 : mi ≤ 59) (h8 : 0 ≤ s) (h9 : s ≤ 59) : Calls Tryd.prog 14 #[.agg #[.int .i64 y, .int .i64 mo, .int .i64 d, .int .i64 h, .int .i64 mi, .int .i64 s]] w fun e w' => e = .returned (.int .i64 0) ∧ Below w.heap.size w w' := by
  have g0 : decide (y < 0) = false := by simp; omega
  have g1 : decide (9999 < y) = false := by simp; omega
  have g2 : decide (d < 1) = false := by simp; omega
  have g3 : decide (D < d) = false := by simp; omega
  have g4 : decide (h < 0) = false := by simp; omega
  have g5 : decide (23 < h) = false := by simp; omega
  have g6 : decide (mi < 0) = false := by simp; omega
  have g7 : decide (59 < mi) = false := by simp; omega
  have g8 : decide (s < 0) = false := by simp; omega
  have g9 : decide (59 < s) = false := by simp; omega
  go_enter Tryd.func14, Tryd.ntmps14
  go_wp2_with fail
  go_quiet ((go_at_call 13; exact Calls.quiet_of_same (H.out _ ((hT.alloc _).drewN _))))
  go_wp2
  go_ret
  exact ⟨rfl, below_drewN ((Below.refl _ _).alloc (Nat.le_refl _) _) _⟩

theorem rcheck_any (y mo d h mi s : Int) (w : World) (hT : Tabs w) : Calls Tryd.prog 14 #[.agg #[.int .i64 y, .int .i64 mo, .int .i64 d, .int .i64 h, .int .i64 mi, .int .i64 s]] w fun e w' => e = .returned (.int .i64 (chk y mo d h mi s)) ∧ Below w.heap.size w w' := by
  have H : Hid (∀ w, Tabs w → Calls Tryd.prog 13 #[.int .i64 y, .int .i64 mo] w fun e w' => e = .returned (.int .i64 (dim y mo)) ∧ w' = w) := fun w hT => refDays_any y mo w
  have no : ∀ p : Prop, p → (p → ¬ (0 ≤ y ∧ y ≤ 9999 ∧ 1 ≤ d ∧ d ≤ dim y mo ∧ 0 ≤ h ∧ h ≤ 23 ∧ 0 ≤ mi ∧ mi ≤ 59 ∧ 0 ≤ s ∧ s ≤ 59)) → chk y mo d h mi s = 1 := by
    intro p hp hn
    unfold chk okB
    rw [decide_eq_false (hn hp)]; rfl
  by_cases h0 : y < 0
  · rw [no _ h0 (by omega)]; exact rcheck_0 y mo d h mi s w h0
  by_cases h1 : 9999 < y
  · rw [no _ h1 (by omega)]; exact rcheck_1 y mo d h mi s w (by omega) h1
  by_cases h2 : d < 1
  · rw [no _ h2 (by omega)]; exact rcheck_2 y mo d h mi s w (by omega) (by omega) h2
  by_cases h3 : dim y mo < d
  · rw [no _ h3 (by omega)]; exact rcheck_3 y mo d h mi s (dim y mo) w hT H (by omega) (by omega) (by omega) h3
  by_cases h4 : h < 0
  · rw [no _ h4 (by omega)]; exact rcheck_4 y mo d h mi s (dim y mo) w hT H (by omega) (by omega) (by omega) (by omega) h4
  by_cases h5 : 23 < h
  · rw [no _ h5 (by omega)]; exact rcheck_5 y mo d h mi s (dim y mo) w hT H (by omega) (by omega) (by omega) (by omega) (by omega) h5
  by_cases h6 : mi < 0
  · rw [no _ h6 (by omega)]; exact rcheck_6 y mo d h mi s (dim y mo) w hT H (by omega) (by omega) (by omega) (by omega) (by omega) (by omega) h6
  by_cases h7 : 59 < mi
  · rw [no _ h7 (by omega)]; exact rcheck_7 y mo d h mi s (dim y mo) w hT H (by omega) (by omega) (by omega) (by omega) (by omega) (by omega) (by omega) h7
  by_cases h8 : s < 0
  · rw [no _ h8 (by omega)]; exact rcheck_8 y mo d h mi s (dim y mo) w hT H (by omega) (by omega) (by omega) (by omega) (by omega) (by omega) (by omega) (by omega) h8
  by_cases h9 : 59 < s
  · rw [no _ h9 (by omega)]; exact rcheck_9 y mo d h mi s (dim y mo) w hT H (by omega) (by omega) (by omega) (by omega) (by omega) (by omega) (by omega) (by omega) (by omega) h9
  have hy : chk y mo d h mi s = 0 := by
    unfold chk okB
    rw [decide_eq_true (by omega)]; rfl
  rw [hy]; exact rcheck_10 y mo d h mi s (dim y mo) w hT H (by omega) (by omega) (by omega) (by omega) (by omega) (by omega) (by omega) (by omega) (by omega) (by omega)

end Go.Proofs.YtbncjjobdipmgaaDoor
