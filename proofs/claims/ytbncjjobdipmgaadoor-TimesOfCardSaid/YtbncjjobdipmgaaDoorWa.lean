/- Chapter 10 (times): contracts of Leap, Days, Check. -/
import Derived.Test.YtbncjjobdipmgaaDoorProg
import Derived.Test.YtbncjjobdipmgaaDoorPl
import Derived.WalkKit
import Derived.Lib.Hide
import Derived.BigQuiet
import Derived.Deep.QuietTactic
namespace Go.Proofs.YtbncjjobdipmgaaDoor
open Go.RowKit Pl

theorem ret_bool {a b : Bool} (h : a = b) : Ending.returned (.bool a) = .returned (.bool b) := by rw [h]
theorem ret_int {k : IntKind} {a b : Int} (h : a = b) : Ending.returned (.int k a) = .returned (.int k b) := by rw [h]
theorem tmb (y k : Int) : (y.tmod k == 0) = decide (y % k = 0) := by
  rw [Bool.eq_iff_iff]; simp [tm]

theorem leap_any (y : Int) (w : World) : Calls Tryd.prog 10 #[.int .i64 y] w fun e w' => e = .returned (.bool (leapB y)) ∧ w = w' := by
  go_enter Tryd.func10, Tryd.ntmps10
  go_wp2
  all_goals
    go_ret
    refine ⟨ret_bool ?_, rfl⟩
    simp only [tm, tmb] at *
    first | (symm; apply leap_yes; omega) | (unfold leapB; rw [Bool.eq_iff_iff]; simp only [decide_eq_true_eq]; omega)

theorem refLeap_any (y : Int) (w : World) : Calls Tryd.prog 11 #[.int .i64 y] w fun e w' => e = .returned (.bool (leapB y)) ∧ w = w' := by
  go_enter Tryd.func11, Tryd.ntmps11
  go_wp2
  all_goals
    go_ret
    refine ⟨ret_bool ?_, rfl⟩
    simp only [tmb, decide_eq_true_eq, decide_eq_false_iff_not] at *
    first | (symm; apply leap_yes; omega) | (symm; apply leap_no; omega) | (unfold leapB; rw [Bool.eq_iff_iff]; simp only [decide_eq_true_eq]; omega)

theorem days_none (y m : Int) (w : World) (h : m < 1 ∨ 12 < m) : Calls Tryd.prog 12 #[.int .i64 y, .int .i64 m] w fun e w' => e = .returned (.int .i64 (dim y m)) ∧ w = w' := by
  have hd : dim y m = 0 := by unfold dim; rw [if_pos h]
  rw [hd]
  rcases h with h | h
  · go_enter Tryd.func12, Tryd.ntmps12
    go_wp2
    go_ret
    exact ⟨rfl, rfl⟩
  · have h' : ¬ m < 1 := by omega
    go_enter Tryd.func12, Tryd.ntmps12
    go_wp2
    go_ret
    exact ⟨rfl, rfl⟩

theorem days_feb (y : Int) (w : World) (hl : leapB y = true) : Calls Tryd.prog 12 #[.int .i64 y, .int .i64 2] w fun e w' => e = .returned (.int .i64 29) ∧ w = w' := by
  have H : Calls Tryd.prog 10 #[.int .i64 y] w fun e w' => e = .returned (.bool true) ∧ w = w' := by rw [← hl]; exact leap_any y w
  clear hl
  have HH := Lib.hid H
  clear H
  go_enter Tryd.func12, Tryd.ntmps12
  go_wp2_with (go_at_call 10; refine HH.out.mono ?_; rintro e w' ⟨rfl, rfl⟩)
  go_ret
  exact ⟨rfl, rfl⟩

theorem days_tab (y : Int) (k : Nat) (w : World) (hk : k < 12) (hl : ¬ (k = 1 ∧ leapB y = true)) (hc : w.cell? ⟨0, k, none⟩ = some (.int .i64 (lens.getD k 0))) :
    Calls Tryd.prog 12 #[.int .i64 y, .int .i64 ((k : Int) + 1)] w fun e w' => e = .returned (.int .i64 (lens.getD k 0)) ∧ w = w' := by
  by_cases h1 : k = 1
  · subst h1
    have hl : leapB y = false := by simpa using hl
    have H : Calls Tryd.prog 10 #[.int .i64 y] w fun e w' => e = .returned (.bool false) ∧ w = w' := by rw [← hl]; exact leap_any y w
    clear hl
    have HH := Lib.hid H
    clear H
    go_enter Tryd.func12, Tryd.ntmps12
    go_wp2_with (go_at_call 10; refine HH.out.mono ?_; rintro e w' ⟨rfl, rfl⟩)
    go_ret
    exact ⟨rfl, rfl⟩
  · have h2 : ((k : Int) + 1 == 2) = false := by simp; omega
    obtain ⟨v, hv⟩ : ∃ v, v = lens.getD k 0 := ⟨_, rfl⟩
    rw [← hv] at hc ⊢
    clear hl hv h1
    go_enter Tryd.func12, Tryd.ntmps12
    go_wp2
    go_ret
    exact ⟨rfl, rfl⟩

end Go.Proofs.YtbncjjobdipmgaaDoor
