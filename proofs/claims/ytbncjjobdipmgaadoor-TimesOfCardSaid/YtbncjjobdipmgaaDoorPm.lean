/- The plain mathematics of chapter 10 (times), more: years, months, days and seconds. No program here. -/
import Derived.Test.YtbncjjobdipmgaaDoorPl
namespace Go.Proofs.YtbncjjobdipmgaaDoor.Pl

theorem dim_1 (y : Int) : dim y 1 = 31 := rfl
theorem dim_2 (y : Int) : dim y 2 = if leapB y = true then 29 else 28 := by
  unfold dim
  rw [if_neg (by omega)]
  by_cases h : leapB y = true
  · rw [if_pos ⟨rfl, h⟩, if_pos h]
  · rw [if_neg (by intro h'; exact h h'.2), if_neg h]; rfl
theorem dim_k (y : Int) (k : Nat) (hk : k < 12) (h1 : k ≠ 1) : dim y ((k : Int) + 1) = lens.getD k 0 := by
  unfold dim
  rw [if_neg (by omega), if_neg (by intro h; omega)]
  congr 1
  omega
theorem cumd_12 (y : Int) : cumd y 12 = if leapB y = true then 366 else 365 := by
  simp only [cumd]
  have h2 := dim_2 y
  have a0 := dim_k y 0 (by omega) (by omega)
  have a2 := dim_k y 2 (by omega) (by omega)
  have a3 := dim_k y 3 (by omega) (by omega)
  have a4 := dim_k y 4 (by omega) (by omega)
  have a5 := dim_k y 5 (by omega) (by omega)
  have a6 := dim_k y 6 (by omega) (by omega)
  have a7 := dim_k y 7 (by omega) (by omega)
  have a8 := dim_k y 8 (by omega) (by omega)
  have a9 := dim_k y 9 (by omega) (by omega)
  have a10 := dim_k y 10 (by omega) (by omega)
  have a11 := dim_k y 11 (by omega) (by omega)
  simp only [lens, List.getD_cons_zero, List.getD_cons_succ] at a0 a2 a3 a4 a5 a6 a7 a8 a9 a10 a11
  rw [a0, show dim y (((1 : Nat) : Int) + 1) = dim y 2 from rfl, h2, a2, a3, a4, a5, a6, a7, a8, a9, a10, a11]
  split <;> omega
theorem dby_succ (y : Int) (h : 0 ≤ y) : dby (y + 1) = dby y + cumd y 12 := by
  rw [cumd_12]
  by_cases hl : (y % 4 = 0 ∧ ¬ y % 100 = 0) ∨ y % 400 = 0
  · rw [if_pos (leap_yes hl)]
    unfold dby
    rw [if_neg (by omega)]
    split
    · subst_vars; rfl
    · omega
  · rw [if_neg (by rw [leap_no hl]; simp)]
    unfold dby
    rw [if_neg (by omega)]
    split
    · omega
    · omega
theorem dby_guess (n : Int) (h0 : 0 ≤ n) (h1 : n ≤ 3652424) : dby (n / 366) ≤ n := by
  unfold dby
  split <;> omega
theorem dby_max : dby 10000 = 3652425 := by decide
theorem dby_mono (a b : Int) (h0 : 0 ≤ a) (h : a ≤ b) : dby a ≤ dby b := by
  unfold dby
  split <;> split <;> omega
end Go.Proofs.YtbncjjobdipmgaaDoor.Pl
