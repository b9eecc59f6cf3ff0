/- The plain mathematics of chapter 10 (times): leap years, months, days before a year, digits. No program here. -/
namespace Go.Proofs.YtbncjjobdipmgaaDoor.Pl

def leapB (y : Int) : Bool := decide ((y % 4 = 0 ∧ y % 100 ≠ 0) ∨ y % 400 = 0)
def lens : List Int := [31, 28, 31, 30, 31, 30, 31, 31, 30, 31, 30, 31]
def dim (y m : Int) : Int := if m < 1 ∨ 12 < m then 0 else if m = 2 ∧ leapB y = true then 29 else lens.getD (m - 1).toNat 0
/-- The days before a year. -/
def dby (y : Int) : Int := if y = 0 then 0 else 365 * y + (y - 1) / 4 - (y - 1) / 100 + (y - 1) / 400 + 1
def okB (y mo d h mi s : Int) : Bool := decide (0 ≤ y ∧ y ≤ 9999 ∧ 1 ≤ d ∧ d ≤ dim y mo ∧ 0 ≤ h ∧ h ≤ 23 ∧ 0 ≤ mi ∧ mi ≤ 59 ∧ 0 ≤ s ∧ s ≤ 59)
def chk (y mo d h mi s : Int) : Int := if okB y mo d h mi s = true then 0 else 1

theorem tm (y k : Int) : y.tmod k = 0 ↔ y % k = 0 := by
  rw [← Int.dvd_iff_tmod_eq_zero, ← Int.dvd_iff_emod_eq_zero]
theorem leap_yes {y : Int} (h : (y % 4 = 0 ∧ ¬ y % 100 = 0) ∨ y % 400 = 0) : leapB y = true := decide_eq_true h
theorem leap_no {y : Int} (h : ¬ ((y % 4 = 0 ∧ ¬ y % 100 = 0) ∨ y % 400 = 0)) : leapB y = false := decide_eq_false h

theorem dim_le (y m : Int) : 0 ≤ dim y m ∧ dim y m ≤ 31 := by
  unfold dim
  split
  · omega
  · split
    · omega
    · rename_i h _
      have h1 : (m - 1).toNat < 12 := by omega
      generalize (m - 1).toNat = k at h1
      have : ∀ k, k < 12 → 0 ≤ lens.getD k 0 ∧ lens.getD k 0 ≤ 31 := by decide
      exact this k h1
/-- The days of a year's first k months. -/
def cumd (y : Int) : Nat → Int
  | 0 => 0
  | k + 1 => cumd y k + dim y ((k : Int) + 1)
theorem cumd_le (y : Int) (k : Nat) : 0 ≤ cumd y k ∧ cumd y k ≤ 31 * k := by
  induction k with
  | zero => simp [cumd]
  | succ k ih =>
    have := dim_le y ((k : Int) + 1)
    simp only [cumd]
    omega
def secs (y mo d h mi s : Int) : Int := 86400 * (dby y + cumd y (mo - 1).toNat + (d - 1)) + 3600 * h + 60 * mi + s
theorem dby_bd (y : Int) (h0 : 0 ≤ y) (h1 : y ≤ 10000) : 0 ≤ dby y ∧ dby y ≤ 3652425 := by
  unfold dby
  split <;> omega
/-- A number in digits, -1 if it is none; n: what is read. -/
def numA : List UInt8 → Int → Int
  | [], n => n
  | c :: r, n => if (c.toNat : Int) < 48 ∨ 57 < (c.toNat : Int) then -1 else numA r (10 * n + ((c.toNat : Int) - 48))
theorem numA_bad {c : UInt8} {r : List UInt8} {n : Int} (h : (c.toNat : Int) < 48 ∨ 57 < (c.toNat : Int)) : numA (c :: r) n = -1 := by
  unfold numA; rw [if_pos h]
theorem numA_good {c : UInt8} {r : List UInt8} {n : Int} (h0 : 48 ≤ (c.toNat : Int)) (h1 : (c.toNat : Int) ≤ 57) : numA (c :: r) n = numA r (10 * n + ((c.toNat : Int) - 48)) := by
  conv => lhs; unfold numA
  rw [if_neg (by omega)]
theorem numA_bd (l : List UInt8) : ∀ n : Int, 0 ≤ n → numA l n = -1 ∨ (0 ≤ numA l n ∧ numA l n + 1 ≤ (n + 1) * 10 ^ l.length) := by
  induction l with
  | nil => intro n h; right; simp [numA]; exact h
  | cons c r ih =>
    intro n h
    by_cases hc : (c.toNat : Int) < 48 ∨ 57 < (c.toNat : Int)
    · left; exact numA_bad hc
    · rw [numA_good (by omega) (by omega)]
      rcases ih (10 * n + ((c.toNat : Int) - 48)) (by omega) with h1 | ⟨h1, h2⟩
      · left; exact h1
      · right
        refine ⟨h1, Int.le_trans h2 ?_⟩
        rw [List.length_cons, Int.pow_succ, show (n + 1) * (10 ^ r.length * 10) = ((n + 1) * 10) * (10 : Int) ^ r.length by rw [Int.mul_comm ((10 : Int) ^ r.length) 10, Int.mul_assoc]]
        exact Int.mul_le_mul_of_nonneg_right (by omega) (Int.le_of_lt (Int.pow_pos (by omega)))
/-- What the reader reads, and what is left. -/
def rdv (many : Nat) (l : List UInt8) : Int := if l.length < many then -1 else numA (l.take many) 0
def rdr (many : Nat) (l : List UInt8) : List UInt8 := if rdv many l = -1 then l else l.drop many
/-- Whether the byte comes, and what is left. -/
def mst (c : UInt8) (l : List UInt8) : Bool := match l with | [] => false | d :: _ => d == c
def msr (c : UInt8) (l : List UInt8) : List UInt8 := match l with | [] => [] | d :: r => if d == c then r else d :: r
end Go.Proofs.YtbncjjobdipmgaaDoor.Pl
