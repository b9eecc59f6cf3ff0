/- Chapter 22 (armors): plain words: decoding, digit by digit. -/
import Derived.Test.YtbdccfjeeabpaaaNa
import Derived.Laws.BitsLemmas
namespace Go.Proofs.Ytbdccfjeeabpaaa
open Go.RowKit Go.Shelf Go.Lib
set_option linter.unusedSimpArgs false
set_option linter.unusedVariables false
set_option maxRecDepth 50000
/-- One more than the number of a character; 0 for others. -/
def dig (c : UInt8) : Int := (tabK 64).getD c.toNat 0
/-- The bytes that are complete, and the bits that are left, behind digit k. -/
def em (k : Nat) (b : Int) : List Int := if k % 4 = 0 then [] else if k % 4 = 1 then [b / 16] else if k % 4 = 2 then [b / 4] else [b]
def nb (k : Nat) (b : Int) : Int := if k % 4 = 0 then b else if k % 4 = 1 then b % 16 else if k % 4 = 2 then b % 4 else 0
def dgo : List UInt8 → Nat → Int → List Int → Option (Int × List Int)
  | [], _, b, out => some (b, out)
  | c :: r, k, b, out => if dig c = 0 then none else dgo r (k + 1) (nb k (b * 64 + (dig c - 1))) (out ++ em k (b * 64 + (dig c - 1)))
/-- How many bits are left, as a power. -/
def pw (k : Nat) : Int := if k % 4 = 0 then 1 else if k % 4 = 1 then 64 else if k % 4 = 2 then 16 else 4
def mny (k : Nat) : Int := if k % 4 = 0 then 0 else if k % 4 = 1 then 6 else if k % 4 = 2 then 4 else 2
theorem dig_range : ∀ c : UInt8, 0 ≤ dig c ∧ dig c ≤ 64 := by
  have h : ∀ n : Fin 256, 0 ≤ (tabK 64).getD n.val 0 ∧ (tabK 64).getD n.val 0 ≤ 64 := by decide +kernel
  intro c
  exact h ⟨c.toNat, c.toNat_lt⟩
def trimE (L : List UInt8) : List UInt8 := Lib.trimSuffix (Lib.trimSuffix L [61]) [61]
def finD : Option (Int × List Int) → List Int × Int
  | none => ([], 6)
  | some (b, out) => if b = 0 then (out, 0) else ([], 11)
def decP (L : List UInt8) : List Int × Int := if L.length % 4 = 0 then finD (dgo (trimE L) 0 0 []) else ([], 10)
theorem wraps_u32 (n : Int) (h₀ : 0 ≤ n) (h₁ : n < 2 ^ 32) : IntKind.u32.wrap n = n := by rw [IntKind.wrap_u32]; omega
theorem or_u32 {a b : Int} (i : Nat) (h0 : 0 ≤ a) (h2 : a % 2 ^ i = 0) (h1 : a < 2 ^ 32) (h3 : 0 ≤ b) (h4 : b < 2 ^ i) (h5 : b < 2 ^ 32) : bits .or .u32 a b = a + b :=
  bits_join .u32 32 (by decide) wraps_u32 i a b h0 h2 h1 h3 h4 h5
theorem and_u32 {a : Int} (i : Nat) (hi : i ≤ 32) (h0 : 0 ≤ a) (h1 : a < 2 ^ 32) : bits .and .u32 a (2 ^ i - 1) = a % 2 ^ i :=
  bits_mask .u32 32 (by decide) wraps_u32 i hi a h0 h1
theorem suffix_len (s p : List UInt8) : (Lib.trimSuffix s p).length ≤ s.length := by
  unfold Lib.trimSuffix
  split
  · rw [List.length_take]; omega
  · omega
theorem suffix_one (s : List UInt8) (c : UInt8) : s.length ≤ (Lib.trimSuffix s [c]).length + 1 := by
  unfold Lib.trimSuffix
  split
  · rw [List.length_take]; simp; omega
  · omega
theorem trimE_len (L : List UInt8) : (trimE L).length ≤ L.length ∧ L.length ≤ (trimE L).length + 2 := by
  have h1 := suffix_len L [61]
  have h2 := suffix_one L 61
  have h3 := suffix_len (Lib.trimSuffix L [61]) [61]
  have h4 := suffix_one (Lib.trimSuffix L [61]) 61
  unfold trimE
  omega
theorem em_len (k : Nat) (b : Int) : 6 * k / 8 + (em k b).length = 6 * (k + 1) / 8 := by
  unfold em
  rcases (show k % 4 = 0 ∨ k % 4 = 1 ∨ k % 4 = 2 ∨ k % 4 = 3 by omega) with h | h | h | h <;> simp [h] <;> omega
theorem nb_range (k : Nat) (b n : Int) (h0 : 0 ≤ b) (h1 : b < pw k) (h2 : 1 ≤ n) (h3 : n ≤ 64) : 0 ≤ nb k (b * 64 + (n - 1)) ∧ nb k (b * 64 + (n - 1)) < pw (k + 1) := by
  unfold nb pw at *
  rcases (show k % 4 = 0 ∨ k % 4 = 1 ∨ k % 4 = 2 ∨ k % 4 = 3 by omega) with h | h | h | h <;> simp [h, Nat.add_mod] at * <;> omega
end Go.Proofs.Ytbdccfjeeabpaaa
