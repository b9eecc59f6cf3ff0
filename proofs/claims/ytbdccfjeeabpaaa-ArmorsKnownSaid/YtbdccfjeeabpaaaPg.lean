/- Chapter 22 (armors): the plain law: which error Put returns for a small chain. -/
import Derived.Test.YtbdccfjeeabpaaaPf
namespace Go.Proofs.Ytbdccfjeeabpaaa
open Go.RowKit Go.Shelf
set_option linter.unusedSimpArgs false
set_option linter.unusedVariables false
set_option maxRecDepth 50000
theorem linR_len : ∀ (n : Nat) (l : List Int), l.length ≤ n → (linR l).length ≤ 5 * l.length
  | 0, l, h => by
    obtain rfl : l = [] := List.length_eq_zero_iff.1 (by omega)
    rw [linR_nil]; simp
  | n + 1, l, h => by
    by_cases h0 : l = []
    · subst h0; rw [linR_nil]; simp
    · have hp := List.length_pos_iff.2 h0
      have ih := linR_len n (l.drop 48) (by rw [List.length_drop]; omega)
      have h4 := encS_len4 (l.take 48)
      rw [List.length_take] at h4
      rw [List.length_drop] at ih
      rw [linR_cons h0, List.length_append, List.length_cons]
      omega
/-- How many bytes a chain has. -/
def allL (rows : List Rw) : Nat := (rows.map fun r => r.l.length).sum
theorem putS_small : ∀ rows : List Rw, (putS rows).length ≤ 54 * rows.length + 5 * allL rows
  | [] => by simp [putS]
  | x :: t => by
    have ih := putS_small t
    have h1 := linR_len x.l.length x.l (Nat.le_refl _)
    have e : putS (x :: t) = cerS x.l ++ putS t := by unfold putS; rw [List.flatMap_cons]
    have e2 : (cerS x.l).length = 54 + (linR x.l).length := by
      unfold cerS
      rw [linS_linR, List.length_append, List.length_append]
      simp
      omega
    have e3 : allL (x :: t) = x.l.length + allL t := by unfold allL; simp
    rw [e, List.length_append, e2, e3, List.length_cons]
    omega
def wantL (n : Nat) (rows : List Rw) : Int := if 64 < n then 3 else if rows.any (fun r => r.l.isEmpty) = true then 17 else 0
theorem chkR_any : ∀ rows : List Rw, allL rows ≤ 2000 → chkR rows = if rows.any (fun r => r.l.isEmpty) = true then 17 else 0
  | [], _ => by simp [chkR]
  | x :: t, h => by
    have e3 : allL (x :: t) = x.l.length + allL t := by unfold allL; simp
    have ih := chkR_any t (by omega)
    rw [chkR]
    by_cases h0 : x.l.length = 0
    · rw [if_pos h0, if_pos (by simp [List.length_eq_zero_iff.1 h0])]
    · rw [if_neg h0, if_neg (by omega), ih]
      have : x.l.isEmpty = false := by
        cases hx : x.l with
        | nil => rw [hx] at h0; simp at h0
        | cons a b => rfl
      simp [this]
theorem put_want (rows : List Rw) (h : allL rows ≤ 2000) : (putP rows).2 = wantL rows.length rows ∧ ((putP rows).2 ≠ 0 → (putP rows).1 = []) ∧
    ((putP rows).2 = 0 → (putP rows).1 = putS rows ∧ rows.length ≤ 64 ∧ (∀ r ∈ rows, r.l ≠ []) ∧ (putS rows).length ≤ 1048576) := by
  have hc := chkR_any rows h
  have hs := putS_small rows
  unfold putP wantL
  by_cases h64 : 64 < rows.length
  · rw [if_pos h64, if_pos h64]
    exact ⟨rfl, fun _ => rfl, fun e => absurd e (by decide)⟩
  · rw [if_neg h64, if_neg h64]
    by_cases ha : rows.any (fun r => r.l.isEmpty) = true
    · rw [if_pos ha] at hc
      rw [if_pos (by rw [hc]; decide), if_pos ha, hc]
      exact ⟨rfl, fun _ => rfl, fun e => absurd e (by decide)⟩
    · rw [if_neg ha] at hc
      rw [if_neg (by rw [hc]; decide), if_neg ha, if_neg (by omega)]
      refine ⟨rfl, fun e => absurd rfl e, fun _ => ⟨rfl, by omega, fun r hr e => ha ?_, by omega⟩⟩
      rw [List.any_eq_true]
      exact ⟨r, hr, by rw [e]; rfl⟩
end Go.Proofs.Ytbdccfjeeabpaaa
