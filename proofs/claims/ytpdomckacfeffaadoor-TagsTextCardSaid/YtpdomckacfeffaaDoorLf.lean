/- Chapter 2 (tags): Get of a proper prefix of what Put wrote. -/
import Derived.Test.YtpdomckacfeffaaDoorLe
namespace Go.Proofs.YtpdomckacfeffaaDoor
open Go.RowKit Go.Shelf
set_option linter.unusedSimpArgs false
set_option linter.unusedVariables false

theorem numR_cut (n : Int) (m : Nat) (h0 : 31 ≤ n) (h1 : n < 268435456) (hm : m < (gl n).length) : numR ((gl n).take m) = (0, 0, 7) := by
  revert hm
  unfold gl
  by_cases a : n < 128
  · simp only [if_pos a]; intro hm
    match m, hm with
    | 0, _ => rfl
  · simp only [if_neg a]
    by_cases b : n < 16384
    · simp only [if_pos b]; intro hm
      match m, hm with
      | 0, _ => rfl
      | 1, _ => simp only [List.take, numR]; rw [if_neg (by omega), if_neg (by omega)]
    · simp only [if_neg b]
      by_cases c : n < 2097152
      · simp only [if_pos c]; intro hm
        match m, hm with
        | 0, _ => rfl
        | 1, _ => simp only [List.take, numR]; rw [if_neg (by omega), if_neg (by omega)]
        | 2, _ => simp only [List.take, numR]; rw [if_neg (by omega), if_neg (by omega), if_neg (by omega)]
      · simp only [if_neg c]; intro hm
        match m, hm with
        | 0, _ => rfl
        | 1, _ => simp only [List.take, numR]; rw [if_neg (by omega), if_neg (by omega)]
        | 2, _ => simp only [List.take, numR]; rw [if_neg (by omega), if_neg (by omega), if_neg (by omega)]
        | 3, _ => simp only [List.take, numR]; rw [if_neg (by omega), if_neg (by omega), if_neg (by omega), if_neg (by omega)]
/-- GET OF A PROPER PREFIX OF WHAT PUT WROTE: too short. -/
theorem getS_cut (cl : Int) (co : Bool) (nu : Int) (m : Nat) (hc0 : 0 ≤ cl) (hc1 : cl ≤ 3) (h0 : 0 ≤ nu) (h1 : nu < 268435456) (hm : m < (enc cl co nu).length) : getS ((enc cl co nu).take m) = (0, false, 0, 0, 7) := by
  revert hm
  unfold enc
  by_cases a : nu < 31
  · simp only [if_pos a]; intro hm
    match m, hm with
    | 0, _ => rfl
  · simp only [if_neg a]; intro hm
    match m, hm with
    | 0, _ => rfl
    | m + 1, hm =>
      obtain ⟨e1, e2, e3⟩ := hd_fst cl co 31 hc0 hc1 (by omega) (by omega)
      have e : hd (fst8 cl co + 31) ((gl nu).take m) = (0, 0, 7) := by unfold hd; rw [e3, if_pos rfl, numR_cut nu m (by omega) h1 (by simpa using hm)]
      simp only [List.take_succ_cons, getS, e]; rfl
end Go.Proofs.YtpdomckacfeffaaDoor
