/- Chapter 2 (tags): Get of what Put wrote, whatever follows. -/
import Derived.Test.YtpdomckacfeffaaDoorLd
namespace Go.Proofs.YtpdomckacfeffaaDoor
open Go.RowKit Go.Shelf
set_option linter.unusedSimpArgs false

theorem fin_ok (n s : Int) (h : 31 ≤ n) : fin n s = (n, s, 0) := by unfold fin; rw [if_neg (by omega)]
theorem numR_gl (n : Int) (l : List Int) (h0 : 31 ≤ n) (h1 : n < 268435456) : numR (gl n ++ l) = (n, 1 + ((gl n).length : Int), 0) := by
  unfold gl
  by_cases a : n < 128
  · simp only [if_pos a]
    rcases l with _ | ⟨y, _ | ⟨z, _ | ⟨u, r⟩⟩⟩ <;> (simp only [List.cons_append, List.nil_append, numR]; rw [if_neg (by omega), if_pos a, fin_ok n 2 h0]; rfl)
  · simp only [if_neg a]
    by_cases b : n < 16384
    · simp only [if_pos b]
      rcases l with _ | ⟨z, _ | ⟨u, r⟩⟩ <;> (simp only [List.cons_append, List.nil_append, numR]; rw [if_neg (by omega), if_neg (by omega), if_pos (by omega), show (128 + n / 128 - 128) * 128 + n % 128 = n by omega, fin_ok n 3 h0]; rfl)
    · simp only [if_neg b]
      by_cases c : n < 2097152
      · simp only [if_pos c]
        rcases l with _ | ⟨u, r⟩ <;> (simp only [List.cons_append, List.nil_append, numR]; rw [if_neg (by omega), if_neg (by omega), if_neg (by omega), if_pos (by omega), show ((128 + n / 16384 - 128) * 128 + (128 + n / 128 % 128 - 128)) * 128 + n % 128 = n by omega, fin_ok n 4 h0]; rfl)
      · simp only [if_neg c]
        simp only [List.cons_append, List.nil_append, numR]
        rw [if_neg (by omega), if_neg (by omega), if_neg (by omega), if_neg (by omega), if_neg (by omega), show (((128 + n / 2097152 - 128) * 128 + (128 + n / 16384 % 128 - 128)) * 128 + (128 + n / 128 % 128 - 128)) * 128 + n % 128 = n by omega, fin_ok n 5 h0]; rfl
theorem hd_fst (cl : Int) (co : Bool) (d : Int) (hc0 : 0 ≤ cl) (hc1 : cl ≤ 3) (hd0 : 0 ≤ d) (hd1 : d < 32) : (fst8 cl co + d) / 64 = cl ∧ ((fst8 cl co + d) / 32 % 2 == 1) = co ∧ (fst8 cl co + d) % 32 = d := by
  unfold fst8
  cases co
  · refine ⟨by simp; omega, ?_, by simp; omega⟩
    have : (64 * cl + (if (false : Bool) = true then 32 else 0) + d) / 32 % 2 = 0 := by simp; omega
    rw [this]; rfl
  · refine ⟨by simp; omega, ?_, by simp; omega⟩
    have : (64 * cl + (if (true : Bool) = true then 32 else 0) + d) / 32 % 2 = 1 := by simp; omega
    rw [this]; rfl
/-- GET OF WHAT PUT WROTE, WHATEVER FOLLOWS. -/
theorem getS_enc (cl : Int) (co : Bool) (nu : Int) (l : List Int) (hc0 : 0 ≤ cl) (hc1 : cl ≤ 3) (h0 : 0 ≤ nu) (h1 : nu < 268435456) (hr : chk cl co nu = 0) : getS (enc cl co nu ++ l) = (cl, co, nu, ((enc cl co nu).length : Int), 0) := by
  unfold enc
  by_cases a : nu < 31
  · obtain ⟨e1, e2, e3⟩ := hd_fst cl co nu hc0 hc1 h0 (by omega)
    have e : hd (fst8 cl co + nu) l = (nu, 1, 0) := by unfold hd; rw [e3, if_neg (by omega)]
    simp only [if_pos a, List.cons_append, List.nil_append, getS, e, e1, e2, hr, if_true, List.length_cons, List.length_nil]; rfl
  · obtain ⟨e1, e2, e3⟩ := hd_fst cl co 31 hc0 hc1 (by omega) (by omega)
    have e : hd (fst8 cl co + 31) (gl nu ++ l) = (nu, 1 + ((gl nu).length : Int), 0) := by unfold hd; rw [e3, if_pos rfl, numR_gl nu l (by omega) h1]
    simp only [if_neg a, List.cons_append, getS, e, e1, e2, hr, if_true, List.length_cons]
    rw [show ((1 : Int) + ((gl nu).length : Int)) = (((gl nu).length + 1 : Nat) : Int) by omega]
end Go.Proofs.YtpdomckacfeffaaDoor
