/- Chapter 2 (tags): the reference's Put is enc. -/
import Derived.Test.YtpdomckacfeffaaDoorLc
namespace Go.Proofs.YtpdomckacfeffaaDoor
open Go.RowKit Go.Shelf
set_option linter.unusedSimpArgs false

theorem w64 (z : Int) (h0 : 0 ≤ z) (h1 : z < 4294967296) : wrap64 z = z := by
  unfold wrap64; omega
theorem tm (z : Int) (h0 : 0 ≤ z) : Int.tmod z 128 = z % 128 := Int.tmod_eq_emod_of_nonneg h0
theorem td (z : Int) (h0 : 0 ≤ z) : Int.tdiv z 128 = z / 128 := Int.tdiv_eq_ediv_of_nonneg h0
theorem grp_step (k : Nat) (x : Int) (acc : List Int) (h0 : 0 < x) (h1 : x < 268435456) (ha : acc.length ≤ 10) :
    Pr.vidimusref02_Groups.l0 (k + 1) x acc = Pr.vidimusref02_Groups.l0 k (x / 128) ((128 + x % 128) :: acc) := by
  rw [Pr.vidimusref02_Groups.l0, if_pos (by omega : x > 0), Option.bind_some, if_pos (by simp; omega), td x (by omega), tm x (by omega), w64 _ (by omega) (by omega), w64 _ (by omega) (by omega), Int.emod_eq_of_lt (by omega) (by omega)]
  rfl
theorem grp_done (k : Nat) (acc : List Int) : Pr.vidimusref02_Groups.l0 (k + 1) 0 acc = some acc := by
  rw [Pr.vidimusref02_Groups.l0, if_neg (by decide)]
theorem grp_f (n : Int) (h0 : 0 ≤ n) (h1 : n < 268435456) : Pr.vidimusref02_Groups.f 5 n = some (gl n) := by
  unfold Pr.vidimusref02_Groups.f gl
  rw [td n h0, tm n h0, w64 _ (by omega) (by omega), Int.emod_eq_of_lt (by omega : 0 ≤ n % 128) (by omega)]
  by_cases a : n < 128
  · rw [if_pos a, show n / 128 = 0 by omega, grp_done, show n % 128 = n by omega]
  · rw [if_neg a, grp_step _ _ _ (by omega) (by omega) (by simp)]
    by_cases b : n < 16384
    · rw [if_pos b, show n / 128 / 128 = 0 by omega, grp_done, show n / 128 % 128 = n / 128 by omega]
    · rw [if_neg b, grp_step _ _ _ (by omega) (by omega) (by simp)]
      by_cases c : n < 2097152
      · rw [if_pos c, show n / 128 / 128 / 128 = 0 by omega, grp_done, show n / 128 / 128 % 128 = n / 16384 by omega]
      · rw [if_neg c, grp_step _ _ _ (by omega) (by omega) (by simp), show n / 128 / 128 / 128 / 128 = 0 by omega, grp_done, show n / 128 / 128 / 128 % 128 = n / 2097152 by omega, show n / 128 / 128 % 128 = n / 16384 % 128 by omega]
theorem rput_f (cl : Int) (co : Bool) (nu : Int) (hc0 : 0 ≤ cl) (hc1 : cl ≤ 3) (h0 : 0 ≤ nu) (h1 : nu < 268435456) : Pr.vidimusref02_Put.f 5 cl co nu = some (enc cl co nu) := by
  have hl := (gl_len nu).2
  unfold Pr.vidimusref02_Put.f enc fst8
  rw [w64 cl hc0 (by omega), w64 nu h0 (by omega), w64 (64 * cl) (by omega) (by omega), grp_f nu h0 h1]
  cases co
  · by_cases a : nu < 31
    · rw [if_neg (by decide), if_pos a, if_pos a, w64 _ (by omega) (by omega), Int.emod_eq_of_lt (by omega) (by omega)]; simp
    · rw [if_neg (by decide), if_neg a, if_neg a, w64 _ (by omega) (by omega), Int.emod_eq_of_lt (by omega) (by omega), Option.bind_some, Option.bind_some, if_pos (by simp; omega)]; simp
  · rw [w64 (64 * cl + 32) (by omega) (by omega)]
    by_cases a : nu < 31
    · rw [if_pos rfl, if_pos a, if_pos a, w64 _ (by omega) (by omega), Int.emod_eq_of_lt (by omega) (by omega)]; simp
    · rw [if_pos rfl, if_neg a, if_neg a, w64 _ (by omega) (by omega), Int.emod_eq_of_lt (by omega) (by omega), Option.bind_some, Option.bind_some, if_pos (by simp; omega)]; simp
end Go.Proofs.YtpdomckacfeffaaDoor
