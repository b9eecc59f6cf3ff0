/- Chapter 2 (tags): T.Of answers a tag that Check takes. -/
import Derived.Test.YtpdomckacfeffaaDoorLa
namespace Go.Proofs.YtpdomckacfeffaaDoor
open Go.RowKit Go.Shelf
set_option linter.unusedSimpArgs false

theorem of_f (a b c : Int) (ha : 0 ≤ a) (hb : 0 ≤ b) (hc : 0 ≤ c) : ∃ cl co nu, Pr.vidimuslaw02_T_Of.f 4 a b c = some (cl, co, nu) ∧ 0 ≤ cl ∧ cl ≤ 3 ∧ 0 ≤ nu ∧ nu < 268435456 ∧ chk cl co nu = 0 := by
  have e1 : Int.tmod a 4 = a % 4 := Int.tmod_eq_emod_of_nonneg ha
  have e3 : Int.tmod c 268435456 = c % 268435456 := Int.tmod_eq_emod_of_nonneg hc
  unfold Pr.vidimuslaw02_T_Of.f
  rw [rcheck_f, e1, e3, Option.bind_some]
  by_cases h : chk (a % 4) (Int.tmod b 2 == 1) (c % 268435456) = 0
  · rw [if_pos h]
    exact ⟨_, _, _, rfl, by omega, by omega, by omega, by omega, h⟩
  · rw [if_neg h]
    refine ⟨_, _, _, rfl, by omega, by omega, by omega, by omega, ?_⟩
    unfold chk
    rw [if_neg (by omega), if_neg (by rintro ⟨_, h | ⟨_, h | h⟩⟩ <;> cases h)]
/-- WHAT Of ANSWERS. -/
theorem of_any (a b c : Int) (ha : 0 ≤ a) (hb : 0 ≤ b) (hc : 0 ≤ c) : ∃ cl co nu, (0 ≤ cl ∧ cl ≤ 3 ∧ 0 ≤ nu ∧ nu < 268435456 ∧ chk cl co nu = 0) ∧ ∀ w,
    Calls Tryd.prog 15 #[.agg #[.int .u8 a, .int .u8 b, .int .u32 c]] w fun e w' => e = .returned (.agg #[.int .u8 cl, .bool co, .int .u32 nu]) ∧ Below w.heap.size w w' := by
  obtain ⟨cl, co, nu, h, g⟩ := of_f a b c ha hb hc
  exact ⟨cl, co, nu, g, fun w => Pr.vidimuslaw02_T_Of.calls 4 a b c _ _ _ w h⟩
end Go.Proofs.YtpdomckacfeffaaDoor
