/- Chapter 2 (tags): plain words: valid tags; what the printed functions answer. -/
import Derived.Test.YtpdomckacfeffaaDoorWa
namespace Go.Proofs.YtpdomckacfeffaaDoor
open Go.RowKit Go.Shelf

/-- The error of a tag. -/
def chk (cl : Int) (co : Bool) (nu : Int) : Int := if 3 < cl ∨ 268435455 < nu then 1 else if cl = 0 ∧ (nu = 0 ∨ (co = false ∧ (nu = 16 ∨ nu = 17))) then 9 else 0
theorem check_f (cl : Int) (co : Bool) (nu : Int) : Pr.tags_Check.f 4 cl co nu = some (chk cl co nu) := by
  unfold Pr.tags_Check.f Pr.tags_Check.j0 Pr.tags_Check.j1 chk
  by_cases h1 : 3 < cl
  · rw [if_pos h1, if_pos (.inl h1)]; simp
  · rw [if_neg h1]
    by_cases h2 : 268435455 < nu
    · rw [if_pos (.inr h2)]; simp [h2]
    · rw [if_neg (fun h => h.elim h1 h2)]
      by_cases h3 : cl = 0
      · cases co <;> by_cases h4 : nu = 0 <;> by_cases h5 : nu = 16 <;> by_cases h6 : nu = 17 <;> simp_all
      · simp [h2, h3]
theorem rcheck_f (cl : Int) (co : Bool) (nu : Int) : Pr.vidimusref02_Check.f 4 cl co nu = some (chk cl co nu) := by
  unfold Pr.vidimusref02_Check.f Pr.vidimusref02_Check.j0 chk
  by_cases h1 : 3 < cl
  · rw [if_pos h1, if_pos (.inl h1)]; simp
  · rw [if_neg h1]
    by_cases h2 : 268435455 < nu
    · rw [if_pos (.inr h2)]; simp [h2]
    · rw [if_neg (fun h => h.elim h1 h2)]
      by_cases h3 : cl = 0
      · cases co <;> by_cases h4 : nu = 0 <;> by_cases h5 : nu = 16 <;> by_cases h6 : nu = 17 <;> simp_all
      · simp [h2, h3]
theorem check_any (cl : Int) (co : Bool) (nu : Int) (w : World) : Calls Tryd.prog 21 #[.agg #[.int .u8 cl, .bool co, .int .u32 nu]] w fun e w' => e = .returned (.int .i64 (chk cl co nu)) ∧ Below w.heap.size w w' :=
  Pr.tags_Check.calls 4 cl co nu _ w (check_f cl co nu)
theorem rcheck_any (cl : Int) (co : Bool) (nu : Int) (w : World) : Calls Tryd.prog 20 #[.agg #[.int .u8 cl, .bool co, .int .u32 nu]] w fun e w' => e = .returned (.int .i64 (chk cl co nu)) ∧ Below w.heap.size w w' :=
  Pr.vidimusref02_Check.calls 4 cl co nu _ w (rcheck_f cl co nu)
/-- The first octet's class and form. -/
def fst8 (cl : Int) (co : Bool) : Int := 64 * cl + (if co then 32 else 0)
/-- The identifier octets of a valid tag. -/
def enc (cl : Int) (co : Bool) (nu : Int) : List Int := if nu < 31 then [fst8 cl co + nu] else (fst8 cl co + 31) :: gl nu
end Go.Proofs.YtpdomckacfeffaaDoor
