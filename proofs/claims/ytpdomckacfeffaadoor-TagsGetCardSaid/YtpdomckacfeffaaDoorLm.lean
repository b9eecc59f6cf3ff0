/- Chapter 2 (tags): the plain laws of TagsGet and TagsKnown, their walks joined. -/
import Derived.Test.YtpdomckacfeffaaDoorLj
import Derived.Test.YtpdomckacfeffaaDoorLk
namespace Go.Proofs.YtpdomckacfeffaaDoor
open Go.RowKit Go.Shelf Go.Proofs.YtpdomckacfeffaaDoorW.PrintWords
set_option linter.unusedSimpArgs false
set_option linter.unusedVariables false
theorem rdB_self (l : List Int) : rdB l (getS l).1 (getS l).2.1 (getS l).2.2.1 (getS l).2.2.2.1 (getS l).2.2.2.2 = true := by
  unfold rdB; simp
theorem tget_f (l : List Int) (hl : Byt l) : Pr.vidimuslaw02_TagsGet.f 20 l = some true := by
  unfold Pr.vidimuslaw02_TagsGet.f
  by_cases h20 : (l.length : Int) > 20
  · rw [if_pos h20]; rfl
  rw [if_neg h20, rget_f l hl, Option.bind_some]
  have h1 := at_rounds (Pr.vidimuslaw02_read.mono l (getS l).1 (getS l).2.1 (getS l).2.2.1 (getS l).2.2.2.1 (getS l).2.2.2.2) (show 12 ≤ 20 by omega) (read_f l hl (getS l).1 (getS l).2.1 (getS l).2.2.1 (getS l).2.2.2.1 (getS l).2.2.2.2)
  rw [rdB_self] at h1
  rw [h1, Option.bind_some, if_pos rfl]
  by_cases hf : (getS l).2.2.2.2 = 0
  · rw [if_pos hf]
    obtain ⟨c0, n0, hr, s0, s1, he⟩ := getS_ok l hl (getS l).1 (getS l).2.2.1 (getS l).2.2.2.1 (getS l).2.1 (by
      generalize hg : getS l = g at hf ⊢
      obtain ⟨g1, g2, g3, g4, g5⟩ := g
      simp only at hf
      rw [hf])
    obtain ⟨c1, n1⟩ := Pr.chk_bounds hr
    have hput : Pr.tags_Put.f (getS l).1 (getS l).2.1 (getS l).2.2.1 = some (enc (getS l).1 (getS l).2.1 (getS l).2.2.1, 0) := by unfold Pr.tags_Put.f; rw [if_pos ⟨c0, n0, hr⟩]
    have hbyt := enc_byt (getS l).1 (getS l).2.1 (getS l).2.2.1 c0 c1 n0 n1
    rw [hput, Option.bind_some, if_pos s0, if_pos s1, ← he]
    have hsame : Pr.vidimuslaw02_same.f (enc (getS l).1 (getS l).2.1 (getS l).2.2.1) 0 (enc (getS l).1 (getS l).2.1 (getS l).2.2.1) 0 = some true := by
      unfold Pr.vidimuslaw02_same.f; rw [if_pos ⟨hbyt, hbyt⟩]; simp
    rw [hsame]
    rfl
  · rw [if_neg hf]; rfl
theorem tagsGet_walk (A : Option Addr) (cp : Nat) (l : List Int) (w : World) (hT : Tabs w) (hr : Kd.C (Kd.int .u8) w A l.length l) (hcp : l.length ≤ cp) (hl : Byt l) :
    Calls Tryd.prog 3 #[.slice A l.length cp] w fun e w' => e = .returned (.bool true) ∧ Below w.heap.size w w' :=
  Pr.vidimuslaw02_TagsGet.calls 20 A cp l true w hr hcp (tget_f l hl) hT
end Go.Proofs.YtpdomckacfeffaaDoor
