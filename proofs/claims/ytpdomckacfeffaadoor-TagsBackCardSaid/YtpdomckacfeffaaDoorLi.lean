/- Chapter 2 (tags): the plain law of TagsBack, its walk joined. -/
import Derived.Test.YtpdomckacfeffaaDoorLh
namespace Go.Proofs.YtpdomckacfeffaaDoor
open Go.RowKit Go.Shelf Go.Proofs.YtpdomckacfeffaaDoorW.PrintWords
set_option linter.unusedSimpArgs false
set_option linter.unusedVariables false
theorem back_f (a b c : Int) (l : List Int) (ha : 0 ≤ a) (hb : 0 ≤ b) (hc : 0 ≤ c) (hl : Byt l) : Pr.vidimuslaw02_TagsBack.f 20 a b c l = some true := by
  unfold Pr.vidimuslaw02_TagsBack.f
  by_cases h20 : (l.length : Int) > 20
  · rw [if_pos h20]; rfl
  rw [if_neg h20]
  obtain ⟨cl, co, nu, hof, c0, c1, n0, n1, hr⟩ := of_f a b c ha hb hc
  have hof' := at_rounds (Pr.vidimuslaw02_T_Of.mono a b c) (show 4 ≤ 20 by omega) hof
  have hput : Pr.tags_Put.f cl co nu = some (enc cl co nu, 0) := by unfold Pr.tags_Put.f; rw [if_pos ⟨c0, n0, hr⟩]
  have hrp := at_rounds (Pr.vidimusref02_Put.mono cl co nu) (show 5 ≤ 20 by omega) (rput_f cl co nu c0 c1 n0 n1)
  have hbyt := enc_byt cl co nu c0 c1 n0 n1
  have hlen := enc_len cl co nu
  have hsame : Pr.vidimuslaw02_same.f (enc cl co nu) 0 (enc cl co nu) 0 = some true := by
    unfold Pr.vidimuslaw02_same.f; rw [if_pos ⟨hbyt, hbyt⟩]; simp
  have hsize : Pr.tags_Size.f cl co nu = some ((enc cl co nu).length : Int) := by unfold Pr.tags_Size.f; rw [hput]; rfl
  rw [hof']
  simp only [Option.bind_some, hput, hrp, hsame, if_true, hsize]
  rw [show (((enc cl co nu).length : Int) != ((enc cl co nu).length : Int)) = false by simp]
  have hbb : Byt ([] ++ enc cl co nu ++ l) := fun x hx => by
    rcases List.mem_append.mp hx with hx | hx
    · exact hbyt x (by simpa using hx)
    · exact hl x hx
  have hread : Pr.vidimuslaw02_read.f 19 ([] ++ enc cl co nu ++ l) cl co nu ((enc cl co nu).length : Int) 0 = some true := by
    have h1 := read_f ([] ++ enc cl co nu ++ l) hbb cl co nu ((enc cl co nu).length : Int) 0
    have h2 : rdB ([] ++ enc cl co nu ++ l) cl co nu ((enc cl co nu).length : Int) 0 = true := by
      unfold rdB
      rw [List.nil_append, getS_enc cl co nu l c0 c1 n0 n1 hr]
      simp
    rw [h2] at h1
    exact at_rounds (Pr.vidimuslaw02_read.mono _ _ _ _ _ _) (show 12 ≤ 19 by omega) h1
  rw [show (20 : Nat) = 19 + 1 from rfl, Pr.vidimuslaw02_TagsBack.j0, if_neg (by simp), Option.bind_some, if_pos (by simp; omega), Option.bind_some, if_pos (by simp; omega), hread]
  rfl
theorem tagsBack_walk (a b c : Int) (A : Option Addr) (cp : Nat) (l : List Int) (w : World) (hT : Tabs w) (ha : 0 ≤ a) (hb : 0 ≤ b) (hc : 0 ≤ c) (hr : Kd.C (Kd.int .u8) w A l.length l) (hcp : l.length ≤ cp) (hl : Byt l) :
    Calls Tryd.prog 7 #[.agg #[.int .u8 a, .int .u8 b, .int .u32 c], .slice A l.length cp] w fun e w' => e = .returned (.bool true) ∧ Below w.heap.size w w' :=
  Pr.vidimuslaw02_TagsBack.calls 20 a b c A cp l true w hr hcp (back_f a b c l ha hb hc hl) hT
end Go.Proofs.YtpdomckacfeffaaDoor
