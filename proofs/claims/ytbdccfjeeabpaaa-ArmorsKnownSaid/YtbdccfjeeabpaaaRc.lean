/- Chapter 22 (armors): the reference's contracts; the law ArmorsDecode: the walk. -/
import Derived.Test.YtbdccfjeeabpaaaRb
namespace Go.Proofs.Ytbdccfjeeabpaaa
open Go.RowKit Go.Shelf
open Go.Proofs.YtbdccfjeeabpaaaW.PrintWords (ReadsOf blk_cell add_plain Ev string_of_reads)
open Go.Proofs.YtbdccfjeeabpaaaW
attribute [local go_sem] Oper.semAt_some
set_option linter.unusedSimpArgs false
set_option linter.unusedVariables false
set_option maxRecDepth 50000
theorem refDec_any (s : ByteArray) (w : World) (hs : s.size ≤ 1000000000) (b : List Int) (er : Int) (hp : decP s.data.toList = (b, er)) :
    Calls Try.prog 19 #[.string s] w fun e w' => ∃ A c, e = .returned (.tuple #[.slice A b.length c, .int .i64 er]) ∧ b.length ≤ c ∧ ReadsOf (Value.int .u8) (0 : Int) w' A b.length b ∧ Below w.heap.size w w' := by
  obtain ⟨k, hk⟩ := (refDecode_ev s hs).rounds
  rw [hp] at hk
  refine (Pr.vidimusref22_Decode.calls k s b er w hk).mono ?_
  rintro e w' ⟨v, rfl, hr, hb⟩
  obtain ⟨A, c, rfl, hc, hr⟩ := PrintWords.Kd.R_reads hr
  exact ⟨A, c, rfl, hc, PrintWords.Kd.reads_of_C hr, hb⟩
theorem refEnc_any (A : Option Addr) (l : List Int) (c : Nat) (w : World) (hr : ReadsOf (Value.int .u8) (0 : Int) w A l.length l) (hl : l.length ≤ 1000000000) (hc : l.length ≤ c) (hby : Byt l) :
    Calls Try.prog 18 #[.slice A l.length c] w fun e w' => e = .returned (.string ⟨(encS l).toArray⟩) ∧ Below w.heap.size w w' := by
  obtain ⟨k, hk⟩ := (refEncode_ev l hl hby).rounds
  exact Pr.vidimusref22_Encode.calls k A c l _ w (PrintWords.Kd.C_of_reads hr) hc hk
theorem dec_any (s : ByteArray) (w : World) (hs : s.size ≤ 1000000000) (b : List Int) (er : Int) (hp : decP s.data.toList = (b, er)) :
    Calls Try.prog 17 #[.string s] w fun e w' => ∃ A, e = .returned (.tuple #[.slice A b.length b.length, .int .i64 er]) ∧ ReadsOf (Value.int .u8) (0 : Int) w' A b.length b ∧ Below w.heap.size w w' := by
  have hl : b.length ≤ 1000000000 := by
    have := decP_len s.data.toList
    rw [hp, Array.length_toList] at this
    have h2 : s.data.size = s.size := rfl
    have h3 : b.length ≤ s.data.size := this
    omega
  refine (decode17_any s w (by omega)).mono ?_
  rintro e w' ⟨A, rfl, hx, hb⟩
  rw [hp] at hx ⊢
  refine ⟨A, rfl, ?_, hb⟩
  rcases hx with ⟨rfl, h⟩ | ⟨g, rfl, _, h⟩
  · have h : b = [] := h
    subst h
    exact .nil _ _ _
  · exact rd_blk b h hl
theorem decP_bad {L : List UInt8} {b : List Int} {er : Int} (h : decP L = (b, er)) (he : er ≠ 0) : b = [] := by
  unfold decP at h
  split at h
  · revert h
    cases dgo (trimE L) 0 0 [] with
    | none => intro h; simp only [finD, Prod.mk.injEq] at h; exact h.1.symm
    | some x =>
      obtain ⟨x, out⟩ := x
      simp only [finD]
      split
      · intro h; simp only [Prod.mk.injEq] at h; exact absurd h.2.symm he
      · intro h; simp only [Prod.mk.injEq] at h; exact h.1.symm
  · simp only [Prod.mk.injEq] at h; exact h.1.symm
set_option maxHeartbeats 8000000 in
theorem armorsDecode_walk (s : ByteArray) (W : World) : Calls Try.prog 6 #[.string s] W fun e w' => e = .returned (.bool true) ∧ Below W.heap.size W w' := by
  by_cases hbig : 1000 < s.size
  · go_enter Try.func6, Try.ntmps6
    go_wp2_with (go_at_call 9; refine (lives_any _).mono ?_; rintro e w' ⟨rfl, hb⟩)
    go_ret
    exact ⟨rfl, hb⟩
  · obtain ⟨b, er, hp⟩ : ∃ b er, decP s.data.toList = (b, er) := ⟨_, _, rfl⟩
    have hbl : b.length ≤ 1000 := by
      have := decP_len s.data.toList
      rw [hp, Array.length_toList] at this
      have h2 : s.data.size = s.size := rfl
      have h3 : b.length ≤ s.data.size := this
      omega
    have HP := Lib.hid hp
    by_cases he : er = 0
    · subst he
      have henc : (⟨(encS b).toArray⟩ : ByteArray) = s := by
        rw [(enc_dec hp).2]
      have hby := Lib.hid (enc_dec hp).1
      clear hp
      go_enter Try.func6, Try.ntmps6
      go_wp2_with (first
        | (go_at_call 17; refine (dec_any s _ (by omega) b 0 HP.out).mono ?_; rintro e w1 ⟨A, rfl, hr1, hb1⟩; have R1 := Lib.hid hr1; have B1 := Lib.hid hb1; clear hr1 hb1)
        | (go_at_call 19; refine (refDec_any s _ (by omega) b 0 HP.out).mono ?_; rintro e w2 ⟨A2, c2, rfl, hc2, hr2, hb2⟩; have B2 := Lib.hid (chainB B1.out rfl hb2); have R2 := Lib.hid (R1.out.below hb2); have k1 := fun c => string_of_reads (c := c) Try.underlying24 Try.underlying5 Try.underlying9 R2.out; have k2 := string_of_reads (c := c2) Try.underlying24 Try.underlying5 Try.underlying9 hr2; clear hr2 hb2)
        | (go_at_call 16; refine (encode16_any A b b.length _ R2.out (by omega) (Nat.le_refl _) hby.out).mono ?_; rintro e w3 ⟨rfl, hb3⟩; rw [henc]; have B3 := Lib.hid (chainB B2.out rfl hb3); clear hb3)
        | (go_at_call 9; refine (lives_any _).mono ?_; rintro e w4 ⟨rfl, hb4⟩; have B4 := Lib.hid (chainB B3.out rfl hb4); clear hb4))
      go_ret
      exact ⟨rfl, B4.out⟩
    · have he' : (er == 0) = false := by simpa using he
      obtain rfl := decP_bad hp he
      clear hp
      go_enter Try.func6, Try.ntmps6
      go_wp2_with (first
        | (go_at_call 17; refine (dec_any s _ (by omega) [] er HP.out).mono ?_; rintro e w1 ⟨A, rfl, hr1, hb1⟩; have R1 := Lib.hid hr1; have B1 := Lib.hid hb1; clear hr1 hb1)
        | (go_at_call 19; refine (refDec_any s _ (by omega) [] er HP.out).mono ?_; rintro e w2 ⟨A2, c2, rfl, hc2, hr2, hb2⟩; have B2 := Lib.hid (chainB B1.out rfl hb2); have R2 := Lib.hid (R1.out.below hb2); have k1 : ∀ c, (convert 24 9 (.slice A 0 c)).run Try.prog w2 = .ok (.string (strOfNums [])) w2 := fun c => string_of_reads (c := c) Try.underlying24 Try.underlying5 Try.underlying9 R2.out; have k2 : (convert 24 9 (.slice A2 0 c2)).run Try.prog w2 = .ok (.string (strOfNums [])) w2 := string_of_reads (c := c2) Try.underlying24 Try.underlying5 Try.underlying9 hr2; clear hr2 hb2)
        | (go_at_call 9; refine (lives_any _).mono ?_; rintro e w4 ⟨rfl, hb4⟩; have B4 := Lib.hid (chainB B2.out rfl hb4); clear hb4))
      go_ret
      exact ⟨rfl, B4.out⟩
end Go.Proofs.Ytbdccfjeeabpaaa
