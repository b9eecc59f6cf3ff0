/- Chapter 10 (times): the walk of the law TimesOrder at any arguments. -/
import Derived.Test.YtbncjjobdipmgaaDoorLgA
namespace Go.Proofs.YtbncjjobdipmgaaDoor
open Go.RowKit Pl

theorem order_cases (a0 a1 a2 a3 a4 a5 b0 b1 b2 b3 b4 b5 c c' : Int) (hc : cmpL [a0, a1, a2, a3, a4, a5] [b0, b1, b2, b3, b4, b5] = c) (hc' : cmpL [b0, b1, b2, b3, b4, b5] [a0, a1, a2, a3, a4, a5] = c') :
    (c = 0 ∧ c' = 0 ∧ a0 = b0 ∧ a1 = b1 ∧ a2 = b2 ∧ a3 = b3 ∧ a4 = b4 ∧ a5 = b5) ∨ (c = -1 ∧ c' = 1 ∧ a0 < b0) ∨ (c = 1 ∧ c' = -1 ∧ b0 < a0) ∨
    (c = -1 ∧ c' = 1 ∧ a0 = b0 ∧ (a1 ≠ b1 ∨ a1 = b1 ∧ a2 ≠ b2 ∨ a1 = b1 ∧ a2 = b2 ∧ a3 ≠ b3 ∨ a1 = b1 ∧ a2 = b2 ∧ a3 = b3 ∧ a4 ≠ b4 ∨ a1 = b1 ∧ a2 = b2 ∧ a3 = b3 ∧ a4 = b4 ∧ a5 ≠ b5)) ∨
    (c = 1 ∧ c' = -1 ∧ a0 = b0 ∧ (a1 ≠ b1 ∨ a1 = b1 ∧ a2 ≠ b2 ∨ a1 = b1 ∧ a2 = b2 ∧ a3 ≠ b3 ∨ a1 = b1 ∧ a2 = b2 ∧ a3 = b3 ∧ a4 ≠ b4 ∨ a1 = b1 ∧ a2 = b2 ∧ a3 = b3 ∧ a4 = b4 ∧ a5 ≠ b5)) := by
  have hn := cmpL_neg [a0, a1, a2, a3, a4, a5] [b0, b1, b2, b3, b4, b5]
  have hz := cmpL_zero [a0, a1, a2, a3, a4, a5] [b0, b1, b2, b3, b4, b5]
  have hy := cmpL_year ⟨a0, a1, a2, a3, a4, a5⟩ ⟨b0, b1, b2, b3, b4, b5⟩
  have hi := cmpL_is [a0, a1, a2, a3, a4, a5] [b0, b1, b2, b3, b4, b5]
  have hy : a0 ≠ b0 → (cmpL [a0, a1, a2, a3, a4, a5] [b0, b1, b2, b3, b4, b5] < 0 ↔ a0 < b0) := hy
  rw [hc', hc] at hn
  rw [hc] at hz hy hi
  have hz : c = 0 ↔ (a0 = b0 ∧ a1 = b1 ∧ a2 = b2 ∧ a3 = b3 ∧ a4 = b4 ∧ a5 = b5) := hz.trans (by simp)
  clear hc hc'
  by_cases he : a0 = b0
  · have key : ¬ c = 0 → (a1 ≠ b1 ∨ a1 = b1 ∧ a2 ≠ b2 ∨ a1 = b1 ∧ a2 = b2 ∧ a3 ≠ b3 ∨ a1 = b1 ∧ a2 = b2 ∧ a3 = b3 ∧ a4 ≠ b4 ∨ a1 = b1 ∧ a2 = b2 ∧ a3 = b3 ∧ a4 = b4 ∧ a5 ≠ b5) := fun h => by
      by_cases h1 : a1 = b1
      · by_cases h2 : a2 = b2
        · by_cases h3 : a3 = b3
          · by_cases h4 : a4 = b4
            · exact .inr (.inr (.inr (.inr ⟨h1, h2, h3, h4, fun h5 => h (hz.mpr ⟨he, h1, h2, h3, h4, h5⟩)⟩)))
            · exact .inr (.inr (.inr (.inl ⟨h1, h2, h3, h4⟩)))
          · exact .inr (.inr (.inl ⟨h1, h2, h3⟩))
        · exact .inr (.inl ⟨h1, h2⟩)
      · exact .inl h1
    rcases hi with h | h | h
    · exact .inr (.inr (.inr (.inl ⟨h, by omega, he, key (by omega)⟩)))
    · exact .inl ⟨h, by omega, hz.mp h⟩
    · exact .inr (.inr (.inr (.inr ⟨h, by omega, he, key (by omega)⟩)))
  · have hy := hy he
    have h0 : ¬ c = 0 := fun h => he (hz.mp h).1
    clear hz
    rcases hi with h | h | h
    · exact .inr (.inl ⟨h, by omega, hy.mp (by omega)⟩)
    · exact absurd h h0
    · exact .inr (.inr (.inl ⟨h, by omega, by omega⟩))

theorem beq_self (l : List UInt8) : (l == l) = true := by simp
theorem timesOrder_walk (a0 a1 a2 a3 a4 a5 b0 b1 b2 b3 b4 b5 xY xM xD xH xMi xS zY zM zD zH zMi zS : Int)
    (b00 : 0 ≤ xY) (b01 : xY < 65536) (b02 : 0 ≤ xM) (b03 : xM < 256) (b04 : 0 ≤ xD) (b05 : xD < 256) (b06 : 0 ≤ xH) (b07 : xH < 256) (b08 : 0 ≤ xMi) (b09 : xMi < 256) (b010 : 0 ≤ xS) (b011 : xS < 256)
    (c00 : 0 ≤ zY) (c01 : zY < 65536) (c02 : 0 ≤ zM) (c03 : zM < 256) (c04 : 0 ≤ zD) (c05 : zD < 256) (c06 : 0 ≤ zH) (c07 : zH < 256) (c08 : 0 ≤ zMi) (c09 : zMi < 256) (c010 : 0 ≤ zS) (c011 : zS < 256) (w : World) (hT : Tabs w) :
    Calls Tryd.prog 9 #[.agg #[.int .i64 a0, .int .i64 a1, .int .i64 a2, .int .i64 a3, .int .i64 a4, .int .i64 a5], .agg #[.int .i64 b0, .int .i64 b1, .int .i64 b2, .int .i64 b3, .int .i64 b4, .int .i64 b5], .agg #[.int .u16 xY, .int .u8 xM, .int .u8 xD, .int .u8 xH, .int .u8 xMi, .int .u8 xS, .int .u16 zY, .int .u8 zM, .int .u8 zD, .int .u8 zH, .int .u8 zMi, .int .u8 zS]] w fun e w' => e = .returned (.bool true) ∧ Below w.heap.size w w' := by
  have hs := tOf_ok xY xM xD xH xMi xS
  have ht := tOf_ok zY zM zD zH zMi zS
  have H20 := fun W hW => tof_any xY xM xD xH xMi xS b00 b01 b02 b03 b04 b05 b06 b07 b08 b09 b010 b011 W hW
  have H20' := fun W hW => tof_any zY zM zD zH zMi zS c00 c01 c02 c03 c04 c05 c06 c07 c08 c09 c010 c011 W hW
  generalize tOf xY xM xD xH xMi xS = s at *
  generalize tOf zY zM zD zH zMi zS = t at *
  have hsg := cmp_sign hs ht
  have hl := text_less hs ht
  have hl' := text_less ht hs
  obtain ⟨p0, p1, p2, p3, p4, p5⟩ := s
  obtain ⟨q0, q1, q2, q3, q4, q5⟩ := t
  have hl : Op.bytesLess (textL p0 p1 p2 p3 p4 p5) (textL q0 q1 q2 q3 q4 q5) = decide (cmpL [p0, p1, p2, p3, p4, p5] [q0, q1, q2, q3, q4, q5] < 0) := hl
  have hl' : Op.bytesLess (textL q0 q1 q2 q3 q4 q5) (textL p0 p1 p2 p3 p4 p5) = decide (cmpL [q0, q1, q2, q3, q4, q5] [p0, p1, p2, p3, p4, p5] < 0) := hl'
  have hsg : (cmpL [p0, p1, p2, p3, p4, p5] [q0, q1, q2, q3, q4, q5] = -1 ∧ secs p0 p1 p2 p3 p4 p5 < secs q0 q1 q2 q3 q4 q5) ∨ (cmpL [p0, p1, p2, p3, p4, p5] [q0, q1, q2, q3, q4, q5] = 0 ∧ (⟨p0, p1, p2, p3, p4, p5⟩ : Tm) = ⟨q0, q1, q2, q3, q4, q5⟩) ∨ (cmpL [p0, p1, p2, p3, p4, p5] [q0, q1, q2, q3, q4, q5] = 1 ∧ secs q0 q1 q2 q3 q4 q5 < secs p0 p1 p2 p3 p4 p5) := hsg
  refine order_gen a0 a1 a2 a3 a4 a5 b0 b1 b2 b3 b4 b5 p0 p1 p2 p3 p4 p5 q0 q1 q2 q3 q4 q5 xY xM xD xH xMi xS zY zM zD zH zMi zS _ _ _ (secs p0 p1 p2 p3 p4 p5) (secs q0 q1 q2 q3 q4 q5) ⟨(textL p0 p1 p2 p3 p4 p5).toArray⟩ ⟨(textL q0 q1 q2 q3 q4 q5).toArray⟩ w hT
    (fun W hW => compare_gen _ _ a0 a1 a2 a3 a4 a5 b0 b1 b2 b3 b4 b5 rfl rfl W hW) (fun W hW => compare_gen _ _ b0 b1 b2 b3 b4 b5 a0 a1 a2 a3 a4 a5 rfl rfl W hW)
    (order_cases a0 a1 a2 a3 a4 a5 b0 b1 b2 b3 b4 b5 _ _ rfl rfl) H20 H20'
    (fun W hW => secs_is p0 p1 p2 p3 p4 p5 _ hs rfl W hW) (fun W hW => secs_is q0 q1 q2 q3 q4 q5 _ ht rfl W hW)
    (fun W hW => text_ok p0 p1 p2 p3 p4 p5 W hW hs) (fun W hW => text_ok q0 q1 q2 q3 q4 q5 W hW ht)
    (fun W => refSecs_ok ⟨p0, p1, p2, p3, p4, p5⟩ hs W) (fun W => refSecs_ok ⟨q0, q1, q2, q3, q4, q5⟩ ht W)
    (fun W hW => compare_gen _ _ p0 p1 p2 p3 p4 p5 q0 q1 q2 q3 q4 q5 rfl rfl W hW) ?_
  show _ ∨ _
  rw [ByteArray.toList_mk, ByteArray.toList_mk]
  have hn := cmpL_neg [p0, p1, p2, p3, p4, p5] [q0, q1, q2, q3, q4, q5]
  rcases hsg with ⟨h, hlt⟩ | ⟨h, he⟩ | ⟨h, hlt⟩
  · exact .inl ⟨h, hlt, by rw [hl, h]; rfl⟩
  · injection he with e0 e1 e2 e3 e4 e5
    subst e0 e1 e2 e3 e4 e5
    exact .inr (.inl ⟨h, rfl, by rw [hl, h]; rfl, beq_self _⟩)
  · refine .inr (.inr ⟨h, hlt, by rw [hl, h]; rfl, ?_⟩)
    rw [hn, h] at hl'
    refine beq_false_of_ne fun e => ?_
    rw [e] at hl hl'
    rw [hl, h] at hl'
    exact absurd hl' (by decide)
end Go.Proofs.YtbncjjobdipmgaaDoor
