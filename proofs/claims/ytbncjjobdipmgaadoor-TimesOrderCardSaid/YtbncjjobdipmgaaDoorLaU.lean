/- Chapter 10 (times): the opener of an array of two of the law's T. -/
import Derived.Test.YtbncjjobdipmgaaDoorLaS
namespace Go.Proofs.YtbncjjobdipmgaaDoor
open Go.ChangeShapes Go.WideShapes Go.ChangeAt Go.RowKit Pl

section
variable {H : Type} {enc : TypeId × Value → H} {w : World} {base : Nat} {spare : Nat → Bool} {held : Bool}
theorem cells44 : Tryd.prog.cellsOf 44 = 6 := by kernel_rfl
theorem cells63 : Tryd.prog.cellsOf 63 = 12 := by kernel_rfl
theorem open_X2 {r : Reach} {b0 : Nat} {v : Value} {d : DataW H} {p : List MemPlace} (hv : Value.okWide Tryd.prog w r b0 63 v) (h : DataW.Trod enc Tryd.prog w base spare held 63 v d p) :
    ∃ xY xM xD xH xMi xS zY zM zD zH zMi zS : Int, v = .agg #[.int .u16 xY, .int .u8 xM, .int .u8 xD, .int .u8 xH, .int .u8 xMi, .int .u8 xS, .int .u16 zY, .int .u8 zM, .int .u8 zD, .int .u8 zH, .int .u8 zMi, .int .u8 zS] ∧
      ((0 ≤ xY ∧ xY < 65536) ∧ (0 ≤ xM ∧ xM < 256) ∧ (0 ≤ xD ∧ xD < 256) ∧ (0 ≤ xH ∧ xH < 256) ∧ (0 ≤ xMi ∧ xMi < 256) ∧ (0 ≤ xS ∧ xS < 256)) ∧
      ((0 ≤ zY ∧ zY < 65536) ∧ (0 ≤ zM ∧ zM < 256) ∧ (0 ≤ zD ∧ zD < 256) ∧ (0 ≤ zH ∧ zH < 256) ∧ (0 ≤ zMi ∧ zMi < 256) ∧ (0 ≤ zS ∧ zS < 256)) := by
  have hv' : ∃ cs, v = .agg cs ∧ cs.size = Tryd.prog.cellsOf 63 := by
    simp only [Value.okWide, Tryd.underlying63] at hv
    obtain ⟨cs, h1, h2, _⟩ := hv
    exact ⟨cs, h1, h2⟩
  obtain ⟨cs, rfl, hsz⟩ := hv'
  obtain ⟨l⟩ := cs
  have h12 : l.length = 12 := hsz.trans cells63
  obtain ⟨fuel, hf⟩ := h
  obtain ⟨xs, n, _, _, _, hlen, hg⟩ := DataW.trod_array Tryd.underlying63 hf
  have g0 := hg 0 (by omega)
  have g1 := hg 1 (by omega)
  rw [cells44, List.getElem?_eq_getElem (by omega)] at g0 g1
  simp only [Nat.zero_mul, Nat.one_mul, List.drop_zero] at g0 g1
  have e0 := open_Tn (by rw [List.length_take]; show min 6 l.length = 6; omega) g0
  have e1 := open_Tn (by rw [List.length_take, List.length_drop]; show min 6 (l.length - 6) = 6; omega) g1
  obtain ⟨Y, M, D, Hh, Mi, S, q0, a0, a1, a2, a3, a4, a5⟩ := e0
  obtain ⟨Y', M', D', Hh', Mi', S', q1, b0, b1, b2, b3, b4, b5⟩ := e1
  have hl : l = [.int .u16 Y, .int .u8 M, .int .u8 D, .int .u8 Hh, .int .u8 Mi, .int .u8 S, .int .u16 Y', .int .u8 M', .int .u8 D', .int .u8 Hh', .int .u8 Mi', .int .u8 S'] := by
    have q0 : l.take 6 = _ := q0
    have q1 : (l.drop 6).take 6 = _ := q1
    rw [List.take_of_length_le (by rw [List.length_drop]; omega)] at q1
    rw [← List.take_append_drop 6 l, q0, q1]
    rfl
  subst hl
  exact ⟨Y, M, D, Hh, Mi, S, Y', M', D', Hh', Mi', S', rfl, ⟨a0, a1, a2, a3, a4, a5⟩, ⟨b0, b1, b2, b3, b4, b5⟩⟩
end
end Go.Proofs.YtbncjjobdipmgaaDoor
