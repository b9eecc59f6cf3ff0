/- Chapter 10 (times): more openers of arguments. -/
import Derived.Test.YtbncjjobdipmgaaDoorLaR
namespace Go.Proofs.YtbncjjobdipmgaaDoor
open Go.ChangeShapes Go.WideShapes Go.ChangeAt Go.RowKit Pl

section
variable {H : Type} {enc : TypeId × Value → H} {w : World} {base : Nat} {spare : Nat → Bool} {held : Bool}
theorem cells42 : Tryd.prog.cellsOf 42 = 1 := by kernel_rfl
theorem cells5 : Tryd.prog.cellsOf 5 = 1 := by kernel_rfl
theorem wf_u16 {z : Int} (h : (Lit.int .u16 z).wf = true) : 0 ≤ z ∧ z < 65536 := by
  have : (0 : Int) ≤ z ∧ z ≤ 65535 := by
    have h := (Bool.and_eq_true _ _).mp h
    exact ⟨of_decide_eq_true h.1, of_decide_eq_true h.2⟩
  omega
theorem wf_u8 {z : Int} (h : (Lit.int .u8 z).wf = true) : 0 ≤ z ∧ z < 256 := by
  have : (0 : Int) ≤ z ∧ z ≤ 255 := by
    have h := (Bool.and_eq_true _ _).mp h
    exact ⟨of_decide_eq_true h.1, of_decide_eq_true h.2⟩
  omega
/-- The law's T in cells: six whole numbers of their kinds. -/
theorem open_Tn {l : List Value} (h6 : l.length = 6) {fuel : Nat} {d : DataW H} {p : List MemPlace} (hf : DataW.trod enc Tryd.prog w base spare held fuel 44 l = some (d, p)) :
    ∃ Y M D Hh Mi S : Int, l = [.int .u16 Y, .int .u8 M, .int .u8 D, .int .u8 Hh, .int .u8 Mi, .int .u8 S] ∧ (0 ≤ Y ∧ Y < 65536) ∧ (0 ≤ M ∧ M < 256) ∧ (0 ≤ D ∧ D < 256) ∧ (0 ≤ Hh ∧ Hh < 256) ∧ (0 ≤ Mi ∧ Mi < 256) ∧ (0 ≤ S ∧ S < 256) := by
  obtain ⟨xs, n, _, _, _, hlen, hg⟩ := DataW.trod_struct Tryd.underlying44 hf
  have hx : xs.length = 6 := hlen
  obtain ⟨z0, e0, g0⟩ := field_int Tryd.underlying42 cells42 (hg 0 _ rfl) (by omega)
  obtain ⟨z1, e1, g1⟩ := field_int Tryd.underlying5 cells5 (hg 1 _ rfl) (by omega)
  obtain ⟨z2, e2, g2⟩ := field_int Tryd.underlying5 cells5 (hg 2 _ rfl) (by omega)
  obtain ⟨z3, e3, g3⟩ := field_int Tryd.underlying5 cells5 (hg 3 _ rfl) (by omega)
  obtain ⟨z4, e4, g4⟩ := field_int Tryd.underlying5 cells5 (hg 4 _ rfl) (by omega)
  obtain ⟨z5, e5, g5⟩ := field_int Tryd.underlying5 cells5 (hg 5 _ rfl) (by omega)
  match l, h6 with
  | [c0, c1, c2, c3, c4, c5], _ =>
    simp at e0 e1 e2 e3 e4 e5
    subst e0 e1 e2 e3 e4 e5
    exact ⟨z0, z1, z2, z3, z4, z5, rfl, wf_u16 g0, wf_u8 g1, wf_u8 g2, wf_u8 g3, wf_u8 g4, wf_u8 g5⟩
theorem open_T {r : Reach} {b0 : Nat} {v : Value} {d : DataW H} {p : List MemPlace} (hv : Value.okWide Tryd.prog w r b0 44 v) (h : DataW.Trod enc Tryd.prog w base spare held 44 v d p) :
    ∃ Y M D Hh Mi S : Int, v = .agg #[.int .u16 Y, .int .u8 M, .int .u8 D, .int .u8 Hh, .int .u8 Mi, .int .u8 S] ∧ (0 ≤ Y ∧ Y < 65536) ∧ (0 ≤ M ∧ M < 256) ∧ (0 ≤ D ∧ D < 256) ∧ (0 ≤ Hh ∧ Hh < 256) ∧ (0 ≤ Mi ∧ Mi < 256) ∧ (0 ≤ S ∧ S < 256) := by
  obtain ⟨cs, rfl, hsz⟩ := okWide_struct Tryd.underlying44 hv
  obtain ⟨l⟩ := cs
  have h6 : l.length = 6 := hsz.trans (by kernel_rfl)
  obtain ⟨fuel, hf⟩ := h
  obtain ⟨Y, M, D, Hh, Mi, S, rfl, a, b, c, d, e, f⟩ := open_Tn h6 hf
  exact ⟨Y, M, D, Hh, Mi, S, rfl, a, b, c, d, e, f⟩
end
end Go.Proofs.YtbncjjobdipmgaaDoor
