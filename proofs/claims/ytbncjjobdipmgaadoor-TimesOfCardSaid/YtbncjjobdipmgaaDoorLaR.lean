/- Chapter 10 (times): what all rows share: the tables out of the rows' lists; a world for the witness. -/
import Derived.Test.YtbncjjobdipmgaaDoorPl
import Derived.Test.YtbncjjobdipmgaaDoorCards
import Derived.Test.YtbncjjobdipmgaaDoorTie
import Derived.Test.YtbncjjobdipmgaaDoorWb
import Derived.ProofKit
import Derived.OpenShut
import Derived.Deep.DeepHandedRow
import Derived.Lib.LaidTab
import Derived.Stop.LaidErr
import Derived.Lib.SmallJoins
namespace Go.Proofs.YtbncjjobdipmgaaDoor
open Go.ChangeShapes Go.WideShapes Go.ChangeAt Go.RowKit Pl

theorem own : ownKnob Tryd.prog.godebug = none := by kernel_rfl
theorem laidOut : laidOutB Tryd.prog = true := by kernel_rfl
theorem ty0 : (Tryd.prog.globals[0]?).map (·.type) = some 66 := by kernel_rfl
theorem ty1 : (Tryd.prog.globals[1]?).map (·.type) = some 90 := by kernel_rfl
theorem cells66 : Tryd.prog.cellsOf 66 = 12 := by kernel_rfl
theorem cells90 : Tryd.prog.cellsOf 90 = 20 := by kernel_rfl
theorem cells3 : Tryd.prog.cellsOf 3 = 1 := by kernel_rfl
theorem cells84 : Tryd.prog.cellsOf 84 = 1 := by kernel_rfl
def laidList : List (String × DataW Unit) := [("math/bits.deBruijn32tab", Rows.laid_math_bits_deBruijn32tab), ("math/bits.deBruijn64tab", Rows.laid_math_bits_deBruijn64tab), ("internal/strconv.uint64pow10", Rows.laid_internal_strconv_uint64pow10), ("vidimus/times.lengths", Rows.laid_vidimus_times_lengths)]
/-- WHAT THE ROW's LIST GIVES. -/
theorem tabs_of {W : World} (h0 : laidMetH Tryd.prog laidList W) : Tabs W := by
  have h : laidMet Tryd.prog laidList W := h0
  have h3 : Lib.TabIs Tryd.prog W "internal/strconv.uint64pow10" .u64 Lib.pow10Tab := Lib.tabIs_of_head (rest := [("vidimus/times.lengths", Rows.laid_vidimus_times_lengths)]) gPow ty1 Tryd.underlying90 Tryd.underlying84 cells84 cells90 (laidMet.tail (laidMet.tail h))
  have h4 : Lib.TabIs Tryd.prog W "vidimus/times.lengths" .i64 lens := Lib.tabIs_of_head (rest := []) gLens ty0 Tryd.underlying66 Tryd.underlying3 cells3 cells66 (laidMet.tail (laidMet.tail (laidMet.tail h)))
  exact ⟨fun k hk => h4.cell gLens k hk, h3⟩

/-- A WORLD FOR THE WITNESS: the settled one, the tables holding what their initialisers lay. -/
def setCells (cs : Array Value) : Obj → Obj
  | .cells _ t frozen => .cells cs t frozen
  | o => o
def tab0 : Array Value := #[.int .i64 31, .int .i64 28, .int .i64 31, .int .i64 30, .int .i64 31, .int .i64 30, .int .i64 31, .int .i64 31, .int .i64 30, .int .i64 31, .int .i64 30, .int .i64 31]
def tab1 : Array Value := #[.int .u64 1, .int .u64 10, .int .u64 100, .int .u64 1000, .int .u64 10000, .int .u64 100000, .int .u64 1000000, .int .u64 10000000, .int .u64 100000000, .int .u64 1000000000, .int .u64 10000000000, .int .u64 100000000000, .int .u64 1000000000000, .int .u64 10000000000000, .int .u64 100000000000000, .int .u64 1000000000000000, .int .u64 10000000000000000, .int .u64 100000000000000000, .int .u64 1000000000000000000, .int .u64 10000000000000000000]
def tab2 : Array Value := #[.int .u8 0, .int .u8 1, .int .u8 28, .int .u8 2, .int .u8 29, .int .u8 14, .int .u8 24, .int .u8 3, .int .u8 30, .int .u8 22, .int .u8 20, .int .u8 15, .int .u8 25, .int .u8 17, .int .u8 4, .int .u8 8, .int .u8 31, .int .u8 27, .int .u8 13, .int .u8 23, .int .u8 21, .int .u8 19, .int .u8 16, .int .u8 7, .int .u8 26, .int .u8 12, .int .u8 18, .int .u8 6, .int .u8 11, .int .u8 5, .int .u8 10, .int .u8 9]
def tab3 : Array Value := #[.int .u8 0, .int .u8 1, .int .u8 56, .int .u8 2, .int .u8 57, .int .u8 49, .int .u8 28, .int .u8 3, .int .u8 61, .int .u8 58, .int .u8 42, .int .u8 50, .int .u8 38, .int .u8 29, .int .u8 17, .int .u8 4, .int .u8 62, .int .u8 47, .int .u8 59, .int .u8 36, .int .u8 45, .int .u8 43, .int .u8 51, .int .u8 22, .int .u8 53, .int .u8 39, .int .u8 33, .int .u8 30, .int .u8 24, .int .u8 18, .int .u8 12, .int .u8 5, .int .u8 63, .int .u8 55, .int .u8 48, .int .u8 27, .int .u8 60, .int .u8 41, .int .u8 37, .int .u8 16, .int .u8 46, .int .u8 35, .int .u8 44, .int .u8 21, .int .u8 52, .int .u8 32, .int .u8 23, .int .u8 11, .int .u8 54, .int .u8 26, .int .u8 40, .int .u8 15, .int .u8 34, .int .u8 20, .int .u8 31, .int .u8 10, .int .u8 25, .int .u8 14, .int .u8 19, .int .u8 9, .int .u8 13, .int .u8 8, .int .u8 7, .int .u8 6]
noncomputable def laidWorld (os : Os) : World :=
  { World.holding Tryd.prog os ⟨#[], #[], []⟩ with heap := ((((World.holding Tryd.prog os ⟨#[], #[], []⟩).heap.modify 0 (setCells tab0)).modify 1 (setCells tab1)).modify 2 (setCells tab2)).modify 3 (setCells tab3) }

section
variable {H : Type} {enc : TypeId × Value → H} {w : World} {base : Nat} {spare : Nat → Bool} {held : Bool}
/-- A field that is a whole number. -/
theorem field_int {k : IntKind} {t : TypeId} (ht : Tryd.prog.underlying t = some (.int k)) (hc : Tryd.prog.cellsOf t = 1) {cs : List Value} {xs : List (DataW H × List MemPlace)} {n i off : Nat}
    (h : DataW.trod enc Tryd.prog w base spare held n t ((cs.drop off).take (Tryd.prog.cellsOf t)) = xs[i]?) (hi : i < xs.length) : ∃ z, (cs.drop off).take 1 = [.int k z] ∧ (Lit.int k z).wf = true := by
  rw [hc, List.getElem?_eq_getElem hi] at h
  obtain ⟨z, h1, _, h2⟩ := DataW.trod_int ht h
  exact ⟨z, h1, h2⟩
/-- An argument that is a time: six whole numbers. -/
theorem open_time {r : Reach} {b0 : Nat} {v : Value} {d : DataW H} {p : List MemPlace} (hv : Value.okWide Tryd.prog w r b0 23 v) (h : DataW.Trod enc Tryd.prog w base spare held 23 v d p) :
    ∃ y mo dd hh mi s : Int, v = .agg #[.int .i64 y, .int .i64 mo, .int .i64 dd, .int .i64 hh, .int .i64 mi, .int .i64 s] := by
  obtain ⟨cs, rfl, hsz⟩ := okWide_struct Tryd.underlying23 hv
  obtain ⟨l⟩ := cs
  have h6 : l.length = 6 := hsz.trans (by kernel_rfl)
  obtain ⟨fuel, hf⟩ := h
  obtain ⟨xs, n, _, _, _, hlen, hg⟩ := DataW.trod_struct Tryd.underlying23 hf
  have hx : xs.length = 6 := hlen
  obtain ⟨z0, e0, _⟩ := field_int Tryd.underlying3 cells3 (hg 0 _ rfl) (by omega)
  obtain ⟨z1, e1, _⟩ := field_int Tryd.underlying3 cells3 (hg 1 _ rfl) (by omega)
  obtain ⟨z2, e2, _⟩ := field_int Tryd.underlying3 cells3 (hg 2 _ rfl) (by omega)
  obtain ⟨z3, e3, _⟩ := field_int Tryd.underlying3 cells3 (hg 3 _ rfl) (by omega)
  obtain ⟨z4, e4, _⟩ := field_int Tryd.underlying3 cells3 (hg 4 _ rfl) (by omega)
  obtain ⟨z5, e5, _⟩ := field_int Tryd.underlying3 cells3 (hg 5 _ rfl) (by omega)
  match l, h6 with
  | [c0, c1, c2, c3, c4, c5], _ =>
    simp [Value.cells] at e0 e1 e2 e3 e4 e5
    subst e0 e1 e2 e3 e4 e5
    exact ⟨z0, z1, z2, z3, z4, z5, rfl⟩
end
end Go.Proofs.YtbncjjobdipmgaaDoor
