/- Chapter 2 (tags): what all rows share: the tables out of the rows' lists; a world for the witness. -/
import Derived.Test.YtpdomckacfeffaaDoorCards
import Derived.Test.YtpdomckacfeffaaDoorTie
import Derived.Test.YtpdomckacfeffaaDoorWd
import Derived.ProofKit
import Derived.OpenShut
import Derived.Deep.DeepHandedRow
import Derived.Lib.LaidTab
import Derived.Stop.LaidErr
import Derived.Lib.SmallJoins
namespace Go.Proofs.YtpdomckacfeffaaDoor
open Go.ChangeShapes Go.WideShapes Go.ChangeAt Go.RowKit

theorem own : ownKnob Tryd.prog.godebug = none := by kernel_rfl
theorem laidOut : laidOutB Tryd.prog = true := by kernel_rfl
theorem gCls : Tryd.prog.globalNamed "vidimus/tags.classes" = some 0 := by kernel_rfl
theorem gEs : Tryd.prog.globalNamed "strconv.ErrSyntax" = some 2 := by kernel_rfl
theorem gEr : Tryd.prog.globalNamed "strconv.ErrRange" = some 3 := by kernel_rfl
theorem tyCls : (Tryd.prog.globals[0]?).map (·.type) = some 62 := by kernel_rfl
theorem tyEs : (Tryd.prog.globals[2]?).map (·.type) = some 71 := by kernel_rfl
theorem tyEr : (Tryd.prog.globals[3]?).map (·.type) = some 71 := by kernel_rfl
theorem tyPow : (Tryd.prog.globals[4]?).map (·.type) = some 111 := by kernel_rfl
theorem cellsPow : Tryd.prog.cellsOf 111 = 20 := by kernel_rfl
theorem cellsU64 : Tryd.prog.cellsOf 97 = 1 := by kernel_rfl
theorem cells9 : Tryd.prog.cellsOf 9 = 1 := by kernel_rfl
theorem cells62 : Tryd.prog.cellsOf 62 = 4 := by kernel_rfl
theorem cells122 : Tryd.prog.cellsOf 122 = 1 := by kernel_rfl
theorem star : "*" ++ "errors.errorString" = "*errors.errorString" := by decide
theorem row120 (u : TypeId) (h : Tryd.prog.typeName? 3 u = some "*errors.errorString") : u = 120 :=
  typeName_ptr_named (nm := "errors.errorString") (by rw [star]; kernel_rfl) (by kernel_rfl) (by decide) u (by rw [star]; exact h)
def laidList : List (String × DataW Unit) := [("math/bits.deBruijn32tab", Rows.laid_math_bits_deBruijn32tab), ("math/bits.deBruijn64tab", Rows.laid_math_bits_deBruijn64tab), ("internal/strconv.uint64pow10", Rows.laid_internal_strconv_uint64pow10), ("strconv.ErrRange", Rows.laid_strconv_ErrRange), ("strconv.ErrSyntax", Rows.laid_strconv_ErrSyntax), ("vidimus/tags.classes", Rows.laid_vidimus_tags_classes)]
theorem cls_of {W : World} {r : List (String × DataW Unit)} (h : laidMet Tryd.prog (("vidimus/tags.classes", Rows.laid_vidimus_tags_classes) :: r) W) (k : Nat) (hk : k < 4) : W.cell? ⟨0, k, none⟩ = some (.string ⟨(cname (k : Int)).toArray⟩) := by
  obtain ⟨ps, ⟨g', t', cs, fuel, p, q, hg', ht', hvar, hd, _, _⟩, _⟩ := h
  obtain rfl := Option.some.inj (gCls.symm.trans hg')
  obtain rfl := Option.some.inj (tyCls.symm.trans ht')
  obtain ⟨xs, m, _, hx, _, hlen, hg⟩ := DataW.trod_array Tryd.underlying62 hd
  have hxs := congrArg Prod.fst hx
  simp only [Rows.laid_vidimus_tags_classes, DataW.agg.injEq] at hxs
  have hcell := World.var?_cell gCls hvar k
  rw [hcell]
  have h1 := hg k hk
  rw [cells9, List.getElem?_eq_getElem (by omega)] at h1
  obtain ⟨s, hs, hv, _⟩ := DataW.trod_string Tryd.underlying9 h1
  have hc : cs[k]? = some (.string s) := by
    have := congrArg (·[0]?) hs
    simpa [List.getElem?_take, List.getElem?_drop] using this
  rw [hc]
  have hv1 : (xs.map (·.1))[k]? = some (.lit (.string s.data.toList)) := by
    rw [List.getElem?_map, List.getElem?_eq_getElem (by omega), hv]; rfl
  rw [← hxs] at hv1
  have key : s.data.toList = cname (k : Int) := by
    match k, hk with
    | 0, _ => exact (show s.data.toList = [117, 110, 105, 118, 101, 114, 115, 97, 108] by simpa [eq_comm] using hv1)
    | 1, _ => exact (show s.data.toList = [97, 112, 112, 108, 105, 99, 97, 116, 105, 111, 110] by simpa [eq_comm] using hv1)
    | 2, _ => exact (show s.data.toList = [99, 111, 110, 116, 101, 120, 116] by simpa [eq_comm] using hv1)
    | 3, _ => exact (show s.data.toList = [112, 114, 105, 118, 97, 116, 101] by simpa [eq_comm] using hv1)
  rw [← key]
/-- WHAT THE ROW's LIST GIVES. -/
theorem tabs_of {W : World} (h0 : laidMetH Tryd.prog laidList W) (hsh : W.ShapedOpen Tryd.prog) : Tabs W := by
  have h : laidMet Tryd.prog laidList W := h0
  have h2 := laidMet.tail (laidMet.tail h)
  have h3 := laidMet.tail h2
  have h4 := laidMet.tail h3
  have h5 := laidMet.tail h4
  have hp : Lib.TabIs Tryd.prog W "internal/strconv.uint64pow10" .u64 Lib.pow10Tab := Lib.tabIs_of_head gPow tyPow Tryd.underlying111 Tryd.underlying97 cellsU64 cellsPow h2
  obtain ⟨a1, s1, hv1, _⟩ := laid_sentinel h3 gEr tyEr Tryd.underlying71 row120 Tryd.underlying120 Tryd.underlying122 rfl rfl Tryd.underlying9 cells122 cells9
  obtain ⟨a2, s2, hv2, _⟩ := laid_sentinel h4 gEs tyEs Tryd.underlying71 row120 Tryd.underlying120 Tryd.underlying122 rfl rfl Tryd.underlying9 cells122 cells9
  obtain ⟨m, hm⟩ := Go.Proofs.cell_of_shapedOpen_int (g := 1) (zero := #[.int .i64 0]) (t := 3) hsh (of_decide_eq_true (by kernel_rfl)) (by kernel_rfl) rfl (by kernel_rfl) (by kernel_rfl) Tryd.underlying3
  exact ⟨fun k hk => cls_of h5 k hk, ⟨m, hm⟩, ⟨_, _, by simpa using World.var?_cell gEs hv2 0⟩, ⟨_, _, by simpa using World.var?_cell gEr hv1 0⟩, hp⟩

/-- A WORLD FOR THE WITNESS: the settled one, the tables and the two sentinel errors holding what their initialisers lay. -/
def setCells (cs : Array Value) : Obj → Obj
  | .cells _ t frozen => .cells cs t frozen
  | o => o
def tabC : Array Value := #[.string ⟨#[117, 110, 105, 118, 101, 114, 115, 97, 108]⟩, .string ⟨#[97, 112, 112, 108, 105, 99, 97, 116, 105, 111, 110]⟩, .string ⟨#[99, 111, 110, 116, 101, 120, 116]⟩, .string ⟨#[112, 114, 105, 118, 97, 116, 101]⟩]
def tabP : Array Value := #[.int .u64 1, .int .u64 10, .int .u64 100, .int .u64 1000, .int .u64 10000, .int .u64 100000, .int .u64 1000000, .int .u64 10000000, .int .u64 100000000, .int .u64 1000000000, .int .u64 10000000000, .int .u64 100000000000, .int .u64 1000000000000, .int .u64 10000000000000, .int .u64 100000000000000, .int .u64 1000000000000000, .int .u64 10000000000000000, .int .u64 100000000000000000, .int .u64 1000000000000000000, .int .u64 10000000000000000000]
def tab3 : Array Value := #[.int .u8 0, .int .u8 1, .int .u8 28, .int .u8 2, .int .u8 29, .int .u8 14, .int .u8 24, .int .u8 3, .int .u8 30, .int .u8 22, .int .u8 20, .int .u8 15, .int .u8 25, .int .u8 17, .int .u8 4, .int .u8 8, .int .u8 31, .int .u8 27, .int .u8 13, .int .u8 23, .int .u8 21, .int .u8 19, .int .u8 16, .int .u8 7, .int .u8 26, .int .u8 12, .int .u8 18, .int .u8 6, .int .u8 11, .int .u8 5, .int .u8 10, .int .u8 9]
def tab6 : Array Value := #[.int .u8 0, .int .u8 1, .int .u8 56, .int .u8 2, .int .u8 57, .int .u8 49, .int .u8 28, .int .u8 3, .int .u8 61, .int .u8 58, .int .u8 42, .int .u8 50, .int .u8 38, .int .u8 29, .int .u8 17, .int .u8 4, .int .u8 62, .int .u8 47, .int .u8 59, .int .u8 36, .int .u8 45, .int .u8 43, .int .u8 51, .int .u8 22, .int .u8 53, .int .u8 39, .int .u8 33, .int .u8 30, .int .u8 24, .int .u8 18, .int .u8 12, .int .u8 5, .int .u8 63, .int .u8 55, .int .u8 48, .int .u8 27, .int .u8 60, .int .u8 41, .int .u8 37, .int .u8 16, .int .u8 46, .int .u8 35, .int .u8 44, .int .u8 21, .int .u8 52, .int .u8 32, .int .u8 23, .int .u8 11, .int .u8 54, .int .u8 26, .int .u8 40, .int .u8 15, .int .u8 34, .int .u8 20, .int .u8 31, .int .u8 10, .int .u8 25, .int .u8 14, .int .u8 19, .int .u8 9, .int .u8 13, .int .u8 8, .int .u8 7, .int .u8 6]
abbrev synS : ByteArray := ⟨#[105, 110, 118, 97, 108, 105, 100, 32, 115, 121, 110, 116, 97, 120]⟩
abbrev rngS : ByteArray := ⟨#[118, 97, 108, 117, 101, 32, 111, 117, 116, 32, 111, 102, 32, 114, 97, 110, 103, 101]⟩
noncomputable def low : Nat := (World.holding Tryd.prog default ⟨#[], #[], []⟩).heap.size
noncomputable def held (os : Os) : World := World.holding Tryd.prog os ⟨#[.cells #[.string synS] 122, .cells #[.string rngS] 122], #[], []⟩
noncomputable def laidWorld (os : Os) : World :=
  { held os with heap := ((((((held os).heap.modify 0 (setCells tabC)).modify 4 (setCells tabP)).modify 5 (setCells tab3)).modify 6 (setCells tab6)).modify 2 (setCells #[.iface 120 (.pointer (some ⟨low, 0, none⟩))])).modify 3 (setCells #[.iface 120 (.pointer (some ⟨low + 1, 0, none⟩))]) }
end Go.Proofs.YtpdomckacfeffaaDoor
