/-
  NARROWER THAN 'FOR EVERY INPUT', by the rows' own cells (each row's printed sentence says how): TimesCheck: laid · TimesBack: laid · TimesOf: loops, laid · TimesParse: laid · TimesSeconds: laid · TimesKnown: laid · TimesOrder: laid.
  DERIVED. THE GIVEN ROWS OF THIS SEAT. 7 by the template 'for every input the law returns true; each argument reads behind the call as it read before'; 0 by the template 'total and deterministic' (their statements: YtbncjjobdipmgaaDoorTotals.lean).
  GIVEN WITH THE SEED: the statements are not yours to turn. If you find one false, say at which input.
  Laid BY PROGRAM, IN A SANDBOX (cutbox-rows.mjs): the forced cells as the released guide's own fill.sh prints them over the translation 0fffa803e90a9707… (all of the seat's roots in one cut). By AI agents, Wed Nov 11 2026. No macro, syntax, notation, axiom, sorry.
-/
import Derived.Test.YtbncjjobdipmgaaDoorChecked
import GoSem.Claim
import GoSem.ClaimJoined
import GoSem.ClaimMapViews
import Derived.JoinedTies
import Derived.KernelRfl
namespace Go.Proofs.YtbncjjobdipmgaaDoor
/- THE CELL 'sum', in the pinned program and in every row, IS THE sha256 OF THE DUMP (.gsa) THAT YtbncjjobdipmgaaDoorProg.lean LOADS. Nothing in Lean hashes anything: it is a label: what it is worth is what the hold of that sum in a sandbox is worth. -/
noncomputable def Tryd.pinned : Pinned := { name := "ytbncjjobdipmgaadoor", sum := "0fffa803e90a97073f75e74c54ab3798ab3c2d4c5e29a8a5a2ddcdc40a554f63", checked := Tryd.checked }
namespace Rows
def none {H : Type} : Left H := { results := [], args := [] }

/- WHAT THE LISTED PACKAGE-LEVEL VARIABLES READ AS WHEN THE CALL BEGINS. Each datum BY PROGRAM (the guide's laid-datum.mjs) off the statement by which the dump's own 'gosem.cut.vars' lays the variable. In a bare row this is a premise. The card (YtbncjjobdipmgaaDoorCards.lean) ties it to the program's text. -/
def laid_math_bits_deBruijn32tab {H : Type} : DataW H := .agg [.lit (.int .u8 0), .lit (.int .u8 1), .lit (.int .u8 28), .lit (.int .u8 2), .lit (.int .u8 29), .lit (.int .u8 14), .lit (.int .u8 24), .lit (.int .u8 3), .lit (.int .u8 30), .lit (.int .u8 22), .lit (.int .u8 20), .lit (.int .u8 15), .lit (.int .u8 25), .lit (.int .u8 17), .lit (.int .u8 4), .lit (.int .u8 8), .lit (.int .u8 31), .lit (.int .u8 27), .lit (.int .u8 13), .lit (.int .u8 23), .lit (.int .u8 21), .lit (.int .u8 19), .lit (.int .u8 16), .lit (.int .u8 7), .lit (.int .u8 26), .lit (.int .u8 12), .lit (.int .u8 18), .lit (.int .u8 6), .lit (.int .u8 11), .lit (.int .u8 5), .lit (.int .u8 10), .lit (.int .u8 9)]
def laid_math_bits_deBruijn64tab {H : Type} : DataW H := .agg [.lit (.int .u8 0), .lit (.int .u8 1), .lit (.int .u8 56), .lit (.int .u8 2), .lit (.int .u8 57), .lit (.int .u8 49), .lit (.int .u8 28), .lit (.int .u8 3), .lit (.int .u8 61), .lit (.int .u8 58), .lit (.int .u8 42), .lit (.int .u8 50), .lit (.int .u8 38), .lit (.int .u8 29), .lit (.int .u8 17), .lit (.int .u8 4), .lit (.int .u8 62), .lit (.int .u8 47), .lit (.int .u8 59), .lit (.int .u8 36), .lit (.int .u8 45), .lit (.int .u8 43), .lit (.int .u8 51), .lit (.int .u8 22), .lit (.int .u8 53), .lit (.int .u8 39), .lit (.int .u8 33), .lit (.int .u8 30), .lit (.int .u8 24), .lit (.int .u8 18), .lit (.int .u8 12), .lit (.int .u8 5), .lit (.int .u8 63), .lit (.int .u8 55), .lit (.int .u8 48), .lit (.int .u8 27), .lit (.int .u8 60), .lit (.int .u8 41), .lit (.int .u8 37), .lit (.int .u8 16), .lit (.int .u8 46), .lit (.int .u8 35), .lit (.int .u8 44), .lit (.int .u8 21), .lit (.int .u8 52), .lit (.int .u8 32), .lit (.int .u8 23), .lit (.int .u8 11), .lit (.int .u8 54), .lit (.int .u8 26), .lit (.int .u8 40), .lit (.int .u8 15), .lit (.int .u8 34), .lit (.int .u8 20), .lit (.int .u8 31), .lit (.int .u8 10), .lit (.int .u8 25), .lit (.int .u8 14), .lit (.int .u8 19), .lit (.int .u8 9), .lit (.int .u8 13), .lit (.int .u8 8), .lit (.int .u8 7), .lit (.int .u8 6)]
def laid_internal_strconv_uint64pow10 {H : Type} : DataW H := .agg [.lit (.int .u64 1), .lit (.int .u64 10), .lit (.int .u64 100), .lit (.int .u64 1000), .lit (.int .u64 10000), .lit (.int .u64 100000), .lit (.int .u64 1000000), .lit (.int .u64 10000000), .lit (.int .u64 100000000), .lit (.int .u64 1000000000), .lit (.int .u64 10000000000), .lit (.int .u64 100000000000), .lit (.int .u64 1000000000000), .lit (.int .u64 10000000000000), .lit (.int .u64 100000000000000), .lit (.int .u64 1000000000000000), .lit (.int .u64 10000000000000000), .lit (.int .u64 100000000000000000), .lit (.int .u64 1000000000000000000), .lit (.int .u64 10000000000000000000)]
def laid_vidimus_times_lengths {H : Type} : DataW H := .agg [.lit (.int .i64 31), .lit (.int .i64 28), .lit (.int .i64 31), .lit (.int .i64 30), .lit (.int .i64 31), .lit (.int .i64 30), .lit (.int .i64 31), .lit (.int .i64 31), .lit (.int .i64 30), .lit (.int .i64 31), .lit (.int .i64 30), .lit (.int .i64 31)]

/-- 'vidimuslaw10.TimesCheck': WHATEVER THE INPUT: true; the input reads as it did. -/
def timesCheckSpec : ChangeSpec := { name := "timesCheck", fn := fun _ => fun
  | [d1, d2, d3] => { results := [.lit (.bool true)], args := [d1, d2, d3] }
  | _ => none }
def timesCheckRow : OpenClaim := { program := "ytbncjjobdipmgaadoor", sum := "0fffa803e90a97073f75e74c54ab3798ab3c2d4c5e29a8a5a2ddcdc40a554f63", func := "vidimus/vidimuslaw10.TimesCheck", spec := "timesCheck", unfollowed := true, recurses := true, named := ["vidimus/times.lengths", "internal/strconv.uint64pow10", "math/bits.deBruijn32tab", "math/bits.deBruijn64tab"], apart := false, laid := [("math/bits.deBruijn32tab", laid_math_bits_deBruijn32tab), ("math/bits.deBruijn64tab", laid_math_bits_deBruijn64tab), ("internal/strconv.uint64pow10", laid_internal_strconv_uint64pow10), ("vidimus/times.lengths", laid_vidimus_times_lengths)] }
def TimesCheckSaid : Prop := timesCheckRow.holds Tryd.pinned (OpenSpec.ofChange timesCheckSpec)

/-- ITS FALSE NEIGHBOUR: 'it returns false'. Refute it at one input. -/
def timesCheckWrong : ChangeSpec := { name := "timesCheck", fn := fun _ => fun
  | [d1, d2, d3] => { results := [.lit (.bool false)], args := [d1, d2, d3] }
  | _ => none }
def TimesCheckWrongFalsely : Prop := timesCheckRow.holds Tryd.pinned (OpenSpec.ofChange timesCheckWrong)

/-- 'vidimuslaw10.TimesBack': WHATEVER THE INPUT: true; the input reads as it did. -/
def timesBackSpec : ChangeSpec := { name := "timesBack", fn := fun _ => fun
  | [d] => { results := [.lit (.bool true)], args := [d] }
  | _ => none }
def timesBackRow : OpenClaim := { program := "ytbncjjobdipmgaadoor", sum := "0fffa803e90a97073f75e74c54ab3798ab3c2d4c5e29a8a5a2ddcdc40a554f63", func := "vidimus/vidimuslaw10.TimesBack", spec := "timesBack", unfollowed := true, recurses := true, named := ["vidimus/times.lengths", "internal/strconv.uint64pow10", "math/bits.deBruijn32tab", "math/bits.deBruijn64tab"], apart := false, laid := [("math/bits.deBruijn32tab", laid_math_bits_deBruijn32tab), ("math/bits.deBruijn64tab", laid_math_bits_deBruijn64tab), ("internal/strconv.uint64pow10", laid_internal_strconv_uint64pow10), ("vidimus/times.lengths", laid_vidimus_times_lengths)] }
def TimesBackSaid : Prop := timesBackRow.holds Tryd.pinned (OpenSpec.ofChange timesBackSpec)

/-- ITS FALSE NEIGHBOUR: 'it returns false'. Refute it at one input. -/
def timesBackWrong : ChangeSpec := { name := "timesBack", fn := fun _ => fun
  | [d] => { results := [.lit (.bool false)], args := [d] }
  | _ => none }
def TimesBackWrongFalsely : Prop := timesBackRow.holds Tryd.pinned (OpenSpec.ofChange timesBackWrong)

/-- 'vidimuslaw10.TimesOf': WHATEVER THE INPUT: true; the input reads as it did. -/
def timesOfSpec : ChangeSpec := { name := "timesOf", fn := fun _ => fun
  | [d] => { results := [.lit (.bool true)], args := [d] }
  | _ => none }
def timesOfRow : OpenClaim := { program := "ytbncjjobdipmgaadoor", sum := "0fffa803e90a97073f75e74c54ab3798ab3c2d4c5e29a8a5a2ddcdc40a554f63", func := "vidimus/vidimuslaw10.TimesOf", spec := "timesOf", unfollowed := true, recurses := true, named := ["vidimus/times.lengths", "internal/strconv.uint64pow10", "math/bits.deBruijn32tab", "math/bits.deBruijn64tab"], loops := true, apart := false, laid := [("math/bits.deBruijn32tab", laid_math_bits_deBruijn32tab), ("math/bits.deBruijn64tab", laid_math_bits_deBruijn64tab), ("internal/strconv.uint64pow10", laid_internal_strconv_uint64pow10), ("vidimus/times.lengths", laid_vidimus_times_lengths)] }
def TimesOfSaid : Prop := timesOfRow.holds Tryd.pinned (OpenSpec.ofChange timesOfSpec)

/-- ITS FALSE NEIGHBOUR: 'it returns false'. Refute it at one input. -/
def timesOfWrong : ChangeSpec := { name := "timesOf", fn := fun _ => fun
  | [d] => { results := [.lit (.bool false)], args := [d] }
  | _ => none }
def TimesOfWrongFalsely : Prop := timesOfRow.holds Tryd.pinned (OpenSpec.ofChange timesOfWrong)

/-- 'vidimuslaw10.TimesParse': WHATEVER THE INPUT: true; the input reads as it did. -/
def timesParseSpec : ChangeSpec := { name := "timesParse", fn := fun _ => fun
  | [d] => { results := [.lit (.bool true)], args := [d] }
  | _ => none }
def timesParseRow : OpenClaim := { program := "ytbncjjobdipmgaadoor", sum := "0fffa803e90a97073f75e74c54ab3798ab3c2d4c5e29a8a5a2ddcdc40a554f63", func := "vidimus/vidimuslaw10.TimesParse", spec := "timesParse", unfollowed := true, recurses := true, named := ["vidimus/times.lengths", "internal/strconv.uint64pow10", "math/bits.deBruijn32tab", "math/bits.deBruijn64tab"], apart := false, laid := [("math/bits.deBruijn32tab", laid_math_bits_deBruijn32tab), ("math/bits.deBruijn64tab", laid_math_bits_deBruijn64tab), ("internal/strconv.uint64pow10", laid_internal_strconv_uint64pow10), ("vidimus/times.lengths", laid_vidimus_times_lengths)] }
def TimesParseSaid : Prop := timesParseRow.holds Tryd.pinned (OpenSpec.ofChange timesParseSpec)

/-- ITS FALSE NEIGHBOUR: 'it returns false'. Refute it at one input. -/
def timesParseWrong : ChangeSpec := { name := "timesParse", fn := fun _ => fun
  | [d] => { results := [.lit (.bool false)], args := [d] }
  | _ => none }
def TimesParseWrongFalsely : Prop := timesParseRow.holds Tryd.pinned (OpenSpec.ofChange timesParseWrong)

/-- 'vidimuslaw10.TimesSeconds': WHATEVER THE INPUT: true; the input reads as it did. -/
def timesSecondsSpec : ChangeSpec := { name := "timesSeconds", fn := fun _ => fun
  | [d1, d2] => { results := [.lit (.bool true)], args := [d1, d2] }
  | _ => none }
def timesSecondsRow : OpenClaim := { program := "ytbncjjobdipmgaadoor", sum := "0fffa803e90a97073f75e74c54ab3798ab3c2d4c5e29a8a5a2ddcdc40a554f63", func := "vidimus/vidimuslaw10.TimesSeconds", spec := "timesSeconds", unfollowed := true, recurses := true, named := ["vidimus/times.lengths", "internal/strconv.uint64pow10", "math/bits.deBruijn32tab", "math/bits.deBruijn64tab"], apart := false, laid := [("math/bits.deBruijn32tab", laid_math_bits_deBruijn32tab), ("math/bits.deBruijn64tab", laid_math_bits_deBruijn64tab), ("internal/strconv.uint64pow10", laid_internal_strconv_uint64pow10), ("vidimus/times.lengths", laid_vidimus_times_lengths)] }
def TimesSecondsSaid : Prop := timesSecondsRow.holds Tryd.pinned (OpenSpec.ofChange timesSecondsSpec)

/-- ITS FALSE NEIGHBOUR: 'it returns false'. Refute it at one input. -/
def timesSecondsWrong : ChangeSpec := { name := "timesSeconds", fn := fun _ => fun
  | [d1, d2] => { results := [.lit (.bool false)], args := [d1, d2] }
  | _ => none }
def TimesSecondsWrongFalsely : Prop := timesSecondsRow.holds Tryd.pinned (OpenSpec.ofChange timesSecondsWrong)

/-- 'vidimuslaw10.TimesKnown': WHATEVER THE INPUT: true; the input reads as it did. -/
def timesKnownSpec : ChangeSpec := { name := "timesKnown", fn := fun _ => fun
  | [] => { results := [.lit (.bool true)], args := [] }
  | _ => none }
def timesKnownRow : OpenClaim := { program := "ytbncjjobdipmgaadoor", sum := "0fffa803e90a97073f75e74c54ab3798ab3c2d4c5e29a8a5a2ddcdc40a554f63", func := "vidimus/vidimuslaw10.TimesKnown", spec := "timesKnown", unfollowed := true, recurses := true, named := ["vidimus/times.lengths", "internal/strconv.uint64pow10", "math/bits.deBruijn32tab", "math/bits.deBruijn64tab"], apart := false, laid := [("math/bits.deBruijn32tab", laid_math_bits_deBruijn32tab), ("math/bits.deBruijn64tab", laid_math_bits_deBruijn64tab), ("internal/strconv.uint64pow10", laid_internal_strconv_uint64pow10), ("vidimus/times.lengths", laid_vidimus_times_lengths)] }
def TimesKnownSaid : Prop := timesKnownRow.holds Tryd.pinned (OpenSpec.ofChange timesKnownSpec)

/-- ITS FALSE NEIGHBOUR: 'it returns false'. Refute it at one input. -/
def timesKnownWrong : ChangeSpec := { name := "timesKnown", fn := fun _ => fun
  | [] => { results := [.lit (.bool false)], args := [] }
  | _ => none }
def TimesKnownWrongFalsely : Prop := timesKnownRow.holds Tryd.pinned (OpenSpec.ofChange timesKnownWrong)

/-- 'vidimuslaw10.TimesOrder': WHATEVER THE INPUT: true; the input reads as it did. -/
def timesOrderSpec : ChangeSpec := { name := "timesOrder", fn := fun _ => fun
  | [d1, d2, d3] => { results := [.lit (.bool true)], args := [d1, d2, d3] }
  | _ => none }
def timesOrderRow : OpenClaim := { program := "ytbncjjobdipmgaadoor", sum := "0fffa803e90a97073f75e74c54ab3798ab3c2d4c5e29a8a5a2ddcdc40a554f63", func := "vidimus/vidimuslaw10.TimesOrder", spec := "timesOrder", unfollowed := true, recurses := true, named := ["vidimus/times.lengths", "internal/strconv.uint64pow10", "math/bits.deBruijn32tab", "math/bits.deBruijn64tab"], apart := false, laid := [("math/bits.deBruijn32tab", laid_math_bits_deBruijn32tab), ("math/bits.deBruijn64tab", laid_math_bits_deBruijn64tab), ("internal/strconv.uint64pow10", laid_internal_strconv_uint64pow10), ("vidimus/times.lengths", laid_vidimus_times_lengths)] }
def TimesOrderSaid : Prop := timesOrderRow.holds Tryd.pinned (OpenSpec.ofChange timesOrderSpec)

/-- ITS FALSE NEIGHBOUR: 'it returns false'. Refute it at one input. -/
def timesOrderWrong : ChangeSpec := { name := "timesOrder", fn := fun _ => fun
  | [d1, d2, d3] => { results := [.lit (.bool false)], args := [d1, d2, d3] }
  | _ => none }
def TimesOrderWrongFalsely : Prop := timesOrderRow.holds Tryd.pinned (OpenSpec.ofChange timesOrderWrong)

/- THE SECOND FORM. 'bulk': how many values and letters a reading holds, each counted each time it is reached (what is shared counts as often as it is met; a slice's spare places count too). A statement '..UptoSaid' is the law's where the arguments, and the package variables that the reading takes, are together of bulk at most 1048576: NARROWER than '..Said'. Prove '..Said' where nothing that the law and all that it calls make is longer than what came in: it says more and counts as full. Else prove '..UptoSaid'. A law counts once. -/
mutual
def uptoBulk {H : Type} : DataW H → Nat
  | .lit (.string bytes) => bytes.length + 1
  | .lit _ => 1
  | .nil => 1
  | .ptr d => uptoBulk d + 1
  | .slice elems spare => uptoBulkAll elems + uptoBulkAll spare + 1
  | .agg parts => uptoBulkAll parts + 1
  | .iface _ d => uptoBulk d + 1
  | .map entries => uptoBulkEntries entries + 1
  | .held _ => 1
def uptoBulkAll {H : Type} : List (DataW H) → Nat
  | [] => 0
  | d :: r => uptoBulk d + uptoBulkAll r
def uptoBulkEntries {H : Type} : List (Lit × DataW H) → Nat
  | [] => 0
  | x :: r => uptoBulkEntry x + uptoBulkEntries r
def uptoBulkEntry {H : Type} : Lit × DataW H → Nat
  | (.string bytes, d) => bytes.length + uptoBulk d + 1
  | (_, d) => uptoBulk d + 1
 end
def uptoSmall : (H : Type) → List (DataW H) → Bool := fun _ ds => decide (uptoBulkAll ds ≤ 1048576)
def OpenSpec.upto (s : _root_.Go.ChangeSpec) : _root_.Go.OpenSpec := { _root_.Go.OpenSpec.ofChange s with cond := some uptoSmall }

/-- 'vidimuslaw10.TimesCheck', WHERE WHAT IT READS IS OF BULK AT MOST 1048576: true; the input reads as it did. -/
def timesCheckUptoRow : OpenClaim := { program := "ytbncjjobdipmgaadoor", sum := "0fffa803e90a97073f75e74c54ab3798ab3c2d4c5e29a8a5a2ddcdc40a554f63", func := "vidimus/vidimuslaw10.TimesCheck", spec := "timesCheck", unfollowed := true, recurses := true, named := ["vidimus/times.lengths", "internal/strconv.uint64pow10", "math/bits.deBruijn32tab", "math/bits.deBruijn64tab"], apart := false, laid := [("math/bits.deBruijn32tab", laid_math_bits_deBruijn32tab), ("math/bits.deBruijn64tab", laid_math_bits_deBruijn64tab), ("internal/strconv.uint64pow10", laid_internal_strconv_uint64pow10), ("vidimus/times.lengths", laid_vidimus_times_lengths)], narrowed := true }
def TimesCheckUptoSaid : Prop := timesCheckUptoRow.holds Tryd.pinned (OpenSpec.upto timesCheckSpec)

/-- 'vidimuslaw10.TimesBack', WHERE WHAT IT READS IS OF BULK AT MOST 1048576: true; the input reads as it did. -/
def timesBackUptoRow : OpenClaim := { program := "ytbncjjobdipmgaadoor", sum := "0fffa803e90a97073f75e74c54ab3798ab3c2d4c5e29a8a5a2ddcdc40a554f63", func := "vidimus/vidimuslaw10.TimesBack", spec := "timesBack", unfollowed := true, recurses := true, named := ["vidimus/times.lengths", "internal/strconv.uint64pow10", "math/bits.deBruijn32tab", "math/bits.deBruijn64tab"], apart := false, laid := [("math/bits.deBruijn32tab", laid_math_bits_deBruijn32tab), ("math/bits.deBruijn64tab", laid_math_bits_deBruijn64tab), ("internal/strconv.uint64pow10", laid_internal_strconv_uint64pow10), ("vidimus/times.lengths", laid_vidimus_times_lengths)], narrowed := true }
def TimesBackUptoSaid : Prop := timesBackUptoRow.holds Tryd.pinned (OpenSpec.upto timesBackSpec)

/-- 'vidimuslaw10.TimesOf', WHERE WHAT IT READS IS OF BULK AT MOST 1048576: true; the input reads as it did. -/
def timesOfUptoRow : OpenClaim := { program := "ytbncjjobdipmgaadoor", sum := "0fffa803e90a97073f75e74c54ab3798ab3c2d4c5e29a8a5a2ddcdc40a554f63", func := "vidimus/vidimuslaw10.TimesOf", spec := "timesOf", unfollowed := true, recurses := true, named := ["vidimus/times.lengths", "internal/strconv.uint64pow10", "math/bits.deBruijn32tab", "math/bits.deBruijn64tab"], loops := true, apart := false, laid := [("math/bits.deBruijn32tab", laid_math_bits_deBruijn32tab), ("math/bits.deBruijn64tab", laid_math_bits_deBruijn64tab), ("internal/strconv.uint64pow10", laid_internal_strconv_uint64pow10), ("vidimus/times.lengths", laid_vidimus_times_lengths)], narrowed := true }
def TimesOfUptoSaid : Prop := timesOfUptoRow.holds Tryd.pinned (OpenSpec.upto timesOfSpec)

/-- 'vidimuslaw10.TimesParse', WHERE WHAT IT READS IS OF BULK AT MOST 1048576: true; the input reads as it did. -/
def timesParseUptoRow : OpenClaim := { program := "ytbncjjobdipmgaadoor", sum := "0fffa803e90a97073f75e74c54ab3798ab3c2d4c5e29a8a5a2ddcdc40a554f63", func := "vidimus/vidimuslaw10.TimesParse", spec := "timesParse", unfollowed := true, recurses := true, named := ["vidimus/times.lengths", "internal/strconv.uint64pow10", "math/bits.deBruijn32tab", "math/bits.deBruijn64tab"], apart := false, laid := [("math/bits.deBruijn32tab", laid_math_bits_deBruijn32tab), ("math/bits.deBruijn64tab", laid_math_bits_deBruijn64tab), ("internal/strconv.uint64pow10", laid_internal_strconv_uint64pow10), ("vidimus/times.lengths", laid_vidimus_times_lengths)], narrowed := true }
def TimesParseUptoSaid : Prop := timesParseUptoRow.holds Tryd.pinned (OpenSpec.upto timesParseSpec)

/-- 'vidimuslaw10.TimesSeconds', WHERE WHAT IT READS IS OF BULK AT MOST 1048576: true; the input reads as it did. -/
def timesSecondsUptoRow : OpenClaim := { program := "ytbncjjobdipmgaadoor", sum := "0fffa803e90a97073f75e74c54ab3798ab3c2d4c5e29a8a5a2ddcdc40a554f63", func := "vidimus/vidimuslaw10.TimesSeconds", spec := "timesSeconds", unfollowed := true, recurses := true, named := ["vidimus/times.lengths", "internal/strconv.uint64pow10", "math/bits.deBruijn32tab", "math/bits.deBruijn64tab"], apart := false, laid := [("math/bits.deBruijn32tab", laid_math_bits_deBruijn32tab), ("math/bits.deBruijn64tab", laid_math_bits_deBruijn64tab), ("internal/strconv.uint64pow10", laid_internal_strconv_uint64pow10), ("vidimus/times.lengths", laid_vidimus_times_lengths)], narrowed := true }
def TimesSecondsUptoSaid : Prop := timesSecondsUptoRow.holds Tryd.pinned (OpenSpec.upto timesSecondsSpec)

/-- 'vidimuslaw10.TimesKnown', WHERE WHAT IT READS IS OF BULK AT MOST 1048576: true; the input reads as it did. -/
def timesKnownUptoRow : OpenClaim := { program := "ytbncjjobdipmgaadoor", sum := "0fffa803e90a97073f75e74c54ab3798ab3c2d4c5e29a8a5a2ddcdc40a554f63", func := "vidimus/vidimuslaw10.TimesKnown", spec := "timesKnown", unfollowed := true, recurses := true, named := ["vidimus/times.lengths", "internal/strconv.uint64pow10", "math/bits.deBruijn32tab", "math/bits.deBruijn64tab"], apart := false, laid := [("math/bits.deBruijn32tab", laid_math_bits_deBruijn32tab), ("math/bits.deBruijn64tab", laid_math_bits_deBruijn64tab), ("internal/strconv.uint64pow10", laid_internal_strconv_uint64pow10), ("vidimus/times.lengths", laid_vidimus_times_lengths)], narrowed := true }
def TimesKnownUptoSaid : Prop := timesKnownUptoRow.holds Tryd.pinned (OpenSpec.upto timesKnownSpec)

/-- 'vidimuslaw10.TimesOrder', WHERE WHAT IT READS IS OF BULK AT MOST 1048576: true; the input reads as it did. -/
def timesOrderUptoRow : OpenClaim := { program := "ytbncjjobdipmgaadoor", sum := "0fffa803e90a97073f75e74c54ab3798ab3c2d4c5e29a8a5a2ddcdc40a554f63", func := "vidimus/vidimuslaw10.TimesOrder", spec := "timesOrder", unfollowed := true, recurses := true, named := ["vidimus/times.lengths", "internal/strconv.uint64pow10", "math/bits.deBruijn32tab", "math/bits.deBruijn64tab"], apart := false, laid := [("math/bits.deBruijn32tab", laid_math_bits_deBruijn32tab), ("math/bits.deBruijn64tab", laid_math_bits_deBruijn64tab), ("internal/strconv.uint64pow10", laid_internal_strconv_uint64pow10), ("vidimus/times.lengths", laid_vidimus_times_lengths)], narrowed := true }
def TimesOrderUptoSaid : Prop := timesOrderUptoRow.holds Tryd.pinned (OpenSpec.upto timesOrderSpec)

end Rows
end Go.Proofs.YtbncjjobdipmgaaDoor
