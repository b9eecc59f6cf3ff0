/-
  No cell of these rows narrows 'for every input' (looked for: loops, veiled, ifaces, maps, wideKeys, modest, calm, conditions, laid).
  DERIVED. THE GIVEN ROWS OF THIS SEAT. 6 by the template 'for every input the law returns true; each argument reads behind the call as it read before'; 0 by the template 'total and deterministic' (their statements: YtbdccfjeeabpaaaTotals.lean).
  GIVEN WITH THE SEED: the statements are not yours to turn. If you find one false, say at which input.
  Laid BY PROGRAM, IN A SANDBOX (cutbox-rows.mjs): the forced cells as the released guide's own fill.sh prints them over the translation 2dd94ab9d3316fe0… (all of the seat's roots in one cut). By AI agents, Wed Nov 11 2026. No macro, syntax, notation, axiom, sorry.
-/
import Derived.Test.YtbdccfjeeabpaaaChecked
import GoSem.Claim
import GoSem.ClaimJoined
import GoSem.ClaimMapViews
import Derived.JoinedTies
import Derived.KernelRfl
namespace Go.Proofs.Ytbdccfjeeabpaaa
/- THE CELL 'sum', in the pinned program and in every row, IS THE sha256 OF THE DUMP (.gsa) THAT YtbdccfjeeabpaaaProg.lean LOADS. Nothing in Lean hashes anything: it is a label: what it is worth is what the hold of that sum in a sandbox is worth. -/
noncomputable def Try.pinned : Pinned := { name := "ytbdccfjeeabpaaa", sum := "2dd94ab9d3316fe0cba8eac3c0dac20259e2d2fd5e600ba615f8f76448b80e7f", checked := Try.checked }
namespace Rows
def none {H : Type} : Left H := { results := [], args := [] }

/-- 'vidimuslaw22.ArmorsBack': WHATEVER THE INPUT: true; the input reads as it did. -/
def armorsBackSpec : ChangeSpec := { name := "armorsBack", fn := fun _ => fun
  | [d] => { results := [.lit (.bool true)], args := [d] }
  | _ => none }
def armorsBackRow : OpenClaim := { program := "ytbdccfjeeabpaaa", sum := "2dd94ab9d3316fe0cba8eac3c0dac20259e2d2fd5e600ba615f8f76448b80e7f", func := "vidimus/vidimuslaw22.ArmorsBack", spec := "armorsBack", inPlace := ["internal/abi.NoEscape", "internal/bytealg.IndexByteString", "internal/bytealg.IndexString"], unfollowed := true, recurses := true, named := ["internal/bytealg.MaxLen"], apart := false }
def ArmorsBackSaid : Prop := armorsBackRow.holds Try.pinned (OpenSpec.ofChange armorsBackSpec)

/-- ITS FALSE NEIGHBOUR: 'it returns false'. Refute it at one input. -/
def armorsBackWrong : ChangeSpec := { name := "armorsBack", fn := fun _ => fun
  | [d] => { results := [.lit (.bool false)], args := [d] }
  | _ => none }
def ArmorsBackWrongFalsely : Prop := armorsBackRow.holds Try.pinned (OpenSpec.ofChange armorsBackWrong)

/-- 'vidimuslaw22.ArmorsGet': WHATEVER THE INPUT: true; the input reads as it did. -/
def armorsGetSpec : ChangeSpec := { name := "armorsGet", fn := fun _ => fun
  | [d] => { results := [.lit (.bool true)], args := [d] }
  | _ => none }
def armorsGetRow : OpenClaim := { program := "ytbdccfjeeabpaaa", sum := "2dd94ab9d3316fe0cba8eac3c0dac20259e2d2fd5e600ba615f8f76448b80e7f", func := "vidimus/vidimuslaw22.ArmorsGet", spec := "armorsGet", inPlace := ["internal/abi.NoEscape", "internal/bytealg.IndexByteString", "internal/bytealg.IndexString"], unfollowed := true, recurses := true, named := ["internal/bytealg.MaxLen"], apart := false }
def ArmorsGetSaid : Prop := armorsGetRow.holds Try.pinned (OpenSpec.ofChange armorsGetSpec)

/-- ITS FALSE NEIGHBOUR: 'it returns false'. Refute it at one input. -/
def armorsGetWrong : ChangeSpec := { name := "armorsGet", fn := fun _ => fun
  | [d] => { results := [.lit (.bool false)], args := [d] }
  | _ => none }
def ArmorsGetWrongFalsely : Prop := armorsGetRow.holds Try.pinned (OpenSpec.ofChange armorsGetWrong)

/-- 'vidimuslaw22.ArmorsCode': WHATEVER THE INPUT: true; the input reads as it did. -/
def armorsCodeSpec : ChangeSpec := { name := "armorsCode", fn := fun _ => fun
  | [d1, d2] => { results := [.lit (.bool true)], args := [d1, d2] }
  | _ => none }
def armorsCodeRow : OpenClaim := { program := "ytbdccfjeeabpaaa", sum := "2dd94ab9d3316fe0cba8eac3c0dac20259e2d2fd5e600ba615f8f76448b80e7f", func := "vidimus/vidimuslaw22.ArmorsCode", spec := "armorsCode", inPlace := ["internal/abi.NoEscape", "internal/bytealg.IndexByteString", "internal/bytealg.IndexString"], unfollowed := true, recurses := true, named := ["internal/bytealg.MaxLen"], apart := false }
def ArmorsCodeSaid : Prop := armorsCodeRow.holds Try.pinned (OpenSpec.ofChange armorsCodeSpec)

/-- ITS FALSE NEIGHBOUR: 'it returns false'. Refute it at one input. -/
def armorsCodeWrong : ChangeSpec := { name := "armorsCode", fn := fun _ => fun
  | [d1, d2] => { results := [.lit (.bool false)], args := [d1, d2] }
  | _ => none }
def ArmorsCodeWrongFalsely : Prop := armorsCodeRow.holds Try.pinned (OpenSpec.ofChange armorsCodeWrong)

/-- 'vidimuslaw22.ArmorsDecode': WHATEVER THE INPUT: true; the input reads as it did. -/
def armorsDecodeSpec : ChangeSpec := { name := "armorsDecode", fn := fun _ => fun
  | [d] => { results := [.lit (.bool true)], args := [d] }
  | _ => none }
def armorsDecodeRow : OpenClaim := { program := "ytbdccfjeeabpaaa", sum := "2dd94ab9d3316fe0cba8eac3c0dac20259e2d2fd5e600ba615f8f76448b80e7f", func := "vidimus/vidimuslaw22.ArmorsDecode", spec := "armorsDecode", inPlace := ["internal/abi.NoEscape", "internal/bytealg.IndexByteString", "internal/bytealg.IndexString"], unfollowed := true, recurses := true, named := ["internal/bytealg.MaxLen"], apart := false }
def ArmorsDecodeSaid : Prop := armorsDecodeRow.holds Try.pinned (OpenSpec.ofChange armorsDecodeSpec)

/-- ITS FALSE NEIGHBOUR: 'it returns false'. Refute it at one input. -/
def armorsDecodeWrong : ChangeSpec := { name := "armorsDecode", fn := fun _ => fun
  | [d] => { results := [.lit (.bool false)], args := [d] }
  | _ => none }
def ArmorsDecodeWrongFalsely : Prop := armorsDecodeRow.holds Try.pinned (OpenSpec.ofChange armorsDecodeWrong)

/-- 'vidimuslaw22.ArmorsLoose': WHATEVER THE INPUT: true; the input reads as it did. -/
def armorsLooseSpec : ChangeSpec := { name := "armorsLoose", fn := fun _ => fun
  | [d1, d2, d3] => { results := [.lit (.bool true)], args := [d1, d2, d3] }
  | _ => none }
def armorsLooseRow : OpenClaim := { program := "ytbdccfjeeabpaaa", sum := "2dd94ab9d3316fe0cba8eac3c0dac20259e2d2fd5e600ba615f8f76448b80e7f", func := "vidimus/vidimuslaw22.ArmorsLoose", spec := "armorsLoose", inPlace := ["internal/abi.NoEscape", "internal/bytealg.IndexByteString", "internal/bytealg.IndexString", "internal/bytealg.MakeNoZero"], unfollowed := true, recurses := true, named := ["internal/bytealg.MaxLen"], apart := false }
def ArmorsLooseSaid : Prop := armorsLooseRow.holds Try.pinned (OpenSpec.ofChange armorsLooseSpec)

/-- ITS FALSE NEIGHBOUR: 'it returns false'. Refute it at one input. -/
def armorsLooseWrong : ChangeSpec := { name := "armorsLoose", fn := fun _ => fun
  | [d1, d2, d3] => { results := [.lit (.bool false)], args := [d1, d2, d3] }
  | _ => none }
def ArmorsLooseWrongFalsely : Prop := armorsLooseRow.holds Try.pinned (OpenSpec.ofChange armorsLooseWrong)

/-- 'vidimuslaw22.ArmorsKnown': WHATEVER THE INPUT: true; the input reads as it did. -/
def armorsKnownSpec : ChangeSpec := { name := "armorsKnown", fn := fun _ => fun
  | [] => { results := [.lit (.bool true)], args := [] }
  | _ => none }
def armorsKnownRow : OpenClaim := { program := "ytbdccfjeeabpaaa", sum := "2dd94ab9d3316fe0cba8eac3c0dac20259e2d2fd5e600ba615f8f76448b80e7f", func := "vidimus/vidimuslaw22.ArmorsKnown", spec := "armorsKnown", inPlace := ["internal/abi.NoEscape", "internal/bytealg.IndexByteString", "internal/bytealg.IndexString", "internal/bytealg.MakeNoZero"], unfollowed := true, recurses := true, named := ["internal/bytealg.MaxLen"], apart := false }
def ArmorsKnownSaid : Prop := armorsKnownRow.holds Try.pinned (OpenSpec.ofChange armorsKnownSpec)

/-- ITS FALSE NEIGHBOUR: 'it returns false'. Refute it at one input. -/
def armorsKnownWrong : ChangeSpec := { name := "armorsKnown", fn := fun _ => fun
  | [] => { results := [.lit (.bool false)], args := [] }
  | _ => none }
def ArmorsKnownWrongFalsely : Prop := armorsKnownRow.holds Try.pinned (OpenSpec.ofChange armorsKnownWrong)

/- THE SECOND FORM. 'bulk': how many values and letters a reading holds, each counted each time it is reached (what is shared counts as often as it is met; a slice's spare places count too). A statement '..UptoSaid' is the law's where the arguments, and the package variables that the reading takes, are together of bulk at most 1048576: NARROWER than '..Said'. Prove '..Said' where nothing that the law and all that it calls make is longer than what came in: it says more and counts as full. Else prove '..UptoSaid'. A law counts once. -/
mutual
def uptoBulk {H : Type} : DataW H → Nat
  | .lit (.string bytes) => bytes.length + 1
  | .lit _ => 1
  | .nil => 1
  | .ptr d => uptoBulk d + 1
  | .slice elems spare => uptoBulkAll elems + uptoBulkAll spare + 1
  | .agg parts => uptoBulkAll parts + 1
  | .iface _ d => uptoBulk d + 1
  | .map entries => uptoBulkEntries entries + 1
  | .held _ => 1
def uptoBulkAll {H : Type} : List (DataW H) → Nat
  | [] => 0
  | d :: r => uptoBulk d + uptoBulkAll r
def uptoBulkEntries {H : Type} : List (Lit × DataW H) → Nat
  | [] => 0
  | x :: r => uptoBulkEntry x + uptoBulkEntries r
def uptoBulkEntry {H : Type} : Lit × DataW H → Nat
  | (.string bytes, d) => bytes.length + uptoBulk d + 1
  | (_, d) => uptoBulk d + 1
 end
def uptoSmall : (H : Type) → List (DataW H) → Bool := fun _ ds => decide (uptoBulkAll ds ≤ 1048576)
def OpenSpec.upto (s : _root_.Go.ChangeSpec) : _root_.Go.OpenSpec := { _root_.Go.OpenSpec.ofChange s with cond := some uptoSmall }

/-- 'vidimuslaw22.ArmorsBack', WHERE WHAT IT READS IS OF BULK AT MOST 1048576: true; the input reads as it did. -/
def armorsBackUptoRow : OpenClaim := { program := "ytbdccfjeeabpaaa", sum := "2dd94ab9d3316fe0cba8eac3c0dac20259e2d2fd5e600ba615f8f76448b80e7f", func := "vidimus/vidimuslaw22.ArmorsBack", spec := "armorsBack", inPlace := ["internal/abi.NoEscape", "internal/bytealg.IndexByteString", "internal/bytealg.IndexString"], unfollowed := true, recurses := true, named := ["internal/bytealg.MaxLen"], apart := false, narrowed := true }
def ArmorsBackUptoSaid : Prop := armorsBackUptoRow.holds Try.pinned (OpenSpec.upto armorsBackSpec)

/-- 'vidimuslaw22.ArmorsGet', WHERE WHAT IT READS IS OF BULK AT MOST 1048576: true; the input reads as it did. -/
def armorsGetUptoRow : OpenClaim := { program := "ytbdccfjeeabpaaa", sum := "2dd94ab9d3316fe0cba8eac3c0dac20259e2d2fd5e600ba615f8f76448b80e7f", func := "vidimus/vidimuslaw22.ArmorsGet", spec := "armorsGet", inPlace := ["internal/abi.NoEscape", "internal/bytealg.IndexByteString", "internal/bytealg.IndexString"], unfollowed := true, recurses := true, named := ["internal/bytealg.MaxLen"], apart := false, narrowed := true }
def ArmorsGetUptoSaid : Prop := armorsGetUptoRow.holds Try.pinned (OpenSpec.upto armorsGetSpec)

/-- 'vidimuslaw22.ArmorsCode', WHERE WHAT IT READS IS OF BULK AT MOST 1048576: true; the input reads as it did. -/
def armorsCodeUptoRow : OpenClaim := { program := "ytbdccfjeeabpaaa", sum := "2dd94ab9d3316fe0cba8eac3c0dac20259e2d2fd5e600ba615f8f76448b80e7f", func := "vidimus/vidimuslaw22.ArmorsCode", spec := "armorsCode", inPlace := ["internal/abi.NoEscape", "internal/bytealg.IndexByteString", "internal/bytealg.IndexString"], unfollowed := true, recurses := true, named := ["internal/bytealg.MaxLen"], apart := false, narrowed := true }
def ArmorsCodeUptoSaid : Prop := armorsCodeUptoRow.holds Try.pinned (OpenSpec.upto armorsCodeSpec)

/-- 'vidimuslaw22.ArmorsDecode', WHERE WHAT IT READS IS OF BULK AT MOST 1048576: true; the input reads as it did. -/
def armorsDecodeUptoRow : OpenClaim := { program := "ytbdccfjeeabpaaa", sum := "2dd94ab9d3316fe0cba8eac3c0dac20259e2d2fd5e600ba615f8f76448b80e7f", func := "vidimus/vidimuslaw22.ArmorsDecode", spec := "armorsDecode", inPlace := ["internal/abi.NoEscape", "internal/bytealg.IndexByteString", "internal/bytealg.IndexString"], unfollowed := true, recurses := true, named := ["internal/bytealg.MaxLen"], apart := false, narrowed := true }
def ArmorsDecodeUptoSaid : Prop := armorsDecodeUptoRow.holds Try.pinned (OpenSpec.upto armorsDecodeSpec)

/-- 'vidimuslaw22.ArmorsLoose', WHERE WHAT IT READS IS OF BULK AT MOST 1048576: true; the input reads as it did. -/
def armorsLooseUptoRow : OpenClaim := { program := "ytbdccfjeeabpaaa", sum := "2dd94ab9d3316fe0cba8eac3c0dac20259e2d2fd5e600ba615f8f76448b80e7f", func := "vidimus/vidimuslaw22.ArmorsLoose", spec := "armorsLoose", inPlace := ["internal/abi.NoEscape", "internal/bytealg.IndexByteString", "internal/bytealg.IndexString", "internal/bytealg.MakeNoZero"], unfollowed := true, recurses := true, named := ["internal/bytealg.MaxLen"], apart := false, narrowed := true }
def ArmorsLooseUptoSaid : Prop := armorsLooseUptoRow.holds Try.pinned (OpenSpec.upto armorsLooseSpec)

/-- 'vidimuslaw22.ArmorsKnown', WHERE WHAT IT READS IS OF BULK AT MOST 1048576: true; the input reads as it did. -/
def armorsKnownUptoRow : OpenClaim := { program := "ytbdccfjeeabpaaa", sum := "2dd94ab9d3316fe0cba8eac3c0dac20259e2d2fd5e600ba615f8f76448b80e7f", func := "vidimus/vidimuslaw22.ArmorsKnown", spec := "armorsKnown", inPlace := ["internal/abi.NoEscape", "internal/bytealg.IndexByteString", "internal/bytealg.IndexString", "internal/bytealg.MakeNoZero"], unfollowed := true, recurses := true, named := ["internal/bytealg.MaxLen"], apart := false, narrowed := true }
def ArmorsKnownUptoSaid : Prop := armorsKnownUptoRow.holds Try.pinned (OpenSpec.upto armorsKnownSpec)

end Rows
end Go.Proofs.Ytbdccfjeeabpaaa
