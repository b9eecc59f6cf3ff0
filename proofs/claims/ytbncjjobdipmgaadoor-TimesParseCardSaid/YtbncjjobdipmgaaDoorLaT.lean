/- Chapter 10 (times): the opener of a string argument. -/
import Derived.Test.YtbncjjobdipmgaaDoorLaS
namespace Go.Proofs.YtbncjjobdipmgaaDoor
open Go.ChangeShapes Go.WideShapes Go.ChangeAt Go.RowKit Pl
section
variable {H : Type} {enc : TypeId × Value → H} {w : World} {base : Nat} {spare : Nat → Bool} {held : Bool}
theorem open_str {r : Reach} {b0 : Nat} {v : Value} {d : DataW H} {ps : List MemPlace} (hval : Value.okWide Tryd.prog w r b0 9 v) (_hd : DataW.Trod enc Tryd.prog w base spare held 9 v d ps) :
    ∃ s : ByteArray, v = .string s := okWide_string Tryd.underlying9 hval
end
end Go.Proofs.YtbncjjobdipmgaaDoor
