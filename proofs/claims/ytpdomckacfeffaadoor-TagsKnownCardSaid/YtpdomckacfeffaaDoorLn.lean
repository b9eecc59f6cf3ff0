/- Chapter 2 (tags): the plain law of TagsKnown, its walk joined. -/
import Derived.Test.YtpdomckacfeffaaDoorLl
import Derived.KernelRfl
namespace Go.Proofs.YtpdomckacfeffaaDoor
open Go.RowKit Go.Shelf
theorem known_f : Pr.vidimuslaw02_TagsKnown.f 40 = some true := by decide +kernel
theorem tagsKnown_walk (w : World) (hT : Tabs w) : Calls Tryd.prog 8 #[] w fun e w' => e = .returned (.bool true) ∧ Below w.heap.size w w' :=
  Pr.vidimuslaw02_TagsKnown.calls 40 true w known_f hT
end Go.Proofs.YtpdomckacfeffaaDoor
