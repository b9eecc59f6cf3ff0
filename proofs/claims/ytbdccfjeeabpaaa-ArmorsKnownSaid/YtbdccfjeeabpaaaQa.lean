/- What the printed contracts share. -/
import Derived.Test.YtbdccfjeeabpaaaProg
import Derived.Below
import Derived.Deep.Draws
import Derived.Deep.AppendLies
import Derived.Maps.AppendAt
import Derived.OwnWalk
import Derived.Laws.BytesArg
import Derived.Laws.MakeOwn
import Derived.Laws.OwnMore
import Derived.Deep.OwnRows
import Derived.Tactics
import Derived.Lib.ConvBytes
import Derived.Laws.Slices
import Derived.WalkKit
import Derived.KernelRfl
import Derived.RowKit3
import Derived.Deep.LoopGhost
import Derived.Deep.QuietTactic
import Derived.BigQuiet
import Derived.WideLaws
import Derived.Deep.DeepCutAuto
import Derived.Deep.CutBlock
import Derived.Deep.RegionHeld3
import Derived.Laws.Rows
import Derived.Lib.AppendStr
import Derived.ArgAppend
import Derived.Laws.IdiomCopy
import Derived.OrdersHeld
import Derived.Laws.BitsLemmas
import Derived.RowKit
import Derived.Test.YtbdccfjeeabpaaaWWords
import Derived.Test.YtbdccfjeeabpaaaWLast
import Derived.Test.YtbdccfjeeabpaaaWTab
import Derived.Test.YtbdccfjeeabpaaaWFour
import Derived.Test.YtbdccfjeeabpaaaWQPut
import Derived.Test.YtbdccfjeeabpaaaWApart
import Derived.Test.YtbdccfjeeabpaaaWArr
import Derived.Test.YtbdccfjeeabpaaaWZeros
import Derived.Test.YtbdccfjeeabpaaaWFoot
import Derived.Test.YtbdccfjeeabpaaaWKept
import Derived.Test.YtbdccfjeeabpaaaWShare
import Derived.Test.YtbdccfjeeabpaaaWN
import Derived.Test.YtbdccfjeeabpaaaWFootNe
import Derived.Test.YtbdccfjeeabpaaaWAt
import Derived.Test.YtbdccfjeeabpaaaWEqStruct
import Derived.Test.YtbdccfjeeabpaaaWRepsOne
import Derived.Test.YtbdccfjeeabpaaaWInv
import Derived.Test.YtbdccfjeeabpaaaWInvWords
import Derived.Test.YtbdccfjeeabpaaaWGuard
import Derived.Test.YtbdccfjeeabpaaaWNEv
import Derived.Test.YtbdccfjeeabpaaaWMore
namespace Go.Proofs.Ytbdccfjeeabpaaa.Pr
open Go.RowKit Go.Proofs.YtbdccfjeeabpaaaW.PrintWords Go.Proofs.YtbdccfjeeabpaaaW.PrintLast Go.Proofs.YtbdccfjeeabpaaaW.PrintMore
def errW : Option Int → Value
  | none => .nilIface
  | some c => .iface 0 (.int .i64 c)
theorem errW_none : errW none = .nilIface := rfl
theorem errW_some (c : Int) : errW (some c) = .iface 0 (.int .i64 c) := rfl
theorem info5 : (Try.prog.info? 5).map (fun i => (i.zero, i.size, i.bytes)) = some (some (.int .u8 0), 1, 1) := by kernel_rfl
theorem info9 : (Try.prog.info? 9).map (fun i => (i.zero, i.size, i.bytes)) = some (some (.string ⟨#[]⟩), 1, 16) := by kernel_rfl
end Go.Proofs.Ytbdccfjeeabpaaa.Pr
