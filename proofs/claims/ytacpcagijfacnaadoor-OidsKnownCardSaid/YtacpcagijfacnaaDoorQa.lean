/- The head of the printed texts: imports and words. -/
import Derived.Test.YtacpcagijfacnaaDoorProg
import Derived.Below
import Derived.Deep.Draws
import Derived.Deep.AppendLies
import Derived.Maps.AppendAt
import Derived.OwnWalk
import Derived.Laws.BytesArg
import Derived.Laws.MakeOwn
import Derived.Laws.OwnMore
import Derived.Deep.OwnRows
import Derived.Tactics
import Derived.Lib.ConvBytes
import Derived.Laws.Slices
import Derived.WalkKit
import Derived.KernelRfl
import Derived.RowKit3
import Derived.Deep.LoopGhost
import Derived.Deep.QuietTactic
import Derived.BigQuiet
import Derived.WideLaws
import Derived.Deep.DeepCutAuto
import Derived.Deep.CutBlock
import Derived.Deep.RegionHeld3
import Derived.Laws.Rows
import Derived.Lib.AppendStr
import Derived.ArgAppend
import Derived.Laws.IdiomCopy
import Derived.OrdersHeld
import Derived.Laws.BitsLemmas
import Derived.RowKit
import Derived.Test.YtacpcagijfacnaaDoorWWords
import Derived.Test.YtacpcagijfacnaaDoorWLast
import Derived.Test.YtacpcagijfacnaaDoorWTab
import Derived.Test.YtacpcagijfacnaaDoorWFour
import Derived.Test.YtacpcagijfacnaaDoorWQPut
import Derived.Test.YtacpcagijfacnaaDoorWApart
import Derived.Test.YtacpcagijfacnaaDoorWArr
import Derived.Test.YtacpcagijfacnaaDoorWZeros
import Derived.Test.YtacpcagijfacnaaDoorWFoot
import Derived.Test.YtacpcagijfacnaaDoorWKept
import Derived.Test.YtacpcagijfacnaaDoorWShare
import Derived.Test.YtacpcagijfacnaaDoorWN
import Derived.Test.YtacpcagijfacnaaDoorWFootNe
import Derived.Test.YtacpcagijfacnaaDoorWAt
import Derived.Test.YtacpcagijfacnaaDoorWEqStruct
import Derived.Test.YtacpcagijfacnaaDoorWRepsOne
import Derived.Test.YtacpcagijfacnaaDoorWInv
import Derived.Test.YtacpcagijfacnaaDoorWInvWords
import Derived.Test.YtacpcagijfacnaaDoorWGuard
import Derived.Test.YtacpcagijfacnaaDoorWNEv
import Derived.Test.YtacpcagijfacnaaDoorWMore
namespace Go.Proofs.YtacpcagijfacnaaDoor.Pr
open Go.RowKit Go.Proofs.YtacpcagijfacnaaDoorW.PrintWords Go.Proofs.YtacpcagijfacnaaDoorW.PrintLast Go.Proofs.YtacpcagijfacnaaDoorW.PrintMore
attribute [local go_sem] max2_int min2_int max_two min_two max_three min_three max_four min_four   -- for this text's walks alone
set_option linter.unusedVariables false
set_option linter.unusedSimpArgs false



def errW : Option Int → Value
  | none => .nilIface
  | some c => .iface 0 (.int .i64 c)
theorem errW_none : errW none = .nilIface := rfl
theorem errW_some (c : Int) : errW (some c) = .iface 0 (.int .i64 c) := rfl

-- the values' own types

end Go.Proofs.YtacpcagijfacnaaDoor.Pr
