/- The head of the printed texts: imports and words. -/
import Derived.Test.YtacpcagijfacnaaGreatDoorProg
import Derived.Below
import Derived.Deep.Draws
import Derived.Deep.AppendLies
import Derived.Maps.AppendAt
import Derived.OwnWalk
import Derived.Laws.BytesArg
import Derived.Laws.MakeOwn
import Derived.Laws.OwnMore
import Derived.Deep.OwnRows
import Derived.Tactics
import Derived.Lib.ConvBytes
import Derived.Laws.Slices
import Derived.WalkKit
import Derived.KernelRfl
import Derived.RowKit3
import Derived.Deep.LoopGhost
import Derived.Deep.QuietTactic
import Derived.BigQuiet
import Derived.WideLaws
import Derived.Deep.DeepCutAuto
import Derived.Deep.CutBlock
import Derived.Deep.RegionHeld3
import Derived.Laws.Rows
import Derived.Lib.AppendStr
import Derived.ArgAppend
import Derived.Laws.IdiomCopy
import Derived.OrdersHeld
import Derived.Laws.BitsLemmas
import Derived.RowKit
import Derived.Test.YtacpcagijfacnaaGreatDoorWWords
import Derived.Test.YtacpcagijfacnaaGreatDoorWLast
import Derived.Test.YtacpcagijfacnaaGreatDoorWTab
import Derived.Test.YtacpcagijfacnaaGreatDoorWFour
import Derived.Test.YtacpcagijfacnaaGreatDoorWQPut
import Derived.Test.YtacpcagijfacnaaGreatDoorWApart
import Derived.Test.YtacpcagijfacnaaGreatDoorWArr
import Derived.Test.YtacpcagijfacnaaGreatDoorWZeros
import Derived.Test.YtacpcagijfacnaaGreatDoorWFoot
import Derived.Test.YtacpcagijfacnaaGreatDoorWKept
import Derived.Test.YtacpcagijfacnaaGreatDoorWShare
import Derived.Test.YtacpcagijfacnaaGreatDoorWN
import Derived.Test.YtacpcagijfacnaaGreatDoorWFootNe
import Derived.Test.YtacpcagijfacnaaGreatDoorWAt
import Derived.Test.YtacpcagijfacnaaGreatDoorWEqStruct
import Derived.Test.YtacpcagijfacnaaGreatDoorWRepsOne
import Derived.Test.YtacpcagijfacnaaGreatDoorWInv
import Derived.Test.YtacpcagijfacnaaGreatDoorWInvWords
import Derived.Test.YtacpcagijfacnaaGreatDoorWGuard
import Derived.Test.YtacpcagijfacnaaGreatDoorWNEv
import Derived.Test.YtacpcagijfacnaaGreatDoorWMore
namespace Go.Proofs.YtacpcagijfacnaaGreatDoor.Pr
open Go.RowKit Go.Proofs.YtacpcagijfacnaaGreatDoorW.PrintWords Go.Proofs.YtacpcagijfacnaaGreatDoorW.PrintLast Go.Proofs.YtacpcagijfacnaaGreatDoorW.PrintMore
attribute [local go_sem] max2_int min2_int max_two min_two max_three min_three max_four min_four   -- for this text's walks alone
set_option linter.unusedVariables false
set_option linter.unusedSimpArgs false



def errW : Option Int → Value
  | none => .nilIface
  | some c => .iface 0 (.int .i64 c)
theorem errW_none : errW none = .nilIface := rfl
theorem errW_some (c : Int) : errW (some c) = .iface 0 (.int .i64 c) := rfl

theorem info3 : (Tryz.prog.info? 3).map (fun i => (i.zero, i.size, i.bytes)) = some (some (.int .i64 0), 1, 8) := by kernel_rfl
theorem info5 : (Tryz.prog.info? 5).map (fun i => (i.zero, i.size, i.bytes)) = some (some (.int .u8 0), 1, 1) := by kernel_rfl
-- the values' own types

end Go.Proofs.YtacpcagijfacnaaGreatDoor.Pr
