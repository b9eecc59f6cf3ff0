/- What the printed contracts share: zero values, sizes, the equality of tags. -/
import Derived.Test.YtpdomckacfeffaaDoorProg
import Derived.Below
import Derived.Deep.Draws
import Derived.Deep.AppendLies
import Derived.Maps.AppendAt
import Derived.OwnWalk
import Derived.Laws.BytesArg
import Derived.Laws.MakeOwn
import Derived.Laws.OwnMore
import Derived.Deep.OwnRows
import Derived.Tactics
import Derived.Lib.ConvBytes
import Derived.Laws.Slices
import Derived.WalkKit
import Derived.KernelRfl
import Derived.RowKit3
import Derived.Deep.LoopGhost
import Derived.Deep.QuietTactic
import Derived.BigQuiet
import Derived.WideLaws
import Derived.Deep.DeepCutAuto
import Derived.Deep.CutBlock
import Derived.Deep.RegionHeld3
import Derived.Laws.Rows
import Derived.Lib.AppendStr
import Derived.ArgAppend
import Derived.Laws.IdiomCopy
import Derived.OrdersHeld
import Derived.Laws.BitsLemmas
import Derived.RowKit
import Derived.Test.YtpdomckacfeffaaDoorWWords
import Derived.Test.YtpdomckacfeffaaDoorWLast
import Derived.Test.YtpdomckacfeffaaDoorWTab
import Derived.Test.YtpdomckacfeffaaDoorWFour
import Derived.Test.YtpdomckacfeffaaDoorWQPut
import Derived.Test.YtpdomckacfeffaaDoorWApart
import Derived.Test.YtpdomckacfeffaaDoorWArr
import Derived.Test.YtpdomckacfeffaaDoorWZeros
import Derived.Test.YtpdomckacfeffaaDoorWFoot
import Derived.Test.YtpdomckacfeffaaDoorWKept
import Derived.Test.YtpdomckacfeffaaDoorWShare
import Derived.Test.YtpdomckacfeffaaDoorWN
import Derived.Test.YtpdomckacfeffaaDoorWFootNe
import Derived.Test.YtpdomckacfeffaaDoorWAt
import Derived.Test.YtpdomckacfeffaaDoorWEqStruct
import Derived.Test.YtpdomckacfeffaaDoorWRepsOne
import Derived.Test.YtpdomckacfeffaaDoorWInv
import Derived.Test.YtpdomckacfeffaaDoorWInvWords
import Derived.Test.YtpdomckacfeffaaDoorWGuard
import Derived.Test.YtpdomckacfeffaaDoorWNEv
import Derived.Test.YtpdomckacfeffaaDoorWMore
namespace Go.Proofs.YtpdomckacfeffaaDoor.Pr
open Go.RowKit Go.Proofs.YtpdomckacfeffaaDoorW.PrintWords Go.Proofs.YtpdomckacfeffaaDoorW.PrintLast Go.Proofs.YtpdomckacfeffaaDoorW.PrintMore
def errW : Option Int → Value
  | none => .nilIface
  | some c => .iface 90 (.int .i64 c)
theorem errW_none : errW none = .nilIface := rfl
theorem errW_some (c : Int) : errW (some c) = .iface 90 (.int .i64 c) := rfl
theorem info5 : (Tryd.prog.info? 5).map (fun i => (i.zero, i.size, i.bytes)) = some (some (.int .u8 0), 1, 1) := by kernel_rfl
theorem eqA27 (d : Nat) (w : World) (x0 y0 : Int) (x1 y1 : Bool) (x2 y2 : Int) :
    (Op.equalIn (d + 2) 27 (.agg #[.int .u8 x0, .bool x1, .int .u32 x2]) (.agg #[.int .u8 y0, .bool y1, .int .u32 y2])).run Tryd.prog w = .ok (x0 == y0 && (x1 == y1 && (x2 == y2))) w := by
  refine eqA_of Tryd.underlying27 (by kernel_rfl) ?_
  refine eqf_cons (by rfl) (by go_simp; rfl) (by go_simp; rfl) (by go_simp) ?_
  refine eqf_cons (by rfl) (by go_simp; rfl) (by go_simp; rfl) (by go_simp) ?_
  exact eqf_last (by rfl) (by go_simp; rfl) (by go_simp; rfl) (by go_simp)
theorem info3 : (Tryd.prog.info? 3).map (fun i => (i.zero, i.size, i.bytes)) = some (some (.int .i64 0), 1, 8) := by kernel_rfl
theorem info9 : (Tryd.prog.info? 9).map (fun i => (i.zero, i.size, i.bytes)) = some (some (.string ⟨#[]⟩), 1, 16) := by kernel_rfl
end Go.Proofs.YtpdomckacfeffaaDoor.Pr
