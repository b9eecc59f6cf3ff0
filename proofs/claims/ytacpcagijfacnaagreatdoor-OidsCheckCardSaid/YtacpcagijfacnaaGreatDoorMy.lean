/- Chapters 6, 7 (oids, oidsets): the opener of a []uint32 argument. -/
import Derived.Test.YtacpcagijfacnaaGreatDoorYv
namespace Go.Proofs.YtacpcagijfacnaaGreatDoor
open Go.ChangeShapes Go.WideShapes Go.ChangeAt Go.RowKit
set_option maxRecDepth 50000
section
variable {H : Type} {enc : TypeId × Value → H} {w : World} {base : Nat} {held : Bool}
open Go.Proofs.YtacpcagijfacnaaGreatDoorW.PrintWords in
theorem open_u32s_arg {r : Reach} {b0 : Nat} {v : Value} {d : DataW H} {ps : List MemPlace} (hval : Value.okWide Tryz.prog w r b0 23 v) (h0 : DataW.Trod enc Tryz.prog w base (fun _ => true) held 23 v d ps) :
    ∃ (A : Option Addr) (l : List Int) (c : Nat), v = .slice A l.length c ∧ Kd.C (Kd.int .u32) w A l.length l ∧ l.length ≤ c ∧ U32 l := by
  obtain ⟨a0, len0, cap0, rfl⟩ := okWide_slice Tryz.underlying23 hval
  obtain ⟨fuel, hf⟩ := h0
  obtain ⟨A, l, c, e, hk, hc, hu⟩ := open_u32s hf
  simp [Value.cells] at e
  obtain ⟨rfl, rfl, rfl⟩ := e
  exact ⟨_, l, _, rfl, hk, hc, hu⟩
end
end Go.Proofs.YtacpcagijfacnaaGreatDoor
