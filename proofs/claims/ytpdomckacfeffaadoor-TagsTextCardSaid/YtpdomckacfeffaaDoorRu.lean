/- The reference's Parse (from the kit's print). -/
import Derived.Test.YtpdomckacfeffaaDoorRt
namespace Go.Proofs.YtpdomckacfeffaaDoor.Pr
open Go.RowKit Go.Proofs.YtpdomckacfeffaaDoorW.PrintWords Go.Proofs.YtpdomckacfeffaaDoorW.PrintLast Go.Proofs.YtpdomckacfeffaaDoorW.PrintMore
attribute [local go_sem] max2_int min2_int max_two min_two max_three min_three max_four min_four   -- for this text's walks alone
set_option linter.unusedVariables false
set_option linter.unusedSimpArgs false

/-! ### vidimusref02_Parse: function 19 -/
mutual
def vidimusref02_Parse.j1 : Nat → ByteArray → Int → Option (Int × Bool × Int × Int)
  | 0, _, _ => none
  | k + 1, x0, x4 => vidimusref02_Parse.l1 k x0 x4 (wrap64 (x4 + 1))
def vidimusref02_Parse.j3 : Nat → ByteArray → Int → Int → Option (Int × Bool × Int × Int)
  | 0, _, _, _ => none
  | k + 1, x0, x4, x5 => if (wrap64 (x5 - x4)) > 10 then (vidimusref02_Parse.j4 k x0 x4 x5 true) else (vidimusref02_Parse.j4 k x0 x4 x5 (decide (x5 > (x0.size : Int))))
def vidimusref02_Parse.j4 : Nat → ByteArray → Int → Int → Bool → Option (Int × Bool × Int × Int)
  | 0, _, _, _, _ => none
  | k + 1, x0, x4, x5, x47 => if x47 = true then (some (0, false, 0, 6)) else (vidimusref02_Parse.l2 k x0 x5 0 (wrap64 (x4 + 1)))
def vidimusref02_Parse.l2 : Nat → ByteArray → Int → Int → Int → Option (Int × Bool × Int × Int)
  | 0, _, _, _, _ => none
  | k + 1, x0, x5, x6, x7 => if x7 < x5 then (if 0 ≤ x7 then (if x7 < (x0.size : Int) then (if (bt x0 x7) < 48 then (some (0, false, 0, 6)) else (if (bt x0 x7) > 57 then (some (0, false, 0, 6)) else (vidimusref02_Parse.l2 k x0 x5 (wrap64 ((wrap64 (10 * x6)) + (((bt x0 x7) - 48) % 256))) (wrap64 (x7 + 1))))) else (none)) else (none)) else (vidimusref02_Parse.l3 k x0 x6 0)
def vidimusref02_Parse.l3 : Nat → ByteArray → Int → Int → Option (Int × Bool × Int × Int)
  | 0, _, _, _ => none
  | k + 1, x0, x6, x8 => if x8 < 4 then (vidimusref02_Parse.l4 k x0 x6 x8 0) else (some (0, false, 0, 6))
def vidimusref02_Parse.l4 : Nat → ByteArray → Int → Int → Int → Option (Int × Bool × Int × Int)
  | 0, _, _, _, _ => none
  | k + 1, x0, x6, x8, x9 => if x9 < 2 then (if x6 ≤ 268435455 then ((vidimusref02_Text.f k ((x8) % 256) (x9 == 1) ((x6) % 4294967296)).bind fun t194 => (vidimusref02_Parse.j8 k x0 x6 x8 x9 (t194.toList == x0.toList) ((x8) % 256) (x9 == 1) ((x6) % 4294967296))) else (vidimusref02_Parse.j8 k x0 x6 x8 x9 false ((x8) % 256) (x9 == 1) ((x6) % 4294967296))) else (vidimusref02_Parse.l3 k x0 x6 (wrap64 (x8 + 1)))
def vidimusref02_Parse.j8 : Nat → ByteArray → Int → Int → Int → Bool → Int → Bool → Int → Option (Int × Bool × Int × Int)
  | 0, _, _, _, _, _, _, _, _ => none
  | k + 1, x0, x6, x8, x9, x97, x194000, x194001, x194002 => if x97 = true then ((vidimusref02_Check.f k x194000 x194001 x194002).bind fun t195 => (if t195 = 0 then (some (x194000, x194001, x194002, 0)) else (some (0, false, 0, t195)))) else (vidimusref02_Parse.l4 k x0 x6 x8 (wrap64 (x9 + 1)))
def vidimusref02_Parse.l1 : Nat → ByteArray → Int → Int → Option (Int × Bool × Int × Int)
  | 0, _, _, _ => none
  | k + 1, x0, x4, x5 => if x5 < (x0.size : Int) then (if 0 ≤ x5 then (if (bt x0 x5) = 32 then (vidimusref02_Parse.j3 k x0 x4 x5) else (vidimusref02_Parse.l1 k x0 x4 (wrap64 (x5 + 1)))) else (none)) else (vidimusref02_Parse.j3 k x0 x4 x5)
def vidimusref02_Parse.l0 : Nat → ByteArray → Int → Option (Int × Bool × Int × Int)
  | 0, _, _ => none
  | k + 1, x0, x4 => if x4 < (x0.size : Int) then (if 0 ≤ x4 then (if (bt x0 x4) = 32 then (vidimusref02_Parse.j1 k x0 x4) else (vidimusref02_Parse.l0 k x0 (wrap64 (x4 + 1)))) else (none)) else (vidimusref02_Parse.j1 k x0 x4)
end
def vidimusref02_Parse.f (k : Nat) (a0 : ByteArray) : Option (Int × Bool × Int × Int) := vidimusref02_Parse.l0 k a0 0
theorem vidimusref02_Parse.mono_l : ∀ k, (∀ y0 y1, LeO (vidimusref02_Parse.j1 k y0 y1) (vidimusref02_Parse.j1 (k + 1) y0 y1)) ∧ (∀ y0 y1 y2, LeO (vidimusref02_Parse.j3 k y0 y1 y2) (vidimusref02_Parse.j3 (k + 1) y0 y1 y2)) ∧ (∀ y0 y1 y2 y3, LeO (vidimusref02_Parse.j4 k y0 y1 y2 y3) (vidimusref02_Parse.j4 (k + 1) y0 y1 y2 y3)) ∧ (∀ y0 y1 y2 y3, LeO (vidimusref02_Parse.l2 k y0 y1 y2 y3) (vidimusref02_Parse.l2 (k + 1) y0 y1 y2 y3)) ∧ (∀ y0 y1 y2, LeO (vidimusref02_Parse.l3 k y0 y1 y2) (vidimusref02_Parse.l3 (k + 1) y0 y1 y2)) ∧ (∀ y0 y1 y2 y3, LeO (vidimusref02_Parse.l4 k y0 y1 y2 y3) (vidimusref02_Parse.l4 (k + 1) y0 y1 y2 y3)) ∧ (∀ y0 y1 y2 y3 y4 y5 y6 y7, LeO (vidimusref02_Parse.j8 k y0 y1 y2 y3 y4 y5 y6 y7) (vidimusref02_Parse.j8 (k + 1) y0 y1 y2 y3 y4 y5 y6 y7)) ∧ (∀ y0 y1 y2, LeO (vidimusref02_Parse.l1 k y0 y1 y2) (vidimusref02_Parse.l1 (k + 1) y0 y1 y2)) ∧ (∀ y0 y1, LeO (vidimusref02_Parse.l0 k y0 y1) (vidimusref02_Parse.l0 (k + 1) y0 y1))
  | 0 => ⟨fun _ _ r h => by simp [vidimusref02_Parse.j1] at h, fun _ _ _ r h => by simp [vidimusref02_Parse.j3] at h, fun _ _ _ _ r h => by simp [vidimusref02_Parse.j4] at h, fun _ _ _ _ r h => by simp [vidimusref02_Parse.l2] at h, fun _ _ _ r h => by simp [vidimusref02_Parse.l3] at h, fun _ _ _ _ r h => by simp [vidimusref02_Parse.l4] at h, fun _ _ _ _ _ _ _ _ r h => by simp [vidimusref02_Parse.j8] at h, fun _ _ _ r h => by simp [vidimusref02_Parse.l1] at h, fun _ _ r h => by simp [vidimusref02_Parse.l0] at h⟩
  | k + 1 => by
    obtain ⟨ih0, ih1, ih2, ih3, ih4, ih5, ih6, ih7, ih8⟩ := vidimusref02_Parse.mono_l k
    refine ⟨?_, ?_, ?_, ?_, ?_, ?_, ?_, ?_, ?_⟩
    · intro y0 y1
      unfold vidimusref02_Parse.j1
      repeat' first
      | (with_reducible exact ih0 _ _)
      | (with_reducible exact ih1 _ _ _)
      | (with_reducible exact ih2 _ _ _ _)
      | (with_reducible exact ih3 _ _ _ _)
      | (with_reducible exact ih4 _ _ _)
      | (with_reducible exact ih5 _ _ _ _)
      | (with_reducible exact ih6 _ _ _ _ _ _ _ _)
      | (with_reducible exact ih7 _ _ _)
      | (with_reducible exact ih8 _ _)
      | (with_reducible exact vidimusref02_Check.mono _ _ _ _)
      | (with_reducible exact vidimusref02_Text.mono _ _ _ _)
      | (with_reducible exact LeO.refl _)
      | (with_reducible exact LeO.none _)
      | (with_reducible refine LeO.ite ?_ ?_)
      | (with_reducible refine LeO.bind ?_ (fun _ => ?_))
      | exact ih0 _ _
      | exact ih1 _ _ _
      | exact ih2 _ _ _ _
      | exact ih3 _ _ _ _
      | exact ih4 _ _ _
      | exact ih5 _ _ _ _
      | exact ih6 _ _ _ _ _ _ _ _
      | exact ih7 _ _ _
      | exact ih8 _ _
      | exact vidimusref02_Check.mono _ _ _ _
      | exact vidimusref02_Text.mono _ _ _ _
      | exact LeO.none _
      | refine LeO.ite ?_ ?_
      | refine LeO.bind ?_ (fun _ => ?_)
    · intro y0 y1 y2
      unfold vidimusref02_Parse.j3
      repeat' first
      | (with_reducible exact ih0 _ _)
      | (with_reducible exact ih1 _ _ _)
      | (with_reducible exact ih2 _ _ _ _)
      | (with_reducible exact ih3 _ _ _ _)
      | (with_reducible exact ih4 _ _ _)
      | (with_reducible exact ih5 _ _ _ _)
      | (with_reducible exact ih6 _ _ _ _ _ _ _ _)
      | (with_reducible exact ih7 _ _ _)
      | (with_reducible exact ih8 _ _)
      | (with_reducible exact vidimusref02_Check.mono _ _ _ _)
      | (with_reducible exact vidimusref02_Text.mono _ _ _ _)
      | (with_reducible exact LeO.refl _)
      | (with_reducible exact LeO.none _)
      | (with_reducible refine LeO.ite ?_ ?_)
      | (with_reducible refine LeO.bind ?_ (fun _ => ?_))
      | exact ih0 _ _
      | exact ih1 _ _ _
      | exact ih2 _ _ _ _
      | exact ih3 _ _ _ _
      | exact ih4 _ _ _
      | exact ih5 _ _ _ _
      | exact ih6 _ _ _ _ _ _ _ _
      | exact ih7 _ _ _
      | exact ih8 _ _
      | exact vidimusref02_Check.mono _ _ _ _
      | exact vidimusref02_Text.mono _ _ _ _
      | exact LeO.none _
      | refine LeO.ite ?_ ?_
      | refine LeO.bind ?_ (fun _ => ?_)
    · intro y0 y1 y2 y3
      unfold vidimusref02_Parse.j4
      repeat' first
      | (with_reducible exact ih0 _ _)
      | (with_reducible exact ih1 _ _ _)
      | (with_reducible exact ih2 _ _ _ _)
      | (with_reducible exact ih3 _ _ _ _)
      | (with_reducible exact ih4 _ _ _)
      | (with_reducible exact ih5 _ _ _ _)
      | (with_reducible exact ih6 _ _ _ _ _ _ _ _)
      | (with_reducible exact ih7 _ _ _)
      | (with_reducible exact ih8 _ _)
      | (with_reducible exact vidimusref02_Check.mono _ _ _ _)
      | (with_reducible exact vidimusref02_Text.mono _ _ _ _)
      | (with_reducible exact LeO.refl _)
      | (with_reducible exact LeO.none _)
      | (with_reducible refine LeO.ite ?_ ?_)
      | (with_reducible refine LeO.bind ?_ (fun _ => ?_))
      | exact ih0 _ _
      | exact ih1 _ _ _
      | exact ih2 _ _ _ _
      | exact ih3 _ _ _ _
      | exact ih4 _ _ _
      | exact ih5 _ _ _ _
      | exact ih6 _ _ _ _ _ _ _ _
      | exact ih7 _ _ _
      | exact ih8 _ _
      | exact vidimusref02_Check.mono _ _ _ _
      | exact vidimusref02_Text.mono _ _ _ _
      | exact LeO.none _
      | refine LeO.ite ?_ ?_
      | refine LeO.bind ?_ (fun _ => ?_)
    · intro y0 y1 y2 y3
      unfold vidimusref02_Parse.l2
      repeat' first
      | (with_reducible exact ih0 _ _)
      | (with_reducible exact ih1 _ _ _)
      | (with_reducible exact ih2 _ _ _ _)
      | (with_reducible exact ih3 _ _ _ _)
      | (with_reducible exact ih4 _ _ _)
      | (with_reducible exact ih5 _ _ _ _)
      | (with_reducible exact ih6 _ _ _ _ _ _ _ _)
      | (with_reducible exact ih7 _ _ _)
      | (with_reducible exact ih8 _ _)
      | (with_reducible exact vidimusref02_Check.mono _ _ _ _)
      | (with_reducible exact vidimusref02_Text.mono _ _ _ _)
      | (with_reducible exact LeO.refl _)
      | (with_reducible exact LeO.none _)
      | (with_reducible refine LeO.ite ?_ ?_)
      | (with_reducible refine LeO.bind ?_ (fun _ => ?_))
      | exact ih0 _ _
      | exact ih1 _ _ _
      | exact ih2 _ _ _ _
      | exact ih3 _ _ _ _
      | exact ih4 _ _ _
      | exact ih5 _ _ _ _
      | exact ih6 _ _ _ _ _ _ _ _
      | exact ih7 _ _ _
      | exact ih8 _ _
      | exact vidimusref02_Check.mono _ _ _ _
      | exact vidimusref02_Text.mono _ _ _ _
      | exact LeO.none _
      | refine LeO.ite ?_ ?_
      | refine LeO.bind ?_ (fun _ => ?_)
    · intro y0 y1 y2
      unfold vidimusref02_Parse.l3
      repeat' first
      | (with_reducible exact ih0 _ _)
      | (with_reducible exact ih1 _ _ _)
      | (with_reducible exact ih2 _ _ _ _)
      | (with_reducible exact ih3 _ _ _ _)
      | (with_reducible exact ih4 _ _ _)
      | (with_reducible exact ih5 _ _ _ _)
      | (with_reducible exact ih6 _ _ _ _ _ _ _ _)
      | (with_reducible exact ih7 _ _ _)
      | (with_reducible exact ih8 _ _)
      | (with_reducible exact vidimusref02_Check.mono _ _ _ _)
      | (with_reducible exact vidimusref02_Text.mono _ _ _ _)
      | (with_reducible exact LeO.refl _)
      | (with_reducible exact LeO.none _)
      | (with_reducible refine LeO.ite ?_ ?_)
      | (with_reducible refine LeO.bind ?_ (fun _ => ?_))
      | exact ih0 _ _
      | exact ih1 _ _ _
      | exact ih2 _ _ _ _
      | exact ih3 _ _ _ _
      | exact ih4 _ _ _
      | exact ih5 _ _ _ _
      | exact ih6 _ _ _ _ _ _ _ _
      | exact ih7 _ _ _
      | exact ih8 _ _
      | exact vidimusref02_Check.mono _ _ _ _
      | exact vidimusref02_Text.mono _ _ _ _
      | exact LeO.none _
      | refine LeO.ite ?_ ?_
      | refine LeO.bind ?_ (fun _ => ?_)
    · intro y0 y1 y2 y3
      unfold vidimusref02_Parse.l4
      repeat' first
      | (with_reducible exact ih0 _ _)
      | (with_reducible exact ih1 _ _ _)
      | (with_reducible exact ih2 _ _ _ _)
      | (with_reducible exact ih3 _ _ _ _)
      | (with_reducible exact ih4 _ _ _)
      | (with_reducible exact ih5 _ _ _ _)
      | (with_reducible exact ih6 _ _ _ _ _ _ _ _)
      | (with_reducible exact ih7 _ _ _)
      | (with_reducible exact ih8 _ _)
      | (with_reducible exact vidimusref02_Check.mono _ _ _ _)
      | (with_reducible exact vidimusref02_Text.mono _ _ _ _)
      | (with_reducible exact LeO.refl _)
      | (with_reducible exact LeO.none _)
      | (with_reducible refine LeO.ite ?_ ?_)
      | (with_reducible refine LeO.bind ?_ (fun _ => ?_))
      | exact ih0 _ _
      | exact ih1 _ _ _
      | exact ih2 _ _ _ _
      | exact ih3 _ _ _ _
      | exact ih4 _ _ _
      | exact ih5 _ _ _ _
      | exact ih6 _ _ _ _ _ _ _ _
      | exact ih7 _ _ _
      | exact ih8 _ _
      | exact vidimusref02_Check.mono _ _ _ _
      | exact vidimusref02_Text.mono _ _ _ _
      | exact LeO.none _
      | refine LeO.ite ?_ ?_
      | refine LeO.bind ?_ (fun _ => ?_)
    · intro y0 y1 y2 y3 y4 y5 y6 y7
      unfold vidimusref02_Parse.j8
      repeat' first
      | (with_reducible exact ih0 _ _)
      | (with_reducible exact ih1 _ _ _)
      | (with_reducible exact ih2 _ _ _ _)
      | (with_reducible exact ih3 _ _ _ _)
      | (with_reducible exact ih4 _ _ _)
      | (with_reducible exact ih5 _ _ _ _)
      | (with_reducible exact ih6 _ _ _ _ _ _ _ _)
      | (with_reducible exact ih7 _ _ _)
      | (with_reducible exact ih8 _ _)
      | (with_reducible exact vidimusref02_Check.mono _ _ _ _)
      | (with_reducible exact vidimusref02_Text.mono _ _ _ _)
      | (with_reducible exact LeO.refl _)
      | (with_reducible exact LeO.none _)
      | (with_reducible refine LeO.ite ?_ ?_)
      | (with_reducible refine LeO.bind ?_ (fun _ => ?_))
      | exact ih0 _ _
      | exact ih1 _ _ _
      | exact ih2 _ _ _ _
      | exact ih3 _ _ _ _
      | exact ih4 _ _ _
      | exact ih5 _ _ _ _
      | exact ih6 _ _ _ _ _ _ _ _
      | exact ih7 _ _ _
      | exact ih8 _ _
      | exact vidimusref02_Check.mono _ _ _ _
      | exact vidimusref02_Text.mono _ _ _ _
      | exact LeO.none _
      | refine LeO.ite ?_ ?_
      | refine LeO.bind ?_ (fun _ => ?_)
    · intro y0 y1 y2
      unfold vidimusref02_Parse.l1
      repeat' first
      | (with_reducible exact ih0 _ _)
      | (with_reducible exact ih1 _ _ _)
      | (with_reducible exact ih2 _ _ _ _)
      | (with_reducible exact ih3 _ _ _ _)
      | (with_reducible exact ih4 _ _ _)
      | (with_reducible exact ih5 _ _ _ _)
      | (with_reducible exact ih6 _ _ _ _ _ _ _ _)
      | (with_reducible exact ih7 _ _ _)
      | (with_reducible exact ih8 _ _)
      | (with_reducible exact vidimusref02_Check.mono _ _ _ _)
      | (with_reducible exact vidimusref02_Text.mono _ _ _ _)
      | (with_reducible exact LeO.refl _)
      | (with_reducible exact LeO.none _)
      | (with_reducible refine LeO.ite ?_ ?_)
      | (with_reducible refine LeO.bind ?_ (fun _ => ?_))
      | exact ih0 _ _
      | exact ih1 _ _ _
      | exact ih2 _ _ _ _
      | exact ih3 _ _ _ _
      | exact ih4 _ _ _
      | exact ih5 _ _ _ _
      | exact ih6 _ _ _ _ _ _ _ _
      | exact ih7 _ _ _
      | exact ih8 _ _
      | exact vidimusref02_Check.mono _ _ _ _
      | exact vidimusref02_Text.mono _ _ _ _
      | exact LeO.none _
      | refine LeO.ite ?_ ?_
      | refine LeO.bind ?_ (fun _ => ?_)
    · intro y0 y1
      unfold vidimusref02_Parse.l0
      repeat' first
      | (with_reducible exact ih0 _ _)
      | (with_reducible exact ih1 _ _ _)
      | (with_reducible exact ih2 _ _ _ _)
      | (with_reducible exact ih3 _ _ _ _)
      | (with_reducible exact ih4 _ _ _)
      | (with_reducible exact ih5 _ _ _ _)
      | (with_reducible exact ih6 _ _ _ _ _ _ _ _)
      | (with_reducible exact ih7 _ _ _)
      | (with_reducible exact ih8 _ _)
      | (with_reducible exact vidimusref02_Check.mono _ _ _ _)
      | (with_reducible exact vidimusref02_Text.mono _ _ _ _)
      | (with_reducible exact LeO.refl _)
      | (with_reducible exact LeO.none _)
      | (with_reducible refine LeO.ite ?_ ?_)
      | (with_reducible refine LeO.bind ?_ (fun _ => ?_))
      | exact ih0 _ _
      | exact ih1 _ _ _
      | exact ih2 _ _ _ _
      | exact ih3 _ _ _ _
      | exact ih4 _ _ _
      | exact ih5 _ _ _ _
      | exact ih6 _ _ _ _ _ _ _ _
      | exact ih7 _ _ _
      | exact ih8 _ _
      | exact vidimusref02_Check.mono _ _ _ _
      | exact vidimusref02_Text.mono _ _ _ _
      | exact LeO.none _
      | refine LeO.ite ?_ ?_
      | refine LeO.bind ?_ (fun _ => ?_)
theorem vidimusref02_Parse.mono : ∀ a0 k, LeO (vidimusref02_Parse.f k a0) (vidimusref02_Parse.f (k + 1) a0) := by
  intro a0 k
  obtain ⟨ih0, ih1, ih2, ih3, ih4, ih5, ih6, ih7, ih8⟩ := vidimusref02_Parse.mono_l k
  unfold vidimusref02_Parse.f
  repeat' first
      | (with_reducible exact ih0 _ _)
      | (with_reducible exact ih1 _ _ _)
      | (with_reducible exact ih2 _ _ _ _)
      | (with_reducible exact ih3 _ _ _ _)
      | (with_reducible exact ih4 _ _ _)
      | (with_reducible exact ih5 _ _ _ _)
      | (with_reducible exact ih6 _ _ _ _ _ _ _ _)
      | (with_reducible exact ih7 _ _ _)
      | (with_reducible exact ih8 _ _)
      | (with_reducible exact vidimusref02_Check.mono _ _ _ _)
      | (with_reducible exact vidimusref02_Text.mono _ _ _ _)
      | (with_reducible exact LeO.refl _)
      | (with_reducible exact LeO.none _)
      | (with_reducible refine LeO.ite ?_ ?_)
      | (with_reducible refine LeO.bind ?_ (fun _ => ?_))
      | exact ih0 _ _
      | exact ih1 _ _ _
      | exact ih2 _ _ _ _
      | exact ih3 _ _ _ _
      | exact ih4 _ _ _
      | exact ih5 _ _ _ _
      | exact ih6 _ _ _ _ _ _ _ _
      | exact ih7 _ _ _
      | exact ih8 _ _
      | exact vidimusref02_Check.mono _ _ _ _
      | exact vidimusref02_Text.mono _ _ _ _
      | exact LeO.none _
      | refine LeO.ite ?_ ?_
      | refine LeO.bind ?_ (fun _ => ?_)
set_option maxHeartbeats 8000000 in
set_option maxRecDepth 100000 in
theorem vidimusref02_Parse.calls (k : Nat) (a0 : ByteArray) (r1 : Int) (r2 : Bool) (r3 : Int) (r4 : Int) (w : World) (h : vidimusref02_Parse.f k a0 = some (r1, r2, r3, r4)) :
    Calls Tryd.prog 19 #[.string a0] w fun e w' => e = .returned (.tuple #[.agg #[.int .u8 r1, .bool r2, .int .u32 r3], .int .i64 r4]) ∧ Below w.heap.size w w' := by
  have hu27 := Tryd.underlying27
  have HB := Aside0.mk (Below.refl w.heap.size w)
  have H : (vidimusref02_Parse.l0 k a0 0) = some (r1, r2, r3, r4) := h
  clear h
  have HC2 := Aside0.mk H
  clear H
  go_enter Tryd.func19, Tryd.ntmps19
  go_upto_block 0 with (first | ((with_reducible refine gate_dst (N := 2) rfl ?_); (try (refine gate_guard (by rfl) ?_; dsimp only)); refine box_event ?hg (N := 2) ?hd (cs := #[.int .u8 0, .bool false, .int .u32 0]) (t := 27) ?hr ?_; (case hd => rfl); (case hg => rfl); (case hr => first | (go_simp; done) | (go_simp; rfl)); intro gb192 hg w3 hbox hb; have n0_ := Aside0.mk (below_step (by repeat (first | (with_reducible first | exact HB.out | apply below_alloc | apply pw_below_drewN | apply below_drew1) | exact HB.out)) hb); have n1_ := Aside0.mk (hbox); have n2_ := Aside0.mk ((by rw [hg]; exact (below_size (by repeat (first | (with_reducible first | exact HB.out | apply below_alloc | apply pw_below_drewN | apply below_drew1) | exact HB.out))) : w.heap.size ≤ gb192)); have n3_ := Aside0.mk ((by rw [hg]; exact (below_size (by repeat (first | (with_reducible first | exact HB.out | apply below_alloc | apply pw_below_drewN | apply below_drew1) | exact HB.out))) : w.heap.size ≤ gb192)); clear HB; have HB := n0_; have BK192 := n1_; have GW192 := n2_; have GE192 := n3_; clear n0_ n1_ n2_ n3_; clear hb hbox hg))
  (try simp only [Act.put, List.setIfInBounds_toArray, List.set_cons_zero, List.set_cons_succ])
  go_cut [4] (fun v4 wc => ∃ (kq : Nat) (x4_1 : Int), v4 = .int .i64 x4_1 ∧ Aside0 (vidimusref02_Parse.j1 kq a0 x4_1 = some (r1, r2, r3, r4)) ∧ Aside0 (kq ≤ k) ∧ Aside0 (wc.heap[gb192]? = some (.cells #[.int .u8 0, .bool false, .int .u32 0] 27 (0, 0))) ∧ Aside0 (Below w.heap.size w wc))
  case first =>
    have H := HC2.out
    clear HC2
    have H' := Aside0.mk H
    clear H
    go_wp2
    go_loopg [4] k (fun kq v4 w' => ∃ (x4_1 : Int), v4 = .int .i64 x4_1 ∧ Aside0 (vidimusref02_Parse.l0 kq a0 x4_1 = some (r1, r2, r3, r4)) ∧ Aside0 (kq ≤ k) ∧ Aside0 (w'.heap[gb192]? = some (.cells #[.int .u8 0, .bool false, .int .u32 0] 27 (0, 0))) ∧ Aside0 (Below w.heap.size w w'))
    case atStart => exact ⟨(0), (by first | rfl | (simp; done) | (simp [*]; done)), H', ⟨Nat.le_refl _⟩, ⟨by (with_reducible repeat (first | refine blk_drewN ?_ _ | refine blk_drew ?_ | refine blk_alloc ?_ _)); exact BK192.out⟩, ⟨by repeat (first | (with_reducible first | exact HB.out | apply below_alloc | apply pw_below_drewN | apply below_drew1 | refine below_set ?_ GE192.out) | exact HB.out)⟩⟩
    case round =>
      clear H'
      try clear c1
      try clear p2
      obtain ⟨x4_1, rfl, HA, HK1, BK192, HB⟩ := hrel
      cases gk with
      | zero => exact absurd HA.out (by simp [vidimusref02_Parse.l0])
      | succ k1 =>
        have H := HA.out
        clear HA
        simp only [vidimusref02_Parse.l0] at H
        by_cases c4 : x4_1 < (a0.size : Int)
        · rw [if_pos c4] at H
          have c4b0 : decide (x4_1 < (a0.size : Int)) = true := decide_eq_true c4
          clear c4
          (first | rw [c4b0] | (simp only [i64_w, i32_w]; rw [c4b0]) | skip)
          by_cases c5 : 0 ≤ x4_1
          · rw [if_pos c5] at H
            have c5b0 : decide (0 ≤ x4_1) = true := decide_eq_true c5
            clear c5
            by_cases c7 : (bt a0 x4_1) = 32
            · rw [if_pos c7] at H
              have c7b0 : ((bt a0 x4_1) == 32) = true := beq_iff_eq.mpr c7
              have c7b1 : ((bt a0 x4_1) != 32) = false := bne_eq_false_iff_eq.mpr c7
              clear c7
              have H' := Aside0.mk H
              clear H
              have p6 : 0 ≤ (x4_1 : Int) := of_decide_eq_true (by first | (with_reducible assumption) | assumption)
              have q6 : x4_1 < (a0.size : Int) := of_decide_eq_true (by first | (with_reducible assumption) | assumption)
              have hx6 := bt_at a0 x4_1
              replace p6 := eq_true p6
              replace q6 := eq_true q6
              go_wp2
              go_meet
              case rel => exact ⟨_, (x4_1), (by first | rfl | (simp; done) | (simp [*]; done)), H', ⟨by have := HK1.out; first | omega | exact Nat.le_refl _⟩, ⟨by (with_reducible repeat (first | refine blk_drewN ?_ _ | refine blk_drew ?_ | refine blk_alloc ?_ _)); exact BK192.out⟩, ⟨by repeat (first | (with_reducible first | exact HB.out | apply below_alloc | apply pw_below_drewN | apply below_drew1 | refine below_set ?_ GE192.out) | exact HB.out)⟩⟩
            · rw [if_neg c7] at H
              have c7b0 : ((bt a0 x4_1) == 32) = false := beq_eq_false_iff_ne.mpr c7
              have c7b1 : ((bt a0 x4_1) != 32) = true := bne_iff_ne.mpr c7
              have H' := Aside0.mk H
              clear H
              have p6 : 0 ≤ (x4_1 : Int) := of_decide_eq_true (by first | (with_reducible assumption) | assumption)
              have q6 : x4_1 < (a0.size : Int) := of_decide_eq_true (by first | (with_reducible assumption) | assumption)
              have hx6 := bt_at a0 x4_1
              replace p6 := eq_true p6
              replace q6 := eq_true q6
              go_wp2
              go_roundg k1
              case measure => have := HK1.out; omega
              case rel => exact ⟨(wrap64 (x4_1 + 1)), (by first | rfl | (simp; done) | (simp [*]; done)), H', ⟨by have := HK1.out; omega⟩, ⟨by (with_reducible repeat (first | refine blk_drewN ?_ _ | refine blk_drew ?_ | refine blk_alloc ?_ _)); exact BK192.out⟩, ⟨by repeat (first | (with_reducible first | exact HB.out | apply below_alloc | apply pw_below_drewN | apply below_drew1 | refine below_set ?_ GE192.out) | exact HB.out)⟩⟩
          · rw [if_neg c5] at H
            exact absurd H (by simp)
        · rw [if_neg c4] at H
          have c4b0 : decide (x4_1 < (a0.size : Int)) = false := decide_eq_false c4
          clear c4
          (first | rw [c4b0] | (simp only [i64_w, i32_w]; rw [c4b0]) | skip)
          have H' := Aside0.mk H
          clear H
          go_wp2
          go_meet
          case rel => exact ⟨_, (x4_1), (by first | rfl | (simp; done) | (simp [*]; done)), H', ⟨by have := HK1.out; first | omega | exact Nat.le_refl _⟩, ⟨by (with_reducible repeat (first | refine blk_drewN ?_ _ | refine blk_drew ?_ | refine blk_alloc ?_ _)); exact BK192.out⟩, ⟨by repeat (first | (with_reducible first | exact HB.out | apply below_alloc | apply pw_below_drewN | apply below_drew1 | refine below_set ?_ GE192.out) | exact HB.out)⟩⟩
  case rest =>
    clear HC2
    try clear c1
    try clear p2
    try clear c4
    try clear c4b0
    try clear c5
    try clear c5b0
    try clear p6
    try clear q6
    try clear hx6
    try clear c7
    try clear c7b0
    try clear c7b1
    try clear p2
    try clear p6
    try clear q6
    obtain ⟨kq, x4_1, rfl, HA, HJ1, BK192, HB⟩ := hcut
    cases kq with
    | zero => exact absurd HA.out (by simp [vidimusref02_Parse.j1])
    | succ kj1 =>
      have H := HA.out
      clear HA
      simp only [vidimusref02_Parse.j1] at H
      have HC8 := Aside0.mk H
      clear H
      go_upto_block 2 with (fail)
      go_cut [5] (fun v5 wc => ∃ (kq : Nat) (x5_7 : Int), v5 = .int .i64 x5_7 ∧ Aside0 (vidimusref02_Parse.j3 kq a0 x4_1 x5_7 = some (r1, r2, r3, r4)) ∧ Aside0 (kq ≤ kj1) ∧ Aside0 (wc.heap[gb192]? = some (.cells #[.int .u8 0, .bool false, .int .u32 0] 27 (0, 0))) ∧ Aside0 (Below w.heap.size w wc))
      case first =>
        have H := HC8.out
        clear HC8
        have H' := Aside0.mk H
        clear H
        go_wp2
        go_loopg [5] kj1 (fun kq v5 w' => ∃ (x5_2 : Int), v5 = .int .i64 x5_2 ∧ Aside0 (vidimusref02_Parse.l1 kq a0 x4_1 x5_2 = some (r1, r2, r3, r4)) ∧ Aside0 (kq ≤ kj1) ∧ Aside0 (w'.heap[gb192]? = some (.cells #[.int .u8 0, .bool false, .int .u32 0] 27 (0, 0))) ∧ Aside0 (Below w.heap.size w w'))
        case atStart => exact ⟨(wrap64 (x4_1 + 1)), (by first | rfl | (simp; done) | (simp [*]; done)), H', ⟨Nat.le_refl _⟩, ⟨by (with_reducible repeat (first | refine blk_drewN ?_ _ | refine blk_drew ?_ | refine blk_alloc ?_ _)); exact BK192.out⟩, ⟨by repeat (first | (with_reducible first | exact HB.out | apply below_alloc | apply pw_below_drewN | apply below_drew1 | refine below_set ?_ GE192.out) | exact HB.out)⟩⟩
        case round =>
          clear H'
          try clear c1
          try clear p2
          try clear c4
          try clear c4b0
          try clear c5
          try clear c5b0
          try clear p6
          try clear q6
          try clear hx6
          try clear c7
          try clear c7b0
          try clear c7b1
          try clear p2
          try clear p6
          try clear q6
          obtain ⟨x5_2, rfl, HA, HK2, BK192, HB⟩ := hrel
          cases gk with
          | zero => exact absurd HA.out (by simp [vidimusref02_Parse.l1])
          | succ k2 =>
            have H := HA.out
            clear HA
            simp only [vidimusref02_Parse.l1] at H
            by_cases c9 : x5_2 < (a0.size : Int)
            · rw [if_pos c9] at H
              have c9b0 : decide (x5_2 < (a0.size : Int)) = true := decide_eq_true c9
              clear c9
              (first | rw [c9b0] | (simp only [i64_w, i32_w]; rw [c9b0]) | skip)
              by_cases c10 : 0 ≤ x5_2
              · rw [if_pos c10] at H
                have c10b0 : decide (0 ≤ x5_2) = true := decide_eq_true c10
                clear c10
                by_cases c12 : (bt a0 x5_2) = 32
                · rw [if_pos c12] at H
                  have c12b0 : ((bt a0 x5_2) == 32) = true := beq_iff_eq.mpr c12
                  have c12b1 : ((bt a0 x5_2) != 32) = false := bne_eq_false_iff_eq.mpr c12
                  clear c12
                  have H' := Aside0.mk H
                  clear H
                  have p11 : 0 ≤ (x5_2 : Int) := of_decide_eq_true (by first | (with_reducible assumption) | assumption)
                  have q11 : x5_2 < (a0.size : Int) := of_decide_eq_true (by first | (with_reducible assumption) | assumption)
                  have hx11 := bt_at a0 x5_2
                  replace p11 := eq_true p11
                  replace q11 := eq_true q11
                  go_wp2
                  go_meet
                  case rel => exact ⟨_, (x5_2), (by first | rfl | (simp; done) | (simp [*]; done)), H', ⟨by have := HJ1.out; have := HK2.out; first | omega | exact Nat.le_refl _⟩, ⟨by (with_reducible repeat (first | refine blk_drewN ?_ _ | refine blk_drew ?_ | refine blk_alloc ?_ _)); exact BK192.out⟩, ⟨by repeat (first | (with_reducible first | exact HB.out | apply below_alloc | apply pw_below_drewN | apply below_drew1 | refine below_set ?_ GE192.out) | exact HB.out)⟩⟩
                · rw [if_neg c12] at H
                  have c12b0 : ((bt a0 x5_2) == 32) = false := beq_eq_false_iff_ne.mpr c12
                  have c12b1 : ((bt a0 x5_2) != 32) = true := bne_iff_ne.mpr c12
                  have H' := Aside0.mk H
                  clear H
                  have p11 : 0 ≤ (x5_2 : Int) := of_decide_eq_true (by first | (with_reducible assumption) | assumption)
                  have q11 : x5_2 < (a0.size : Int) := of_decide_eq_true (by first | (with_reducible assumption) | assumption)
                  have hx11 := bt_at a0 x5_2
                  replace p11 := eq_true p11
                  replace q11 := eq_true q11
                  go_wp2
                  go_roundg k2
                  case measure => have := HJ1.out; have := HK2.out; omega
                  case rel => exact ⟨(wrap64 (x5_2 + 1)), (by first | rfl | (simp; done) | (simp [*]; done)), H', ⟨by have := HJ1.out; have := HK2.out; omega⟩, ⟨by (with_reducible repeat (first | refine blk_drewN ?_ _ | refine blk_drew ?_ | refine blk_alloc ?_ _)); exact BK192.out⟩, ⟨by repeat (first | (with_reducible first | exact HB.out | apply below_alloc | apply pw_below_drewN | apply below_drew1 | refine below_set ?_ GE192.out) | exact HB.out)⟩⟩
              · rw [if_neg c10] at H
                exact absurd H (by simp)
            · rw [if_neg c9] at H
              have c9b0 : decide (x5_2 < (a0.size : Int)) = false := decide_eq_false c9
              clear c9
              (first | rw [c9b0] | (simp only [i64_w, i32_w]; rw [c9b0]) | skip)
              have H' := Aside0.mk H
              clear H
              go_wp2
              go_meet
              case rel => exact ⟨_, (x5_2), (by first | rfl | (simp; done) | (simp [*]; done)), H', ⟨by have := HJ1.out; have := HK2.out; first | omega | exact Nat.le_refl _⟩, ⟨by (with_reducible repeat (first | refine blk_drewN ?_ _ | refine blk_drew ?_ | refine blk_alloc ?_ _)); exact BK192.out⟩, ⟨by repeat (first | (with_reducible first | exact HB.out | apply below_alloc | apply pw_below_drewN | apply below_drew1 | refine below_set ?_ GE192.out) | exact HB.out)⟩⟩
      case rest =>
        clear HC8
        try clear c1
        try clear p1
        try clear q1
        try clear hx1
        try clear p2
        try clear c4
        try clear c4b0
        try clear c5
        try clear c5b0
        try clear p6
        try clear q6
        try clear hx6
        try clear c7
        try clear c7b0
        try clear c7b1
        try clear c9
        try clear c9b0
        try clear c10
        try clear c10b0
        try clear p11
        try clear q11
        try clear hx11
        try clear c12
        try clear c12b0
        try clear c12b1
        try clear p11
        try clear p2
        try clear p6
        try clear q11
        try clear q6
        obtain ⟨kq, x5_7, rfl, HA, HJ7, BK192, HB⟩ := hcut
        cases kq with
        | zero => exact absurd HA.out (by simp [vidimusref02_Parse.j3])
        | succ kj7 =>
          have H := HA.out
          clear HA
          simp only [vidimusref02_Parse.j3] at H
          have HC13 := Aside0.mk H
          clear H
          go_upto_region 7 with (fail)
          go_cut [47] (fun v47 wc => ∃ (kq : Nat) (x47_12 : Bool), v47 = .bool x47_12 ∧ Aside0 (vidimusref02_Parse.j4 kq a0 x4_1 x5_7 x47_12 = some (r1, r2, r3, r4)) ∧ Aside0 (kq ≤ kj7) ∧ Aside0 (wc.heap[gb192]? = some (.cells #[.int .u8 0, .bool false, .int .u32 0] 27 (0, 0))) ∧ Aside0 (Below w.heap.size w wc))
          case first =>
            have H := HC13.out
            clear HC13
            by_cases c14 : (wrap64 (x5_7 - x4_1)) > 10
            · rw [if_pos c14] at H
              have c14b0 : decide (10 < (wrap64 (x5_7 - x4_1))) = true := decide_eq_true c14
              clear c14
              (first | rw [c14b0] | (simp only [i64_w, i32_w]; rw [c14b0]) | skip)
              have H' := Aside0.mk H
              clear H
              go_wp2
              go_meet
              case rel => exact ⟨_, (true), (by first | rfl | (simp; done) | (simp [*]; done)), H', ⟨by have := HJ1.out; have := HJ7.out; first | omega | exact Nat.le_refl _⟩, ⟨by (with_reducible repeat (first | refine blk_drewN ?_ _ | refine blk_drew ?_ | refine blk_alloc ?_ _)); exact BK192.out⟩, ⟨by repeat (first | (with_reducible first | exact HB.out | apply below_alloc | apply pw_below_drewN | apply below_drew1 | refine below_set ?_ GE192.out) | exact HB.out)⟩⟩
            · rw [if_neg c14] at H
              have c14b0 : decide (10 < (wrap64 (x5_7 - x4_1))) = false := decide_eq_false c14
              clear c14
              (first | rw [c14b0] | (simp only [i64_w, i32_w]; rw [c14b0]) | skip)
              have H' := Aside0.mk H
              clear H
              go_wp2
              go_meet
              case rel => exact ⟨_, (decide (x5_7 > (a0.size : Int))), (by first | rfl | (simp; done) | (simp [*]; done)), H', ⟨by have := HJ1.out; have := HJ7.out; first | omega | exact Nat.le_refl _⟩, ⟨by (with_reducible repeat (first | refine blk_drewN ?_ _ | refine blk_drew ?_ | refine blk_alloc ?_ _)); exact BK192.out⟩, ⟨by repeat (first | (with_reducible first | exact HB.out | apply below_alloc | apply pw_below_drewN | apply below_drew1 | refine below_set ?_ GE192.out) | exact HB.out)⟩⟩
          case rest =>
            clear HC13
            try clear c1
            try clear p1
            try clear q1
            try clear hx1
            try clear p2
            try clear c4
            try clear c4b0
            try clear c5
            try clear c5b0
            try clear p6
            try clear q6
            try clear hx6
            try clear c7
            try clear c7b0
            try clear c7b1
            try clear c9
            try clear c9b0
            try clear c10
            try clear c10b0
            try clear p11
            try clear q11
            try clear hx11
            try clear c12
            try clear c12b0
            try clear c12b1
            try clear c14
            try clear c14b0
            try clear p1
            try clear p11
            try clear p2
            try clear p6
            try clear q1
            try clear q11
            try clear q6
            obtain ⟨kq, x47_12, rfl, HA, HJ12, BK192, HB⟩ := hcut
            cases kq with
            | zero => exact absurd HA.out (by simp [vidimusref02_Parse.j4])
            | succ kj12 =>
              have H := HA.out
              clear HA
              simp only [vidimusref02_Parse.j4] at H
              by_cases c15 : x47_12 = true
              · subst c15
                have H1 : (some (0, false, 0, 6)) = some (r1, r2, r3, r4) := by rw [if_pos rfl] at H; exact H
                clear H
                have H := H1
                clear H1
                simp only [Option.some.injEq, Prod.mk.injEq] at H
                obtain ⟨rfl, rfl, rfl, rfl⟩ := H
                have hcz16_0 : wc.cell? ⟨gb192, 0, none⟩ = some (.int .u8 0) := (blk_cell BK192.out 0).trans rfl
                have hcz16_1 : wc.cell? ⟨gb192, 1, none⟩ = some (.bool false) := (blk_cell BK192.out 1).trans rfl
                have hcz16_2 : wc.cell? ⟨gb192, 2, none⟩ = some (.int .u32 0) := (blk_cell BK192.out 2).trans rfl
                have hfz16_0 := blk_frozen BK192.out 0
                have hfz16_1 := blk_frozen BK192.out 1
                have hfz16_2 := blk_frozen BK192.out 2
                go_wp2
                refine bodyPost_ret (results_ct rfl _ _ gb192 27 #[.int .u8 0, .bool false, .int .u32 0] (0, 0) _ rfl (by (with_reducible repeat (first | refine blk_drewN ?_ _ | refine blk_drew ?_ | refine blk_alloc ?_ _)); refine blk_put (cs := #[.int .u8 0, .bool false, .int .u32 0]) ?_ 2 _ rfl; (with_reducible repeat (first | refine blk_drewN ?_ _ | refine blk_drew ?_ | refine blk_alloc ?_ _)); refine blk_put (cs := #[.int .u8 0, .bool false, .int .u32 0]) ?_ 1 _ rfl; (with_reducible repeat (first | refine blk_drewN ?_ _ | refine blk_drew ?_ | refine blk_alloc ?_ _)); refine blk_put (cs := #[.int .u8 0, .bool false, .int .u32 0]) ?_ 0 _ rfl; (with_reducible repeat (first | refine blk_drewN ?_ _ | refine blk_drew ?_ | refine blk_alloc ?_ _)); exact BK192.out) Tryd.underlying27 rfl (by kernel_rfl)) rfl ?_
                exact ⟨by first | rfl | (simp [errW_none, errW_some] <;> rfl) | (simp [*, errW_none, errW_some] <;> rfl), by repeat (first | (with_reducible first | exact HB.out | apply below_alloc | apply pw_below_drewN | apply below_drew1 | refine below_set ?_ GE192.out) | exact HB.out)⟩
              · replace c15 := Bool.eq_false_iff.mpr c15
                subst c15
                have H1 : (vidimusref02_Parse.l2 kj12 a0 x5_7 0 (wrap64 (x4_1 + 1))) = some (r1, r2, r3, r4) := by rw [if_neg (show ¬ (false = true) by decide)] at H; exact H
                clear H
                have H := H1
                clear H1
                have H' := Aside0.mk H
                clear H
                go_wp2
                go_loopg [6, 7] kj12 (fun kq v6 v7 w' => ∃ (x6_4 : Int) (x7_4 : Int) (x193000_4 : Int) (x193001_4 : Bool) (x193002_4 : Int), v6 = .int .i64 x6_4 ∧ v7 = .int .i64 x7_4 ∧ Aside0 (vidimusref02_Parse.l2 kq a0 x5_7 x6_4 x7_4 = some (r1, r2, r3, r4)) ∧ Aside0 (kq ≤ kj12) ∧ Aside0 (w'.heap[gb192]? = some (.cells #[.int .u8 x193000_4, .bool x193001_4, .int .u32 x193002_4] 27 (0, 0))) ∧ Aside0 (Below w.heap.size w w'))
                case atStart => exact ⟨(0), (wrap64 (x4_1 + 1)), (0), (false), (0), (by first | rfl | (simp; done) | (simp [*]; done)), (by first | rfl | (simp; done) | (simp [*]; done)), H', ⟨Nat.le_refl _⟩, ⟨by (with_reducible repeat (first | refine blk_drewN ?_ _ | refine blk_drew ?_ | refine blk_alloc ?_ _)); exact BK192.out⟩, ⟨by repeat (first | (with_reducible first | exact HB.out | apply below_alloc | apply pw_below_drewN | apply below_drew1 | refine below_set ?_ GE192.out) | exact HB.out)⟩⟩
                case round =>
                  clear H'
                  try clear c1
                  try clear p1
                  try clear q1
                  try clear hx1
                  try clear p2
                  try clear c4
                  try clear c4b0
                  try clear c5
                  try clear c5b0
                  try clear p6
                  try clear q6
                  try clear hx6
                  try clear c7
                  try clear c7b0
                  try clear c7b1
                  try clear c9
                  try clear c9b0
                  try clear c10
                  try clear c10b0
                  try clear p11
                  try clear q11
                  try clear hx11
                  try clear c12
                  try clear c12b0
                  try clear c12b1
                  try clear c14
                  try clear c14b0
                  try clear c15
                  try clear hcz16_0
                  try clear hcz16_1
                  try clear hcz16_2
                  try clear hfz16_0
                  try clear hfz16_1
                  try clear hfz16_2
                  try clear p1
                  try clear p11
                  try clear p2
                  try clear p6
                  try clear q1
                  try clear q11
                  try clear q6
                  obtain ⟨x6_4, x7_4, x193000_4, x193001_4, x193002_4, rfl, rfl, HA, HK4, BK192, HB⟩ := hrel
                  cases gk with
                  | zero => exact absurd HA.out (by simp [vidimusref02_Parse.l2])
                  | succ k4 =>
                    have H := HA.out
                    clear HA
                    simp only [vidimusref02_Parse.l2] at H
                    by_cases c17 : x7_4 < x5_7
                    · rw [if_pos c17] at H
                      have c17b0 : decide (x7_4 < x5_7) = true := decide_eq_true c17
                      clear c17
                      by_cases c18 : 0 ≤ x7_4
                      · rw [if_pos c18] at H
                        have c18b0 : decide (0 ≤ x7_4) = true := decide_eq_true c18
                        clear c18
                        by_cases c19 : x7_4 < (a0.size : Int)
                        · rw [if_pos c19] at H
                          have c19b0 : decide (x7_4 < (a0.size : Int)) = true := decide_eq_true c19
                          clear c19
                          by_cases c21 : (bt a0 x7_4) < 48
                          · rw [if_pos c21] at H
                            have c21b0 : decide ((bt a0 x7_4) < 48) = true := decide_eq_true c21
                            clear c21
                            simp only [Option.some.injEq, Prod.mk.injEq] at H
                            obtain ⟨rfl, rfl, rfl, rfl⟩ := H
                            have p20 : 0 ≤ (x7_4 : Int) := of_decide_eq_true (by first | (with_reducible assumption) | assumption)
                            have q20 : x7_4 < (a0.size : Int) := of_decide_eq_true (by first | (with_reducible assumption) | assumption)
                            have hx20 := bt_at a0 x7_4
                            replace p20 := eq_true p20
                            replace q20 := eq_true q20
                            have hcz22_0 : wr.cell? ⟨gb192, 0, none⟩ = some (.int .u8 x193000_4) := (blk_cell BK192.out 0).trans rfl
                            have hcz22_1 : wr.cell? ⟨gb192, 1, none⟩ = some (.bool x193001_4) := (blk_cell BK192.out 1).trans rfl
                            have hcz22_2 : wr.cell? ⟨gb192, 2, none⟩ = some (.int .u32 x193002_4) := (blk_cell BK192.out 2).trans rfl
                            have hfz22_0 := blk_frozen BK192.out 0
                            have hfz22_1 := blk_frozen BK192.out 1
                            have hfz22_2 := blk_frozen BK192.out 2
                            go_wp2
                            refine bodyPost_ret (results_ct rfl _ _ gb192 27 #[.int .u8 0, .bool false, .int .u32 0] (0, 0) _ rfl (by (with_reducible repeat (first | refine blk_drewN ?_ _ | refine blk_drew ?_ | refine blk_alloc ?_ _)); refine blk_put (cs := #[.int .u8 0, .bool false, .int .u32 x193002_4]) ?_ 2 _ rfl; (with_reducible repeat (first | refine blk_drewN ?_ _ | refine blk_drew ?_ | refine blk_alloc ?_ _)); refine blk_put (cs := #[.int .u8 0, .bool x193001_4, .int .u32 x193002_4]) ?_ 1 _ rfl; (with_reducible repeat (first | refine blk_drewN ?_ _ | refine blk_drew ?_ | refine blk_alloc ?_ _)); refine blk_put (cs := #[.int .u8 x193000_4, .bool x193001_4, .int .u32 x193002_4]) ?_ 0 _ rfl; (with_reducible repeat (first | refine blk_drewN ?_ _ | refine blk_drew ?_ | refine blk_alloc ?_ _)); exact BK192.out) Tryd.underlying27 rfl (by kernel_rfl)) rfl ?_
                            exact ⟨by first | rfl | (simp [errW_none, errW_some] <;> rfl) | (simp [*, errW_none, errW_some] <;> rfl), by repeat (first | (with_reducible first | exact HB.out | apply below_alloc | apply pw_below_drewN | apply below_drew1 | refine below_set ?_ GE192.out) | exact HB.out)⟩
                          · rw [if_neg c21] at H
                            have c21b0 : decide ((bt a0 x7_4) < 48) = false := decide_eq_false c21
                            clear c21
                            by_cases c24 : (bt a0 x7_4) > 57
                            · rw [if_pos c24] at H
                              have c24b0 : decide (57 < (bt a0 x7_4)) = true := decide_eq_true c24
                              clear c24
                              simp only [Option.some.injEq, Prod.mk.injEq] at H
                              obtain ⟨rfl, rfl, rfl, rfl⟩ := H
                              have p20 : 0 ≤ (x7_4 : Int) := of_decide_eq_true (by first | (with_reducible assumption) | assumption)
                              have q20 : x7_4 < (a0.size : Int) := of_decide_eq_true (by first | (with_reducible assumption) | assumption)
                              have hx20 := bt_at a0 x7_4
                              replace p20 := eq_true p20
                              replace q20 := eq_true q20
                              have p23 : 0 ≤ (x7_4 : Int) := of_decide_eq_true (by first | (with_reducible assumption) | assumption)
                              have q23 : x7_4 < (a0.size : Int) := of_decide_eq_true (by first | (with_reducible assumption) | assumption)
                              have hx23 := bt_at a0 x7_4
                              replace p23 := eq_true p23
                              replace q23 := eq_true q23
                              have hcz25_0 : wr.cell? ⟨gb192, 0, none⟩ = some (.int .u8 x193000_4) := (blk_cell BK192.out 0).trans rfl
                              have hcz25_1 : wr.cell? ⟨gb192, 1, none⟩ = some (.bool x193001_4) := (blk_cell BK192.out 1).trans rfl
                              have hcz25_2 : wr.cell? ⟨gb192, 2, none⟩ = some (.int .u32 x193002_4) := (blk_cell BK192.out 2).trans rfl
                              have hfz25_0 := blk_frozen BK192.out 0
                              have hfz25_1 := blk_frozen BK192.out 1
                              have hfz25_2 := blk_frozen BK192.out 2
                              go_wp2
                              refine bodyPost_ret (results_ct rfl _ _ gb192 27 #[.int .u8 0, .bool false, .int .u32 0] (0, 0) _ rfl (by (with_reducible repeat (first | refine blk_drewN ?_ _ | refine blk_drew ?_ | refine blk_alloc ?_ _)); refine blk_put (cs := #[.int .u8 0, .bool false, .int .u32 x193002_4]) ?_ 2 _ rfl; (with_reducible repeat (first | refine blk_drewN ?_ _ | refine blk_drew ?_ | refine blk_alloc ?_ _)); refine blk_put (cs := #[.int .u8 0, .bool x193001_4, .int .u32 x193002_4]) ?_ 1 _ rfl; (with_reducible repeat (first | refine blk_drewN ?_ _ | refine blk_drew ?_ | refine blk_alloc ?_ _)); refine blk_put (cs := #[.int .u8 x193000_4, .bool x193001_4, .int .u32 x193002_4]) ?_ 0 _ rfl; (with_reducible repeat (first | refine blk_drewN ?_ _ | refine blk_drew ?_ | refine blk_alloc ?_ _)); exact BK192.out) Tryd.underlying27 rfl (by kernel_rfl)) rfl ?_
                              exact ⟨by first | rfl | (simp [errW_none, errW_some] <;> rfl) | (simp [*, errW_none, errW_some] <;> rfl), by repeat (first | (with_reducible first | exact HB.out | apply below_alloc | apply pw_below_drewN | apply below_drew1 | refine below_set ?_ GE192.out) | exact HB.out)⟩
                            · rw [if_neg c24] at H
                              have c24b0 : decide (57 < (bt a0 x7_4)) = false := decide_eq_false c24
                              clear c24
                              have H' := Aside0.mk H
                              clear H
                              have p20 : 0 ≤ (x7_4 : Int) := of_decide_eq_true (by first | (with_reducible assumption) | assumption)
                              have q20 : x7_4 < (a0.size : Int) := of_decide_eq_true (by first | (with_reducible assumption) | assumption)
                              have hx20 := bt_at a0 x7_4
                              replace p20 := eq_true p20
                              replace q20 := eq_true q20
                              have p23 : 0 ≤ (x7_4 : Int) := of_decide_eq_true (by first | (with_reducible assumption) | assumption)
                              have q23 : x7_4 < (a0.size : Int) := of_decide_eq_true (by first | (with_reducible assumption) | assumption)
                              have hx23 := bt_at a0 x7_4
                              replace p23 := eq_true p23
                              replace q23 := eq_true q23
                              have p26 : 0 ≤ (x7_4 : Int) := of_decide_eq_true (by first | (with_reducible assumption) | assumption)
                              have q26 : x7_4 < (a0.size : Int) := of_decide_eq_true (by first | (with_reducible assumption) | assumption)
                              have hx26 := bt_at a0 x7_4
                              replace p26 := eq_true p26
                              replace q26 := eq_true q26
                              go_wp2
                              go_roundg k4
                              case measure => have := HJ1.out; have := HJ7.out; have := HJ12.out; have := HK4.out; omega
                              case rel => exact ⟨(wrap64 ((wrap64 (10 * x6_4)) + (((bt a0 x7_4) - 48) % 256))), (wrap64 (x7_4 + 1)), (x193000_4), (x193001_4), (x193002_4), (by first | rfl | (simp; done) | (simp [*]; done)), (by first | rfl | (simp; done) | (simp [*]; done)), H', ⟨by have := HJ1.out; have := HJ7.out; have := HJ12.out; have := HK4.out; omega⟩, ⟨by (with_reducible repeat (first | refine blk_drewN ?_ _ | refine blk_drew ?_ | refine blk_alloc ?_ _)); exact BK192.out⟩, ⟨by repeat (first | (with_reducible first | exact HB.out | apply below_alloc | apply pw_below_drewN | apply below_drew1 | refine below_set ?_ GE192.out) | exact HB.out)⟩⟩
                        · rw [if_neg c19] at H
                          exact absurd H (by simp)
                      · rw [if_neg c18] at H
                        exact absurd H (by simp)
                    · rw [if_neg c17] at H
                      have c17b0 : decide (x7_4 < x5_7) = false := decide_eq_false c17
                      clear c17
                      have H' := Aside0.mk H
                      clear H
                      go_wp2
                      go_loopg [8] k4 (fun kq v8 w' => ∃ (x8_5 : Int) (x193000_5 : Int) (x193001_5 : Bool) (x193002_5 : Int), v8 = .int .i64 x8_5 ∧ Aside0 (vidimusref02_Parse.l3 kq a0 x6_4 x8_5 = some (r1, r2, r3, r4)) ∧ Aside0 (kq ≤ k4) ∧ Aside0 (w'.heap[gb192]? = some (.cells #[.int .u8 x193000_5, .bool x193001_5, .int .u32 x193002_5] 27 (0, 0))) ∧ Aside0 (Below w.heap.size w w'))
                      case atStart => exact ⟨(0), (x193000_4), (x193001_4), (x193002_4), (by first | rfl | (simp; done) | (simp [*]; done)), H', ⟨Nat.le_refl _⟩, ⟨by (with_reducible repeat (first | refine blk_drewN ?_ _ | refine blk_drew ?_ | refine blk_alloc ?_ _)); exact BK192.out⟩, ⟨by repeat (first | (with_reducible first | exact HB.out | apply below_alloc | apply pw_below_drewN | apply below_drew1 | refine below_set ?_ GE192.out) | exact HB.out)⟩⟩
                      case round =>
                        clear H'
                        try clear c1
                        try clear p1
                        try clear q1
                        try clear hx1
                        try clear c2
                        try clear p2
                        try clear q2
                        try clear hx2
                        try clear c4
                        try clear c4b0
                        try clear c5
                        try clear c5b0
                        try clear p6
                        try clear q6
                        try clear hx6
                        try clear c7
                        try clear c7b0
                        try clear c7b1
                        try clear c9
                        try clear c9b0
                        try clear c10
                        try clear c10b0
                        try clear p11
                        try clear q11
                        try clear hx11
                        try clear c12
                        try clear c12b0
                        try clear c12b1
                        try clear c14
                        try clear c14b0
                        try clear c15
                        try clear c17
                        try clear c17b0
                        try clear c18
                        try clear c18b0
                        try clear c19
                        try clear c19b0
                        try clear p20
                        try clear q20
                        try clear hx20
                        try clear c21
                        try clear c21b0
                        try clear p23
                        try clear q23
                        try clear hx23
                        try clear c24
                        try clear c24b0
                        try clear p26
                        try clear q26
                        try clear hx26
                        try clear hcz16_0
                        try clear hcz16_1
                        try clear hcz16_2
                        try clear hcz22_0
                        try clear hcz22_1
                        try clear hcz22_2
                        try clear hcz25_0
                        try clear hcz25_1
                        try clear hcz25_2
                        try clear hfz16_0
                        try clear hfz16_1
                        try clear hfz16_2
                        try clear hfz22_0
                        try clear hfz22_1
                        try clear hfz22_2
                        try clear hfz25_0
                        try clear hfz25_1
                        try clear hfz25_2
                        try clear p1
                        try clear p11
                        try clear p2
                        try clear p20
                        try clear p23
                        try clear p26
                        try clear p6
                        try clear q1
                        try clear q11
                        try clear q20
                        try clear q23
                        try clear q26
                        try clear q6
                        obtain ⟨x8_5, x193000_5, x193001_5, x193002_5, rfl, HA, HK5, BK192, HB⟩ := hrel
                        cases gk with
                        | zero => exact absurd HA.out (by simp [vidimusref02_Parse.l3])
                        | succ k5 =>
                          have H := HA.out
                          clear HA
                          simp only [vidimusref02_Parse.l3] at H
                          by_cases c27 : x8_5 < 4
                          · rw [if_pos c27] at H
                            have c27b0 : decide (x8_5 < 4) = true := decide_eq_true c27
                            clear c27
                            have H' := Aside0.mk H
                            clear H
                            go_wp2
                            go_loopg [9] k5 (fun kq v9 w' => ∃ (x9_6 : Int) (x193000_6 : Int) (x193001_6 : Bool) (x193002_6 : Int), v9 = .int .i64 x9_6 ∧ Aside0 (vidimusref02_Parse.l4 kq a0 x6_4 x8_5 x9_6 = some (r1, r2, r3, r4)) ∧ Aside0 (kq ≤ k5) ∧ Aside0 (w'.heap[gb192]? = some (.cells #[.int .u8 x193000_6, .bool x193001_6, .int .u32 x193002_6] 27 (0, 0))) ∧ Aside0 (Below w.heap.size w w'))
                            case atStart => exact ⟨(0), (x193000_5), (x193001_5), (x193002_5), (by first | rfl | (simp; done) | (simp [*]; done)), H', ⟨Nat.le_refl _⟩, ⟨by (with_reducible repeat (first | refine blk_drewN ?_ _ | refine blk_drew ?_ | refine blk_alloc ?_ _)); exact BK192.out⟩, ⟨by repeat (first | (with_reducible first | exact HB.out | apply below_alloc | apply pw_below_drewN | apply below_drew1 | refine below_set ?_ GE192.out) | exact HB.out)⟩⟩
                            case round =>
                              clear H'
                              try clear c1
                              try clear p1
                              try clear q1
                              try clear hx1
                              try clear c2
                              try clear p2
                              try clear q2
                              try clear hx2
                              try clear c4
                              try clear c4b0
                              try clear c5
                              try clear c5b0
                              try clear p6
                              try clear q6
                              try clear hx6
                              try clear c7
                              try clear c7b0
                              try clear c7b1
                              try clear c9
                              try clear c9b0
                              try clear c10
                              try clear c10b0
                              try clear p11
                              try clear q11
                              try clear hx11
                              try clear c12
                              try clear c12b0
                              try clear c12b1
                              try clear c14
                              try clear c14b0
                              try clear c15
                              try clear c17
                              try clear c17b0
                              try clear c18
                              try clear c18b0
                              try clear c19
                              try clear c19b0
                              try clear p20
                              try clear q20
                              try clear hx20
                              try clear c21
                              try clear c21b0
                              try clear p23
                              try clear q23
                              try clear hx23
                              try clear c24
                              try clear c24b0
                              try clear p26
                              try clear q26
                              try clear hx26
                              try clear c27
                              try clear c27b0
                              try clear hcz16_0
                              try clear hcz16_1
                              try clear hcz16_2
                              try clear hcz22_0
                              try clear hcz22_1
                              try clear hcz22_2
                              try clear hcz25_0
                              try clear hcz25_1
                              try clear hcz25_2
                              try clear hfz16_0
                              try clear hfz16_1
                              try clear hfz16_2
                              try clear hfz22_0
                              try clear hfz22_1
                              try clear hfz22_2
                              try clear hfz25_0
                              try clear hfz25_1
                              try clear hfz25_2
                              try clear p1
                              try clear p11
                              try clear p2
                              try clear p20
                              try clear p23
                              try clear p26
                              try clear p6
                              try clear q1
                              try clear q11
                              try clear q2
                              try clear q20
                              try clear q23
                              try clear q26
                              try clear q6
                              obtain ⟨x9_6, x193000_6, x193001_6, x193002_6, rfl, HA, HK6, BK192, HB⟩ := hrel
                              cases gk with
                              | zero => exact absurd HA.out (by simp [vidimusref02_Parse.l4])
                              | succ k6 =>
                                have H := HA.out
                                clear HA
                                simp only [vidimusref02_Parse.l4] at H
                                by_cases c28 : x9_6 < 2
                                · rw [if_pos c28] at H
                                  have c28b0 : decide (x9_6 < 2) = true := decide_eq_true c28
                                  clear c28
                                  have HC29 := Aside0.mk H
                                  clear H
                                  go_upto_region 23 with (first | ((with_reducible refine gate_dst (N := 10) rfl ?_); (try (refine gate_guard (by rfl) ?_; dsimp only)); refine box_event ?hg (N := 10) ?hd (cs := #[.int .u8 0, .bool false, .int .u32 0]) (t := 27) ?hr ?_; (case hd => rfl); (case hg => rfl); (case hr => first | (go_simp; done) | (go_simp; rfl)); intro gb193 hg w30 hbox hb; have n0_ := Aside0.mk (blk_below (g := gb192) (o := .cells #[.int .u8 x193000_6, .bool x193001_6, .int .u32 x193002_6] 27 (0, 0)) (by (with_reducible repeat (first | refine blk_drewN ?_ _ | refine blk_drew ?_ | refine blk_alloc ?_ _)); exact BK192.out) hb); have n1_ := Aside0.mk (below_step (by repeat (first | (with_reducible first | exact HB.out | apply below_alloc | apply pw_below_drewN | apply below_drew1 | refine below_set ?_ GE192.out) | exact HB.out)) hb); have n2_ := Aside0.mk (hbox); have n3_ := Aside0.mk ((by rw [hg]; exact (below_size (by repeat (first | (with_reducible first | exact HB.out | apply below_alloc | apply pw_below_drewN | apply below_drew1 | refine below_set ?_ GE192.out) | exact HB.out))) : w.heap.size ≤ gb193)); have n4_ := Aside0.mk ((by rw [hg]; exact (below_size (by repeat (first | (with_reducible first | exact HB.out | apply below_alloc | apply pw_below_drewN | apply below_drew1 | refine below_set ?_ GE192.out) | exact HB.out))) : w.heap.size ≤ gb193)); have n5_ := Aside0.mk ((by rw [hg]; exact Nat.ne_of_lt (blk_lt (g := gb192) (o := .cells #[.int .u8 x193000_6, .bool x193001_6, .int .u32 x193002_6] 27 (0, 0)) (by (with_reducible repeat (first | refine blk_drewN ?_ _ | refine blk_drew ?_ | refine blk_alloc ?_ _)); exact BK192.out)) : gb192 ≠ gb193)); have n6_ := Aside0.mk ((by rw [hg]; exact Nat.ne_of_gt (blk_lt (g := gb192) (o := .cells #[.int .u8 x193000_6, .bool x193001_6, .int .u32 x193002_6] 27 (0, 0)) (by (with_reducible repeat (first | refine blk_drewN ?_ _ | refine blk_drew ?_ | refine blk_alloc ?_ _)); exact BK192.out)) : gb193 ≠ gb192)); clear BK192; clear HB; have BK192 := n0_; have HB := n1_; have BK193 := n2_; have GW193 := n3_; have GE193 := n4_; have NB192_193 := n5_; have NB193_192 := n6_; clear n0_ n1_ n2_ n3_ n4_ n5_ n6_; clear hb hbox hg; have hnb31 := NB193_192.out; have hnc31 := NB192_193.out; have hcz32_0 : w30.cell? ⟨gb193, 0, none⟩ = some (.int .u8 0) := (blk_cell BK193.out 0).trans rfl; have hcz32_1 : w30.cell? ⟨gb193, 1, none⟩ = some (.bool false) := (blk_cell BK193.out 1).trans rfl; have hcz32_2 : w30.cell? ⟨gb193, 2, none⟩ = some (.int .u32 0) := (blk_cell BK193.out 2).trans rfl; have hfz32_0 := blk_frozen BK193.out 0; have hfz32_1 := blk_frozen BK193.out 1; have hfz32_2 := blk_frozen BK193.out 2))
                                  (try simp only [Act.put, List.setIfInBounds_toArray, List.set_cons_zero, List.set_cons_succ])
                                  go_cut [97] (fun v97 wc => ∃ (kq : Nat) (x97_28 : Bool), v97 = .bool x97_28 ∧ Aside0 (vidimusref02_Parse.j8 kq a0 x6_4 x8_5 x9_6 x97_28 ((x8_5) % 256) (x9_6 == 1) ((x6_4) % 4294967296) = some (r1, r2, r3, r4)) ∧ Aside0 (kq ≤ k6) ∧ Aside0 (wc.heap[gb192]? = some (.cells #[.int .u8 x193000_6, .bool x193001_6, .int .u32 x193002_6] 27 (0, 0))) ∧ Aside0 (wc.heap[gb193]? = some (.cells #[.int .u8 ((x8_5) % 256), .bool (x9_6 == 1), .int .u32 ((x6_4) % 4294967296)] 27 (0, 0))) ∧ Aside0 (Below w.heap.size w wc))
                                  case first =>
                                    have H := HC29.out
                                    clear HC29
                                    by_cases c33 : x6_4 ≤ 268435455
                                    · rw [if_pos c33] at H
                                      have c33b0 : decide (x6_4 ≤ 268435455) = true := decide_eq_true c33
                                      clear c33
                                      (first | rw [c33b0] | (simp only [i64_w, i32_w]; rw [c33b0]) | skip)
                                      replace H := Option.bind_eq_some_iff.mp H
                                      obtain ⟨t194, A340, H⟩ := H
                                      replace H : (vidimusref02_Parse.j8 k6 a0 x6_4 x8_5 x9_6 (t194.toList == a0.toList) ((x8_5) % 256) (x9_6 == 1) ((x6_4) % 4294967296)) = some (r1, r2, r3, r4) := H
                                      have A34 := Aside0.mk A340
                                      clear A340
                                      have H' := Aside0.mk H
                                      clear H
                                      have hnb35 := NB193_192.out
                                      have hnc35 := NB192_193.out
                                      have hcz36_0 : w30.cell? ⟨gb193, 0, none⟩ = some (.int .u8 0) := (blk_cell BK193.out 0).trans rfl
                                      have hcz36_1 : w30.cell? ⟨gb193, 1, none⟩ = some (.bool false) := (blk_cell BK193.out 1).trans rfl
                                      have hcz36_2 : w30.cell? ⟨gb193, 2, none⟩ = some (.int .u32 0) := (blk_cell BK193.out 2).trans rfl
                                      have hfz36_0 := blk_frozen BK193.out 0
                                      have hfz36_1 := blk_frozen BK193.out 1
                                      have hfz36_2 := blk_frozen BK193.out 2
                                      go_wp2_with (first | (go_at_call 18; (with_reducible refine (vidimusref02_Text.calls k6 ((x8_5) % 256) (x9_6 == 1) ((x6_4) % 4294967296) t194 _ A34.out).mono ?_); rintro e w37 ⟨rfl, hb⟩; have n0_ := Aside0.mk (blk_below (g := gb192) (o := .cells #[.int .u8 x193000_6, .bool x193001_6, .int .u32 x193002_6] 27 (0, 0)) (by (with_reducible repeat (first | refine blk_drewN ?_ _ | refine blk_drew ?_ | refine blk_alloc ?_ _)); refine blk_far ?_ NB192_193.out _; (with_reducible repeat (first | refine blk_drewN ?_ _ | refine blk_drew ?_ | refine blk_alloc ?_ _)); refine blk_far ?_ NB192_193.out _; (with_reducible repeat (first | refine blk_drewN ?_ _ | refine blk_drew ?_ | refine blk_alloc ?_ _)); refine blk_far ?_ NB192_193.out _; (with_reducible repeat (first | refine blk_drewN ?_ _ | refine blk_drew ?_ | refine blk_alloc ?_ _)); exact BK192.out) hb); have n1_ := Aside0.mk (blk_below (g := gb193) (o := .cells #[.int .u8 ((x8_5) % 256), .bool (x9_6 == 1), .int .u32 ((x6_4) % 4294967296)] 27 (0, 0)) (by (with_reducible repeat (first | refine blk_drewN ?_ _ | refine blk_drew ?_ | refine blk_alloc ?_ _)); refine blk_put (cs := #[.int .u8 ((x8_5) % 256), .bool (x9_6 == 1), .int .u32 0]) ?_ 2 _ rfl; (with_reducible repeat (first | refine blk_drewN ?_ _ | refine blk_drew ?_ | refine blk_alloc ?_ _)); refine blk_put (cs := #[.int .u8 ((x8_5) % 256), .bool false, .int .u32 0]) ?_ 1 _ rfl; (with_reducible repeat (first | refine blk_drewN ?_ _ | refine blk_drew ?_ | refine blk_alloc ?_ _)); refine blk_put (cs := #[.int .u8 0, .bool false, .int .u32 0]) ?_ 0 _ rfl; (with_reducible repeat (first | refine blk_drewN ?_ _ | refine blk_drew ?_ | refine blk_alloc ?_ _)); exact BK193.out) hb); have n2_ := Aside0.mk (below_step (by repeat (first | (with_reducible first | exact HB.out | apply below_alloc | apply pw_below_drewN | apply below_drew1 | refine below_set ?_ GE192.out | refine below_set ?_ GE193.out) | exact HB.out)) hb); clear BK192; clear BK193; clear HB; have BK192 := n0_; have BK193 := n1_; have HB := n2_; clear n0_ n1_ n2_; (try clear hb); (try clear hb2); (try clear hk); (try clear hi)))
                                      go_meet
                                      case rel => exact ⟨_, ((t194.toList == a0.toList)), (by first | rfl | (simp; done) | (simp [*]; done)), H', ⟨by have := HJ1.out; have := HJ7.out; have := HJ12.out; have := HK4.out; have := HK5.out; have := HK6.out; first | omega | exact Nat.le_refl _⟩, ⟨by (with_reducible repeat (first | refine blk_drewN ?_ _ | refine blk_drew ?_ | refine blk_alloc ?_ _)); exact BK192.out⟩, ⟨by (with_reducible repeat (first | refine blk_drewN ?_ _ | refine blk_drew ?_ | refine blk_alloc ?_ _)); exact BK193.out⟩, ⟨by repeat (first | (with_reducible first | exact HB.out | apply below_alloc | apply pw_below_drewN | apply below_drew1 | refine below_set ?_ GE192.out | refine below_set ?_ GE193.out) | exact HB.out)⟩⟩
                                    · rw [if_neg c33] at H
                                      have c33b0 : decide (x6_4 ≤ 268435455) = false := decide_eq_false c33
                                      clear c33
                                      (first | rw [c33b0] | (simp only [i64_w, i32_w]; rw [c33b0]) | skip)
                                      have H' := Aside0.mk H
                                      clear H
                                      go_wp2
                                      go_meet
                                      case rel => exact ⟨_, (false), (by first | rfl | (simp; done) | (simp [*]; done)), H', ⟨by have := HJ1.out; have := HJ7.out; have := HJ12.out; have := HK4.out; have := HK5.out; have := HK6.out; first | omega | exact Nat.le_refl _⟩, ⟨by (with_reducible repeat (first | refine blk_drewN ?_ _ | refine blk_drew ?_ | refine blk_alloc ?_ _)); refine blk_far ?_ NB192_193.out _; (with_reducible repeat (first | refine blk_drewN ?_ _ | refine blk_drew ?_ | refine blk_alloc ?_ _)); refine blk_far ?_ NB192_193.out _; (with_reducible repeat (first | refine blk_drewN ?_ _ | refine blk_drew ?_ | refine blk_alloc ?_ _)); refine blk_far ?_ NB192_193.out _; (with_reducible repeat (first | refine blk_drewN ?_ _ | refine blk_drew ?_ | refine blk_alloc ?_ _)); exact BK192.out⟩, ⟨by (with_reducible repeat (first | refine blk_drewN ?_ _ | refine blk_drew ?_ | refine blk_alloc ?_ _)); refine blk_put (cs := #[.int .u8 ((x8_5) % 256), .bool (x9_6 == 1), .int .u32 0]) ?_ 2 _ rfl; (with_reducible repeat (first | refine blk_drewN ?_ _ | refine blk_drew ?_ | refine blk_alloc ?_ _)); refine blk_put (cs := #[.int .u8 ((x8_5) % 256), .bool false, .int .u32 0]) ?_ 1 _ rfl; (with_reducible repeat (first | refine blk_drewN ?_ _ | refine blk_drew ?_ | refine blk_alloc ?_ _)); refine blk_put (cs := #[.int .u8 0, .bool false, .int .u32 0]) ?_ 0 _ rfl; (with_reducible repeat (first | refine blk_drewN ?_ _ | refine blk_drew ?_ | refine blk_alloc ?_ _)); exact BK193.out⟩, ⟨by repeat (first | (with_reducible first | exact HB.out | apply below_alloc | apply pw_below_drewN | apply below_drew1 | refine below_set ?_ GE192.out | refine below_set ?_ GE193.out) | exact HB.out)⟩⟩
                                  case rest =>
                                    clear HC29
                                    try clear c1
                                    try clear p1
                                    try clear q1
                                    try clear hx1
                                    try clear c2
                                    try clear p2
                                    try clear q2
                                    try clear hx2
                                    try clear c3
                                    try clear c4
                                    try clear c4b0
                                    try clear c5
                                    try clear c5b0
                                    try clear p6
                                    try clear q6
                                    try clear hx6
                                    try clear c7
                                    try clear c7b0
                                    try clear c7b1
                                    try clear c9
                                    try clear c9b0
                                    try clear c10
                                    try clear c10b0
                                    try clear p11
                                    try clear q11
                                    try clear hx11
                                    try clear c12
                                    try clear c12b0
                                    try clear c12b1
                                    try clear c14
                                    try clear c14b0
                                    try clear c15
                                    try clear c17
                                    try clear c17b0
                                    try clear c18
                                    try clear c18b0
                                    try clear c19
                                    try clear c19b0
                                    try clear p20
                                    try clear q20
                                    try clear hx20
                                    try clear c21
                                    try clear c21b0
                                    try clear p23
                                    try clear q23
                                    try clear hx23
                                    try clear c24
                                    try clear c24b0
                                    try clear p26
                                    try clear q26
                                    try clear hx26
                                    try clear c27
                                    try clear c27b0
                                    try clear c28
                                    try clear c28b0
                                    try clear c31
                                    try clear c33
                                    try clear c33b0
                                    try clear c35
                                    try clear hcz16_0
                                    try clear hcz16_1
                                    try clear hcz16_2
                                    try clear hcz22_0
                                    try clear hcz22_1
                                    try clear hcz22_2
                                    try clear hcz25_0
                                    try clear hcz25_1
                                    try clear hcz25_2
                                    try clear hcz32_0
                                    try clear hcz32_1
                                    try clear hcz32_2
                                    try clear hcz36_0
                                    try clear hcz36_1
                                    try clear hcz36_2
                                    try clear hfz16_0
                                    try clear hfz16_1
                                    try clear hfz16_2
                                    try clear hfz22_0
                                    try clear hfz22_1
                                    try clear hfz22_2
                                    try clear hfz25_0
                                    try clear hfz25_1
                                    try clear hfz25_2
                                    try clear hfz32_0
                                    try clear hfz32_1
                                    try clear hfz32_2
                                    try clear hfz36_0
                                    try clear hfz36_1
                                    try clear hfz36_2
                                    try clear p1
                                    try clear p11
                                    try clear p2
                                    try clear p20
                                    try clear p23
                                    try clear p26
                                    try clear p6
                                    try clear q1
                                    try clear q11
                                    try clear q2
                                    try clear q20
                                    try clear q23
                                    try clear q26
                                    try clear q6
                                    obtain ⟨kq, x97_28, rfl, HA, HJ28, BK192, BK193, HB⟩ := hcut
                                    cases kq with
                                    | zero => exact absurd HA.out (by simp [vidimusref02_Parse.j8])
                                    | succ kj28 =>
                                      have H := HA.out
                                      clear HA
                                      simp only [vidimusref02_Parse.j8] at H
                                      by_cases c38 : x97_28 = true
                                      · subst c38
                                        have H1 : ((vidimusref02_Check.f kj28 ((x8_5) % 256) (x9_6 == 1) ((x6_4) % 4294967296)).bind fun t195 => (if t195 = 0 then (some (((x8_5) % 256), (x9_6 == 1), ((x6_4) % 4294967296), 0)) else (some (0, false, 0, t195)))) = some (r1, r2, r3, r4) := by rw [if_pos rfl] at H; exact H
                                        clear H
                                        have H := H1
                                        clear H1
                                        replace H := Option.bind_eq_some_iff.mp H
                                        obtain ⟨t195, A390, H⟩ := H
                                        replace H : (if t195 = 0 then (some (((x8_5) % 256), (x9_6 == 1), ((x6_4) % 4294967296), 0)) else (some (0, false, 0, t195))) = some (r1, r2, r3, r4) := H
                                        have A39 := Aside0.mk A390
                                        clear A390
                                        by_cases c40 : t195 = 0
                                        · rw [if_pos c40] at H
                                          have c40b0 : (t195 == 0) = true := beq_iff_eq.mpr c40
                                          have c40b1 : (t195 != 0) = false := bne_eq_false_iff_eq.mpr c40
                                          clear c40
                                          simp only [Option.some.injEq, Prod.mk.injEq] at H
                                          obtain ⟨rfl, rfl, rfl, rfl⟩ := H
                                          have hnb41 := NB193_192.out
                                          have hnc41 := NB192_193.out
                                          have hcz42_0 : wc.cell? ⟨gb193, 0, none⟩ = some (.int .u8 ((x8_5) % 256)) := (blk_cell BK193.out 0).trans rfl
                                          have hcz42_1 : wc.cell? ⟨gb193, 1, none⟩ = some (.bool (x9_6 == 1)) := (blk_cell BK193.out 1).trans rfl
                                          have hcz42_2 : wc.cell? ⟨gb193, 2, none⟩ = some (.int .u32 ((x6_4) % 4294967296)) := (blk_cell BK193.out 2).trans rfl
                                          have hfz42_0 := blk_frozen BK193.out 0
                                          have hfz42_1 := blk_frozen BK193.out 1
                                          have hfz42_2 := blk_frozen BK193.out 2
                                          go_wp2_with (first | ((with_reducible refine gate_callee (f := 20) rfl ?_); refine goesL_ (some 99) rfl rfl Tryd.func20 (by kernel_rfl) rfl #[.agg #[.int .u8 ((x8_5) % 256), .bool (x9_6 == 1), .int .u32 ((x6_4) % 4294967296)]] rfl (by (try simp only [List.map_toArray, List.map_cons, List.map_nil]); first | done | rfl | (simp only [List.length_drop, List.length_take]; rfl)) ?_; (with_reducible refine (vidimusref02_Check.calls kj28 ((x8_5) % 256) (x9_6 == 1) ((x6_4) % 4294967296) t195 _ A39.out).mono ?_); rintro e w43 ⟨rfl, hb⟩; refine ⟨_, rfl, ?_⟩; have n0_ := Aside0.mk (blk_below (g := gb192) (o := .cells #[.int .u8 x193000_6, .bool x193001_6, .int .u32 x193002_6] 27 (0, 0)) (by (with_reducible repeat (first | refine blk_drewN ?_ _ | refine blk_drew ?_ | refine blk_alloc ?_ _)); exact BK192.out) hb); have n1_ := Aside0.mk (blk_below (g := gb193) (o := .cells #[.int .u8 ((x8_5) % 256), .bool (x9_6 == 1), .int .u32 ((x6_4) % 4294967296)] 27 (0, 0)) (by (with_reducible repeat (first | refine blk_drewN ?_ _ | refine blk_drew ?_ | refine blk_alloc ?_ _)); exact BK193.out) hb); have n2_ := Aside0.mk (below_step (by repeat (first | (with_reducible first | exact HB.out | apply below_alloc | apply pw_below_drewN | apply below_drew1 | refine below_set ?_ GE192.out | refine below_set ?_ GE193.out) | exact HB.out)) hb); clear BK192; clear BK193; clear HB; have BK192 := n0_; have BK193 := n1_; have HB := n2_; clear n0_ n1_ n2_; (try clear hb); (try clear hb2); (try clear hk); (try clear hi); have hcz44_0 : w43.cell? ⟨gb193, 0, none⟩ = some (.int .u8 ((x8_5) % 256)) := (blk_cell BK193.out 0).trans rfl; have hcz44_1 : w43.cell? ⟨gb193, 1, none⟩ = some (.bool (x9_6 == 1)) := (blk_cell BK193.out 1).trans rfl; have hcz44_2 : w43.cell? ⟨gb193, 2, none⟩ = some (.int .u32 ((x6_4) % 4294967296)) := (blk_cell BK193.out 2).trans rfl; have hfz44_0 := blk_frozen BK193.out 0; have hfz44_1 := blk_frozen BK193.out 1; have hfz44_2 := blk_frozen BK193.out 2; have hcz45_0 : w43.cell? ⟨gb192, 0, none⟩ = some (.int .u8 x193000_6) := (blk_cell BK192.out 0).trans rfl; have hcz45_1 : w43.cell? ⟨gb192, 1, none⟩ = some (.bool x193001_6) := (blk_cell BK192.out 1).trans rfl; have hcz45_2 : w43.cell? ⟨gb192, 2, none⟩ = some (.int .u32 x193002_6) := (blk_cell BK192.out 2).trans rfl; have hfz45_0 := blk_frozen BK192.out 0; have hfz45_1 := blk_frozen BK192.out 1; have hfz45_2 := blk_frozen BK192.out 2))
                                          refine bodyPost_ret (results_ct rfl _ _ gb192 27 #[.int .u8 ((x8_5) % 256), .bool (x9_6 == 1), .int .u32 ((x6_4) % 4294967296)] (0, 0) _ rfl (by (with_reducible repeat (first | refine blk_drewN ?_ _ | refine blk_drew ?_ | refine blk_alloc ?_ _)); refine blk_put (cs := #[.int .u8 ((x8_5) % 256), .bool (x9_6 == 1), .int .u32 x193002_6]) ?_ 2 _ rfl; (with_reducible repeat (first | refine blk_drewN ?_ _ | refine blk_drew ?_ | refine blk_alloc ?_ _)); refine blk_put (cs := #[.int .u8 ((x8_5) % 256), .bool x193001_6, .int .u32 x193002_6]) ?_ 1 _ rfl; (with_reducible repeat (first | refine blk_drewN ?_ _ | refine blk_drew ?_ | refine blk_alloc ?_ _)); refine blk_put (cs := #[.int .u8 x193000_6, .bool x193001_6, .int .u32 x193002_6]) ?_ 0 _ rfl; (with_reducible repeat (first | refine blk_drewN ?_ _ | refine blk_drew ?_ | refine blk_alloc ?_ _)); exact BK192.out) Tryd.underlying27 rfl (by kernel_rfl)) rfl ?_
                                          exact ⟨by first | rfl | (simp [errW_none, errW_some] <;> rfl) | (simp [*, errW_none, errW_some] <;> rfl), by repeat (first | (with_reducible first | exact HB.out | apply below_alloc | apply pw_below_drewN | apply below_drew1 | refine below_set ?_ GE192.out | refine below_set ?_ GE193.out) | exact HB.out)⟩
                                        · rw [if_neg c40] at H
                                          have c40b0 : (t195 == 0) = false := beq_eq_false_iff_ne.mpr c40
                                          have c40b1 : (t195 != 0) = true := bne_iff_ne.mpr c40
                                          simp only [Option.some.injEq, Prod.mk.injEq] at H
                                          obtain ⟨rfl, rfl, rfl, rfl⟩ := H
                                          have hnb46 := NB193_192.out
                                          have hnc46 := NB192_193.out
                                          have hcz47_0 : wc.cell? ⟨gb193, 0, none⟩ = some (.int .u8 ((x8_5) % 256)) := (blk_cell BK193.out 0).trans rfl
                                          have hcz47_1 : wc.cell? ⟨gb193, 1, none⟩ = some (.bool (x9_6 == 1)) := (blk_cell BK193.out 1).trans rfl
                                          have hcz47_2 : wc.cell? ⟨gb193, 2, none⟩ = some (.int .u32 ((x6_4) % 4294967296)) := (blk_cell BK193.out 2).trans rfl
                                          have hfz47_0 := blk_frozen BK193.out 0
                                          have hfz47_1 := blk_frozen BK193.out 1
                                          have hfz47_2 := blk_frozen BK193.out 2
                                          go_wp2_with (first | ((with_reducible refine gate_callee (f := 20) rfl ?_); refine goesL_ (some 99) rfl rfl Tryd.func20 (by kernel_rfl) rfl #[.agg #[.int .u8 ((x8_5) % 256), .bool (x9_6 == 1), .int .u32 ((x6_4) % 4294967296)]] rfl (by (try simp only [List.map_toArray, List.map_cons, List.map_nil]); first | done | rfl | (simp only [List.length_drop, List.length_take]; rfl)) ?_; (with_reducible refine (vidimusref02_Check.calls kj28 ((x8_5) % 256) (x9_6 == 1) ((x6_4) % 4294967296) t195 _ A39.out).mono ?_); rintro e w48 ⟨rfl, hb⟩; refine ⟨_, rfl, ?_⟩; have n0_ := Aside0.mk (blk_below (g := gb192) (o := .cells #[.int .u8 x193000_6, .bool x193001_6, .int .u32 x193002_6] 27 (0, 0)) (by (with_reducible repeat (first | refine blk_drewN ?_ _ | refine blk_drew ?_ | refine blk_alloc ?_ _)); exact BK192.out) hb); have n1_ := Aside0.mk (blk_below (g := gb193) (o := .cells #[.int .u8 ((x8_5) % 256), .bool (x9_6 == 1), .int .u32 ((x6_4) % 4294967296)] 27 (0, 0)) (by (with_reducible repeat (first | refine blk_drewN ?_ _ | refine blk_drew ?_ | refine blk_alloc ?_ _)); exact BK193.out) hb); have n2_ := Aside0.mk (below_step (by repeat (first | (with_reducible first | exact HB.out | apply below_alloc | apply pw_below_drewN | apply below_drew1 | refine below_set ?_ GE192.out | refine below_set ?_ GE193.out) | exact HB.out)) hb); clear BK192; clear BK193; clear HB; have BK192 := n0_; have BK193 := n1_; have HB := n2_; clear n0_ n1_ n2_; (try clear hb); (try clear hb2); (try clear hk); (try clear hi); have hcz49_0 : w48.cell? ⟨gb192, 0, none⟩ = some (.int .u8 x193000_6) := (blk_cell BK192.out 0).trans rfl; have hcz49_1 : w48.cell? ⟨gb192, 1, none⟩ = some (.bool x193001_6) := (blk_cell BK192.out 1).trans rfl; have hcz49_2 : w48.cell? ⟨gb192, 2, none⟩ = some (.int .u32 x193002_6) := (blk_cell BK192.out 2).trans rfl; have hfz49_0 := blk_frozen BK192.out 0; have hfz49_1 := blk_frozen BK192.out 1; have hfz49_2 := blk_frozen BK192.out 2))
                                          refine bodyPost_ret (results_ct rfl _ _ gb192 27 #[.int .u8 0, .bool false, .int .u32 0] (0, 0) _ rfl (by (with_reducible repeat (first | refine blk_drewN ?_ _ | refine blk_drew ?_ | refine blk_alloc ?_ _)); refine blk_put (cs := #[.int .u8 0, .bool false, .int .u32 x193002_6]) ?_ 2 _ rfl; (with_reducible repeat (first | refine blk_drewN ?_ _ | refine blk_drew ?_ | refine blk_alloc ?_ _)); refine blk_put (cs := #[.int .u8 0, .bool x193001_6, .int .u32 x193002_6]) ?_ 1 _ rfl; (with_reducible repeat (first | refine blk_drewN ?_ _ | refine blk_drew ?_ | refine blk_alloc ?_ _)); refine blk_put (cs := #[.int .u8 x193000_6, .bool x193001_6, .int .u32 x193002_6]) ?_ 0 _ rfl; (with_reducible repeat (first | refine blk_drewN ?_ _ | refine blk_drew ?_ | refine blk_alloc ?_ _)); exact BK192.out) Tryd.underlying27 rfl (by kernel_rfl)) rfl ?_
                                          exact ⟨by first | rfl | (simp [errW_none, errW_some] <;> rfl) | (simp [*, errW_none, errW_some] <;> rfl), by repeat (first | (with_reducible first | exact HB.out | apply below_alloc | apply pw_below_drewN | apply below_drew1 | refine below_set ?_ GE192.out | refine below_set ?_ GE193.out) | exact HB.out)⟩
                                      · replace c38 := Bool.eq_false_iff.mpr c38
                                        subst c38
                                        have H1 : (vidimusref02_Parse.l4 kj28 a0 x6_4 x8_5 (wrap64 (x9_6 + 1))) = some (r1, r2, r3, r4) := by rw [if_neg (show ¬ (false = true) by decide)] at H; exact H
                                        clear H
                                        have H := H1
                                        clear H1
                                        have H' := Aside0.mk H
                                        clear H
                                        go_wp2
                                        go_roundg kj28
                                        case measure => have := HJ1.out; have := HJ7.out; have := HJ12.out; have := HK4.out; have := HK5.out; have := HK6.out; have := HJ28.out; omega
                                        case rel => exact ⟨(wrap64 (x9_6 + 1)), (x193000_6), (x193001_6), (x193002_6), (by first | rfl | (simp; done) | (simp [*]; done)), H', ⟨by have := HJ1.out; have := HJ7.out; have := HJ12.out; have := HK4.out; have := HK5.out; have := HK6.out; have := HJ28.out; omega⟩, ⟨by (with_reducible repeat (first | refine blk_drewN ?_ _ | refine blk_drew ?_ | refine blk_alloc ?_ _)); exact BK192.out⟩, ⟨by repeat (first | (with_reducible first | exact HB.out | apply below_alloc | apply pw_below_drewN | apply below_drew1 | refine below_set ?_ GE192.out | refine below_set ?_ GE193.out) | exact HB.out)⟩⟩
                                · rw [if_neg c28] at H
                                  have c28b0 : decide (x9_6 < 2) = false := decide_eq_false c28
                                  clear c28
                                  have H' := Aside0.mk H
                                  clear H
                                  go_wp2
                                  go_roundg k6
                                  case measure => have := HJ1.out; have := HJ7.out; have := HJ12.out; have := HK4.out; have := HK5.out; have := HK6.out; omega
                                  case rel => exact ⟨(wrap64 (x8_5 + 1)), (x193000_6), (x193001_6), (x193002_6), (by first | rfl | (simp; done) | (simp [*]; done)), H', ⟨by have := HJ1.out; have := HJ7.out; have := HJ12.out; have := HK4.out; have := HK5.out; have := HK6.out; omega⟩, ⟨by (with_reducible repeat (first | refine blk_drewN ?_ _ | refine blk_drew ?_ | refine blk_alloc ?_ _)); exact BK192.out⟩, ⟨by repeat (first | (with_reducible first | exact HB.out | apply below_alloc | apply pw_below_drewN | apply below_drew1 | refine below_set ?_ GE192.out) | exact HB.out)⟩⟩
                          · rw [if_neg c27] at H
                            have c27b0 : decide (x8_5 < 4) = false := decide_eq_false c27
                            clear c27
                            simp only [Option.some.injEq, Prod.mk.injEq] at H
                            obtain ⟨rfl, rfl, rfl, rfl⟩ := H
                            have hcz50_0 : wr.cell? ⟨gb192, 0, none⟩ = some (.int .u8 x193000_5) := (blk_cell BK192.out 0).trans rfl
                            have hcz50_1 : wr.cell? ⟨gb192, 1, none⟩ = some (.bool x193001_5) := (blk_cell BK192.out 1).trans rfl
                            have hcz50_2 : wr.cell? ⟨gb192, 2, none⟩ = some (.int .u32 x193002_5) := (blk_cell BK192.out 2).trans rfl
                            have hfz50_0 := blk_frozen BK192.out 0
                            have hfz50_1 := blk_frozen BK192.out 1
                            have hfz50_2 := blk_frozen BK192.out 2
                            go_wp2
                            refine bodyPost_ret (results_ct rfl _ _ gb192 27 #[.int .u8 0, .bool false, .int .u32 0] (0, 0) _ rfl (by (with_reducible repeat (first | refine blk_drewN ?_ _ | refine blk_drew ?_ | refine blk_alloc ?_ _)); refine blk_put (cs := #[.int .u8 0, .bool false, .int .u32 x193002_5]) ?_ 2 _ rfl; (with_reducible repeat (first | refine blk_drewN ?_ _ | refine blk_drew ?_ | refine blk_alloc ?_ _)); refine blk_put (cs := #[.int .u8 0, .bool x193001_5, .int .u32 x193002_5]) ?_ 1 _ rfl; (with_reducible repeat (first | refine blk_drewN ?_ _ | refine blk_drew ?_ | refine blk_alloc ?_ _)); refine blk_put (cs := #[.int .u8 x193000_5, .bool x193001_5, .int .u32 x193002_5]) ?_ 0 _ rfl; (with_reducible repeat (first | refine blk_drewN ?_ _ | refine blk_drew ?_ | refine blk_alloc ?_ _)); exact BK192.out) Tryd.underlying27 rfl (by kernel_rfl)) rfl ?_
                            exact ⟨by first | rfl | (simp [errW_none, errW_some] <;> rfl) | (simp [*, errW_none, errW_some] <;> rfl), by repeat (first | (with_reducible first | exact HB.out | apply below_alloc | apply pw_below_drewN | apply below_drew1 | refine below_set ?_ GE192.out) | exact HB.out)⟩

end Go.Proofs.YtpdomckacfeffaaDoor.Pr
