/- Chapters 6, 7 (oids, oidsets): the groups of a subidentifier. -/
import Derived.RangeFuncNested
import Derived.RangeFuncBound
import Derived.RangeFuncCalls
import Derived.RangeFuncLeaves
import Derived.RangeFuncWrites
import Derived.RangeFuncBox
import Derived.Maps.AppendAt
import Derived.Shelf.Abstract
import Derived.Shelf.RegionOpen
import Derived.WalkKit
import Derived.OwnWalkIn
import Derived.TacticsInMore
import Derived.LoopNIn
import Derived.LoopIn
import Derived.Lib.Hide
import Derived.Test.YtacpcagijfacnaaDoorWa
namespace Go.Proofs.YtacpcagijfacnaaDoor
open Go.RowKit Go.Shelf
attribute [local go_sem] Oper.semAt_some
set_option linter.unusedSimpArgs false
set_option linter.unusedVariables false

/-- One cell reads as it did. -/
def KeepC (B : Nat) (A C : World) : Prop := ∀ u, A.cell? ⟨B, 0, none⟩ = some u → C.cell? ⟨B, 0, none⟩ = some u
theorem keepC_t {N : Nat} {A B C : World} (h : KeepC N A B) (k : KeepC N B C) : KeepC N A C := fun u hu => k u (h u hu)
theorem keepC_b {N : Nat} {w : World} : ∀ (W : World) (l : Nat) (o o' : Obj), w.heap.size ≤ l → W.heap[l]? = some o → o.isCells = false → o.isWalk = false → KeepC N W (W.putObj l o') := by
  intro W l o o' _ hl hc _ u hu
  exact cell_kept hu (grownBy_putObj' W l o') (fun r e => by cases e; exact ⟨_, hl, hc⟩)

def gl (n : Int) : List Int :=
  if n < 128 then [n] else if n < 16384 then [128 + n / 128, n % 128] else if n < 2097152 then [128 + n / 16384, 128 + n / 128 % 128, n % 128] else if n < 268435456 then [128 + n / 2097152, 128 + n / 16384 % 128, 128 + n / 128 % 128, n % 128]
  else [128 + n / 268435456, 128 + n / 2097152 % 128, 128 + n / 16384 % 128, 128 + n / 128 % 128, n % 128]
theorem gl_len (n : Int) : 1 ≤ (gl n).length ∧ (gl n).length ≤ 5 := by
  unfold gl
  repeat' split
  all_goals exact ⟨by simp, by simp⟩
theorem and127n : ∀ v : Fin 256, bits .and .u8 ((v.val : Nat) : Int) 127 = ((v.val % 128 : Nat) : Int) := by decide +kernel
theorem or128n : ∀ v : Fin 256, bits .or .u8 ((v.val : Nat) : Int) 128 = ((v.val % 128 + 128 : Nat) : Int) := by decide +kernel
theorem and127 (v : Int) (h0 : 0 ≤ v) (h1 : v < 256) : bits .and .u8 v 127 = v % 128 := by
  have := and127n ⟨v.toNat, by omega⟩
  simp only at this
  rw [show ((v.toNat : Nat) : Int) = v by omega] at this
  rw [this]; omega
theorem or128 (v : Int) (h0 : 0 ≤ v) (h1 : v < 256) : bits .or .u8 v 128 = v % 128 + 128 := by
  have := or128n ⟨v.toNat, by omega⟩
  simp only at this
  rw [show ((v.toNat : Nat) : Int) = v by omega] at this
  rw [this]; omega
set_option maxHeartbeats 1000000 in
theorem groups_in (F : Fence) (n : Nat) (hg : F.fn 28) (hro : F.round = none) (m : Int) (w : World) :
    CallsIn F n Tryd.prog 28 #[.int .u32 m] w fun e w' => e = .returned (.func (.func 36) #[] #[.pointer (some ⟨w.heap.size, 0, none⟩)]) ∧ w' = w.alloc (.cells #[.int .u32 m] 24) := by
  refine callsIn_of_wp Tryd.func28 rfl hg ?_ hro
  simp only [Tryd.ntmps28, List.size_toArray, List.length_cons, List.length_nil, Nat.reduceAdd, Nat.reduceSub, Array.replicate_succ, Array.replicate_zero, List.push_toArray, List.append_toArray, List.nil_append, List.cons_append]
  gi_wp2
  go_ret
  exact ⟨rfl, rfl⟩
theorem gl_0 (m : Int) (h0 : 0 ≤ m) (h3 : m < 128) : gl m = [bits .and .u8 (m) 127] := by
  unfold gl
  rw [if_pos (by omega)]
  rw [and127 (m) (by omega) (by omega)]
  refine (List.cons.injEq _ _ _ _).mpr ⟨by omega, rfl⟩
set_option maxHeartbeats 4000000 in
theorem groups1_0 (F : Fence) (n : Nat) (hg1 : F.fn 36) (hro : F.round = none) (hn : 1 ≤ n) (l Bn : Nat) (m : Int) (h0 : 0 ≤ m) (h3 : m < 128) (J Jx : List Int → World → Prop)
    (hY : ∀ pre x W, J pre W → pre.length < (gl m).length → YieldAt F (n - 1) Tryd.prog l #[.int .u8 x] W fun e W' =>
      (e = .returned (.bool true) ∧ J (pre ++ [x]) W' ∧ KeepC Bn W W') ∨ (e = .returned (.bool false) ∧ Jx (pre ++ [x]) W'))
    (W : World) (hBn : W.cell? ⟨Bn, 0, none⟩ = some (.int .u32 m)) (h0' : J [] W) :
    CallsIn F n Tryd.prog 36 #[.func (.yield l) #[] #[], .pointer (some ⟨Bn, 0, none⟩)] W fun e W' => (∃ v, e = .returned v) ∧
      ((∃ ys, ys = gl m ∧ J ys W') ∨ (∃ pre, pre <+: gl m ∧ Jx pre W')) := by
  have hg := Lib.hid (gl_0 m h0 h3)
  have hlen : (gl m).length = 1 := by rw [hg.out]; rfl
  have HLEN := Lib.hid hlen
  clear hlen
  have HY := Lib.hid hY
  clear hY
  refine callsIn_of_wp Tryd.func36 rfl hg1 ?_ hro
  simp only [Tryd.ntmps36, List.size_toArray, List.length_cons, List.length_nil, Nat.reduceAdd, Nat.reduceSub, Array.replicate_succ, Array.replicate_zero, List.push_toArray, List.append_toArray, List.nil_append, List.cons_append]
  gi_wp2
  gi_loopw [3] (fun p wr => ∃ k : Nat, k ≤ 4 ∧ p = .int .i64 (28 - 7 * k : Int) ∧ wr = W) (fun p _ => (intOf p).toNat)
  case atStart => exact ⟨0, by omega, rfl, rfl⟩
  case round =>
    obtain ⟨k, hk, rfl, rfl⟩ := hrel
    rcases (show k = 0 ∨ k = 1 ∨ k = 2 ∨ k = 3 ∨ k = 4 by omega) with rfl | rfl | rfl | rfl | rfl
    · have g1 : m / 268435456 = 0 := by omega
      gi_wp2
      go_roundw
      case rel => first | exact ⟨1, by omega, rfl, rfl⟩ | exact ⟨1, by omega, rfl, trivial⟩
      case measure => simp [intOf]
    · have g1 : m / 2097152 = 0 := by omega
      gi_wp2
      go_roundw
      case rel => first | exact ⟨2, by omega, rfl, rfl⟩ | exact ⟨2, by omega, rfl, trivial⟩
      case measure => simp [intOf]
    · have g1 : m / 16384 = 0 := by omega
      gi_wp2
      go_roundw
      case rel => first | exact ⟨3, by omega, rfl, rfl⟩ | exact ⟨3, by omega, rfl, trivial⟩
      case measure => simp [intOf]
    · have g1 : m / 128 = 0 := by omega
      gi_wp2
      go_roundw
      case rel => first | exact ⟨4, by omega, rfl, rfl⟩ | exact ⟨4, by omega, rfl, trivial⟩
      case measure => simp [intOf]
    · gi_wp2
      gi_loopw [3] (fun p wr => ∃ j : Nat, j ≤ 0 ∧ p = .int .i64 (0 - 7 * j : Int) ∧ Hid (J ((gl m).take j) wr) ∧ wr.cell? ⟨Bn, 0, none⟩ = some (.int .u32 m)) (fun p _ => (intOf p).toNat)
      case atStart => exact ⟨0, by omega, rfl, Lib.hid h0', hBn⟩
      case round =>
        obtain ⟨j, hj, rfl, hJ, hc⟩ := hrel
        obtain rfl : j = 0 := by omega
        obtain ⟨fn, tmps, assign, body, hy, hR⟩ := HY.out ((gl m).take 0) (bits .and .u8 (m) 127) wr hJ.out (by rw [List.length_take, HLEN.out]; omega)
        have HR := Lib.hid hR
        clear hR
        gi_wp2
        refine HR.out.mono ?_
        rintro e W3 (⟨rfl, hJ3, hk3⟩ | ⟨rfl, hJx3⟩)
        · have hc3 : W3.cell? ⟨Bn, 0, none⟩ = some (.int .u32 m) := hk3 _ hc
          have HE : (gl m).take 1 = (gl m).take 0 ++ [bits .and .u8 (m) 127] := by rw [hg.out]; rfl
          have HJ3 := Lib.hid (HE ▸ hJ3 : J ((gl m).take 1) W3)
          clear HE
          clear hJ3 hk3
          gi_wp2
          go_end0
          exact ⟨⟨_, rfl⟩, .inl ⟨(gl m).take 1, by rw [hg.out]; rfl, HJ3.out⟩⟩
        · gi_wp2
          go_end0
          exact ⟨⟨_, rfl⟩, .inr ⟨(gl m).take 0 ++ [bits .and .u8 (m) 127], by rw [hg.out]; exact ⟨[], rfl⟩, hJx3⟩⟩
theorem gl_1 (m : Int) (h0 : 0 ≤ m) (h2 : 128 ≤ m) (h3 : m < 16384) : gl m = [bits .or .u8 (m / 128) 128, bits .and .u8 (m % 256) 127] := by
  unfold gl
  rw [if_neg (by omega), if_pos (by omega)]
  rw [or128 (m / 128) (by omega) (by omega)]
  rw [and127 (m % 256) (by omega) (by omega)]
  refine (List.cons.injEq _ _ _ _).mpr ⟨by omega, ?_⟩
  refine (List.cons.injEq _ _ _ _).mpr ⟨by omega, rfl⟩
set_option maxHeartbeats 4000000 in
theorem groups1_1 (F : Fence) (n : Nat) (hg1 : F.fn 36) (hro : F.round = none) (hn : 1 ≤ n) (l Bn : Nat) (m : Int) (h0 : 0 ≤ m) (h2 : 128 ≤ m) (h3 : m < 16384) (J Jx : List Int → World → Prop)
    (hY : ∀ pre x W, J pre W → pre.length < (gl m).length → YieldAt F (n - 1) Tryd.prog l #[.int .u8 x] W fun e W' =>
      (e = .returned (.bool true) ∧ J (pre ++ [x]) W' ∧ KeepC Bn W W') ∨ (e = .returned (.bool false) ∧ Jx (pre ++ [x]) W'))
    (W : World) (hBn : W.cell? ⟨Bn, 0, none⟩ = some (.int .u32 m)) (h0' : J [] W) :
    CallsIn F n Tryd.prog 36 #[.func (.yield l) #[] #[], .pointer (some ⟨Bn, 0, none⟩)] W fun e W' => (∃ v, e = .returned v) ∧
      ((∃ ys, ys = gl m ∧ J ys W') ∨ (∃ pre, pre <+: gl m ∧ Jx pre W')) := by
  have hg := Lib.hid (gl_1 m h0 h2 h3)
  have hlen : (gl m).length = 2 := by rw [hg.out]; rfl
  have HLEN := Lib.hid hlen
  clear hlen
  have HY := Lib.hid hY
  clear hY
  refine callsIn_of_wp Tryd.func36 rfl hg1 ?_ hro
  simp only [Tryd.ntmps36, List.size_toArray, List.length_cons, List.length_nil, Nat.reduceAdd, Nat.reduceSub, Array.replicate_succ, Array.replicate_zero, List.push_toArray, List.append_toArray, List.nil_append, List.cons_append]
  gi_wp2
  gi_loopw [3] (fun p wr => ∃ k : Nat, k ≤ 3 ∧ p = .int .i64 (28 - 7 * k : Int) ∧ wr = W) (fun p _ => (intOf p).toNat)
  case atStart => exact ⟨0, by omega, rfl, rfl⟩
  case round =>
    obtain ⟨k, hk, rfl, rfl⟩ := hrel
    rcases (show k = 0 ∨ k = 1 ∨ k = 2 ∨ k = 3 by omega) with rfl | rfl | rfl | rfl
    · have g1 : m / 268435456 = 0 := by omega
      gi_wp2
      go_roundw
      case rel => first | exact ⟨1, by omega, rfl, rfl⟩ | exact ⟨1, by omega, rfl, trivial⟩
      case measure => simp [intOf]
    · have g1 : m / 2097152 = 0 := by omega
      gi_wp2
      go_roundw
      case rel => first | exact ⟨2, by omega, rfl, rfl⟩ | exact ⟨2, by omega, rfl, trivial⟩
      case measure => simp [intOf]
    · have g1 : m / 16384 = 0 := by omega
      gi_wp2
      go_roundw
      case rel => first | exact ⟨3, by omega, rfl, rfl⟩ | exact ⟨3, by omega, rfl, trivial⟩
      case measure => simp [intOf]
    · have g1 : ¬ m / 128 = 0 := by omega
      gi_wp2
      rw [show (m / 128 == 0) = false from beq_eq_false_iff_ne.mpr (by omega)]
      try rw [show ((28 : Int) - 7 * ((3 : Nat) : Int)) = 7 from rfl]
      gi_loopw [3] (fun p wr => ∃ j : Nat, j ≤ 1 ∧ p = .int .i64 (7 - 7 * j : Int) ∧ Hid (J ((gl m).take j) wr) ∧ wr.cell? ⟨Bn, 0, none⟩ = some (.int .u32 m)) (fun p _ => (intOf p).toNat)
      case atStart => exact ⟨0, by omega, rfl, Lib.hid h0', hBn⟩
      case round =>
        obtain ⟨j, hj, rfl, hJ, hc⟩ := hrel
        rcases (show j = 0 ∨ j = 1 by omega) with rfl | rfl
        · obtain ⟨fn, tmps, assign, body, hy, hR⟩ := HY.out ((gl m).take 0) (bits .or .u8 (m / 128) 128) wr hJ.out (by rw [List.length_take, HLEN.out]; omega)
          have HR := Lib.hid hR
          clear hR
          gi_wp2
          refine HR.out.mono ?_
          rintro e W3 (⟨rfl, hJ3, hk3⟩ | ⟨rfl, hJx3⟩)
          · have hc3 : W3.cell? ⟨Bn, 0, none⟩ = some (.int .u32 m) := hk3 _ hc
            have HE : (gl m).take 1 = (gl m).take 0 ++ [bits .or .u8 (m / 128) 128] := by rw [hg.out]; rfl
            have HJ3 := Lib.hid (HE ▸ hJ3 : J ((gl m).take 1) W3)
            clear HE
            clear hJ3 hk3
            gi_wp2
            go_roundw
            case rel => exact ⟨1, by omega, rfl, HJ3, hc3⟩
            case measure => simp [intOf]
          · gi_wp2
            refine bodyPost_ret (results_none rfl _ _ _) rfl ?_
            exact ⟨⟨_, rfl⟩, .inr ⟨(gl m).take 0 ++ [bits .or .u8 (m / 128) 128], by rw [hg.out]; exact ⟨[bits .and .u8 (m % 256) 127], rfl⟩, hJx3⟩⟩
        · obtain ⟨fn, tmps, assign, body, hy, hR⟩ := HY.out ((gl m).take 1) (bits .and .u8 (m % 256) 127) wr hJ.out (by rw [List.length_take, HLEN.out]; omega)
          have HR := Lib.hid hR
          clear hR
          gi_wp2
          refine HR.out.mono ?_
          rintro e W3 (⟨rfl, hJ3, hk3⟩ | ⟨rfl, hJx3⟩)
          · have hc3 : W3.cell? ⟨Bn, 0, none⟩ = some (.int .u32 m) := hk3 _ hc
            have HE : (gl m).take 2 = (gl m).take 1 ++ [bits .and .u8 (m % 256) 127] := by rw [hg.out]; rfl
            have HJ3 := Lib.hid (HE ▸ hJ3 : J ((gl m).take 2) W3)
            clear HE
            clear hJ3 hk3
            gi_wp2
            go_end0
            exact ⟨⟨_, rfl⟩, .inl ⟨(gl m).take 2, by rw [hg.out]; rfl, HJ3.out⟩⟩
          · gi_wp2
            go_end0
            exact ⟨⟨_, rfl⟩, .inr ⟨(gl m).take 1 ++ [bits .and .u8 (m % 256) 127], by rw [hg.out]; exact ⟨[], rfl⟩, hJx3⟩⟩
theorem gl_2 (m : Int) (h0 : 0 ≤ m) (h2 : 16384 ≤ m) (h3 : m < 2097152) : gl m = [bits .or .u8 (m / 16384) 128, bits .or .u8 ((m / 128) % 256) 128, bits .and .u8 (m % 256) 127] := by
  unfold gl
  rw [if_neg (by omega), if_neg (by omega), if_pos (by omega)]
  rw [or128 (m / 16384) (by omega) (by omega)]
  rw [or128 ((m / 128) % 256) (by omega) (by omega)]
  rw [and127 (m % 256) (by omega) (by omega)]
  refine (List.cons.injEq _ _ _ _).mpr ⟨by omega, ?_⟩
  refine (List.cons.injEq _ _ _ _).mpr ⟨by omega, ?_⟩
  refine (List.cons.injEq _ _ _ _).mpr ⟨by omega, rfl⟩
set_option maxHeartbeats 4000000 in
theorem groups1_2 (F : Fence) (n : Nat) (hg1 : F.fn 36) (hro : F.round = none) (hn : 1 ≤ n) (l Bn : Nat) (m : Int) (h0 : 0 ≤ m) (h2 : 16384 ≤ m) (h3 : m < 2097152) (J Jx : List Int → World → Prop)
    (hY : ∀ pre x W, J pre W → pre.length < (gl m).length → YieldAt F (n - 1) Tryd.prog l #[.int .u8 x] W fun e W' =>
      (e = .returned (.bool true) ∧ J (pre ++ [x]) W' ∧ KeepC Bn W W') ∨ (e = .returned (.bool false) ∧ Jx (pre ++ [x]) W'))
    (W : World) (hBn : W.cell? ⟨Bn, 0, none⟩ = some (.int .u32 m)) (h0' : J [] W) :
    CallsIn F n Tryd.prog 36 #[.func (.yield l) #[] #[], .pointer (some ⟨Bn, 0, none⟩)] W fun e W' => (∃ v, e = .returned v) ∧
      ((∃ ys, ys = gl m ∧ J ys W') ∨ (∃ pre, pre <+: gl m ∧ Jx pre W')) := by
  have hg := Lib.hid (gl_2 m h0 h2 h3)
  have hlen : (gl m).length = 3 := by rw [hg.out]; rfl
  have HLEN := Lib.hid hlen
  clear hlen
  have HY := Lib.hid hY
  clear hY
  refine callsIn_of_wp Tryd.func36 rfl hg1 ?_ hro
  simp only [Tryd.ntmps36, List.size_toArray, List.length_cons, List.length_nil, Nat.reduceAdd, Nat.reduceSub, Array.replicate_succ, Array.replicate_zero, List.push_toArray, List.append_toArray, List.nil_append, List.cons_append]
  gi_wp2
  gi_loopw [3] (fun p wr => ∃ k : Nat, k ≤ 2 ∧ p = .int .i64 (28 - 7 * k : Int) ∧ wr = W) (fun p _ => (intOf p).toNat)
  case atStart => exact ⟨0, by omega, rfl, rfl⟩
  case round =>
    obtain ⟨k, hk, rfl, rfl⟩ := hrel
    rcases (show k = 0 ∨ k = 1 ∨ k = 2 by omega) with rfl | rfl | rfl
    · have g1 : m / 268435456 = 0 := by omega
      gi_wp2
      go_roundw
      case rel => first | exact ⟨1, by omega, rfl, rfl⟩ | exact ⟨1, by omega, rfl, trivial⟩
      case measure => simp [intOf]
    · have g1 : m / 2097152 = 0 := by omega
      gi_wp2
      go_roundw
      case rel => first | exact ⟨2, by omega, rfl, rfl⟩ | exact ⟨2, by omega, rfl, trivial⟩
      case measure => simp [intOf]
    · have g1 : ¬ m / 16384 = 0 := by omega
      gi_wp2
      rw [show (m / 16384 == 0) = false from beq_eq_false_iff_ne.mpr (by omega)]
      try rw [show ((28 : Int) - 7 * ((2 : Nat) : Int)) = 14 from rfl]
      gi_loopw [3] (fun p wr => ∃ j : Nat, j ≤ 2 ∧ p = .int .i64 (14 - 7 * j : Int) ∧ Hid (J ((gl m).take j) wr) ∧ wr.cell? ⟨Bn, 0, none⟩ = some (.int .u32 m)) (fun p _ => (intOf p).toNat)
      case atStart => exact ⟨0, by omega, rfl, Lib.hid h0', hBn⟩
      case round =>
        obtain ⟨j, hj, rfl, hJ, hc⟩ := hrel
        rcases (show j = 0 ∨ j = 1 ∨ j = 2 by omega) with rfl | rfl | rfl
        · obtain ⟨fn, tmps, assign, body, hy, hR⟩ := HY.out ((gl m).take 0) (bits .or .u8 (m / 16384) 128) wr hJ.out (by rw [List.length_take, HLEN.out]; omega)
          have HR := Lib.hid hR
          clear hR
          gi_wp2
          refine HR.out.mono ?_
          rintro e W3 (⟨rfl, hJ3, hk3⟩ | ⟨rfl, hJx3⟩)
          · have hc3 : W3.cell? ⟨Bn, 0, none⟩ = some (.int .u32 m) := hk3 _ hc
            have HE : (gl m).take 1 = (gl m).take 0 ++ [bits .or .u8 (m / 16384) 128] := by rw [hg.out]; rfl
            have HJ3 := Lib.hid (HE ▸ hJ3 : J ((gl m).take 1) W3)
            clear HE
            clear hJ3 hk3
            gi_wp2
            go_roundw
            case rel => exact ⟨1, by omega, rfl, HJ3, hc3⟩
            case measure => simp [intOf]
          · gi_wp2
            refine bodyPost_ret (results_none rfl _ _ _) rfl ?_
            exact ⟨⟨_, rfl⟩, .inr ⟨(gl m).take 0 ++ [bits .or .u8 (m / 16384) 128], by rw [hg.out]; exact ⟨[bits .or .u8 ((m / 128) % 256) 128, bits .and .u8 (m % 256) 127], rfl⟩, hJx3⟩⟩
        · obtain ⟨fn, tmps, assign, body, hy, hR⟩ := HY.out ((gl m).take 1) (bits .or .u8 ((m / 128) % 256) 128) wr hJ.out (by rw [List.length_take, HLEN.out]; omega)
          have HR := Lib.hid hR
          clear hR
          gi_wp2
          refine HR.out.mono ?_
          rintro e W3 (⟨rfl, hJ3, hk3⟩ | ⟨rfl, hJx3⟩)
          · have hc3 : W3.cell? ⟨Bn, 0, none⟩ = some (.int .u32 m) := hk3 _ hc
            have HE : (gl m).take 2 = (gl m).take 1 ++ [bits .or .u8 ((m / 128) % 256) 128] := by rw [hg.out]; rfl
            have HJ3 := Lib.hid (HE ▸ hJ3 : J ((gl m).take 2) W3)
            clear HE
            clear hJ3 hk3
            gi_wp2
            go_roundw
            case rel => exact ⟨2, by omega, rfl, HJ3, hc3⟩
            case measure => simp [intOf]
          · gi_wp2
            refine bodyPost_ret (results_none rfl _ _ _) rfl ?_
            exact ⟨⟨_, rfl⟩, .inr ⟨(gl m).take 1 ++ [bits .or .u8 ((m / 128) % 256) 128], by rw [hg.out]; exact ⟨[bits .and .u8 (m % 256) 127], rfl⟩, hJx3⟩⟩
        · obtain ⟨fn, tmps, assign, body, hy, hR⟩ := HY.out ((gl m).take 2) (bits .and .u8 (m % 256) 127) wr hJ.out (by rw [List.length_take, HLEN.out]; omega)
          have HR := Lib.hid hR
          clear hR
          gi_wp2
          refine HR.out.mono ?_
          rintro e W3 (⟨rfl, hJ3, hk3⟩ | ⟨rfl, hJx3⟩)
          · have hc3 : W3.cell? ⟨Bn, 0, none⟩ = some (.int .u32 m) := hk3 _ hc
            have HE : (gl m).take 3 = (gl m).take 2 ++ [bits .and .u8 (m % 256) 127] := by rw [hg.out]; rfl
            have HJ3 := Lib.hid (HE ▸ hJ3 : J ((gl m).take 3) W3)
            clear HE
            clear hJ3 hk3
            gi_wp2
            go_end0
            exact ⟨⟨_, rfl⟩, .inl ⟨(gl m).take 3, by rw [hg.out]; rfl, HJ3.out⟩⟩
          · gi_wp2
            go_end0
            exact ⟨⟨_, rfl⟩, .inr ⟨(gl m).take 2 ++ [bits .and .u8 (m % 256) 127], by rw [hg.out]; exact ⟨[], rfl⟩, hJx3⟩⟩
theorem gl_3 (m : Int) (h0 : 0 ≤ m) (h2 : 2097152 ≤ m) (h3 : m < 268435456) : gl m = [bits .or .u8 (m / 2097152) 128, bits .or .u8 ((m / 16384) % 256) 128, bits .or .u8 ((m / 128) % 256) 128, bits .and .u8 (m % 256) 127] := by
  unfold gl
  rw [if_neg (by omega), if_neg (by omega), if_neg (by omega), if_pos (by omega)]
  rw [or128 (m / 2097152) (by omega) (by omega)]
  rw [or128 ((m / 16384) % 256) (by omega) (by omega)]
  rw [or128 ((m / 128) % 256) (by omega) (by omega)]
  rw [and127 (m % 256) (by omega) (by omega)]
  refine (List.cons.injEq _ _ _ _).mpr ⟨by omega, ?_⟩
  refine (List.cons.injEq _ _ _ _).mpr ⟨by omega, ?_⟩
  refine (List.cons.injEq _ _ _ _).mpr ⟨by omega, ?_⟩
  refine (List.cons.injEq _ _ _ _).mpr ⟨by omega, rfl⟩
set_option maxHeartbeats 4000000 in
theorem groups1_3 (F : Fence) (n : Nat) (hg1 : F.fn 36) (hro : F.round = none) (hn : 1 ≤ n) (l Bn : Nat) (m : Int) (h0 : 0 ≤ m) (h2 : 2097152 ≤ m) (h3 : m < 268435456) (J Jx : List Int → World → Prop)
    (hY : ∀ pre x W, J pre W → pre.length < (gl m).length → YieldAt F (n - 1) Tryd.prog l #[.int .u8 x] W fun e W' =>
      (e = .returned (.bool true) ∧ J (pre ++ [x]) W' ∧ KeepC Bn W W') ∨ (e = .returned (.bool false) ∧ Jx (pre ++ [x]) W'))
    (W : World) (hBn : W.cell? ⟨Bn, 0, none⟩ = some (.int .u32 m)) (h0' : J [] W) :
    CallsIn F n Tryd.prog 36 #[.func (.yield l) #[] #[], .pointer (some ⟨Bn, 0, none⟩)] W fun e W' => (∃ v, e = .returned v) ∧
      ((∃ ys, ys = gl m ∧ J ys W') ∨ (∃ pre, pre <+: gl m ∧ Jx pre W')) := by
  have hg := Lib.hid (gl_3 m h0 h2 h3)
  have hlen : (gl m).length = 4 := by rw [hg.out]; rfl
  have HLEN := Lib.hid hlen
  clear hlen
  have HY := Lib.hid hY
  clear hY
  refine callsIn_of_wp Tryd.func36 rfl hg1 ?_ hro
  simp only [Tryd.ntmps36, List.size_toArray, List.length_cons, List.length_nil, Nat.reduceAdd, Nat.reduceSub, Array.replicate_succ, Array.replicate_zero, List.push_toArray, List.append_toArray, List.nil_append, List.cons_append]
  gi_wp2
  gi_loopw [3] (fun p wr => ∃ k : Nat, k ≤ 1 ∧ p = .int .i64 (28 - 7 * k : Int) ∧ wr = W) (fun p _ => (intOf p).toNat)
  case atStart => exact ⟨0, by omega, rfl, rfl⟩
  case round =>
    obtain ⟨k, hk, rfl, rfl⟩ := hrel
    rcases (show k = 0 ∨ k = 1 by omega) with rfl | rfl
    · have g1 : m / 268435456 = 0 := by omega
      gi_wp2
      go_roundw
      case rel => first | exact ⟨1, by omega, rfl, rfl⟩ | exact ⟨1, by omega, rfl, trivial⟩
      case measure => simp [intOf]
    · have g1 : ¬ m / 2097152 = 0 := by omega
      gi_wp2
      rw [show (m / 2097152 == 0) = false from beq_eq_false_iff_ne.mpr (by omega)]
      try rw [show ((28 : Int) - 7 * ((1 : Nat) : Int)) = 21 from rfl]
      gi_loopw [3] (fun p wr => ∃ j : Nat, j ≤ 3 ∧ p = .int .i64 (21 - 7 * j : Int) ∧ Hid (J ((gl m).take j) wr) ∧ wr.cell? ⟨Bn, 0, none⟩ = some (.int .u32 m)) (fun p _ => (intOf p).toNat)
      case atStart => exact ⟨0, by omega, rfl, Lib.hid h0', hBn⟩
      case round =>
        obtain ⟨j, hj, rfl, hJ, hc⟩ := hrel
        rcases (show j = 0 ∨ j = 1 ∨ j = 2 ∨ j = 3 by omega) with rfl | rfl | rfl | rfl
        · obtain ⟨fn, tmps, assign, body, hy, hR⟩ := HY.out ((gl m).take 0) (bits .or .u8 (m / 2097152) 128) wr hJ.out (by rw [List.length_take, HLEN.out]; omega)
          have HR := Lib.hid hR
          clear hR
          gi_wp2
          refine HR.out.mono ?_
          rintro e W3 (⟨rfl, hJ3, hk3⟩ | ⟨rfl, hJx3⟩)
          · have hc3 : W3.cell? ⟨Bn, 0, none⟩ = some (.int .u32 m) := hk3 _ hc
            have HE : (gl m).take 1 = (gl m).take 0 ++ [bits .or .u8 (m / 2097152) 128] := by rw [hg.out]; rfl
            have HJ3 := Lib.hid (HE ▸ hJ3 : J ((gl m).take 1) W3)
            clear HE
            clear hJ3 hk3
            gi_wp2
            go_roundw
            case rel => exact ⟨1, by omega, rfl, HJ3, hc3⟩
            case measure => simp [intOf]
          · gi_wp2
            refine bodyPost_ret (results_none rfl _ _ _) rfl ?_
            exact ⟨⟨_, rfl⟩, .inr ⟨(gl m).take 0 ++ [bits .or .u8 (m / 2097152) 128], by rw [hg.out]; exact ⟨[bits .or .u8 ((m / 16384) % 256) 128, bits .or .u8 ((m / 128) % 256) 128, bits .and .u8 (m % 256) 127], rfl⟩, hJx3⟩⟩
        · obtain ⟨fn, tmps, assign, body, hy, hR⟩ := HY.out ((gl m).take 1) (bits .or .u8 ((m / 16384) % 256) 128) wr hJ.out (by rw [List.length_take, HLEN.out]; omega)
          have HR := Lib.hid hR
          clear hR
          gi_wp2
          refine HR.out.mono ?_
          rintro e W3 (⟨rfl, hJ3, hk3⟩ | ⟨rfl, hJx3⟩)
          · have hc3 : W3.cell? ⟨Bn, 0, none⟩ = some (.int .u32 m) := hk3 _ hc
            have HE : (gl m).take 2 = (gl m).take 1 ++ [bits .or .u8 ((m / 16384) % 256) 128] := by rw [hg.out]; rfl
            have HJ3 := Lib.hid (HE ▸ hJ3 : J ((gl m).take 2) W3)
            clear HE
            clear hJ3 hk3
            gi_wp2
            go_roundw
            case rel => exact ⟨2, by omega, rfl, HJ3, hc3⟩
            case measure => simp [intOf]
          · gi_wp2
            refine bodyPost_ret (results_none rfl _ _ _) rfl ?_
            exact ⟨⟨_, rfl⟩, .inr ⟨(gl m).take 1 ++ [bits .or .u8 ((m / 16384) % 256) 128], by rw [hg.out]; exact ⟨[bits .or .u8 ((m / 128) % 256) 128, bits .and .u8 (m % 256) 127], rfl⟩, hJx3⟩⟩
        · obtain ⟨fn, tmps, assign, body, hy, hR⟩ := HY.out ((gl m).take 2) (bits .or .u8 ((m / 128) % 256) 128) wr hJ.out (by rw [List.length_take, HLEN.out]; omega)
          have HR := Lib.hid hR
          clear hR
          gi_wp2
          refine HR.out.mono ?_
          rintro e W3 (⟨rfl, hJ3, hk3⟩ | ⟨rfl, hJx3⟩)
          · have hc3 : W3.cell? ⟨Bn, 0, none⟩ = some (.int .u32 m) := hk3 _ hc
            have HE : (gl m).take 3 = (gl m).take 2 ++ [bits .or .u8 ((m / 128) % 256) 128] := by rw [hg.out]; rfl
            have HJ3 := Lib.hid (HE ▸ hJ3 : J ((gl m).take 3) W3)
            clear HE
            clear hJ3 hk3
            gi_wp2
            go_roundw
            case rel => exact ⟨3, by omega, rfl, HJ3, hc3⟩
            case measure => simp [intOf]
          · gi_wp2
            refine bodyPost_ret (results_none rfl _ _ _) rfl ?_
            exact ⟨⟨_, rfl⟩, .inr ⟨(gl m).take 2 ++ [bits .or .u8 ((m / 128) % 256) 128], by rw [hg.out]; exact ⟨[bits .and .u8 (m % 256) 127], rfl⟩, hJx3⟩⟩
        · obtain ⟨fn, tmps, assign, body, hy, hR⟩ := HY.out ((gl m).take 3) (bits .and .u8 (m % 256) 127) wr hJ.out (by rw [List.length_take, HLEN.out]; omega)
          have HR := Lib.hid hR
          clear hR
          gi_wp2
          refine HR.out.mono ?_
          rintro e W3 (⟨rfl, hJ3, hk3⟩ | ⟨rfl, hJx3⟩)
          · have hc3 : W3.cell? ⟨Bn, 0, none⟩ = some (.int .u32 m) := hk3 _ hc
            have HE : (gl m).take 4 = (gl m).take 3 ++ [bits .and .u8 (m % 256) 127] := by rw [hg.out]; rfl
            have HJ3 := Lib.hid (HE ▸ hJ3 : J ((gl m).take 4) W3)
            clear HE
            clear hJ3 hk3
            gi_wp2
            go_end0
            exact ⟨⟨_, rfl⟩, .inl ⟨(gl m).take 4, by rw [hg.out]; rfl, HJ3.out⟩⟩
          · gi_wp2
            go_end0
            exact ⟨⟨_, rfl⟩, .inr ⟨(gl m).take 3 ++ [bits .and .u8 (m % 256) 127], by rw [hg.out]; exact ⟨[], rfl⟩, hJx3⟩⟩
theorem gl_4 (m : Int) (h0 : 0 ≤ m) (h2 : 268435456 ≤ m) (h3 : m < 4294967296) : gl m = [bits .or .u8 (m / 268435456) 128, bits .or .u8 ((m / 2097152) % 256) 128, bits .or .u8 ((m / 16384) % 256) 128, bits .or .u8 ((m / 128) % 256) 128, bits .and .u8 (m % 256) 127] := by
  unfold gl
  rw [if_neg (by omega), if_neg (by omega), if_neg (by omega), if_neg (by omega)]
  rw [or128 (m / 268435456) (by omega) (by omega)]
  rw [or128 ((m / 2097152) % 256) (by omega) (by omega)]
  rw [or128 ((m / 16384) % 256) (by omega) (by omega)]
  rw [or128 ((m / 128) % 256) (by omega) (by omega)]
  rw [and127 (m % 256) (by omega) (by omega)]
  refine (List.cons.injEq _ _ _ _).mpr ⟨by omega, ?_⟩
  refine (List.cons.injEq _ _ _ _).mpr ⟨by omega, ?_⟩
  refine (List.cons.injEq _ _ _ _).mpr ⟨by omega, ?_⟩
  refine (List.cons.injEq _ _ _ _).mpr ⟨by omega, ?_⟩
  refine (List.cons.injEq _ _ _ _).mpr ⟨by omega, rfl⟩
set_option maxHeartbeats 4000000 in
theorem groups1_4 (F : Fence) (n : Nat) (hg1 : F.fn 36) (hro : F.round = none) (hn : 1 ≤ n) (l Bn : Nat) (m : Int) (h0 : 0 ≤ m) (h2 : 268435456 ≤ m) (h3 : m < 4294967296) (J Jx : List Int → World → Prop)
    (hY : ∀ pre x W, J pre W → pre.length < (gl m).length → YieldAt F (n - 1) Tryd.prog l #[.int .u8 x] W fun e W' =>
      (e = .returned (.bool true) ∧ J (pre ++ [x]) W' ∧ KeepC Bn W W') ∨ (e = .returned (.bool false) ∧ Jx (pre ++ [x]) W'))
    (W : World) (hBn : W.cell? ⟨Bn, 0, none⟩ = some (.int .u32 m)) (h0' : J [] W) :
    CallsIn F n Tryd.prog 36 #[.func (.yield l) #[] #[], .pointer (some ⟨Bn, 0, none⟩)] W fun e W' => (∃ v, e = .returned v) ∧
      ((∃ ys, ys = gl m ∧ J ys W') ∨ (∃ pre, pre <+: gl m ∧ Jx pre W')) := by
  have hg := Lib.hid (gl_4 m h0 h2 h3)
  have hlen : (gl m).length = 5 := by rw [hg.out]; rfl
  have HLEN := Lib.hid hlen
  clear hlen
  have HY := Lib.hid hY
  clear hY
  refine callsIn_of_wp Tryd.func36 rfl hg1 ?_ hro
  simp only [Tryd.ntmps36, List.size_toArray, List.length_cons, List.length_nil, Nat.reduceAdd, Nat.reduceSub, Array.replicate_succ, Array.replicate_zero, List.push_toArray, List.append_toArray, List.nil_append, List.cons_append]
  gi_wp2
  gi_loopw [3] (fun p wr => ∃ k : Nat, k ≤ 0 ∧ p = .int .i64 (28 - 7 * k : Int) ∧ wr = W) (fun p _ => (intOf p).toNat)
  case atStart => exact ⟨0, by omega, rfl, rfl⟩
  case round =>
    obtain ⟨k, hk, rfl, rfl⟩ := hrel
    obtain rfl : k = 0 := by omega
    have g1 : ¬ m / 268435456 = 0 := by omega
    gi_wp2
    rw [show (m / 268435456 == 0) = false from beq_eq_false_iff_ne.mpr (by omega)]
    try rw [show ((28 : Int) - 7 * ((0 : Nat) : Int)) = 28 from rfl]
    gi_loopw [3] (fun p wr => ∃ j : Nat, j ≤ 4 ∧ p = .int .i64 (28 - 7 * j : Int) ∧ Hid (J ((gl m).take j) wr) ∧ wr.cell? ⟨Bn, 0, none⟩ = some (.int .u32 m)) (fun p _ => (intOf p).toNat)
    case atStart => exact ⟨0, by omega, rfl, Lib.hid h0', hBn⟩
    case round =>
      obtain ⟨j, hj, rfl, hJ, hc⟩ := hrel
      rcases (show j = 0 ∨ j = 1 ∨ j = 2 ∨ j = 3 ∨ j = 4 by omega) with rfl | rfl | rfl | rfl | rfl
      · obtain ⟨fn, tmps, assign, body, hy, hR⟩ := HY.out ((gl m).take 0) (bits .or .u8 (m / 268435456) 128) wr hJ.out (by rw [List.length_take, HLEN.out]; omega)
        have HR := Lib.hid hR
        clear hR
        gi_wp2
        refine HR.out.mono ?_
        rintro e W3 (⟨rfl, hJ3, hk3⟩ | ⟨rfl, hJx3⟩)
        · have hc3 : W3.cell? ⟨Bn, 0, none⟩ = some (.int .u32 m) := hk3 _ hc
          have HE : (gl m).take 1 = (gl m).take 0 ++ [bits .or .u8 (m / 268435456) 128] := by rw [hg.out]; rfl
          have HJ3 := Lib.hid (HE ▸ hJ3 : J ((gl m).take 1) W3)
          clear HE
          clear hJ3 hk3
          gi_wp2
          go_roundw
          case rel => exact ⟨1, by omega, rfl, HJ3, hc3⟩
          case measure => simp [intOf]
        · gi_wp2
          refine bodyPost_ret (results_none rfl _ _ _) rfl ?_
          exact ⟨⟨_, rfl⟩, .inr ⟨(gl m).take 0 ++ [bits .or .u8 (m / 268435456) 128], by rw [hg.out]; exact ⟨[bits .or .u8 ((m / 2097152) % 256) 128, bits .or .u8 ((m / 16384) % 256) 128, bits .or .u8 ((m / 128) % 256) 128, bits .and .u8 (m % 256) 127], rfl⟩, hJx3⟩⟩
      · obtain ⟨fn, tmps, assign, body, hy, hR⟩ := HY.out ((gl m).take 1) (bits .or .u8 ((m / 2097152) % 256) 128) wr hJ.out (by rw [List.length_take, HLEN.out]; omega)
        have HR := Lib.hid hR
        clear hR
        gi_wp2
        refine HR.out.mono ?_
        rintro e W3 (⟨rfl, hJ3, hk3⟩ | ⟨rfl, hJx3⟩)
        · have hc3 : W3.cell? ⟨Bn, 0, none⟩ = some (.int .u32 m) := hk3 _ hc
          have HE : (gl m).take 2 = (gl m).take 1 ++ [bits .or .u8 ((m / 2097152) % 256) 128] := by rw [hg.out]; rfl
          have HJ3 := Lib.hid (HE ▸ hJ3 : J ((gl m).take 2) W3)
          clear HE
          clear hJ3 hk3
          gi_wp2
          go_roundw
          case rel => exact ⟨2, by omega, rfl, HJ3, hc3⟩
          case measure => simp [intOf]
        · gi_wp2
          refine bodyPost_ret (results_none rfl _ _ _) rfl ?_
          exact ⟨⟨_, rfl⟩, .inr ⟨(gl m).take 1 ++ [bits .or .u8 ((m / 2097152) % 256) 128], by rw [hg.out]; exact ⟨[bits .or .u8 ((m / 16384) % 256) 128, bits .or .u8 ((m / 128) % 256) 128, bits .and .u8 (m % 256) 127], rfl⟩, hJx3⟩⟩
      · obtain ⟨fn, tmps, assign, body, hy, hR⟩ := HY.out ((gl m).take 2) (bits .or .u8 ((m / 16384) % 256) 128) wr hJ.out (by rw [List.length_take, HLEN.out]; omega)
        have HR := Lib.hid hR
        clear hR
        gi_wp2
        refine HR.out.mono ?_
        rintro e W3 (⟨rfl, hJ3, hk3⟩ | ⟨rfl, hJx3⟩)
        · have hc3 : W3.cell? ⟨Bn, 0, none⟩ = some (.int .u32 m) := hk3 _ hc
          have HE : (gl m).take 3 = (gl m).take 2 ++ [bits .or .u8 ((m / 16384) % 256) 128] := by rw [hg.out]; rfl
          have HJ3 := Lib.hid (HE ▸ hJ3 : J ((gl m).take 3) W3)
          clear HE
          clear hJ3 hk3
          gi_wp2
          go_roundw
          case rel => exact ⟨3, by omega, rfl, HJ3, hc3⟩
          case measure => simp [intOf]
        · gi_wp2
          refine bodyPost_ret (results_none rfl _ _ _) rfl ?_
          exact ⟨⟨_, rfl⟩, .inr ⟨(gl m).take 2 ++ [bits .or .u8 ((m / 16384) % 256) 128], by rw [hg.out]; exact ⟨[bits .or .u8 ((m / 128) % 256) 128, bits .and .u8 (m % 256) 127], rfl⟩, hJx3⟩⟩
      · obtain ⟨fn, tmps, assign, body, hy, hR⟩ := HY.out ((gl m).take 3) (bits .or .u8 ((m / 128) % 256) 128) wr hJ.out (by rw [List.length_take, HLEN.out]; omega)
        have HR := Lib.hid hR
        clear hR
        gi_wp2
        refine HR.out.mono ?_
        rintro e W3 (⟨rfl, hJ3, hk3⟩ | ⟨rfl, hJx3⟩)
        · have hc3 : W3.cell? ⟨Bn, 0, none⟩ = some (.int .u32 m) := hk3 _ hc
          have HE : (gl m).take 4 = (gl m).take 3 ++ [bits .or .u8 ((m / 128) % 256) 128] := by rw [hg.out]; rfl
          have HJ3 := Lib.hid (HE ▸ hJ3 : J ((gl m).take 4) W3)
          clear HE
          clear hJ3 hk3
          gi_wp2
          go_roundw
          case rel => exact ⟨4, by omega, rfl, HJ3, hc3⟩
          case measure => simp [intOf]
        · gi_wp2
          refine bodyPost_ret (results_none rfl _ _ _) rfl ?_
          exact ⟨⟨_, rfl⟩, .inr ⟨(gl m).take 3 ++ [bits .or .u8 ((m / 128) % 256) 128], by rw [hg.out]; exact ⟨[bits .and .u8 (m % 256) 127], rfl⟩, hJx3⟩⟩
      · obtain ⟨fn, tmps, assign, body, hy, hR⟩ := HY.out ((gl m).take 4) (bits .and .u8 (m % 256) 127) wr hJ.out (by rw [List.length_take, HLEN.out]; omega)
        have HR := Lib.hid hR
        clear hR
        gi_wp2
        refine HR.out.mono ?_
        rintro e W3 (⟨rfl, hJ3, hk3⟩ | ⟨rfl, hJx3⟩)
        · have hc3 : W3.cell? ⟨Bn, 0, none⟩ = some (.int .u32 m) := hk3 _ hc
          have HE : (gl m).take 5 = (gl m).take 4 ++ [bits .and .u8 (m % 256) 127] := by rw [hg.out]; rfl
          have HJ3 := Lib.hid (HE ▸ hJ3 : J ((gl m).take 5) W3)
          clear HE
          clear hJ3 hk3
          gi_wp2
          go_end0
          exact ⟨⟨_, rfl⟩, .inl ⟨(gl m).take 5, by rw [hg.out]; rfl, HJ3.out⟩⟩
        · gi_wp2
          go_end0
          exact ⟨⟨_, rfl⟩, .inr ⟨(gl m).take 4 ++ [bits .and .u8 (m % 256) 127], by rw [hg.out]; exact ⟨[], rfl⟩, hJx3⟩⟩
theorem groups1_in (F : Fence) (n : Nat) (hg1 : F.fn 36) (hro : F.round = none) (hn : 1 ≤ n) (l Bn : Nat) (m : Int) (h0 : 0 ≤ m) (h1 : m < 4294967296) (J Jx : List Int → World → Prop)
    (hY : ∀ pre x W, J pre W → pre.length < (gl m).length → YieldAt F (n - 1) Tryd.prog l #[.int .u8 x] W fun e W' =>
      (e = .returned (.bool true) ∧ J (pre ++ [x]) W' ∧ KeepC Bn W W') ∨ (e = .returned (.bool false) ∧ Jx (pre ++ [x]) W'))
    (W : World) (hBn : W.cell? ⟨Bn, 0, none⟩ = some (.int .u32 m)) (h0' : J [] W) :
    CallsIn F n Tryd.prog 36 #[.func (.yield l) #[] #[], .pointer (some ⟨Bn, 0, none⟩)] W fun e W' => (∃ v, e = .returned v) ∧
      ((∃ ys, ys = gl m ∧ J ys W') ∨ (∃ pre, pre <+: gl m ∧ Jx pre W')) := by
  rcases (show m < 128 ∨ (128 ≤ m ∧ m < 16384) ∨ (16384 ≤ m ∧ m < 2097152) ∨ (2097152 ≤ m ∧ m < 268435456) ∨ (268435456 ≤ m ∧ m < 4294967296) by omega) with h | ⟨h, h'⟩ | ⟨h, h'⟩ | ⟨h, h'⟩ | ⟨h, h'⟩
  · exact groups1_0 F n hg1 hro hn l Bn m h0 h J Jx hY W hBn h0'
  · exact groups1_1 F n hg1 hro hn l Bn m h0 h h' J Jx hY W hBn h0'
  · exact groups1_2 F n hg1 hro hn l Bn m h0 h h' J Jx hY W hBn h0'
  · exact groups1_3 F n hg1 hro hn l Bn m h0 h h' J Jx hY W hBn h0'
  · exact groups1_4 F n hg1 hro hn l Bn m h0 h h' J Jx hY W hBn h0'
/-- groups(m) hands back a value that yields the groups of m, in their order. -/
theorem groups_stops (F : Fence) (n : Nat) (hg1 : F.fn 36) (hro : F.round = none) (hn : 1 ≤ n) (Bn : Nat) (m : Int) (h0 : 0 ≤ m) (h1 : m < 4294967296) (w : World) (hBn : Bn < w.heap.size)
    (hc : w.cell? ⟨Bn, 0, none⟩ = some (.int .u32 m)) :
    SeqStopsK F n Tryd.prog 36 #[.pointer (some ⟨Bn, 0, none⟩)] (fun x : Int => #[Value.int .u8 x]) (KeepC Bn) (fun ys => ys = gl m) (fun pre => pre <+: gl m) (gl m).length w := fun l J Jx W hW _ _ hY h0' =>
  groups1_in F n hg1 hro hn l Bn m h0 h1 J Jx hY W ((hW.cell (p := ⟨Bn, 0, none⟩) hBn).trans hc) h0'
end Go.Proofs.YtacpcagijfacnaaDoor
