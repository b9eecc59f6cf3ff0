/- Chapters 6, 7 (oids, oidsets): the groups of a subidentifier. -/
import Derived.RangeFuncNested
import Derived.RangeFuncBound
import Derived.RangeFuncCalls
import Derived.RangeFuncLeaves
import Derived.RangeFuncWrites
import Derived.RangeFuncBox
import Derived.Maps.AppendAt
import Derived.Shelf.Abstract
import Derived.Shelf.RegionOpen
import Derived.WalkKit
import Derived.OwnWalkIn
import Derived.TacticsInMore
import Derived.LoopNIn
import Derived.LoopIn
import Derived.Lib.Hide
import Derived.Test.YtacpcagijfacnaaDoorWa
import Derived.Test.YtacpcagijfacnaaDoorWd
import Derived.Laws.BitsLemmas
import Derived.Lib.ItoaLen
import Derived.Lib.ItoaMem
import Derived.IntWalk
import Derived.BigCall
import Derived.BigGuard
namespace Go.Proofs.YtacpcagijfacnaaDoor
open Go.RowKit Go.Shelf
attribute [local go_sem] Oper.semAt_some
set_option linter.unusedSimpArgs false
set_option linter.unusedVariables false

/-- One cell reads as it did. -/
def KeepC (B : Nat) (A C : World) : Prop := ∀ u, A.cell? ⟨B, 0, none⟩ = some u → C.cell? ⟨B, 0, none⟩ = some u
theorem keepC_t {N : Nat} {A B C : World} (h : KeepC N A B) (k : KeepC N B C) : KeepC N A C := fun u hu => k u (h u hu)
theorem keepC_b {N : Nat} {w : World} : ∀ (W : World) (l : Nat) (o o' : Obj), w.heap.size ≤ l → W.heap[l]? = some o → o.isCells = false → o.isWalk = false → KeepC N W (W.putObj l o') := by
  intro W l o o' _ hl hc _ u hu
  exact cell_kept hu (grownBy_putObj' W l o') (fun r e => by cases e; exact ⟨_, hl, hc⟩)

def gl (n : Int) : List Int :=
  if n < 128 then [n] else if n < 16384 then [128 + n / 128, n % 128] else if n < 2097152 then [128 + n / 16384, 128 + n / 128 % 128, n % 128] else if n < 268435456 then [128 + n / 2097152, 128 + n / 16384 % 128, 128 + n / 128 % 128, n % 128]
  else [128 + n / 268435456, 128 + n / 2097152 % 128, 128 + n / 16384 % 128, 128 + n / 128 % 128, n % 128]
theorem gl_len (n : Int) : 1 ≤ (gl n).length ∧ (gl n).length ≤ 5 := by
  unfold gl
  repeat' split
  all_goals exact ⟨by simp, by simp⟩
theorem and127n : ∀ v : Fin 256, bits .and .u8 ((v.val : Nat) : Int) 127 = ((v.val % 128 : Nat) : Int) := by decide +kernel
theorem or128n : ∀ v : Fin 256, bits .or .u8 ((v.val : Nat) : Int) 128 = ((v.val % 128 + 128 : Nat) : Int) := by decide +kernel
theorem and127 (v : Int) (h0 : 0 ≤ v) (h1 : v < 256) : bits .and .u8 v 127 = v % 128 := by
  have := and127n ⟨v.toNat, by omega⟩
  simp only at this
  rw [show ((v.toNat : Nat) : Int) = v by omega] at this
  rw [this]; omega
theorem or128 (v : Int) (h0 : 0 ≤ v) (h1 : v < 256) : bits .or .u8 v 128 = v % 128 + 128 := by
  have := or128n ⟨v.toNat, by omega⟩
  simp only at this
  rw [show ((v.toNat : Nat) : Int) = v by omega] at this
  rw [this]; omega
set_option maxHeartbeats 1000000 in
theorem groups_in (F : Fence) (n : Nat) (hg : F.fn 28) (hro : F.round = none) (m : Int) (w : World) :
    CallsIn F n Tryd.prog 28 #[.int .u32 m] w fun e w' => e = .returned (.func (.func 36) #[] #[.pointer (some ⟨w.heap.size, 0, none⟩)]) ∧ w' = w.alloc (.cells #[.int .u32 m] 24) := by
  refine callsIn_of_wp Tryd.func28 rfl hg ?_ hro
  simp only [Tryd.ntmps28, List.size_toArray, List.length_cons, List.length_nil, Nat.reduceAdd, Nat.reduceSub, Array.replicate_succ, Array.replicate_zero, List.push_toArray, List.append_toArray, List.nil_append, List.cons_append]
  gi_wp2
  go_ret
  exact ⟨rfl, rfl⟩
theorem gl_0 (m : Int) (h0 : 0 ≤ m) (h3 : m < 128) : gl m = [bits .and .u8 (m) 127] := by
  unfold gl
  rw [if_pos (by omega)]
  rw [and127 (m) (by omega) (by omega)]
  refine (List.cons.injEq _ _ _ _).mpr ⟨by omega, rfl⟩
set_option maxHeartbeats 4000000 in
theorem groups1_0 (F : Fence) (n : Nat) (hg1 : F.fn 36) (hro : F.round = none) (hn : 1 ≤ n) (l Bn : Nat) (m : Int) (h0 : 0 ≤ m) (h3 : m < 128) (J Jx : List Int → World → Prop)
    (hY : ∀ pre x W, J pre W → pre.length < (gl m).length → YieldAt F (n - 1) Tryd.prog l #[.int .u8 x] W fun e W' =>
      (e = .returned (.bool true) ∧ J (pre ++ [x]) W' ∧ KeepC Bn W W') ∨ (e = .returned (.bool false) ∧ Jx (pre ++ [x]) W'))
    (W : World) (hBn : W.cell? ⟨Bn, 0, none⟩ = some (.int .u32 m)) (h0' : J [] W) :
    CallsIn F n Tryd.prog 36 #[.func (.yield l) #[] #[], .pointer (some ⟨Bn, 0, none⟩)] W fun e W' => (∃ v, e = .returned v) ∧
      ((∃ ys, ys = gl m ∧ J ys W') ∨ (∃ pre, pre <+: gl m ∧ Jx pre W')) := by
  have hg := Lib.hid (gl_0 m h0 h3)
  have hlen : (gl m).length = 1 := by rw [hg.out]; rfl
  have HLEN := Lib.hid hlen
  clear hlen
  have HY := Lib.hid hY
  clear hY
  refine callsIn_of_wp Tryd.func36 rfl hg1 ?_ hro
  simp only [Tryd.ntmps36, List.size_toArray, List.length_cons, List.length_nil, Nat.reduceAdd, Nat.reduceSub, Array.replicate_succ, Array.replicate_zero, List.push_toArray, List.append_toArray, List.nil_append, List.cons_append]
  gi_wp2
  gi_loopw [3] (fun p wr => ∃ k : Nat, k ≤ 4 ∧ p = .int .i64 (28 - 7 * k : Int) ∧ wr = W) (fun p _ => (intOf p).toNat)
  case atStart => exact ⟨0, by omega, rfl, rfl⟩
  case round =>
    obtain ⟨k, hk, rfl, rfl⟩ := hrel
    rcases (show k = 0 ∨ k = 1 ∨ k = 2 ∨ k = 3 ∨ k = 4 by omega) with rfl | rfl | rfl | rfl | rfl
    · have g1 : m / 268435456 = 0 := by omega
      gi_wp2
      go_roundw
      case rel => first | exact ⟨1, by omega, rfl, rfl⟩ | exact ⟨1, by omega, rfl, trivial⟩
      case measure => simp [intOf]
    · have g1 : m / 2097152 = 0 := by omega
      gi_wp2
      go_roundw
      case rel => first | exact ⟨2, by omega, rfl, rfl⟩ | exact ⟨2, by omega, rfl, trivial⟩
      case measure => simp [intOf]
    · have g1 : m / 16384 = 0 := by omega
      gi_wp2
      go_roundw
      case rel => first | exact ⟨3, by omega, rfl, rfl⟩ | exact ⟨3, by omega, rfl, trivial⟩
      case measure => simp [intOf]
    · have g1 : m / 128 = 0 := by omega
      gi_wp2
      go_roundw
      case rel => first | exact ⟨4, by omega, rfl, rfl⟩ | exact ⟨4, by omega, rfl, trivial⟩
      case measure => simp [intOf]
    · gi_wp2
      gi_loopw [3] (fun p wr => ∃ j : Nat, j ≤ 0 ∧ p = .int .i64 (0 - 7 * j : Int) ∧ Hid (J ((gl m).take j) wr) ∧ wr.cell? ⟨Bn, 0, none⟩ = some (.int .u32 m)) (fun p _ => (intOf p).toNat)
      case atStart => exact ⟨0, by omega, rfl, Lib.hid h0', hBn⟩
      case round =>
        obtain ⟨j, hj, rfl, hJ, hc⟩ := hrel
        obtain rfl : j = 0 := by omega
        obtain ⟨fn, tmps, assign, body, hy, hR⟩ := HY.out ((gl m).take 0) (bits .and .u8 (m) 127) wr hJ.out (by rw [List.length_take, HLEN.out]; omega)
        have HR := Lib.hid hR
        clear hR
        gi_wp2
        refine HR.out.mono ?_
        rintro e W3 (⟨rfl, hJ3, hk3⟩ | ⟨rfl, hJx3⟩)
        · have hc3 : W3.cell? ⟨Bn, 0, none⟩ = some (.int .u32 m) := hk3 _ hc
          have HE : (gl m).take 1 = (gl m).take 0 ++ [bits .and .u8 (m) 127] := by rw [hg.out]; rfl
          have HJ3 := Lib.hid (HE ▸ hJ3 : J ((gl m).take 1) W3)
          clear HE
          clear hJ3 hk3
          gi_wp2
          go_end0
          exact ⟨⟨_, rfl⟩, .inl ⟨(gl m).take 1, by rw [hg.out]; rfl, HJ3.out⟩⟩
        · gi_wp2
          go_end0
          exact ⟨⟨_, rfl⟩, .inr ⟨(gl m).take 0 ++ [bits .and .u8 (m) 127], by rw [hg.out]; exact ⟨[], rfl⟩, hJx3⟩⟩
theorem gl_1 (m : Int) (h0 : 0 ≤ m) (h2 : 128 ≤ m) (h3 : m < 16384) : gl m = [bits .or .u8 (m / 128) 128, bits .and .u8 (m % 256) 127] := by
  unfold gl
  rw [if_neg (by omega), if_pos (by omega)]
  rw [or128 (m / 128) (by omega) (by omega)]
  rw [and127 (m % 256) (by omega) (by omega)]
  refine (List.cons.injEq _ _ _ _).mpr ⟨by omega, ?_⟩
  refine (List.cons.injEq _ _ _ _).mpr ⟨by omega, rfl⟩
set_option maxHeartbeats 4000000 in
theorem groups1_1 (F : Fence) (n : Nat) (hg1 : F.fn 36) (hro : F.round = none) (hn : 1 ≤ n) (l Bn : Nat) (m : Int) (h0 : 0 ≤ m) (h2 : 128 ≤ m) (h3 : m < 16384) (J Jx : List Int → World → Prop)
    (hY : ∀ pre x W, J pre W → pre.length < (gl m).length → YieldAt F (n - 1) Tryd.prog l #[.int .u8 x] W fun e W' =>
      (e = .returned (.bool true) ∧ J (pre ++ [x]) W' ∧ KeepC Bn W W') ∨ (e = .returned (.bool false) ∧ Jx (pre ++ [x]) W'))
    (W : World) (hBn : W.cell? ⟨Bn, 0, none⟩ = some (.int .u32 m)) (h0' : J [] W) :
    CallsIn F n Tryd.prog 36 #[.func (.yield l) #[] #[], .pointer (some ⟨Bn, 0, none⟩)] W fun e W' => (∃ v, e = .returned v) ∧
      ((∃ ys, ys = gl m ∧ J ys W') ∨ (∃ pre, pre <+: gl m ∧ Jx pre W')) := by
  have hg := Lib.hid (gl_1 m h0 h2 h3)
  have hlen : (gl m).length = 2 := by rw [hg.out]; rfl
  have HLEN := Lib.hid hlen
  clear hlen
  have HY := Lib.hid hY
  clear hY
  refine callsIn_of_wp Tryd.func36 rfl hg1 ?_ hro
  simp only [Tryd.ntmps36, List.size_toArray, List.length_cons, List.length_nil, Nat.reduceAdd, Nat.reduceSub, Array.replicate_succ, Array.replicate_zero, List.push_toArray, List.append_toArray, List.nil_append, List.cons_append]
  gi_wp2
  gi_loopw [3] (fun p wr => ∃ k : Nat, k ≤ 3 ∧ p = .int .i64 (28 - 7 * k : Int) ∧ wr = W) (fun p _ => (intOf p).toNat)
  case atStart => exact ⟨0, by omega, rfl, rfl⟩
  case round =>
    obtain ⟨k, hk, rfl, rfl⟩ := hrel
    rcases (show k = 0 ∨ k = 1 ∨ k = 2 ∨ k = 3 by omega) with rfl | rfl | rfl | rfl
    · have g1 : m / 268435456 = 0 := by omega
      gi_wp2
      go_roundw
      case rel => first | exact ⟨1, by omega, rfl, rfl⟩ | exact ⟨1, by omega, rfl, trivial⟩
      case measure => simp [intOf]
    · have g1 : m / 2097152 = 0 := by omega
      gi_wp2
      go_roundw
      case rel => first | exact ⟨2, by omega, rfl, rfl⟩ | exact ⟨2, by omega, rfl, trivial⟩
      case measure => simp [intOf]
    · have g1 : m / 16384 = 0 := by omega
      gi_wp2
      go_roundw
      case rel => first | exact ⟨3, by omega, rfl, rfl⟩ | exact ⟨3, by omega, rfl, trivial⟩
      case measure => simp [intOf]
    · have g1 : ¬ m / 128 = 0 := by omega
      gi_wp2
      rw [show (m / 128 == 0) = false from beq_eq_false_iff_ne.mpr (by omega)]
      try rw [show ((28 : Int) - 7 * ((3 : Nat) : Int)) = 7 from rfl]
      gi_loopw [3] (fun p wr => ∃ j : Nat, j ≤ 1 ∧ p = .int .i64 (7 - 7 * j : Int) ∧ Hid (J ((gl m).take j) wr) ∧ wr.cell? ⟨Bn, 0, none⟩ = some (.int .u32 m)) (fun p _ => (intOf p).toNat)
      case atStart => exact ⟨0, by omega, rfl, Lib.hid h0', hBn⟩
      case round =>
        obtain ⟨j, hj, rfl, hJ, hc⟩ := hrel
        rcases (show j = 0 ∨ j = 1 by omega) with rfl | rfl
        · obtain ⟨fn, tmps, assign, body, hy, hR⟩ := HY.out ((gl m).take 0) (bits .or .u8 (m / 128) 128) wr hJ.out (by rw [List.length_take, HLEN.out]; omega)
          have HR := Lib.hid hR
          clear hR
          gi_wp2
          refine HR.out.mono ?_
          rintro e W3 (⟨rfl, hJ3, hk3⟩ | ⟨rfl, hJx3⟩)
          · have hc3 : W3.cell? ⟨Bn, 0, none⟩ = some (.int .u32 m) := hk3 _ hc
            have HE : (gl m).take 1 = (gl m).take 0 ++ [bits .or .u8 (m / 128) 128] := by rw [hg.out]; rfl
            have HJ3 := Lib.hid (HE ▸ hJ3 : J ((gl m).take 1) W3)
            clear HE
            clear hJ3 hk3
            gi_wp2
            go_roundw
            case rel => exact ⟨1, by omega, rfl, HJ3, hc3⟩
            case measure => simp [intOf]
          · gi_wp2
            refine bodyPost_ret (results_none rfl _ _ _) rfl ?_
            exact ⟨⟨_, rfl⟩, .inr ⟨(gl m).take 0 ++ [bits .or .u8 (m / 128) 128], by rw [hg.out]; exact ⟨[bits .and .u8 (m % 256) 127], rfl⟩, hJx3⟩⟩
        · obtain ⟨fn, tmps, assign, body, hy, hR⟩ := HY.out ((gl m).take 1) (bits .and .u8 (m % 256) 127) wr hJ.out (by rw [List.length_take, HLEN.out]; omega)
          have HR := Lib.hid hR
          clear hR
          gi_wp2
          refine HR.out.mono ?_
          rintro e W3 (⟨rfl, hJ3, hk3⟩ | ⟨rfl, hJx3⟩)
          · have hc3 : W3.cell? ⟨Bn, 0, none⟩ = some (.int .u32 m) := hk3 _ hc
            have HE : (gl m).take 2 = (gl m).take 1 ++ [bits .and .u8 (m % 256) 127] := by rw [hg.out]; rfl
            have HJ3 := Lib.hid (HE ▸ hJ3 : J ((gl m).take 2) W3)
            clear HE
            clear hJ3 hk3
            gi_wp2
            go_end0
            exact ⟨⟨_, rfl⟩, .inl ⟨(gl m).take 2, by rw [hg.out]; rfl, HJ3.out⟩⟩
          · gi_wp2
            go_end0
            exact ⟨⟨_, rfl⟩, .inr ⟨(gl m).take 1 ++ [bits .and .u8 (m % 256) 127], by rw [hg.out]; exact ⟨[], rfl⟩, hJx3⟩⟩
theorem gl_2 (m : Int) (h0 : 0 ≤ m) (h2 : 16384 ≤ m) (h3 : m < 2097152) : gl m = [bits .or .u8 (m / 16384) 128, bits .or .u8 ((m / 128) % 256) 128, bits .and .u8 (m % 256) 127] := by
  unfold gl
  rw [if_neg (by omega), if_neg (by omega), if_pos (by omega)]
  rw [or128 (m / 16384) (by omega) (by omega)]
  rw [or128 ((m / 128) % 256) (by omega) (by omega)]
  rw [and127 (m % 256) (by omega) (by omega)]
  refine (List.cons.injEq _ _ _ _).mpr ⟨by omega, ?_⟩
  refine (List.cons.injEq _ _ _ _).mpr ⟨by omega, ?_⟩
  refine (List.cons.injEq _ _ _ _).mpr ⟨by omega, rfl⟩
set_option maxHeartbeats 4000000 in
theorem groups1_2 (F : Fence) (n : Nat) (hg1 : F.fn 36) (hro : F.round = none) (hn : 1 ≤ n) (l Bn : Nat) (m : Int) (h0 : 0 ≤ m) (h2 : 16384 ≤ m) (h3 : m < 2097152) (J Jx : List Int → World → Prop)
    (hY : ∀ pre x W, J pre W → pre.length < (gl m).length → YieldAt F (n - 1) Tryd.prog l #[.int .u8 x] W fun e W' =>
      (e = .returned (.bool true) ∧ J (pre ++ [x]) W' ∧ KeepC Bn W W') ∨ (e = .returned (.bool false) ∧ Jx (pre ++ [x]) W'))
    (W : World) (hBn : W.cell? ⟨Bn, 0, none⟩ = some (.int .u32 m)) (h0' : J [] W) :
    CallsIn F n Tryd.prog 36 #[.func (.yield l) #[] #[], .pointer (some ⟨Bn, 0, none⟩)] W fun e W' => (∃ v, e = .returned v) ∧
      ((∃ ys, ys = gl m ∧ J ys W') ∨ (∃ pre, pre <+: gl m ∧ Jx pre W')) := by
  have hg := Lib.hid (gl_2 m h0 h2 h3)
  have hlen : (gl m).length = 3 := by rw [hg.out]; rfl
  have HLEN := Lib.hid hlen
  clear hlen
  have HY := Lib.hid hY
  clear hY
  refine callsIn_of_wp Tryd.func36 rfl hg1 ?_ hro
  simp only [Tryd.ntmps36, List.size_toArray, List.length_cons, List.length_nil, Nat.reduceAdd, Nat.reduceSub, Array.replicate_succ, Array.replicate_zero, List.push_toArray, List.append_toArray, List.nil_append, List.cons_append]
  gi_wp2
  gi_loopw [3] (fun p wr => ∃ k : Nat, k ≤ 2 ∧ p = .int .i64 (28 - 7 * k : Int) ∧ wr = W) (fun p _ => (intOf p).toNat)
  case atStart => exact ⟨0, by omega, rfl, rfl⟩
  case round =>
    obtain ⟨k, hk, rfl, rfl⟩ := hrel
    rcases (show k = 0 ∨ k = 1 ∨ k = 2 by omega) with rfl | rfl | rfl
    · have g1 : m / 268435456 = 0 := by omega
      gi_wp2
      go_roundw
      case rel => first | exact ⟨1, by omega, rfl, rfl⟩ | exact ⟨1, by omega, rfl, trivial⟩
      case measure => simp [intOf]
    · have g1 : m / 2097152 = 0 := by omega
      gi_wp2
      go_roundw
      case rel => first | exact ⟨2, by omega, rfl, rfl⟩ | exact ⟨2, by omega, rfl, trivial⟩
      case measure => simp [intOf]
    · have g1 : ¬ m / 16384 = 0 := by omega
      gi_wp2
      rw [show (m / 16384 == 0) = false from beq_eq_false_iff_ne.mpr (by omega)]
      try rw [show ((28 : Int) - 7 * ((2 : Nat) : Int)) = 14 from rfl]
      gi_loopw [3] (fun p wr => ∃ j : Nat, j ≤ 2 ∧ p = .int .i64 (14 - 7 * j : Int) ∧ Hid (J ((gl m).take j) wr) ∧ wr.cell? ⟨Bn, 0, none⟩ = some (.int .u32 m)) (fun p _ => (intOf p).toNat)
      case atStart => exact ⟨0, by omega, rfl, Lib.hid h0', hBn⟩
      case round =>
        obtain ⟨j, hj, rfl, hJ, hc⟩ := hrel
        rcases (show j = 0 ∨ j = 1 ∨ j = 2 by omega) with rfl | rfl | rfl
        · obtain ⟨fn, tmps, assign, body, hy, hR⟩ := HY.out ((gl m).take 0) (bits .or .u8 (m / 16384) 128) wr hJ.out (by rw [List.length_take, HLEN.out]; omega)
          have HR := Lib.hid hR
          clear hR
          gi_wp2
          refine HR.out.mono ?_
          rintro e W3 (⟨rfl, hJ3, hk3⟩ | ⟨rfl, hJx3⟩)
          · have hc3 : W3.cell? ⟨Bn, 0, none⟩ = some (.int .u32 m) := hk3 _ hc
            have HE : (gl m).take 1 = (gl m).take 0 ++ [bits .or .u8 (m / 16384) 128] := by rw [hg.out]; rfl
            have HJ3 := Lib.hid (HE ▸ hJ3 : J ((gl m).take 1) W3)
            clear HE
            clear hJ3 hk3
            gi_wp2
            go_roundw
            case rel => exact ⟨1, by omega, rfl, HJ3, hc3⟩
            case measure => simp [intOf]
          · gi_wp2
            refine bodyPost_ret (results_none rfl _ _ _) rfl ?_
            exact ⟨⟨_, rfl⟩, .inr ⟨(gl m).take 0 ++ [bits .or .u8 (m / 16384) 128], by rw [hg.out]; exact ⟨[bits .or .u8 ((m / 128) % 256) 128, bits .and .u8 (m % 256) 127], rfl⟩, hJx3⟩⟩
        · obtain ⟨fn, tmps, assign, body, hy, hR⟩ := HY.out ((gl m).take 1) (bits .or .u8 ((m / 128) % 256) 128) wr hJ.out (by rw [List.length_take, HLEN.out]; omega)
          have HR := Lib.hid hR
          clear hR
          gi_wp2
          refine HR.out.mono ?_
          rintro e W3 (⟨rfl, hJ3, hk3⟩ | ⟨rfl, hJx3⟩)
          · have hc3 : W3.cell? ⟨Bn, 0, none⟩ = some (.int .u32 m) := hk3 _ hc
            have HE : (gl m).take 2 = (gl m).take 1 ++ [bits .or .u8 ((m / 128) % 256) 128] := by rw [hg.out]; rfl
            have HJ3 := Lib.hid (HE ▸ hJ3 : J ((gl m).take 2) W3)
            clear HE
            clear hJ3 hk3
            gi_wp2
            go_roundw
            case rel => exact ⟨2, by omega, rfl, HJ3, hc3⟩
            case measure => simp [intOf]
          · gi_wp2
            refine bodyPost_ret (results_none rfl _ _ _) rfl ?_
            exact ⟨⟨_, rfl⟩, .inr ⟨(gl m).take 1 ++ [bits .or .u8 ((m / 128) % 256) 128], by rw [hg.out]; exact ⟨[bits .and .u8 (m % 256) 127], rfl⟩, hJx3⟩⟩
        · obtain ⟨fn, tmps, assign, body, hy, hR⟩ := HY.out ((gl m).take 2) (bits .and .u8 (m % 256) 127) wr hJ.out (by rw [List.length_take, HLEN.out]; omega)
          have HR := Lib.hid hR
          clear hR
          gi_wp2
          refine HR.out.mono ?_
          rintro e W3 (⟨rfl, hJ3, hk3⟩ | ⟨rfl, hJx3⟩)
          · have hc3 : W3.cell? ⟨Bn, 0, none⟩ = some (.int .u32 m) := hk3 _ hc
            have HE : (gl m).take 3 = (gl m).take 2 ++ [bits .and .u8 (m % 256) 127] := by rw [hg.out]; rfl
            have HJ3 := Lib.hid (HE ▸ hJ3 : J ((gl m).take 3) W3)
            clear HE
            clear hJ3 hk3
            gi_wp2
            go_end0
            exact ⟨⟨_, rfl⟩, .inl ⟨(gl m).take 3, by rw [hg.out]; rfl, HJ3.out⟩⟩
          · gi_wp2
            go_end0
            exact ⟨⟨_, rfl⟩, .inr ⟨(gl m).take 2 ++ [bits .and .u8 (m % 256) 127], by rw [hg.out]; exact ⟨[], rfl⟩, hJx3⟩⟩
theorem gl_3 (m : Int) (h0 : 0 ≤ m) (h2 : 2097152 ≤ m) (h3 : m < 268435456) : gl m = [bits .or .u8 (m / 2097152) 128, bits .or .u8 ((m / 16384) % 256) 128, bits .or .u8 ((m / 128) % 256) 128, bits .and .u8 (m % 256) 127] := by
  unfold gl
  rw [if_neg (by omega), if_neg (by omega), if_neg (by omega), if_pos (by omega)]
  rw [or128 (m / 2097152) (by omega) (by omega)]
  rw [or128 ((m / 16384) % 256) (by omega) (by omega)]
  rw [or128 ((m / 128) % 256) (by omega) (by omega)]
  rw [and127 (m % 256) (by omega) (by omega)]
  refine (List.cons.injEq _ _ _ _).mpr ⟨by omega, ?_⟩
  refine (List.cons.injEq _ _ _ _).mpr ⟨by omega, ?_⟩
  refine (List.cons.injEq _ _ _ _).mpr ⟨by omega, ?_⟩
  refine (List.cons.injEq _ _ _ _).mpr ⟨by omega, rfl⟩
set_option maxHeartbeats 4000000 in
theorem groups1_3 (F : Fence) (n : Nat) (hg1 : F.fn 36) (hro : F.round = none) (hn : 1 ≤ n) (l Bn : Nat) (m : Int) (h0 : 0 ≤ m) (h2 : 2097152 ≤ m) (h3 : m < 268435456) (J Jx : List Int → World → Prop)
    (hY : ∀ pre x W, J pre W → pre.length < (gl m).length → YieldAt F (n - 1) Tryd.prog l #[.int .u8 x] W fun e W' =>
      (e = .returned (.bool true) ∧ J (pre ++ [x]) W' ∧ KeepC Bn W W') ∨ (e = .returned (.bool false) ∧ Jx (pre ++ [x]) W'))
    (W : World) (hBn : W.cell? ⟨Bn, 0, none⟩ = some (.int .u32 m)) (h0' : J [] W) :
    CallsIn F n Tryd.prog 36 #[.func (.yield l) #[] #[], .pointer (some ⟨Bn, 0, none⟩)] W fun e W' => (∃ v, e = .returned v) ∧
      ((∃ ys, ys = gl m ∧ J ys W') ∨ (∃ pre, pre <+: gl m ∧ Jx pre W')) := by
  have hg := Lib.hid (gl_3 m h0 h2 h3)
  have hlen : (gl m).length = 4 := by rw [hg.out]; rfl
  have HLEN := Lib.hid hlen
  clear hlen
  have HY := Lib.hid hY
  clear hY
  refine callsIn_of_wp Tryd.func36 rfl hg1 ?_ hro
  simp only [Tryd.ntmps36, List.size_toArray, List.length_cons, List.length_nil, Nat.reduceAdd, Nat.reduceSub, Array.replicate_succ, Array.replicate_zero, List.push_toArray, List.append_toArray, List.nil_append, List.cons_append]
  gi_wp2
  gi_loopw [3] (fun p wr => ∃ k : Nat, k ≤ 1 ∧ p = .int .i64 (28 - 7 * k : Int) ∧ wr = W) (fun p _ => (intOf p).toNat)
  case atStart => exact ⟨0, by omega, rfl, rfl⟩
  case round =>
    obtain ⟨k, hk, rfl, rfl⟩ := hrel
    rcases (show k = 0 ∨ k = 1 by omega) with rfl | rfl
    · have g1 : m / 268435456 = 0 := by omega
      gi_wp2
      go_roundw
      case rel => first | exact ⟨1, by omega, rfl, rfl⟩ | exact ⟨1, by omega, rfl, trivial⟩
      case measure => simp [intOf]
    · have g1 : ¬ m / 2097152 = 0 := by omega
      gi_wp2
      rw [show (m / 2097152 == 0) = false from beq_eq_false_iff_ne.mpr (by omega)]
      try rw [show ((28 : Int) - 7 * ((1 : Nat) : Int)) = 21 from rfl]
      gi_loopw [3] (fun p wr => ∃ j : Nat, j ≤ 3 ∧ p = .int .i64 (21 - 7 * j : Int) ∧ Hid (J ((gl m).take j) wr) ∧ wr.cell? ⟨Bn, 0, none⟩ = some (.int .u32 m)) (fun p _ => (intOf p).toNat)
      case atStart => exact ⟨0, by omega, rfl, Lib.hid h0', hBn⟩
      case round =>
        obtain ⟨j, hj, rfl, hJ, hc⟩ := hrel
        rcases (show j = 0 ∨ j = 1 ∨ j = 2 ∨ j = 3 by omega) with rfl | rfl | rfl | rfl
        · obtain ⟨fn, tmps, assign, body, hy, hR⟩ := HY.out ((gl m).take 0) (bits .or .u8 (m / 2097152) 128) wr hJ.out (by rw [List.length_take, HLEN.out]; omega)
          have HR := Lib.hid hR
          clear hR
          gi_wp2
          refine HR.out.mono ?_
          rintro e W3 (⟨rfl, hJ3, hk3⟩ | ⟨rfl, hJx3⟩)
          · have hc3 : W3.cell? ⟨Bn, 0, none⟩ = some (.int .u32 m) := hk3 _ hc
            have HE : (gl m).take 1 = (gl m).take 0 ++ [bits .or .u8 (m / 2097152) 128] := by rw [hg.out]; rfl
            have HJ3 := Lib.hid (HE ▸ hJ3 : J ((gl m).take 1) W3)
            clear HE
            clear hJ3 hk3
            gi_wp2
            go_roundw
            case rel => exact ⟨1, by omega, rfl, HJ3, hc3⟩
            case measure => simp [intOf]
          · gi_wp2
            refine bodyPost_ret (results_none rfl _ _ _) rfl ?_
            exact ⟨⟨_, rfl⟩, .inr ⟨(gl m).take 0 ++ [bits .or .u8 (m / 2097152) 128], by rw [hg.out]; exact ⟨[bits .or .u8 ((m / 16384) % 256) 128, bits .or .u8 ((m / 128) % 256) 128, bits .and .u8 (m % 256) 127], rfl⟩, hJx3⟩⟩
        · obtain ⟨fn, tmps, assign, body, hy, hR⟩ := HY.out ((gl m).take 1) (bits .or .u8 ((m / 16384) % 256) 128) wr hJ.out (by rw [List.length_take, HLEN.out]; omega)
          have HR := Lib.hid hR
          clear hR
          gi_wp2
          refine HR.out.mono ?_
          rintro e W3 (⟨rfl, hJ3, hk3⟩ | ⟨rfl, hJx3⟩)
          · have hc3 : W3.cell? ⟨Bn, 0, none⟩ = some (.int .u32 m) := hk3 _ hc
            have HE : (gl m).take 2 = (gl m).take 1 ++ [bits .or .u8 ((m / 16384) % 256) 128] := by rw [hg.out]; rfl
            have HJ3 := Lib.hid (HE ▸ hJ3 : J ((gl m).take 2) W3)
            clear HE
            clear hJ3 hk3
            gi_wp2
            go_roundw
            case rel => exact ⟨2, by omega, rfl, HJ3, hc3⟩
            case measure => simp [intOf]
          · gi_wp2
            refine bodyPost_ret (results_none rfl _ _ _) rfl ?_
            exact ⟨⟨_, rfl⟩, .inr ⟨(gl m).take 1 ++ [bits .or .u8 ((m / 16384) % 256) 128], by rw [hg.out]; exact ⟨[bits .or .u8 ((m / 128) % 256) 128, bits .and .u8 (m % 256) 127], rfl⟩, hJx3⟩⟩
        · obtain ⟨fn, tmps, assign, body, hy, hR⟩ := HY.out ((gl m).take 2) (bits .or .u8 ((m / 128) % 256) 128) wr hJ.out (by rw [List.length_take, HLEN.out]; omega)
          have HR := Lib.hid hR
          clear hR
          gi_wp2
          refine HR.out.mono ?_
          rintro e W3 (⟨rfl, hJ3, hk3⟩ | ⟨rfl, hJx3⟩)
          · have hc3 : W3.cell? ⟨Bn, 0, none⟩ = some (.int .u32 m) := hk3 _ hc
            have HE : (gl m).take 3 = (gl m).take 2 ++ [bits .or .u8 ((m / 128) % 256) 128] := by rw [hg.out]; rfl
            have HJ3 := Lib.hid (HE ▸ hJ3 : J ((gl m).take 3) W3)
            clear HE
            clear hJ3 hk3
            gi_wp2
            go_roundw
            case rel => exact ⟨3, by omega, rfl, HJ3, hc3⟩
            case measure => simp [intOf]
          · gi_wp2
            refine bodyPost_ret (results_none rfl _ _ _) rfl ?_
            exact ⟨⟨_, rfl⟩, .inr ⟨(gl m).take 2 ++ [bits .or .u8 ((m / 128) % 256) 128], by rw [hg.out]; exact ⟨[bits .and .u8 (m % 256) 127], rfl⟩, hJx3⟩⟩
        · obtain ⟨fn, tmps, assign, body, hy, hR⟩ := HY.out ((gl m).take 3) (bits .and .u8 (m % 256) 127) wr hJ.out (by rw [List.length_take, HLEN.out]; omega)
          have HR := Lib.hid hR
          clear hR
          gi_wp2
          refine HR.out.mono ?_
          rintro e W3 (⟨rfl, hJ3, hk3⟩ | ⟨rfl, hJx3⟩)
          · have hc3 : W3.cell? ⟨Bn, 0, none⟩ = some (.int .u32 m) := hk3 _ hc
            have HE : (gl m).take 4 = (gl m).take 3 ++ [bits .and .u8 (m % 256) 127] := by rw [hg.out]; rfl
            have HJ3 := Lib.hid (HE ▸ hJ3 : J ((gl m).take 4) W3)
            clear HE
            clear hJ3 hk3
            gi_wp2
            go_end0
            exact ⟨⟨_, rfl⟩, .inl ⟨(gl m).take 4, by rw [hg.out]; rfl, HJ3.out⟩⟩
          · gi_wp2
            go_end0
            exact ⟨⟨_, rfl⟩, .inr ⟨(gl m).take 3 ++ [bits .and .u8 (m % 256) 127], by rw [hg.out]; exact ⟨[], rfl⟩, hJx3⟩⟩
theorem gl_4 (m : Int) (h0 : 0 ≤ m) (h2 : 268435456 ≤ m) (h3 : m < 4294967296) : gl m = [bits .or .u8 (m / 268435456) 128, bits .or .u8 ((m / 2097152) % 256) 128, bits .or .u8 ((m / 16384) % 256) 128, bits .or .u8 ((m / 128) % 256) 128, bits .and .u8 (m % 256) 127] := by
  unfold gl
  rw [if_neg (by omega), if_neg (by omega), if_neg (by omega), if_neg (by omega)]
  rw [or128 (m / 268435456) (by omega) (by omega)]
  rw [or128 ((m / 2097152) % 256) (by omega) (by omega)]
  rw [or128 ((m / 16384) % 256) (by omega) (by omega)]
  rw [or128 ((m / 128) % 256) (by omega) (by omega)]
  rw [and127 (m % 256) (by omega) (by omega)]
  refine (List.cons.injEq _ _ _ _).mpr ⟨by omega, ?_⟩
  refine (List.cons.injEq _ _ _ _).mpr ⟨by omega, ?_⟩
  refine (List.cons.injEq _ _ _ _).mpr ⟨by omega, ?_⟩
  refine (List.cons.injEq _ _ _ _).mpr ⟨by omega, ?_⟩
  refine (List.cons.injEq _ _ _ _).mpr ⟨by omega, rfl⟩
set_option maxHeartbeats 4000000 in
theorem groups1_4 (F : Fence) (n : Nat) (hg1 : F.fn 36) (hro : F.round = none) (hn : 1 ≤ n) (l Bn : Nat) (m : Int) (h0 : 0 ≤ m) (h2 : 268435456 ≤ m) (h3 : m < 4294967296) (J Jx : List Int → World → Prop)
    (hY : ∀ pre x W, J pre W → pre.length < (gl m).length → YieldAt F (n - 1) Tryd.prog l #[.int .u8 x] W fun e W' =>
      (e = .returned (.bool true) ∧ J (pre ++ [x]) W' ∧ KeepC Bn W W') ∨ (e = .returned (.bool false) ∧ Jx (pre ++ [x]) W'))
    (W : World) (hBn : W.cell? ⟨Bn, 0, none⟩ = some (.int .u32 m)) (h0' : J [] W) :
    CallsIn F n Tryd.prog 36 #[.func (.yield l) #[] #[], .pointer (some ⟨Bn, 0, none⟩)] W fun e W' => (∃ v, e = .returned v) ∧
      ((∃ ys, ys = gl m ∧ J ys W') ∨ (∃ pre, pre <+: gl m ∧ Jx pre W')) := by
  have hg := Lib.hid (gl_4 m h0 h2 h3)
  have hlen : (gl m).length = 5 := by rw [hg.out]; rfl
  have HLEN := Lib.hid hlen
  clear hlen
  have HY := Lib.hid hY
  clear hY
  refine callsIn_of_wp Tryd.func36 rfl hg1 ?_ hro
  simp only [Tryd.ntmps36, List.size_toArray, List.length_cons, List.length_nil, Nat.reduceAdd, Nat.reduceSub, Array.replicate_succ, Array.replicate_zero, List.push_toArray, List.append_toArray, List.nil_append, List.cons_append]
  gi_wp2
  gi_loopw [3] (fun p wr => ∃ k : Nat, k ≤ 0 ∧ p = .int .i64 (28 - 7 * k : Int) ∧ wr = W) (fun p _ => (intOf p).toNat)
  case atStart => exact ⟨0, by omega, rfl, rfl⟩
  case round =>
    obtain ⟨k, hk, rfl, rfl⟩ := hrel
    obtain rfl : k = 0 := by omega
    have g1 : ¬ m / 268435456 = 0 := by omega
    gi_wp2
    rw [show (m / 268435456 == 0) = false from beq_eq_false_iff_ne.mpr (by omega)]
    try rw [show ((28 : Int) - 7 * ((0 : Nat) : Int)) = 28 from rfl]
    gi_loopw [3] (fun p wr => ∃ j : Nat, j ≤ 4 ∧ p = .int .i64 (28 - 7 * j : Int) ∧ Hid (J ((gl m).take j) wr) ∧ wr.cell? ⟨Bn, 0, none⟩ = some (.int .u32 m)) (fun p _ => (intOf p).toNat)
    case atStart => exact ⟨0, by omega, rfl, Lib.hid h0', hBn⟩
    case round =>
      obtain ⟨j, hj, rfl, hJ, hc⟩ := hrel
      rcases (show j = 0 ∨ j = 1 ∨ j = 2 ∨ j = 3 ∨ j = 4 by omega) with rfl | rfl | rfl | rfl | rfl
      · obtain ⟨fn, tmps, assign, body, hy, hR⟩ := HY.out ((gl m).take 0) (bits .or .u8 (m / 268435456) 128) wr hJ.out (by rw [List.length_take, HLEN.out]; omega)
        have HR := Lib.hid hR
        clear hR
        gi_wp2
        refine HR.out.mono ?_
        rintro e W3 (⟨rfl, hJ3, hk3⟩ | ⟨rfl, hJx3⟩)
        · have hc3 : W3.cell? ⟨Bn, 0, none⟩ = some (.int .u32 m) := hk3 _ hc
          have HE : (gl m).take 1 = (gl m).take 0 ++ [bits .or .u8 (m / 268435456) 128] := by rw [hg.out]; rfl
          have HJ3 := Lib.hid (HE ▸ hJ3 : J ((gl m).take 1) W3)
          clear HE
          clear hJ3 hk3
          gi_wp2
          go_roundw
          case rel => exact ⟨1, by omega, rfl, HJ3, hc3⟩
          case measure => simp [intOf]
        · gi_wp2
          refine bodyPost_ret (results_none rfl _ _ _) rfl ?_
          exact ⟨⟨_, rfl⟩, .inr ⟨(gl m).take 0 ++ [bits .or .u8 (m / 268435456) 128], by rw [hg.out]; exact ⟨[bits .or .u8 ((m / 2097152) % 256) 128, bits .or .u8 ((m / 16384) % 256) 128, bits .or .u8 ((m / 128) % 256) 128, bits .and .u8 (m % 256) 127], rfl⟩, hJx3⟩⟩
      · obtain ⟨fn, tmps, assign, body, hy, hR⟩ := HY.out ((gl m).take 1) (bits .or .u8 ((m / 2097152) % 256) 128) wr hJ.out (by rw [List.length_take, HLEN.out]; omega)
        have HR := Lib.hid hR
        clear hR
        gi_wp2
        refine HR.out.mono ?_
        rintro e W3 (⟨rfl, hJ3, hk3⟩ | ⟨rfl, hJx3⟩)
        · have hc3 : W3.cell? ⟨Bn, 0, none⟩ = some (.int .u32 m) := hk3 _ hc
          have HE : (gl m).take 2 = (gl m).take 1 ++ [bits .or .u8 ((m / 2097152) % 256) 128] := by rw [hg.out]; rfl
          have HJ3 := Lib.hid (HE ▸ hJ3 : J ((gl m).take 2) W3)
          clear HE
          clear hJ3 hk3
          gi_wp2
          go_roundw
          case rel => exact ⟨2, by omega, rfl, HJ3, hc3⟩
          case measure => simp [intOf]
        · gi_wp2
          refine bodyPost_ret (results_none rfl _ _ _) rfl ?_
          exact ⟨⟨_, rfl⟩, .inr ⟨(gl m).take 1 ++ [bits .or .u8 ((m / 2097152) % 256) 128], by rw [hg.out]; exact ⟨[bits .or .u8 ((m / 16384) % 256) 128, bits .or .u8 ((m / 128) % 256) 128, bits .and .u8 (m % 256) 127], rfl⟩, hJx3⟩⟩
      · obtain ⟨fn, tmps, assign, body, hy, hR⟩ := HY.out ((gl m).take 2) (bits .or .u8 ((m / 16384) % 256) 128) wr hJ.out (by rw [List.length_take, HLEN.out]; omega)
        have HR := Lib.hid hR
        clear hR
        gi_wp2
        refine HR.out.mono ?_
        rintro e W3 (⟨rfl, hJ3, hk3⟩ | ⟨rfl, hJx3⟩)
        · have hc3 : W3.cell? ⟨Bn, 0, none⟩ = some (.int .u32 m) := hk3 _ hc
          have HE : (gl m).take 3 = (gl m).take 2 ++ [bits .or .u8 ((m / 16384) % 256) 128] := by rw [hg.out]; rfl
          have HJ3 := Lib.hid (HE ▸ hJ3 : J ((gl m).take 3) W3)
          clear HE
          clear hJ3 hk3
          gi_wp2
          go_roundw
          case rel => exact ⟨3, by omega, rfl, HJ3, hc3⟩
          case measure => simp [intOf]
        · gi_wp2
          refine bodyPost_ret (results_none rfl _ _ _) rfl ?_
          exact ⟨⟨_, rfl⟩, .inr ⟨(gl m).take 2 ++ [bits .or .u8 ((m / 16384) % 256) 128], by rw [hg.out]; exact ⟨[bits .or .u8 ((m / 128) % 256) 128, bits .and .u8 (m % 256) 127], rfl⟩, hJx3⟩⟩
      · obtain ⟨fn, tmps, assign, body, hy, hR⟩ := HY.out ((gl m).take 3) (bits .or .u8 ((m / 128) % 256) 128) wr hJ.out (by rw [List.length_take, HLEN.out]; omega)
        have HR := Lib.hid hR
        clear hR
        gi_wp2
        refine HR.out.mono ?_
        rintro e W3 (⟨rfl, hJ3, hk3⟩ | ⟨rfl, hJx3⟩)
        · have hc3 : W3.cell? ⟨Bn, 0, none⟩ = some (.int .u32 m) := hk3 _ hc
          have HE : (gl m).take 4 = (gl m).take 3 ++ [bits .or .u8 ((m / 128) % 256) 128] := by rw [hg.out]; rfl
          have HJ3 := Lib.hid (HE ▸ hJ3 : J ((gl m).take 4) W3)
          clear HE
          clear hJ3 hk3
          gi_wp2
          go_roundw
          case rel => exact ⟨4, by omega, rfl, HJ3, hc3⟩
          case measure => simp [intOf]
        · gi_wp2
          refine bodyPost_ret (results_none rfl _ _ _) rfl ?_
          exact ⟨⟨_, rfl⟩, .inr ⟨(gl m).take 3 ++ [bits .or .u8 ((m / 128) % 256) 128], by rw [hg.out]; exact ⟨[bits .and .u8 (m % 256) 127], rfl⟩, hJx3⟩⟩
      · obtain ⟨fn, tmps, assign, body, hy, hR⟩ := HY.out ((gl m).take 4) (bits .and .u8 (m % 256) 127) wr hJ.out (by rw [List.length_take, HLEN.out]; omega)
        have HR := Lib.hid hR
        clear hR
        gi_wp2
        refine HR.out.mono ?_
        rintro e W3 (⟨rfl, hJ3, hk3⟩ | ⟨rfl, hJx3⟩)
        · have hc3 : W3.cell? ⟨Bn, 0, none⟩ = some (.int .u32 m) := hk3 _ hc
          have HE : (gl m).take 5 = (gl m).take 4 ++ [bits .and .u8 (m % 256) 127] := by rw [hg.out]; rfl
          have HJ3 := Lib.hid (HE ▸ hJ3 : J ((gl m).take 5) W3)
          clear HE
          clear hJ3 hk3
          gi_wp2
          go_end0
          exact ⟨⟨_, rfl⟩, .inl ⟨(gl m).take 5, by rw [hg.out]; rfl, HJ3.out⟩⟩
        · gi_wp2
          go_end0
          exact ⟨⟨_, rfl⟩, .inr ⟨(gl m).take 4 ++ [bits .and .u8 (m % 256) 127], by rw [hg.out]; exact ⟨[], rfl⟩, hJx3⟩⟩
theorem groups1_in (F : Fence) (n : Nat) (hg1 : F.fn 36) (hro : F.round = none) (hn : 1 ≤ n) (l Bn : Nat) (m : Int) (h0 : 0 ≤ m) (h1 : m < 4294967296) (J Jx : List Int → World → Prop)
    (hY : ∀ pre x W, J pre W → pre.length < (gl m).length → YieldAt F (n - 1) Tryd.prog l #[.int .u8 x] W fun e W' =>
      (e = .returned (.bool true) ∧ J (pre ++ [x]) W' ∧ KeepC Bn W W') ∨ (e = .returned (.bool false) ∧ Jx (pre ++ [x]) W'))
    (W : World) (hBn : W.cell? ⟨Bn, 0, none⟩ = some (.int .u32 m)) (h0' : J [] W) :
    CallsIn F n Tryd.prog 36 #[.func (.yield l) #[] #[], .pointer (some ⟨Bn, 0, none⟩)] W fun e W' => (∃ v, e = .returned v) ∧
      ((∃ ys, ys = gl m ∧ J ys W') ∨ (∃ pre, pre <+: gl m ∧ Jx pre W')) := by
  rcases (show m < 128 ∨ (128 ≤ m ∧ m < 16384) ∨ (16384 ≤ m ∧ m < 2097152) ∨ (2097152 ≤ m ∧ m < 268435456) ∨ (268435456 ≤ m ∧ m < 4294967296) by omega) with h | ⟨h, h'⟩ | ⟨h, h'⟩ | ⟨h, h'⟩ | ⟨h, h'⟩
  · exact groups1_0 F n hg1 hro hn l Bn m h0 h J Jx hY W hBn h0'
  · exact groups1_1 F n hg1 hro hn l Bn m h0 h h' J Jx hY W hBn h0'
  · exact groups1_2 F n hg1 hro hn l Bn m h0 h h' J Jx hY W hBn h0'
  · exact groups1_3 F n hg1 hro hn l Bn m h0 h h' J Jx hY W hBn h0'
  · exact groups1_4 F n hg1 hro hn l Bn m h0 h h' J Jx hY W hBn h0'
/-- groups(m) hands back a value that yields the groups of m, in their order. -/
theorem groups_stops (F : Fence) (n : Nat) (hg1 : F.fn 36) (hro : F.round = none) (hn : 1 ≤ n) (Bn : Nat) (m : Int) (h0 : 0 ≤ m) (h1 : m < 4294967296) (w : World) (hBn : Bn < w.heap.size)
    (hc : w.cell? ⟨Bn, 0, none⟩ = some (.int .u32 m)) :
    SeqStopsK F n Tryd.prog 36 #[.pointer (some ⟨Bn, 0, none⟩)] (fun x : Int => #[Value.int .u8 x]) (KeepC Bn) (fun ys => ys = gl m) (fun pre => pre <+: gl m) (gl m).length w := fun l J Jx W hW _ _ hY h0' =>
  groups1_in F n hg1 hro hn l Bn m h0 h1 J Jx hY W ((hW.cell (p := ⟨Bn, 0, none⟩) hBn).trans hc) h0'
end Go.Proofs.YtacpcagijfacnaaDoor
namespace Go.Proofs.YtacpcagijfacnaaDoor
open Go.RowKit Go.Shelf
open Go.Proofs.YtacpcagijfacnaaDoorW.PrintWords (results_ct rd Ev at_rounds gate_dst gate_store Kd.C_below Kd.C_of_reads Kd.reads_of_C ReadsOf.at_ rdOf blk_new blk_below blk_cell blk_alloc blk_lt blk_frozen blk_drew blk_set Kd.C Kd.int)
set_option linter.unusedSimpArgs false
set_option linter.unusedVariables false
set_option maxRecDepth 50000
def Byt (l : List Int) : Prop := ∀ x ∈ l, 0 ≤ x ∧ x < 256
theorem and127n' : ∀ v : Fin 256, bits .and .u8 ((v.val : Nat) : Int) 127 = ((v.val % 128 : Nat) : Int) := by decide +kernel
theorem and127' (v : Int) (h0 : 0 ≤ v) (h1 : v < 256) : bits .and .u8 v 127 = v % 128 := by
  have := and127n' ⟨v.toNat, by omega⟩
  simp only at this
  rw [show ((v.toNat : Nat) : Int) = v by omega] at this
  rw [this]; omega
theorem u64_or7 {x y : Int} (hx₀ : 0 ≤ x) (hx : x % 128 = 0) (hx₁ : x < 18446744073709551616) (h₀ : 0 ≤ y) (h₁ : y < 128) : bits .or .u64 x y = x + y :=
  bits_join .u64 64 (by decide) (fun n h0 h1 => by rw [IntKind.wrap_u64]; omega) 7 x y hx₀ hx (by omega) h₀ (by omega) (by omega)
/-- The subidentifiers of content octets, or the error. -/
def getL : List Int → List Int → Int → Bool → Except Int (List Int)
  | [], S, n, beg => if beg = true then .ok S else .error 7
  | x :: r, S, n, beg => if beg = true ∧ S.length = 15 then .error 3 else if beg = true ∧ x = 128 then .error 11 else if 4294967295 < n * 128 + x % 128 then .error 3
      else if x < 128 then getL r (S ++ [n * 128 + x % 128]) 0 true else getL r S (n * 128 + x % 128) false
/-- The arcs while they come. -/
def comeX (S : List Int) : List Int := 0 :: (S ++ List.replicate (15 - S.length) 0)
theorem comeX_len (S : List Int) (h : S.length ≤ 15) : (comeX S).length = 16 := by unfold comeX; simp; omega
theorem comeX_set (S : List Int) (v : Int) (h : S.length < 15) : (comeX S).set (1 + S.length) v = comeX (S ++ [v]) := by
  unfold comeX
  rw [Nat.add_comm 1, List.set_cons_succ, List.set_append_right _ _ (Nat.le_refl _), Nat.sub_self, show 15 - S.length = (14 - S.length) + 1 by omega, List.replicate_succ, List.set_cons_zero]
  simp [List.append_assoc]
/-- The arcs of subidentifiers. -/
def getX (S : List Int) : List Int := ((comeX S).set 0 (min (S.getD 0 0 / 40) 2)).set 1 (S.getD 0 0 - 40 * min (S.getD 0 0 / 40) 2)
def getT (l : List Int) : Int × List Int × Int :=
  if l = [] then (0, Z16, 7) else match getL l [] 0 true with
    | .error e => (0, Z16, e)
    | .ok S => (1 + (S.length : Int), getX S, 0)
theorem getT_err {l : List Int} {e : Int} (h0 : l ≠ []) (h : getL l [] 0 true = .error e) : getT l = (0, Z16, e) := by unfold getT; rw [if_neg h0, h]
theorem getT_ok {l S : List Int} (h0 : l ≠ []) (h : getL l [] 0 true = .ok S) : getT l = (1 + (S.length : Int), getX S, 0) := by unfold getT; rw [if_neg h0, h]
/-- What stands while Get works. -/
structure GtS (S : List Int) (w W : World) : Prop where
  b : Below w.heap.size w W
  r : W.heap[w.heap.size]? = some (.cells (oidC 0 Z16) 27 (0, 0))
  o : W.heap[w.heap.size + 1]? = some (.cells (oidC (1 + (S.length : Int)) (comeX S)) 27 (0, 0))
theorem oid_setN (n m : Int) (xs : List Int) : (oidC n xs).setIfInBounds 0 (.int .u8 m) = oidC m xs := rfl
theorem GtS.step {S : List Int} {w W : World} (h : GtS S w W) (v : Int) (hS : S.length < 15) :
    GtS (S ++ [v]) w ((W.setCell ⟨w.heap.size + 1, 1 + (1 + S.length), none⟩ (.int .u32 v)).setCell ⟨w.heap.size + 1, 0, none⟩ (.int .u8 (1 + (S.length : Int) + 1))) := by
  refine ⟨(h.b.setCell (by show _ ≤ w.heap.size + 1; omega) _).setCell (by show _ ≤ w.heap.size + 1; omega) _, ?_, ?_⟩
  · rw [Below.heap_setCell _ _ _ _ (by show w.heap.size ≠ w.heap.size + 1; omega), Below.heap_setCell _ _ _ _ (by show w.heap.size ≠ w.heap.size + 1; omega)]; exact h.r
  · have h1 := blk_set h.o (1 + (1 + S.length)) (.int .u32 v)
    rw [oid_set _ _ _ _ (by rw [comeX_len S (by omega)]; omega), comeX_set S v hS] at h1
    have h2 := blk_set h1 0 (.int .u8 (1 + (S.length : Int) + 1))
    rw [oid_setN] at h2
    rw [h2, List.length_append, List.length_singleton, show (1 + ((S.length + 1 : Nat) : Int)) = 1 + (S.length : Int) + 1 by omega]
theorem getD_bd {S : List Int} (h : ∀ s ∈ S, 0 ≤ s ∧ s ≤ 4294967295) : 0 ≤ S.getD 0 0 ∧ S.getD 0 0 ≤ 4294967295 := by
  cases S with
  | nil => exact ⟨by simp, by simp⟩
  | cons a r => exact h a (by simp)
theorem comeX_1 (S : List Int) : (comeX S).getD 1 0 = S.getD 0 0 := by
  unfold comeX
  cases S <;> rfl
theorem getX_len (S : List Int) (h : S.length ≤ 15) : (getX S).length = 16 := by unfold getX; rw [List.length_set, List.length_set, comeX_len S h]
theorem GtS.fin {S : List Int} {w W : World} (h : GtS S w W) (hS : S.length ≤ 15) : Below w.heap.size w ((W.setCell ⟨w.heap.size + 1, 1, none⟩ (.int .u32 (min (S.getD 0 0 / 40) 2))).setCell ⟨w.heap.size + 1, 2, none⟩ (.int .u32 (S.getD 0 0 - 40 * min (S.getD 0 0 / 40) 2))) ∧
    ((W.setCell ⟨w.heap.size + 1, 1, none⟩ (.int .u32 (min (S.getD 0 0 / 40) 2))).setCell ⟨w.heap.size + 1, 2, none⟩ (.int .u32 (S.getD 0 0 - 40 * min (S.getD 0 0 / 40) 2))).heap[w.heap.size]? = some (.cells (oidC 0 Z16) 27 (0, 0)) ∧
    ((W.setCell ⟨w.heap.size + 1, 1, none⟩ (.int .u32 (min (S.getD 0 0 / 40) 2))).setCell ⟨w.heap.size + 1, 2, none⟩ (.int .u32 (S.getD 0 0 - 40 * min (S.getD 0 0 / 40) 2))).heap[w.heap.size + 1]? = some (.cells (oidC (1 + (S.length : Int)) (getX S)) 27 (0, 0)) := by
  refine ⟨(h.b.setCell (by show _ ≤ w.heap.size + 1; omega) _).setCell (by show _ ≤ w.heap.size + 1; omega) _, ?_, ?_⟩
  · rw [Below.heap_setCell _ _ _ _ (by show w.heap.size ≠ w.heap.size + 1; omega), Below.heap_setCell _ _ _ _ (by show w.heap.size ≠ w.heap.size + 1; omega)]; exact h.r
  · have h1 := blk_set h.o 1 (.int .u32 (min (S.getD 0 0 / 40) 2))
    rw [show (1 : Nat) = 1 + 0 from rfl, oid_set _ _ _ _ (by rw [comeX_len S hS]; omega)] at h1
    have h2 := blk_set h1 2 (.int .u32 (S.getD 0 0 - 40 * min (S.getD 0 0 / 40) 2))
    rw [show (2 : Nat) = 1 + 1 from rfl, oid_set _ _ _ _ (by rw [List.length_set, comeX_len S hS]; omega)] at h2
    exact h2
set_option maxHeartbeats 4000000 in
theorem get_nil (A : Option Addr) (c : Nat) (w : World) : Calls Tryd.prog 24 #[.slice A 0 c] w fun e w' => e = .returned (.tuple #[oidV 0 Z16, .int .i64 7]) ∧ Below w.heap.size w w' := by
  have hb := (Below.refl w.heap.size w).alloc (Nat.le_refl _) (.cells (oidC 0 Z16) 27)
  have hB := blk_new w (.cells (oidC 0 Z16) 27)
  go_enter Tryd.func24, Tryd.ntmps24
  go_upto_region 1 with fail
  rw [zrow]
  generalize w.alloc (.cells (oidC 0 (List.replicate 16 0)) 27) = W at *
  go_wp2_with ((with_reducible refine gate_store rfl ?_); refine wpList_plain rfl fun K hK => ?_; refine wp_store_row 27 _ _ rfl w.heap.size (oidC 0 Z16) rfl rfl 27 (oidC 0 Z16) hB (oid_info _ _ rfl) rfl (oid_one _ _) ?_; refine hK _ _ ?_)
  refine bodyPost_ret (results_ct rfl _ _ w.heap.size 27 (oidC 0 Z16) (0, 0) _ rfl (setRow_heap _ _ _ _ _ _ hB) Tryd.underlying27 rfl (oid_info _ _ rfl)) rfl ?_
  exact ⟨rfl, below_setRow hb (Nat.le_refl _) _⟩
set_option maxHeartbeats 8000000 in
theorem get_some (A : Option Addr) (c : Nat) (l : List Int) (w : World) (hl0 : l ≠ []) (hl : l.length ≤ 1000000) (hby : Byt l) (hr : Kd.C (Kd.int .u8) w A l.length l) (rn er : Int) (rx : List Int) (hres : getT l = (rn, rx, er)) :
    Calls Tryd.prog 24 #[.slice A l.length c] w fun e w' => e = .returned (.tuple #[oidV rn rx, .int .i64 er]) ∧ Below w.heap.size w w' := by
  have HR := Lib.hid hr
  have HBY := Lib.hid hby
  have HRES := Lib.hid hres
  have h0 : ¬ l.length = 0 := fun h => hl0 (List.length_eq_zero_iff.mp h)
  have h0b : ((l.length : Int) == 0) = false := by simpa using hl0
  have HL0 := Lib.hid hl0
  clear hr hby hres hl0
  have hb := (Below.refl w.heap.size w).alloc (Nat.le_refl _) (.cells (oidC 0 Z16) 27)
  have hB := blk_new w (.cells (oidC 0 Z16) 27)
  have hsz : (w.alloc (.cells (oidC 0 Z16) 27)).heap.size = w.heap.size + 1 := by simp
  go_enter Tryd.func24, Tryd.ntmps24
  go_upto_region 1 with fail
  rw [zrow]
  generalize w.alloc (.cells (oidC 0 (List.replicate 16 0)) 27) = W at *
  have hb2 := hb.alloc (by omega) (.cells (oidC 1 Z16) 27)
  have S0 : Hid (GtS [] w (W.alloc (.cells (oidC 1 Z16) 27))) := ⟨hb2, blk_alloc hB _, by rw [← hsz]; exact blk_new W _⟩
  go_upto_region 7 with fail
  rw [show (#[.int .u8 1, .int .u32 0, .int .u32 0, .int .u32 0, .int .u32 0, .int .u32 0, .int .u32 0, .int .u32 0, .int .u32 0, .int .u32 0, .int .u32 0, .int .u32 0, .int .u32 0, .int .u32 0, .int .u32 0, .int .u32 0, .int .u32 0] : Array Value) = oidC 1 Z16 from rfl]
  generalize W.alloc (.cells (oidC 1 Z16) 27) = W2 at *
  go_loopw [5, 6, 16] (fun n b i wr => ∃ (k : Nat) (S : List Int) (m : Int) (beg : Bool), k ≤ l.length ∧ n = .int .u64 m ∧ b = .bool beg ∧ i = .int .i64 (k : Int) ∧ S.length ≤ 15 ∧ 0 ≤ m ∧ m ≤ 4294967295 ∧ Hid (GtS S w wr) ∧ Hid (getL (l.drop k) S m beg = getL l [] 0 true) ∧ (beg = false → S.length < 15) ∧ Hid (∀ s ∈ S, 0 ≤ s ∧ s ≤ 4294967295)) (fun _ _ i _ => l.length - (intOf i).toNat)
  case atStart => exact ⟨0, [], 0, true, Nat.zero_le _, rfl, rfl, rfl, by simp, by omega, by omega, S0, Lib.hid rfl, (fun h => by cases h), (by intro s hs; cases hs)⟩
  case round =>
    obtain ⟨k, S, m, beg, hk, rfl, rfl, rfl, hS, m0, m1, T, hc, hF, HB⟩ := hrel
    by_cases hlt : k < l.length
    · have hx := HBY.out (l.getD k 0) (by rw [List.getD_eq_getElem?_getD, List.getElem?_eq_getElem hlt, Option.getD_some]; exact List.getElem_mem hlt)
      obtain ⟨ad, rfl, hcl⟩ := (Kd.reads_of_C (enc := Value.int .u8) (d := (0 : Int)) (h1 := fun _ => rfl) (Kd.C_below HR.out T.out.b)).at_ (k : Int) (by omega) (by omega)
      simp only [Int.toNat_natCast, rdOf] at hcl
      have hd := hc.out
      rw [drop_at hlt, getL] at hd
      clear hc
      generalize l.getD k 0 = x at *
      cases beg
      case true =>
        by_cases hS15 : S.length = 15
        · rw [if_pos ⟨rfl, hS15⟩] at hd
          have c0 := (oid_cells T.out.o).1
          rw [hS15, show (1 + ((15 : Nat) : Int)) = 16 from rfl] at c0
          have hE := getT_err HL0.out (hd.symm)
          rw [HRES.out] at hE
          obtain ⟨rfl, rfl, rfl⟩ : rn = 0 ∧ rx = Z16 ∧ er = 3 := by injection hE with h1 h2; injection h2 with h2 h3; exact ⟨h1, h2, h3⟩
          clear hE HRES
          have hR := T.out.r
          have hTb := Lib.hid T.out.b
          go_wp2_with ((with_reducible refine gate_store rfl ?_); refine wpList_plain rfl fun K hK => ?_; refine wp_store_row 27 _ _ rfl w.heap.size (oidC 0 Z16) rfl rfl 27 (oidC 0 Z16) hR (oid_info _ _ rfl) rfl (oid_one _ _) ?_; refine hK _ _ ?_)
          refine bodyPost_ret (results_ct rfl _ _ w.heap.size 27 (oidC 0 Z16) (0, 0) _ rfl (setRow_heap _ _ _ _ _ _ hR) Tryd.underlying27 rfl (oid_info _ _ rfl)) rfl ?_
          exact ⟨rfl, below_setRow hTb.out (Nat.le_refl _) _⟩
        · rw [if_neg (fun h => hS15 h.2)] at hd
          have hS14 : S.length < 15 := by omega
          have c0 := (oid_cells T.out.o).1
          have hne : ¬ (1 + (S.length : Int)) = 16 := by omega
          by_cases h128 : x = 128
          · subst h128
            rw [if_pos ⟨rfl, rfl⟩] at hd
            have hE := getT_err HL0.out (hd.symm)
            rw [HRES.out] at hE
            obtain ⟨rfl, rfl, rfl⟩ : rn = 0 ∧ rx = Z16 ∧ er = 11 := by injection hE with h1 h2; injection h2 with h2 h3; exact ⟨h1, h2, h3⟩
            clear hE HRES
            have hR := T.out.r
            have hTb := Lib.hid T.out.b
            go_wp2_with ((with_reducible refine gate_store rfl ?_); refine wpList_plain rfl fun K hK => ?_; refine wp_store_row 27 _ _ rfl w.heap.size (oidC 0 Z16) rfl rfl 27 (oidC 0 Z16) hR (oid_info _ _ rfl) rfl (oid_one _ _) ?_; refine hK _ _ ?_)
            refine bodyPost_ret (results_ct rfl _ _ w.heap.size 27 (oidC 0 Z16) (0, 0) _ rfl (setRow_heap _ _ _ _ _ _ hR) Tryd.underlying27 rfl (oid_info _ _ rfl)) rfl ?_
            exact ⟨rfl, below_setRow hTb.out (Nat.le_refl _) _⟩
          · clear c0
            have c0 := (oid_cells T.out.o).1
            obtain ⟨v, hv⟩ : ∃ v, v = m * 128 + x % 128 := ⟨_, rfl⟩
            have hand := and127' x hx.1 hx.2
            have hor : bits .or .u64 (m * 128) (x % 128) = v := by rw [hv]; exact u64_or7 (by omega) (by omega) (by omega) (by omega) (by omega)
            have hsh : m * 128 % 18446744073709551616 = m * 128 := by omega
            rw [if_neg (fun h => h128 h.2), ← hv] at hd
            have hv0 : 0 ≤ v := by omega
            by_cases hbig : 4294967295 < v
            · rw [if_pos hbig] at hd
              clear hv
              have hE := getT_err HL0.out (hd.symm)
              rw [HRES.out] at hE
              obtain ⟨rfl, rfl, rfl⟩ : rn = 0 ∧ rx = Z16 ∧ er = 3 := by injection hE with h1 h2; injection h2 with h2 h3; exact ⟨h1, h2, h3⟩
              clear hE HRES
              have hR := T.out.r
              have hTb := Lib.hid T.out.b
              go_wp2_with ((with_reducible refine gate_store rfl ?_); refine wpList_plain rfl fun K hK => ?_; refine wp_store_row 27 _ _ rfl w.heap.size (oidC 0 Z16) rfl rfl 27 (oidC 0 Z16) hR (oid_info _ _ rfl) rfl (oid_one _ _) ?_; refine hK _ _ ?_)
              refine bodyPost_ret (results_ct rfl _ _ w.heap.size 27 (oidC 0 Z16) (0, 0) _ rfl (setRow_heap _ _ _ _ _ _ hR) Tryd.underlying27 rfl (oid_info _ _ rfl)) rfl ?_
              exact ⟨rfl, below_setRow hTb.out (Nat.le_refl _) _⟩
            · rw [if_neg hbig] at hd
              have hvw : v % 4294967296 = v := by omega
              by_cases hx2 : x < 128
              · rw [if_pos hx2] at hd
                clear hv
                have HD := Lib.hid hd
                clear hd
                have c0 := (oid_cells T.out.o).1
                have f0 := blk_frozen T.out.o 0
                have cS := (oid_cells T.out.o).2 (1 + S.length) (by rw [comeX_len S hS]; omega)
                have fS := blk_frozen T.out.o (1 + (1 + S.length))
                have hT := Lib.hid (T.out.step v hS14)
                have HB2 : Hid (∀ s ∈ S ++ [v], 0 ≤ s ∧ s ≤ 4294967295) := by
                  intro s hs
                  rcases List.mem_append.mp hs with hs | hs
                  · exact HB.out s hs
                  · obtain rfl := List.mem_singleton.mp hs
                    exact ⟨hv0, by omega⟩
                have hu8 : (1 + (S.length : Int) + 1) % 256 = 1 + (S.length : Int) + 1 := by omega
                go_wp2
                go_round
                case rel => exact ⟨k + 1, S ++ [v], 0, true, by omega, rfl, rfl, by go_num, by simp; omega, by omega, by omega, hT, HD, (fun h => by cases h), HB2⟩
                case measure => simp [intOf]; omega
              · rw [if_neg hx2] at hd
                clear hv
                have HD := Lib.hid hd
                clear hd
                go_wp2
                go_round
                case rel => exact ⟨k + 1, S, v, false, by omega, rfl, rfl, by go_num, hS, by omega, by omega, T, HD, fun _ => hS14, HB⟩
                case measure => simp [intOf]; omega
      case false =>
        have hS14 : S.length < 15 := hF rfl
        obtain ⟨v, hv⟩ : ∃ v, v = m * 128 + x % 128 := ⟨_, rfl⟩
        have hand := and127' x hx.1 hx.2
        have hor : bits .or .u64 (m * 128) (x % 128) = v := by rw [hv]; exact u64_or7 (by omega) (by omega) (by omega) (by omega) (by omega)
        have hsh : m * 128 % 18446744073709551616 = m * 128 := by omega
        rw [if_neg (fun h => by cases h.1), if_neg (fun h => by cases h.1), ← hv] at hd
        have hv0 : 0 ≤ v := by omega
        by_cases hbig : 4294967295 < v
        · rw [if_pos hbig] at hd
          clear hv
          have hE := getT_err HL0.out (hd.symm)
          rw [HRES.out] at hE
          obtain ⟨rfl, rfl, rfl⟩ : rn = 0 ∧ rx = Z16 ∧ er = 3 := by injection hE with h1 h2; injection h2 with h2 h3; exact ⟨h1, h2, h3⟩
          clear hE HRES
          have hR := T.out.r
          have hTb := Lib.hid T.out.b
          go_wp2_with ((with_reducible refine gate_store rfl ?_); refine wpList_plain rfl fun K hK => ?_; refine wp_store_row 27 _ _ rfl w.heap.size (oidC 0 Z16) rfl rfl 27 (oidC 0 Z16) hR (oid_info _ _ rfl) rfl (oid_one _ _) ?_; refine hK _ _ ?_)
          refine bodyPost_ret (results_ct rfl _ _ w.heap.size 27 (oidC 0 Z16) (0, 0) _ rfl (setRow_heap _ _ _ _ _ _ hR) Tryd.underlying27 rfl (oid_info _ _ rfl)) rfl ?_
          exact ⟨rfl, below_setRow hTb.out (Nat.le_refl _) _⟩
        · rw [if_neg hbig] at hd
          have hvw : v % 4294967296 = v := by omega
          by_cases hx2 : x < 128
          · rw [if_pos hx2] at hd
            clear hv
            have HD := Lib.hid hd
            clear hd
            have c0 := (oid_cells T.out.o).1
            have f0 := blk_frozen T.out.o 0
            have cS := (oid_cells T.out.o).2 (1 + S.length) (by rw [comeX_len S hS]; omega)
            have fS := blk_frozen T.out.o (1 + (1 + S.length))
            have hT := Lib.hid (T.out.step v hS14)
            have HB2 : Hid (∀ s ∈ S ++ [v], 0 ≤ s ∧ s ≤ 4294967295) := by
              intro s hs
              rcases List.mem_append.mp hs with hs | hs
              · exact HB.out s hs
              · obtain rfl := List.mem_singleton.mp hs
                exact ⟨hv0, by omega⟩
            have hu8 : (1 + (S.length : Int) + 1) % 256 = 1 + (S.length : Int) + 1 := by omega
            go_wp2
            go_round
            case rel => exact ⟨k + 1, S ++ [v], 0, true, by omega, rfl, rfl, by go_num, by simp; omega, by omega, by omega, hT, HD, (fun h => by cases h), HB2⟩
            case measure => simp [intOf]; omega
          · rw [if_neg hx2] at hd
            clear hv
            have HD := Lib.hid hd
            clear hd
            go_wp2
            go_round
            case rel => exact ⟨k + 1, S, v, false, by omega, rfl, rfl, by go_num, hS, by omega, by omega, T, HD, fun _ => hS14, HB⟩
            case measure => simp [intOf]; omega
    · obtain rfl : k = l.length := by omega
      have hd := hc.out
      rw [List.drop_length, getL] at hd
      clear hc
      cases beg
      case false =>
        rw [if_neg (by decide)] at hd
        have hE := getT_err HL0.out (hd.symm)
        rw [HRES.out] at hE
        obtain ⟨rfl, rfl, rfl⟩ : rn = 0 ∧ rx = Z16 ∧ er = 7 := by injection hE with h1 h2; injection h2 with h2 h3; exact ⟨h1, h2, h3⟩
        clear hE HRES
        have hR := T.out.r
        have hTb := Lib.hid T.out.b
        go_wp2_with ((with_reducible refine gate_store rfl ?_); refine wpList_plain rfl fun K hK => ?_; refine wp_store_row 27 _ _ rfl w.heap.size (oidC 0 Z16) rfl rfl 27 (oidC 0 Z16) hR (oid_info _ _ rfl) rfl (oid_one _ _) ?_; refine hK _ _ ?_)
        refine bodyPost_ret (results_ct rfl _ _ w.heap.size 27 (oidC 0 Z16) (0, 0) _ rfl (setRow_heap _ _ _ _ _ _ hR) Tryd.underlying27 rfl (oid_info _ _ rfl)) rfl ?_
        exact ⟨rfl, below_setRow hTb.out (Nat.le_refl _) _⟩
      case true =>
        rw [if_pos rfl] at hd
        have hE := getT_ok HL0.out hd.symm
        rw [HRES.out] at hE
        obtain ⟨rfl, rfl, rfl⟩ : rn = 1 + (S.length : Int) ∧ rx = getX S ∧ er = 0 := by injection hE with h1 h2; injection h2 with h2 h3; exact ⟨h1, h2, h3⟩
        clear hE HRES hd
        have hs0 : 0 ≤ S.getD 0 0 ∧ S.getD 0 0 ≤ 4294967295 := getD_bd HB.out
        have HX := Lib.hid (getX_len S hS)
        obtain ⟨hb9, hR9, hO9⟩ := T.out.fin hS
        have HB9 := Lib.hid hb9
        clear hb9
        have c1 := (oid_cells T.out.o).2 1 (by rw [comeX_len S hS]; omega)
        have c1' := (oid_cells T.out.o).2 0 (by rw [comeX_len S hS]; omega)
        rw [comeX_1] at c1
        have f1 := blk_frozen T.out.o 1
        have f2 := blk_frozen T.out.o 2
        generalize S.getD 0 0 = s0 at *
        have ht : Int.tdiv s0 40 = s0 / 40 := Int.tdiv_eq_ediv_of_nonneg hs0.1
        generalize hq : min (s0 / 40) 2 = q at *
        have hq0 : 0 ≤ q ∧ q ≤ 2 ∧ 40 * q ≤ s0 := by omega
        have hw1 : 40 * q % 4294967296 = 40 * q := by omega
        have hw2 : (s0 - 40 * q) % 4294967296 = s0 - 40 * q := by omega
        go_upto_region 26 with fail
        generalize ((wr.setCell ⟨w.heap.size + 1, 1, none⟩ (.int .u32 q)).setCell ⟨w.heap.size + 1, 2, none⟩ (.int .u32 (s0 - 40 * q))) = W9 at *
        go_wp2_with (first
          | ((with_reducible refine gate_dst (N := 78) rfl ?_); refine wpList_load_row rfl 27 _ rfl (w.heap.size + 1) rfl 27 (oidC (1 + (S.length : Int)) (getX S)) (0, 0) _ hO9 Tryd.underlying27 rfl (oid_info _ _ HX.out) ?_)
          | ((with_reducible refine gate_store rfl ?_); refine wpList_plain rfl fun K hK => ?_; refine wp_store_row 27 _ _ rfl w.heap.size (oidC (1 + (S.length : Int)) (getX S)) rfl rfl 27 (oidC 0 Z16) hR9 (oid_info _ _ HX.out) (by simp [HX.out]) (oid_one _ _) ?_; refine hK _ _ ?_))
        refine bodyPost_ret (results_ct rfl _ _ w.heap.size 27 (oidC (1 + (S.length : Int)) (getX S)) (0, 0) _ rfl (setRow_heap _ _ _ _ _ _ hR9) Tryd.underlying27 rfl (oid_info _ _ HX.out)) rfl ?_
        exact ⟨rfl, below_setRow HB9.out (Nat.le_refl _) _⟩
/-- GET, of any octets. -/
theorem get_any (A : Option Addr) (c : Nat) (l : List Int) (w : World) (hl : l.length ≤ 1000000) (hby : Byt l) (hr : Kd.C (Kd.int .u8) w A l.length l) :
    Calls Tryd.prog 24 #[.slice A l.length c] w fun e w' => e = .returned (.tuple #[oidV (getT l).1 (getT l).2.1, .int .i64 (getT l).2.2]) ∧ Below w.heap.size w w' := by
  by_cases h0 : l = []
  · subst h0
    exact get_nil A c w
  · exact get_some A c l w h0 hl hby hr _ _ _ rfl
end Go.Proofs.YtacpcagijfacnaaDoor
namespace Go.Proofs.YtacpcagijfacnaaDoor
open Go.RowKit Go.Shelf
open Go.Proofs.YtacpcagijfacnaaDoorW.PrintWords (results_ct rd Ev at_rounds gate_dst gate_store Kd.C_below Kd.C_of_reads Kd.reads_of_C ReadsOf.at_ rdOf blk_new blk_below blk_cell blk_alloc blk_lt blk_frozen blk_drew blk_set Kd.C Kd.int Kd.R Kd.R_nil Kd.R_slice Kd.R_reads' Kd.R_append)
set_option linter.unusedSimpArgs false
set_option linter.unusedVariables false
set_option maxRecDepth 50000
theorem info3 : (Tryd.prog.info? 3).map (fun i => (i.zero, i.size, i.bytes)) = some (some (.int .i64 0), 1, 8) := by kernel_rfl
structure RgS (W0 : World) (B : Nat) (v : Value) (S : List Int) (W : World) : Prop where
  b : Below B W0 W
  o : Kd.R (Kd.int .i64) 3 W B (fun _ => True) v S
/-- The arcs as the reference writes them: the first two, and those so far. -/
def xkS (f g : Int) (S : List Int) (k : Nat) : List Int := f :: g :: ((S.drop 1).take (k - 1) ++ List.replicate (15 - k) 0)
theorem xkS_len (f g : Int) (S : List Int) (k : Nat) (h1 : 1 ≤ k) (hk : k ≤ S.length) (h15 : k ≤ 15) : (xkS f g S k).length = 16 := by unfold xkS; simp; omega
theorem xkS_set (f g : Int) (S : List Int) (k : Nat) (h1 : 1 ≤ k) (hk : k < S.length) (h15 : k < 15) : (xkS f g S k).set (k + 1) (S.getD k 0) = xkS f g S (k + 1) := by
  unfold xkS
  obtain ⟨j, rfl⟩ : ∃ j, k = j + 1 := ⟨k - 1, by omega⟩
  rw [List.set_cons_succ, List.set_cons_succ, Nat.add_sub_cancel]
  have e1 : ((S.drop 1).take j).length = j := by simp; omega
  rw [List.set_append_right _ _ (by omega), e1, Nat.sub_self]
  rw [show 15 - (j + 1) = (15 - (j + 1 + 1)) + 1 by omega, List.replicate_succ, List.set_cons_zero, show j + 1 + 1 - 1 = j + 1 by omega, List.take_add_one]
  have e2 : (S.drop 1)[j]? = some (S.getD (j + 1) 0) := by rw [List.getElem?_drop, Nat.add_comm 1, List.getD_eq_getElem?_getD, List.getElem?_eq_getElem hk]; rfl
  rw [e2, Option.toList_some, List.append_assoc]
  rfl
theorem xkS_all (S : List Int) (hS : 1 ≤ S.length) (h15 : S.length ≤ 15) (f g : Int) (hf : f = min (S.getD 0 0 / 40) 2) (hg : g = S.getD 0 0 - 40 * f) : xkS f g S S.length = getX S := by
  unfold xkS getX comeX
  subst hg hf
  match S, hS with
  | a :: r, _ =>
    simp only [List.cons_append, List.set_cons_zero, List.set_cons_succ, List.drop_succ_cons, List.drop_zero, List.length_cons, Nat.add_sub_cancel, List.take_length]
theorem first_two (S : List Int) (hS : 0 < S.length) : (S.getD 0 0 < 80 → min (S.getD 0 0 / 40) 2 = S.getD 0 0 / 40) ∧ (¬ S.getD 0 0 < 80 → min (S.getD 0 0 / 40) 2 = 2) ∧ True := ⟨fun h => by omega, fun h => by omega, trivial⟩
structure RfS (n f g : Int) (S : List Int) (k : Nat) (wr W : World) : Prop where
  b : Below wr.heap.size wr W
  o : W.heap[wr.heap.size]? = some (.cells (oidC n (xkS f g S k)) 27 (0, 0))
theorem RfS.start {n f g : Int} {S : List Int} {wr W : World} (ho : W.heap[wr.heap.size]? = some (.cells (oidC n Z16) 27 (0, 0))) (hb : Below wr.heap.size wr W) (hS : S.length ≤ 15) :
    RfS n f g S 1 wr ((W.setCell ⟨wr.heap.size, 1, none⟩ (.int .u32 f)).setCell ⟨wr.heap.size, 2, none⟩ (.int .u32 g)) := by
  refine ⟨(hb.setCell (Nat.le_refl _) _).setCell (Nat.le_refl _) _, ?_⟩
  have h1 := blk_set ho 1 (.int .u32 f)
  rw [show (1 : Nat) = 1 + 0 from rfl, oid_set _ _ _ _ (by simp)] at h1
  have h2 := blk_set h1 2 (.int .u32 g)
  rw [show (2 : Nat) = 1 + 1 from rfl, oid_set _ _ _ _ (by simp)] at h2
  exact h2
theorem RfS.step {n f g : Int} {S : List Int} {k : Nat} {wr W : World} (h : RfS n f g S k wr W) (h1 : 1 ≤ k) (hk : k < S.length) (h15 : k < 15) :
    RfS n f g S (k + 1) wr (W.setCell ⟨wr.heap.size, 1 + (k + 1), none⟩ (.int .u32 (S.getD k 0))) := by
  refine ⟨h.b.setCell (Nat.le_refl _) _, ?_⟩
  have h2 := blk_set h.o (1 + (k + 1)) (.int .u32 (S.getD k 0))
  rw [oid_set _ _ _ _ (by rw [xkS_len f g S k h1 (by omega) (by omega)]; omega), xkS_set f g S k h1 hk h15] at h2
  exact h2
set_option maxHeartbeats 4000000 in
theorem rget_nil (A : Option Addr) (c : Nat) (w : World) : Calls Tryd.prog 9 #[.slice A 0 c] w fun e w' => e = .returned (.tuple #[oidV 0 Z16, .int .i64 7]) ∧ Below w.heap.size w w' := by
  have hb := (Below.refl w.heap.size w).alloc (Nat.le_refl _) (.cells (oidC 0 Z16) 27)
  have hB := blk_new w (.cells (oidC 0 Z16) 27)
  go_enter Tryd.func9, Tryd.ntmps9
  go_upto_region 1 with fail
  rw [zrow]
  generalize w.alloc (.cells (oidC 0 (List.replicate 16 0)) 27) = W at *
  go_upto_region 3 with fail
  go_loopw [4, 5] (fun v i wr => v = .slice none 0 0 ∧ i = .int .i64 0 ∧ wr = W) (fun _ i _ => 0)
  case atStart => exact ⟨rfl, rfl, rfl⟩
  case round =>
    obtain ⟨rfl, rfl, rfl⟩ := hrel
    go_wp2_with ((with_reducible refine gate_store rfl ?_); refine wpList_plain rfl fun K hK => ?_; refine wp_store_row 27 _ _ rfl w.heap.size (oidC 0 Z16) rfl rfl 27 (oidC 0 Z16) hB (oid_info _ _ rfl) rfl (oid_one _ _) ?_; refine hK _ _ ?_)
    refine bodyPost_ret (results_ct rfl _ _ w.heap.size 27 (oidC 0 Z16) (0, 0) _ rfl (setRow_heap _ _ _ _ _ _ hB) Tryd.underlying27 rfl (oid_info _ _ rfl)) rfl ?_
    exact ⟨rfl, below_setRow hb (Nat.le_refl _) _⟩
set_option maxHeartbeats 8000000 in
theorem rget_some (A : Option Addr) (c : Nat) (l : List Int) (w : World) (hl0 : l ≠ []) (hl : l.length ≤ 1000000) (hby : Byt l) (hr : Kd.C (Kd.int .u8) w A l.length l) (rn er : Int) (rx : List Int) (hres : getT l = (rn, rx, er)) :
    Calls Tryd.prog 9 #[.slice A l.length c] w fun e w' => e = .returned (.tuple #[oidV rn rx, .int .i64 er]) ∧ Below w.heap.size w w' := by
  have HR := Lib.hid hr
  have HBY := Lib.hid hby
  have HRES := Lib.hid hres
  have h0 : ¬ l.length = 0 := fun h => hl0 (List.length_eq_zero_iff.mp h)
  have HL0 := Lib.hid hl0
  clear hr hby hres hl0
  have hb := (Below.refl w.heap.size w).alloc (Nat.le_refl _) (.cells (oidC 0 Z16) 27)
  have hB := blk_new w (.cells (oidC 0 Z16) 27)
  have hsz : (w.alloc (.cells (oidC 0 Z16) 27)).heap.size = w.heap.size + 1 := by simp
  go_enter Tryd.func9, Tryd.ntmps9
  go_upto_region 1 with fail
  rw [zrow]
  generalize w.alloc (.cells (oidC 0 (List.replicate 16 0)) 27) = W at *
  have S0 : Hid (RgS W (w.heap.size + 1) (.slice none 0 0) [] W) := ⟨Below.refl _ _, Kd.R_nil _ _ _ _ _⟩
  go_upto_region 3 with fail
  go_loopw [4, 5] (fun v i wr => ∃ (k : Nat) (S : List Int), k ≤ l.length ∧ i = .int .i64 (k : Int) ∧ S.length ≤ 15 ∧ Hid (RgS W (w.heap.size + 1) v S wr) ∧ Hid (getL (l.drop k) S 0 true = getL l [] 0 true) ∧ Hid (S = [] → k = 0) ∧ Hid (∀ s ∈ S, 0 ≤ s ∧ s ≤ 4294967295)) (fun _ i _ => l.length - (intOf i).toNat)
  case atStart => exact ⟨0, [], Nat.zero_le _, rfl, by simp, S0, Lib.hid rfl, Lib.hid (fun _ => rfl), (by intro s hs; cases hs)⟩
  case round =>
    obtain ⟨k, S, hk, rfl, hS, T, hc, hF, HB⟩ := hrel
    obtain ⟨Ao, co, rfl⟩ := Kd.R_slice T.out.o
    by_cases hlt : k < l.length
    · have hx := HBY.out (l.getD k 0) (by rw [List.getD_eq_getElem?_getD, List.getElem?_eq_getElem hlt, Option.getD_some]; exact List.getElem_mem hlt)
      obtain ⟨ad, rfl, hcl⟩ := (Kd.reads_of_C (enc := Value.int .u8) (d := (0 : Int)) (h1 := fun _ => rfl) (Kd.C_below HR.out (hb.trans (T.out.b.mono (by omega))))).at_ (k : Int) (by omega) (by omega)
      simp only [Int.toNat_natCast, rdOf] at hcl
      have hd := hc.out
      have hd2 : getL (l.drop k) S 0 true = (if S.length = 15 then .error 3 else if l.getD k 0 = 128 then .error 11 else getL (l.drop k) S 0 false) := by
        rw [drop_at hlt, getL, getL]
        simp
      rw [hd2] at hd
      clear hc hd2
      have hkl : ¬ (k : Int) = (l.length : Int) := by omega
      by_cases hS15 : S.length = 15
      · rw [if_pos hS15] at hd
        rw [hS15] at T ⊢
        have hE := getT_err HL0.out (hd.symm)
        rw [HRES.out] at hE
        obtain ⟨rfl, rfl, rfl⟩ : rn = 0 ∧ rx = Z16 ∧ er = 3 := by injection hE with h1 h2; injection h2 with h2 h3; exact ⟨h1, h2, h3⟩
        clear hE HRES
        have hR := (T.out.b.block w.heap.size (by omega)).trans hB
        have hTb := Lib.hid (hb.trans (T.out.b.mono (by omega)))
        go_wp2_with ((with_reducible refine gate_store rfl ?_); refine wpList_plain rfl fun K hK => ?_; refine wp_store_row 27 _ _ rfl w.heap.size (oidC 0 Z16) rfl rfl 27 (oidC 0 Z16) hR (oid_info _ _ rfl) rfl (oid_one _ _) ?_; refine hK _ _ ?_)
        refine bodyPost_ret (results_ct rfl _ _ w.heap.size 27 (oidC 0 Z16) (0, 0) _ rfl (setRow_heap _ _ _ _ _ _ hR) Tryd.underlying27 rfl (oid_info _ _ rfl)) rfl ?_
        exact ⟨rfl, below_setRow hTb.out (Nat.le_refl _) _⟩
      · rw [if_neg hS15] at hd
        have hS15' : ¬ (S.length : Int) = 15 := by omega
        by_cases h128 : l.getD k 0 = 128
        · rw [if_pos h128] at hd
          rw [h128] at hcl
          have hE := getT_err HL0.out (hd.symm)
          rw [HRES.out] at hE
          obtain ⟨rfl, rfl, rfl⟩ : rn = 0 ∧ rx = Z16 ∧ er = 11 := by injection hE with h1 h2; injection h2 with h2 h3; exact ⟨h1, h2, h3⟩
          clear hE HRES
          have hR := (T.out.b.block w.heap.size (by omega)).trans hB
          have hTb := Lib.hid (hb.trans (T.out.b.mono (by omega)))
          go_wp2_with ((with_reducible refine gate_store rfl ?_); refine wpList_plain rfl fun K hK => ?_; refine wp_store_row 27 _ _ rfl w.heap.size (oidC 0 Z16) rfl rfl 27 (oidC 0 Z16) hR (oid_info _ _ rfl) rfl (oid_one _ _) ?_; refine hK _ _ ?_)
          refine bodyPost_ret (results_ct rfl _ _ w.heap.size 27 (oidC 0 Z16) (0, 0) _ rfl (setRow_heap _ _ _ _ _ _ hR) Tryd.underlying27 rfl (oid_info _ _ rfl)) rfl ?_
          exact ⟨rfl, below_setRow hTb.out (Nat.le_refl _) _⟩
        · rw [if_neg h128] at hd
          have HD := Lib.hid hd
          clear hd
          generalize hx0 : l.getD k 0 = x0 at *
          go_upto_region 11 with fail
          clear hcl hx0
          go_loop [5, 6] (fun i n => ∃ (j : Nat) (m : Int), k ≤ j ∧ j ≤ l.length ∧ i = .int .i64 (j : Int) ∧ n = .int .i64 m ∧ 0 ≤ m ∧ m ≤ 4294967295 ∧ Hid (getL (l.drop j) S m false = getL l [] 0 true)) (fun i _ => l.length - (intOf i).toNat)
          case atStart => exact ⟨k, 0, Nat.le_refl _, hk, rfl, rfl, by omega, by omega, HD⟩
          case round =>
            obtain ⟨j, m, hkj, hj, rfl, rfl, m0, m1, hc⟩ := hrel
            by_cases hjl : j < l.length
            · have hx := HBY.out (l.getD j 0) (by rw [List.getD_eq_getElem?_getD, List.getElem?_eq_getElem hjl, Option.getD_some]; exact List.getElem_mem hjl)
              obtain ⟨ad', ead, hcl⟩ := (Kd.reads_of_C (enc := Value.int .u8) (d := (0 : Int)) (h1 := fun _ => rfl) (Kd.C_below HR.out (hb.trans (T.out.b.mono (by omega))))).at_ (j : Int) (by omega) (by omega)
              injection ead with ead
              subst ead
              simp only [Int.toNat_natCast, rdOf] at hcl
              have hd := hc.out
              rw [drop_at hjl, getL, if_neg (fun h => by cases h.1), if_neg (fun h => by cases h.1)] at hd
              clear hc
              have hjl' : ¬ (j : Int) = (l.length : Int) := by omega
              generalize l.getD j 0 = x at *
              have htm : Int.tmod x 128 = x % 128 := Int.tmod_eq_emod_of_nonneg hx.1
              obtain ⟨v, hv⟩ : ∃ v, v = m * 128 + x % 128 := ⟨_, rfl⟩
              have hv' : 128 * m + x % 128 = v := by omega
              rw [← hv] at hd
              have hv0 : 0 ≤ v := by omega
              by_cases hbig : 4294967295 < v
              · rw [if_pos hbig] at hd
                clear hv
                have hE := getT_err HL0.out (hd.symm)
                rw [HRES.out] at hE
                obtain ⟨rfl, rfl, rfl⟩ : rn = 0 ∧ rx = Z16 ∧ er = 3 := by injection hE with h1 h2; injection h2 with h2 h3; exact ⟨h1, h2, h3⟩
                clear hE HRES
                have hR := (T.out.b.block w.heap.size (by omega)).trans hB
                have hTb := Lib.hid (hb.trans (T.out.b.mono (by omega)))
                go_wp2_with ((with_reducible refine gate_store rfl ?_); refine wpList_plain rfl fun K hK => ?_; refine wp_store_row 27 _ _ rfl w.heap.size (oidC 0 Z16) rfl rfl 27 (oidC 0 Z16) hR (oid_info _ _ rfl) rfl (oid_one _ _) ?_; refine hK _ _ ?_)
                refine bodyPost_ret (results_ct rfl _ _ w.heap.size 27 (oidC 0 Z16) (0, 0) _ rfl (setRow_heap _ _ _ _ _ _ hR) Tryd.underlying27 rfl (oid_info _ _ rfl)) rfl ?_
                exact ⟨rfl, below_setRow hTb.out (Nat.le_refl _) _⟩
              · rw [if_neg hbig] at hd
                by_cases hx2 : x < 128
                · rw [if_pos hx2] at hd
                  have HD2 := Lib.hid hd
                  have HB2 : Hid (∀ s ∈ S ++ [v], 0 ≤ s ∧ s ≤ 4294967295) := by
                    intro s hs
                    rcases List.mem_append.mp hs with hs | hs
                    · exact HB.out s hs
                    · obtain rfl := List.mem_singleton.mp hs
                      exact ⟨hv0, by omega⟩
                  clear hd hv
                  go_wp2_with ((with_reducible refine gate_dst (N := 62) rfl ?_); refine Kd.R_append (Kd.int .i64) (w0 := W) (w.heap.size + 1) rfl (.tmp 59) (.tmp 61) 48 3 (.int .i64 0) 8 rfl Tryd.underlying48 info3 rfl (by decide) (by omega) (.slice Ao S.length co) S v [.int .i64 v] (fun _ => True) (fun _ => False) rfl rfl rfl (fun _ h => h.elim) (fun _ _ => trivial) T.out.o T.out.b (by have := T.out.b.size; omega) (by omega) ?_; intro v1 w1 ho hb1 hg hat; have T1 : Hid (RgS W (w.heap.size + 1) v1 (S ++ [v]) w1) := ⟨hb1, ho⟩; clear ho hb1 hg hat)
                  go_round
                  case rel => exact ⟨j + 1, S ++ [v], by omega, by go_num, by simp; omega, T1, HD2, Lib.hid (fun h => by simp at h), HB2⟩
                  case measure => simp [intOf]; omega
                · rw [if_neg hx2] at hd
                  have HD2 := Lib.hid hd
                  clear hd hv
                  go_wp2
                  go_round
                  case rel => exact ⟨j + 1, v, by omega, by omega, by go_num, rfl, hv0, by omega, HD2⟩
                  case measure => simp [intOf]; omega
            · obtain rfl : j = l.length := by omega
              have hd := hc.out
              rw [List.drop_length, getL, if_neg (by decide)] at hd
              clear hc
              have hE := getT_err HL0.out (hd.symm)
              rw [HRES.out] at hE
              obtain ⟨rfl, rfl, rfl⟩ : rn = 0 ∧ rx = Z16 ∧ er = 7 := by injection hE with h1 h2; injection h2 with h2 h3; exact ⟨h1, h2, h3⟩
              clear hE HRES
              have hR := (T.out.b.block w.heap.size (by omega)).trans hB
              have hTb := Lib.hid (hb.trans (T.out.b.mono (by omega)))
              go_wp2_with ((with_reducible refine gate_store rfl ?_); refine wpList_plain rfl fun K hK => ?_; refine wp_store_row 27 _ _ rfl w.heap.size (oidC 0 Z16) rfl rfl 27 (oidC 0 Z16) hR (oid_info _ _ rfl) rfl (oid_one _ _) ?_; refine hK _ _ ?_)
              refine bodyPost_ret (results_ct rfl _ _ w.heap.size 27 (oidC 0 Z16) (0, 0) _ rfl (setRow_heap _ _ _ _ _ _ hR) Tryd.underlying27 rfl (oid_info _ _ rfl)) rfl ?_
              exact ⟨rfl, below_setRow hTb.out (Nat.le_refl _) _⟩
    · obtain rfl : k = l.length := by omega
      have hS0 : S ≠ [] := fun h => h0 (hF.out h)
      have hd := hc.out
      rw [List.drop_length, getL, if_pos rfl] at hd
      have hE := getT_ok HL0.out hd.symm
      rw [HRES.out] at hE
      obtain ⟨rfl, rfl, rfl⟩ : rn = 1 + (S.length : Int) ∧ rx = getX S ∧ er = 0 := by injection hE with h1 h2; injection h2 with h2 h3; exact ⟨h1, h2, h3⟩
      clear hE HRES hd hc
      have hSp : 0 < S.length := List.length_pos_iff.mpr hS0
      have hS0' : ¬ (S.length : Int) = 0 := by omega
      have hSn : ¬ S = [] := hS0
      clear hS0
      have hw8 : ((S.length : Int) + 1) % 256 = (S.length : Int) + 1 := by omega
      have hbd0 := getD_bd HB.out
      obtain ⟨bF, bG, bgX⟩ := first_two S hSp
      have hRow := Lib.hid (Kd.R_reads' T.out.o)
      have hO5 := blk_new wr (.cells (oidC ((S.length : Int) + 1) Z16) 27)
      have hb5 := (Below.refl wr.heap.size wr).alloc (Nat.le_refl _) (.cells (oidC ((S.length : Int) + 1) Z16) 27)
      go_upto_region 22 with fail
      rw [show (#[.int .u8 ((S.length : Int) + 1), .int .u32 0, .int .u32 0, .int .u32 0, .int .u32 0, .int .u32 0, .int .u32 0, .int .u32 0, .int .u32 0, .int .u32 0, .int .u32 0, .int .u32 0, .int .u32 0, .int .u32 0, .int .u32 0, .int .u32 0, .int .u32 0] : Array Value) = oidC ((S.length : Int) + 1) Z16 from rfl]
      generalize wr.alloc (.cells (oidC ((S.length : Int) + 1) Z16) 27) = W5 at *
      have x1 := (oid_cells hO5).2 0 (by simp)
      have x2 := (oid_cells hO5).2 1 (by simp)
      have f1 := blk_frozen hO5 1
      have f2 := blk_frozen hO5 2
      have hR0 : wr.heap[w.heap.size]? = some (.cells (oidC 0 Z16) 27 (0, 0)) := (T.out.b.block w.heap.size (by omega)).trans hB
      have hwr : w.heap.size < wr.heap.size := blk_lt hR0
      have HBW := Lib.hid (hb.trans (T.out.b.mono (by omega)))
      obtain ⟨as0, eas, hs0⟩ := (Kd.reads_of_C (enc := Value.int .i64) (d := (0 : Int)) (h1 := fun _ => rfl) (Kd.C_below hRow.out.2.2 hb5)).at_ 0 (by omega) (by omega)
      subst eas
      have HX0 := Lib.hid (fun f g hf hg => xkS_all S hSp hS f g hf hg)
      have HG := Lib.hid (fun f g => RfS.start (n := (S.length : Int) + 1) (S := S) (f := f) (g := g) hO5 hb5 hS)
      have ad0 : as0.add 0 = as0 := by cases as0; simp [Addr.add]
      simp only [rdOf, Int.toNat_zero, ad0] at hs0
      generalize hs : S.getD 0 0 = s0 at *
      have ht : Int.tdiv s0 40 = s0 / 40 := Int.tdiv_eq_ediv_of_nonneg hbd0.1
      generalize hq : min (s0 / 40) 2 = q at *
      have hq0 : 0 ≤ q ∧ q ≤ 2 ∧ 40 * q ≤ s0 := by omega
      have hw1 : q % 4294967296 = q := by omega
      have hw2 : (s0 - 40 * q) % 4294967296 = s0 - 40 * q := by omega
      obtain ⟨g, hg⟩ : ∃ g, g = s0 - 40 * q := ⟨_, rfl⟩
      have HALL := Lib.hid (HX0.out q g rfl hg)
      have hs1 := (Kd.C_below hRow.out.2.2 (hb5.setCell (p := ⟨wr.heap.size, 1, none⟩) (Nat.le_refl _) (.int .u32 q)))
      obtain ⟨as1, eas1, hs1⟩ := (Kd.reads_of_C (enc := Value.int .i64) (d := (0 : Int)) (h1 := fun _ => rfl) hs1).at_ 0 (by omega) (by omega)
      injection eas1 with eas1
      subst eas1
      simp only [rdOf, Int.toNat_zero, ad0, hs] at hs1
      clear ad0
      have HH1 := Lib.hid (HG.out q g)
      clear HG HX0 hs
      subst hg
      by_cases h80 : s0 < 80
      · have e40 : s0 / 40 = q := (bF h80).symm
        clear bF bG hq
        go_upto_region 27 with fail
        obtain ⟨wo, hwo⟩ : ∃ wo, wo = wr := ⟨_, rfl⟩
        subst hwo
        generalize (W5.setCell ⟨wo.heap.size, 1, none⟩ (.int .u32 q)).setCell ⟨wo.heap.size, 2, none⟩ (.int .u32 (s0 - 40 * q)) = W6 at *
        go_loopw [9] (fun i w2 => ∃ kk : Nat, 1 ≤ kk ∧ kk ≤ S.length ∧ i = .int .i64 (kk : Int) ∧ Hid (RfS ((S.length : Int) + 1) q (s0 - 40 * q) S kk wo w2)) (fun i _ => S.length - (intOf i).toNat)
        case atStart => exact ⟨1, Nat.le_refl _, hSp, rfl, HH1⟩
        case round =>
          obtain ⟨kk, hk1, hk2, rfl, R⟩ := hrel
          by_cases hkl : kk < S.length
          · obtain ⟨as2, eas2, hs2⟩ := (Kd.reads_of_C (enc := Value.int .i64) (d := (0 : Int)) (h1 := fun _ => rfl) (Kd.C_below hRow.out.2.2 R.out.b)).at_ (kk : Int) (by omega) (by omega)
            injection eas2 with eas2
            subst eas2
            simp only [rdOf, Int.toNat_natCast] at hs2
            have h15 : kk < 15 := by omega
            have y1 := (oid_cells R.out.o).2 (kk + 1) (by rw [xkS_len _ _ S kk hk1 hk2 (by omega)]; omega)
            have y2 := blk_frozen R.out.o (1 + (kk + 1))
            have hR2 := Lib.hid (R.out.step hk1 hkl h15)
            have hsb := HB.out (S.getD kk 0) (by rw [List.getD_eq_getElem?_getD, List.getElem?_eq_getElem hkl, Option.getD_some]; exact List.getElem_mem hkl)
            generalize S.getD kk 0 = sv at *
            have hsw : sv % 4294967296 = sv := by omega
            go_wp2
            go_round
            case rel => exact ⟨kk + 1, by omega, by omega, by go_num, hR2⟩
            case measure => simp [intOf]; omega
          · obtain rfl : kk = S.length := by omega
            have hO7 := R.out.o
            rw [HALL.out, show (S.length : Int) + 1 = 1 + (S.length : Int) by omega] at hO7
            have hR7 := (R.out.b.block w.heap.size hwr).trans hR0
            have hb7 := Lib.hid (HBW.out.trans (R.out.b.mono (by omega)))
            have HX := Lib.hid (getX_len S hS)
            go_wp2_with (first
              | ((with_reducible refine gate_dst (N := 104) rfl ?_); refine wpList_load_row rfl 27 _ rfl wo.heap.size rfl 27 (oidC (1 + (S.length : Int)) (getX S)) (0, 0) _ hO7 Tryd.underlying27 rfl (oid_info _ _ HX.out) ?_)
              | ((with_reducible refine gate_store rfl ?_); refine wpList_plain rfl fun K hK => ?_; refine wp_store_row 27 _ _ rfl w.heap.size (oidC (1 + (S.length : Int)) (getX S)) rfl rfl 27 (oidC 0 Z16) hR7 (oid_info _ _ HX.out) (by simp [HX.out]) (oid_one _ _) ?_; refine hK _ _ ?_))
            refine bodyPost_ret (results_ct rfl _ _ w.heap.size 27 (oidC (1 + (S.length : Int)) (getX S)) (0, 0) _ rfl (setRow_heap _ _ _ _ _ _ hR7) Tryd.underlying27 rfl (oid_info _ _ HX.out)) rfl ?_
            exact ⟨rfl, below_setRow hb7.out (Nat.le_refl _) _⟩
      · have e2 : q = 2 := bG h80
        clear bF bG hq
        subst e2
        have e80 : s0 - 40 * 2 = s0 - 80 := by omega
        rw [e80] at HH1 HALL hw2
        clear e80
        go_upto_region 27 with fail
        obtain ⟨wo, hwo⟩ : ∃ wo, wo = wr := ⟨_, rfl⟩
        subst hwo
        generalize (W5.setCell ⟨wo.heap.size, 1, none⟩ (.int .u32 2)).setCell ⟨wo.heap.size, 2, none⟩ (.int .u32 (s0 - 80)) = W6 at *
        go_loopw [9] (fun i w2 => ∃ kk : Nat, 1 ≤ kk ∧ kk ≤ S.length ∧ i = .int .i64 (kk : Int) ∧ Hid (RfS ((S.length : Int) + 1) 2 (s0 - 80) S kk wo w2)) (fun i _ => S.length - (intOf i).toNat)
        case atStart => exact ⟨1, Nat.le_refl _, hSp, rfl, HH1⟩
        case round =>
          obtain ⟨kk, hk1, hk2, rfl, R⟩ := hrel
          by_cases hkl : kk < S.length
          · obtain ⟨as2, eas2, hs2⟩ := (Kd.reads_of_C (enc := Value.int .i64) (d := (0 : Int)) (h1 := fun _ => rfl) (Kd.C_below hRow.out.2.2 R.out.b)).at_ (kk : Int) (by omega) (by omega)
            injection eas2 with eas2
            subst eas2
            simp only [rdOf, Int.toNat_natCast] at hs2
            have h15 : kk < 15 := by omega
            have y1 := (oid_cells R.out.o).2 (kk + 1) (by rw [xkS_len _ _ S kk hk1 hk2 (by omega)]; omega)
            have y2 := blk_frozen R.out.o (1 + (kk + 1))
            have hR2 := Lib.hid (R.out.step hk1 hkl h15)
            have hsb := HB.out (S.getD kk 0) (by rw [List.getD_eq_getElem?_getD, List.getElem?_eq_getElem hkl, Option.getD_some]; exact List.getElem_mem hkl)
            generalize S.getD kk 0 = sv at *
            have hsw : sv % 4294967296 = sv := by omega
            go_wp2
            go_round
            case rel => exact ⟨kk + 1, by omega, by omega, by go_num, hR2⟩
            case measure => simp [intOf]; omega
          · obtain rfl : kk = S.length := by omega
            have hO7 := R.out.o
            rw [HALL.out, show (S.length : Int) + 1 = 1 + (S.length : Int) by omega] at hO7
            have hR7 := (R.out.b.block w.heap.size hwr).trans hR0
            have hb7 := Lib.hid (HBW.out.trans (R.out.b.mono (by omega)))
            have HX := Lib.hid (getX_len S hS)
            go_wp2_with (first
              | ((with_reducible refine gate_dst (N := 104) rfl ?_); refine wpList_load_row rfl 27 _ rfl wo.heap.size rfl 27 (oidC (1 + (S.length : Int)) (getX S)) (0, 0) _ hO7 Tryd.underlying27 rfl (oid_info _ _ HX.out) ?_)
              | ((with_reducible refine gate_store rfl ?_); refine wpList_plain rfl fun K hK => ?_; refine wp_store_row 27 _ _ rfl w.heap.size (oidC (1 + (S.length : Int)) (getX S)) rfl rfl 27 (oidC 0 Z16) hR7 (oid_info _ _ HX.out) (by simp [HX.out]) (oid_one _ _) ?_; refine hK _ _ ?_))
            refine bodyPost_ret (results_ct rfl _ _ w.heap.size 27 (oidC (1 + (S.length : Int)) (getX S)) (0, 0) _ rfl (setRow_heap _ _ _ _ _ _ hR7) Tryd.underlying27 rfl (oid_info _ _ HX.out)) rfl ?_
            exact ⟨rfl, below_setRow hb7.out (Nat.le_refl _) _⟩
end Go.Proofs.YtacpcagijfacnaaDoor
namespace Go.Proofs.YtacpcagijfacnaaDoor
open Go.RowKit Go.Shelf Go.Sort
open Go.Proofs.YtacpcagijfacnaaDoorW.PrintWords (blk_new blk_below blk_cell blk_alloc blk_lt blk_frozen blk_drew Kd.C Kd.int)
set_option linter.unusedSimpArgs false
set_option linter.unusedVariables false
set_option maxRecDepth 50000
/-- The reference's Get. -/
theorem rget_any (A : Option Addr) (c : Nat) (l : List Int) (w : World) (hl : l.length ≤ 1000000) (hby : Byt l) (hr : Kd.C (Kd.int .u8) w A l.length l) (rn er : Int) (rx : List Int) (hres : getT l = (rn, rx, er)) :
    Calls Tryd.prog 9 #[.slice A l.length c] w fun e w' => e = .returned (.tuple #[oidV rn rx, .int .i64 er]) ∧ Below w.heap.size w w' := by
  by_cases h : l = []
  · subst h
    obtain ⟨rfl, rfl, rfl⟩ : rn = 0 ∧ rx = Z16 ∧ er = 7 := by
      rw [show getT [] = (0, Z16, 7) from rfl] at hres
      injection hres with h1 h2; injection h2 with h2 h3; exact ⟨h1.symm, h2.symm, h3.symm⟩
    exact rget_nil A c w
  · exact rget_some A c l w h hl hby hr rn er rx hres
/-- The package-level tables hold what the program's text lays in them. -/
structure Tabs (w : World) : Prop where
  es : ∃ t p, w.cell? ⟨1, 0, none⟩ = some (.iface t p)
  er : ∃ t p, w.cell? ⟨2, 0, none⟩ = some (.iface t p)
  ml : ∃ m, w.cell? ⟨3, 0, none⟩ = some (.int .i64 m)
  pow : Lib.TabIs Tryd.prog w "internal/strconv.uint64pow10" .u64 Lib.pow10Tab
theorem gPow : Tryd.prog.globalNamed "internal/strconv.uint64pow10" = some 0 := by kernel_rfl
theorem Tabs.five {w : World} (h : Tabs w) : 3 < w.heap.size := by
  obtain ⟨m, hm⟩ := h.ml
  obtain ⟨t, p, hs⟩ := h.es
  obtain ⟨u, q, hr⟩ := h.er
  rcases Nat.lt_or_ge 3 w.heap.size with h0 | h1
  · exact h0
  · exfalso
    first
      | (simp [World.cell?, h1] at hm; done)
      | (simp [World.cell?, h1] at hr; done)
      | (simp [World.cell?, h1] at hs; done)
theorem Tabs.below {w w' : World} (h : Tabs w) {B : Nat} (hB : 3 < B) (hb : Below B w w') : Tabs w' := by
  have hk : ∀ (b k : Nat) (v : Value), b < 4 → w.cell? ⟨b, k, none⟩ = some v → w'.cell? ⟨b, k, none⟩ = some v := fun b k v hlt hv => by
    rw [← hv]; exact hb.cell (p := ⟨b, k, none⟩) (by show b < B; omega)
  obtain ⟨m, hm⟩ := h.ml
  obtain ⟨t, p, hs⟩ := h.es
  obtain ⟨u, q, hr⟩ := h.er
  refine ⟨⟨t, p, hk 1 0 _ (by omega) hs⟩, ⟨u, q, hk 2 0 _ (by omega) hr⟩, ⟨m, hk 3 0 _ (by omega) hm⟩, ?_⟩
  have hp := h.pow
  unfold Lib.TabIs World.var? at *
  rw [gPow] at *
  simpa [hb.block 0 (by omega)] using hp
/-- What a walk carries: since w nothing that was there has turned; the tables stand. -/
structure St (w w1 : World) : Prop where
  b : Below w.heap.size w w1
  t : Tabs w1
theorem St.refl {w : World} (h : Tabs w) : St w w := ⟨Below.refl _ _, h⟩
theorem St.next {w w1 w2 : World} (h : St w w1) (hb : Below w1.heap.size w1 w2) : St w w2 := ⟨h.b.trans (hb.mono h.b.size), h.t.below h.t.five hb⟩
theorem St.on {w w1 w2 : World} (h : St w w1) (h5 : 3 < w.heap.size) (hb : Below w.heap.size w1 w2) : St w w2 := ⟨h.b.trans hb, h.t.below h5 hb⟩
theorem St.alloc {w w1 : World} (h : St w w1) (o : Obj) : St w (w1.alloc o) := h.next ((Below.refl _ _).alloc (Nat.le_refl _) o)
theorem St.drew {w w1 : World} (h : St w w1) : St w w1.drew := h.next ((Below.refl _ _).drew)
theorem St.set {w w1 : World} (h : St w w1) (h5 : 3 < w.heap.size) {p : Addr} (hp : w.heap.size ≤ p.block) (u : Value) : St w (w1.setCell p u) :=
  h.on h5 ((Below.refl _ _).setCell hp u)
theorem below_grow (w : World) (k : Nat) (os : Array Obj) : Below w.heap.size w (Sort.grow (w.drewN k) os) := by
  refine ⟨rfl, rfl, rfl, ?_, fun j hj => ?_⟩
  · simp [Sort.grow]
  · show (w.heap ++ os)[j]? = _
    rw [Array.getElem?_append_left hj]
theorem holds0 (w : World) (T : TypeId) (nd : Nat) (hs : nd ≤ 24) : Holds (fun (b : UInt8) => Value.int .u8 (b.toNat : Int)) (w.alloc (.cells Lib.zeros24 T)) w.heap.size 0 (Array.replicate nd (0 : UInt8)) := fun j hj => by
  have hj' : j < nd := by simpa using hj
  refine ⟨?_, World.frozen?_alloc_new _ _ _ _⟩
  rw [World.cell?_alloc_new, Lib.zeros24_at _ (by omega), getElem!_pos _ j hj]
  simp
theorem fin0 (w : World) (o : Obj) (dk : Array UInt8) (k : Nat) : Below w.heap.size w ((putRow (fun (b : UInt8) => Value.int .u8 (b.toNat : Int)) (w.alloc o) w.heap.size 0 dk).drewN k) := by
  rw [alloc_eq_grow]
  obtain ⟨os', _, e⟩ := putRow_grow_new (fun (b : UInt8) => Value.int .u8 (b.toNat : Int)) w #[o] w.heap.size 0 dk (Nat.le_refl _)
  rw [e]
  exact below_grow w k os'
theorem fu_small (u : Nat) (hu : u < 100) (w : World) :
    Calls Tryd.prog 42 #[.int .u64 u, .int .i64 10] w fun e w' => e = .returned (.string ⟨(Lib.decDigits u).toArray⟩) ∧ Below w.heap.size w w' := by
  have hw : IntKind.i64.wrap (u : Int) = (u : Int) := by rw [IntKind.wrap_i64]; omega
  have h2 : (u : Int) < 100 := by omega
  go_enter Tryd.func42, Tryd.ntmps42
  go_wp2_with (go_at_call 52; refine (Tryd.internal_strconv_small u hu _).mono ?_; rintro e w' ⟨rfl, rfl⟩)
  go_ret
  exact ⟨rfl, Below.refl _ _⟩
set_option maxHeartbeats 4000000 in
theorem fu_big (u : Nat) (h100 : 100 ≤ u) (hu64 : u < 18446744073709551616) (w : World) (htab : Lib.TabIs Tryd.prog w "internal/strconv.uint64pow10" .u64 Lib.pow10Tab) :
    Calls Tryd.prog 42 #[.int .u64 u, .int .i64 10] w fun e w' => e = .returned (.string ⟨(Lib.decDigits u).toArray⟩) ∧ Below w.heap.size w w' := by
  have hu1 : 1 ≤ u := by omega
  have hl : ¬ (u : Int) < 100 := by omega
  have hnd20 : Lib.nDigits u ≤ 20 := by have := Lib.numDigits_eq u hu1 hu64; split at this <;> omega
  have hal : Tryd.prog.arrayLen 89 = 24 := by simp [Program.arrayLen, Tryd.underlying89]
  have hsl1 : ∀ W, (Instr.sliceAt 89 (.pointer (some ⟨w.heap.size, 0, none⟩)) none (some (.int .i64 (Lib.nDigits u : Int))) none).run Tryd.prog W = .ok (.slice (some ⟨w.heap.size, 0, none⟩) (Lib.nDigits u) 24) W := fun W => by
    rw [run_sliceAt_array_h W 89 ⟨w.heap.size, 0, none⟩ (by simp [Program.arrayLen, Program.elem, Tryd.underlying89]) .i64 (Lib.nDigits u : Int) (by omega) (by rw [hal]; omega)]
    go_simp
  have hH0 := holds0 w 89 (Lib.nDigits u) (by omega)
  have hfmt := Tryd.internal_strconv_formatBase10 w.heap.size 0 24 u (Array.replicate (Lib.nDigits u) 0) (w.alloc (.cells Lib.zeros24 89)) hH0 (by rw [Array.size_replicate]; exact Lib.lt_pow_nDigits u) hu64 (by rw [Array.size_replicate]; omega)
  rw [Array.size_replicate] at hfmt
  have HH0 := Lib.hid hH0
  clear hH0 hal
  go_enter Tryd.func42, Tryd.ntmps42
  go_wp2_with (first
    | (go_at_call 53; refine (Tryd.internal_strconv_numDigits u hu1 hu64 _ (Lib.tabIs_alloc htab _)).mono ?_; rintro e w' ⟨rfl, rfl⟩))
  go_at_call 54
  refine hfmt.mono ?_
  rintro e w' ⟨rfl, k, v', dk, rfl, hF⟩
  have hcv : (convert 22 9 (.slice (some ⟨w.heap.size, 0, none⟩) (Lib.nDigits u) 24)).run Tryd.prog ((putRow (fun (b : UInt8) => Value.int .u8 (b.toNat : Int)) (w.alloc (.cells Lib.zeros24 89)) w.heap.size 0 dk).drewN k) = .ok (.string ⟨(Lib.decDigits u).toArray⟩) ((putRow (fun (b : UInt8) => Value.int .u8 (b.toNat : Int)) (w.alloc (.cells Lib.zeros24 89)) w.heap.size 0 dk).drewN k) := by
    have h := run_convert_bytes_back (P := Tryd.prog) ((putRow (fun (b : UInt8) => Value.int .u8 (b.toNat : Int)) (w.alloc (.cells Lib.zeros24 89)) w.heap.size 0 dk).drewN k) 22 9 5 ⟨w.heap.size, 0, none⟩ 24 (Lib.decDigits u) Tryd.underlying22 Tryd.underlying5 Tryd.underlying9 (fun j hj => by
      rw [Lib.row_is_numeral hF j hj, Lib.add_plain, World.cell?_drewN]
      exact cell?_putRow (fun (b : UInt8) => Value.int .u8 (b.toNat : Int)) _ w.heap.size 0 _ dk HH0.out (by rw [hF.size, Array.size_replicate]) j (by rw [hF.size]; rw [Lib.decDigits_length] at hj; exact hj))
    rw [Lib.decDigits_length] at h
    exact h
  go_wp2
  go_ret
  exact ⟨rfl, fin0 w _ dk k⟩
/-- strconv.FormatUint at base 10. -/
theorem fu_any (u : Nat) (hu64 : u < 18446744073709551616) (w : World) (hT : Tabs w) :
    Calls Tryd.prog 31 #[.int .u64 u, .int .i64 10] w fun e w' => e = .returned (.string ⟨(Lib.decDigits u).toArray⟩) ∧ Below w.heap.size w w' := by
  have H : Hid (Calls Tryd.prog 42 #[.int .u64 u, .int .i64 10] w fun e w' => e = .returned (.string ⟨(Lib.decDigits u).toArray⟩) ∧ Below w.heap.size w w') := by
    by_cases h : u < 100
    · exact fu_small u h w
    · exact fu_big u (by omega) hu64 w hT.pow
  go_enter Tryd.func31, Tryd.ntmps31
  go_wp2_with (go_at_call 42; refine H.out.mono ?_; rintro e w' ⟨rfl, hb⟩)
  go_ret
  exact ⟨rfl, hb⟩
end Go.Proofs.YtacpcagijfacnaaDoor
