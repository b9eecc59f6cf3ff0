/- Chapter 22 (armors): slices.Chunk. -/
import Derived.RangeFuncNested
import Derived.RangeFuncBound
import Derived.RangeFuncCalls
import Derived.RangeFuncLeaves
import Derived.RangeFuncWrites
import Derived.RangeFuncBox
import Derived.Maps.AppendAt
import Derived.Shelf.Abstract
import Derived.Shelf.RegionOpen
import Derived.WalkKit
import Derived.OwnWalkIn
import Derived.TacticsInMore
import Derived.LoopNIn
import Derived.LoopIn
import Derived.Sort.QuietIn
import Derived.Test.YtbdccfjeeabpaaaNc
import Derived.Test.YtbdccfjeeabpaaaWMore
import Derived.Test.YtbdccfjeeabpaaaWWords
namespace Go.Proofs.Ytbdccfjeeabpaaa
open Go.RowKit Go.Shelf
open Go.Proofs.YtbdccfjeeabpaaaW.PrintMore (min2_int max2_int)
attribute [local go_sem] Oper.semAt_some
set_option linter.unusedSimpArgs false
set_option linter.unusedVariables false
set_option maxRecDepth 50000
/-- A piece: its number, its begin lying within. -/
abbrev CK (m L : Nat) := { k : Nat // m * k < L }
def ups (m L : Nat) : Nat → List (CK m L)
  | 0 => []
  | k + 1 => if h : m * k < L then ups m L k ++ [⟨k, h⟩] else ups m L k
def ckV (A : Option Addr) (m L : Nat) (x : CK m L) : Value := .slice (A.map (·.add (m * x.1))) (min m (L - m * x.1)) (min m (L - m * x.1))
theorem ups_len (m L : Nat) : ∀ k, (ups m L k).length ≤ k
  | 0 => Nat.le_refl _
  | k + 1 => by
    have := ups_len m L k
    unfold ups
    split
    · rw [List.length_append, List.length_singleton]; omega
    · omega
theorem slice3 (A : Option Addr) (L c lo hi : Nat) (h1 : lo < hi) (h2 : hi ≤ c) (W : World) :
    (Instr.slice 24 (.slice A L c) (some (.int .i64 (lo : Int))) (some (.int .i64 (hi : Int))) (some (.int .i64 (hi : Int)))).run Try.prog W = .ok (.slice (A.map (·.add lo)) (hi - lo) (hi - lo)) W := by
  have hu : Try.prog.underlying 24 = some (.slice (Try.prog.elem 24)) := by
    have hel : Try.prog.elem 24 = 5 := by simp [Program.elem, Try.underlying24]
    rw [hel]; exact Try.underlying24
  rw [run_slice_any W 24 A L c hu]
  have hel : Try.prog.elem 24 = 5 := by simp [Program.elem, Try.underlying24]
  obtain ⟨i0, hi0, hz0, hz1, hz2⟩ := info_parts info5
  have hs : ∀ W, (sizeOf 5).run Try.prog W = .ok 1 W := fun W => by simp [sizeOf, typeInfo, hi0, hz1, Result.andThen]
  rw [hel]
  simp [hs, Instr.sliceBounds, run_sliceBound, sliced, Result.andThen, show hi ≠ lo by omega, h1, h2, Nat.le_of_lt h1]
theorem chunk_in (F : Fence) (n : Nat) (h22 : F.fn 22) (hro : F.round = none) (A : Option Addr) (L c m : Nat) (hm : 1 ≤ m) (w : World) :
    CallsIn F n Try.prog 22 #[.slice A L c, .int .i64 (m : Int)] w fun e w' => e = .returned (.func (.func 39) #[] #[.pointer (some ⟨w.heap.size, 0, none⟩), .pointer (some ⟨w.heap.size + 1, 0, none⟩)]) ∧ w' = (w.alloc (.cells #[.slice A L c] 24)).alloc (.cells #[.int .i64 (m : Int)] 3) := by
  have hm1 : ¬ ((m : Int) < 1) := by omega
  refine callsIn_of_wp Try.func22 rfl h22 ?_ hro
  simp only [Try.ntmps22, List.size_toArray, List.length_cons, List.length_nil, Nat.reduceAdd, Nat.reduceSub, Array.replicate_succ, Array.replicate_zero, List.push_toArray, List.append_toArray, List.nil_append, List.cons_append]
  gi_wp2
  go_ret
  exact ⟨rfl, rfl⟩
/-- The two boxes of the iterator stand. -/
def KeepB (g : Nat) (A C : World) : Prop := ∀ k, (k = g ∨ k = g + 1) → ∀ cs t fz, t ≠ 5 → A.heap[k]? = some (.cells cs t fz) → C.heap[k]? = some (.cells cs t fz)
theorem keepB_t {g : Nat} {A B C : World} (h : KeepB g A B) (k : KeepB g B C) : KeepB g A C := fun i hi cs t fz ne e => k i hi cs t fz ne (h i hi cs t fz ne e)
theorem keepB_b {g : Nat} {w : World} : ∀ (W : World) (l : Nat) (o o' : Obj), w.heap.size ≤ l → W.heap[l]? = some o → o.isCells = false → o.isWalk = false → KeepB g W (W.putObj l o') := by
  intro W l o o' _ hl hc _ k hk cs t fz _ e
  rw [World.putObj_heap_other (fun e' => ?_)]
  · exact e
  · subst e'; rw [hl] at e; cases e; cases hc
structure ChB (g : Nat) (A : Option Addr) (L c m : Nat) (W : World) : Prop where
  s : W.heap[g]? = some (.cells #[.slice A L c] 24 (0, 0))
  n : W.heap[g + 1]? = some (.cells #[.int .i64 (m : Int)] 3 (0, 0))
theorem ChB.keep {g : Nat} {A : Option Addr} {L c m : Nat} {W W' : World} (h : ChB g A L c m W) (k : KeepB g W W') : ChB g A L c m W' := ⟨k _ (.inl rfl) _ _ _ (by decide) h.s, k _ (.inr rfl) _ _ _ (by decide) h.n⟩
theorem cell_box {W : World} {g : Nat} {v : Value} {t : TypeId} {fz : Nat × Nat} (h : W.heap[g]? = some (.cells #[v] t fz)) : W.cell? ⟨g, 0, none⟩ = some v := by simp [World.cell?, h]
set_option maxHeartbeats 4000000 in
theorem chunk1_in (n : Nat) (hn : 1 ≤ n) (l g : Nat) (A : Option Addr) (L c m : Nat) (hm : 1 ≤ m) (hm2 : m ≤ 48) (hL : L ≤ 1099511627776) (hc : L ≤ c) (J Jx : List (CK m L) → World → Prop)
    (hY : ∀ pre x W, J pre W → pre.length < L + 1 → YieldAt Fence.wide (n - 1) Try.prog l #[ckV A m L x] W fun e W' =>
      (e = .returned (.bool true) ∧ J (pre ++ [x]) W' ∧ KeepB g W W') ∨ (e = .returned (.bool false) ∧ Jx (pre ++ [x]) W'))
    (hJd : ∀ pre W k, J pre W → J pre (W.drewN k))
    (W : World) (hB : ChB g A L c m W) (h0' : J [] W) :
    CallsIn Fence.wide n Try.prog 39 #[.func (.yield l) #[] #[], .pointer (some ⟨g, 0, none⟩), .pointer (some ⟨g + 1, 0, none⟩)] W fun e W' => (∃ v, e = .returned v) ∧
      ((∃ k, L ≤ m * k ∧ J (ups m L k) W') ∨ (∃ pre, Jx pre W')) := by
  have HY := Lib.hid hY
  have HJ := Lib.hid hJd
  clear hY hJd
  refine callsIn_of_wp Try.func39 rfl trivial ?_ rfl
  simp only [Try.ntmps39, List.size_toArray, List.length_cons, List.length_nil, Nat.reduceAdd, Nat.reduceSub, Array.replicate_succ, Array.replicate_zero, List.push_toArray, List.append_toArray, List.nil_append, List.cons_append]
  gi_wp2
  gi_loopw [4] (fun p wr => ∃ k i : Nat, Hid (m * k = i) ∧ i ≤ L + 48 ∧ p = .int .i64 (i : Int) ∧ Hid (J (ups m L k) wr) ∧ Hid (ChB g A L c m wr)) (fun p _ => (L + 48 - (intOf p).toNat))
  case atStart => exact ⟨0, 0, by show _ = _; omega, by omega, rfl, Lib.hid h0', Lib.hid hB⟩
  case round =>
    obtain ⟨k, i, hk, hi, rfl, hJ, hC⟩ := hrel
    have c1 := cell_box hC.out.s
    have c2 := cell_box hC.out.n
    by_cases hlt : i < L
    · have hT : ups m L (k + 1) = ups m L k ++ [⟨k, by rw [hk.out]; exact hlt⟩] := by rw [ups, dif_pos]
      have HTT := Lib.hid hT
      clear hT
      have hlen : (ups m L k).length < L + 1 := by
        have h1 := ups_len m L k
        have h2 : k ≤ i := by rw [← hk.out]; exact Nat.le_mul_of_pos_left _ (by omega)
        omega
      have HYY := Lib.hid (fun q => HY.out (ups m L k) ⟨k, by rw [hk.out]; exact hlt⟩ (wr.drewN q) (HJ.out _ _ q hJ.out) hlen)
      unfold ckV at HYY
      simp only [hk.out] at HYY
      clear hlen
      obtain ⟨e, he⟩ : ∃ e, min m (L - i) = e := ⟨_, rfl⟩
      rw [he] at HYY
      have hmi : min (m : Int) ((L - i : Nat) : Int) = (e : Int) := by omega
      have he1 : 1 ≤ e := by omega
      have he2 : i + e ≤ L := by omega
      clear he
      gi_wp2
      gi_quiet (fail)
      obtain ⟨fn, tmps, assign, body, hy, hR⟩ := HYY.out nq
      have HR := Lib.hid hR
      clear hR
      gi_wp2
      refine HR.out.mono ?_
      rintro e' W3 (⟨rfl, hJ3, hk3⟩ | ⟨rfl, hJx3⟩)
      · have C3 := Lib.hid (hC.out.keep (W' := W3) (fun k hk cs t fz ne h => hk3 k hk cs t fz ne h))
        have J3 : Hid (J (ups m L (k + 1)) W3) := by show J _ _; rw [HTT.out]; exact hJ3
        have c3 := cell_box C3.out.n
        clear hJ3 hk3 c1 c2
        gi_wp2
        go_roundw
        case rel => exact ⟨k + 1, i + m, by show _ = _; rw [Nat.mul_add, hk.out, Nat.mul_one], by omega, by go_num, J3, C3⟩
        case measure => simp [intOf]; omega
      · gi_wp2
        refine bodyPost_ret (results_none rfl _ _ _) rfl ?_
        exact ⟨⟨_, rfl⟩, .inr ⟨_, hJx3⟩⟩
    · gi_wp2
      go_end0
      exact ⟨⟨_, rfl⟩, .inl ⟨k, by rw [hk.out]; omega, hJ.out⟩⟩
end Go.Proofs.Ytbdccfjeeabpaaa
