/- Chapter 22 (armors): the table of numbers. -/
import Derived.Test.YtbdccfjeeabpaaaShelfB
import Derived.Lib.OthersKept
import Derived.Lib.Hide
import Derived.Laws.Rows
import Derived.Tactics
import Derived.WalkKit
import Derived.RowKit3
import Derived.Laws.Tables
import Derived.Laws.CopyOwn
namespace Go.Proofs.Ytbdccfjeeabpaaa
open Go.RowKit Go.Shelf Go.Lib
set_option linter.unusedSimpArgs false
set_option linter.unusedVariables false
set_option maxRecDepth 50000
abbrev alphB : ByteArray := ⟨#[65, 66, 67, 68, 69, 70, 71, 72, 73, 74, 75, 76, 77, 78, 79, 80, 81, 82, 83, 84, 85, 86, 87, 88, 89, 90, 97, 98, 99, 100, 101, 102, 103, 104, 105, 106, 107, 108, 109, 110, 111, 112, 113, 114, 115, 116, 117, 118, 119, 120, 121, 122, 48, 49, 50, 51, 52, 53, 54, 55, 56, 57, 43, 47]⟩
abbrev alphN : List Nat := [65, 66, 67, 68, 69, 70, 71, 72, 73, 74, 75, 76, 77, 78, 79, 80, 81, 82, 83, 84, 85, 86, 87, 88, 89, 90, 97, 98, 99, 100, 101, 102, 103, 104, 105, 106, 107, 108, 109, 110, 111, 112, 113, 114, 115, 116, 117, 118, 119, 120, 121, 122, 48, 49, 50, 51, 52, 53, 54, 55, 56, 57, 43, 47]
/-- The table after k characters. -/
def tabK : Nat → List Int
  | 0 => List.replicate 256 0
  | k + 1 => (tabK k).set (alphN.getD k 0) ((k : Int) + 1)
theorem tabK_len : ∀ k, (tabK k).length = 256
  | 0 => by simp [tabK]
  | k + 1 => by rw [tabK, List.length_set]; exact tabK_len k
abbrev tabC (k : Nat) : Array Value := ((tabK k).map (Value.int .u8)).toArray
theorem alph_at (k : Nat) (h : k < 64) : ∃ hk : k < alphB.size, (alphB[k]'hk).toNat = alphN.getD k 0 ∧ alphN.getD k 0 < 128 := by
  revert k
  decide
structure Nu (k g it : Nat) (w W : World) : Prop where
  b : Below w.heap.size w W
  o : W.heap[g]? = some (.cells (tabC k) 57 (0, 0))
  i : W.heap[it]? = some (.stringIter alphB k)
theorem Nu.step {k g it : Nat} {w W : World} (h : Nu k g it w W) (hg : w.heap.size ≤ g) (hi : w.heap.size ≤ it) (hne : g ≠ it) : Nu (k + 1) g it w ((W.iterAt it alphB (k + 1)).setCell ⟨g, alphN.getD k 0, none⟩ (.int .u8 ((k : Int) + 1))) := by
  have hb1 : Below w.heap.size w (W.iterAt it alphB (k + 1)) := h.b.trans ⟨rfl, rfl, rfl, by simp [World.iterAt], fun j hj => Lib.iterAt_other _ _ _ _ _ (by omega)⟩
  have ho1 : (W.iterAt it alphB (k + 1)).heap[g]? = some (.cells (tabC k) 57 (0, 0)) := by rw [Lib.iterAt_other _ _ _ _ _ hne]; exact h.o
  have hi1 := Lib.iterAt_heap W it alphB k (k + 1) h.i
  refine ⟨hb1.setCell (p := ⟨g, _, none⟩) hg _, ?_, ?_⟩
  · simp [World.setCell, Array.getElem?_modify, ho1, tabK, List.map_set]
  · simp [World.setCell, Array.getElem?_modify, hne, hi1]
theorem size57 : (Try.prog.info? 57).map (·.size) = some (tabC 64).size := by kernel_rfl
theorem one57 : (tabC 64).all (·.oneCell') = true := by simp [Value.oneCell']
theorem info57 : (Try.prog.info? 57).map (·.zero) = some (some (.agg (tabC 0))) := by kernel_rfl
theorem z57 (w : World) : (zeroValue 57).run Try.prog w = .ok (.agg (tabC 0)) w := by
  obtain ⟨i, hi, hz⟩ := Option.map_eq_some_iff.1 info57
  simp [zeroValue, Go.typeInfo, program, Sem.run, hi, hz, Result.andThen]
set_option maxHeartbeats 4000000 in
theorem numbers_is (w : World) : Calls Try.prog 27 #[] w fun e w' => e = .returned (.agg (tabC 64)) ∧ Below w.heap.size w w' := by
  have hz := z57
  go_enter Try.func27, Try.ntmps27
  go_upto_region 1 with fail
  change Code.wp _ _ _ _ (w.alloc (.cells (tabC 0) 57))
  have hb := (Below.refl w.heap.size w).alloc (Nat.le_refl _) (.cells (tabC 0) 57)
  have ho : (w.alloc (.cells (tabC 0) 57)).heap[w.heap.size]? = some (.cells (tabC 0) 57 (0, 0)) := heap_alloc_new w _
  have hsz : (w.alloc (.cells (tabC 0) 57)).heap.size = w.heap.size + 1 := by simp
  generalize w.alloc (.cells (tabC 0) 57) = W at *
  go_upto_region 2 with fail
  have S0 : Hid (Nu 0 w.heap.size (w.heap.size + 1) w (W.iter alphB 0)) := ⟨hb.alloc (by omega) _, (Below.heap_alloc W _ _ (by omega)).trans ho, by rw [← hsz]; exact World.iter_heap W alphB 0⟩
  change Code.wp _ _ _ _ (W.iter alphB 0)
  generalize W.iter alphB 0 = W1 at *
  go_loopw [1] (fun v wr => ∃ k : Nat, k ≤ 64 ∧ Hid (Nu k w.heap.size (w.heap.size + 1) w wr)) (fun _ wr => 64 - wr.iterPos (w.heap.size + 1))
  case atStart => exact ⟨0, by omega, S0⟩
  case round =>
    obtain ⟨k, hk, S⟩ := hrel
    by_cases hlt : k < 64
    · obtain ⟨hka, ha, ha2⟩ := alph_at k hlt
      have hnx : ∀ ty, (Instr.next (.pointer (some ⟨w.heap.size + 1, 0, none⟩)) true ty).run Try.prog wr = _ := fun ty => run_next_ascii_at wr (w.heap.size + 1) alphB k ty S.out.i hka (by omega)
      rw [ha] at hnx
      have hS := S.out.step (by omega) (by omega) (by omega)
      have ho1 : (wr.iterAt (w.heap.size + 1) alphB (k + 1)).heap[w.heap.size]? = some (.cells (tabC k) 57 (0, 0)) := by rw [Lib.iterAt_other _ _ _ _ _ (by omega)]; exact S.out.o
      have hc1 : (wr.iterAt (w.heap.size + 1) alphB (k + 1)).cell? ⟨w.heap.size, alphN.getD k 0, none⟩ = some (.int .u8 ((tabK k).getD (alphN.getD k 0) 0)) := by
        rw [cell_of_row _ _ _ _ _ _ ho1]
        have hl := tabK_len k
        have hlt2 : alphN.getD k 0 < (tabK k).length := by omega
        simp only [List.getElem?_toArray, List.getElem?_map, List.getD_eq_getElem?_getD (l := tabK k), List.getElem?_eq_getElem hlt2, Option.map_some, Option.getD_some]
      have hf1 : (wr.iterAt (w.heap.size + 1) alphB (k + 1)).frozen? ⟨w.heap.size, alphN.getD k 0, none⟩ = false := by simp [World.frozen?, ho1]
      have hw1 : IntKind.u8.wrap ((alphN.getD k 0 : Nat) : Int) = ((alphN.getD k 0 : Nat) : Int) := by rw [IntKind.wrap_u8]; omega
      have hw2 : IntKind.u8.wrap (k : Int) = (k : Int) := by rw [IntKind.wrap_u8]; omega
      have hw3 : IntKind.u8.wrap ((k : Int) + 1) = (k : Int) + 1 := by rw [IntKind.wrap_u8]; omega
      have hHS := Lib.hid hS
      clear hS ha ho1
      generalize (tabK k).getD (alphN.getD k 0) 0 = z at *
      generalize alphN.getD k 0 = c at *
      have hip : wr.iterPos (w.heap.size + 1) = k := by unfold World.iterPos; rw [S.out.i]
      go_wp2
      go_roundw
      case rel => exact ⟨k + 1, by omega, hHS⟩
      case measure =>
        rw [hip]
        unfold World.iterPos
        rw [hHS.out.i]
        simp only
        omega
    · obtain rfl : k = 64 := by omega
      have hnx : ∀ ty, (Instr.next (.pointer (some ⟨w.heap.size + 1, 0, none⟩)) true ty).run Try.prog wr = _ := fun ty => run_next_end_at wr (w.heap.size + 1) alphB 64 ty S.out.i (by decide)
      have hO := S.out.o
      have hB := Lib.hid S.out.b
      go_wp2_with (first
        | (refine wpList_load_row rfl 57 _ rfl w.heap.size rfl 57 (tabC 64) (0, 0) _ hO Try.underlying57 rfl size57 ?_)
        | (refine wpList_plain rfl fun K hK => ?_; refine wp_store_row 57 _ _ rfl w.heap.size (tabC 64) rfl rfl 57 (tabC 64) hO size57 rfl one57 ?_; refine hK _ _ ?_))
      refine bodyPost_ret (results_cell_row rfl _ _ w.heap.size 57 (tabC 64) (0, 0) _ rfl (setRow_heap _ _ _ _ _ _ hO) Try.underlying57 rfl size57) rfl ?_
      exact ⟨rfl, below_setRow hB.out (Nat.le_refl _) _⟩
end Go.Proofs.Ytbdccfjeeabpaaa
