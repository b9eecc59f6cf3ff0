/- Chapters 6, 7 (oids, oidsets): OIDs xs values; Check. -/
import Derived.Test.YtacpcagijfacnaaDoorShelf
import Derived.Test.YtacpcagijfacnaaDoorWWords
import Derived.Test.YtacpcagijfacnaaDoorWMore
import Derived.WalkKit
import Derived.Tactics
import Derived.Laws.Rows
import Derived.Lib.Hide
import Derived.Lib.ItoaMem
namespace Go.Proofs.YtacpcagijfacnaaDoor
open Go.RowKit Go.Shelf
open Go.Proofs.YtacpcagijfacnaaDoorW.PrintWords (blk_new blk_below blk_cell blk_alloc blk_lt blk_frozen blk_drew blk_set)
set_option linter.unusedSimpArgs false
set_option linter.unusedVariables false
set_option maxRecDepth 50000

/-- An OID's cells: how many arcs, and sixteen of them. -/
abbrev oidC (n : Int) (xs : List Int) : Array Value := (Value.int .u8 n :: xs.map (Value.int .u32)).toArray
abbrev oidV (n : Int) (xs : List Int) : Value := .agg (oidC n xs)
theorem oid_cells {W : World} {g : Nat} {n : Int} {xs : List Int} {t : TypeId} (h : W.heap[g]? = some (.cells (oidC n xs) t (0, 0))) :
    W.cell? ⟨g, 0, none⟩ = some (.int .u8 n) ∧ ∀ i, i < xs.length → W.cell? ⟨g, 1 + i, none⟩ = some (.int .u32 (xs.getD i 0)) := by
  refine ⟨blk_cell h 0, fun i hi => ?_⟩
  rw [blk_cell h (1 + i)]
  simp [Nat.add_comm 1 i, List.getElem?_eq_getElem hi, List.getD]
/-- Check, in plain data. -/
def chkO (n : Int) (xs : List Int) : Int :=
  if n < 2 then 1 else if 16 < n then 1 else if 2 < xs.getD 0 0 then 1 else if xs.getD 0 0 < 2 ∧ 39 < xs.getD 1 0 then 1 else if 4294967215 < xs.getD 1 0 then 1 else if ∀ x ∈ xs.drop n.toNat, x = 0 then 0 else 1
theorem drop_at {A : List Int} {k : Nat} (h : k < A.length) : A.drop k = A.getD k 0 :: A.drop (k + 1) := by
  rw [List.drop_eq_getElem_cons h]
  congr 1
  simp [List.getD, List.getElem?_eq_getElem h]
set_option maxHeartbeats 4000000 in
theorem check_16 (xs : List Int) (w : World) (hl : xs.length = 16) :
    Calls Tryd.prog 25 #[oidV 16 xs] w fun e w' => e = .returned (.int .i64 (chkO 16 xs)) ∧ Below w.heap.size w w' := by
  have hb := Lib.hid ((Below.refl w.heap.size w).alloc (Nat.le_refl _) (.cells (oidC 16 xs) 27))
  have hB := blk_new w (.cells (oidC 16 xs) 27)
  obtain ⟨c0, ca⟩ := oid_cells hB
  have c1 := ca 0 (by omega)
  have c2 := ca 1 (by omega)
  clear ca hB
  unfold chkO
  rw [if_neg (by omega), if_neg (by omega)]
  generalize hW : w.alloc (.cells (oidC 16 xs) 27) = W at *
  go_enter Tryd.func25, Tryd.ntmps25
  generalize ha0 : xs.getD 0 0 = a0 at *
  generalize ha1 : xs.getD 1 0 = a1 at *
  by_cases h3 : 2 < a0
  · rw [if_pos h3]
    go_wp2
    go_ret
    exact ⟨rfl, hb.out⟩
  rw [if_neg h3]
  by_cases h45 : a0 < 2 ∧ 39 < a1
  · rw [if_pos h45]
    obtain ⟨h4, h5⟩ := h45
    go_wp2
    go_ret
    exact ⟨rfl, hb.out⟩
  rw [if_neg h45]
  by_cases h6 : 4294967215 < a1
  · rw [if_pos h6]
    have h4 : ¬ a0 < 2 := fun h => h45 ⟨h, by omega⟩
    go_wp2
    go_ret
    exact ⟨rfl, hb.out⟩
  rw [if_neg h6, if_pos (by rw [List.drop_of_length_le (by rw [hl]; decide)]; simp)]
  have h7 : (a0 < 2 ∧ ¬ 39 < a1) ∨ ¬ a0 < 2 := by omega
  clear h45
  rcases h7 with ⟨h4, h5⟩ | h4
  all_goals
    go_upto_region 6 with fail
    go_loop [40] (fun i => i = .int .i64 0) (fun _ => 0)
    case atStart => rfl
    case round =>
      subst hrel
      go_wp2
      go_ret
      exact ⟨rfl, hb.out⟩
set_option maxHeartbeats 4000000 in
theorem check_any (n : Int) (xs : List Int) (w : World) (hl : xs.length = 16) (h0 : 0 ≤ n) :
    Calls Tryd.prog 25 #[oidV n xs] w fun e w' => e = .returned (.int .i64 (chkO n xs)) ∧ Below w.heap.size w w' := by
  by_cases h16 : n = 16
  · subst h16
    exact check_16 xs w hl
  obtain ⟨N, rfl⟩ : ∃ N : Nat, n = (N : Int) := ⟨n.toNat, by omega⟩
  have hN16 : ¬ N = 16 := fun h => h16 (by omega)
  clear h16
  have hb := Lib.hid ((Below.refl w.heap.size w).alloc (Nat.le_refl _) (.cells (oidC N xs) 27))
  have hB := blk_new w (.cells (oidC N xs) 27)
  obtain ⟨c0, ca⟩ := oid_cells hB
  have c1 := ca 0 (by omega)
  have c2 := ca 1 (by omega)
  have CA := Lib.hid ca
  clear ca hB
  unfold chkO
  generalize hW : w.alloc (.cells (oidC N xs) 27) = W at *
  go_enter Tryd.func25, Tryd.ntmps25
  by_cases h1 : (N : Int) < 2
  · rw [if_pos h1]
    go_wp2
    go_ret
    exact ⟨rfl, hb.out⟩
  rw [if_neg h1]
  by_cases h2 : 16 < (N : Int)
  · rw [if_pos h2]
    go_wp2
    go_ret
    exact ⟨rfl, hb.out⟩
  rw [if_neg h2]
  generalize ha0 : xs.getD 0 0 = a0 at *
  generalize ha1 : xs.getD 1 0 = a1 at *
  by_cases h3 : 2 < a0
  · rw [if_pos h3]
    go_wp2
    go_ret
    exact ⟨rfl, hb.out⟩
  rw [if_neg h3]
  by_cases h45 : a0 < 2 ∧ 39 < a1
  · rw [if_pos h45]
    obtain ⟨h4, h5⟩ := h45
    go_wp2
    go_ret
    exact ⟨rfl, hb.out⟩
  rw [if_neg h45]
  by_cases h6 : 4294967215 < a1
  · rw [if_pos h6]
    have h4 : ¬ a0 < 2 := fun h => h45 ⟨h, by omega⟩
    go_wp2
    go_ret
    exact ⟨rfl, hb.out⟩
  rw [if_neg h6, Int.toNat_natCast]
  generalize hr0 : (if ∀ x ∈ xs.drop N, x = 0 then (0 : Int) else 1) = r
  have hr := Lib.hid hr0
  clear hr0
  have h7 : (a0 < 2 ∧ ¬ 39 < a1) ∨ ¬ a0 < 2 := by omega
  clear h45
  have hNlt : N < 16 := by omega
  have hNe : ¬ 16 = N := by omega
  have HL := Lib.hid hl
  clear hl
  rcases h7 with ⟨h4, h5⟩ | h4
  all_goals
    go_upto_region 6 with fail
    go_loop [40] (fun i => ∃ j : Nat, j ≤ 16 - N ∧ i = .int .i64 (j : Int) ∧ Hid ((∀ x ∈ xs.drop (N + j), x = 0) ↔ ∀ x ∈ xs.drop N, x = 0)) (fun i => 16 - N - (intOf i).toNat)
    case atStart => exact ⟨0, by omega, rfl, Iff.rfl⟩
    case round =>
      obtain ⟨j, hj, rfl, hc⟩ := hrel
      by_cases hlt : j < 16 - N
      · have cx := CA.out (N + j) (by rw [HL.out]; omega)
        rw [← Nat.add_assoc] at cx
        have hd := hc.out
        rw [drop_at (show N + j < xs.length by rw [HL.out]; omega)] at hd
        generalize hx : xs.getD (N + j) 0 = x at *
        by_cases hx0 : x = 0
        · subst hx0
          have HD : Hid ((∀ x ∈ xs.drop (N + (j + 1)), x = 0) ↔ ∀ x ∈ xs.drop N, x = 0) := by
            refine Iff.trans ⟨fun h x hx => ?_, fun h x hx => h x (List.mem_cons_of_mem _ hx)⟩ hd
            rcases List.mem_cons.mp hx with rfl | hx
            · rfl
            · exact h x hx
          clear hd hc hx
          go_wp2
          go_round
          case rel => exact ⟨j + 1, by omega, by go_num, HD⟩
          case measure => simp [intOf]; omega
        · have hn : ¬ ∀ x ∈ xs.drop N, x = 0 := fun h => hx0 (hd.mpr h x (by simp))
          obtain rfl : r = 1 := by rw [← hr.out, if_neg hn]
          clear hd hc hx hn
          go_wp2
          go_ret
          exact ⟨rfl, hb.out⟩
      · obtain rfl : j = 16 - N := by omega
        have hd := hc.out
        rw [List.drop_of_length_le (by rw [HL.out]; omega)] at hd
        obtain rfl : r = 0 := by rw [← hr.out, if_pos (hd.mp (by simp))]
        clear hd hc
        go_wp2
        go_ret
        exact ⟨rfl, hb.out⟩
end Go.Proofs.YtacpcagijfacnaaDoor
