/- Chapters 6, 7 (oids, oidsets): OIDs xs values; Check. -/
import Derived.Test.YtacpcagijfacnaaDoorShelf
import Derived.Test.YtacpcagijfacnaaDoorWWords
import Derived.Test.YtacpcagijfacnaaDoorWMore
import Derived.WalkKit
import Derived.Tactics
import Derived.Laws.Rows
import Derived.Lib.Hide
import Derived.Lib.ItoaMem
import Derived.Laws.CopyOwn
namespace Go.Proofs.YtacpcagijfacnaaDoor
open Go.RowKit Go.Shelf
open Go.Proofs.YtacpcagijfacnaaDoorW.PrintWords (blk_new blk_below blk_cell blk_alloc blk_lt blk_frozen blk_drew blk_set)
set_option linter.unusedSimpArgs false
set_option linter.unusedVariables false
set_option maxRecDepth 50000

/-- An OID's cells: how many arcs, and sixteen of them. -/
abbrev oidC (n : Int) (xs : List Int) : Array Value := (Value.int .u8 n :: xs.map (Value.int .u32)).toArray
abbrev oidV (n : Int) (xs : List Int) : Value := .agg (oidC n xs)
theorem oid_cells {W : World} {g : Nat} {n : Int} {xs : List Int} {t : TypeId} (h : W.heap[g]? = some (.cells (oidC n xs) t (0, 0))) :
    W.cell? ⟨g, 0, none⟩ = some (.int .u8 n) ∧ ∀ i, i < xs.length → W.cell? ⟨g, 1 + i, none⟩ = some (.int .u32 (xs.getD i 0)) := by
  refine ⟨blk_cell h 0, fun i hi => ?_⟩
  rw [blk_cell h (1 + i)]
  simp [Nat.add_comm 1 i, List.getElem?_eq_getElem hi, List.getD]
/-- Check, in plain data. -/
def chkO (n : Int) (xs : List Int) : Int :=
  if n < 2 then 1 else if 16 < n then 1 else if 2 < xs.getD 0 0 then 1 else if xs.getD 0 0 < 2 ∧ 39 < xs.getD 1 0 then 1 else if 4294967215 < xs.getD 1 0 then 1 else if ∀ x ∈ xs.drop n.toNat, x = 0 then 0 else 1
theorem drop_at {A : List Int} {k : Nat} (h : k < A.length) : A.drop k = A.getD k 0 :: A.drop (k + 1) := by
  rw [List.drop_eq_getElem_cons h]
  congr 1
  simp [List.getD, List.getElem?_eq_getElem h]
set_option maxHeartbeats 4000000 in
theorem check_16 (xs : List Int) (w : World) (hl : xs.length = 16) :
    Calls Tryd.prog 25 #[oidV 16 xs] w fun e w' => e = .returned (.int .i64 (chkO 16 xs)) ∧ Below w.heap.size w w' := by
  have hb := Lib.hid ((Below.refl w.heap.size w).alloc (Nat.le_refl _) (.cells (oidC 16 xs) 27))
  have hB := blk_new w (.cells (oidC 16 xs) 27)
  obtain ⟨c0, ca⟩ := oid_cells hB
  have c1 := ca 0 (by omega)
  have c2 := ca 1 (by omega)
  clear ca hB
  unfold chkO
  rw [if_neg (by omega), if_neg (by omega)]
  generalize hW : w.alloc (.cells (oidC 16 xs) 27) = W at *
  go_enter Tryd.func25, Tryd.ntmps25
  generalize ha0 : xs.getD 0 0 = a0 at *
  generalize ha1 : xs.getD 1 0 = a1 at *
  by_cases h3 : 2 < a0
  · rw [if_pos h3]
    go_wp2
    go_ret
    exact ⟨rfl, hb.out⟩
  rw [if_neg h3]
  by_cases h45 : a0 < 2 ∧ 39 < a1
  · rw [if_pos h45]
    obtain ⟨h4, h5⟩ := h45
    go_wp2
    go_ret
    exact ⟨rfl, hb.out⟩
  rw [if_neg h45]
  by_cases h6 : 4294967215 < a1
  · rw [if_pos h6]
    have h4 : ¬ a0 < 2 := fun h => h45 ⟨h, by omega⟩
    go_wp2
    go_ret
    exact ⟨rfl, hb.out⟩
  rw [if_neg h6, if_pos (by rw [List.drop_of_length_le (by rw [hl]; decide)]; simp)]
  have h7 : (a0 < 2 ∧ ¬ 39 < a1) ∨ ¬ a0 < 2 := by omega
  clear h45
  rcases h7 with ⟨h4, h5⟩ | h4
  all_goals
    go_upto_region 6 with fail
    go_loop [40] (fun i => i = .int .i64 0) (fun _ => 0)
    case atStart => rfl
    case round =>
      subst hrel
      go_wp2
      go_ret
      exact ⟨rfl, hb.out⟩
set_option maxHeartbeats 4000000 in
theorem check_any (n : Int) (xs : List Int) (w : World) (hl : xs.length = 16) (h0 : 0 ≤ n) :
    Calls Tryd.prog 25 #[oidV n xs] w fun e w' => e = .returned (.int .i64 (chkO n xs)) ∧ Below w.heap.size w w' := by
  by_cases h16 : n = 16
  · subst h16
    exact check_16 xs w hl
  obtain ⟨N, rfl⟩ : ∃ N : Nat, n = (N : Int) := ⟨n.toNat, by omega⟩
  have hN16 : ¬ N = 16 := fun h => h16 (by omega)
  clear h16
  have hb := Lib.hid ((Below.refl w.heap.size w).alloc (Nat.le_refl _) (.cells (oidC N xs) 27))
  have hB := blk_new w (.cells (oidC N xs) 27)
  obtain ⟨c0, ca⟩ := oid_cells hB
  have c1 := ca 0 (by omega)
  have c2 := ca 1 (by omega)
  have CA := Lib.hid ca
  clear ca hB
  unfold chkO
  generalize hW : w.alloc (.cells (oidC N xs) 27) = W at *
  go_enter Tryd.func25, Tryd.ntmps25
  by_cases h1 : (N : Int) < 2
  · rw [if_pos h1]
    go_wp2
    go_ret
    exact ⟨rfl, hb.out⟩
  rw [if_neg h1]
  by_cases h2 : 16 < (N : Int)
  · rw [if_pos h2]
    go_wp2
    go_ret
    exact ⟨rfl, hb.out⟩
  rw [if_neg h2]
  generalize ha0 : xs.getD 0 0 = a0 at *
  generalize ha1 : xs.getD 1 0 = a1 at *
  by_cases h3 : 2 < a0
  · rw [if_pos h3]
    go_wp2
    go_ret
    exact ⟨rfl, hb.out⟩
  rw [if_neg h3]
  by_cases h45 : a0 < 2 ∧ 39 < a1
  · rw [if_pos h45]
    obtain ⟨h4, h5⟩ := h45
    go_wp2
    go_ret
    exact ⟨rfl, hb.out⟩
  rw [if_neg h45]
  by_cases h6 : 4294967215 < a1
  · rw [if_pos h6]
    have h4 : ¬ a0 < 2 := fun h => h45 ⟨h, by omega⟩
    go_wp2
    go_ret
    exact ⟨rfl, hb.out⟩
  rw [if_neg h6, Int.toNat_natCast]
  generalize hr0 : (if ∀ x ∈ xs.drop N, x = 0 then (0 : Int) else 1) = r
  have hr := Lib.hid hr0
  clear hr0
  have h7 : (a0 < 2 ∧ ¬ 39 < a1) ∨ ¬ a0 < 2 := by omega
  clear h45
  have hNlt : N < 16 := by omega
  have hNe : ¬ 16 = N := by omega
  have HL := Lib.hid hl
  clear hl
  rcases h7 with ⟨h4, h5⟩ | h4
  all_goals
    go_upto_region 6 with fail
    go_loop [40] (fun i => ∃ j : Nat, j ≤ 16 - N ∧ i = .int .i64 (j : Int) ∧ Hid ((∀ x ∈ xs.drop (N + j), x = 0) ↔ ∀ x ∈ xs.drop N, x = 0)) (fun i => 16 - N - (intOf i).toNat)
    case atStart => exact ⟨0, by omega, rfl, Iff.rfl⟩
    case round =>
      obtain ⟨j, hj, rfl, hc⟩ := hrel
      by_cases hlt : j < 16 - N
      · have cx := CA.out (N + j) (by rw [HL.out]; omega)
        rw [← Nat.add_assoc] at cx
        have hd := hc.out
        rw [drop_at (show N + j < xs.length by rw [HL.out]; omega)] at hd
        generalize hx : xs.getD (N + j) 0 = x at *
        by_cases hx0 : x = 0
        · subst hx0
          have HD : Hid ((∀ x ∈ xs.drop (N + (j + 1)), x = 0) ↔ ∀ x ∈ xs.drop N, x = 0) := by
            refine Iff.trans ⟨fun h x hx => ?_, fun h x hx => h x (List.mem_cons_of_mem _ hx)⟩ hd
            rcases List.mem_cons.mp hx with rfl | hx
            · rfl
            · exact h x hx
          clear hd hc hx
          go_wp2
          go_round
          case rel => exact ⟨j + 1, by omega, by go_num, HD⟩
          case measure => simp [intOf]; omega
        · have hn : ¬ ∀ x ∈ xs.drop N, x = 0 := fun h => hx0 (hd.mpr h x (by simp))
          obtain rfl : r = 1 := by rw [← hr.out, if_neg hn]
          clear hd hc hx hn
          go_wp2
          go_ret
          exact ⟨rfl, hb.out⟩
      · obtain rfl : j = 16 - N := by omega
        have hd := hc.out
        rw [List.drop_of_length_le (by rw [HL.out]; omega)] at hd
        obtain rfl : r = 0 := by rw [← hr.out, if_pos (hd.mp (by simp))]
        clear hd hc
        go_wp2
        go_ret
        exact ⟨rfl, hb.out⟩
end Go.Proofs.YtacpcagijfacnaaDoor
namespace Go.Proofs.YtacpcagijfacnaaDoor
open Go.RowKit Go.Shelf
open Go.Proofs.YtacpcagijfacnaaDoorW.PrintWords (gate_dst gate_store Kd.C_below Kd.C_of_reads Kd.reads_of_C ReadsOf.at_ rdOf blk_new blk_below blk_cell blk_alloc blk_lt blk_frozen blk_drew blk_set Kd.C Kd.int)
set_option linter.unusedSimpArgs false
set_option linter.unusedVariables false
set_option maxRecDepth 50000

theorem arcs_le (g N : Nat) (w : World) (h : w.cell? ⟨g, 0, none⟩ = some (.int .u8 (N : Int))) (hN : N ≤ 16) :
    Calls Tryd.prog 27 #[.pointer (some ⟨g, 0, none⟩)] w fun e w' => e = .returned (.slice (some ⟨g, 1, none⟩) N 16) ∧ Below w.heap.size w w' := by
  have hm : min (N : Int) 16 = (N : Int) := by omega
  have hN1 : (N : Int) ≤ 16 := by omega
  have hN2 : ¬ (16 : Int) < (N : Int) := by omega
  have hN3 : ¬ 16 < N := by omega
  have hN4 : ¬ (N : Int) < 0 := by omega
  have hb := (Below.refl w.heap.size w).drew
  go_enter Tryd.func27, Tryd.ntmps27
  go_upto_region 1 with fail
  go_region
  go_wp2
  go_ret
  exact ⟨rfl, hb⟩
theorem arcs_gt (g N : Nat) (w : World) (h : w.cell? ⟨g, 0, none⟩ = some (.int .u8 (N : Int))) (hN : 16 < N) (hN2 : N < 256) :
    Calls Tryd.prog 27 #[.pointer (some ⟨g, 0, none⟩)] w fun e w' => e = .returned (.slice (some ⟨g, 1, none⟩) 16 16) ∧ Below w.heap.size w w' := by
  have hm : min (N : Int) 16 = 16 := by omega
  have hb := (Below.refl w.heap.size w).drew
  go_enter Tryd.func27, Tryd.ntmps27
  go_upto_region 1 with fail
  go_region
  go_wp2
  go_ret
  exact ⟨rfl, hb⟩
/-- arcs: the arcs of the OID in a box. -/
theorem arcs_is (g N : Nat) (w : World) (h : w.cell? ⟨g, 0, none⟩ = some (.int .u8 (N : Int))) (hN : N < 256) :
    Calls Tryd.prog 27 #[.pointer (some ⟨g, 0, none⟩)] w fun e w' => e = .returned (.slice (some ⟨g, 1, none⟩) (min N 16) 16) ∧ Below w.heap.size w w' := by
  by_cases h16 : N ≤ 16
  · rw [Nat.min_eq_left h16]; exact arcs_le g N w h h16
  · rw [Nat.min_eq_right (by omega)]; exact arcs_gt g N w h (by omega) hN
theorem zrow : (#[.int .u8 0, .int .u32 0, .int .u32 0, .int .u32 0, .int .u32 0, .int .u32 0, .int .u32 0, .int .u32 0, .int .u32 0, .int .u32 0, .int .u32 0, .int .u32 0, .int .u32 0, .int .u32 0, .int .u32 0, .int .u32 0, .int .u32 0] : Array Value) = oidC 0 (List.replicate 16 0) := rfl
theorem oid_one (n : Int) (xs : List Int) : (oidC n xs).all (·.oneCell') = true := by
  simp [Value.oneCell']
theorem info27 : (Tryd.prog.info? 27).map (·.size) = some 17 := by kernel_rfl
theorem oid_info (n : Int) (xs : List Int) (h : xs.length = 16) : (Tryd.prog.info? 27).map (·.size) = some (oidC n xs).size := by
  rw [info27]
  simp [h]
theorem of_long (A : Option Addr) (c : Nat) (l : List Int) (w : World) (hl : 16 < l.length) :
    Calls Tryd.prog 21 #[.slice A l.length c] w fun e w' => e = .returned (oidV 0 (List.replicate 16 0)) ∧ Below w.heap.size w w' := by
  have h1 : decide (16 < l.length) = true := decide_eq_true hl
  have hb := (Below.refl w.heap.size w).alloc (Nat.le_refl _) (.cells (oidC 0 (List.replicate 16 0)) 27)
  have hB := blk_new w (.cells (oidC 0 (List.replicate 16 0)) 27)
  go_enter Tryd.func21, Tryd.ntmps21
  go_upto_region 1 with fail
  rw [zrow]
  generalize w.alloc (.cells (oidC 0 (List.replicate 16 0)) 27) = W at *
  go_upto_region 2 with fail
  go_wp2_with (with_reducible refine wpList_plain rfl fun K hK => ?_; refine wp_store_row 27 _ _ rfl w.heap.size (oidC 0 (List.replicate 16 0)) rfl rfl 27 (oidC 0 (List.replicate 16 0)) hB (oid_info _ _ rfl) rfl (oid_one _ _) ?_; refine hK _ _ ?_)
  refine bodyPost_ret (results_cell_row rfl _ _ w.heap.size 27 (oidC 0 (List.replicate 16 0)) (0, 0) _ rfl (setRow_heap _ _ _ _ _ _ hB) Tryd.underlying27 rfl (oid_info _ _ rfl)) rfl ?_
  exact ⟨rfl, below_setRow hb (Nat.le_refl _) _⟩
abbrev Z16 : List Int := List.replicate 16 0
/-- Arcs, filled up. -/
def pad (l : List Int) : List Int := l ++ List.replicate (16 - l.length) 0
theorem pad_len (l : List Int) (h : l.length ≤ 16) : (pad l).length = 16 := by unfold pad; simp; omega
theorem splice_oid (n : Int) (l : List Int) (h : l.length ≤ 16) : (splice (oidC n Z16).toList 1 (l.map (Value.int .u32))).toArray = oidC n (pad l) := by
  have e : (oidC n Z16).toList = Value.int .u8 n :: List.replicate 16 (Value.int .u32 0) := rfl
  unfold splice pad
  rw [e, List.length_map, Nat.add_comm 1, List.drop_succ_cons, List.drop_replicate]
  show _ = (Value.int .u8 n :: (l ++ List.replicate (16 - l.length) 0).map (Value.int .u32)).toArray
  rw [List.map_append, List.map_replicate]
  rfl
/-- What a slice holds, as copy reads it. -/
def Src (A : Option Addr) (l : List Int) (W : World) : Prop := 0 < (l.map (Value.int .u32)).length → ∃ ad, A = some ad ∧ ∀ j v, (l.map (Value.int .u32))[j]? = some v → W.cell? (ad.add j) = some v
theorem src_of {A : Option Addr} {l : List Int} {W : World} (h : Kd.C (Kd.int .u32) W A l.length l) : Src A l W := by
  have hr := Kd.reads_of_C (enc := Value.int .u32) (d := (0 : Int)) (h1 := fun _ => rfl) h
  intro h0
  simp only [List.length_map] at h0
  obtain ⟨a, rfl, _⟩ := hr.at_ 0 (by omega) (by omega)
  refine ⟨a, rfl, fun j v hj => ?_⟩
  have hj' : j < l.length := by
    by_cases hlt : j < l.length
    · exact hlt
    · rw [List.getElem?_eq_none (by simp; omega)] at hj; cases hj
  obtain ⟨a', ha', hc⟩ := hr.at_ (j : Int) (by omega) (by omega)
  injection ha' with ha'
  subst ha'
  simp only [Int.toNat_natCast] at hc
  rw [hc]
  rw [List.getElem?_map, List.getElem?_eq_getElem hj'] at hj
  rw [← hj]
  simp [rdOf, List.getD, List.getElem?_eq_getElem hj']
theorem chkO_01 (n : Int) (xs : List Int) : chkO n xs = 0 ∨ chkO n xs = 1 := by
  unfold chkO
  repeat' split
  all_goals first | exact .inl rfl | exact .inr rfl
/-- What Of answers. -/
def ofN (l : List Int) : Int := if chkO (l.length : Int) (pad l) = 0 then (l.length : Int) else 0
def ofX (l : List Int) : List Int := if chkO (l.length : Int) (pad l) = 0 then pad l else Z16
set_option maxHeartbeats 4000000 in
theorem of_short (A : Option Addr) (c : Nat) (l : List Int) (w : World) (hl : l.length ≤ 16) (hr : Kd.C (Kd.int .u32) w A l.length l) (hc : l.length ≤ c) :
    Calls Tryd.prog 21 #[.slice A l.length c] w fun e w' => e = .returned (oidV (ofN l) (ofX l)) ∧ Below w.heap.size w w' := by
  generalize hrn : ofN l = rn
  generalize hrx : ofX l = rx
  have HN := Lib.hid hrn
  have HX := Lib.hid hrx
  clear hrn hrx
  have h1 : ¬ 16 < l.length := by omega
  have h2 : ¬ (16 : Int) < (l.length : Int) := by omega
  have hw : IntKind.u8.wrap (l.length : Int) = (l.length : Int) := by rw [IntKind.wrap_u8]; omega
  have HR := Lib.hid hr
  clear hr
  have hb := (Below.refl w.heap.size w).alloc (Nat.le_refl _) (.cells (oidC 0 Z16) 27)
  have hB := blk_new w (.cells (oidC 0 Z16) 27)
  have hsz : (w.alloc (.cells (oidC 0 Z16) 27)).heap.size = w.heap.size + 1 := by simp
  go_enter Tryd.func21, Tryd.ntmps21
  go_upto_region 1 with fail
  rw [zrow]
  generalize w.alloc (.cells (oidC 0 (List.replicate 16 0)) 27) = W at *
  have hG := blk_new W (.cells (oidC (l.length : Int) Z16) 27)
  have hR : (W.alloc (.cells (oidC (l.length : Int) Z16) 27)).heap[w.heap.size]? = some (.cells (oidC 0 Z16) 27) := blk_alloc hB _
  have hb2 := hb.alloc (by omega) (.cells (oidC (l.length : Int) Z16) 27)
  have hs2 : (W.alloc (.cells (oidC (l.length : Int) Z16) 27)).heap.size = w.heap.size + 2 := by rw [World.size_alloc, hsz]
  rw [hsz] at hG
  go_upto_region 4 with fail
  rw [show (#[.int .u8 (l.length : Int), .int .u32 0, .int .u32 0, .int .u32 0, .int .u32 0, .int .u32 0, .int .u32 0, .int .u32 0, .int .u32 0, .int .u32 0, .int .u32 0, .int .u32 0, .int .u32 0, .int .u32 0, .int .u32 0, .int .u32 0, .int .u32 0] : Array Value) = oidC (l.length : Int) Z16 from rfl]
  generalize W.alloc (.cells (oidC (l.length : Int) Z16) 27) = W2 at *
  have HP := Lib.hid (pad_len l hl)
  have hS : Src A l W2 := src_of (Kd.C_below HR.out hb2)
  go_upto_region 5 with ((with_reducible refine gate_dst (N := 15) rfl ?_); (refine wpList_copy_splice rfl _ _ 43 43 rfl 24 Tryd.underlying43 (by kernel_rfl) (some ⟨w.heap.size + 1, 1, none⟩) A 16 16 l.length c rfl rfl (w.heap.size + 1) 1 (oidC (l.length : Int) Z16).toList 27 hG (l.map (Value.int .u32)) (by rw [List.length_map]; exact (Nat.min_eq_left hl).symm) (fun h => ⟨rfl, hS h⟩) (by simp; omega) (by simp [Value.oneCell']) (w.heap.size + 1) W2 (Below.refl _ _) (Nat.le_refl _) ?_; intro W3 hG3 hb3))
  have hG4 : W3.heap[w.heap.size + 1]? = some (.cells (oidC (l.length : Int) (pad l)) 27 (0, 0)) := by
    have := hG3.out
    rwa [splice_oid _ _ hl] at this
  have hR3 : W3.heap[w.heap.size]? = some (.cells (oidC 0 Z16) 27 (0, 0)) := (hb3.block w.heap.size (by omega)).trans hR
  have hs3 := hb3.size
  have hb4 : Below w.heap.size w W3 := hb2.trans (hb3.mono (by omega))
  clear hG3 hb3 hG hR hS
  have HC := Lib.hid (fun W => check_any (l.length : Int) (pad l) W HP.out (by omega))
  by_cases hk : chkO (l.length : Int) (pad l) = 0
  · obtain rfl : rn = (l.length : Int) := by rw [← HN.out]; unfold ofN; rw [if_pos hk]
    obtain rfl : rx = pad l := by rw [← HX.out]; unfold ofX; rw [if_pos hk]
    rw [hk] at HC
    go_upto_region 7 with (first
      | ((with_reducible refine gate_dst (N := 16) rfl ?_); refine wpList_load_row rfl 27 _ rfl (w.heap.size + 1) rfl 27 (oidC (l.length : Int) (pad l)) (0, 0) _ hG4 Tryd.underlying27 rfl (oid_info _ _ HP.out) ?_)
      | (go_at_call 25; refine (HC.out _).mono ?_; rintro e W5 ⟨rfl, hb5⟩; have hG5 := blk_below hG4 hb5; have hR5 := blk_below hR3 hb5; have hb6 : Below w.heap.size w W5 := hb4.trans (hb5.mono hb4.size)))
    go_wp2_with (first
      | ((with_reducible refine gate_dst (N := 20) rfl ?_); refine wpList_load_row rfl 27 _ rfl (w.heap.size + 1) rfl 27 (oidC (l.length : Int) (pad l)) (0, 0) _ hG5 Tryd.underlying27 rfl (oid_info _ _ HP.out) ?_)
      | ((with_reducible refine gate_store rfl ?_); refine wpList_plain rfl fun K hK => ?_; refine wp_store_row 27 _ _ rfl w.heap.size (oidC (l.length : Int) (pad l)) rfl rfl 27 (oidC 0 Z16) hR5 (oid_info _ _ HP.out) (by simp [HP.out]) (oid_one _ _) ?_; refine hK _ _ ?_))
    refine bodyPost_ret (results_cell_row rfl _ _ w.heap.size 27 (oidC (l.length : Int) (pad l)) (0, 0) _ rfl (setRow_heap _ _ _ _ _ _ hR5) Tryd.underlying27 rfl (oid_info _ _ HP.out)) rfl ?_
    exact ⟨rfl, below_setRow hb6 (Nat.le_refl _) _⟩
  · obtain rfl : rn = 0 := by rw [← HN.out]; unfold ofN; rw [if_neg hk]
    obtain rfl : rx = Z16 := by rw [← HX.out]; unfold ofX; rw [if_neg hk]
    rw [(chkO_01 _ _).resolve_left hk] at HC
    go_upto_region 6 with (first
      | ((with_reducible refine gate_dst (N := 16) rfl ?_); refine wpList_load_row rfl 27 _ rfl (w.heap.size + 1) rfl 27 (oidC (l.length : Int) (pad l)) (0, 0) _ hG4 Tryd.underlying27 rfl (oid_info _ _ HP.out) ?_)
      | (go_at_call 25; refine (HC.out _).mono ?_; rintro e W5 ⟨rfl, hb5⟩; have hR5 := blk_below hR3 hb5; have hb6 : Below w.heap.size w W5 := hb4.trans (hb5.mono hb4.size)))
    go_wp2_with ((with_reducible refine gate_store rfl ?_); refine wpList_plain rfl fun K hK => ?_; refine wp_store_row 27 _ _ rfl w.heap.size (oidC 0 Z16) rfl rfl 27 (oidC 0 Z16) hR5 (oid_info _ _ rfl) rfl (oid_one _ _) ?_; refine hK _ _ ?_)
    refine bodyPost_ret (results_cell_row rfl _ _ w.heap.size 27 (oidC 0 Z16) (0, 0) _ rfl (setRow_heap _ _ _ _ _ _ hR5) Tryd.underlying27 rfl (oid_info _ _ rfl)) rfl ?_
    exact ⟨rfl, below_setRow hb6 (Nat.le_refl _) _⟩
end Go.Proofs.YtacpcagijfacnaaDoor
namespace Go.Proofs.YtacpcagijfacnaaDoor
open Go.RowKit Go.Shelf
open Go.Proofs.YtacpcagijfacnaaDoorW.PrintWords (gate_dst gate_store Kd.C_below Kd.C_of_reads Kd.reads_of_C ReadsOf.at_ rdOf blk_new blk_below blk_cell blk_alloc blk_lt blk_frozen blk_drew blk_set Kd.C Kd.int)
set_option linter.unusedSimpArgs false
set_option linter.unusedVariables false
set_option maxRecDepth 50000
/-- A slice that was built of numbers, as the contracts read it. -/
theorem src_block {W : World} {g : Nat} (l : List Int) (hl : l.length ≤ 1000000) (h : W.heap[g]? = some (.cells (l.map (Value.int .u32)).toArray 24 (0, 0))) : Kd.C (Kd.int .u32) W (some ⟨g, 0, none⟩) l.length l := by
  refine Kd.C_of_reads (d := (0 : Int)) ⟨rfl, by omega, fun hn => ⟨⟨g, 0, none⟩, rfl, fun j hj => ?_⟩⟩
  rw [Lib.add_plain, Nat.zero_add, blk_cell h j]
  simp [List.getElem?_map, List.getElem?_eq_getElem hj, List.getD]
abbrev anyX : List Int := [2, 5, 29, 32, 0, 0, 0, 0, 0, 0, 0, 0, 0, 0, 0, 0]
theorem any_n : ofN [2, 5, 29, 32, 0] = 5 := by decide
theorem any_x : ofX [2, 5, 29, 32, 0] = anyX := by decide
theorem any_is (w : World) : Calls Tryd.prog 22 #[] w fun e w' => e = .returned (oidV 5 anyX) ∧ Below w.heap.size w w' := by
  have hb := (Below.refl w.heap.size w).alloc (Nat.le_refl _) (.cells (oidC 0 Z16) 27)
  have hB := blk_new w (.cells (oidC 0 Z16) 27)
  have hsz : (w.alloc (.cells (oidC 0 Z16) 27)).heap.size = w.heap.size + 1 := by simp
  go_enter Tryd.func22, Tryd.ntmps22
  go_upto_region 1 with fail
  rw [zrow]
  generalize w.alloc (.cells (oidC 0 (List.replicate 16 0)) 27) = W at *
  have hb2 := hb.alloc (by omega) (.cells #[.int .u32 2, .int .u32 5, .int .u32 29, .int .u32 32, .int .u32 0] 24)
  have hR2 : (W.alloc (.cells #[.int .u32 2, .int .u32 5, .int .u32 29, .int .u32 32, .int .u32 0] 24)).heap[w.heap.size]? = some (.cells (oidC 0 Z16) 27 (0, 0)) := blk_alloc hB _
  have hC := src_block (W := W.alloc (.cells #[.int .u32 2, .int .u32 5, .int .u32 29, .int .u32 32, .int .u32 0] 24)) (g := w.heap.size + 1) [2, 5, 29, 32, 0] (by simp) (by rw [← hsz]; exact blk_new W _)
  have HO := Lib.hid (of_short (some ⟨w.heap.size + 1, 0, none⟩) 5 [2, 5, 29, 32, 0] _ (by simp) hC (by simp))
  rw [any_n, any_x] at HO
  clear hC
  go_wp2_with (first
    | (go_at_call 21; refine HO.out.mono ?_; rintro e W5 ⟨rfl, hb5⟩; have hR5 := blk_below hR2 hb5; have hb6 : Below w.heap.size w W5 := hb2.trans (hb5.mono hb2.size))
    | ((with_reducible refine gate_store rfl ?_); refine wpList_plain rfl fun K hK => ?_; refine wp_store_row 27 _ _ rfl w.heap.size (oidC 5 anyX) rfl rfl 27 (oidC 0 Z16) hR5 (oid_info _ _ rfl) rfl (oid_one _ _) ?_; refine hK _ _ ?_))
  refine bodyPost_ret (results_cell_row rfl _ _ w.heap.size 27 (oidC 5 anyX) (0, 0) _ rfl (setRow_heap _ _ _ _ _ _ hR5) Tryd.underlying27 rfl (oid_info _ _ rfl)) rfl ?_
  exact ⟨rfl, below_setRow hb6 (Nat.le_refl _) _⟩
end Go.Proofs.YtacpcagijfacnaaDoor
