/- Chapters 6, 7 (oids, oidsets): arcs, Of, Any. -/
import Derived.Test.YtacpcagijfacnaaDoorWa
import Derived.Laws.CopyOwn
import Derived.Laws.Rows
namespace Go.Proofs.YtacpcagijfacnaaDoor
open Go.RowKit Go.Shelf
open Go.Proofs.YtacpcagijfacnaaDoorW.PrintWords (gate_dst gate_store Kd.C_below Kd.C_of_reads Kd.reads_of_C ReadsOf.at_ rdOf blk_new blk_below blk_cell blk_alloc blk_lt blk_frozen blk_drew blk_set Kd.C Kd.int)
set_option linter.unusedSimpArgs false
set_option linter.unusedVariables false
set_option maxRecDepth 50000

theorem arcs_le (g N : Nat) (w : World) (h : w.cell? ⟨g, 0, none⟩ = some (.int .u8 (N : Int))) (hN : N ≤ 16) :
    Calls Tryd.prog 27 #[.pointer (some ⟨g, 0, none⟩)] w fun e w' => e = .returned (.slice (some ⟨g, 1, none⟩) N 16) ∧ Below w.heap.size w w' := by
  have hm : min (N : Int) 16 = (N : Int) := by omega
  have hN1 : (N : Int) ≤ 16 := by omega
  have hN2 : ¬ (16 : Int) < (N : Int) := by omega
  have hN3 : ¬ 16 < N := by omega
  have hN4 : ¬ (N : Int) < 0 := by omega
  have hb := (Below.refl w.heap.size w).drew
  go_enter Tryd.func27, Tryd.ntmps27
  go_upto_region 1 with fail
  go_region
  go_wp2
  go_ret
  exact ⟨rfl, hb⟩
theorem arcs_gt (g N : Nat) (w : World) (h : w.cell? ⟨g, 0, none⟩ = some (.int .u8 (N : Int))) (hN : 16 < N) (hN2 : N < 256) :
    Calls Tryd.prog 27 #[.pointer (some ⟨g, 0, none⟩)] w fun e w' => e = .returned (.slice (some ⟨g, 1, none⟩) 16 16) ∧ Below w.heap.size w w' := by
  have hm : min (N : Int) 16 = 16 := by omega
  have hb := (Below.refl w.heap.size w).drew
  go_enter Tryd.func27, Tryd.ntmps27
  go_upto_region 1 with fail
  go_region
  go_wp2
  go_ret
  exact ⟨rfl, hb⟩
/-- arcs: the arcs of the OID in a box. -/
theorem arcs_is (g N : Nat) (w : World) (h : w.cell? ⟨g, 0, none⟩ = some (.int .u8 (N : Int))) (hN : N < 256) :
    Calls Tryd.prog 27 #[.pointer (some ⟨g, 0, none⟩)] w fun e w' => e = .returned (.slice (some ⟨g, 1, none⟩) (min N 16) 16) ∧ Below w.heap.size w w' := by
  by_cases h16 : N ≤ 16
  · rw [Nat.min_eq_left h16]; exact arcs_le g N w h h16
  · rw [Nat.min_eq_right (by omega)]; exact arcs_gt g N w h (by omega) hN
theorem zrow : (#[.int .u8 0, .int .u32 0, .int .u32 0, .int .u32 0, .int .u32 0, .int .u32 0, .int .u32 0, .int .u32 0, .int .u32 0, .int .u32 0, .int .u32 0, .int .u32 0, .int .u32 0, .int .u32 0, .int .u32 0, .int .u32 0, .int .u32 0] : Array Value) = oidC 0 (List.replicate 16 0) := rfl
theorem oid_one (n : Int) (xs : List Int) : (oidC n xs).all (·.oneCell') = true := by
  simp [Value.oneCell']
theorem info27 : (Tryd.prog.info? 27).map (·.size) = some 17 := by kernel_rfl
theorem oid_info (n : Int) (xs : List Int) (h : xs.length = 16) : (Tryd.prog.info? 27).map (·.size) = some (oidC n xs).size := by
  rw [info27]
  simp [h]
theorem of_long (A : Option Addr) (c : Nat) (l : List Int) (w : World) (hl : 16 < l.length) :
    Calls Tryd.prog 21 #[.slice A l.length c] w fun e w' => e = .returned (oidV 0 (List.replicate 16 0)) ∧ Below w.heap.size w w' := by
  have h1 : decide (16 < l.length) = true := decide_eq_true hl
  have hb := (Below.refl w.heap.size w).alloc (Nat.le_refl _) (.cells (oidC 0 (List.replicate 16 0)) 27)
  have hB := blk_new w (.cells (oidC 0 (List.replicate 16 0)) 27)
  go_enter Tryd.func21, Tryd.ntmps21
  go_upto_region 1 with fail
  rw [zrow]
  generalize w.alloc (.cells (oidC 0 (List.replicate 16 0)) 27) = W at *
  go_upto_region 2 with fail
  go_wp2_with (with_reducible refine wpList_plain rfl fun K hK => ?_; refine wp_store_row 27 _ _ rfl w.heap.size (oidC 0 (List.replicate 16 0)) rfl rfl 27 (oidC 0 (List.replicate 16 0)) hB (oid_info _ _ rfl) rfl (oid_one _ _) ?_; refine hK _ _ ?_)
  refine bodyPost_ret (results_cell_row rfl _ _ w.heap.size 27 (oidC 0 (List.replicate 16 0)) (0, 0) _ rfl (setRow_heap _ _ _ _ _ _ hB) Tryd.underlying27 rfl (oid_info _ _ rfl)) rfl ?_
  exact ⟨rfl, below_setRow hb (Nat.le_refl _) _⟩
abbrev Z16 : List Int := List.replicate 16 0
/-- Arcs, filled up. -/
def pad (l : List Int) : List Int := l ++ List.replicate (16 - l.length) 0
theorem pad_len (l : List Int) (h : l.length ≤ 16) : (pad l).length = 16 := by unfold pad; simp; omega
theorem splice_oid (n : Int) (l : List Int) (h : l.length ≤ 16) : (splice (oidC n Z16).toList 1 (l.map (Value.int .u32))).toArray = oidC n (pad l) := by
  have e : (oidC n Z16).toList = Value.int .u8 n :: List.replicate 16 (Value.int .u32 0) := rfl
  unfold splice pad
  rw [e, List.length_map, Nat.add_comm 1, List.drop_succ_cons, List.drop_replicate]
  show _ = (Value.int .u8 n :: (l ++ List.replicate (16 - l.length) 0).map (Value.int .u32)).toArray
  rw [List.map_append, List.map_replicate]
  rfl
/-- What a slice holds, as copy reads it. -/
def Src (A : Option Addr) (l : List Int) (W : World) : Prop := 0 < (l.map (Value.int .u32)).length → ∃ ad, A = some ad ∧ ∀ j v, (l.map (Value.int .u32))[j]? = some v → W.cell? (ad.add j) = some v
theorem src_of {A : Option Addr} {l : List Int} {W : World} (h : Kd.C (Kd.int .u32) W A l.length l) : Src A l W := by
  have hr := Kd.reads_of_C (enc := Value.int .u32) (d := (0 : Int)) (h1 := fun _ => rfl) h
  intro h0
  simp only [List.length_map] at h0
  obtain ⟨a, rfl, _⟩ := hr.at_ 0 (by omega) (by omega)
  refine ⟨a, rfl, fun j v hj => ?_⟩
  have hj' : j < l.length := by
    by_cases hlt : j < l.length
    · exact hlt
    · rw [List.getElem?_eq_none (by simp; omega)] at hj; cases hj
  obtain ⟨a', ha', hc⟩ := hr.at_ (j : Int) (by omega) (by omega)
  injection ha' with ha'
  subst ha'
  simp only [Int.toNat_natCast] at hc
  rw [hc]
  rw [List.getElem?_map, List.getElem?_eq_getElem hj'] at hj
  rw [← hj]
  simp [rdOf, List.getD, List.getElem?_eq_getElem hj']
theorem chkO_01 (n : Int) (xs : List Int) : chkO n xs = 0 ∨ chkO n xs = 1 := by
  unfold chkO
  repeat' split
  all_goals first | exact .inl rfl | exact .inr rfl
/-- What Of answers. -/
def ofN (l : List Int) : Int := if chkO (l.length : Int) (pad l) = 0 then (l.length : Int) else 0
def ofX (l : List Int) : List Int := if chkO (l.length : Int) (pad l) = 0 then pad l else Z16
set_option maxHeartbeats 4000000 in
theorem of_short (A : Option Addr) (c : Nat) (l : List Int) (w : World) (hl : l.length ≤ 16) (hr : Kd.C (Kd.int .u32) w A l.length l) (hc : l.length ≤ c) :
    Calls Tryd.prog 21 #[.slice A l.length c] w fun e w' => e = .returned (oidV (ofN l) (ofX l)) ∧ Below w.heap.size w w' := by
  generalize hrn : ofN l = rn
  generalize hrx : ofX l = rx
  have HN := Lib.hid hrn
  have HX := Lib.hid hrx
  clear hrn hrx
  have h1 : ¬ 16 < l.length := by omega
  have h2 : ¬ (16 : Int) < (l.length : Int) := by omega
  have hw : IntKind.u8.wrap (l.length : Int) = (l.length : Int) := by rw [IntKind.wrap_u8]; omega
  have HR := Lib.hid hr
  clear hr
  have hb := (Below.refl w.heap.size w).alloc (Nat.le_refl _) (.cells (oidC 0 Z16) 27)
  have hB := blk_new w (.cells (oidC 0 Z16) 27)
  have hsz : (w.alloc (.cells (oidC 0 Z16) 27)).heap.size = w.heap.size + 1 := by simp
  go_enter Tryd.func21, Tryd.ntmps21
  go_upto_region 1 with fail
  rw [zrow]
  generalize w.alloc (.cells (oidC 0 (List.replicate 16 0)) 27) = W at *
  have hG := blk_new W (.cells (oidC (l.length : Int) Z16) 27)
  have hR : (W.alloc (.cells (oidC (l.length : Int) Z16) 27)).heap[w.heap.size]? = some (.cells (oidC 0 Z16) 27) := blk_alloc hB _
  have hb2 := hb.alloc (by omega) (.cells (oidC (l.length : Int) Z16) 27)
  have hs2 : (W.alloc (.cells (oidC (l.length : Int) Z16) 27)).heap.size = w.heap.size + 2 := by rw [World.size_alloc, hsz]
  rw [hsz] at hG
  go_upto_region 4 with fail
  rw [show (#[.int .u8 (l.length : Int), .int .u32 0, .int .u32 0, .int .u32 0, .int .u32 0, .int .u32 0, .int .u32 0, .int .u32 0, .int .u32 0, .int .u32 0, .int .u32 0, .int .u32 0, .int .u32 0, .int .u32 0, .int .u32 0, .int .u32 0, .int .u32 0] : Array Value) = oidC (l.length : Int) Z16 from rfl]
  generalize W.alloc (.cells (oidC (l.length : Int) Z16) 27) = W2 at *
  have HP := Lib.hid (pad_len l hl)
  have hS : Src A l W2 := src_of (Kd.C_below HR.out hb2)
  go_upto_region 5 with ((with_reducible refine gate_dst (N := 15) rfl ?_); (refine wpList_copy_splice rfl _ _ 43 43 rfl 24 Tryd.underlying43 (by kernel_rfl) (some ⟨w.heap.size + 1, 1, none⟩) A 16 16 l.length c rfl rfl (w.heap.size + 1) 1 (oidC (l.length : Int) Z16).toList 27 hG (l.map (Value.int .u32)) (by rw [List.length_map]; exact (Nat.min_eq_left hl).symm) (fun h => ⟨rfl, hS h⟩) (by simp; omega) (by simp [Value.oneCell']) (w.heap.size + 1) W2 (Below.refl _ _) (Nat.le_refl _) ?_; intro W3 hG3 hb3))
  have hG4 : W3.heap[w.heap.size + 1]? = some (.cells (oidC (l.length : Int) (pad l)) 27 (0, 0)) := by
    have := hG3.out
    rwa [splice_oid _ _ hl] at this
  have hR3 : W3.heap[w.heap.size]? = some (.cells (oidC 0 Z16) 27 (0, 0)) := (hb3.block w.heap.size (by omega)).trans hR
  have hs3 := hb3.size
  have hb4 : Below w.heap.size w W3 := hb2.trans (hb3.mono (by omega))
  clear hG3 hb3 hG hR hS
  have HC := Lib.hid (fun W => check_any (l.length : Int) (pad l) W HP.out (by omega))
  by_cases hk : chkO (l.length : Int) (pad l) = 0
  · obtain rfl : rn = (l.length : Int) := by rw [← HN.out]; unfold ofN; rw [if_pos hk]
    obtain rfl : rx = pad l := by rw [← HX.out]; unfold ofX; rw [if_pos hk]
    rw [hk] at HC
    go_upto_region 7 with (first
      | ((with_reducible refine gate_dst (N := 16) rfl ?_); refine wpList_load_row rfl 27 _ rfl (w.heap.size + 1) rfl 27 (oidC (l.length : Int) (pad l)) (0, 0) _ hG4 Tryd.underlying27 rfl (oid_info _ _ HP.out) ?_)
      | (go_at_call 25; refine (HC.out _).mono ?_; rintro e W5 ⟨rfl, hb5⟩; have hG5 := blk_below hG4 hb5; have hR5 := blk_below hR3 hb5; have hb6 : Below w.heap.size w W5 := hb4.trans (hb5.mono hb4.size)))
    go_wp2_with (first
      | ((with_reducible refine gate_dst (N := 20) rfl ?_); refine wpList_load_row rfl 27 _ rfl (w.heap.size + 1) rfl 27 (oidC (l.length : Int) (pad l)) (0, 0) _ hG5 Tryd.underlying27 rfl (oid_info _ _ HP.out) ?_)
      | ((with_reducible refine gate_store rfl ?_); refine wpList_plain rfl fun K hK => ?_; refine wp_store_row 27 _ _ rfl w.heap.size (oidC (l.length : Int) (pad l)) rfl rfl 27 (oidC 0 Z16) hR5 (oid_info _ _ HP.out) (by simp [HP.out]) (oid_one _ _) ?_; refine hK _ _ ?_))
    refine bodyPost_ret (results_cell_row rfl _ _ w.heap.size 27 (oidC (l.length : Int) (pad l)) (0, 0) _ rfl (setRow_heap _ _ _ _ _ _ hR5) Tryd.underlying27 rfl (oid_info _ _ HP.out)) rfl ?_
    exact ⟨rfl, below_setRow hb6 (Nat.le_refl _) _⟩
  · obtain rfl : rn = 0 := by rw [← HN.out]; unfold ofN; rw [if_neg hk]
    obtain rfl : rx = Z16 := by rw [← HX.out]; unfold ofX; rw [if_neg hk]
    rw [(chkO_01 _ _).resolve_left hk] at HC
    go_upto_region 6 with (first
      | ((with_reducible refine gate_dst (N := 16) rfl ?_); refine wpList_load_row rfl 27 _ rfl (w.heap.size + 1) rfl 27 (oidC (l.length : Int) (pad l)) (0, 0) _ hG4 Tryd.underlying27 rfl (oid_info _ _ HP.out) ?_)
      | (go_at_call 25; refine (HC.out _).mono ?_; rintro e W5 ⟨rfl, hb5⟩; have hR5 := blk_below hR3 hb5; have hb6 : Below w.heap.size w W5 := hb4.trans (hb5.mono hb4.size)))
    go_wp2_with ((with_reducible refine gate_store rfl ?_); refine wpList_plain rfl fun K hK => ?_; refine wp_store_row 27 _ _ rfl w.heap.size (oidC 0 Z16) rfl rfl 27 (oidC 0 Z16) hR5 (oid_info _ _ rfl) rfl (oid_one _ _) ?_; refine hK _ _ ?_)
    refine bodyPost_ret (results_cell_row rfl _ _ w.heap.size 27 (oidC 0 Z16) (0, 0) _ rfl (setRow_heap _ _ _ _ _ _ hR5) Tryd.underlying27 rfl (oid_info _ _ rfl)) rfl ?_
    exact ⟨rfl, below_setRow hb6 (Nat.le_refl _) _⟩
end Go.Proofs.YtacpcagijfacnaaDoor
