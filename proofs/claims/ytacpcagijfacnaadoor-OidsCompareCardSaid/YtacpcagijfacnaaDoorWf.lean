/- Chapters 6, 7 (oids, oidsets): the reference's Any. -/
import Derived.Test.YtacpcagijfacnaaDoorWe
namespace Go.Proofs.YtacpcagijfacnaaDoor
open Go.RowKit Go.Shelf
open Go.Proofs.YtacpcagijfacnaaDoorW.PrintWords (rd Ev at_rounds gate_dst gate_store Kd.C_below Kd.C_of_reads Kd.reads_of_C ReadsOf.at_ rdOf blk_new blk_below blk_cell blk_alloc blk_lt blk_frozen blk_drew blk_set Kd.C Kd.int)
set_option linter.unusedSimpArgs false
set_option linter.unusedVariables false
set_option maxRecDepth 50000
set_option maxHeartbeats 4000000 in
theorem rany_is (w : World) : Calls Tryd.prog 23 #[] w fun e w' => e = .returned (oidV 5 anyX) ∧ Below w.heap.size w w' := by
  have hb := (Below.refl w.heap.size w).alloc (Nat.le_refl _) (.cells (oidC 0 Z16) 27)
  have hB := blk_new w (.cells (oidC 0 Z16) 27)
  have hsz : (w.alloc (.cells (oidC 0 Z16) 27)).heap.size = w.heap.size + 1 := by simp
  go_enter Tryd.func23, Tryd.ntmps23
  go_upto_region 1 with fail
  rw [zrow]
  generalize w.alloc (.cells (oidC 0 (List.replicate 16 0)) 27) = W at *
  have hb2 := hb.alloc (by omega) (.cells (oidC 5 anyX) 27)
  have hR2 : (W.alloc (.cells (oidC 5 anyX) 27)).heap[w.heap.size]? = some (.cells (oidC 0 Z16) 27 (0, 0)) := blk_alloc hB _
  have hV : (W.alloc (.cells (oidC 5 anyX) 27)).heap[w.heap.size + 1]? = some (.cells (oidC 5 anyX) 27 (0, 0)) := by rw [← hsz]; exact blk_new W _
  go_upto_region 7 with fail
  rw [show (#[.int .u8 5, .int .u32 2, .int .u32 5, .int .u32 29, .int .u32 32, .int .u32 0, .int .u32 0, .int .u32 0, .int .u32 0, .int .u32 0, .int .u32 0, .int .u32 0, .int .u32 0, .int .u32 0, .int .u32 0, .int .u32 0, .int .u32 0] : Array Value) = oidC 5 anyX from rfl]
  generalize W.alloc (.cells (oidC 5 anyX) 27) = W2 at *
  go_wp2_with (first
    | ((with_reducible refine gate_dst (N := 11) rfl ?_); refine wpList_load_row rfl 27 _ rfl (w.heap.size + 1) rfl 27 (oidC 5 anyX) (0, 0) _ hV Tryd.underlying27 rfl (oid_info _ _ rfl) ?_)
    | ((with_reducible refine gate_store rfl ?_); refine wpList_plain rfl fun K hK => ?_; refine wp_store_row 27 _ _ rfl w.heap.size (oidC 5 anyX) rfl rfl 27 (oidC 0 Z16) hR2 (oid_info _ _ rfl) rfl (oid_one _ _) ?_; refine hK _ _ ?_))
  refine bodyPost_ret (results_cell_row rfl _ _ w.heap.size 27 (oidC 5 anyX) (0, 0) _ rfl (setRow_heap _ _ _ _ _ _ hR2) Tryd.underlying27 rfl (oid_info _ _ rfl)) rfl ?_
  exact ⟨rfl, below_setRow hb2 (Nat.le_refl _) _⟩
/-- The cells of an OID with an arc set. -/
theorem oid_set (n : Int) (xs : List Int) (i : Nat) (v : Int) (hi : i < xs.length) : (oidC n xs).setIfInBounds (1 + i) (.int .u32 v) = oidC n (xs.set i v) := by
  apply Array.ext'
  simp [Nat.add_comm 1 i, List.map_set]
/-- Arcs so far, filled up. -/
def padK (l : List Int) (k : Nat) : List Int := l.take k ++ List.replicate (16 - k) 0
theorem padK_len (l : List Int) (k : Nat) (hk : k ≤ l.length) (h16 : k ≤ 16) : (padK l k).length = 16 := by unfold padK; simp; omega
theorem padK_set (l : List Int) (k : Nat) (hk : k < l.length) (h16 : k < 16) : (padK l k).set k (l.getD k 0) = padK l (k + 1) := by
  unfold padK
  have e1 : (l.take k).length = k := by simp; omega
  rw [List.set_append_right _ _ (by omega), e1, Nat.sub_self]
  rw [show 16 - k = (16 - (k + 1)) + 1 by omega, List.replicate_succ, List.set_cons_zero, List.take_add_one, List.getElem?_eq_getElem hk]
  rw [List.getD_eq_getElem?_getD, List.getElem?_eq_getElem hk, Option.getD_some, Option.toList_some, List.append_assoc]
  rfl
theorem padK_all (l : List Int) : padK l l.length = pad l := by unfold padK pad; rw [List.take_length]
/-- What stands while made works: the result's box, the OID's box. -/
structure MdS (l : List Int) (k : Nat) (w W : World) : Prop where
  b : Below w.heap.size w W
  r : W.heap[w.heap.size]? = some (.cells (oidC 0 Z16) 27 (0, 0))
  o : W.heap[w.heap.size + 1]? = some (.cells (oidC (l.length : Int) (padK l k)) 27 (0, 0))
theorem MdS.step {l : List Int} {k : Nat} {w W : World} (h : MdS l k w W) (hk : k < l.length) (h16 : k < 16) : MdS l (k + 1) w (W.setCell ⟨w.heap.size + 1, 1 + k, none⟩ (.int .u32 (l.getD k 0))) := by
  refine ⟨h.b.setCell (by show _ ≤ w.heap.size + 1; omega) _, ?_, ?_⟩
  · rw [Below.heap_setCell _ _ _ _ (by show w.heap.size ≠ w.heap.size + 1; omega)]; exact h.r
  · have := blk_set h.o (1 + k) (.int .u32 (l.getD k 0))
    rw [oid_set _ _ _ _ (by rw [padK_len l k (by omega) (by omega)]; omega), padK_set l k hk h16] at this
    exact this
set_option maxHeartbeats 4000000 in
theorem made_is (A : Option Addr) (c : Nat) (l : List Int) (w : World) (hl : l.length ≤ 16) (hr : Kd.C (Kd.int .u32) w A l.length l) :
    Calls Tryd.prog 34 #[.slice A l.length c] w fun e w' => e = .returned (oidV (l.length : Int) (pad l)) ∧ Below w.heap.size w w' := by
  have hw : IntKind.u8.wrap (l.length : Int) = (l.length : Int) := by rw [IntKind.wrap_u8]; omega
  have HR := Lib.hid hr
  clear hr
  have hb := (Below.refl w.heap.size w).alloc (Nat.le_refl _) (.cells (oidC 0 Z16) 27)
  have hB := blk_new w (.cells (oidC 0 Z16) 27)
  have hsz : (w.alloc (.cells (oidC 0 Z16) 27)).heap.size = w.heap.size + 1 := by simp
  go_enter Tryd.func34, Tryd.ntmps34
  go_upto_region 1 with fail
  rw [zrow]
  generalize w.alloc (.cells (oidC 0 (List.replicate 16 0)) 27) = W at *
  have hb2 := hb.alloc (by omega) (.cells (oidC (l.length : Int) Z16) 27)
  have S0 : Hid (MdS l 0 w (W.alloc (.cells (oidC (l.length : Int) Z16) 27))) := ⟨hb2, blk_alloc hB _, by rw [← hsz]; exact blk_new W _⟩
  go_upto_region 4 with fail
  rw [show (#[.int .u8 (l.length : Int), .int .u32 0, .int .u32 0, .int .u32 0, .int .u32 0, .int .u32 0, .int .u32 0, .int .u32 0, .int .u32 0, .int .u32 0, .int .u32 0, .int .u32 0, .int .u32 0, .int .u32 0, .int .u32 0, .int .u32 0, .int .u32 0] : Array Value) = oidC (l.length : Int) Z16 from rfl]
  generalize W.alloc (.cells (oidC (l.length : Int) Z16) 27) = W2 at *
  go_loopw [4] (fun i wr => ∃ k : Nat, k ≤ l.length ∧ i = .int .i64 (k : Int) ∧ Hid (MdS l k w wr)) (fun i _ => l.length - (intOf i).toNat)
  case atStart => exact ⟨0, Nat.zero_le _, rfl, S0⟩
  case round =>
    obtain ⟨k, hk, rfl, S⟩ := hrel
    by_cases hlt : k < l.length
    · have hx := (oid_cells S.out.o).2 k (by rw [padK_len l k hk (by omega)]; omega)
      have hf := blk_frozen S.out.o (1 + k)
      obtain ⟨ad, rfl, hc⟩ := (Kd.reads_of_C (enc := Value.int .u32) (d := (0 : Int)) (h1 := fun _ => rfl) (Kd.C_below HR.out S.out.b)).at_ (k : Int) (by omega) (by omega)
      simp only [Int.toNat_natCast, rdOf] at hc
      have h16 : k < 16 := by omega
      have hN0 := S.out.step hlt h16
      rw [List.getD_eq_getElem?_getD, List.getElem?_eq_getElem hlt, Option.getD_some] at hN0
      have hN := Lib.hid hN0
      clear hN0
      go_wp2
      go_round
      case rel => exact ⟨k + 1, by omega, by go_num, hN⟩
      case measure => simp [intOf]; omega
    · obtain rfl : k = l.length := by omega
      have hO := S.out.o
      rw [padK_all] at hO
      have hR := S.out.r
      have hB := Lib.hid S.out.b
      have HP := Lib.hid (pad_len l hl)
      go_wp2_with (first
        | ((with_reducible refine gate_dst (N := 22) rfl ?_); refine wpList_load_row rfl 27 _ rfl (w.heap.size + 1) rfl 27 (oidC (l.length : Int) (pad l)) (0, 0) _ hO Tryd.underlying27 rfl (oid_info _ _ HP.out) ?_)
        | ((with_reducible refine gate_store rfl ?_); refine wpList_plain rfl fun K hK => ?_; refine wp_store_row 27 _ _ rfl w.heap.size (oidC (l.length : Int) (pad l)) rfl rfl 27 (oidC 0 Z16) hR (oid_info _ _ HP.out) (by simp [HP.out]) (oid_one _ _) ?_; refine hK _ _ ?_))
      refine bodyPost_ret (results_cell_row rfl _ _ w.heap.size 27 (oidC (l.length : Int) (pad l)) (0, 0) _ rfl (setRow_heap _ _ _ _ _ _ hR) Tryd.underlying27 rfl (oid_info _ _ HP.out)) rfl ?_
      exact ⟨rfl, below_setRow hB.out (Nat.le_refl _) _⟩
end Go.Proofs.YtacpcagijfacnaaDoor
