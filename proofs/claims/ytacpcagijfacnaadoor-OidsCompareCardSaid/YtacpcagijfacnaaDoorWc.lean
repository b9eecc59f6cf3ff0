/- Chapters 6, 7 (oids, oidsets): Any. -/
import Derived.Test.YtacpcagijfacnaaDoorWb
namespace Go.Proofs.YtacpcagijfacnaaDoor
open Go.RowKit Go.Shelf
open Go.Proofs.YtacpcagijfacnaaDoorW.PrintWords (gate_dst gate_store Kd.C_below Kd.C_of_reads Kd.reads_of_C ReadsOf.at_ rdOf blk_new blk_below blk_cell blk_alloc blk_lt blk_frozen blk_drew blk_set Kd.C Kd.int)
set_option linter.unusedSimpArgs false
set_option linter.unusedVariables false
set_option maxRecDepth 50000
/-- A slice that was built of numbers, as the contracts read it. -/
theorem src_block {W : World} {g : Nat} (l : List Int) (hl : l.length ≤ 1000000) (h : W.heap[g]? = some (.cells (l.map (Value.int .u32)).toArray 24 (0, 0))) : Kd.C (Kd.int .u32) W (some ⟨g, 0, none⟩) l.length l := by
  refine Kd.C_of_reads (d := (0 : Int)) ⟨rfl, by omega, fun hn => ⟨⟨g, 0, none⟩, rfl, fun j hj => ?_⟩⟩
  rw [Lib.add_plain, Nat.zero_add, blk_cell h j]
  simp [List.getElem?_map, List.getElem?_eq_getElem hj, List.getD]
abbrev anyX : List Int := [2, 5, 29, 32, 0, 0, 0, 0, 0, 0, 0, 0, 0, 0, 0, 0]
theorem any_n : ofN [2, 5, 29, 32, 0] = 5 := by decide
theorem any_x : ofX [2, 5, 29, 32, 0] = anyX := by decide
theorem any_is (w : World) : Calls Tryd.prog 22 #[] w fun e w' => e = .returned (oidV 5 anyX) ∧ Below w.heap.size w w' := by
  have hb := (Below.refl w.heap.size w).alloc (Nat.le_refl _) (.cells (oidC 0 Z16) 27)
  have hB := blk_new w (.cells (oidC 0 Z16) 27)
  have hsz : (w.alloc (.cells (oidC 0 Z16) 27)).heap.size = w.heap.size + 1 := by simp
  go_enter Tryd.func22, Tryd.ntmps22
  go_upto_region 1 with fail
  rw [zrow]
  generalize w.alloc (.cells (oidC 0 (List.replicate 16 0)) 27) = W at *
  have hb2 := hb.alloc (by omega) (.cells #[.int .u32 2, .int .u32 5, .int .u32 29, .int .u32 32, .int .u32 0] 24)
  have hR2 : (W.alloc (.cells #[.int .u32 2, .int .u32 5, .int .u32 29, .int .u32 32, .int .u32 0] 24)).heap[w.heap.size]? = some (.cells (oidC 0 Z16) 27 (0, 0)) := blk_alloc hB _
  have hC := src_block (W := W.alloc (.cells #[.int .u32 2, .int .u32 5, .int .u32 29, .int .u32 32, .int .u32 0] 24)) (g := w.heap.size + 1) [2, 5, 29, 32, 0] (by simp) (by rw [← hsz]; exact blk_new W _)
  have HO := Lib.hid (of_short (some ⟨w.heap.size + 1, 0, none⟩) 5 [2, 5, 29, 32, 0] _ (by simp) hC (by simp))
  rw [any_n, any_x] at HO
  clear hC
  go_wp2_with (first
    | (go_at_call 21; refine HO.out.mono ?_; rintro e W5 ⟨rfl, hb5⟩; have hR5 := blk_below hR2 hb5; have hb6 : Below w.heap.size w W5 := hb2.trans (hb5.mono hb2.size))
    | ((with_reducible refine gate_store rfl ?_); refine wpList_plain rfl fun K hK => ?_; refine wp_store_row 27 _ _ rfl w.heap.size (oidC 5 anyX) rfl rfl 27 (oidC 0 Z16) hR5 (oid_info _ _ rfl) rfl (oid_one _ _) ?_; refine hK _ _ ?_))
  refine bodyPost_ret (results_cell_row rfl _ _ w.heap.size 27 (oidC 5 anyX) (0, 0) _ rfl (setRow_heap _ _ _ _ _ _ hR5) Tryd.underlying27 rfl (oid_info _ _ rfl)) rfl ?_
  exact ⟨rfl, below_setRow hb6 (Nat.le_refl _) _⟩
end Go.Proofs.YtacpcagijfacnaaDoor
