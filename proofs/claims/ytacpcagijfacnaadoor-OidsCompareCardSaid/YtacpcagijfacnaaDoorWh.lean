/- Chapters 6, 7 (oids, oidsets): A.Of. -/
import Derived.Test.YtacpcagijfacnaaDoorWg
namespace Go.Proofs.YtacpcagijfacnaaDoor
open Go.RowKit Go.Shelf
open Go.Proofs.YtacpcagijfacnaaDoorW.PrintWords (rd Ev at_rounds gate_dst gate_store Kd.C_below Kd.C_of_reads Kd.reads_of_C ReadsOf.at_ rdOf blk_new blk_below blk_cell blk_alloc blk_lt blk_frozen blk_drew blk_set Kd.C Kd.int Kd.R Kd.R_of_own Kd.R_append_rows Kd.R_slice Kd.R_reads' Kd.C_take)
set_option linter.unusedSimpArgs false
set_option linter.unusedVariables false
set_option maxRecDepth 50000
/-- What A.Of makes. -/
def secA (f s : Int) : Int := min (if f % 3 < 2 then s % 40 else s) 4294967215
def ofA (f s : Int) (l : List Int) : List Int := f % 3 :: secA f s :: l.take 14
theorem ofA_len (f s : Int) (l : List Int) : (ofA f s l).length ≤ 16 := by unfold ofA; simp; omega
theorem info24 : (Tryd.prog.info? 24).map (fun i => (i.zero, i.size, i.bytes)) = some (some (.int .u32 0), 1, 4) := by kernel_rfl
/-- What stands when the two first arcs are made. -/
structure AoS (f s p q : Int) (A : Option Addr) (l : List Int) (c : Nat) (w W : World) : Prop where
  b : Below w.heap.size w W
  x : W.heap[w.heap.size]? = some (.cells #[.int .u8 f, .int .u32 s, .slice A l.length c] 45 (0, 0))
  r : W.heap[w.heap.size + 1]? = some (.cells (oidC 0 Z16) 27 (0, 0))
  g : W.heap[w.heap.size + 1 + 1]? = some (.cells #[.int .u32 p, .int .u32 q] 24 (0, 0))
  z : W.heap.size = w.heap.size + 3
theorem AoS.start (f s p q : Int) (A : Option Addr) (l : List Int) (c : Nat) (w : World) :
    AoS f s p q A l c w (((w.alloc (.cells #[.int .u8 f, .int .u32 s, .slice A l.length c] 45)).alloc (.cells (oidC 0 Z16) 27)).alloc (.cells #[.int .u32 p, .int .u32 q] 24)) := by
  refine ⟨(((Below.refl _ _).alloc (Nat.le_refl _) _).alloc (by simp) _).alloc (by simp; omega) _, blk_alloc (blk_alloc (blk_new w _) _) _, blk_alloc ?_ _, ?_, by simp⟩
  · have := blk_new (w.alloc (.cells #[.int .u8 f, .int .u32 s, .slice A l.length c] 45)) (.cells (oidC 0 Z16) 27)
    rwa [World.size_alloc] at this
  · have := blk_new ((w.alloc (.cells #[.int .u8 f, .int .u32 s, .slice A l.length c] 45)).alloc (.cells (oidC 0 Z16) 27)) (.cells #[.int .u32 p, .int .u32 q] 24)
    rwa [World.size_alloc, World.size_alloc] at this
theorem AoS.own {f s p q : Int} {A : Option Addr} {l : List Int} {c : Nat} {w W : World} (h : AoS f s p q A l c w W) : Kd.R (Kd.int .u32) 24 W w.heap.size (fun _ => True) (.slice (some ⟨w.heap.size + 1 + 1, 0, none⟩) 2 2) [p, q] :=
  Kd.R_of_own ⟨rfl, .inr ⟨w.heap.size + 1 + 1, 2, #[.int .u32 p, .int .u32 q], rfl, by omega, h.g, by simp, by unfold maxLen; omega, rfl, rfl⟩⟩ (fun _ _ => trivial)
theorem made_len (A : Option Addr) (c : Nat) (l : List Int) (L : Nat) (w : World) (hL : l.length = L) (hl : l.length ≤ 16) (hr : Kd.C (Kd.int .u32) w A l.length l) :
    Calls Tryd.prog 34 #[.slice A L c] w fun e w' => e = .returned (oidV (L : Int) (pad l)) ∧ Below w.heap.size w w' := by
  subst hL
  exact made_is A c l w hl hr
set_option maxHeartbeats 4000000 in
theorem aof_gen (f s p q0 q : Int) (K : Nat) (A : Option Addr) (c : Nat) (l : List Int) (w : World) (hp : p = 0 ∨ p = 1 ∨ p = 2) (hfp : Int.tmod f 3 = p) (hq0 : Int.tmod s 40 = q0) (hq : min (if p < 2 then q0 else s) 4294967215 = q)
    (hK : min 14 (l.length : Int) = (K : Int)) (hKl : K ≤ l.length) (hK14 : K ≤ 14) (hr : Kd.C (Kd.int .u32) w A l.length l) (hc : l.length ≤ c) :
    Calls Tryd.prog 19 #[.agg #[.int .u8 f, .int .u32 s, .slice A l.length c]] w fun e w' => e = .returned (oidV ((p :: q :: l.take K).length : Int) (pad (p :: q :: l.take K))) ∧ Below w.heap.size w w' := by
  have HR := Lib.hid hr
  clear hr
  have HS := fun p => Lib.hid (AoS.start f s p q A l c w)
  have hKn : ¬ (K : Int) < 0 := by omega
  have hKc : K ≤ c := by omega
  rcases hp with rfl | rfl | rfl
  case inr.inr =>
    rw [if_neg (by decide)] at hq
    have HS := HS 2
    go_enter Tryd.func19, Tryd.ntmps19
    go_upto_region 5 with fail
    rw [zrow]
    generalize ((w.alloc (.cells #[.int .u8 f, .int .u32 s, .slice A l.length c] 45)).alloc (.cells (oidC 0 (List.replicate 16 0)) 27)).alloc (.cells #[.int .u32 2, .int .u32 q] 24) = W at *
    have cx : W.cell? ⟨w.heap.size, 2, none⟩ = some (.slice A l.length c) := blk_cell HS.out.x 2
    have HT : Hid (Kd.C (Kd.int .u32) W A K (l.take K)) := by
      have := Kd.C_take (Kd.C_below HR.out HS.out.b) hKl
      rwa [List.length_take, Nat.min_eq_left hKl] at this
    have hLen : (2 :: q :: l.take K).length ≤ 16 := by simp; omega
    have HL := Lib.hid hLen
    clear hLen
    go_wp2_with (first
      | ((with_reducible refine gate_dst (N := 35) rfl ?_); refine Kd.R_append_rows (Kd.int .u32) (w0 := w) w.heap.size rfl (.tmp 27) (.tmp 34) 43 24 (.int .u32 0) 4 rfl Tryd.underlying43 info24 rfl (by decide) (by omega) (.slice (some ⟨w.heap.size + 1 + 1, 0, none⟩) 2 2) [2, q] (l.take K) A K c (fun _ => True) (fun _ => False) rfl rfl HS.out.own HT.out (fun _ _ h => h) (fun _ h => h.elim) (fun _ _ => trivial) HS.out.b HS.out.b.size (by simp; omega) ?_; intro v1 w1 ho hb hg hat; obtain ⟨Ao, co, rfl⟩ := Kd.R_slice ho; have HO := Lib.hid (Kd.R_reads' ho).2.2; obtain ⟨LL, hLL⟩ : ∃ LL, LL = ([2, q] ++ l.take K).length := ⟨_, rfl⟩; rw [← hLL]; have HLL := Lib.hid hLL; clear hLL; have hR1 : w1.heap[w.heap.size + 1]? = some (.cells (oidC 0 Z16) 27 (0, 0)) := (hg.block _ (by rw [HS.out.z]; omega) (by show some (w.heap.size + 1) ≠ some (w.heap.size + 1 + 1); simp)).trans HS.out.r; clear ho hg hat)
      | (go_at_call 34; refine (made_len Ao co (2 :: q :: l.take K) LL _ HLL.out.symm HL.out HO.out).mono ?_; rintro e w2 ⟨rfl, hb2⟩; have hR2 := blk_below hR1 hb2; have hb3 := hb.trans (hb2.mono hb.size))
      | ((with_reducible refine gate_store rfl ?_); refine wpList_plain rfl fun K' hK' => ?_; refine wp_store_row 27 _ _ rfl (w.heap.size + 1) (oidC (LL : Int) (pad (2 :: q :: l.take K))) rfl rfl 27 (oidC 0 Z16) hR2 (oid_info _ _ (pad_len _ HL.out)) (by simp [pad_len _ HL.out]) (oid_one _ _) ?_; refine hK' _ _ ?_))
    refine bodyPost_ret (results_cell_row rfl _ _ (w.heap.size + 1) 27 (oidC (LL : Int) (pad (2 :: q :: l.take K))) (0, 0) _ rfl (setRow_heap _ _ _ _ _ _ hR2) Tryd.underlying27 rfl (oid_info _ _ (pad_len _ HL.out))) rfl ?_
    exact ⟨by rw [HLL.out]; rfl, below_setRow hb3 (by omega) _⟩
  case inl =>
    rw [if_pos (by decide)] at hq
    have HS := HS 0
    go_enter Tryd.func19, Tryd.ntmps19
    go_upto_region 5 with fail
    rw [zrow]
    generalize ((w.alloc (.cells #[.int .u8 f, .int .u32 s, .slice A l.length c] 45)).alloc (.cells (oidC 0 (List.replicate 16 0)) 27)).alloc (.cells #[.int .u32 0, .int .u32 q] 24) = W at *
    have cx : W.cell? ⟨w.heap.size, 2, none⟩ = some (.slice A l.length c) := blk_cell HS.out.x 2
    have HT : Hid (Kd.C (Kd.int .u32) W A K (l.take K)) := by
      have := Kd.C_take (Kd.C_below HR.out HS.out.b) hKl
      rwa [List.length_take, Nat.min_eq_left hKl] at this
    have hLen : (0 :: q :: l.take K).length ≤ 16 := by simp; omega
    have HL := Lib.hid hLen
    clear hLen
    go_wp2_with (first
      | ((with_reducible refine gate_dst (N := 35) rfl ?_); refine Kd.R_append_rows (Kd.int .u32) (w0 := w) w.heap.size rfl (.tmp 27) (.tmp 34) 43 24 (.int .u32 0) 4 rfl Tryd.underlying43 info24 rfl (by decide) (by omega) (.slice (some ⟨w.heap.size + 1 + 1, 0, none⟩) 2 2) [0, q] (l.take K) A K c (fun _ => True) (fun _ => False) rfl rfl HS.out.own HT.out (fun _ _ h => h) (fun _ h => h.elim) (fun _ _ => trivial) HS.out.b HS.out.b.size (by simp; omega) ?_; intro v1 w1 ho hb hg hat; obtain ⟨Ao, co, rfl⟩ := Kd.R_slice ho; have HO := Lib.hid (Kd.R_reads' ho).2.2; obtain ⟨LL, hLL⟩ : ∃ LL, LL = ([0, q] ++ l.take K).length := ⟨_, rfl⟩; rw [← hLL]; have HLL := Lib.hid hLL; clear hLL; have hR1 : w1.heap[w.heap.size + 1]? = some (.cells (oidC 0 Z16) 27 (0, 0)) := (hg.block _ (by rw [HS.out.z]; omega) (by show some (w.heap.size + 1) ≠ some (w.heap.size + 1 + 1); simp)).trans HS.out.r; clear ho hg hat)
      | (go_at_call 34; refine (made_len Ao co (0 :: q :: l.take K) LL _ HLL.out.symm HL.out HO.out).mono ?_; rintro e w2 ⟨rfl, hb2⟩; have hR2 := blk_below hR1 hb2; have hb3 := hb.trans (hb2.mono hb.size))
      | ((with_reducible refine gate_store rfl ?_); refine wpList_plain rfl fun K' hK' => ?_; refine wp_store_row 27 _ _ rfl (w.heap.size + 1) (oidC (LL : Int) (pad (0 :: q :: l.take K))) rfl rfl 27 (oidC 0 Z16) hR2 (oid_info _ _ (pad_len _ HL.out)) (by simp [pad_len _ HL.out]) (oid_one _ _) ?_; refine hK' _ _ ?_))
    refine bodyPost_ret (results_cell_row rfl _ _ (w.heap.size + 1) 27 (oidC (LL : Int) (pad (0 :: q :: l.take K))) (0, 0) _ rfl (setRow_heap _ _ _ _ _ _ hR2) Tryd.underlying27 rfl (oid_info _ _ (pad_len _ HL.out))) rfl ?_
    exact ⟨by rw [HLL.out]; rfl, below_setRow hb3 (by omega) _⟩
  case inr.inl =>
    rw [if_pos (by decide)] at hq
    have HS := HS 1
    go_enter Tryd.func19, Tryd.ntmps19
    go_upto_region 5 with fail
    rw [zrow]
    generalize ((w.alloc (.cells #[.int .u8 f, .int .u32 s, .slice A l.length c] 45)).alloc (.cells (oidC 0 (List.replicate 16 0)) 27)).alloc (.cells #[.int .u32 1, .int .u32 q] 24) = W at *
    have cx : W.cell? ⟨w.heap.size, 2, none⟩ = some (.slice A l.length c) := blk_cell HS.out.x 2
    have HT : Hid (Kd.C (Kd.int .u32) W A K (l.take K)) := by
      have := Kd.C_take (Kd.C_below HR.out HS.out.b) hKl
      rwa [List.length_take, Nat.min_eq_left hKl] at this
    have hLen : (1 :: q :: l.take K).length ≤ 16 := by simp; omega
    have HL := Lib.hid hLen
    clear hLen
    go_wp2_with (first
      | ((with_reducible refine gate_dst (N := 35) rfl ?_); refine Kd.R_append_rows (Kd.int .u32) (w0 := w) w.heap.size rfl (.tmp 27) (.tmp 34) 43 24 (.int .u32 0) 4 rfl Tryd.underlying43 info24 rfl (by decide) (by omega) (.slice (some ⟨w.heap.size + 1 + 1, 0, none⟩) 2 2) [1, q] (l.take K) A K c (fun _ => True) (fun _ => False) rfl rfl HS.out.own HT.out (fun _ _ h => h) (fun _ h => h.elim) (fun _ _ => trivial) HS.out.b HS.out.b.size (by simp; omega) ?_; intro v1 w1 ho hb hg hat; obtain ⟨Ao, co, rfl⟩ := Kd.R_slice ho; have HO := Lib.hid (Kd.R_reads' ho).2.2; obtain ⟨LL, hLL⟩ : ∃ LL, LL = ([1, q] ++ l.take K).length := ⟨_, rfl⟩; rw [← hLL]; have HLL := Lib.hid hLL; clear hLL; have hR1 : w1.heap[w.heap.size + 1]? = some (.cells (oidC 0 Z16) 27 (0, 0)) := (hg.block _ (by rw [HS.out.z]; omega) (by show some (w.heap.size + 1) ≠ some (w.heap.size + 1 + 1); simp)).trans HS.out.r; clear ho hg hat)
      | (go_at_call 34; refine (made_len Ao co (1 :: q :: l.take K) LL _ HLL.out.symm HL.out HO.out).mono ?_; rintro e w2 ⟨rfl, hb2⟩; have hR2 := blk_below hR1 hb2; have hb3 := hb.trans (hb2.mono hb.size))
      | ((with_reducible refine gate_store rfl ?_); refine wpList_plain rfl fun K' hK' => ?_; refine wp_store_row 27 _ _ rfl (w.heap.size + 1) (oidC (LL : Int) (pad (1 :: q :: l.take K))) rfl rfl 27 (oidC 0 Z16) hR2 (oid_info _ _ (pad_len _ HL.out)) (by simp [pad_len _ HL.out]) (oid_one _ _) ?_; refine hK' _ _ ?_))
    refine bodyPost_ret (results_cell_row rfl _ _ (w.heap.size + 1) 27 (oidC (LL : Int) (pad (1 :: q :: l.take K))) (0, 0) _ rfl (setRow_heap _ _ _ _ _ _ hR2) Tryd.underlying27 rfl (oid_info _ _ (pad_len _ HL.out))) rfl ?_
    exact ⟨by rw [HLL.out]; rfl, below_setRow hb3 (by omega) _⟩
end Go.Proofs.YtacpcagijfacnaaDoor
