/- Chapters 6, 7 (oids, oidsets): Compare. -/
import Derived.Test.YtacpcagijfacnaaDoorWa
import Derived.Test.YtacpcagijfacnaaDoorQb
namespace Go.Proofs.YtacpcagijfacnaaDoor
open Go.RowKit Go.Shelf
open Go.Proofs.YtacpcagijfacnaaDoorW.PrintWords (rd Ev at_rounds gate_dst gate_store Kd.C_below Kd.C_of_reads Kd.reads_of_C ReadsOf.at_ rdOf blk_new blk_below blk_cell blk_alloc blk_lt blk_frozen blk_drew blk_set Kd.C Kd.int)
set_option linter.unusedSimpArgs false
set_option linter.unusedVariables false
set_option maxRecDepth 50000
/-- The order of lists. -/
def cmpL : List Int → List Int → Int
  | [], [] => 0
  | [], _ :: _ => -1
  | _ :: _, [] => 1
  | a :: r, b :: s => if a < b then -1 else if b < a then 1 else cmpL r s
theorem cmp1 (a b : Int) : Pr.cmp_Compare_uint32.f a b = some (if a < b then -1 else if b < a then 1 else 0) := by
  unfold Pr.cmp_Compare_uint32.f Pr.cmp_isNaN_uint32.f
  have h1 : (a != a) = false := by simp
  have h2 : (b != b) = false := by simp
  simp only [Option.bind_some, h1, h2, Bool.false_eq_true, if_false]
  by_cases h : a < b
  · rw [if_pos h, if_pos h]
  · rw [if_neg h, if_neg h]
    by_cases h2 : b < a
    · rw [if_pos (by omega), if_pos h2]
    · rw [if_neg (by omega), if_neg h2]
theorem sc_ev (A B : List Int) (hA : A.length ≤ 1000000) : ∀ (d j : Nat), d = A.length - j → j ≤ A.length → j ≤ B.length →
    Ev (fun k => Pr.slices_Compare_uint32_uint32.l0 k A B A (A.length : Int) (j : Int)) (cmpL (A.drop j) (B.drop j))
  | 0, j, hd, hj, hb => by
    obtain rfl : j = A.length := by omega
    rw [List.drop_length]
    refine Ev.step (f := fun _ => some (cmpL [] (B.drop A.length))) (fun k => ?_) (Ev.now _)
    rw [Pr.slices_Compare_uint32_uint32.l0, if_neg (by omega)]
    by_cases h : A.length < B.length
    · rw [if_pos (by omega), drop_at h]; rfl
    · rw [if_neg (by omega), List.drop_of_length_le (by omega)]; rfl
  | d + 1, j, hd, hj, hb => by
    have hlt : j < A.length := by omega
    by_cases hB : j < B.length
    · have ih := sc_ev A B hA d (j + 1) (by omega) (by omega) (by omega)
      rw [drop_at hlt, drop_at hB]
      have w1 : wrap64 ((j : Int) + 1) = ((j + 1 : Nat) : Int) := by unfold wrap64; omega
      have r1 : rd A (j : Int) = A.getD j 0 := by unfold rd; rw [Int.toNat_natCast]
      have r2 : rd B (j : Int) = B.getD j 0 := by unfold rd; rw [Int.toNat_natCast]
      generalize A.getD j 0 = a at *
      generalize B.getD j 0 = b at *
      by_cases h : a < b
      · refine Ev.step (f := fun _ => some (cmpL (a :: A.drop (j + 1)) (b :: B.drop (j + 1)))) (fun k => ?_) (Ev.now _)
        rw [Pr.slices_Compare_uint32_uint32.l0, if_pos (by omega), if_pos (by omega), if_pos (by omega), if_neg (by omega), if_pos (by omega), r1, r2, cmp1, Option.bind_some, if_pos h, if_neg (by omega)]
        simp only [cmpL]; rw [if_pos h]
      · by_cases h2 : b < a
        · refine Ev.step (f := fun _ => some (cmpL (a :: A.drop (j + 1)) (b :: B.drop (j + 1)))) (fun k => ?_) (Ev.now _)
          rw [Pr.slices_Compare_uint32_uint32.l0, if_pos (by omega), if_pos (by omega), if_pos (by omega), if_neg (by omega), if_pos (by omega), r1, r2, cmp1, Option.bind_some, if_neg h, if_pos h2, if_neg (by omega)]
          simp only [cmpL]; rw [if_neg h, if_pos h2]
        · have e : cmpL (a :: A.drop (j + 1)) (b :: B.drop (j + 1)) = cmpL (A.drop (j + 1)) (B.drop (j + 1)) := by simp only [cmpL]; rw [if_neg h, if_neg h2]
          rw [e]
          refine Ev.step (fun k => ?_) ih
          rw [Pr.slices_Compare_uint32_uint32.l0, if_pos (by omega), if_pos (by omega), if_pos (by omega), if_neg (by omega), if_pos (by omega), r1, r2, cmp1, Option.bind_some, if_neg h, if_neg h2, if_pos rfl, w1]
    · rw [drop_at hlt, List.drop_of_length_le (by omega : B.length ≤ j)]
      refine Ev.step (f := fun _ => some 1) (fun k => ?_) (Ev.now _)
      rw [Pr.slices_Compare_uint32_uint32.l0, if_pos (by omega), if_pos (by omega), if_pos (by omega), if_pos (by omega)]
theorem drawn_below {w w' : World} (h : Go.Proofs.YtacpcagijfacnaaDoorW.PrintWords.Drawn0 w w') : Below w.heap.size w w' := by
  obtain ⟨m, rfl⟩ := h
  exact Go.Proofs.YtacpcagijfacnaaDoorW.PrintWords.pw_below_drewN (Below.refl _ _) m
theorem scompare_is (A0 A1 : Option Addr) (c0 c1 : Nat) (l0 l1 : List Int) (w : World) (h0 : l0.length ≤ 1000000) (hr0 : Kd.C (Kd.int .u32) w A0 l0.length l0) (hc0 : l0.length ≤ c0) (hr1 : Kd.C (Kd.int .u32) w A1 l1.length l1) (hc1 : l1.length ≤ c1) :
    Calls Tryd.prog 33 #[.slice A0 l0.length c0, .slice A1 l1.length c1] w fun e w' => e = .returned (.int .i64 (cmpL l0 l1)) ∧ Below w.heap.size w w' := by
  obtain ⟨K, h⟩ := sc_ev l0 l1 h0 l0.length 0 rfl (by omega) (by omega)
  exact (Pr.slices_Compare_uint32_uint32.calls K A0 c0 l0 A1 c1 l1 _ w hr0 hc0 hr1 hc1 (by have := h K (Nat.le_refl _); simpa [Pr.slices_Compare_uint32_uint32.f] using this)).mono fun e w' ⟨he, hd⟩ => ⟨he, drawn_below hd⟩
/-- The arcs that count. -/
def arcsO (N : Nat) (xs : List Int) : List Int := xs.take (min N 16)
theorem arcsO_len {N : Nat} {xs : List Int} (h : xs.length = 16) : (arcsO N xs).length = min N 16 := by unfold arcsO; rw [List.length_take]; omega
theorem oid_src {W : World} {g N : Nat} {xs : List Int} {n : Int} {t : TypeId} (hx : xs.length = 16) (h : W.heap[g]? = some (.cells (oidC n xs) t (0, 0))) : Kd.C (Kd.int .u32) W (some ⟨g, 1, none⟩) (arcsO N xs).length (arcsO N xs) := by
  have hl := arcsO_len (N := N) hx
  refine Kd.C_of_reads (d := (0 : Int)) ⟨rfl, by omega, fun hn => ⟨⟨g, 1, none⟩, rfl, fun j hj => ?_⟩⟩
  rw [Lib.add_plain, (oid_cells h).2 j (by omega)]
  unfold arcsO at hj ⊢
  rw [List.getD_eq_getElem?_getD, List.getD_eq_getElem?_getD, List.getElem?_take, if_pos (by rw [List.length_take] at hj; omega)]
theorem arcs_of (g N : Nat) (xs : List Int) (w : World) (h : w.cell? ⟨g, 0, none⟩ = some (.int .u8 (N : Int))) (hN : N < 256) (hx : xs.length = 16) :
    Calls Tryd.prog 27 #[.pointer (some ⟨g, 0, none⟩)] w fun e w' => e = .returned (.slice (some ⟨g, 1, none⟩) (arcsO N xs).length 16) ∧ Below w.heap.size w w' := by
  rw [arcsO_len hx]
  exact arcs_is g N w h hN
/-- Two boxed OIDs in a world that has grown out of w. -/
structure Bx2 (N : Nat) (xs : List Int) (M : Nat) (ys : List Int) (w W : World) : Prop where
  b : Below w.heap.size w W
  x : W.heap[w.heap.size]? = some (.cells (oidC (N : Int) xs) 27 (0, 0))
  y : W.heap[w.heap.size + 1]? = some (.cells (oidC (M : Int) ys) 27 (0, 0))
theorem Bx2.next {N M : Nat} {xs ys : List Int} {w W W' : World} (h : Bx2 N xs M ys w W) (hb : Below W.heap.size W W') : Bx2 N xs M ys w W' := ⟨h.b.trans (hb.mono h.b.size), blk_below h.x hb, blk_below h.y hb⟩
theorem Bx2.start (N : Nat) (xs : List Int) (M : Nat) (ys : List Int) (w : World) : Bx2 N xs M ys w ((w.alloc (.cells (oidC (N : Int) xs) 27)).alloc (.cells (oidC (M : Int) ys) 27)) := by
  refine ⟨((Below.refl _ _).alloc (Nat.le_refl _) _).alloc (by simp) _, blk_alloc (blk_new w _) _, ?_⟩
  have := blk_new (w.alloc (.cells (oidC (N : Int) xs) 27)) (.cells (oidC (M : Int) ys) 27)
  rwa [World.size_alloc] at this
set_option maxHeartbeats 2000000 in
theorem compare_any (N : Nat) (xs : List Int) (M : Nat) (ys : List Int) (w : World) (hN : N < 256) (hM : M < 256) (hx : xs.length = 16) (hy : ys.length = 16) :
    Calls Tryd.prog 17 #[oidV (N : Int) xs, oidV (M : Int) ys] w fun e w' => e = .returned (.int .i64 (cmpL (arcsO N xs) (arcsO M ys))) ∧ Below w.heap.size w w' := by
  have S := Lib.hid (Bx2.start N xs M ys w)
  have HX := Lib.hid hx
  have HY := Lib.hid hy
  have LX := Lib.hid (arcsO_len (N := N) hx)
  have LY := Lib.hid (arcsO_len (N := M) hy)
  clear hx hy
  go_enter Tryd.func17, Tryd.ntmps17
  go_wp2_with (first
    | (go_at_call 27; first
        | (with_reducible refine (arcs_of w.heap.size N xs _ (oid_cells S.out.x).1 hN HX.out).mono ?_; rintro e w1 ⟨rfl, hb⟩; have S1 := Lib.hid (S.out.next hb); clear hb)
        | (with_reducible refine (arcs_of (w.heap.size + 1) M ys _ (oid_cells S1.out.y).1 hM HY.out).mono ?_; rintro e w2 ⟨rfl, hb⟩; have S2 := Lib.hid (S1.out.next hb); clear hb))
    | (go_at_call 33; refine (scompare_is _ _ 16 16 _ _ _ (by rw [LX.out]; omega) (oid_src HX.out S2.out.x) (by rw [LX.out]; omega) (oid_src HY.out S2.out.y) (by rw [LY.out]; omega)).mono ?_; rintro e w3 ⟨rfl, hb⟩; have S3 := Lib.hid (S2.out.next hb); clear hb))
  go_ret
  exact ⟨rfl, S3.out.b⟩
end Go.Proofs.YtacpcagijfacnaaDoor
namespace Go.Proofs.YtacpcagijfacnaaDoor
open Go.RowKit Go.Shelf
open Go.Proofs.YtacpcagijfacnaaDoorW.PrintWords (rd Ev at_rounds gate_dst gate_store Kd.C_below Kd.C_of_reads Kd.reads_of_C ReadsOf.at_ rdOf blk_new blk_below blk_cell blk_alloc blk_lt blk_frozen blk_drew blk_set Kd.C Kd.int)
set_option linter.unusedSimpArgs false
set_option linter.unusedVariables false
set_option maxRecDepth 50000
set_option maxHeartbeats 4000000 in
theorem rcheck_any (N : Nat) (xs : List Int) (w : World) (hl : xs.length = 16) (h0 : N < 256) :
    Calls Tryd.prog 18 #[oidV (N : Int) xs] w fun e w' => e = .returned (.int .i64 (chkO (N : Int) xs)) ∧ Below w.heap.size w w' := by
  have hb := Lib.hid ((Below.refl w.heap.size w).alloc (Nat.le_refl _) (.cells (oidC N xs) 27))
  have hB := blk_new w (.cells (oidC N xs) 27)
  obtain ⟨c0, ca⟩ := oid_cells hB
  have c1 := ca 0 (by omega)
  have c2 := ca 1 (by omega)
  have CA := Lib.hid ca
  clear ca hB
  unfold chkO
  generalize hW : w.alloc (.cells (oidC N xs) 27) = W at *
  go_enter Tryd.func18, Tryd.ntmps18
  by_cases h1 : (N : Int) < 2
  · rw [if_pos h1]
    go_wp2
    go_ret
    exact ⟨rfl, hb.out⟩
  rw [if_neg h1]
  by_cases h2 : 16 < (N : Int)
  · rw [if_pos h2]
    go_wp2
    go_ret
    exact ⟨rfl, hb.out⟩
  rw [if_neg h2, Int.toNat_natCast]
  generalize hr0 : (if 2 < xs.getD 0 0 then (1 : Int) else if xs.getD 0 0 < 2 ∧ 39 < xs.getD 1 0 then 1 else if 4294967215 < xs.getD 1 0 then 1 else if ∀ x ∈ xs.drop N, x = 0 then 0 else 1) = r
  generalize ha0 : xs.getD 0 0 = a0 at *
  generalize ha1 : xs.getD 1 0 = a1 at *
  have hr := Lib.hid hr0
  clear hr0
  have HL := Lib.hid hl
  clear hl
  have hN16 : N ≤ 16 := by omega
  go_upto_region 4 with fail
  go_loop [3] (fun i => ∃ k : Nat, N ≤ k ∧ k ≤ 16 ∧ i = .int .i64 (k : Int) ∧ Hid ((∀ x ∈ xs.drop k, x = 0) ↔ ∀ x ∈ xs.drop N, x = 0)) (fun i => 16 - (intOf i).toNat)
  case atStart => exact ⟨N, Nat.le_refl _, hN16, by first | rfl | go_num, Iff.rfl⟩
  case round =>
    obtain ⟨k, hk0, hk, rfl, hc⟩ := hrel
    by_cases hlt : k < 16
    · have cx := CA.out k (by rw [HL.out]; omega)
      have hd := hc.out
      rw [drop_at (show k < xs.length by rw [HL.out]; omega)] at hd
      generalize hx : xs.getD k 0 = x at *
      by_cases hx0 : x = 0
      · subst hx0
        have HD : Hid ((∀ x ∈ xs.drop (k + 1), x = 0) ↔ ∀ x ∈ xs.drop N, x = 0) := by
          refine Iff.trans ⟨fun h x hx => ?_, fun h x hx => h x (List.mem_cons_of_mem _ hx)⟩ hd
          rcases List.mem_cons.mp hx with rfl | hx
          · rfl
          · exact h x hx
        clear hd hc hx
        go_wp2
        go_round
        case rel => exact ⟨k + 1, by omega, by omega, by go_num, HD⟩
        case measure => simp [intOf]; omega
      · have hn : ¬ ∀ x ∈ xs.drop N, x = 0 := fun h => hx0 (hd.mpr h x (by simp))
        obtain rfl : r = 1 := by
          rw [← hr.out, if_neg hn]
          repeat' split
          all_goals rfl
        clear hd hc hx hn
        go_wp2
        go_ret
        exact ⟨rfl, hb.out⟩
    · obtain rfl : k = 16 := by omega
      have hd := hc.out
      rw [List.drop_of_length_le (by rw [HL.out]; omega)] at hd
      have hz := hd.mp (by simp)
      clear hd hc
      rw [if_pos hz] at hr
      clear hz
      by_cases g1 : 2 < a0
      · obtain rfl : r = 1 := by rw [← hr.out, if_pos g1]
        have g2 : ¬ a0 < 2 := by omega
        have g3 : ¬ a0 = 2 := by omega
        clear hr
        go_wp2
        go_ret
        exact ⟨rfl, hb.out⟩
      by_cases g4 : a0 < 2
      · by_cases g5 : 39 < a1
        · obtain rfl : r = 1 := by rw [← hr.out, if_neg g1, if_pos ⟨g4, g5⟩]
          have g6 : ¬ a1 < 40 := by omega
          have g3 : ¬ a0 = 2 := by omega
          clear hr
          go_wp2
          go_ret
          exact ⟨rfl, hb.out⟩
        · obtain rfl : r = 0 := by rw [← hr.out, if_neg g1, if_neg (fun h => g5 h.2), if_neg (by omega)]
          have g6 : a1 < 40 := by omega
          clear hr
          go_wp2
          go_ret
          exact ⟨rfl, hb.out⟩
      · have g3 : a0 = 2 := by omega
        by_cases g7 : 4294967215 < a1
        · obtain rfl : r = 1 := by rw [← hr.out, if_neg g1, if_neg (fun h => g4 h.1), if_pos g7]
          clear hr ha0
          subst g3
          go_wp2
          go_ret
          exact ⟨rfl, hb.out⟩
        · obtain rfl : r = 0 := by rw [← hr.out, if_neg g1, if_neg (fun h => g4 h.1), if_neg g7]
          clear hr ha0
          subst g3
          go_wp2
          go_ret
          exact ⟨rfl, hb.out⟩
end Go.Proofs.YtacpcagijfacnaaDoor
namespace Go.Proofs.YtacpcagijfacnaaDoor
open Go.RowKit Go.Shelf
open Go.Proofs.YtacpcagijfacnaaDoorW.PrintWords (rd Ev at_rounds gate_dst gate_store Kd.C_below Kd.C_of_reads Kd.reads_of_C ReadsOf.at_ rdOf blk_new blk_below blk_cell blk_alloc blk_lt blk_frozen blk_drew blk_set Kd.C Kd.int)
set_option linter.unusedSimpArgs false
set_option linter.unusedVariables false
set_option maxRecDepth 50000
set_option maxHeartbeats 4000000 in
theorem rany_is (w : World) : Calls Tryd.prog 23 #[] w fun e w' => e = .returned (oidV 5 anyX) ∧ Below w.heap.size w w' := by
  have hb := (Below.refl w.heap.size w).alloc (Nat.le_refl _) (.cells (oidC 0 Z16) 27)
  have hB := blk_new w (.cells (oidC 0 Z16) 27)
  have hsz : (w.alloc (.cells (oidC 0 Z16) 27)).heap.size = w.heap.size + 1 := by simp
  go_enter Tryd.func23, Tryd.ntmps23
  go_upto_region 1 with fail
  rw [zrow]
  generalize w.alloc (.cells (oidC 0 (List.replicate 16 0)) 27) = W at *
  have hb2 := hb.alloc (by omega) (.cells (oidC 5 anyX) 27)
  have hR2 : (W.alloc (.cells (oidC 5 anyX) 27)).heap[w.heap.size]? = some (.cells (oidC 0 Z16) 27 (0, 0)) := blk_alloc hB _
  have hV : (W.alloc (.cells (oidC 5 anyX) 27)).heap[w.heap.size + 1]? = some (.cells (oidC 5 anyX) 27 (0, 0)) := by rw [← hsz]; exact blk_new W _
  go_upto_region 7 with fail
  rw [show (#[.int .u8 5, .int .u32 2, .int .u32 5, .int .u32 29, .int .u32 32, .int .u32 0, .int .u32 0, .int .u32 0, .int .u32 0, .int .u32 0, .int .u32 0, .int .u32 0, .int .u32 0, .int .u32 0, .int .u32 0, .int .u32 0, .int .u32 0] : Array Value) = oidC 5 anyX from rfl]
  generalize W.alloc (.cells (oidC 5 anyX) 27) = W2 at *
  go_wp2_with (first
    | ((with_reducible refine gate_dst (N := 11) rfl ?_); refine wpList_load_row rfl 27 _ rfl (w.heap.size + 1) rfl 27 (oidC 5 anyX) (0, 0) _ hV Tryd.underlying27 rfl (oid_info _ _ rfl) ?_)
    | ((with_reducible refine gate_store rfl ?_); refine wpList_plain rfl fun K hK => ?_; refine wp_store_row 27 _ _ rfl w.heap.size (oidC 5 anyX) rfl rfl 27 (oidC 0 Z16) hR2 (oid_info _ _ rfl) rfl (oid_one _ _) ?_; refine hK _ _ ?_))
  refine bodyPost_ret (results_cell_row rfl _ _ w.heap.size 27 (oidC 5 anyX) (0, 0) _ rfl (setRow_heap _ _ _ _ _ _ hR2) Tryd.underlying27 rfl (oid_info _ _ rfl)) rfl ?_
  exact ⟨rfl, below_setRow hb2 (Nat.le_refl _) _⟩
/-- The cells of an OID with an arc set. -/
theorem oid_set (n : Int) (xs : List Int) (i : Nat) (v : Int) (hi : i < xs.length) : (oidC n xs).setIfInBounds (1 + i) (.int .u32 v) = oidC n (xs.set i v) := by
  apply Array.ext'
  simp [Nat.add_comm 1 i, List.map_set]
/-- Arcs so far, filled up. -/
def padK (l : List Int) (k : Nat) : List Int := l.take k ++ List.replicate (16 - k) 0
theorem padK_len (l : List Int) (k : Nat) (hk : k ≤ l.length) (h16 : k ≤ 16) : (padK l k).length = 16 := by unfold padK; simp; omega
theorem padK_set (l : List Int) (k : Nat) (hk : k < l.length) (h16 : k < 16) : (padK l k).set k (l.getD k 0) = padK l (k + 1) := by
  unfold padK
  have e1 : (l.take k).length = k := by simp; omega
  rw [List.set_append_right _ _ (by omega), e1, Nat.sub_self]
  rw [show 16 - k = (16 - (k + 1)) + 1 by omega, List.replicate_succ, List.set_cons_zero, List.take_add_one, List.getElem?_eq_getElem hk]
  rw [List.getD_eq_getElem?_getD, List.getElem?_eq_getElem hk, Option.getD_some, Option.toList_some, List.append_assoc]
  rfl
theorem padK_all (l : List Int) : padK l l.length = pad l := by unfold padK pad; rw [List.take_length]
/-- What stands while made works: the result's box, the OID's box. -/
structure MdS (l : List Int) (k : Nat) (w W : World) : Prop where
  b : Below w.heap.size w W
  r : W.heap[w.heap.size]? = some (.cells (oidC 0 Z16) 27 (0, 0))
  o : W.heap[w.heap.size + 1]? = some (.cells (oidC (l.length : Int) (padK l k)) 27 (0, 0))
theorem MdS.step {l : List Int} {k : Nat} {w W : World} (h : MdS l k w W) (hk : k < l.length) (h16 : k < 16) : MdS l (k + 1) w (W.setCell ⟨w.heap.size + 1, 1 + k, none⟩ (.int .u32 (l.getD k 0))) := by
  refine ⟨h.b.setCell (by show _ ≤ w.heap.size + 1; omega) _, ?_, ?_⟩
  · rw [Below.heap_setCell _ _ _ _ (by show w.heap.size ≠ w.heap.size + 1; omega)]; exact h.r
  · have := blk_set h.o (1 + k) (.int .u32 (l.getD k 0))
    rw [oid_set _ _ _ _ (by rw [padK_len l k (by omega) (by omega)]; omega), padK_set l k hk h16] at this
    exact this
set_option maxHeartbeats 4000000 in
theorem made_is (A : Option Addr) (c : Nat) (l : List Int) (w : World) (hl : l.length ≤ 16) (hr : Kd.C (Kd.int .u32) w A l.length l) :
    Calls Tryd.prog 34 #[.slice A l.length c] w fun e w' => e = .returned (oidV (l.length : Int) (pad l)) ∧ Below w.heap.size w w' := by
  have hw : IntKind.u8.wrap (l.length : Int) = (l.length : Int) := by rw [IntKind.wrap_u8]; omega
  have HR := Lib.hid hr
  clear hr
  have hb := (Below.refl w.heap.size w).alloc (Nat.le_refl _) (.cells (oidC 0 Z16) 27)
  have hB := blk_new w (.cells (oidC 0 Z16) 27)
  have hsz : (w.alloc (.cells (oidC 0 Z16) 27)).heap.size = w.heap.size + 1 := by simp
  go_enter Tryd.func34, Tryd.ntmps34
  go_upto_region 1 with fail
  rw [zrow]
  generalize w.alloc (.cells (oidC 0 (List.replicate 16 0)) 27) = W at *
  have hb2 := hb.alloc (by omega) (.cells (oidC (l.length : Int) Z16) 27)
  have S0 : Hid (MdS l 0 w (W.alloc (.cells (oidC (l.length : Int) Z16) 27))) := ⟨hb2, blk_alloc hB _, by rw [← hsz]; exact blk_new W _⟩
  go_upto_region 4 with fail
  rw [show (#[.int .u8 (l.length : Int), .int .u32 0, .int .u32 0, .int .u32 0, .int .u32 0, .int .u32 0, .int .u32 0, .int .u32 0, .int .u32 0, .int .u32 0, .int .u32 0, .int .u32 0, .int .u32 0, .int .u32 0, .int .u32 0, .int .u32 0, .int .u32 0] : Array Value) = oidC (l.length : Int) Z16 from rfl]
  generalize W.alloc (.cells (oidC (l.length : Int) Z16) 27) = W2 at *
  go_loopw [4] (fun i wr => ∃ k : Nat, k ≤ l.length ∧ i = .int .i64 (k : Int) ∧ Hid (MdS l k w wr)) (fun i _ => l.length - (intOf i).toNat)
  case atStart => exact ⟨0, Nat.zero_le _, rfl, S0⟩
  case round =>
    obtain ⟨k, hk, rfl, S⟩ := hrel
    by_cases hlt : k < l.length
    · have hx := (oid_cells S.out.o).2 k (by rw [padK_len l k hk (by omega)]; omega)
      have hf := blk_frozen S.out.o (1 + k)
      obtain ⟨ad, rfl, hc⟩ := (Kd.reads_of_C (enc := Value.int .u32) (d := (0 : Int)) (h1 := fun _ => rfl) (Kd.C_below HR.out S.out.b)).at_ (k : Int) (by omega) (by omega)
      simp only [Int.toNat_natCast, rdOf] at hc
      have h16 : k < 16 := by omega
      have hN0 := S.out.step hlt h16
      rw [List.getD_eq_getElem?_getD, List.getElem?_eq_getElem hlt, Option.getD_some] at hN0
      have hN := Lib.hid hN0
      clear hN0
      go_wp2
      go_round
      case rel => exact ⟨k + 1, by omega, by go_num, hN⟩
      case measure => simp [intOf]; omega
    · obtain rfl : k = l.length := by omega
      have hO := S.out.o
      rw [padK_all] at hO
      have hR := S.out.r
      have hB := Lib.hid S.out.b
      have HP := Lib.hid (pad_len l hl)
      go_wp2_with (first
        | ((with_reducible refine gate_dst (N := 22) rfl ?_); refine wpList_load_row rfl 27 _ rfl (w.heap.size + 1) rfl 27 (oidC (l.length : Int) (pad l)) (0, 0) _ hO Tryd.underlying27 rfl (oid_info _ _ HP.out) ?_)
        | ((with_reducible refine gate_store rfl ?_); refine wpList_plain rfl fun K hK => ?_; refine wp_store_row 27 _ _ rfl w.heap.size (oidC (l.length : Int) (pad l)) rfl rfl 27 (oidC 0 Z16) hR (oid_info _ _ HP.out) (by simp [HP.out]) (oid_one _ _) ?_; refine hK _ _ ?_))
      refine bodyPost_ret (results_cell_row rfl _ _ w.heap.size 27 (oidC (l.length : Int) (pad l)) (0, 0) _ rfl (setRow_heap _ _ _ _ _ _ hR) Tryd.underlying27 rfl (oid_info _ _ HP.out)) rfl ?_
      exact ⟨rfl, below_setRow hB.out (Nat.le_refl _) _⟩
end Go.Proofs.YtacpcagijfacnaaDoor
namespace Go.Proofs.YtacpcagijfacnaaDoor
open Go.RowKit Go.Shelf
open Go.Proofs.YtacpcagijfacnaaDoorW.PrintWords (rd Ev at_rounds gate_dst gate_store Kd.C_below Kd.C_of_reads Kd.reads_of_C ReadsOf.at_ rdOf blk_new blk_below blk_cell blk_alloc blk_lt blk_frozen blk_drew blk_set Kd.C Kd.int)
set_option linter.unusedSimpArgs false
set_option linter.unusedVariables false
set_option maxRecDepth 50000
theorem arcsO_at {N : Nat} {xs : List Int} {j : Nat} (hx : xs.length = 16) (hj : j < (arcsO N xs).length) : (arcsO N xs).getD j 0 = xs.getD j 0 := by
  unfold arcsO at hj ⊢
  rw [List.getD_eq_getElem?_getD, List.getD_eq_getElem?_getD, List.getElem?_take, if_pos (by rw [List.length_take] at hj; omega)]
theorem cmpL_cons (a b : Int) (r s : List Int) : cmpL (a :: r) (b :: s) = if a < b then -1 else if b < a then 1 else cmpL r s := rfl
theorem Bx2.drew {N M : Nat} {xs ys : List Int} {w W : World} (h : Bx2 N xs M ys w W) : Bx2 N xs M ys w W.drew := h.next ((Below.refl _ _).drew)
set_option maxHeartbeats 4000000 in
theorem rcompare_any (N : Nat) (xs : List Int) (M : Nat) (ys : List Int) (w : World) (hN : N < 256) (hM : M < 256) (hx : xs.length = 16) (hy : ys.length = 16) :
    Calls Tryd.prog 16 #[oidV (N : Int) xs, oidV (M : Int) ys] w fun e w' => e = .returned (.int .i64 (cmpL (arcsO N xs) (arcsO M ys))) ∧ Below w.heap.size w w' := by
  have S := Lib.hid (Bx2.start N xs M ys w)
  have HX := Lib.hid hx
  have HY := Lib.hid hy
  have LX := Lib.hid (arcsO_len (N := N) hx)
  have LY := Lib.hid (arcsO_len (N := M) hy)
  clear hx hy
  obtain ⟨P, hP⟩ : ∃ P, P = min N 16 := ⟨_, rfl⟩
  obtain ⟨Q, hQ⟩ : ∃ Q, Q = min M 16 := ⟨_, rfl⟩
  have hm1 : min (N : Int) 16 = (P : Int) := by omega
  have hm2 : min (M : Int) 16 = (Q : Int) := by omega
  have hP16 : P ≤ 16 := by omega
  have hQ16 : Q ≤ 16 := by omega
  rw [← hP] at LX
  rw [← hQ] at LY
  clear hP hQ
  have x0 := (oid_cells S.out.x).1
  have y0 := (oid_cells S.out.y).1
  have A0 := Lib.hid (fun j (hj : j < (arcsO N xs).length) => arcsO_at HX.out hj)
  have B0 := Lib.hid (fun j (hj : j < (arcsO M ys).length) => arcsO_at HY.out hj)
  generalize hA : arcsO N xs = A at *
  generalize hB : arcsO M ys = B at *
  clear hA hB
  go_enter Tryd.func16, Tryd.ntmps16
  go_upto_region 1 with fail
  generalize (w.alloc (.cells (oidC (N : Int) xs) 27)).alloc (.cells (oidC (M : Int) ys) 27) = W at *
  go_region
  have S1 := Lib.hid (S.out.drew)
  generalize W.drew = W1 at *
  go_upto_region 3 with fail
  go_loopw [7] (fun i wr => ∃ j : Nat, j ≤ P ∧ j ≤ Q ∧ i = .int .i64 (j : Int) ∧ Hid (Bx2 N xs M ys w wr) ∧ Hid (cmpL (A.drop j) (B.drop j) = cmpL A B)) (fun i _ => 16 - (intOf i).toNat)
  case atStart => exact ⟨0, Nat.zero_le _, Nat.zero_le _, rfl, S1, Lib.hid rfl⟩
  case round =>
    obtain ⟨j, hj1, hj2, rfl, T, hc⟩ := hrel
    by_cases hlt : j < P ∧ j < Q
    · obtain ⟨g1, g2⟩ := hlt
      have cx := (oid_cells T.out.x).2 j (by rw [HX.out]; omega)
      have cy := (oid_cells T.out.y).2 j (by rw [HY.out]; omega)
      have T1 := Lib.hid T.out.drew
      have T2 := Lib.hid T.out.drew.drew
      have cx1 := (oid_cells T1.out.x).2 j (by rw [HX.out]; omega)
      have cy1 := (oid_cells T1.out.y).2 j (by rw [HY.out]; omega)
      have hd := hc.out
      rw [drop_at (show j < A.length by rw [LX.out]; exact g1), drop_at (show j < B.length by rw [LY.out]; exact g2), cmpL_cons, A0.out j (by rw [LX.out]; exact g1), B0.out j (by rw [LY.out]; exact g2)] at hd
      have h16 : j < 16 := by omega
      generalize xs.getD j 0 = a at *
      generalize ys.getD j 0 = b at *
      rcases Int.lt_trichotomy a b with h | h | h
      · rw [if_pos h] at hd
        have HD := Lib.hid hd
        clear hd hc
        go_upto_region 5 with fail
        go_region
        go_wp2
        go_ret
        exact ⟨congrArg (fun z => Ending.returned (.int .i64 z)) HD.out, T1.out.b⟩
      · subst h
        rw [if_neg (by omega), if_neg (by omega)] at hd
        have HD := Lib.hid hd
        clear hd hc
        go_upto_region 5 with fail
        go_region
        go_upto_region 7 with fail
        go_region
        go_wp2
        go_round
        case rel => exact ⟨j + 1, by omega, by omega, by go_num, T2, HD⟩
        case measure => simp [intOf]; omega
      · rw [if_neg (by omega), if_pos h] at hd
        have HD := Lib.hid hd
        have h' : ¬ a < b := by omega
        clear hd hc
        go_upto_region 5 with fail
        go_region
        go_upto_region 7 with fail
        go_region
        go_wp2
        go_ret
        exact ⟨congrArg (fun z => Ending.returned (.int .i64 z)) HD.out, T2.out.b⟩
    · have hd := hc.out
      by_cases e1 : j = P
      · subst e1
        rw [List.drop_of_length_le (by rw [LX.out]; omega)] at hd
        by_cases e2 : j = Q
        · subst e2
          rw [List.drop_of_length_le (by rw [LY.out]; omega)] at hd
          have HD := Lib.hid hd
          clear hd hc hlt
          go_wp2
          go_ret
          exact ⟨congrArg (fun z => Ending.returned (.int .i64 z)) HD.out, T.out.b⟩
        · have g : j < Q := by omega
          rw [drop_at (show j < B.length by rw [LY.out]; exact g)] at hd
          have HD := Lib.hid hd
          clear hd hc hlt
          go_wp2
          go_ret
          exact ⟨congrArg (fun z => Ending.returned (.int .i64 z)) HD.out, T.out.b⟩
      · have e2 : j = Q := by omega
        have g : j < P := by omega
        subst e2
        rw [List.drop_of_length_le (by rw [LY.out]; omega : B.length ≤ j), drop_at (show j < A.length by rw [LX.out]; exact g)] at hd
        have HD := Lib.hid hd
        clear hd hc hlt
        go_wp2
        go_ret
        exact ⟨congrArg (fun z => Ending.returned (.int .i64 z)) HD.out, T.out.b⟩
end Go.Proofs.YtacpcagijfacnaaDoor
namespace Go.Proofs.YtacpcagijfacnaaDoor
open Go.RowKit Go.Shelf
open Go.Proofs.YtacpcagijfacnaaDoorW.PrintWords (rd Ev at_rounds gate_dst gate_store Kd.C_below Kd.C_of_reads Kd.reads_of_C ReadsOf.at_ rdOf blk_new blk_below blk_cell blk_alloc blk_lt blk_frozen blk_drew blk_set Kd.C Kd.int Kd.R Kd.R_of_own Kd.R_append_rows Kd.R_slice Kd.R_reads' Kd.C_take)
set_option linter.unusedSimpArgs false
set_option linter.unusedVariables false
set_option maxRecDepth 50000
/-- What A.Of makes. -/
def secA (f s : Int) : Int := min (if f % 3 < 2 then s % 40 else s) 4294967215
def ofA (f s : Int) (l : List Int) : List Int := f % 3 :: secA f s :: l.take 14
theorem ofA_len (f s : Int) (l : List Int) : (ofA f s l).length ≤ 16 := by unfold ofA; simp; omega
theorem info24 : (Tryd.prog.info? 24).map (fun i => (i.zero, i.size, i.bytes)) = some (some (.int .u32 0), 1, 4) := by kernel_rfl
/-- What stands when the two first arcs are made. -/
structure AoS (f s p q : Int) (A : Option Addr) (l : List Int) (c : Nat) (w W : World) : Prop where
  b : Below w.heap.size w W
  x : W.heap[w.heap.size]? = some (.cells #[.int .u8 f, .int .u32 s, .slice A l.length c] 45 (0, 0))
  r : W.heap[w.heap.size + 1]? = some (.cells (oidC 0 Z16) 27 (0, 0))
  g : W.heap[w.heap.size + 1 + 1]? = some (.cells #[.int .u32 p, .int .u32 q] 24 (0, 0))
  z : W.heap.size = w.heap.size + 3
theorem AoS.start (f s p q : Int) (A : Option Addr) (l : List Int) (c : Nat) (w : World) :
    AoS f s p q A l c w (((w.alloc (.cells #[.int .u8 f, .int .u32 s, .slice A l.length c] 45)).alloc (.cells (oidC 0 Z16) 27)).alloc (.cells #[.int .u32 p, .int .u32 q] 24)) := by
  refine ⟨(((Below.refl _ _).alloc (Nat.le_refl _) _).alloc (by simp) _).alloc (by simp; omega) _, blk_alloc (blk_alloc (blk_new w _) _) _, blk_alloc ?_ _, ?_, by simp⟩
  · have := blk_new (w.alloc (.cells #[.int .u8 f, .int .u32 s, .slice A l.length c] 45)) (.cells (oidC 0 Z16) 27)
    rwa [World.size_alloc] at this
  · have := blk_new ((w.alloc (.cells #[.int .u8 f, .int .u32 s, .slice A l.length c] 45)).alloc (.cells (oidC 0 Z16) 27)) (.cells #[.int .u32 p, .int .u32 q] 24)
    rwa [World.size_alloc, World.size_alloc] at this
theorem AoS.own {f s p q : Int} {A : Option Addr} {l : List Int} {c : Nat} {w W : World} (h : AoS f s p q A l c w W) : Kd.R (Kd.int .u32) 24 W w.heap.size (fun _ => True) (.slice (some ⟨w.heap.size + 1 + 1, 0, none⟩) 2 2) [p, q] :=
  Kd.R_of_own ⟨rfl, .inr ⟨w.heap.size + 1 + 1, 2, #[.int .u32 p, .int .u32 q], rfl, by omega, h.g, by simp, by unfold maxLen; omega, rfl, rfl⟩⟩ (fun _ _ => trivial)
theorem made_len (A : Option Addr) (c : Nat) (l : List Int) (L : Nat) (w : World) (hL : l.length = L) (hl : l.length ≤ 16) (hr : Kd.C (Kd.int .u32) w A l.length l) :
    Calls Tryd.prog 34 #[.slice A L c] w fun e w' => e = .returned (oidV (L : Int) (pad l)) ∧ Below w.heap.size w w' := by
  subst hL
  exact made_is A c l w hl hr
set_option maxHeartbeats 4000000 in
theorem aof_gen (f s p q0 q : Int) (K : Nat) (A : Option Addr) (c : Nat) (l : List Int) (w : World) (hp : p = 0 ∨ p = 1 ∨ p = 2) (hfp : Int.tmod f 3 = p) (hq0 : Int.tmod s 40 = q0) (hq : min (if p < 2 then q0 else s) 4294967215 = q)
    (hK : min 14 (l.length : Int) = (K : Int)) (hKl : K ≤ l.length) (hK14 : K ≤ 14) (hr : Kd.C (Kd.int .u32) w A l.length l) (hc : l.length ≤ c) :
    Calls Tryd.prog 19 #[.agg #[.int .u8 f, .int .u32 s, .slice A l.length c]] w fun e w' => e = .returned (oidV ((p :: q :: l.take K).length : Int) (pad (p :: q :: l.take K))) ∧ Below w.heap.size w w' := by
  have HR := Lib.hid hr
  clear hr
  have HS := fun p => Lib.hid (AoS.start f s p q A l c w)
  have hKn : ¬ (K : Int) < 0 := by omega
  have hKc : K ≤ c := by omega
  rcases hp with rfl | rfl | rfl
  case inr.inr =>
    rw [if_neg (by decide)] at hq
    have HS := HS 2
    go_enter Tryd.func19, Tryd.ntmps19
    go_upto_region 5 with fail
    rw [zrow]
    generalize ((w.alloc (.cells #[.int .u8 f, .int .u32 s, .slice A l.length c] 45)).alloc (.cells (oidC 0 (List.replicate 16 0)) 27)).alloc (.cells #[.int .u32 2, .int .u32 q] 24) = W at *
    have cx : W.cell? ⟨w.heap.size, 2, none⟩ = some (.slice A l.length c) := blk_cell HS.out.x 2
    have HT : Hid (Kd.C (Kd.int .u32) W A K (l.take K)) := by
      have := Kd.C_take (Kd.C_below HR.out HS.out.b) hKl
      rwa [List.length_take, Nat.min_eq_left hKl] at this
    have hLen : (2 :: q :: l.take K).length ≤ 16 := by simp; omega
    have HL := Lib.hid hLen
    clear hLen
    go_wp2_with (first
      | ((with_reducible refine gate_dst (N := 35) rfl ?_); refine Kd.R_append_rows (Kd.int .u32) (w0 := w) w.heap.size rfl (.tmp 27) (.tmp 34) 43 24 (.int .u32 0) 4 rfl Tryd.underlying43 info24 rfl (by decide) (by omega) (.slice (some ⟨w.heap.size + 1 + 1, 0, none⟩) 2 2) [2, q] (l.take K) A K c (fun _ => True) (fun _ => False) rfl rfl HS.out.own HT.out (fun _ _ h => h) (fun _ h => h.elim) (fun _ _ => trivial) HS.out.b HS.out.b.size (by simp; omega) ?_; intro v1 w1 ho hb hg hat; obtain ⟨Ao, co, rfl⟩ := Kd.R_slice ho; have HO := Lib.hid (Kd.R_reads' ho).2.2; obtain ⟨LL, hLL⟩ : ∃ LL, LL = ([2, q] ++ l.take K).length := ⟨_, rfl⟩; rw [← hLL]; have HLL := Lib.hid hLL; clear hLL; have hR1 : w1.heap[w.heap.size + 1]? = some (.cells (oidC 0 Z16) 27 (0, 0)) := (hg.block _ (by rw [HS.out.z]; omega) (by show some (w.heap.size + 1) ≠ some (w.heap.size + 1 + 1); simp)).trans HS.out.r; clear ho hg hat)
      | (go_at_call 34; refine (made_len Ao co (2 :: q :: l.take K) LL _ HLL.out.symm HL.out HO.out).mono ?_; rintro e w2 ⟨rfl, hb2⟩; have hR2 := blk_below hR1 hb2; have hb3 := hb.trans (hb2.mono hb.size))
      | ((with_reducible refine gate_store rfl ?_); refine wpList_plain rfl fun K' hK' => ?_; refine wp_store_row 27 _ _ rfl (w.heap.size + 1) (oidC (LL : Int) (pad (2 :: q :: l.take K))) rfl rfl 27 (oidC 0 Z16) hR2 (oid_info _ _ (pad_len _ HL.out)) (by simp [pad_len _ HL.out]) (oid_one _ _) ?_; refine hK' _ _ ?_))
    refine bodyPost_ret (results_cell_row rfl _ _ (w.heap.size + 1) 27 (oidC (LL : Int) (pad (2 :: q :: l.take K))) (0, 0) _ rfl (setRow_heap _ _ _ _ _ _ hR2) Tryd.underlying27 rfl (oid_info _ _ (pad_len _ HL.out))) rfl ?_
    exact ⟨by rw [HLL.out]; rfl, below_setRow hb3 (by omega) _⟩
  case inl =>
    rw [if_pos (by decide)] at hq
    have HS := HS 0
    go_enter Tryd.func19, Tryd.ntmps19
    go_upto_region 5 with fail
    rw [zrow]
    generalize ((w.alloc (.cells #[.int .u8 f, .int .u32 s, .slice A l.length c] 45)).alloc (.cells (oidC 0 (List.replicate 16 0)) 27)).alloc (.cells #[.int .u32 0, .int .u32 q] 24) = W at *
    have cx : W.cell? ⟨w.heap.size, 2, none⟩ = some (.slice A l.length c) := blk_cell HS.out.x 2
    have HT : Hid (Kd.C (Kd.int .u32) W A K (l.take K)) := by
      have := Kd.C_take (Kd.C_below HR.out HS.out.b) hKl
      rwa [List.length_take, Nat.min_eq_left hKl] at this
    have hLen : (0 :: q :: l.take K).length ≤ 16 := by simp; omega
    have HL := Lib.hid hLen
    clear hLen
    go_wp2_with (first
      | ((with_reducible refine gate_dst (N := 35) rfl ?_); refine Kd.R_append_rows (Kd.int .u32) (w0 := w) w.heap.size rfl (.tmp 27) (.tmp 34) 43 24 (.int .u32 0) 4 rfl Tryd.underlying43 info24 rfl (by decide) (by omega) (.slice (some ⟨w.heap.size + 1 + 1, 0, none⟩) 2 2) [0, q] (l.take K) A K c (fun _ => True) (fun _ => False) rfl rfl HS.out.own HT.out (fun _ _ h => h) (fun _ h => h.elim) (fun _ _ => trivial) HS.out.b HS.out.b.size (by simp; omega) ?_; intro v1 w1 ho hb hg hat; obtain ⟨Ao, co, rfl⟩ := Kd.R_slice ho; have HO := Lib.hid (Kd.R_reads' ho).2.2; obtain ⟨LL, hLL⟩ : ∃ LL, LL = ([0, q] ++ l.take K).length := ⟨_, rfl⟩; rw [← hLL]; have HLL := Lib.hid hLL; clear hLL; have hR1 : w1.heap[w.heap.size + 1]? = some (.cells (oidC 0 Z16) 27 (0, 0)) := (hg.block _ (by rw [HS.out.z]; omega) (by show some (w.heap.size + 1) ≠ some (w.heap.size + 1 + 1); simp)).trans HS.out.r; clear ho hg hat)
      | (go_at_call 34; refine (made_len Ao co (0 :: q :: l.take K) LL _ HLL.out.symm HL.out HO.out).mono ?_; rintro e w2 ⟨rfl, hb2⟩; have hR2 := blk_below hR1 hb2; have hb3 := hb.trans (hb2.mono hb.size))
      | ((with_reducible refine gate_store rfl ?_); refine wpList_plain rfl fun K' hK' => ?_; refine wp_store_row 27 _ _ rfl (w.heap.size + 1) (oidC (LL : Int) (pad (0 :: q :: l.take K))) rfl rfl 27 (oidC 0 Z16) hR2 (oid_info _ _ (pad_len _ HL.out)) (by simp [pad_len _ HL.out]) (oid_one _ _) ?_; refine hK' _ _ ?_))
    refine bodyPost_ret (results_cell_row rfl _ _ (w.heap.size + 1) 27 (oidC (LL : Int) (pad (0 :: q :: l.take K))) (0, 0) _ rfl (setRow_heap _ _ _ _ _ _ hR2) Tryd.underlying27 rfl (oid_info _ _ (pad_len _ HL.out))) rfl ?_
    exact ⟨by rw [HLL.out]; rfl, below_setRow hb3 (by omega) _⟩
  case inr.inl =>
    rw [if_pos (by decide)] at hq
    have HS := HS 1
    go_enter Tryd.func19, Tryd.ntmps19
    go_upto_region 5 with fail
    rw [zrow]
    generalize ((w.alloc (.cells #[.int .u8 f, .int .u32 s, .slice A l.length c] 45)).alloc (.cells (oidC 0 (List.replicate 16 0)) 27)).alloc (.cells #[.int .u32 1, .int .u32 q] 24) = W at *
    have cx : W.cell? ⟨w.heap.size, 2, none⟩ = some (.slice A l.length c) := blk_cell HS.out.x 2
    have HT : Hid (Kd.C (Kd.int .u32) W A K (l.take K)) := by
      have := Kd.C_take (Kd.C_below HR.out HS.out.b) hKl
      rwa [List.length_take, Nat.min_eq_left hKl] at this
    have hLen : (1 :: q :: l.take K).length ≤ 16 := by simp; omega
    have HL := Lib.hid hLen
    clear hLen
    go_wp2_with (first
      | ((with_reducible refine gate_dst (N := 35) rfl ?_); refine Kd.R_append_rows (Kd.int .u32) (w0 := w) w.heap.size rfl (.tmp 27) (.tmp 34) 43 24 (.int .u32 0) 4 rfl Tryd.underlying43 info24 rfl (by decide) (by omega) (.slice (some ⟨w.heap.size + 1 + 1, 0, none⟩) 2 2) [1, q] (l.take K) A K c (fun _ => True) (fun _ => False) rfl rfl HS.out.own HT.out (fun _ _ h => h) (fun _ h => h.elim) (fun _ _ => trivial) HS.out.b HS.out.b.size (by simp; omega) ?_; intro v1 w1 ho hb hg hat; obtain ⟨Ao, co, rfl⟩ := Kd.R_slice ho; have HO := Lib.hid (Kd.R_reads' ho).2.2; obtain ⟨LL, hLL⟩ : ∃ LL, LL = ([1, q] ++ l.take K).length := ⟨_, rfl⟩; rw [← hLL]; have HLL := Lib.hid hLL; clear hLL; have hR1 : w1.heap[w.heap.size + 1]? = some (.cells (oidC 0 Z16) 27 (0, 0)) := (hg.block _ (by rw [HS.out.z]; omega) (by show some (w.heap.size + 1) ≠ some (w.heap.size + 1 + 1); simp)).trans HS.out.r; clear ho hg hat)
      | (go_at_call 34; refine (made_len Ao co (1 :: q :: l.take K) LL _ HLL.out.symm HL.out HO.out).mono ?_; rintro e w2 ⟨rfl, hb2⟩; have hR2 := blk_below hR1 hb2; have hb3 := hb.trans (hb2.mono hb.size))
      | ((with_reducible refine gate_store rfl ?_); refine wpList_plain rfl fun K' hK' => ?_; refine wp_store_row 27 _ _ rfl (w.heap.size + 1) (oidC (LL : Int) (pad (1 :: q :: l.take K))) rfl rfl 27 (oidC 0 Z16) hR2 (oid_info _ _ (pad_len _ HL.out)) (by simp [pad_len _ HL.out]) (oid_one _ _) ?_; refine hK' _ _ ?_))
    refine bodyPost_ret (results_cell_row rfl _ _ (w.heap.size + 1) 27 (oidC (LL : Int) (pad (1 :: q :: l.take K))) (0, 0) _ rfl (setRow_heap _ _ _ _ _ _ hR2) Tryd.underlying27 rfl (oid_info _ _ (pad_len _ HL.out))) rfl ?_
    exact ⟨by rw [HLL.out]; rfl, below_setRow hb3 (by omega) _⟩
end Go.Proofs.YtacpcagijfacnaaDoor
