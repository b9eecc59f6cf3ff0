/- Chapters 6, 7 (oids, oidsets): Put of a valid OID. -/
import Derived.Test.YtacpcagijfacnaaDoorWn
namespace Go.Proofs.YtacpcagijfacnaaDoor
open Go.RowKit Go.Shelf
open Go.Proofs.YtacpcagijfacnaaDoorW.PrintWords (rd Ev gate_dst gate_store Kd.C_below Kd.C_of_reads Kd.reads_of_C ReadsOf.at_ rdOf blk_new blk_below blk_cell blk_alloc blk_lt blk_frozen blk_drew blk_set Kd.C Kd.int)
attribute [local go_sem] Oper.semAt_some
set_option linter.unusedSimpArgs false
set_option linter.unusedVariables false
set_option maxRecDepth 50000
theorem chkO_ok {n : Int} {xs : List Int} (h : chkO n xs = 0) : xs.getD 0 0 ≤ 2 ∧ (xs.getD 0 0 < 2 → xs.getD 1 0 ≤ 39) ∧ xs.getD 1 0 ≤ 4294967215 := by
  unfold chkO at h
  by_cases h1 : n < 2
  · rw [if_pos h1] at h; cases h
  by_cases h2 : 16 < n
  · rw [if_neg h1, if_pos h2] at h; cases h
  rw [if_neg h1, if_neg h2] at h
  by_cases h3 : 2 < xs.getD 0 0
  · rw [if_pos h3] at h; cases h
  rw [if_neg h3] at h
  by_cases h4 : xs.getD 0 0 < 2 ∧ 39 < xs.getD 1 0
  · rw [if_pos h4] at h; cases h
  rw [if_neg h4] at h
  by_cases h5 : 4294967215 < xs.getD 1 0
  · rw [if_pos h5] at h; cases h
  exact ⟨by omega, fun h6 => by by_cases h7 : 39 < xs.getD 1 0; · exact absurd ⟨h6, h7⟩ h4
                                · omega, by omega⟩
/-- Each arc is a uint32. -/
def U32 (xs : List Int) : Prop := ∀ x ∈ xs, 0 ≤ x ∧ x < 4294967296
theorem U32.getD {xs : List Int} (h : U32 xs) (i : Nat) : 0 ≤ xs.getD i 0 ∧ xs.getD i 0 < 4294967296 := by
  rw [List.getD_eq_getElem?_getD]
  rcases Nat.lt_or_ge i xs.length with h1 | h1
  · rw [List.getElem?_eq_getElem h1]; exact h _ (List.getElem_mem h1)
  · rw [List.getElem?_eq_none h1]; exact ⟨by simp, by simp⟩
theorem clone_len (g off c : Nat) (l : List Int) (L : Nat) (w : World) (hL : l.length = L) (hl0 : L ≠ 0) (hl : L ≤ 1000) (hr : Kd.C (Kd.int .u32) w (some ⟨g, off, none⟩) l.length l) :
    Calls Tryd.prog 26 #[.slice (some ⟨g, off, none⟩) L c] w fun e w' => ∃ g' cap cur, e = .returned (.slice (some ⟨g', 0, none⟩) L cap) ∧ w.heap.size ≤ g' ∧ w'.heap[g']? = some (.cells cur 24 (0, 0)) ∧ L ≤ cap ∧ cap ≤ maxLen ∧ cur.size = cap ∧ cur.toList.take L = l.map (Value.int .u32) ∧ Below w.heap.size w w' := by
  subst hL
  exact clone_is g off c l w (fun h => hl0 (by rw [h]; rfl)) hl hr
/-- What stands between two rounds of the inner loop. -/
structure PuI (w : World) (gs : Nat) (cs : Array Value) (B : Nat) (L : List Int) (hi : Nat) (Ds : List Nat) (Bn : Nat) (s : Int) (pre : List Int) (W : World) : Prop where
  out : ∃ v, Boxed W B 22 v ∧ W.ownsRow w.heap.size 5 1 v (L.length + pre.length) ((L ++ pre).map (Value.int .u8)) ∧ True
  subs : W.heap[gs]? = some (.cells cs 24 (0, 0))
  b : Below w.heap.size w W
  m : Marks w.heap.size hi Ds W
  n : Boxed W Bn 24 (.int .u32 s)
theorem PuI.own (w : World) (gs : Nat) (cs : Array Value) (B : Nat) (L : List Int) (hi : Nat) (Ds : List Nat) (Bn : Nat) (s : Int) (C : Nat) (h1 : hi ≤ C) (h2 : w.heap.size ≤ C) : OwnFrom C (PuI w gs cs B L hi Ds Bn s) := by
  intro pre W W' row h hg hr
  exact ⟨(holdsRow_own w.heap.size B 22 5 1 (fun pre : List Int => L.length + pre.length) (fun pre => (L ++ pre).map (Value.int .u8)) (fun _ _ => True)).from C pre W W' row h.out hg hr,
    (blk_own gs 24 cs (0, 0)).from C pre W W' row h.subs hg hr, (ownFrom_below (β := List Int) (Nat.le_refl _) h2) pre W W' row h.b hg hr, Marks.own h1 pre W W' row h.m hg hr,
    (blk_own Bn 24 #[.int .u32 s] (0, 0)).from C pre W W' row h.n hg hr⟩
theorem PuI.step {w : World} {gs : Nat} {cs : Array Value} {B : Nat} {L : List Int} {hi : Nat} {Ds : List Nat} {Bn : Nat} {s : Int} {pre : List Int} {W : World} (h : PuI w gs cs B L hi Ds Bn s pre W) {v v' : Value} {x : Int} {tmp : Obj} {w2 : World}
    (hv : Boxed W B 22 v) (hrow : W.ownsRow w.heap.size 5 1 v (L.length + pre.length) ((L ++ pre).map (Value.int .u8))) (hB : w.heap.size ≤ B)
    (hown' : w2.ownsRow w.heap.size 5 1 v' (L.length + pre.length + 1) ((L ++ pre).map (Value.int .u8) ++ [.int .u8 x])) (hgrow : (W.alloc tmp).grownBy w2 v.ownBlock) :
    Boxed w2 B 22 v ∧ KeepsOthers W (w2.setCell ⟨B, 0, none⟩ v') ∧ KeepC Bn W (w2.setCell ⟨B, 0, none⟩ v') ∧ PuI w gs cs B L hi Ds Bn s (pre ++ [x]) (w2.setCell ⟨B, 0, none⟩ v') := by
  obtain ⟨hv1, hv2, hr2, hk2, hb2⟩ := hv.appended (by decide) hrow h.b.size hB hown' hgrow
  have keep : ∀ (g : Nat) (t : TypeId) (c : Array Value) (fz : Nat × Nat), t ≠ 5 → t ≠ 22 → W.heap[g]? = some (.cells c t fz) → (w2.setCell ⟨B, 0, none⟩ v').heap[g]? = some (.cells c t fz) := fun g t c fz ht ht2 hg => by
    have hne : g ≠ B := fun e => by subst e; rw [show W.heap[g]? = _ from hv] at hg; cases hg; exact ht2 rfl
    rw [Below.heap_setCell _ _ _ _ (by exact hne)]
    have h1 : (W.alloc tmp).heap[g]? = some (.cells c t fz) := by rw [Below.heap_alloc W tmp g (Array.getElem?_eq_some_iff.1 hg).1]; exact hg
    rw [hgrow.block g (Array.getElem?_eq_some_iff.1 h1).1 (blk_not_row hg ht hrow)]
    exact h1
  have hn2 := keep Bn 24 _ _ (by decide) (by decide) h.n
  refine ⟨hv1, hk2, fun u hu => ?_, ⟨_, hv2, ?_, trivial⟩, keep gs 24 _ _ (by decide) (by decide) h.subs, h.b.trans hb2, h.m.others hk2, hn2⟩
  · rw [h.n.cell] at hu
    rw [← hu]; exact blk_cell hn2 0
  · have e : (L ++ (pre ++ [x])).map (Value.int .u8) = (L ++ pre).map (Value.int .u8) ++ [.int .u8 x] := by simp
    rw [e, List.length_append, List.length_singleton, ← Nat.add_assoc]
    exact hr2
theorem flat_len (S : List Int) : (S.flatMap gl).length ≤ 5 * S.length := by
  induction S with
  | nil => simp
  | cons a r ih => rw [List.flatMap_cons, List.length_append, List.length_cons]; have := (gl_len a).2; omega
theorem flat_take {S : List Int} {j : Nat} (h : j < S.length) : (S.take (j + 1)).flatMap gl = (S.take j).flatMap gl ++ gl (S.getD j 0) := by
  rw [List.take_add_one, List.getElem?_eq_getElem h, Option.toList_some, List.flatMap_append, List.getD_eq_getElem?_getD, List.getElem?_eq_getElem h, Option.getD_some]
  simp
set_option maxHeartbeats 4000000 in
theorem put_ok (N : Nat) (xs : List Int) (w : World) (hN : N < 256) (hx : xs.length = 16) (hu : U32 xs) (h0 : chkO (N : Int) xs = 0) :
    Calls Tryd.prog 11 #[oidV (N : Int) xs] w (PutP (encO N xs) w) := by
  have CX := Lib.hid (fun W => check_any (N : Int) xs W hx (by omega))
  rw [h0] at CX
  obtain ⟨n2, n16⟩ := chkO_n h0
  obtain ⟨k1, k2, k3⟩ := chkO_ok h0
  have u0 := hu.getD 0
  have u1 := hu.getD 1
  have HU := Lib.hid hu
  have HX := Lib.hid hx
  have LX : Hid ((arcsO N xs).length = N) := by have := arcsO_len (N := N) hx; show _ = _; omega
  have B0 := Lib.hid ((Below.refl w.heap.size w).alloc (Nat.le_refl _) (.cells (oidC (N : Int) xs) 27))
  have hB := Lib.hid (blk_new w (.cells (oidC (N : Int) xs) 27))
  have hsub : ∀ i, i < N → (arcsO N xs).getD i 0 = xs.getD i 0 := fun i hi => by
    unfold arcsO
    rw [List.getD_eq_getElem?_getD, List.getD_eq_getElem?_getD, List.getElem?_take, if_pos (by omega)]
  have HSUB := Lib.hid hsub
  clear hsub hx hu h0
  generalize ha0 : xs.getD 0 0 = a0 at *
  generalize ha1 : xs.getD 1 0 = a1 at *
  have HA0 := Lib.hid ha0
  have HA1 := Lib.hid ha1
  clear ha0 ha1
  have q1 : 40 * a0 % 4294967296 = 40 * a0 := by omega
  have q2 : (a1 + 40 * a0) % 4294967296 = a1 + 40 * a0 := by omega
  have q3 : (1 : Int) ≤ (N : Int) := by omega
  refine callsIn_wide.1 (callsIn_of_wp_marks (n := 3) Tryd.func11 rfl trivial ?_ rfl)
  simp only [Tryd.ntmps11, List.size_toArray, List.length_cons, List.length_nil, Nat.reduceAdd, Nat.reduceSub, Array.replicate_succ, Array.replicate_zero, List.push_toArray, List.append_toArray, List.nil_append, List.cons_append]
  refine wpIn_wide.2 ?_
  go_upto_region 4 with (first
    | ((with_reducible refine gate_dst (N := 10) rfl ?_); refine wpList_load_row rfl 27 _ rfl w.heap.size rfl 27 (oidC (N : Int) xs) (0, 0) _ hB.out Tryd.underlying27 rfl (oid_info _ _ HX.out) ?_)
    | (go_at_call 25; refine (CX.out _).mono ?_; rintro e w1 ⟨rfl, hb⟩; have B1 := Lib.hid (B0.out.trans (hb.mono B0.out.size)); have hB1 := Lib.hid (blk_below hB.out hb); clear hb))
  have B2 : Hid (Below w.heap.size w (w1.alloc (.cells #[.slice none 0 0] 22))) := B1.out.alloc B1.out.size _
  have hO2 := Lib.hid (blk_new w1 (.cells #[.slice none 0 0] 22))
  have hB2 : Hid ((w1.alloc (.cells #[.slice none 0 0] 22)).heap[w.heap.size]? = some (.cells (oidC (N : Int) xs) 27 (0, 0))) := blk_alloc hB1.out _
  have hwlt : w.heap.size ≤ w1.heap.size := B1.out.size
  go_upto_region 6 with (first
    | (go_at_call 27; refine (arcs_of w.heap.size N xs _ (oid_cells hB2.out).1 hN HX.out).mono ?_; rintro e w3 ⟨rfl, hb⟩; have B3 := Lib.hid (B2.out.trans (hb.mono B2.out.size)); have hB3 := Lib.hid (blk_below hB2.out hb); have hO3 := Lib.hid (blk_below hO2.out hb); clear hb; rw [LX.out])
    | (go_at_call 26; refine (clone_len w.heap.size 1 16 (arcsO N xs) N _ LX.out (by omega) (by omega) (oid_src HX.out hB3.out)).mono ?_; rintro e w4 ⟨g, cap, cur, rfl, hg, hcur, hc1, hc2, hc3, hc4, hb⟩; have B4 := Lib.hid (B3.out.trans (hb.mono B3.out.size)); have hB4 := Lib.hid (blk_below hB3.out hb); have hO4 := Lib.hid (blk_below hO3.out hb); clear hb; have hgw : w1.heap.size < g := Nat.lt_of_lt_of_le (blk_lt hO3.out) hg; have hcapI : (N : Int) ≤ (cap : Int) := (by omega)))
  have hcurI : ∀ i, i < N → cur[i]? = some (.int .u32 (xs.getD i 0)) := fun i hi => by
    have e : (cur.toList.take N)[i]? = some (.int .u32 (xs.getD i 0)) := by
      rw [hc4, List.getElem?_map, List.getElem?_eq_getElem (by rw [LX.out]; exact hi), Option.map_some, ← HSUB.out i hi, List.getD_eq_getElem?_getD, List.getElem?_eq_getElem (by rw [LX.out]; exact hi), Option.getD_some]
    rw [List.getElem?_take, if_pos hi] at e
    simpa using e
  have HC := Lib.hid hcurI
  have HCUR := Lib.hid hcur
  have HC2 := Lib.hid hc2
  have cs1 : w4.cell? ⟨g, 1, none⟩ = some (.int .u32 a1) := by rw [blk_cell hcur 1, hcurI 1 (by omega), HA1.out]
  have fs1 : w4.frozen? ⟨g, 1, none⟩ = false := blk_frozen hcur 1
  have ca0 : w4.cell? ⟨w.heap.size, 1, none⟩ = some (.int .u32 a0) := by rw [← HA0.out]; exact (oid_cells hB4.out).2 0 (by rw [HX.out]; omega)
  clear hcurI hcur hc2 hc4 hc3 hg
  obtain ⟨M, hM⟩ : ∃ M, N - 1 = M := ⟨_, rfl⟩
  rw [hM]
  have hM1 : (0 : Int) < (M : Int) := by omega
  have hM0 : (0 : Int) ≤ (M : Int) := by omega
  go_region
  have hcsI : ∀ i, i < M → (cur.setIfInBounds 1 (.int .u32 (a1 + 40 * a0)))[1 + i]? = some (.int .u32 ((subsO N xs).getD i 0)) := fun i hi => by
    by_cases hi0 : i = 0
    · subst hi0
      have := HC.out 1 (by omega)
      have hsz : 1 < cur.size := (Array.getElem?_eq_some_iff.1 this).1
      rw [Nat.add_zero, Array.getElem?_setIfInBounds_self_of_lt hsz]
      unfold subsO
      rw [HA0.out, HA1.out]; rfl
    · rw [Array.getElem?_setIfInBounds_ne (by omega), HC.out (1 + i) (by omega)]
      unfold subsO
      obtain ⟨k, rfl⟩ : ∃ k, i = k + 1 := ⟨i - 1, by omega⟩
      have e2 : ((arcsO N xs).drop 2).getD k 0 = xs.getD (2 + k) 0 := by rw [List.getD_eq_getElem?_getD, List.getElem?_drop, ← List.getD_eq_getElem?_getD, HSUB.out (2 + k) (by omega)]
      rw [List.getD_cons_succ, e2, show 1 + (k + 1) = 2 + k by omega]
  have CSI := Lib.hid hcsI
  have hSL : (subsO N xs).length = M := by
    unfold subsO; rw [List.length_cons, List.length_drop, LX.out]; omega
  have SL := Lib.hid hSL
  have hSb : ∀ i, 0 ≤ (subsO N xs).getD i 0 ∧ (subsO N xs).getD i 0 < 4294967296 := fun i => by
    unfold subsO
    cases i with
    | zero => rw [List.getD_cons_zero, HA0.out, HA1.out]; omega
    | succ k =>
      rw [List.getD_cons_succ]
      refine U32.getD (xs := (arcsO N xs).drop 2) (fun x hx => ?_) k
      exact HU.out x (List.mem_of_mem_take (List.mem_of_mem_drop hx))
  have SB := Lib.hid hSb
  have P0 : Hid (PuS w g (cur.setIfInBounds 1 (.int .u32 (a1 + 40 * a0))) w1.heap.size [] [] (w4.setCell ⟨g, 1, none⟩ (.int .u32 (a1 + 40 * a0))).drew) := by
    have b5 : Below w.heap.size w (w4.setCell ⟨g, 1, none⟩ (.int .u32 (a1 + 40 * a0))) := B4.out.setCell (by show _ ≤ g; omega) _
    exact ⟨⟨_, blk_drew (by rw [Below.heap_setCell _ _ _ _ (by show w1.heap.size ≠ g; omega)]; exact hO4.out), ⟨rfl, .inl ⟨rfl, rfl⟩⟩, trivial⟩, blk_drew (blk_set HCUR.out 1 _), b5.drew, Marks.nil _ _ _⟩
  generalize hcs : cur.setIfInBounds 1 (.int .u32 (a1 + 40 * a0)) = cs at *
  generalize (w4.setCell ⟨g, 1, none⟩ (.int .u32 (a1 + 40 * a0))).drew = W5 at *
  obtain ⟨B, hBd⟩ : ∃ B, B = w1.heap.size := ⟨_, rfl⟩
  rw [← hBd] at P0 ⊢
  have hwB : w.heap.size ≤ B := by omega
  clear hBd
  clear hcsI hSL hSb cs1 fs1 ca0 hcs
  obtain ⟨i0, hi, hz0, hz1, hz2⟩ := info_parts infoB
  go_upto_region 8 with fail
  refine wp_loop (fun a' w' => ∃ (j : Nat) (Ds : List Nat) (u8 u9 u29 u30 u31 u32 u33 u34 u35 u36 u37 u38 u39 u40 : Value), j ≤ M ∧ u29 = .int .i64 (j : Int) ∧ Hid (PuS w g cs B ((subsO N xs).take j |>.flatMap gl) Ds w') ∧
    a' = { tmps := #[oidV (N : Int) xs, .pointer (some ⟨w.heap.size, 0, none⟩), .slice none 0 0, .int .i64 0, .int .i64 0, .pointer (some ⟨B, 0, none⟩), .slice (some ⟨g, 1, none⟩) M (cap - 1), undef, u8, u9, .agg (oidC (N : Int) xs), .int .i64 0, .int .i64 0, .bool false, undef,
      .slice (some ⟨w.heap.size, 1, none⟩) N 16, .slice (some ⟨g, 0, none⟩) N cap, .slice (some ⟨g, 1, none⟩) M (cap - 1), .slice (some ⟨g, 1, none⟩) M (cap - 1), .pointer (some ⟨g, 1, none⟩), .int .u32 a1, .pointer (some ⟨w.heap.size, 1, none⟩), .pointer (some ⟨w.heap.size, 1, none⟩), .int .u32 a0, .int .u32 (40 * a0), .int .u32 (a1 + 40 * a0),
      .pointer (some ⟨g, 1, none⟩), .slice (some ⟨g, 1, none⟩) M (cap - 1), .int .i64 M, u29, u30, u31, u32, u33, u34, u35, u36, u37, u38, u39, u40, undef, undef], defers := Ds.map mkD })
    (fun a' _ => M - (intOf (a'.tmps.getD 29 undef)).toNat) ?_ ?_
  · exact ⟨0, [], _, _, _, _, _, _, _, _, _, _, _, _, _, _, Nat.zero_le _, rfl, P0, rfl⟩
  rintro a' wr ⟨j, Ds, u8, u9, u29, u30, u31, u32, u33, u34, u35, u36, u37, u38, u39, u40, hj, rfl, P, rfl⟩
  by_cases hlt : j < M
  · have hjn : ¬ j = M := by omega
    have cj : wr.cell? ⟨g, 1 + j, none⟩ = some (.int .u32 ((subsO N xs).getD j 0)) := by rw [blk_cell P.out.subs (1 + j), CSI.out j hlt]
    have hsb := SB.out j
    have FT := Lib.hid (flat_take (S := subsO N xs) (j := j) (by rw [SL.out]; exact hlt))
    have hLl : ((subsO N xs).take j |>.flatMap gl).length ≤ 5 * j := Nat.le_trans (flat_len _) (by rw [List.length_take]; omega)
    generalize ((subsO N xs).take j).flatMap gl = L at *
    generalize (subsO N xs).getD j 0 = s at *
    go_wp2_with (go_at_call 28; refine (callsIn_wide.1 (groups_in Fence.wide 2 trivial rfl s _)).mono ?_; rintro e w' ⟨rfl, rfl⟩)
    have bN := Boxed.new wr 24 (.int .u32 s)
    have hlen := gl_len s
    refine (wpIn_wide (n := 3)).1 ?_
    refine wpIn_rangeFunc_ownG rfl (by omega) (gf := 36) (lb := #[.pointer (some ⟨wr.heap.size, 0, none⟩)]) rfl trivial (enters_of Tryd.func36 (by kernel_rfl) rfl)
      (groups_stops Fence.wide (3 - 1) trivial rfl (by omega) wr.heap.size s hsb.1 hsb.2 _ (by simp) bN.cell) keepC_t keepC_b (Below.refl _ _) (fun _ => rfl)
      (PuI w g cs B L wr.heap.size Ds wr.heap.size s) (fun _ _ _ => False)
      (PuI.own w g cs B L wr.heap.size Ds wr.heap.size s _ (by simp) (by have := P.out.b.size; simp; omega))
      (fun _ _ _ _ _ hs _ _ => hs) ?h0
      (fun x => { tmps := #[oidV (N : Int) xs, .pointer (some ⟨w.heap.size, 0, none⟩), .slice none 0 0, .int .i64 0, .int .i64 0, .pointer (some ⟨B, 0, none⟩), .slice (some ⟨g, 1, none⟩) M (cap - 1), undef, .int .u32 s, .int .u8 x, .agg (oidC (N : Int) xs), .int .i64 0, .int .i64 0, .bool false, undef,
        .slice (some ⟨w.heap.size, 1, none⟩) N 16, .slice (some ⟨g, 0, none⟩) N cap, .slice (some ⟨g, 1, none⟩) M (cap - 1), .slice (some ⟨g, 1, none⟩) M (cap - 1), .pointer (some ⟨g, 1, none⟩), .int .u32 a1, .pointer (some ⟨w.heap.size, 1, none⟩), .pointer (some ⟨w.heap.size, 1, none⟩), .int .u32 a0, .int .u32 (40 * a0), .int .u32 (a1 + 40 * a0),
        .pointer (some ⟨g, 1, none⟩), .slice (some ⟨g, 1, none⟩) M (cap - 1), .int .i64 M, .int .i64 (j : Int), .bool true, .pointer (some ⟨g, 1 + j, none⟩), .int .u32 s, .int .u32 s, .func (.func 36) #[] #[.pointer (some ⟨wr.heap.size, 0, none⟩)], .int .u8 x, u36, u37, u38, u39, u40, undef, undef], defers := [] }) ?assign ?body ?done ?stop
    case h0 =>
      obtain ⟨v, hv, hrow, _⟩ := P.out.out
      refine ⟨⟨v, hv.alloc _, ?_, trivial⟩, blk_alloc P.out.subs _, P.out.b.alloc P.out.b.size _, P.out.m.others (KeepsOthers.alloc _ _), bN⟩
      rw [List.append_nil]
      exact hrow.alloc _
    case assign =>
      intro l x W K hK
      gi_wp2
      exact hK
    case body =>
      rintro l pre x W PI hlp
      obtain ⟨v, hv, hrow, _⟩ := PI.out
      have hc := hv.cell
      have PIH := Lib.hid PI
      have hwW : w.heap.size ≤ W.heap.size := PI.b.size
      clear PI
      gi_wp2_with (gi_at_builtin; refine wpListIn_append_own _ rfl _ _ 22 rfl w.heap.size 5 i0 (.int .u8 0) 1 1 Tryd.underlying22 hi hz0 hz1 hz2 rfl (by decide) _ _ _ rfl (hrow.alloc _) ⟨W.heap.size, 0, none⟩ 1 1 [.int .u8 x] rfl rfl (cell_one_new _ _ _) (by simp [Value.oneCell']) (by unfold maxLen; omega) (by omega) (by simp; omega) ?_; intro v' w2 hown' hgrow _; obtain ⟨g', cap', rfl⟩ := ownsRow_succ hown'; obtain ⟨hv1, hk2, hkc, hI2⟩ := PIH.out.step hv hrow hwB hown' hgrow; have hc1 := hv1.cell; have hf1 := hv1.frozen)
      exact ⟨hk2.from _, hkc, hI2⟩
    case done =>
      rintro D ys W hD rfl PI hK
      have PIH := Lib.hid PI
      clear PI
      have hDW : D < W.heap.size := (Array.getElem?_eq_some_iff.1 hK).1
      have hDr : wr.heap.size < D := by simp at hD; omega
      go_wp2
      refine ⟨⟨j + 1, D :: Ds, _, _, _, _, _, _, _, _, _, _, _, _, _, _, by omega, ?_, ?_, rfl⟩, ?_⟩
      · go_num
      · refine ⟨?_, PIH.out.subs, PIH.out.b, PIH.out.m.cons (by omega) hDW (by have := P.out.b.size; omega) hK⟩
        obtain ⟨v, hv, hrow, _⟩ := PIH.out.out
        rw [FT.out]
        refine ⟨v, hv, ?_, trivial⟩
        rw [List.length_append]
        exact hrow
      · simp [intOf]; omega
    case stop =>
      rintro D c pre W _ _ h _
      exact h.elim
  · obtain rfl : j = M := by omega
    obtain ⟨v, hv, hrow, _⟩ := P.out.out
    have hLe : encO N xs = ((subsO N xs).take j).flatMap gl := by unfold encO; rw [List.take_of_length_le (by rw [SL.out]; omega)]
    have hL1 : 1 ≤ (encO N xs).length := by unfold encO subsO; rw [List.flatMap_cons, List.length_append]; have := (gl_len (xs.getD 1 0 + 40 * xs.getD 0 0)).1; omega
    have hL2 : (encO N xs).length ≤ 5 * j := by have := flat_len (subsO N xs); rw [SL.out] at this; exact this
    rw [← hLe] at hrow
    have PM := Lib.hid P.out.m
    have PB := Lib.hid P.out.b
    clear P hLe SL SB CSI
    generalize encO N xs = L at *
    obtain ⟨K, hK⟩ : ∃ K, L.length = K + 1 := ⟨L.length - 1, by omega⟩
    rw [hK] at hrow
    obtain ⟨go, capo, rfl⟩ := ownsRow_succ hrow
    have ho := Lib.hid (octs_row (l := L) hrow)
    have hcap := ho.out.2.1
    have HK := Lib.hid hK
    have hKb : K + 1 ≤ 1000000 := by omega
    clear hrow hK
    have hc := hv.cell
    go_wp2_with (go_at_call 29; refine (clip_any go _ capo hcap hKb _).mono ?_; rintro e w' ⟨rfl, rfl⟩)
    refine leaves_marks (lo := w.heap.size) (hi := w'.heap.size) (fun W' => Octs W' go L ∧ Below w.heap.size w W') ?_ ?_ Ds _ PM.out ⟨ho.out.2.2.2, PB.out⟩
    · rintro W D ⟨h1, h2⟩ hD hK
      exact ⟨fun i hi => cell_kept (h1 i hi) (grownBy_putObj' _ D (.deferred none)) (fun r e => by cases e; exact ⟨_, hK, rfl⟩), h2.trans (belowK_b (w := w) (Nat.le_refl _) _ D _ _ hD hK rfl rfl)⟩
    · rintro W ⟨h1, h2⟩
      exact ⟨_, results_tmp2 rfl _ _ _, go, by rw [HK.out]; rfl, ho.out.1, h1, h2⟩
end Go.Proofs.YtacpcagijfacnaaDoor
