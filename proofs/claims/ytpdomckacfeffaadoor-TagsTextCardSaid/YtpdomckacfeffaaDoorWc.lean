/- Chapter 2 (tags): the contract of Put. -/
import Derived.Test.YtpdomckacfeffaaDoorWb
import Derived.Outline
namespace Go.Proofs.YtpdomckacfeffaaDoor
open Go.RowKit Go.Shelf
open Go.Proofs.YtpdomckacfeffaaDoorW.PrintWords (blk_new blk_below blk_cell blk_alloc blk_lt blk_frozen)
attribute [local go_sem] Oper.semAt_some

theorem free3 {w : World} {g : Nat} {cs : Array Value} {t : TypeId} (h : w.heap[g]? = some (.cells cs t (0, 0))) : w.frozen? ⟨g, 0, none⟩ = false ∧ w.frozen? ⟨g, 1, none⟩ = false ∧ w.frozen? ⟨g, 2, none⟩ = false :=
  ⟨blk_frozen h 0, blk_frozen h 1, blk_frozen h 2⟩
theorem three {w : World} {g : Nat} {a0 a1 a2 : Value} {t : TypeId} (h : w.heap[g]? = some (.cells #[a0, a1, a2] t (0, 0))) :
    w.cell? ⟨g, 0, none⟩ = some a0 ∧ w.cell? ⟨g, 1, none⟩ = some a1 ∧ w.cell? ⟨g, 2, none⟩ = some a2 := ⟨blk_cell h 0, blk_cell h 1, blk_cell h 2⟩
theorem clip_any (g n c : Nat) (hn : n ≤ c) (_hc : n ≤ 1000000) (w : World) : Calls Tryd.prog 27 #[.slice (some ⟨g, 0, none⟩) n c] w fun e w' => e = .returned (.slice (some ⟨g, 0, none⟩) n n) ∧ w' = w := by
  go_enter Tryd.func27, Tryd.ntmps27
  go_wp2
  go_ret
  exact ⟨rfl, rfl⟩
/-- Whole numbers as bytes in a block. -/
def Octs (w : World) (g : Nat) (l : List Int) : Prop := ∀ i, i < l.length → w.cell? ⟨g, i, none⟩ = some (.int .u8 (l.getD i 0))
def PutP (l : List Int) (w : World) (e : Ending) (w' : World) : Prop := ∃ g : Nat, e = .returned (.tuple #[.slice (some ⟨g, 0, none⟩) l.length l.length, .int .i64 0]) ∧ w.heap.size ≤ g ∧ Octs w' g l ∧ Below w.heap.size w w'
theorem cell_kept1 {w w1 : World} {a : Addr} {v : Value} (h : w.cell? a = some v) (hb : Below w.heap.size w w1) : w1.cell? a = some v := by
  have hlt : a.block < w.heap.size := by
    by_cases hlt : a.block < w.heap.size
    · exact hlt
    · unfold World.cell? at h
      rw [Array.getElem?_eq_none (by omega)] at h
      cases h
  rw [← h]; exact hb.cell hlt
set_option maxHeartbeats 4000000 in
theorem put_err (cl : Int) (co : Bool) (nu r : Int) (w : World) (hr : chk cl co nu = r) (hr0 : (r == 0) = false) :
    Calls Tryd.prog 13 #[.agg #[.int .u8 cl, .bool co, .int .u32 nu]] w fun e w' => e = .returned (.tuple #[.slice none 0 0, .int .i64 r]) ∧ Below w.heap.size w w' := by
  have H := check_any cl co nu
  rw [hr] at H
  have H' := Lib.hid H
  clear H hr
  have hr1 : (r != 0) = true := by simp [bne, hr0]
  have B0 := Lib.hid ((Below.refl w.heap.size w).alloc (Nat.le_refl _) (.cells #[.int .u8 cl, .bool co, .int .u32 nu] 27))
  go_enter Tryd.func13, Tryd.ntmps13
  go_wp2_with (go_at_call 21; refine (H'.out _).mono ?_; rintro e w1 ⟨rfl, hb⟩; have B1 := Lib.hid (B0.out.trans (hb.mono (by simp))); clear hb)
  go_ret2
  exact ⟨rfl, B1.out⟩
theorem or_fstn : ∀ (c : Fin 4) (n : Fin 32), bits .or .u8 ((c.val * 64 : Nat) : Int) ((n.val : Nat) : Int) = ((c.val * 64 + n.val : Nat) : Int) ∧ bits .or .u8 ((c.val * 64 + 32 : Nat) : Int) ((n.val : Nat) : Int) = ((c.val * 64 + 32 + n.val : Nat) : Int) := by decide +kernel
theorem or32n : ∀ (c : Fin 4), bits .or .u8 ((c.val * 64 : Nat) : Int) 32 = ((c.val * 64 + 32 : Nat) : Int) := by decide +kernel
theorem or_fst (cl n : Int) (hc0 : 0 ≤ cl) (hc1 : cl ≤ 3) (h0 : 0 ≤ n) (h1 : n < 32) : bits .or .u8 (cl * 64) n = cl * 64 + n ∧ bits .or .u8 (cl * 64 + 32) n = cl * 64 + 32 + n := by
  have := or_fstn ⟨cl.toNat, by omega⟩ ⟨n.toNat, by omega⟩
  simp only [Int.natCast_add, Int.natCast_mul] at this
  rw [show ((cl.toNat : Nat) : Int) = cl by omega, show ((n.toNat : Nat) : Int) = n by omega] at this
  exact this
theorem or32 (cl : Int) (hc0 : 0 ≤ cl) (hc1 : cl ≤ 3) : bits .or .u8 (cl * 64) 32 = cl * 64 + 32 := by
  have := or32n ⟨cl.toNat, by omega⟩
  simp only [Int.natCast_add, Int.natCast_mul] at this
  rw [show ((cl.toNat : Nat) : Int) = cl by omega] at this
  exact this
theorem octs_one {w : World} {g : Nat} {a b : Int} {t : TypeId} (h : w.heap[g]? = some (.cells #[.int .u8 a] t (0, 0))) (e : a = b) : Octs w g [b] := by
  subst e
  intro i hi
  obtain rfl : i = 0 := by simp at hi; omega
  exact blk_cell h 0
set_option maxHeartbeats 4000000 in
theorem put_small (cl : Int) (co : Bool) (nu : Int) (w : World) (hc0 : 0 ≤ cl) (hc1 : cl ≤ 3) (h0 : 0 ≤ nu) (h1 : nu < 31) (hr : chk cl co nu = 0) :
    Calls Tryd.prog 13 #[.agg #[.int .u8 cl, .bool co, .int .u32 nu]] w (PutP (enc cl co nu) w) := by
  have H := check_any cl co nu
  rw [hr] at H
  have H' := Lib.hid H
  clear H hr
  have B0 := Lib.hid ((Below.refl w.heap.size w).alloc (Nat.le_refl _) (.cells #[.int .u8 cl, .bool co, .int .u32 nu] 27))
  have C0 := Lib.hid (blk_new w (.cells #[.int .u8 cl, .bool co, .int .u32 nu] 27))
  have he : enc cl co nu = [fst8 cl co + nu] := by unfold enc; rw [if_pos h1]
  rw [he]
  clear he
  have o1 := or32 cl hc0 hc1
  obtain ⟨o2, o3⟩ := or_fst cl nu hc0 hc1 h0 (by omega)
  cases co
  all_goals
    go_enter Tryd.func13, Tryd.ntmps13
    go_wp2_with (go_at_call 21; refine (H'.out _).mono ?_; rintro e w1 ⟨rfl, hb⟩; have B1 := Lib.hid (B0.out.trans (hb.mono (by simp))); obtain ⟨c0, c1, c2⟩ := three (blk_below C0.out hb); clear hb)
    go_ret2
    exact ⟨_, rfl, B1.out.size, octs_one (blk_new w1 _) (by unfold fst8; simp; omega), B1.out.alloc B1.out.size _⟩
theorem infoB : (Tryd.prog.info? 5).map (fun i => (i.zero, i.size, i.bytes)) = some (some (.int .u8 0), 1, 1) := by kernel_rfl
/-- What stands between two rounds: the box of 'out' holds a slice that owns the first octet and what has come. -/
def PutI (w : World) (B : Nat) (F : Int) (pre : List Int) (W : World) : Prop :=
  (∃ v, Boxed W B 22 v ∧ W.ownsRow w.heap.size 5 1 v (1 + pre.length) (([F] ++ pre).map (Value.int .u8)) ∧ True) ∧ Below w.heap.size w W
theorem PutI.own (w : World) (B C : Nat) (F : Int) (hB : w.heap.size ≤ C) : OwnFrom C (PutI w B F) := by
  unfold PutI
  exact OwnFrom.and (Own.from (holdsRow_own w.heap.size B 22 5 1 (fun pre => 1 + pre.length) (fun pre => ([F] ++ pre).map (Value.int .u8)) (fun _ _ => True)) _) (ownFrom_below (Nat.le_refl _) hB)
theorem octs_row {W : World} {g n c base : Nat} {l : List Int} (h : W.ownsRow base 5 1 (.slice (some ⟨g, 0, none⟩) n c) n (l.map (Value.int .u8))) : base ≤ g ∧ n ≤ c ∧ n = l.length ∧ Octs W g l := by
  obtain ⟨hl, h | ⟨g', cap, cur, hv, hb, hh, hn, _, hs, ht⟩⟩ := h
  · cases h.1
  · injection hv with hp _ hc
    injection hp with hp
    injection hp with hg
    subst hg hc
    have hl' : n = l.length := by simpa using hl.symm
    refine ⟨hb, hn, hl', fun i hi => ?_⟩
    rw [blk_cell hh i]
    have e : (cur.toList.take (n * 1))[i]? = some (.int .u8 (l.getD i 0)) := by
      rw [ht, List.getElem?_map, List.getElem?_eq_getElem hi, List.getD, List.getElem?_eq_getElem hi]; rfl
    rw [List.getElem?_take, if_pos (by omega)] at e
    simpa using e
set_option maxRecDepth 100000 in
set_option maxHeartbeats 4000000 in
theorem put_big_false (cl : Int) (nu : Int) (w : World) (hc0 : 0 ≤ cl) (hc1 : cl ≤ 3) (h0 : 31 ≤ nu) (h1 : nu < 268435456) (hr : chk cl false nu = 0) :
    CallsIn Fence.wide 3 Tryd.prog 13 #[.agg #[.int .u8 cl, .bool false, .int .u32 nu]] w (PutP ((cl * 64 + 31) :: gl nu) w) := by
  have H := check_any cl false nu
  rw [hr] at H
  have H' := Lib.hid H
  clear H hr
  have B0 := Lib.hid ((Below.refl w.heap.size w).alloc (Nat.le_refl _) (.cells #[.int .u8 cl, .bool false, .int .u32 nu] 27))
  have C0 := Lib.hid (blk_new w (.cells #[.int .u8 cl, .bool false, .int .u32 nu] 27))
  obtain ⟨i0, hi, hz0, hz1, hz2⟩ := info_parts infoB
  have o1 := or32 cl hc0 hc1
  obtain ⟨o2, o3⟩ := or_fst cl 31 hc0 hc1 (by omega) (by omega)
  refine callsIn_of_wp_marks Tryd.func13 rfl trivial ?_ rfl
  simp only [Tryd.ntmps13, List.size_toArray, List.length_cons, List.length_nil, Nat.reduceAdd, Nat.reduceSub, Array.replicate_succ, Array.replicate_zero, List.push_toArray, List.append_toArray, List.nil_append, List.cons_append]
  gi_wp2_with (first
    | (refine ⟨trivial, ?_⟩; gi_at_call 21; refine (callsIn_wide.2 (H'.out _)).mono ?_; rintro e w1 ⟨rfl, hb⟩; have B1 := Lib.hid (B0.out.trans (hb.mono (by simp))); obtain ⟨c0, c1, c2⟩ := three (blk_below C0.out hb); have hlt : w.heap.size < w1.heap.size := blk_lt (blk_below C0.out hb); clear hb)
    | (refine ⟨trivial, ?_⟩; gi_at_call 26; refine (groups_in Fence.wide 2 trivial rfl nu _).mono ?_; rintro e w' ⟨rfl, rfl⟩))
  have bO := Boxed.new (w1.alloc (.cells #[.int .u8 (cl * 64 + 31)] 5)) 22 (.slice (some ⟨w1.heap.size, 0, none⟩) 1 1)
  rw [World.size_alloc] at bO
  have bN := Boxed.new ((w1.alloc (.cells #[.int .u8 (cl * 64 + 31)] 5)).alloc (.cells #[.slice (some ⟨w1.heap.size, 0, none⟩) 1 1] 22)) 25 (.int .u32 nu)
  rw [World.size_alloc, World.size_alloc] at bN
  have hB0 : Below w.heap.size w (((w1.alloc (.cells #[.int .u8 (cl * 64 + 31)] 5)).alloc (.cells #[.slice (some ⟨w1.heap.size, 0, none⟩) 1 1] 22)).alloc (.cells #[.int .u32 nu] 25)) := ((B1.out.alloc (by omega) _).alloc (by simp; omega) _).alloc (by simp; omega) _
  have hrow0 : (((w1.alloc (.cells #[.int .u8 (cl * 64 + 31)] 5)).alloc (.cells #[.slice (some ⟨w1.heap.size, 0, none⟩) 1 1] 22)).alloc (.cells #[.int .u32 nu] 25)).ownsRow w.heap.size 5 1 (.slice (some ⟨w1.heap.size, 0, none⟩) 1 1) (1 + ([] : List Int).length) (([(cl * 64 + 31)] ++ []).map (Value.int .u8)) :=
    ⟨rfl, .inr ⟨w1.heap.size, 1, #[.int .u8 (cl * 64 + 31)], rfl, by omega, blk_alloc (blk_alloc (blk_new w1 _) _) _, by simp, by unfold maxLen; omega, rfl, rfl⟩⟩
  have hlen := gl_len nu
  refine wpIn_rangeFunc_ownG rfl (by omega) (gf := 40) (lb := #[.pointer (some ⟨w1.heap.size + 1 + 1, 0, none⟩)]) rfl trivial (enters_of Tryd.func40 (by kernel_rfl) rfl)
    (groups_stops Fence.wide (3 - 1) trivial rfl (by omega) (w1.heap.size + 1 + 1) nu (by omega) h1 _ (by simp) bN.cell) keepC_t keepC_b (Below.refl _ _) (fun _ => rfl)
    (fun pre W => PutI w (w1.heap.size + 1) (cl * 64 + 31) pre W ∧ Boxed W (w1.heap.size + 1 + 1) 25 (.int .u32 nu))
    (fun _ _ _ => False)
    (OwnFrom.and (PutI.own w (w1.heap.size + 1) _ (cl * 64 + 31) (by simp; omega)) (Own.from (boxed_own _ _ _) _))
    (fun _ _ _ _ _ hs _ _ => hs)
    ⟨⟨⟨_, bO.alloc _, hrow0, trivial⟩, hB0⟩, bN⟩
    (fun x => { tmps := #[.agg #[.int .u8 cl, .bool false, .int .u32 nu], .pointer (some ⟨w.heap.size, 0, none⟩), .slice none 0 0, .int .i64 0, .int .i64 0, .int .u8 (cl * 64), .pointer (some ⟨w1.heap.size + 1, 0, none⟩), .int .u8 x, .agg #[.int .u8 cl, .bool false, .int .u32 nu], .int .i64 0, .int .i64 0, .bool false, undef, .pointer (some ⟨w.heap.size, 0, none⟩), .int .u8 cl, .int .u8 (cl * 64), .pointer (some ⟨w.heap.size, 1, none⟩), .bool false, undef, undef, .pointer (some ⟨w.heap.size, 2, none⟩), .int .u32 nu, .bool (decide (nu < 31)), undef, undef, undef, undef, undef, undef, .int .u8 (cl * 64), .int .u8 (cl * 64 + 31), .slice (some ⟨w1.heap.size, 0, none⟩) 1 1, .pointer (some ⟨w.heap.size, 2, none⟩), .int .u32 nu, .func (.func 40) #[] #[.pointer (some ⟨w1.heap.size + 1 + 1, 0, none⟩)], .int .u8 x, undef, undef, undef, undef, undef, undef], defers := [] }) ?assign ?body ?done ?stop
  case assign =>
    intro l x W K hK
    gi_wp2
    exact hK
  case body =>
    rintro l pre x W ⟨⟨⟨v, hv, hrow, _⟩, hB⟩, hN⟩ hlp
    have hc := hv.cell
    gi_wp2_with (gi_at_builtin; refine wpListIn_append_own _ rfl _ _ 22 rfl w.heap.size 5 i0 (.int .u8 0) 1 1 Tryd.underlying22 hi hz0 hz1 hz2 rfl (by decide) _ _ _ rfl (hrow.alloc _) ⟨W.heap.size, 0, none⟩ 1 1 [.int .u8 x] rfl rfl (cell_one_new _ _ _) (by simp [Value.oneCell']) (by unfold maxLen; omega) (by omega) (by have := hB.size; simp; omega) ?_; intro v' w2 hown' hgrow _; obtain ⟨g', cap', rfl⟩ := ownsRow_succ hown'; obtain ⟨hv1, hv2, hr2, hk2, hb2⟩ := hv.appended (by decide) hrow hB.size (by omega) hown' hgrow; have hc1 := hv1.cell; have hf1 := hv1.frozen; have hN1 := ((hN.alloc _).kept hgrow (hN.not_row (by decide) hrow)).other (B' := w1.heap.size + 1) (by omega) (.slice (some ⟨g', 0, none⟩) (1 + pre.length + 1) cap'))
    refine ⟨hk2.from _, fun u hu => ?_, ⟨⟨_, hv2, ?_, trivial⟩, hB.trans hb2⟩, hN1⟩
    · rw [hN.cell] at hu
      rw [← hu]; exact hN1.cell
    · have e : [(cl * 64 + 31)] ++ (pre ++ [x]) = ([(cl * 64 + 31)] ++ pre) ++ [x] := rfl
      rw [e, List.map_append, List.length_append]
      exact hr2
  case done =>
    rintro D ys W hD rfl ⟨⟨⟨v, hv, hrow, _⟩, hB⟩, _⟩ hK
    have hc := hv.cell
    rw [show 1 + (gl nu).length = (gl nu).length + 1 by omega] at hrow
    obtain ⟨g, cap, rfl⟩ := ownsRow_succ hrow
    have ho := Lib.hid (octs_row (l := [(cl * 64 + 31)] ++ gl nu) hrow)
    have hROW := Lib.hid hrow
    clear hrow hc
    have hc := hv.cell
    have hcap := ho.out.2.1
    gi_wp2_with (refine ⟨trivial, ?_⟩; gi_at_call 27; refine (callsIn_wide.2 (clip_any g _ cap hcap (by omega) _)).mono ?_; rintro e w' ⟨rfl, rfl⟩)
    refine ⟨by simp, .inl ⟨_, _, rfl, run_takeDeferred hK, ?_⟩⟩
    exact ⟨_, results_tmp2 rfl _ _ _, g, rfl, ho.out.1, (octs_row (l := [(cl * 64 + 31)] ++ gl nu) (ownsRow_putObj hROW.out (.deferred none) hK rfl)).2.2.2, hB.trans (belowK_b (w := w) (Nat.le_refl _) _ D _ _ (by have := B1.out.size; simp at hD; omega) hK rfl rfl)⟩
  case stop =>
    rintro D c pre W _ _ h _
    exact h.elim
set_option maxRecDepth 100000 in
set_option maxHeartbeats 4000000 in
theorem put_big_true (cl : Int) (nu : Int) (w : World) (hc0 : 0 ≤ cl) (hc1 : cl ≤ 3) (h0 : 31 ≤ nu) (h1 : nu < 268435456) (hr : chk cl true nu = 0) :
    CallsIn Fence.wide 3 Tryd.prog 13 #[.agg #[.int .u8 cl, .bool true, .int .u32 nu]] w (PutP ((cl * 64 + 32 + 31) :: gl nu) w) := by
  have H := check_any cl true nu
  rw [hr] at H
  have H' := Lib.hid H
  clear H hr
  have B0 := Lib.hid ((Below.refl w.heap.size w).alloc (Nat.le_refl _) (.cells #[.int .u8 cl, .bool true, .int .u32 nu] 27))
  have C0 := Lib.hid (blk_new w (.cells #[.int .u8 cl, .bool true, .int .u32 nu] 27))
  obtain ⟨i0, hi, hz0, hz1, hz2⟩ := info_parts infoB
  have o1 := or32 cl hc0 hc1
  obtain ⟨o2, o3⟩ := or_fst cl 31 hc0 hc1 (by omega) (by omega)
  refine callsIn_of_wp_marks Tryd.func13 rfl trivial ?_ rfl
  simp only [Tryd.ntmps13, List.size_toArray, List.length_cons, List.length_nil, Nat.reduceAdd, Nat.reduceSub, Array.replicate_succ, Array.replicate_zero, List.push_toArray, List.append_toArray, List.nil_append, List.cons_append]
  gi_wp2_with (first
    | (refine ⟨trivial, ?_⟩; gi_at_call 21; refine (callsIn_wide.2 (H'.out _)).mono ?_; rintro e w1 ⟨rfl, hb⟩; have B1 := Lib.hid (B0.out.trans (hb.mono (by simp))); obtain ⟨c0, c1, c2⟩ := three (blk_below C0.out hb); have hlt : w.heap.size < w1.heap.size := blk_lt (blk_below C0.out hb); clear hb)
    | (refine ⟨trivial, ?_⟩; gi_at_call 26; refine (groups_in Fence.wide 2 trivial rfl nu _).mono ?_; rintro e w' ⟨rfl, rfl⟩))
  have bO := Boxed.new (w1.alloc (.cells #[.int .u8 (cl * 64 + 32 + 31)] 5)) 22 (.slice (some ⟨w1.heap.size, 0, none⟩) 1 1)
  rw [World.size_alloc] at bO
  have bN := Boxed.new ((w1.alloc (.cells #[.int .u8 (cl * 64 + 32 + 31)] 5)).alloc (.cells #[.slice (some ⟨w1.heap.size, 0, none⟩) 1 1] 22)) 25 (.int .u32 nu)
  rw [World.size_alloc, World.size_alloc] at bN
  have hB0 : Below w.heap.size w (((w1.alloc (.cells #[.int .u8 (cl * 64 + 32 + 31)] 5)).alloc (.cells #[.slice (some ⟨w1.heap.size, 0, none⟩) 1 1] 22)).alloc (.cells #[.int .u32 nu] 25)) := ((B1.out.alloc (by omega) _).alloc (by simp; omega) _).alloc (by simp; omega) _
  have hrow0 : (((w1.alloc (.cells #[.int .u8 (cl * 64 + 32 + 31)] 5)).alloc (.cells #[.slice (some ⟨w1.heap.size, 0, none⟩) 1 1] 22)).alloc (.cells #[.int .u32 nu] 25)).ownsRow w.heap.size 5 1 (.slice (some ⟨w1.heap.size, 0, none⟩) 1 1) (1 + ([] : List Int).length) (([(cl * 64 + 32 + 31)] ++ []).map (Value.int .u8)) :=
    ⟨rfl, .inr ⟨w1.heap.size, 1, #[.int .u8 (cl * 64 + 32 + 31)], rfl, by omega, blk_alloc (blk_alloc (blk_new w1 _) _) _, by simp, by unfold maxLen; omega, rfl, rfl⟩⟩
  have hlen := gl_len nu
  refine wpIn_rangeFunc_ownG rfl (by omega) (gf := 40) (lb := #[.pointer (some ⟨w1.heap.size + 1 + 1, 0, none⟩)]) rfl trivial (enters_of Tryd.func40 (by kernel_rfl) rfl)
    (groups_stops Fence.wide (3 - 1) trivial rfl (by omega) (w1.heap.size + 1 + 1) nu (by omega) h1 _ (by simp) bN.cell) keepC_t keepC_b (Below.refl _ _) (fun _ => rfl)
    (fun pre W => PutI w (w1.heap.size + 1) (cl * 64 + 32 + 31) pre W ∧ Boxed W (w1.heap.size + 1 + 1) 25 (.int .u32 nu))
    (fun _ _ _ => False)
    (OwnFrom.and (PutI.own w (w1.heap.size + 1) _ (cl * 64 + 32 + 31) (by simp; omega)) (Own.from (boxed_own _ _ _) _))
    (fun _ _ _ _ _ hs _ _ => hs)
    ⟨⟨⟨_, bO.alloc _, hrow0, trivial⟩, hB0⟩, bN⟩
    (fun x => { tmps := #[.agg #[.int .u8 cl, .bool true, .int .u32 nu], .pointer (some ⟨w.heap.size, 0, none⟩), .slice none 0 0, .int .i64 0, .int .i64 0, .int .u8 (cl * 64 + 32), .pointer (some ⟨w1.heap.size + 1, 0, none⟩), .int .u8 x, .agg #[.int .u8 cl, .bool true, .int .u32 nu], .int .i64 0, .int .i64 0, .bool false, undef, .pointer (some ⟨w.heap.size, 0, none⟩), .int .u8 cl, .int .u8 (cl * 64), .pointer (some ⟨w.heap.size, 1, none⟩), .bool true, .int .u8 (cl * 64), .int .u8 (cl * 64 + 32), .pointer (some ⟨w.heap.size, 2, none⟩), .int .u32 nu, .bool (decide (nu < 31)), undef, undef, undef, undef, undef, undef, .int .u8 (cl * 64 + 32), .int .u8 (cl * 64 + 32 + 31), .slice (some ⟨w1.heap.size, 0, none⟩) 1 1, .pointer (some ⟨w.heap.size, 2, none⟩), .int .u32 nu, .func (.func 40) #[] #[.pointer (some ⟨w1.heap.size + 1 + 1, 0, none⟩)], .int .u8 x, undef, undef, undef, undef, undef, undef], defers := [] }) ?assign ?body ?done ?stop
  case assign =>
    intro l x W K hK
    gi_wp2
    exact hK
  case body =>
    rintro l pre x W ⟨⟨⟨v, hv, hrow, _⟩, hB⟩, hN⟩ hlp
    have hc := hv.cell
    gi_wp2_with (gi_at_builtin; refine wpListIn_append_own _ rfl _ _ 22 rfl w.heap.size 5 i0 (.int .u8 0) 1 1 Tryd.underlying22 hi hz0 hz1 hz2 rfl (by decide) _ _ _ rfl (hrow.alloc _) ⟨W.heap.size, 0, none⟩ 1 1 [.int .u8 x] rfl rfl (cell_one_new _ _ _) (by simp [Value.oneCell']) (by unfold maxLen; omega) (by omega) (by have := hB.size; simp; omega) ?_; intro v' w2 hown' hgrow _; obtain ⟨g', cap', rfl⟩ := ownsRow_succ hown'; obtain ⟨hv1, hv2, hr2, hk2, hb2⟩ := hv.appended (by decide) hrow hB.size (by omega) hown' hgrow; have hc1 := hv1.cell; have hf1 := hv1.frozen; have hN1 := ((hN.alloc _).kept hgrow (hN.not_row (by decide) hrow)).other (B' := w1.heap.size + 1) (by omega) (.slice (some ⟨g', 0, none⟩) (1 + pre.length + 1) cap'))
    refine ⟨hk2.from _, fun u hu => ?_, ⟨⟨_, hv2, ?_, trivial⟩, hB.trans hb2⟩, hN1⟩
    · rw [hN.cell] at hu
      rw [← hu]; exact hN1.cell
    · have e : [(cl * 64 + 32 + 31)] ++ (pre ++ [x]) = ([(cl * 64 + 32 + 31)] ++ pre) ++ [x] := rfl
      rw [e, List.map_append, List.length_append]
      exact hr2
  case done =>
    rintro D ys W hD rfl ⟨⟨⟨v, hv, hrow, _⟩, hB⟩, _⟩ hK
    have hc := hv.cell
    rw [show 1 + (gl nu).length = (gl nu).length + 1 by omega] at hrow
    obtain ⟨g, cap, rfl⟩ := ownsRow_succ hrow
    have ho := Lib.hid (octs_row (l := [(cl * 64 + 32 + 31)] ++ gl nu) hrow)
    have hROW := Lib.hid hrow
    clear hrow hc
    have hc := hv.cell
    have hcap := ho.out.2.1
    gi_wp2_with (refine ⟨trivial, ?_⟩; gi_at_call 27; refine (callsIn_wide.2 (clip_any g _ cap hcap (by omega) _)).mono ?_; rintro e w' ⟨rfl, rfl⟩)
    refine ⟨by simp, .inl ⟨_, _, rfl, run_takeDeferred hK, ?_⟩⟩
    exact ⟨_, results_tmp2 rfl _ _ _, g, rfl, ho.out.1, (octs_row (l := [(cl * 64 + 32 + 31)] ++ gl nu) (ownsRow_putObj hROW.out (.deferred none) hK rfl)).2.2.2, hB.trans (belowK_b (w := w) (Nat.le_refl _) _ D _ _ (by have := B1.out.size; simp at hD; omega) hK rfl rfl)⟩
  case stop =>
    rintro D c pre W _ _ h _
    exact h.elim
/-- PUT: of a valid tag, its identifier octets, without spare capacity. -/
theorem put_ok (cl : Int) (co : Bool) (nu : Int) (w : World) (hc0 : 0 ≤ cl) (hc1 : cl ≤ 3) (h0 : 0 ≤ nu) (h1 : nu < 268435456) (hr : chk cl co nu = 0) :
    Calls Tryd.prog 13 #[.agg #[.int .u8 cl, .bool co, .int .u32 nu]] w (PutP (enc cl co nu) w) := by
  by_cases h : nu < 31
  · exact put_small cl co nu w hc0 hc1 h0 h hr
  · have he : enc cl co nu = (fst8 cl co + 31) :: gl nu := by unfold enc; rw [if_neg h]
    rw [he]
    cases co
    · rw [show fst8 cl false = cl * 64 by unfold fst8; simp; omega]
      exact callsIn_wide.1 (put_big_false cl nu w hc0 hc1 (by omega) h1 hr)
    · rw [show fst8 cl true = cl * 64 + 32 by unfold fst8; simp; omega]
      exact callsIn_wide.1 (put_big_true cl nu w hc0 hc1 (by omega) h1 hr)
end Go.Proofs.YtpdomckacfeffaaDoor
