/- Chapter 10 (times): the contracts of Compare and of what it calls. -/
import Derived.Test.YtbncjjobdipmgaaDoorXo
import Derived.Test.YtbncjjobdipmgaaDoorLbA
import Derived.Test.YtbncjjobdipmgaaDoorXf
namespace Go.Proofs.YtbncjjobdipmgaaDoor
open Go.RowKit Pl

theorem cmp_lo (a b : Int) (w : World) (h : a < b) : Calls Tryd.prog 44 #[.int .i64 a, .int .i64 b] w fun e w' => e = .returned (.int .i64 (-1)) ∧ w' = w := by
  have g : decide (a < b) = true := by simpa using h
  go_enter Tryd.func44, Tryd.ntmps44
  go_wp2
  go_ret
  exact ⟨rfl, rfl⟩
theorem cmp_eq (a : Int) (w : World) : Calls Tryd.prog 44 #[.int .i64 a, .int .i64 a] w fun e w' => e = .returned (.int .i64 0) ∧ w' = w := by
  go_enter Tryd.func44, Tryd.ntmps44
  go_wp2
  go_ret
  exact ⟨rfl, rfl⟩
theorem cmp_hi (a b : Int) (w : World) (h : b < a) : Calls Tryd.prog 44 #[.int .i64 a, .int .i64 b] w fun e w' => e = .returned (.int .i64 1) ∧ w' = w := by
  have g : decide (a < b) = false := by simp; omega
  have g' : decide (b < a) = true := by simpa using h
  go_enter Tryd.func44, Tryd.ntmps44
  go_wp2
  go_ret
  exact ⟨rfl, rfl⟩

set_option maxHeartbeats 2000000 in
theorem fields_any (y mo d h mi s : Int) (w : World) (_hT : Tabs w) : Calls Tryd.prog 40 #[.agg #[.int .i64 y, .int .i64 mo, .int .i64 d, .int .i64 h, .int .i64 mi, .int .i64 s]] w fun e w' => ∃ g : Nat, e = .returned (.slice (some ⟨g, 0, none⟩) 6 6) ∧ (∃ t, w'.heap[g]? = some (.cells #[.int .i64 y, .int .i64 mo, .int .i64 d, .int .i64 h, .int .i64 mi, .int .i64 s] t (0, 0))) ∧ Below w.heap.size w w' := by
  go_enter Tryd.func40, Tryd.ntmps40
  go_wp2
  go_ret
  refine ⟨_, rfl, ⟨3, ?_⟩, ((Below.refl _ _).alloc (Nat.le_refl _) _).alloc (by simp) _⟩
  have := blk_new (w.alloc (.cells #[.int .i64 y, .int .i64 mo, .int .i64 d, .int .i64 h, .int .i64 mi, .int .i64 s] 23)) (.cells #[.int .i64 y, .int .i64 mo, .int .i64 d, .int .i64 h, .int .i64 mi, .int .i64 s] 3)
  simpa using this

theorem drop_at {A : List Int} {k : Nat} (h : k < A.length) : A.drop k = A.getD k 0 :: A.drop (k + 1) := by
  rw [List.drop_eq_getElem_cons h]
  congr 1
  simp [List.getD, List.getElem?_eq_getElem h]
theorem cmpL_cons (a b : Int) (r s : List Int) : cmpL (a :: r) (b :: s) = if a < b then -1 else if b < a then 1 else cmpL r s := rfl
set_option maxHeartbeats 4000000 in
/-- slices.Compare of two slices of six numbers. -/
theorem slice_cmp (A B : List Int) (hA6 : A.length = 6) (hB6 : B.length = 6) (g k : Nat) (w : World)
    (hA : ∀ i, i < 6 → w.cell? ⟨g, i, none⟩ = some (.int .i64 (A.getD i 0))) (hB : ∀ i, i < 6 → w.cell? ⟨k, i, none⟩ = some (.int .i64 (B.getD i 0))) :
    Calls Tryd.prog 39 #[.slice (some ⟨g, 0, none⟩) 6 6, .slice (some ⟨k, 0, none⟩) 6 6] w fun e w' => e = .returned (.int .i64 (cmpL A B)) ∧ w' = w := by
  have HA := Lib.hid hA
  have HB := Lib.hid hB
  have H6A := Lib.hid hA6
  have H6B := Lib.hid hB6
  clear hA hB hA6 hB6
  go_enter Tryd.func39, Tryd.ntmps39
  go_wp2
  go_loop [11] (fun i => ∃ j : Nat, j ≤ 6 ∧ i = .int .i64 j ∧ Hid (cmpL (A.drop j) (B.drop j) = cmpL A B)) (fun i => 6 - (intOf i).toNat)
  case atStart => exact ⟨0, Nat.zero_le _, rfl, Lib.hid rfl⟩
  case round =>
    obtain ⟨j, hj, rfl, hc⟩ := hrel
    by_cases hlt : j < 6
    · have ca := HA.out j hlt
      have cb := HB.out j hlt
      have hd := hc.out
      rw [drop_at (show j < A.length by rw [H6A.out]; exact hlt), drop_at (show j < B.length by rw [H6B.out]; exact hlt), cmpL_cons] at hd
      generalize A.getD j 0 = a at *
      generalize B.getD j 0 = b at *
      rcases Int.lt_trichotomy a b with h | h | h
      · rw [if_pos h] at hd
        have HD := Lib.hid hd
        clear hd hc
        go_wp2_with (go_at_call 44; refine (cmp_lo a b _ h).mono ?_; rintro e w' ⟨rfl, rfl⟩)
        go_ret
        exact ⟨congrArg (fun z => Ending.returned (.int .i64 z)) HD.out, rfl⟩
      · subst h
        rw [if_neg (by omega), if_neg (by omega)] at hd
        have HD := Lib.hid hd
        clear hd hc
        go_wp2_with (go_at_call 44; refine (cmp_eq a _).mono ?_; rintro e w' ⟨rfl, rfl⟩)
        go_round
        case rel => exact ⟨j + 1, by omega, by go_num, HD⟩
        case measure => simp [intOf]; omega
      · rw [if_neg (by omega), if_pos h] at hd
        have HD := Lib.hid hd
        clear hd hc
        go_wp2_with (go_at_call 44; refine (cmp_hi a b _ h).mono ?_; rintro e w' ⟨rfl, rfl⟩)
        go_ret
        exact ⟨congrArg (fun z => Ending.returned (.int .i64 z)) HD.out, rfl⟩
    · obtain rfl : j = 6 := by omega
      have hd := hc.out
      rw [List.drop_of_length_le (by rw [H6A.out]; omega), List.drop_of_length_le (by rw [H6B.out]; omega)] at hd
      have HD := Lib.hid hd
      clear hd hc
      go_wp2
      go_ret
      exact ⟨congrArg (fun z => Ending.returned (.int .i64 z)) HD.out, rfl⟩

theorem six_at {w : World} {g : Nat} {a0 a1 a2 a3 a4 a5 : Int} {t : TypeId} (h : w.heap[g]? = some (.cells #[.int .i64 a0, .int .i64 a1, .int .i64 a2, .int .i64 a3, .int .i64 a4, .int .i64 a5] t (0, 0))) (i : Nat) (hi : i < 6) :
    w.cell? ⟨g, i, none⟩ = some (.int .i64 ([a0, a1, a2, a3, a4, a5].getD i 0)) := by
  rw [blk_cell h i]
  match i, hi with
  | 0, _ => rfl
  | 1, _ => rfl
  | 2, _ => rfl
  | 3, _ => rfl
  | 4, _ => rfl
  | 5, _ => rfl
/-- The two boxed times in a world that has grown out of w. -/
def Box2 (ca cb : Array Value) (w W : World) : Prop := St w W ∧ W.heap[w.heap.size]? = some (.cells ca 23 (0, 0)) ∧ W.heap[w.heap.size + 1]? = some (.cells cb 23 (0, 0))
theorem Box2.t {ca cb : Array Value} {w W : World} (h : Box2 ca cb w W) : Tabs W := h.1.t
theorem Box2.b {ca cb : Array Value} {w W : World} (h : Box2 ca cb w W) : Below w.heap.size w W := h.1.b
theorem Box2.next {ca cb : Array Value} {w W W' : World} (h : Box2 ca cb w W) (hb : Below W.heap.size W W') : Box2 ca cb w W' := ⟨h.1.next hb, blk_below h.2.1 hb, blk_below h.2.2 hb⟩
theorem Box2.drew {ca cb : Array Value} {w W : World} (h : Box2 ca cb w W) : Box2 ca cb w W.drew := ⟨h.1.drew, h.2.1, h.2.2⟩
/-- Six numbers in a block. -/
def Six (A : List Int) (g : Nat) (W : World) : Prop := g < W.heap.size ∧ ∀ i, i < 6 → W.cell? ⟨g, i, none⟩ = some (.int .i64 (A.getD i 0))
theorem Six.next {A : List Int} {g : Nat} {W W' : World} (h : Six A g W) (hb : Below W.heap.size W W') : Six A g W' := ⟨Nat.lt_of_lt_of_le h.1 hb.size, fun i hi => by rw [← h.2 i hi]; exact hb.cell (p := ⟨g, i, none⟩) h.1⟩
theorem fields_six (A : List Int) (a0 a1 a2 a3 a4 a5 : Int) (hA : A = [a0, a1, a2, a3, a4, a5]) (w : World) (hT : Tabs w) : Calls Tryd.prog 40 #[.agg #[.int .i64 a0, .int .i64 a1, .int .i64 a2, .int .i64 a3, .int .i64 a4, .int .i64 a5]] w fun e w' => ∃ g : Nat, e = .returned (.slice (some ⟨g, 0, none⟩) 6 6) ∧ Six A g w' ∧ Below w.heap.size w w' := by
  subst hA
  refine (fields_any a0 a1 a2 a3 a4 a5 w hT).mono ?_
  rintro e w' ⟨g, rfl, ⟨t, hg⟩, hb⟩
  exact ⟨g, rfl, ⟨blk_lt hg, six_at hg⟩, hb⟩
set_option maxHeartbeats 8000000 in
set_option maxRecDepth 100000 in
/-- Compare of two times is the order of their fields. -/
theorem compare_gen (A B : List Int) (a0 a1 a2 a3 a4 a5 b0 b1 b2 b3 b4 b5 : Int) (hA : Hid (A = [a0, a1, a2, a3, a4, a5])) (hB : Hid (B = [b0, b1, b2, b3, b4, b5])) (w : World) (hT : Tabs w) :
    Calls Tryd.prog 31 #[.agg #[.int .i64 a0, .int .i64 a1, .int .i64 a2, .int .i64 a3, .int .i64 a4, .int .i64 a5], .agg #[.int .i64 b0, .int .i64 b1, .int .i64 b2, .int .i64 b3, .int .i64 b4, .int .i64 b5]] w
      fun e w' => e = .returned (.int .i64 (cmpL A B)) ∧ Below w.heap.size w w' := by
  have HX : Box2 #[.int .i64 a0, .int .i64 a1, .int .i64 a2, .int .i64 a3, .int .i64 a4, .int .i64 a5] #[.int .i64 b0, .int .i64 b1, .int .i64 b2, .int .i64 b3, .int .i64 b4, .int .i64 b5] w (((w.alloc (.cells #[.int .i64 a0, .int .i64 a1, .int .i64 a2, .int .i64 a3, .int .i64 a4, .int .i64 a5] 23)).alloc (.cells #[.int .i64 b0, .int .i64 b1, .int .i64 b2, .int .i64 b3, .int .i64 b4, .int .i64 b5] 23)).drew) := Box2.drew (tof_start0 w hT _ _)
  go_enter Tryd.func31, Tryd.ntmps31
  go_wp2
  go_region_with (first
    | (go_at_call_of 40 a0; refine (fields_six A a0 a1 a2 a3 a4 a5 hA.out _ (Box2.t (by assumption))).mono ?_; rintro e w' ⟨g, rfl, hg, hb⟩; have hx := Box2.next (by assumption) hb; (try have hs := Six.next (by assumption) hb); obtain ⟨x0, x1, x2, x3, x4, x5⟩ := six hx.2.1; obtain ⟨y0, y1, y2, y3, y4, y5⟩ := six hx.2.2; clear hb)
    | (go_at_call_of 40 b0; refine (fields_six B b0 b1 b2 b3 b4 b5 hB.out _ (Box2.t (by assumption))).mono ?_; rintro e w' ⟨g, rfl, hg, hb⟩; have hx := Box2.next (by assumption) hb; (try have hs := Six.next (by assumption) hb); obtain ⟨x0, x1, x2, x3, x4, x5⟩ := six hx.2.1; obtain ⟨y0, y1, y2, y3, y4, y5⟩ := six hx.2.2; clear hb)
    | (go_at_call 39; refine (slice_cmp A B (by rw [hA.out]; rfl) (by rw [hB.out]; rfl) _ _ _ (And.right (by assumption)) (And.right (by assumption))).mono ?_; rintro e w' ⟨rfl, rfl⟩))
  all_goals
    refine ‹∀ (a : Act) (w : World), Code.wp Tryd.prog Code.ret _ a w → _› _ _ ?_
    go_wp2
    go_ret
    exact ⟨rfl, Box2.b (by assumption)⟩
end Go.Proofs.YtbncjjobdipmgaaDoor
