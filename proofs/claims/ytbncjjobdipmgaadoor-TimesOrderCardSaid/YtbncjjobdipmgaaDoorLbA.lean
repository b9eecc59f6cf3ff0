/- Chapter 10 (times): the walk of the law TimesSeconds: it answers true. -/
import Derived.Test.YtbncjjobdipmgaaDoorXa
import Derived.Test.YtbncjjobdipmgaaDoorLaA
namespace Go.Proofs.YtbncjjobdipmgaaDoor
open Go.RowKit Pl

def tv (y mo d h mi s : Int) : Value := .agg #[.int .i64 y, .int .i64 mo, .int .i64 d, .int .i64 h, .int .i64 mi, .int .i64 s]
/-- The law's Of: the time that plain data stand for. -/
theorem tof_any (Y M D H Mi S : Int) (b0 : 0 ≤ Y) (b1 : Y < 65536) (b2 : 0 ≤ M) (b3 : M < 256) (b4 : 0 ≤ D) (b5 : D < 256) (b6 : 0 ≤ H) (b7 : H < 256) (b8 : 0 ≤ Mi) (b9 : Mi < 256) (b10 : 0 ≤ S) (b11 : S < 256) (w : World) (hT : Tabs w) :
    Calls Tryd.prog 20 #[.agg #[.int .u16 Y, .int .u8 M, .int .u8 D, .int .u8 H, .int .u8 Mi, .int .u8 S]] w fun e w' => e = .returned (tOf Y M D H Mi S).val ∧ Below w.heap.size w w' := by
  have h0 := dim_pos (Y % 10000) (1 + M % 12) (by omega) (by omega)
  have h1 := (dim_le (Y % 10000) (1 + M % 12)).2
  exact tof_gen Y M D H Mi S (dim (Y % 10000) (1 + M % 12)) w hT b0 b1 b2 b3 b4 b5 b6 b7 b8 b9 b10 b11 h0 h1 (by simp; omega) (fun W => refDays_same _ _ W)
/-- The reference's Seconds of a valid time. -/
theorem refSecs_ok (t : Tm) (ht : t.ok = true) (w : World) : Calls Tryd.prog 29 #[t.val] w fun e w' => e = .returned (.int .i64 t.secs) ∧ Below w.heap.size w w' := by
  obtain ⟨y, mo, d, h, mi, s⟩ := t
  have ht : okB y mo d h mi s = true := ht
  obtain ⟨c0, c1, c2, c3, c4, _, c5, c6, c7, c8, c9, c10, c11⟩ := okB_bounds ht
  obtain ⟨N, rfl⟩ : ∃ N : Nat, y = (N : Int) := ⟨y.toNat, by omega⟩
  obtain ⟨M, rfl⟩ : ∃ M : Nat, mo = (M : Int) + 1 := ⟨(mo - 1).toNat, by omega⟩
  have := refSecs_gen (N : Int) d h mi s M N w rfl (by omega) (by omega) c4 c5 c6 c7 c8 c9 c10 c11
  have e : secs (N : Int) ((M : Int) + 1) d h mi s = ((24 * (dby N + cumd N M + d - 1) + h) * 60 + mi) * 60 + s := by
    unfold secs
    rw [show ((M : Int) + 1 - 1).toNat = M by omega]
    omega
  show Calls Tryd.prog 29 #[.agg _] w fun e w' => e = .returned (.int .i64 (secs (N : Int) ((M : Int) + 1) d h mi s)) ∧ _
  rw [e]
  exact this

set_option maxHeartbeats 8000000 in
set_option maxRecDepth 100000 in
theorem secs_walk_lo (Y M D H Mi S y mo d h mi s k n : Int) (w : World) (hT : Tabs w)
    (H20 : Hid (∀ w, Tabs w → Calls Tryd.prog 20 #[.agg #[.int .u16 Y, .int .u8 M, .int .u8 D, .int .u8 H, .int .u8 Mi, .int .u8 S]] w fun e w' => e = .returned (.agg #[.int .i64 y, .int .i64 mo, .int .i64 d, .int .i64 h, .int .i64 mi, .int .i64 s]) ∧ Below w.heap.size w w'))
    (H29 : Hid (∀ w, Calls Tryd.prog 29 #[.agg #[.int .i64 y, .int .i64 mo, .int .i64 d, .int .i64 h, .int .i64 mi, .int .i64 s]] w fun e w' => e = .returned (.int .i64 k) ∧ Below w.heap.size w w'))
    (H30 : Hid (∀ w, Tabs w → Calls Tryd.prog 30 #[.int .i64 k] w fun e w' => e = .returned (.tuple #[.agg #[.int .i64 y, .int .i64 mo, .int .i64 d, .int .i64 h, .int .i64 mi, .int .i64 s], .int .i64 0]) ∧ Below w.heap.size w w'))
    (H18 : Hid (∀ w, Tabs w → Calls Tryd.prog 18 #[.agg #[.int .i64 y, .int .i64 mo, .int .i64 d, .int .i64 h, .int .i64 mi, .int .i64 s]] w fun e w' => e = .returned (.int .i64 k) ∧ Below w.heap.size w w'))
    (H30n : Hid (∀ w, Tabs w → Calls Tryd.prog 30 #[.int .i64 n] w fun e w' => e = .returned (.tuple #[.agg #[.int .i64 0, .int .i64 0, .int .i64 0, .int .i64 0, .int .i64 0, .int .i64 0], .int .i64 1]) ∧ Below w.heap.size w w'))
    (g : decide (n < 0) = true) :
    Calls Tryd.prog 7 #[.agg #[.int .u16 Y, .int .u8 M, .int .u8 D, .int .u8 H, .int .u8 Mi, .int .u8 S], .int .i64 n] w fun e w' => e = .returned (.bool true) ∧ Below w.heap.size w w' := by
  have S0 := Lib.hid ((St.refl hT).alloc (.cells #[.int .u16 Y, .int .u8 M, .int .u8 D, .int .u8 H, .int .u8 Mi, .int .u8 S] 44))
  go_enter Tryd.func7, Tryd.ntmps7
  go_wp2_with (first
    | (go_at_call 20; refine (H20.out _ S0.out.t).mono ?_; rintro e w1 ⟨rfl, hb⟩; have S1 := Lib.hid ((S0.out.next hb).alloc (.cells #[.int .i64 y, .int .i64 mo, .int .i64 d, .int .i64 h, .int .i64 mi, .int .i64 s] 23)); have B1 := Lib.hid (blk_new w1 (.cells #[.int .i64 y, .int .i64 mo, .int .i64 d, .int .i64 h, .int .i64 mi, .int .i64 s] 23)); clear hb)
    | (go_at_call_of 29 y; refine (H29.out _).mono ?_; rintro e w2 ⟨rfl, hb⟩; have S2 := Lib.hid (S1.out.next hb); have hB := blk_below B1.out hb; have B2 := Lib.hid hB; obtain ⟨c0, c1, c2, c3, c4, c5⟩ := six hB; clear hb hB)
    | (go_at_call_of 30 k; refine (H30.out _ S2.out.t).mono ?_; rintro e w3 ⟨rfl, hb⟩; have S3 := Lib.hid ((S2.out.next hb).alloc (.cells #[.int .i64 y, .int .i64 mo, .int .i64 d, .int .i64 h, .int .i64 mi, .int .i64 s] 23)); have hB := blk_alloc (blk_below B2.out hb) (.cells #[.int .i64 y, .int .i64 mo, .int .i64 d, .int .i64 h, .int .i64 mi, .int .i64 s] 23); have B3 := Lib.hid hB; obtain ⟨c0, c1, c2, c3, c4, c5⟩ := six hB; have U3 := Lib.hid (blk_new w3 (.cells #[.int .i64 y, .int .i64 mo, .int .i64 d, .int .i64 h, .int .i64 mi, .int .i64 s] 23)); clear hb hB)
    | (go_at_call 18; refine (H18.out _ S3.out.t).mono ?_; rintro e w4 ⟨rfl, hb⟩; have S4 := Lib.hid (S3.out.next hb); have hB := blk_below B3.out hb; obtain ⟨c0, c1, c2, c3, c4, c5⟩ := six hB; have hU := blk_below U3.out hb; obtain ⟨u0, u1, u2, u3, u4, u5⟩ := six hU; clear hb hB hU)
    | (go_at_call_of 30 n; refine (H30n.out _ S4.out.t).mono ?_; rintro e w5 ⟨rfl, hb⟩; have S5 := Lib.hid ((S4.out.next hb).alloc (.cells #[.int .i64 0, .int .i64 0, .int .i64 0, .int .i64 0, .int .i64 0, .int .i64 0] 23)); have V5 := Lib.hid (blk_new w5 (.cells #[.int .i64 0, .int .i64 0, .int .i64 0, .int .i64 0, .int .i64 0, .int .i64 0] 23)); clear hb)
    | (go_at_call 16; refine (lives_yes _ S5.out.t).mono ?_; rintro e w6 ⟨rfl, hb⟩; have S6 := Lib.hid (S5.out.next hb); clear hb))
  go_ret
  exact ⟨rfl, S6.out.b⟩

set_option maxHeartbeats 8000000 in
set_option maxRecDepth 100000 in
theorem secs_walk_hi (Y M D H Mi S y mo d h mi s k n : Int) (w : World) (hT : Tabs w)
    (H20 : Hid (∀ w, Tabs w → Calls Tryd.prog 20 #[.agg #[.int .u16 Y, .int .u8 M, .int .u8 D, .int .u8 H, .int .u8 Mi, .int .u8 S]] w fun e w' => e = .returned (.agg #[.int .i64 y, .int .i64 mo, .int .i64 d, .int .i64 h, .int .i64 mi, .int .i64 s]) ∧ Below w.heap.size w w'))
    (H29 : Hid (∀ w, Calls Tryd.prog 29 #[.agg #[.int .i64 y, .int .i64 mo, .int .i64 d, .int .i64 h, .int .i64 mi, .int .i64 s]] w fun e w' => e = .returned (.int .i64 k) ∧ Below w.heap.size w w'))
    (H30 : Hid (∀ w, Tabs w → Calls Tryd.prog 30 #[.int .i64 k] w fun e w' => e = .returned (.tuple #[.agg #[.int .i64 y, .int .i64 mo, .int .i64 d, .int .i64 h, .int .i64 mi, .int .i64 s], .int .i64 0]) ∧ Below w.heap.size w w'))
    (H18 : Hid (∀ w, Tabs w → Calls Tryd.prog 18 #[.agg #[.int .i64 y, .int .i64 mo, .int .i64 d, .int .i64 h, .int .i64 mi, .int .i64 s]] w fun e w' => e = .returned (.int .i64 k) ∧ Below w.heap.size w w'))
    (H30n : Hid (∀ w, Tabs w → Calls Tryd.prog 30 #[.int .i64 n] w fun e w' => e = .returned (.tuple #[.agg #[.int .i64 0, .int .i64 0, .int .i64 0, .int .i64 0, .int .i64 0, .int .i64 0], .int .i64 1]) ∧ Below w.heap.size w w'))
    (g : decide (n < 0) = false) (g' : decide (315569520000 ≤ n) = true) :
    Calls Tryd.prog 7 #[.agg #[.int .u16 Y, .int .u8 M, .int .u8 D, .int .u8 H, .int .u8 Mi, .int .u8 S], .int .i64 n] w fun e w' => e = .returned (.bool true) ∧ Below w.heap.size w w' := by
  have S0 := Lib.hid ((St.refl hT).alloc (.cells #[.int .u16 Y, .int .u8 M, .int .u8 D, .int .u8 H, .int .u8 Mi, .int .u8 S] 44))
  go_enter Tryd.func7, Tryd.ntmps7
  go_wp2_with (first
    | (go_at_call 20; refine (H20.out _ S0.out.t).mono ?_; rintro e w1 ⟨rfl, hb⟩; have S1 := Lib.hid ((S0.out.next hb).alloc (.cells #[.int .i64 y, .int .i64 mo, .int .i64 d, .int .i64 h, .int .i64 mi, .int .i64 s] 23)); have B1 := Lib.hid (blk_new w1 (.cells #[.int .i64 y, .int .i64 mo, .int .i64 d, .int .i64 h, .int .i64 mi, .int .i64 s] 23)); clear hb)
    | (go_at_call_of 29 y; refine (H29.out _).mono ?_; rintro e w2 ⟨rfl, hb⟩; have S2 := Lib.hid (S1.out.next hb); have hB := blk_below B1.out hb; have B2 := Lib.hid hB; obtain ⟨c0, c1, c2, c3, c4, c5⟩ := six hB; clear hb hB)
    | (go_at_call_of 30 k; refine (H30.out _ S2.out.t).mono ?_; rintro e w3 ⟨rfl, hb⟩; have S3 := Lib.hid ((S2.out.next hb).alloc (.cells #[.int .i64 y, .int .i64 mo, .int .i64 d, .int .i64 h, .int .i64 mi, .int .i64 s] 23)); have hB := blk_alloc (blk_below B2.out hb) (.cells #[.int .i64 y, .int .i64 mo, .int .i64 d, .int .i64 h, .int .i64 mi, .int .i64 s] 23); have B3 := Lib.hid hB; obtain ⟨c0, c1, c2, c3, c4, c5⟩ := six hB; have U3 := Lib.hid (blk_new w3 (.cells #[.int .i64 y, .int .i64 mo, .int .i64 d, .int .i64 h, .int .i64 mi, .int .i64 s] 23)); clear hb hB)
    | (go_at_call 18; refine (H18.out _ S3.out.t).mono ?_; rintro e w4 ⟨rfl, hb⟩; have S4 := Lib.hid (S3.out.next hb); have hB := blk_below B3.out hb; obtain ⟨c0, c1, c2, c3, c4, c5⟩ := six hB; have hU := blk_below U3.out hb; obtain ⟨u0, u1, u2, u3, u4, u5⟩ := six hU; clear hb hB hU)
    | (go_at_call_of 30 n; refine (H30n.out _ S4.out.t).mono ?_; rintro e w5 ⟨rfl, hb⟩; have S5 := Lib.hid ((S4.out.next hb).alloc (.cells #[.int .i64 0, .int .i64 0, .int .i64 0, .int .i64 0, .int .i64 0, .int .i64 0] 23)); have V5 := Lib.hid (blk_new w5 (.cells #[.int .i64 0, .int .i64 0, .int .i64 0, .int .i64 0, .int .i64 0, .int .i64 0] 23)); clear hb)
    | (go_at_call 16; refine (lives_yes _ S5.out.t).mono ?_; rintro e w6 ⟨rfl, hb⟩; have S6 := Lib.hid (S5.out.next hb); clear hb))
  go_ret
  exact ⟨rfl, S6.out.b⟩

set_option maxHeartbeats 8000000 in
set_option maxRecDepth 100000 in
theorem secs_walk_in (Y M D H Mi S y mo d h mi s k n v0 v1 v2 v3 v4 v5 : Int) (w : World) (hT : Tabs w)
    (H20 : Hid (∀ w, Tabs w → Calls Tryd.prog 20 #[.agg #[.int .u16 Y, .int .u8 M, .int .u8 D, .int .u8 H, .int .u8 Mi, .int .u8 S]] w fun e w' => e = .returned (.agg #[.int .i64 y, .int .i64 mo, .int .i64 d, .int .i64 h, .int .i64 mi, .int .i64 s]) ∧ Below w.heap.size w w'))
    (H29 : Hid (∀ w, Calls Tryd.prog 29 #[.agg #[.int .i64 y, .int .i64 mo, .int .i64 d, .int .i64 h, .int .i64 mi, .int .i64 s]] w fun e w' => e = .returned (.int .i64 k) ∧ Below w.heap.size w w'))
    (H30 : Hid (∀ w, Tabs w → Calls Tryd.prog 30 #[.int .i64 k] w fun e w' => e = .returned (.tuple #[.agg #[.int .i64 y, .int .i64 mo, .int .i64 d, .int .i64 h, .int .i64 mi, .int .i64 s], .int .i64 0]) ∧ Below w.heap.size w w'))
    (H18 : Hid (∀ w, Tabs w → Calls Tryd.prog 18 #[.agg #[.int .i64 y, .int .i64 mo, .int .i64 d, .int .i64 h, .int .i64 mi, .int .i64 s]] w fun e w' => e = .returned (.int .i64 k) ∧ Below w.heap.size w w'))
    (H30n : Hid (∀ w, Tabs w → Calls Tryd.prog 30 #[.int .i64 n] w fun e w' => e = .returned (.tuple #[.agg #[.int .i64 v0, .int .i64 v1, .int .i64 v2, .int .i64 v3, .int .i64 v4, .int .i64 v5], .int .i64 0]) ∧ Below w.heap.size w w'))
    (H15 : Hid (∀ w, Tabs w → Calls Tryd.prog 15 #[.agg #[.int .i64 v0, .int .i64 v1, .int .i64 v2, .int .i64 v3, .int .i64 v4, .int .i64 v5]] w fun e w' => e = .returned (.int .i64 0) ∧ Below w.heap.size w w'))
    (H29v : Hid (∀ w, Calls Tryd.prog 29 #[.agg #[.int .i64 v0, .int .i64 v1, .int .i64 v2, .int .i64 v3, .int .i64 v4, .int .i64 v5]] w fun e w' => e = .returned (.int .i64 n) ∧ Below w.heap.size w w'))
    (g : decide (n < 0) = false) (g' : decide (315569520000 ≤ n) = false) :
    Calls Tryd.prog 7 #[.agg #[.int .u16 Y, .int .u8 M, .int .u8 D, .int .u8 H, .int .u8 Mi, .int .u8 S], .int .i64 n] w fun e w' => e = .returned (.bool true) ∧ Below w.heap.size w w' := by
  have S0 := Lib.hid ((St.refl hT).alloc (.cells #[.int .u16 Y, .int .u8 M, .int .u8 D, .int .u8 H, .int .u8 Mi, .int .u8 S] 44))
  go_enter Tryd.func7, Tryd.ntmps7
  go_wp2_with (first
    | (go_at_call 20; refine (H20.out _ S0.out.t).mono ?_; rintro e w1 ⟨rfl, hb⟩; have S1 := Lib.hid ((S0.out.next hb).alloc (.cells #[.int .i64 y, .int .i64 mo, .int .i64 d, .int .i64 h, .int .i64 mi, .int .i64 s] 23)); have B1 := Lib.hid (blk_new w1 (.cells #[.int .i64 y, .int .i64 mo, .int .i64 d, .int .i64 h, .int .i64 mi, .int .i64 s] 23)); clear hb)
    | (go_at_call_of 29 y; refine (H29.out _).mono ?_; rintro e w2 ⟨rfl, hb⟩; have S2 := Lib.hid (S1.out.next hb); have hB := blk_below B1.out hb; have B2 := Lib.hid hB; obtain ⟨c0, c1, c2, c3, c4, c5⟩ := six hB; clear hb hB)
    | (go_at_call_of 30 k; refine (H30.out _ S2.out.t).mono ?_; rintro e w3 ⟨rfl, hb⟩; have S3 := Lib.hid ((S2.out.next hb).alloc (.cells #[.int .i64 y, .int .i64 mo, .int .i64 d, .int .i64 h, .int .i64 mi, .int .i64 s] 23)); have hB := blk_alloc (blk_below B2.out hb) (.cells #[.int .i64 y, .int .i64 mo, .int .i64 d, .int .i64 h, .int .i64 mi, .int .i64 s] 23); have B3 := Lib.hid hB; obtain ⟨c0, c1, c2, c3, c4, c5⟩ := six hB; have U3 := Lib.hid (blk_new w3 (.cells #[.int .i64 y, .int .i64 mo, .int .i64 d, .int .i64 h, .int .i64 mi, .int .i64 s] 23)); clear hb hB)
    | (go_at_call 18; refine (H18.out _ S3.out.t).mono ?_; rintro e w4 ⟨rfl, hb⟩; have S4 := Lib.hid (S3.out.next hb); have hB := blk_below B3.out hb; obtain ⟨c0, c1, c2, c3, c4, c5⟩ := six hB; have hU := blk_below U3.out hb; obtain ⟨u0, u1, u2, u3, u4, u5⟩ := six hU; clear hb hB hU)
    | (go_at_call_of 30 n; refine (H30n.out _ S4.out.t).mono ?_; rintro e w5 ⟨rfl, hb⟩; have S5 := Lib.hid ((S4.out.next hb).alloc (.cells #[.int .i64 v0, .int .i64 v1, .int .i64 v2, .int .i64 v3, .int .i64 v4, .int .i64 v5] 23)); have V5 := Lib.hid (blk_new w5 (.cells #[.int .i64 v0, .int .i64 v1, .int .i64 v2, .int .i64 v3, .int .i64 v4, .int .i64 v5] 23)); clear hb)
    | (go_at_call 15; refine (H15.out _ S5.out.t).mono ?_; rintro e w6 ⟨rfl, hb⟩; have S6 := Lib.hid (S5.out.next hb); have hB := blk_below V5.out hb; obtain ⟨x0, x1, x2, x3, x4, x5⟩ := six hB; clear hb hB)
    | (go_at_call_of 29 v0; refine (H29v.out _).mono ?_; rintro e w7 ⟨rfl, hb⟩; have S7 := Lib.hid (S6.out.next hb); clear hb)
    | (go_at_call 16; refine (lives_yes _ S7.out.t).mono ?_; rintro e w8 ⟨rfl, hb⟩; have S8 := Lib.hid (S7.out.next hb); clear hb))
  go_ret
  exact ⟨rfl, S8.out.b⟩

theorem year_of (q : Int) (h0 : 0 ≤ q) (N : Nat) (h : q < dby (N : Int)) : ∃ k : Nat, k < N ∧ dby (k : Int) ≤ q ∧ q < dby ((k : Int) + 1) := by
  induction N with
  | zero => have : dby ((0 : Nat) : Int) = 0 := rfl; omega
  | succ N ih =>
    by_cases hc : q < dby (N : Int)
    · obtain ⟨k, hk, a, b⟩ := ih hc
      exact ⟨k, by omega, a, b⟩
    · exact ⟨N, by omega, by omega, by rw [show ((N : Int) + 1) = ((N + 1 : Nat) : Int) by omega]; exact h⟩
theorem month_of (y r : Int) (h0 : 0 ≤ r) (N : Nat) (h : r < cumd y N) : ∃ k : Nat, k < N ∧ cumd y k ≤ r ∧ r < cumd y (k + 1) := by
  induction N with
  | zero => have : cumd y 0 = 0 := rfl; omega
  | succ N ih =>
    by_cases hc : r < cumd y N
    · obtain ⟨k, hk, a, b⟩ := ih hc
      exact ⟨k, by omega, a, b⟩
    · exact ⟨N, by omega, by omega, h⟩
/-- Each number of seconds below 10000 years is some time's. -/
theorem at_some (n : Int) (h0 : 0 ≤ n) (h1 : n < 315569520000) : ∃ t : Tm, t.ok = true ∧ t.secs = n := by
  obtain ⟨y, hy, a, b⟩ := year_of (n / 86400) (by omega) 10000 (by rw [show ((10000 : Nat) : Int) = 10000 by omega, dby_max]; omega)
  have hs := dby_succ (y : Int) (by omega)
  obtain ⟨k, hk, c, d⟩ := month_of (y : Int) (n / 86400 - dby y) (by omega) 12 (by omega)
  have hc : cumd (y : Int) (k + 1) = cumd (y : Int) k + dim (y : Int) ((k : Int) + 1) := rfl
  refine ⟨⟨y, (k : Int) + 1, n / 86400 - dby y - cumd y k + 1, n % 86400 / 3600, n % 86400 / 60 % 60, n % 86400 % 60⟩, ?_, ?_⟩
  · show okB (y : Int) ((k : Int) + 1) (n / 86400 - dby y - cumd y k + 1) (n % 86400 / 3600) (n % 86400 / 60 % 60) (n % 86400 % 60) = true
    unfold okB
    exact decide_eq_true (by omega)
  · show secs (y : Int) ((k : Int) + 1) (n / 86400 - dby y - cumd y k + 1) (n % 86400 / 3600) (n % 86400 / 60 % 60) (n % 86400 % 60) = n
    unfold secs
    rw [show ((k : Int) + 1 - 1).toNat = k by omega]
    omega

theorem timesSeconds_walk (Y M D H Mi S n : Int) (b0 : 0 ≤ Y) (b1 : Y < 65536) (b2 : 0 ≤ M) (b3 : M < 256) (b4 : 0 ≤ D) (b5 : D < 256) (b6 : 0 ≤ H) (b7 : H < 256) (b8 : 0 ≤ Mi) (b9 : Mi < 256) (b10 : 0 ≤ S) (b11 : S < 256) (w : World) (hT : Tabs w) :
    Calls Tryd.prog 7 #[.agg #[.int .u16 Y, .int .u8 M, .int .u8 D, .int .u8 H, .int .u8 Mi, .int .u8 S], .int .i64 n] w fun e w' => e = .returned (.bool true) ∧ Below w.heap.size w w' := by
  have hok := tOf_ok Y M D H Mi S
  have H20 := fun W hW => tof_any Y M D H Mi S b0 b1 b2 b3 b4 b5 b6 b7 b8 b9 b10 b11 W hW
  generalize tOf Y M D H Mi S = t at *
  obtain ⟨y, mo, d, h, mi, s⟩ := t
  have H29 := fun W => refSecs_ok ⟨y, mo, d, h, mi, s⟩ hok W
  have H30 := fun W hW => at_is (secs y mo d h mi s) ⟨y, mo, d, h, mi, s⟩ hok rfl W hW
  have H18 := fun W hW => secs_is y mo d h mi s (secs y mo d h mi s) hok rfl W hW
  rcases (show n < 0 ∨ 315569520000 ≤ n ∨ (0 ≤ n ∧ n < 315569520000) by omega) with h0 | h0 | ⟨h0, h1⟩
  · exact secs_walk_lo Y M D H Mi S y mo d h mi s (secs y mo d h mi s) n w hT H20 H29 H30 H18 (fun W hW => at_no n W hW (.inl h0)) (by simp; omega)
  · exact secs_walk_hi Y M D H Mi S y mo d h mi s (secs y mo d h mi s) n w hT H20 H29 H30 H18 (fun W hW => at_no n W hW (.inr h0)) (by simp; omega) (by simp; omega)
  · obtain ⟨t, ht, hn⟩ := at_some n h0 h1
    have H15 := fun W hW => check_ok (show okB t.y t.mo t.d t.h t.mi t.s = true from ht) W hW
    have H29v := fun W => refSecs_ok t ht W
    rw [hn] at H29v
    exact secs_walk_in Y M D H Mi S y mo d h mi s (secs y mo d h mi s) n t.y t.mo t.d t.h t.mi t.s w hT H20 H29 H30 H18 (fun W hW => at_is n t ht hn W hW) H15 H29v (by simp; omega) (by simp; omega)
end Go.Proofs.YtbncjjobdipmgaaDoor
