/- Chapter 10 (times): the walk of the law TimesBack: it answers true. -/
import Derived.Test.YtbncjjobdipmgaaDoorLbA
import Derived.Test.YtbncjjobdipmgaaDoorXc
import Derived.Test.YtbncjjobdipmgaaDoorXd
namespace Go.Proofs.YtbncjjobdipmgaaDoor
open Go.RowKit Pl

theorem len_text (y mo d h mi s : Int) (hk : okB y mo d h mi s = true) : 0 < (elL y mo d h mi s).length ∧ (elL y mo d h mi s).length ≤ 15 ∧ (textL y mo d h mi s).length = 20 := by
  obtain ⟨b0, b1, b2, b3, b4, _, b5, b6, b7, b8, b9, b10, b11⟩ := okB_bounds hk
  have hl := five_len mo d h mi s (by omega) (by omega) (by omega) (by omega) (by omega) (by omega) (by omega) (by omega) (by omega) (by omega)
  have h4 := dg4_len y b0 b1
  refine ⟨?_, ?_, ?_⟩
  · rw [elL_eq, List.length_append, hl]; omega
  · rw [elL_eq, List.length_append, hl]
    split
    · rw [List.length_drop, h4]; omega
    · rw [h4]; omega
  · rw [textL_eq, List.length_append, h4]
    unfold text5
    simp [dg2_len mo (by omega) (by omega), dg2_len d (by omega) (by omega), dg2_len h b6 (by omega), dg2_len mi b8 (by omega), dg2_len s b10 (by omega)]


set_option maxHeartbeats 8000000 in
set_option maxRecDepth 100000 in
theorem back_walk23 (Y M D H Mi S y mo d h mi s : Int) (N : Nat) (Q : Nat → World → Prop) (c tx : ByteArray) (w : World) (hT : Tabs w)
    (hQ : Hid (∀ g W W', Q g W → Below W.heap.size W W' → Q g W'))
    (H20 : Hid (∀ w, Tabs w → Calls Tryd.prog 20 #[.agg #[.int .u16 Y, .int .u8 M, .int .u8 D, .int .u8 H, .int .u8 Mi, .int .u8 S]] w fun e w' => e = .returned (.agg #[.int .i64 y, .int .i64 mo, .int .i64 d, .int .i64 h, .int .i64 mi, .int .i64 s]) ∧ Below w.heap.size w w'))
    (H17 : Hid (∀ w, Tabs w → Calls Tryd.prog 17 #[.agg #[.int .i64 y, .int .i64 mo, .int .i64 d, .int .i64 h, .int .i64 mi, .int .i64 s]] w fun e w' => ∃ g : Nat, e = .returned (.tuple #[.agg #[.int .u8 0, .bool false, .int .u32 23, .slice (some ⟨g, 0, none⟩) N N, .slice none 0 0], .int .i64 0]) ∧ Q g w' ∧ Below w.heap.size w w'))
    (H21 : Hid (∀ w, Calls Tryd.prog 21 #[.agg #[.int .i64 y, .int .i64 mo, .int .i64 d, .int .i64 h, .int .i64 mi, .int .i64 s]] w fun e w' => e = .returned (.tuple #[.int .u32 23, .string c]) ∧ Below w.heap.size w w'))
    (H22 : Hid (∀ g w, Q g w → Calls Tryd.prog 22 #[.agg #[.int .u8 0, .bool false, .int .u32 23, .slice (some ⟨g, 0, none⟩) N N, .slice none 0 0], .int .i64 0, .int .u32 23, .string c] w fun e w' => e = .returned (.bool true) ∧ Below w.heap.size w w'))
    (H23 : Hid (∀ w, Tabs w → Calls Tryd.prog 23 #[.int .u32 23, .string c, .agg #[.int .i64 y, .int .i64 mo, .int .i64 d, .int .i64 h, .int .i64 mi, .int .i64 s], .int .i64 0] w fun e w' => e = .returned (.bool true) ∧ Below w.heap.size w w'))
    (H23o : Hid (∀ w, Tabs w → Calls Tryd.prog 23 #[.int .u32 24, .string c, .agg #[.int .i64 0, .int .i64 0, .int .i64 0, .int .i64 0, .int .i64 0, .int .i64 0], .int .i64 11] w fun e w' => e = .returned (.bool true) ∧ Below w.heap.size w w'))
    (H19 : Hid (∀ w, Tabs w → Calls Tryd.prog 19 #[.agg #[.int .i64 y, .int .i64 mo, .int .i64 d, .int .i64 h, .int .i64 mi, .int .i64 s]] w fun e w' => e = .returned (.string tx) ∧ Below w.heap.size w w'))
    (H24 : Hid (∀ w, Calls Tryd.prog 24 #[.agg #[.int .i64 y, .int .i64 mo, .int .i64 d, .int .i64 h, .int .i64 mi, .int .i64 s]] w fun e w' => e = .returned (.string tx) ∧ Below w.heap.size w w'))
    (H25 : Hid (∀ w, Tabs w → Calls Tryd.prog 25 #[.string tx, .agg #[.int .i64 y, .int .i64 mo, .int .i64 d, .int .i64 h, .int .i64 mi, .int .i64 s], .int .i64 0] w fun e w' => e = .returned (.bool true) ∧ Below w.heap.size w w')) :
    Calls Tryd.prog 4 #[.agg #[.int .u16 Y, .int .u8 M, .int .u8 D, .int .u8 H, .int .u8 Mi, .int .u8 S]] w fun e w' => e = .returned (.bool true) ∧ Below w.heap.size w w' := by
  have S0 := Lib.hid ((St.refl hT).alloc (.cells #[.int .u16 Y, .int .u8 M, .int .u8 D, .int .u8 H, .int .u8 Mi, .int .u8 S] 44))
  go_enter Tryd.func4, Tryd.ntmps4
  go_wp2_with (first
    | (go_at_call 20; refine (H20.out _ S0.out.t).mono ?_; rintro e w1 ⟨rfl, hb⟩; have S1 := Lib.hid ((S0.out.next hb).alloc (.cells #[.int .i64 y, .int .i64 mo, .int .i64 d, .int .i64 h, .int .i64 mi, .int .i64 s] 23)); have B1 := Lib.hid (blk_new w1 (.cells #[.int .i64 y, .int .i64 mo, .int .i64 d, .int .i64 h, .int .i64 mi, .int .i64 s] 23)); clear hb)
    | (go_at_call 17; refine (H17.out _ S1.out.t).mono ?_; rintro e w2 ⟨g, rfl, hq, hb⟩; have S2 := Lib.hid ((S1.out.next hb).alloc (.cells #[.int .u8 0, .bool false, .int .u32 23, .slice (some ⟨g, 0, none⟩) N N, .slice none 0 0] 37)); have hB := blk_alloc (blk_below B1.out hb) (.cells #[.int .u8 0, .bool false, .int .u32 23, .slice (some ⟨g, 0, none⟩) N N, .slice none 0 0] 37); have B2 := Lib.hid hB; obtain ⟨c0, c1, c2, c3, c4, c5⟩ := six hB; have U2 := Lib.hid (blk_new w2 (.cells #[.int .u8 0, .bool false, .int .u32 23, .slice (some ⟨g, 0, none⟩) N N, .slice none 0 0] 37)); have Q2 := Lib.hid (hQ.out _ _ _ hq ((Below.refl _ _).alloc (Nat.le_refl _) (.cells #[.int .u8 0, .bool false, .int .u32 23, .slice (some ⟨g, 0, none⟩) N N, .slice none 0 0] 37))); clear hb hB hq)
    | (go_at_call 21; refine (H21.out _).mono ?_; rintro e w3 ⟨rfl, hb⟩; have S3 := Lib.hid (S2.out.next hb); have hB := blk_below B2.out hb; have B3 := Lib.hid hB; obtain ⟨c0, c1, c2, c3, c4, c5⟩ := six hB; have hU := blk_below U2.out hb; obtain ⟨u0, u1, u2, u3, u4⟩ := five hU; have Q3 := Lib.hid (hQ.out _ _ _ Q2.out hb); clear hb hB hU)
    | (go_at_call 22; refine (H22.out _ _ Q3.out).mono ?_; rintro e w4 ⟨rfl, hb⟩; have S4 := Lib.hid (S3.out.next hb); have hB := blk_below B3.out hb; have B4 := Lib.hid hB; obtain ⟨c0, c1, c2, c3, c4, c5⟩ := six hB; clear hb hB)
    | (go_at_call_of 23 y; refine (H23.out _ S4.out.t).mono ?_; rintro e w5 ⟨rfl, hb⟩; have S5 := Lib.hid (S4.out.next hb); have hB := blk_below B4.out hb; have B5 := Lib.hid hB; obtain ⟨c0, c1, c2, c3, c4, c5⟩ := six hB; clear hb hB)
    | (go_at_call 23; refine (H23o.out _ S5.out.t).mono ?_; rintro e w6 ⟨rfl, hb⟩; have S6 := Lib.hid (S5.out.next hb); have hB := blk_below B5.out hb; have B6 := Lib.hid hB; have h6 := (⟨(six hB).1, (six hB).2.1, (six hB).2.2.1, (six hB).2.2.2.1, (six hB).2.2.2.2.1, (six hB).2.2.2.2.2, S6.out⟩ : w6.cell? ⟨w1.heap.size, 0, none⟩ = some (.int .i64 y) ∧ w6.cell? ⟨w1.heap.size, 1, none⟩ = some (.int .i64 mo) ∧ w6.cell? ⟨w1.heap.size, 2, none⟩ = some (.int .i64 d) ∧ w6.cell? ⟨w1.heap.size, 3, none⟩ = some (.int .i64 h) ∧ w6.cell? ⟨w1.heap.size, 4, none⟩ = some (.int .i64 mi) ∧ w6.cell? ⟨w1.heap.size, 5, none⟩ = some (.int .i64 s) ∧ St w w6); clear hb hB))
  go_region_held3 (fun W => W.cell? ⟨w1.heap.size, 0, none⟩ = some (.int .i64 y) ∧ W.cell? ⟨w1.heap.size, 1, none⟩ = some (.int .i64 mo) ∧ W.cell? ⟨w1.heap.size, 2, none⟩ = some (.int .i64 d) ∧ W.cell? ⟨w1.heap.size, 3, none⟩ = some (.int .i64 h) ∧ W.cell? ⟨w1.heap.size, 4, none⟩ = some (.int .i64 mi) ∧ W.cell? ⟨w1.heap.size, 5, none⟩ = some (.int .i64 s) ∧ St w W)
    (first | assumption | exact six_next (cell_lt (And.left (by assumption))) (by assumption) (by assumption) | exact six_next (cell_lt h6.1) h6 ((Below.refl _ _).drew))
    (first
      | (go_at_call 19; ((with_reducible refine (H19.out _ (St.t (w := w) (And.right (And.right (And.right (And.right (And.right (And.right (by assumption))))))))).mono ?_); rintro e w' ⟨rfl, hb⟩))
      | (go_at_call 24; ((with_reducible refine (H24.out _).mono ?_); rintro e w' ⟨rfl, hb⟩))
      | (go_at_call 25; ((with_reducible refine (H25.out _ (St.t (w := w) (And.right (And.right (And.right (And.right (And.right (And.right (by assumption))))))))).mono ?_); rintro e w' ⟨rfl, hb⟩))
      | (go_at_call 16; ((with_reducible refine (lives_yes _ (St.t (w := w) (And.right (And.right (And.right (And.right (And.right (And.right (by assumption))))))))).mono ?_); rintro e w' ⟨rfl, hb⟩)))
  go_wp2
  go_ret
  exact ⟨rfl, St.b (w := w) (And.right (And.right (And.right (And.right (And.right (And.right (by assumption)))))))⟩


set_option maxHeartbeats 8000000 in
set_option maxRecDepth 100000 in
theorem back_walk24 (Y M D H Mi S y mo d h mi s : Int) (N : Nat) (Q : Nat → World → Prop) (c tx : ByteArray) (w : World) (hT : Tabs w)
    (hQ : Hid (∀ g W W', Q g W → Below W.heap.size W W' → Q g W'))
    (H20 : Hid (∀ w, Tabs w → Calls Tryd.prog 20 #[.agg #[.int .u16 Y, .int .u8 M, .int .u8 D, .int .u8 H, .int .u8 Mi, .int .u8 S]] w fun e w' => e = .returned (.agg #[.int .i64 y, .int .i64 mo, .int .i64 d, .int .i64 h, .int .i64 mi, .int .i64 s]) ∧ Below w.heap.size w w'))
    (H17 : Hid (∀ w, Tabs w → Calls Tryd.prog 17 #[.agg #[.int .i64 y, .int .i64 mo, .int .i64 d, .int .i64 h, .int .i64 mi, .int .i64 s]] w fun e w' => ∃ g : Nat, e = .returned (.tuple #[.agg #[.int .u8 0, .bool false, .int .u32 24, .slice (some ⟨g, 0, none⟩) N N, .slice none 0 0], .int .i64 0]) ∧ Q g w' ∧ Below w.heap.size w w'))
    (H21 : Hid (∀ w, Calls Tryd.prog 21 #[.agg #[.int .i64 y, .int .i64 mo, .int .i64 d, .int .i64 h, .int .i64 mi, .int .i64 s]] w fun e w' => e = .returned (.tuple #[.int .u32 24, .string c]) ∧ Below w.heap.size w w'))
    (H22 : Hid (∀ g w, Q g w → Calls Tryd.prog 22 #[.agg #[.int .u8 0, .bool false, .int .u32 24, .slice (some ⟨g, 0, none⟩) N N, .slice none 0 0], .int .i64 0, .int .u32 24, .string c] w fun e w' => e = .returned (.bool true) ∧ Below w.heap.size w w'))
    (H23 : Hid (∀ w, Tabs w → Calls Tryd.prog 23 #[.int .u32 24, .string c, .agg #[.int .i64 y, .int .i64 mo, .int .i64 d, .int .i64 h, .int .i64 mi, .int .i64 s], .int .i64 0] w fun e w' => e = .returned (.bool true) ∧ Below w.heap.size w w'))
    (H23o : Hid (∀ w, Tabs w → Calls Tryd.prog 23 #[.int .u32 23, .string c, .agg #[.int .i64 0, .int .i64 0, .int .i64 0, .int .i64 0, .int .i64 0, .int .i64 0], .int .i64 11] w fun e w' => e = .returned (.bool true) ∧ Below w.heap.size w w'))
    (H19 : Hid (∀ w, Tabs w → Calls Tryd.prog 19 #[.agg #[.int .i64 y, .int .i64 mo, .int .i64 d, .int .i64 h, .int .i64 mi, .int .i64 s]] w fun e w' => e = .returned (.string tx) ∧ Below w.heap.size w w'))
    (H24 : Hid (∀ w, Calls Tryd.prog 24 #[.agg #[.int .i64 y, .int .i64 mo, .int .i64 d, .int .i64 h, .int .i64 mi, .int .i64 s]] w fun e w' => e = .returned (.string tx) ∧ Below w.heap.size w w'))
    (H25 : Hid (∀ w, Tabs w → Calls Tryd.prog 25 #[.string tx, .agg #[.int .i64 y, .int .i64 mo, .int .i64 d, .int .i64 h, .int .i64 mi, .int .i64 s], .int .i64 0] w fun e w' => e = .returned (.bool true) ∧ Below w.heap.size w w')) :
    Calls Tryd.prog 4 #[.agg #[.int .u16 Y, .int .u8 M, .int .u8 D, .int .u8 H, .int .u8 Mi, .int .u8 S]] w fun e w' => e = .returned (.bool true) ∧ Below w.heap.size w w' := by
  have S0 := Lib.hid ((St.refl hT).alloc (.cells #[.int .u16 Y, .int .u8 M, .int .u8 D, .int .u8 H, .int .u8 Mi, .int .u8 S] 44))
  go_enter Tryd.func4, Tryd.ntmps4
  go_wp2_with (first
    | (go_at_call 20; refine (H20.out _ S0.out.t).mono ?_; rintro e w1 ⟨rfl, hb⟩; have S1 := Lib.hid ((S0.out.next hb).alloc (.cells #[.int .i64 y, .int .i64 mo, .int .i64 d, .int .i64 h, .int .i64 mi, .int .i64 s] 23)); have B1 := Lib.hid (blk_new w1 (.cells #[.int .i64 y, .int .i64 mo, .int .i64 d, .int .i64 h, .int .i64 mi, .int .i64 s] 23)); clear hb)
    | (go_at_call 17; refine (H17.out _ S1.out.t).mono ?_; rintro e w2 ⟨g, rfl, hq, hb⟩; have S2 := Lib.hid ((S1.out.next hb).alloc (.cells #[.int .u8 0, .bool false, .int .u32 24, .slice (some ⟨g, 0, none⟩) N N, .slice none 0 0] 37)); have hB := blk_alloc (blk_below B1.out hb) (.cells #[.int .u8 0, .bool false, .int .u32 24, .slice (some ⟨g, 0, none⟩) N N, .slice none 0 0] 37); have B2 := Lib.hid hB; obtain ⟨c0, c1, c2, c3, c4, c5⟩ := six hB; have U2 := Lib.hid (blk_new w2 (.cells #[.int .u8 0, .bool false, .int .u32 24, .slice (some ⟨g, 0, none⟩) N N, .slice none 0 0] 37)); have Q2 := Lib.hid (hQ.out _ _ _ hq ((Below.refl _ _).alloc (Nat.le_refl _) (.cells #[.int .u8 0, .bool false, .int .u32 24, .slice (some ⟨g, 0, none⟩) N N, .slice none 0 0] 37))); clear hb hB hq)
    | (go_at_call 21; refine (H21.out _).mono ?_; rintro e w3 ⟨rfl, hb⟩; have S3 := Lib.hid (S2.out.next hb); have hB := blk_below B2.out hb; have B3 := Lib.hid hB; obtain ⟨c0, c1, c2, c3, c4, c5⟩ := six hB; have hU := blk_below U2.out hb; obtain ⟨u0, u1, u2, u3, u4⟩ := five hU; have Q3 := Lib.hid (hQ.out _ _ _ Q2.out hb); clear hb hB hU)
    | (go_at_call 22; refine (H22.out _ _ Q3.out).mono ?_; rintro e w4 ⟨rfl, hb⟩; have S4 := Lib.hid (S3.out.next hb); have hB := blk_below B3.out hb; have B4 := Lib.hid hB; obtain ⟨c0, c1, c2, c3, c4, c5⟩ := six hB; clear hb hB)
    | (go_at_call_of 23 y; refine (H23.out _ S4.out.t).mono ?_; rintro e w5 ⟨rfl, hb⟩; have S5 := Lib.hid (S4.out.next hb); have hB := blk_below B4.out hb; have B5 := Lib.hid hB; obtain ⟨c0, c1, c2, c3, c4, c5⟩ := six hB; clear hb hB)
    | (go_at_call 23; refine (H23o.out _ S5.out.t).mono ?_; rintro e w6 ⟨rfl, hb⟩; have S6 := Lib.hid (S5.out.next hb); have hB := blk_below B5.out hb; have B6 := Lib.hid hB; have h6 := (⟨(six hB).1, (six hB).2.1, (six hB).2.2.1, (six hB).2.2.2.1, (six hB).2.2.2.2.1, (six hB).2.2.2.2.2, S6.out⟩ : w6.cell? ⟨w1.heap.size, 0, none⟩ = some (.int .i64 y) ∧ w6.cell? ⟨w1.heap.size, 1, none⟩ = some (.int .i64 mo) ∧ w6.cell? ⟨w1.heap.size, 2, none⟩ = some (.int .i64 d) ∧ w6.cell? ⟨w1.heap.size, 3, none⟩ = some (.int .i64 h) ∧ w6.cell? ⟨w1.heap.size, 4, none⟩ = some (.int .i64 mi) ∧ w6.cell? ⟨w1.heap.size, 5, none⟩ = some (.int .i64 s) ∧ St w w6); clear hb hB))
  go_region_held3 (fun W => W.cell? ⟨w1.heap.size, 0, none⟩ = some (.int .i64 y) ∧ W.cell? ⟨w1.heap.size, 1, none⟩ = some (.int .i64 mo) ∧ W.cell? ⟨w1.heap.size, 2, none⟩ = some (.int .i64 d) ∧ W.cell? ⟨w1.heap.size, 3, none⟩ = some (.int .i64 h) ∧ W.cell? ⟨w1.heap.size, 4, none⟩ = some (.int .i64 mi) ∧ W.cell? ⟨w1.heap.size, 5, none⟩ = some (.int .i64 s) ∧ St w W)
    (first | assumption | exact six_next (cell_lt (And.left (by assumption))) (by assumption) (by assumption) | exact six_next (cell_lt h6.1) h6 ((Below.refl _ _).drew))
    (first
      | (go_at_call 19; ((with_reducible refine (H19.out _ (St.t (w := w) (And.right (And.right (And.right (And.right (And.right (And.right (by assumption))))))))).mono ?_); rintro e w' ⟨rfl, hb⟩))
      | (go_at_call 24; ((with_reducible refine (H24.out _).mono ?_); rintro e w' ⟨rfl, hb⟩))
      | (go_at_call 25; ((with_reducible refine (H25.out _ (St.t (w := w) (And.right (And.right (And.right (And.right (And.right (And.right (by assumption))))))))).mono ?_); rintro e w' ⟨rfl, hb⟩))
      | (go_at_call 16; ((with_reducible refine (lives_yes _ (St.t (w := w) (And.right (And.right (And.right (And.right (And.right (And.right (by assumption))))))))).mono ?_); rintro e w' ⟨rfl, hb⟩)))
  go_wp2
  go_ret
  exact ⟨rfl, St.b (w := w) (And.right (And.right (And.right (And.right (And.right (And.right (by assumption)))))))⟩


theorem timesBack_walk (Y M D H Mi S : Int) (b0 : 0 ≤ Y) (b1 : Y < 65536) (b2 : 0 ≤ M) (b3 : M < 256) (b4 : 0 ≤ D) (b5 : D < 256) (b6 : 0 ≤ H) (b7 : H < 256) (b8 : 0 ≤ Mi) (b9 : Mi < 256) (b10 : 0 ≤ S) (b11 : S < 256) (w : World) (hT : Tabs w) :
    Calls Tryd.prog 4 #[.agg #[.int .u16 Y, .int .u8 M, .int .u8 D, .int .u8 H, .int .u8 Mi, .int .u8 S]] w fun e w' => e = .returned (.bool true) ∧ Below w.heap.size w w' := by
  have hok := tOf_ok Y M D H Mi S
  have H20 := fun W hW => tof_any Y M D H Mi S b0 b1 b2 b3 b4 b5 b6 b7 b8 b9 b10 b11 W hW
  generalize tOf Y M D H Mi S = t at *
  obtain ⟨y, mo, d, h, mi, s⟩ := t
  have hok : okB y mo d h mi s = true := hok
  have H17 := fun W hW => elem_ok y mo d h mi s W hW hok
  have H21 := fun W => relem_ok y mo d h mi s W hok
  have H19 := fun W hW => text_ok y mo d h mi s W hW hok
  have H24 := fun W => rtext_ok y mo d h mi s W hok
  obtain ⟨e1, e2⟩ := of_elem y mo d h mi s hok
  have e3 := parse_text y mo d h mi s hok
  obtain ⟨q0, q1, q2⟩ := len_text y mo d h mi s hok
  have hn : elNum y = 23 ∨ elNum y = 24 := by unfold elNum; split <;> simp
  generalize elNum y = num at *
  generalize elL y mo d h mi s = L at *
  generalize textL y mo d h mi s = tx at *
  have H23 := fun W hW => of_yes num hn L ⟨y, mo, d, h, mi, s⟩ 0 W hW (by omega) e1
  have H23o := fun W hW => of_yes (47 - num) (by omega) L Tm.zero 11 W hW (by omega) e2
  have H25 := fun W hW => parsed_yes tx ⟨y, mo, d, h, mi, s⟩ 0 W hW (by omega) e3
  have hQ : ∀ (g : Nat) (W W' : World), (∀ i (h : i < L.length), W.cell? ⟨g, i, none⟩ = some (.int .u8 (L[i].toNat : Int))) → Below W.heap.size W W' → (∀ i (h : i < L.length), W'.cell? ⟨g, i, none⟩ = some (.int .u8 (L[i].toNat : Int))) := fun g W W' h hb => cells_below q0 h hb
  rcases hn with rfl | rfl
  · exact back_walk23 Y M D H Mi S y mo d h mi s L.length (fun g W => ∀ i (h : i < L.length), W.cell? ⟨g, i, none⟩ = some (.int .u8 (L[i].toNat : Int))) ⟨L.toArray⟩ ⟨tx.toArray⟩ w hT hQ H20 H17 H21 (fun g W hc => is_yes 23 L g W (by omega) q0 hc) H23 H23o H19 H24 H25
  · exact back_walk24 Y M D H Mi S y mo d h mi s L.length (fun g W => ∀ i (h : i < L.length), W.cell? ⟨g, i, none⟩ = some (.int .u8 (L[i].toNat : Int))) ⟨L.toArray⟩ ⟨tx.toArray⟩ w hT hQ H20 H17 H21 (fun g W hc => is_yes 24 L g W (by omega) q0 hc) H23 H23o H19 H24 H25

end Go.Proofs.YtbncjjobdipmgaaDoor
