/- Chapter 10 (times): the walk of the law TimesKnown: it answers true. -/
import Derived.Test.YtbncjjobdipmgaaDoorLbA
namespace Go.Proofs.YtbncjjobdipmgaaDoor
open Go.RowKit Pl

theorem known_el (y tag : Int) (hk : okB y 1 1 0 0 0 = true) (hn : elNum y = tag) (w : World) (hT : Tabs w) :
    Calls Tryd.prog 17 #[.agg #[.int .i64 y, .int .i64 1, .int .i64 1, .int .i64 0, .int .i64 0, .int .i64 0]] w fun e w' => ∃ g N : Nat, e = .returned (.tuple #[.agg #[.int .u8 0, .bool false, .int .u32 tag, .slice (some ⟨g, 0, none⟩) N N, .slice none 0 0], .int .i64 0]) ∧ Below w.heap.size w w' :=
  (elem_is y 1 1 0 0 0 tag _ hk hn rfl w hT).mono fun e w' ⟨g, he, _, hb⟩ => ⟨g, _, he, hb⟩
theorem eight {w : World} {g : Nat} {a0 a1 a2 a3 a4 a5 a6 a7 : Value} {t : TypeId} (h : w.heap[g]? = some (.cells #[a0, a1, a2, a3, a4, a5, a6, a7] t (0, 0))) :
    w.cell? ⟨g, 0, none⟩ = some a0 ∧ w.cell? ⟨g, 1, none⟩ = some a1 ∧ w.cell? ⟨g, 2, none⟩ = some a2 ∧ w.cell? ⟨g, 3, none⟩ = some a3 ∧ w.cell? ⟨g, 4, none⟩ = some a4 ∧ w.cell? ⟨g, 5, none⟩ = some a5 ∧ w.cell? ⟨g, 6, none⟩ = some a6 ∧ w.cell? ⟨g, 7, none⟩ = some a7 :=
  ⟨blk_cell h 0, blk_cell h 1, blk_cell h 2, blk_cell h 3, blk_cell h 4, blk_cell h 5, blk_cell h 6, blk_cell h 7⟩

theorem twelve_next {A B : Nat} {v0 v1 v2 v3 v4 v5 v6 v7 v8 v9 v10 v11 : Value} {w w1 w2 : World} (hA : A < w1.heap.size) (hB : B < w1.heap.size)
    (H : w1.cell? ⟨A, 0, none⟩ = some v0 ∧ w1.cell? ⟨A, 1, none⟩ = some v1 ∧ w1.cell? ⟨A, 2, none⟩ = some v2 ∧ w1.cell? ⟨A, 3, none⟩ = some v3 ∧ w1.cell? ⟨A, 4, none⟩ = some v4 ∧ w1.cell? ⟨A, 5, none⟩ = some v5 ∧ w1.cell? ⟨B, 0, none⟩ = some v6 ∧ w1.cell? ⟨B, 1, none⟩ = some v7 ∧ w1.cell? ⟨B, 2, none⟩ = some v8 ∧ w1.cell? ⟨B, 3, none⟩ = some v9 ∧ w1.cell? ⟨B, 4, none⟩ = some v10 ∧ w1.cell? ⟨B, 5, none⟩ = some v11 ∧ St w w1) (hb : Below w1.heap.size w1 w2) :
    w2.cell? ⟨A, 0, none⟩ = some v0 ∧ w2.cell? ⟨A, 1, none⟩ = some v1 ∧ w2.cell? ⟨A, 2, none⟩ = some v2 ∧ w2.cell? ⟨A, 3, none⟩ = some v3 ∧ w2.cell? ⟨A, 4, none⟩ = some v4 ∧ w2.cell? ⟨A, 5, none⟩ = some v5 ∧ w2.cell? ⟨B, 0, none⟩ = some v6 ∧ w2.cell? ⟨B, 1, none⟩ = some v7 ∧ w2.cell? ⟨B, 2, none⟩ = some v8 ∧ w2.cell? ⟨B, 3, none⟩ = some v9 ∧ w2.cell? ⟨B, 4, none⟩ = some v10 ∧ w2.cell? ⟨B, 5, none⟩ = some v11 ∧ St w w2 := by
  obtain ⟨a0, a1, a2, a3, a4, a5, b0, b1, b2, b3, b4, b5, c⟩ := H
  refine ⟨?_, ?_, ?_, ?_, ?_, ?_, ?_, ?_, ?_, ?_, ?_, ?_, c.next hb⟩
  · rw [← a0]; exact hb.cell (p := ⟨A, 0, none⟩) hA
  · rw [← a1]; exact hb.cell (p := ⟨A, 1, none⟩) hA
  · rw [← a2]; exact hb.cell (p := ⟨A, 2, none⟩) hA
  · rw [← a3]; exact hb.cell (p := ⟨A, 3, none⟩) hA
  · rw [← a4]; exact hb.cell (p := ⟨A, 4, none⟩) hA
  · rw [← a5]; exact hb.cell (p := ⟨A, 5, none⟩) hA
  · rw [← b0]; exact hb.cell (p := ⟨B, 0, none⟩) hB
  · rw [← b1]; exact hb.cell (p := ⟨B, 1, none⟩) hB
  · rw [← b2]; exact hb.cell (p := ⟨B, 2, none⟩) hB
  · rw [← b3]; exact hb.cell (p := ⟨B, 3, none⟩) hB
  · rw [← b4]; exact hb.cell (p := ⟨B, 4, none⟩) hB
  · rw [← b5]; exact hb.cell (p := ⟨B, 5, none⟩) hB
theorem seventh {a b c d e f g h i j k l : Prop} {w W : World} (H : a ∧ b ∧ c ∧ d ∧ e ∧ f ∧ g ∧ h ∧ i ∧ j ∧ k ∧ l ∧ St w W) : St w W := H.2.2.2.2.2.2.2.2.2.2.2.2
theorem sixth_cell {a b c d e f g h i j k l : Prop} (H : a ∧ b ∧ c ∧ d ∧ e ∧ f ∧ g ∧ h ∧ i ∧ j ∧ k ∧ l) : g := H.2.2.2.2.2.2.1
theorem leap_same (y : Int) (b : Bool) (hb : leapB y = b) (w : World) : Calls Tryd.prog 10 #[.int .i64 y] w fun e w' => e = .returned (.bool b) ∧ Below w.heap.size w w' := (leap_is y b hb w).mono fun _ _ ⟨a, b⟩ => ⟨a, b ▸ Below.refl _ _⟩
theorem days_below (y m v : Int) (hv : dim y m = v) (w : World) (hT : Tabs w) : Calls Tryd.prog 12 #[.int .i64 y, .int .i64 m] w fun e w' => e = .returned (.int .i64 v) ∧ Below w.heap.size w w' := (days_is y m v hv w hT).mono fun _ _ ⟨a, b⟩ => ⟨a, b ▸ Below.refl _ _⟩

set_option maxHeartbeats 8000000 in
set_option maxRecDepth 100000 in
theorem known_walk (w : World) (hT : Tabs w) : Calls Tryd.prog 8 #[] w fun e w' => e = .returned (.bool true) ∧ Below w.heap.size w w' := by
  have d99 : dby 1999 = 730120 := by decide
  have D99 := Lib.hid d99
  clear d99
  go_enter Tryd.func8, Tryd.ntmps8
  go_wp2_with (go_at_call 18; refine (secs_is 1999 1 1 0 0 0 63082368000 (by decide) (by decide) _ hT).mono ?_; rintro e w1 ⟨rfl, hb⟩; have S1 := Lib.hid ((St.refl hT).next hb); clear hb)
  go_loopw [1, 2] (fun n y wr => ∃ Y : Int, 1999 ≤ Y ∧ Y ≤ 2003 ∧ y = .int .i64 Y ∧ n = .int .i64 (dby Y) ∧ Hid (St w wr)) (fun _ y _ => 2003 - (intOf y).toNat)
  case atStart => exact ⟨1999, by omega, by omega, rfl, by rw [D99.out], S1⟩
  case round =>
    obtain ⟨Y, hY0, hY1, rfl, rfl, hS⟩ := hrel
    have bb := dby_bd Y (by omega) (by omega)
    by_cases hc : Y < 2003
    · go_wp2
      go_loopw [1, 3] (fun n m wr => ∃ j : Nat, j ≤ 12 ∧ m = .int .i64 ((j : Int) + 1) ∧ n = .int .i64 (dby Y + cumd Y j) ∧ Hid (St w wr)) (fun _ m _ => 13 - (intOf m).toNat)
      case atStart => exact ⟨0, by omega, rfl, by simp [cumd], hS⟩
      case round =>
        obtain ⟨j, hj, rfl, rfl, hS⟩ := hrel
        have cb := cumd_le Y j
        by_cases hcj : j < 12
        · go_wp2
          go_loopw [1, 4] (fun n d wr => ∃ i : Nat, (i : Int) ≤ dim Y ((j : Int) + 1) ∧ d = .int .i64 ((i : Int) + 1) ∧ n = .int .i64 (dby Y + cumd Y j + i) ∧ Hid (St w wr)) (fun _ d _ => 33 - (intOf d).toNat)
          case atStart => exact ⟨0, (dim_le _ _).1, rfl, by simp, hS⟩
          case round =>
            obtain ⟨i, hi, rfl, rfl, hS⟩ := hrel
            have db := dim_le Y ((j : Int) + 1)
            by_cases hci : (i : Int) < dim Y ((j : Int) + 1)
            · have hk : okB Y ((j : Int) + 1) ((i : Int) + 1) 0 0 0 = true := by unfold okB; exact decide_eq_true (by omega)
              have hn : secs Y ((j : Int) + 1) ((i : Int) + 1) 0 0 0 = 86400 * (dby Y + cumd Y j + i) := by
                unfold secs
                rw [show ((j : Int) + 1 - 1).toNat = j by omega]
                omega
              have hno : okB Y ((j : Int) + 1) (dim Y ((j : Int) + 1) + 1) 0 0 0 = false := by unfold okB; exact decide_eq_false (by omega)
              have H30 := Lib.hid (fun W hW => at_is6 (86400 * (dby Y + cumd Y j + i)) Y ((j : Int) + 1) ((i : Int) + 1) 0 0 0 hk hn W hW)
              have H18 := Lib.hid (fun W hW => secs_is Y ((j : Int) + 1) ((i : Int) + 1) 0 0 0 _ hk hn W hW)
              have H15 := Lib.hid (fun W hW => check_no hno W hW)
              clear hk hn hno
              go_wp2_with (first
                | (go_at_call 13; refine (refDays_same _ _ _).mono ?_; rintro e w' ⟨rfl, rfl⟩)
                | (go_at_call 30; refine (H30.out _ (hS.out.alloc _).t).mono ?_; rintro e w3 ⟨rfl, hb⟩; have S3 := Lib.hid (((hS.out.alloc (.cells #[.int .i64 Y, .int .i64 ((j : Int) + 1), .int .i64 ((i : Int) + 1), .int .i64 0, .int .i64 0, .int .i64 0] 23)).next hb).alloc (.cells #[.int .i64 Y, .int .i64 ((j : Int) + 1), .int .i64 ((i : Int) + 1), .int .i64 0, .int .i64 0, .int .i64 0] 23)); have hB := blk_alloc (blk_below (blk_new wr (.cells #[.int .i64 Y, .int .i64 ((j : Int) + 1), .int .i64 ((i : Int) + 1), .int .i64 0, .int .i64 0, .int .i64 0] 23)) hb) (.cells #[.int .i64 Y, .int .i64 ((j : Int) + 1), .int .i64 ((i : Int) + 1), .int .i64 0, .int .i64 0, .int .i64 0] 23); have B3 := Lib.hid hB; obtain ⟨c0, c1, c2, c3, c4, c5⟩ := six hB; have U3 := Lib.hid (blk_new w3 (.cells #[.int .i64 Y, .int .i64 ((j : Int) + 1), .int .i64 ((i : Int) + 1), .int .i64 0, .int .i64 0, .int .i64 0] 23)); clear hb hB)
                | (go_at_call 18; refine (H18.out _ S3.out.t).mono ?_; rintro e w4 ⟨rfl, hb⟩; have S4 := Lib.hid (S3.out.next hb); have hB := blk_below B3.out hb; obtain ⟨c0, c1, c2, c3, c4, c5⟩ := six hB; have hU := blk_below U3.out hb; obtain ⟨u0, u1, u2, u3, u4, u5⟩ := six hU; clear hb hB hU)
                | (go_at_call 15; refine (H15.out _ S4.out.t).mono ?_; rintro e w5 ⟨rfl, hb⟩; have S5 := Lib.hid (S4.out.next hb); clear hb))
              go_roundw
              case rel =>
                repeat apply Exists.intro
                refine ⟨?_, ?_⟩
                rotate_left
                · rw [show decide ((j : Int) + 1 < 13) = true from decide_eq_true (by omega)]
                · exact ⟨i + 1, by omega, by go_num, by go_num, S5⟩
              case measure => simp [intOf]; omega
            · have hd : (i : Int) = dim Y ((j : Int) + 1) := by omega
              have hs : Hid (cumd Y (j + 1) = cumd Y j + dim Y ((j : Int) + 1)) := rfl
              go_wp2_with (go_at_call 13; refine (refDays_same _ _ _).mono ?_; rintro e w' ⟨rfl, rfl⟩)
              go_roundw
              case rel => exact ⟨j + 1, by omega, by go_num, by rw [hs.out]; go_num, hS⟩
              case measure => simp [intOf]; omega
        · obtain rfl : j = 12 := by omega
          have hs := Lib.hid (dby_succ Y (by omega))
          go_wp2
          go_roundw
          case rel => exact ⟨Y + 1, by omega, by omega, by go_num, by rw [hs.out], hS⟩
          case measure => simp [intOf]; omega
    · obtain rfl : Y = 2003 := by omega
      have S0 := Lib.hid (hS.out.alloc (.cells #[.int .i64 9999, .int .i64 12, .int .i64 31, .int .i64 23, .int .i64 59, .int .i64 59] 23))
      have B0 := Lib.hid (blk_new wr (.cells #[.int .i64 9999, .int .i64 12, .int .i64 31, .int .i64 23, .int .i64 59, .int .i64 59] 23))
      clear bb hc
      go_wp2_with fail
      refine (secs_is 9999 12 31 23 59 59 315569519999 (by decide) (by decide) _ S0.out.t).mono ?_
      rintro e w3 ⟨rfl, hb⟩
      have S3 := Lib.hid (S0.out.next hb)
      have B3 := Lib.hid (blk_below B0.out hb)
      clear hb
      go_wp2_with fail
      refine (at_is6 315569519999 9999 12 31 23 59 59 (by decide) (by decide) _ S3.out.t).mono ?_
      rintro e w4 ⟨rfl, hb⟩
      have S4 := Lib.hid ((S3.out.next hb).alloc (.cells #[.int .i64 9999, .int .i64 12, .int .i64 31, .int .i64 23, .int .i64 59, .int .i64 59] 23))
      have hB := blk_alloc (blk_below B3.out hb) (.cells #[.int .i64 9999, .int .i64 12, .int .i64 31, .int .i64 23, .int .i64 59, .int .i64 59] 23)
      have B4 := Lib.hid hB
      have T4 := Lib.hid (blk_new w4 (.cells #[.int .i64 9999, .int .i64 12, .int .i64 31, .int .i64 23, .int .i64 59, .int .i64 59] 23))
      obtain ⟨c0, c1, c2, c3, c4, c5⟩ := six hB
      clear hb hB
      go_wp2_with fail
      refine (secs_is 9999 12 31 23 59 59 315569519999 (by decide) (by decide) _ S4.out.t).mono ?_
      rintro e w5 ⟨rfl, hb⟩
      have S5 := Lib.hid (S4.out.next hb)
      have B5 := Lib.hid (blk_below B4.out hb)
      have T5 := Lib.hid (blk_below T4.out hb)
      clear hb c0 c1 c2 c3 c4 c5
      go_wp2_with fail
      refine (at_no6 315569520000 _ S5.out.t (.inr (by decide))).mono ?_
      rintro e w6 ⟨rfl, hb⟩
      have S6 := Lib.hid ((S5.out.next hb).alloc (.cells #[.int .i64 0, .int .i64 0, .int .i64 0, .int .i64 0, .int .i64 0, .int .i64 0] 23))
      have B6 := Lib.hid (blk_alloc (blk_below B5.out hb) (.cells #[.int .i64 0, .int .i64 0, .int .i64 0, .int .i64 0, .int .i64 0, .int .i64 0] 23))
      have T6 := Lib.hid (blk_alloc (blk_below T5.out hb) (.cells #[.int .i64 0, .int .i64 0, .int .i64 0, .int .i64 0, .int .i64 0, .int .i64 0] 23))
      clear hb
      go_wp2_with fail
      refine (at_is6 0 0 1 1 0 0 0 (by decide) (by decide) _ S6.out.t).mono ?_
      rintro e w7 ⟨rfl, hb⟩
      have S7 := Lib.hid ((S6.out.next hb).alloc (.cells #[.int .i64 0, .int .i64 1, .int .i64 1, .int .i64 0, .int .i64 0, .int .i64 0] 23))
      have hB := blk_alloc (blk_below B6.out hb) (.cells #[.int .i64 0, .int .i64 1, .int .i64 1, .int .i64 0, .int .i64 0, .int .i64 0] 23)
      have B7 := Lib.hid hB
      obtain ⟨c0, c1, c2, c3, c4, c5⟩ := six hB
      have hU := blk_alloc (blk_below T6.out hb) (.cells #[.int .i64 0, .int .i64 1, .int .i64 1, .int .i64 0, .int .i64 0, .int .i64 0] 23)
      obtain ⟨t0, t1, t2, t3, t4, t5⟩ := six hU
      clear hb hB hU
      go_wp2_with fail
      refine (secs_is 9999 12 31 23 59 59 315569519999 (by decide) (by decide) _ S7.out.t).mono ?_
      rintro e w8 ⟨rfl, hb⟩
      have S8 := Lib.hid (S7.out.next hb)
      clear hb c0 c1 c2 c3 c4 c5 t0 t1 t2 t3 t4 t5
      have S9 := Lib.hid ((S8.out.alloc (.cells #[.int .i64 0, .int .i64 1949, .int .i64 1950, .int .i64 1999, .int .i64 2000, .int .i64 2049, .int .i64 2050, .int .i64 9999] 3 (0, 0))).alloc (.cells #[.int .u32 24, .int .u32 24, .int .u32 23, .int .u32 23, .int .u32 23, .int .u32 23, .int .u32 24, .int .u32 24] 31 (0, 0)))
      have Y9 := Lib.hid (blk_alloc (blk_new w8 (.cells #[.int .i64 0, .int .i64 1949, .int .i64 1950, .int .i64 1999, .int .i64 2000, .int .i64 2049, .int .i64 2050, .int .i64 9999] 3 (0, 0))) (.cells #[.int .u32 24, .int .u32 24, .int .u32 23, .int .u32 23, .int .u32 23, .int .u32 23, .int .u32 24, .int .u32 24] 31 (0, 0)))
      have G9 : Hid (((w8.alloc (.cells #[.int .i64 0, .int .i64 1949, .int .i64 1950, .int .i64 1999, .int .i64 2000, .int .i64 2049, .int .i64 2050, .int .i64 9999] 3 (0, 0))).alloc (.cells #[.int .u32 24, .int .u32 24, .int .u32 23, .int .u32 23, .int .u32 23, .int .u32 23, .int .u32 24, .int .u32 24] 31 (0, 0))).heap[w8.heap.size + 1]? = some (.cells #[.int .u32 24, .int .u32 24, .int .u32 23, .int .u32 23, .int .u32 23, .int .u32 23, .int .u32 24, .int .u32 24] 31 (0, 0))) := by
        have := blk_new (w8.alloc (.cells #[.int .i64 0, .int .i64 1949, .int .i64 1950, .int .i64 1999, .int .i64 2000, .int .i64 2049, .int .i64 2050, .int .i64 9999] 3 (0, 0))) (.cells #[.int .u32 24, .int .u32 24, .int .u32 23, .int .u32 23, .int .u32 23, .int .u32 23, .int .u32 24, .int .u32 24] 31 (0, 0))
        show _ = _
        simpa using this
      go_wp2_with fail
      go_loopw [17] (fun i wr => ∃ k : Nat, k ≤ 8 ∧ i = .int .i64 (k : Int) ∧ Hid (St w wr) ∧ Hid (wr.heap[w8.heap.size]? = some (.cells #[.int .i64 0, .int .i64 1949, .int .i64 1950, .int .i64 1999, .int .i64 2000, .int .i64 2049, .int .i64 2050, .int .i64 9999] 3 (0, 0))) ∧ Hid (wr.heap[w8.heap.size + 1]? = some (.cells #[.int .u32 24, .int .u32 24, .int .u32 23, .int .u32 23, .int .u32 23, .int .u32 23, .int .u32 24, .int .u32 24] 31 (0, 0)))) (fun i _ => 8 - (intOf i).toNat)
      case atStart => exact ⟨0, by omega, rfl, S9, Y9, G9⟩
      case round =>
        obtain ⟨k, hk, rfl, hS, hY, hG⟩ := hrel
        clear S9 Y9 G9
        obtain ⟨y0, y1, y2, y3, y4, y5, y6, y7⟩ := eight hY.out
        rcases (show k = 8 ∨ k < 8 by omega) with rfl | hk8
        · clear y0 y1 y2 y3 y4 y5 y6 y7
          have hA := six (blk_alloc (blk_new wr (.cells #[.int .i64 1600, .int .i64 3, .int .i64 1, .int .i64 0, .int .i64 0, .int .i64 0] 23)) (.cells #[.int .i64 2000, .int .i64 3, .int .i64 1, .int .i64 0, .int .i64 0, .int .i64 0] 23))
          have hB : ((wr.alloc (.cells #[.int .i64 1600, .int .i64 3, .int .i64 1, .int .i64 0, .int .i64 0, .int .i64 0] 23)).alloc (.cells #[.int .i64 2000, .int .i64 3, .int .i64 1, .int .i64 0, .int .i64 0, .int .i64 0] 23)).heap[wr.heap.size + 1]? = some (.cells #[.int .i64 2000, .int .i64 3, .int .i64 1, .int .i64 0, .int .i64 0, .int .i64 0] 23 (0, 0)) := by
            have := blk_new (wr.alloc (.cells #[.int .i64 1600, .int .i64 3, .int .i64 1, .int .i64 0, .int .i64 0, .int .i64 0] 23)) (.cells #[.int .i64 2000, .int .i64 3, .int .i64 1, .int .i64 0, .int .i64 0, .int .i64 0] 23)
            simpa using this
          have hB' := six hB
          have h12 := Lib.hid (⟨hA.1, hA.2.1, hA.2.2.1, hA.2.2.2.1, hA.2.2.2.2.1, hA.2.2.2.2.2, hB'.1, hB'.2.1, hB'.2.2.1, hB'.2.2.2.1, hB'.2.2.2.2.1, hB'.2.2.2.2.2, (hS.out.alloc _).alloc _⟩ : ((wr.alloc (.cells #[.int .i64 1600, .int .i64 3, .int .i64 1, .int .i64 0, .int .i64 0, .int .i64 0] 23)).alloc (.cells #[.int .i64 2000, .int .i64 3, .int .i64 1, .int .i64 0, .int .i64 0, .int .i64 0] 23)).cell? ⟨wr.heap.size, 0, none⟩ = some (.int .i64 1600) ∧ ((wr.alloc (.cells #[.int .i64 1600, .int .i64 3, .int .i64 1, .int .i64 0, .int .i64 0, .int .i64 0] 23)).alloc (.cells #[.int .i64 2000, .int .i64 3, .int .i64 1, .int .i64 0, .int .i64 0, .int .i64 0] 23)).cell? ⟨wr.heap.size, 1, none⟩ = some (.int .i64 3) ∧ ((wr.alloc (.cells #[.int .i64 1600, .int .i64 3, .int .i64 1, .int .i64 0, .int .i64 0, .int .i64 0] 23)).alloc (.cells #[.int .i64 2000, .int .i64 3, .int .i64 1, .int .i64 0, .int .i64 0, .int .i64 0] 23)).cell? ⟨wr.heap.size, 2, none⟩ = some (.int .i64 1) ∧ ((wr.alloc (.cells #[.int .i64 1600, .int .i64 3, .int .i64 1, .int .i64 0, .int .i64 0, .int .i64 0] 23)).alloc (.cells #[.int .i64 2000, .int .i64 3, .int .i64 1, .int .i64 0, .int .i64 0, .int .i64 0] 23)).cell? ⟨wr.heap.size, 3, none⟩ = some (.int .i64 0) ∧ ((wr.alloc (.cells #[.int .i64 1600, .int .i64 3, .int .i64 1, .int .i64 0, .int .i64 0, .int .i64 0] 23)).alloc (.cells #[.int .i64 2000, .int .i64 3, .int .i64 1, .int .i64 0, .int .i64 0, .int .i64 0] 23)).cell? ⟨wr.heap.size, 4, none⟩ = some (.int .i64 0) ∧ ((wr.alloc (.cells #[.int .i64 1600, .int .i64 3, .int .i64 1, .int .i64 0, .int .i64 0, .int .i64 0] 23)).alloc (.cells #[.int .i64 2000, .int .i64 3, .int .i64 1, .int .i64 0, .int .i64 0, .int .i64 0] 23)).cell? ⟨wr.heap.size, 5, none⟩ = some (.int .i64 0) ∧ ((wr.alloc (.cells #[.int .i64 1600, .int .i64 3, .int .i64 1, .int .i64 0, .int .i64 0, .int .i64 0] 23)).alloc (.cells #[.int .i64 2000, .int .i64 3, .int .i64 1, .int .i64 0, .int .i64 0, .int .i64 0] 23)).cell? ⟨(wr.heap.size + 1), 0, none⟩ = some (.int .i64 2000) ∧ ((wr.alloc (.cells #[.int .i64 1600, .int .i64 3, .int .i64 1, .int .i64 0, .int .i64 0, .int .i64 0] 23)).alloc (.cells #[.int .i64 2000, .int .i64 3, .int .i64 1, .int .i64 0, .int .i64 0, .int .i64 0] 23)).cell? ⟨(wr.heap.size + 1), 1, none⟩ = some (.int .i64 3) ∧ ((wr.alloc (.cells #[.int .i64 1600, .int .i64 3, .int .i64 1, .int .i64 0, .int .i64 0, .int .i64 0] 23)).alloc (.cells #[.int .i64 2000, .int .i64 3, .int .i64 1, .int .i64 0, .int .i64 0, .int .i64 0] 23)).cell? ⟨(wr.heap.size + 1), 2, none⟩ = some (.int .i64 1) ∧ ((wr.alloc (.cells #[.int .i64 1600, .int .i64 3, .int .i64 1, .int .i64 0, .int .i64 0, .int .i64 0] 23)).alloc (.cells #[.int .i64 2000, .int .i64 3, .int .i64 1, .int .i64 0, .int .i64 0, .int .i64 0] 23)).cell? ⟨(wr.heap.size + 1), 3, none⟩ = some (.int .i64 0) ∧ ((wr.alloc (.cells #[.int .i64 1600, .int .i64 3, .int .i64 1, .int .i64 0, .int .i64 0, .int .i64 0] 23)).alloc (.cells #[.int .i64 2000, .int .i64 3, .int .i64 1, .int .i64 0, .int .i64 0, .int .i64 0] 23)).cell? ⟨(wr.heap.size + 1), 4, none⟩ = some (.int .i64 0) ∧ ((wr.alloc (.cells #[.int .i64 1600, .int .i64 3, .int .i64 1, .int .i64 0, .int .i64 0, .int .i64 0] 23)).alloc (.cells #[.int .i64 2000, .int .i64 3, .int .i64 1, .int .i64 0, .int .i64 0, .int .i64 0] 23)).cell? ⟨(wr.heap.size + 1), 5, none⟩ = some (.int .i64 0) ∧ St w ((wr.alloc (.cells #[.int .i64 1600, .int .i64 3, .int .i64 1, .int .i64 0, .int .i64 0, .int .i64 0] 23)).alloc (.cells #[.int .i64 2000, .int .i64 3, .int .i64 1, .int .i64 0, .int .i64 0, .int .i64 0] 23)))
          clear hA hB hB'
          go_wp2_with fail
          have h12' := h12.out
          go_region_held3 (fun W => W.cell? ⟨wr.heap.size, 0, none⟩ = some (.int .i64 1600) ∧ W.cell? ⟨wr.heap.size, 1, none⟩ = some (.int .i64 3) ∧ W.cell? ⟨wr.heap.size, 2, none⟩ = some (.int .i64 1) ∧ W.cell? ⟨wr.heap.size, 3, none⟩ = some (.int .i64 0) ∧ W.cell? ⟨wr.heap.size, 4, none⟩ = some (.int .i64 0) ∧ W.cell? ⟨wr.heap.size, 5, none⟩ = some (.int .i64 0) ∧ W.cell? ⟨(wr.heap.size + 1), 0, none⟩ = some (.int .i64 2000) ∧ W.cell? ⟨(wr.heap.size + 1), 1, none⟩ = some (.int .i64 3) ∧ W.cell? ⟨(wr.heap.size + 1), 2, none⟩ = some (.int .i64 1) ∧ W.cell? ⟨(wr.heap.size + 1), 3, none⟩ = some (.int .i64 0) ∧ W.cell? ⟨(wr.heap.size + 1), 4, none⟩ = some (.int .i64 0) ∧ W.cell? ⟨(wr.heap.size + 1), 5, none⟩ = some (.int .i64 0) ∧ St w W)
            (first | assumption | exact twelve_next (cell_lt (And.left (by assumption))) (cell_lt (sixth_cell (by assumption))) (by assumption) (by assumption) | exact twelve_next (cell_lt h12'.1) (cell_lt (sixth_cell h12')) h12' ((Below.refl _ _).drew))
            (first
              | (go_at_call_of 18 (2000 : Int); ((with_reducible refine (secs_is 2000 3 1 0 0 0 63119088000 (by decide) (by decide) _ (St.t (w := w) (seventh (by assumption)))).mono ?_); rintro e w' ⟨rfl, hb⟩))
              | (go_at_call_of 18 (1600 : Int); ((with_reducible refine (secs_is 1600 3 1 0 0 0 50496307200 (by decide) (by decide) _ (St.t (w := w) (seventh (by assumption)))).mono ?_); rintro e w' ⟨rfl, hb⟩))
              | (go_at_call 10; ((with_reducible refine (leap_same (-400) true (by decide) _).mono ?_); rintro e w' ⟨rfl, hb⟩))
              | (go_at_call 10; ((with_reducible refine (leap_same (-100) false (by decide) _).mono ?_); rintro e w' ⟨rfl, hb⟩))
              | (go_at_call 10; ((with_reducible refine (leap_same (-4) true (by decide) _).mono ?_); rintro e w' ⟨rfl, hb⟩))
              | (go_at_call 12; ((with_reducible refine (days_below (-9223372036854775808) 2 29 (by decide) _ (St.t (w := w) (seventh (by assumption)))).mono ?_); rintro e w' ⟨rfl, hb⟩))
              | (go_at_call 16; ((with_reducible refine (lives_yes _ (St.t (w := w) (seventh (by assumption)))).mono ?_); rintro e w' ⟨rfl, hb⟩)))
          go_wp2
          go_ret
          exact ⟨rfl, St.b (w := w) (seventh (by assumption))⟩
        · rcases (show k = 0 ∨ k = 1 ∨ k = 2 ∨ k = 3 ∨ k = 4 ∨ k = 5 ∨ k = 6 ∨ k = 7 by omega) with rfl | rfl | rfl | rfl | rfl | rfl | rfl | rfl
          · have H17 := Lib.hid (fun W hW => known_el 0 24 (by decide) (by decide) W hW)
            go_wp2_with (go_at_call 17; refine (H17.out _ hS.out.t).mono ?_; rintro e w9 ⟨g, N, rfl, hb⟩; have S9 := Lib.hid ((hS.out.next hb).alloc (.cells #[.int .u8 0, .bool false, .int .u32 24, .slice (some ⟨g, 0, none⟩) N N, .slice none 0 0] 37)); have Y9 := Lib.hid (blk_alloc (blk_below hY.out hb) (.cells #[.int .u8 0, .bool false, .int .u32 24, .slice (some ⟨g, 0, none⟩) N N, .slice none 0 0] 37)); have hG := blk_alloc (blk_below hG.out hb) (.cells #[.int .u8 0, .bool false, .int .u32 24, .slice (some ⟨g, 0, none⟩) N N, .slice none 0 0] 37); have G9 := Lib.hid hG; obtain ⟨g0, g1, g2, g3, g4, g5, g6, g7⟩ := eight hG; clear hb hG)
            go_quiet (fail)
            go_wp2
            go_roundw
            case rel => exact ⟨1, by omega, rfl, S9.out.drewN _, blk_below Y9.out (below_drewN (Below.refl _ _) _), blk_below G9.out (below_drewN (Below.refl _ _) _)⟩
            case measure => simp [intOf]
          · have H17 := Lib.hid (fun W hW => known_el 1949 24 (by decide) (by decide) W hW)
            go_wp2_with (go_at_call 17; refine (H17.out _ hS.out.t).mono ?_; rintro e w9 ⟨g, N, rfl, hb⟩; have S9 := Lib.hid ((hS.out.next hb).alloc (.cells #[.int .u8 0, .bool false, .int .u32 24, .slice (some ⟨g, 0, none⟩) N N, .slice none 0 0] 37)); have Y9 := Lib.hid (blk_alloc (blk_below hY.out hb) (.cells #[.int .u8 0, .bool false, .int .u32 24, .slice (some ⟨g, 0, none⟩) N N, .slice none 0 0] 37)); have hG := blk_alloc (blk_below hG.out hb) (.cells #[.int .u8 0, .bool false, .int .u32 24, .slice (some ⟨g, 0, none⟩) N N, .slice none 0 0] 37); have G9 := Lib.hid hG; obtain ⟨g0, g1, g2, g3, g4, g5, g6, g7⟩ := eight hG; clear hb hG)
            go_quiet (fail)
            go_wp2
            go_roundw
            case rel => exact ⟨2, by omega, rfl, S9.out.drewN _, blk_below Y9.out (below_drewN (Below.refl _ _) _), blk_below G9.out (below_drewN (Below.refl _ _) _)⟩
            case measure => simp [intOf]
          · have H17 := Lib.hid (fun W hW => known_el 1950 23 (by decide) (by decide) W hW)
            go_wp2_with (go_at_call 17; refine (H17.out _ hS.out.t).mono ?_; rintro e w9 ⟨g, N, rfl, hb⟩; have S9 := Lib.hid ((hS.out.next hb).alloc (.cells #[.int .u8 0, .bool false, .int .u32 23, .slice (some ⟨g, 0, none⟩) N N, .slice none 0 0] 37)); have Y9 := Lib.hid (blk_alloc (blk_below hY.out hb) (.cells #[.int .u8 0, .bool false, .int .u32 23, .slice (some ⟨g, 0, none⟩) N N, .slice none 0 0] 37)); have hG := blk_alloc (blk_below hG.out hb) (.cells #[.int .u8 0, .bool false, .int .u32 23, .slice (some ⟨g, 0, none⟩) N N, .slice none 0 0] 37); have G9 := Lib.hid hG; obtain ⟨g0, g1, g2, g3, g4, g5, g6, g7⟩ := eight hG; clear hb hG)
            go_quiet (fail)
            go_wp2
            go_roundw
            case rel => exact ⟨3, by omega, rfl, S9.out.drewN _, blk_below Y9.out (below_drewN (Below.refl _ _) _), blk_below G9.out (below_drewN (Below.refl _ _) _)⟩
            case measure => simp [intOf]
          · have H17 := Lib.hid (fun W hW => known_el 1999 23 (by decide) (by decide) W hW)
            go_wp2_with (go_at_call 17; refine (H17.out _ hS.out.t).mono ?_; rintro e w9 ⟨g, N, rfl, hb⟩; have S9 := Lib.hid ((hS.out.next hb).alloc (.cells #[.int .u8 0, .bool false, .int .u32 23, .slice (some ⟨g, 0, none⟩) N N, .slice none 0 0] 37)); have Y9 := Lib.hid (blk_alloc (blk_below hY.out hb) (.cells #[.int .u8 0, .bool false, .int .u32 23, .slice (some ⟨g, 0, none⟩) N N, .slice none 0 0] 37)); have hG := blk_alloc (blk_below hG.out hb) (.cells #[.int .u8 0, .bool false, .int .u32 23, .slice (some ⟨g, 0, none⟩) N N, .slice none 0 0] 37); have G9 := Lib.hid hG; obtain ⟨g0, g1, g2, g3, g4, g5, g6, g7⟩ := eight hG; clear hb hG)
            go_quiet (fail)
            go_wp2
            go_roundw
            case rel => exact ⟨4, by omega, rfl, S9.out.drewN _, blk_below Y9.out (below_drewN (Below.refl _ _) _), blk_below G9.out (below_drewN (Below.refl _ _) _)⟩
            case measure => simp [intOf]
          · have H17 := Lib.hid (fun W hW => known_el 2000 23 (by decide) (by decide) W hW)
            go_wp2_with (go_at_call 17; refine (H17.out _ hS.out.t).mono ?_; rintro e w9 ⟨g, N, rfl, hb⟩; have S9 := Lib.hid ((hS.out.next hb).alloc (.cells #[.int .u8 0, .bool false, .int .u32 23, .slice (some ⟨g, 0, none⟩) N N, .slice none 0 0] 37)); have Y9 := Lib.hid (blk_alloc (blk_below hY.out hb) (.cells #[.int .u8 0, .bool false, .int .u32 23, .slice (some ⟨g, 0, none⟩) N N, .slice none 0 0] 37)); have hG := blk_alloc (blk_below hG.out hb) (.cells #[.int .u8 0, .bool false, .int .u32 23, .slice (some ⟨g, 0, none⟩) N N, .slice none 0 0] 37); have G9 := Lib.hid hG; obtain ⟨g0, g1, g2, g3, g4, g5, g6, g7⟩ := eight hG; clear hb hG)
            go_quiet (fail)
            go_wp2
            go_roundw
            case rel => exact ⟨5, by omega, rfl, S9.out.drewN _, blk_below Y9.out (below_drewN (Below.refl _ _) _), blk_below G9.out (below_drewN (Below.refl _ _) _)⟩
            case measure => simp [intOf]
          · have H17 := Lib.hid (fun W hW => known_el 2049 23 (by decide) (by decide) W hW)
            go_wp2_with (go_at_call 17; refine (H17.out _ hS.out.t).mono ?_; rintro e w9 ⟨g, N, rfl, hb⟩; have S9 := Lib.hid ((hS.out.next hb).alloc (.cells #[.int .u8 0, .bool false, .int .u32 23, .slice (some ⟨g, 0, none⟩) N N, .slice none 0 0] 37)); have Y9 := Lib.hid (blk_alloc (blk_below hY.out hb) (.cells #[.int .u8 0, .bool false, .int .u32 23, .slice (some ⟨g, 0, none⟩) N N, .slice none 0 0] 37)); have hG := blk_alloc (blk_below hG.out hb) (.cells #[.int .u8 0, .bool false, .int .u32 23, .slice (some ⟨g, 0, none⟩) N N, .slice none 0 0] 37); have G9 := Lib.hid hG; obtain ⟨g0, g1, g2, g3, g4, g5, g6, g7⟩ := eight hG; clear hb hG)
            go_quiet (fail)
            go_wp2
            go_roundw
            case rel => exact ⟨6, by omega, rfl, S9.out.drewN _, blk_below Y9.out (below_drewN (Below.refl _ _) _), blk_below G9.out (below_drewN (Below.refl _ _) _)⟩
            case measure => simp [intOf]
          · have H17 := Lib.hid (fun W hW => known_el 2050 24 (by decide) (by decide) W hW)
            go_wp2_with (go_at_call 17; refine (H17.out _ hS.out.t).mono ?_; rintro e w9 ⟨g, N, rfl, hb⟩; have S9 := Lib.hid ((hS.out.next hb).alloc (.cells #[.int .u8 0, .bool false, .int .u32 24, .slice (some ⟨g, 0, none⟩) N N, .slice none 0 0] 37)); have Y9 := Lib.hid (blk_alloc (blk_below hY.out hb) (.cells #[.int .u8 0, .bool false, .int .u32 24, .slice (some ⟨g, 0, none⟩) N N, .slice none 0 0] 37)); have hG := blk_alloc (blk_below hG.out hb) (.cells #[.int .u8 0, .bool false, .int .u32 24, .slice (some ⟨g, 0, none⟩) N N, .slice none 0 0] 37); have G9 := Lib.hid hG; obtain ⟨g0, g1, g2, g3, g4, g5, g6, g7⟩ := eight hG; clear hb hG)
            go_quiet (fail)
            go_wp2
            go_roundw
            case rel => exact ⟨7, by omega, rfl, S9.out.drewN _, blk_below Y9.out (below_drewN (Below.refl _ _) _), blk_below G9.out (below_drewN (Below.refl _ _) _)⟩
            case measure => simp [intOf]
          · have H17 := Lib.hid (fun W hW => known_el 9999 24 (by decide) (by decide) W hW)
            go_wp2_with (go_at_call 17; refine (H17.out _ hS.out.t).mono ?_; rintro e w9 ⟨g, N, rfl, hb⟩; have S9 := Lib.hid ((hS.out.next hb).alloc (.cells #[.int .u8 0, .bool false, .int .u32 24, .slice (some ⟨g, 0, none⟩) N N, .slice none 0 0] 37)); have Y9 := Lib.hid (blk_alloc (blk_below hY.out hb) (.cells #[.int .u8 0, .bool false, .int .u32 24, .slice (some ⟨g, 0, none⟩) N N, .slice none 0 0] 37)); have hG := blk_alloc (blk_below hG.out hb) (.cells #[.int .u8 0, .bool false, .int .u32 24, .slice (some ⟨g, 0, none⟩) N N, .slice none 0 0] 37); have G9 := Lib.hid hG; obtain ⟨g0, g1, g2, g3, g4, g5, g6, g7⟩ := eight hG; clear hb hG)
            go_quiet (fail)
            go_wp2
            go_roundw
            case rel => exact ⟨8, by omega, rfl, S9.out.drewN _, blk_below Y9.out (below_drewN (Below.refl _ _) _), blk_below G9.out (below_drewN (Below.refl _ _) _)⟩
            case measure => simp [intOf]
end Go.Proofs.YtbncjjobdipmgaaDoor
