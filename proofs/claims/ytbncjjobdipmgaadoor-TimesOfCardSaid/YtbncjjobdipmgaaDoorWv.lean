/- Chapter 10 (times): lives: the chapter's examples hold. -/
import Derived.Test.YtbncjjobdipmgaaDoorWu
namespace Go.Proofs.YtbncjjobdipmgaaDoor
open Go.RowKit Pl

theorem cells_below {w w' : World} {g : Nat} {L : List UInt8} (hp : 0 < L.length) (h : ∀ i (h : i < L.length), w.cell? ⟨g, i, none⟩ = some (.int .u8 (L[i].toNat : Int))) (hb : Below w.heap.size w w') :
    ∀ i (h : i < L.length), w'.cell? ⟨g, i, none⟩ = some (.int .u8 (L[i].toNat : Int)) := fun i hi => by
  rw [hb.cell (p := ⟨g, i, none⟩) (cell_lt (h 0 hp))]; exact h i hi
theorem cells_alloc {w : World} {g : Nat} {L : List UInt8} (hp : 0 < L.length) (h : ∀ i (h : i < L.length), w.cell? ⟨g, i, none⟩ = some (.int .u8 (L[i].toNat : Int))) (o : Obj) :
    ∀ i (h : i < L.length), (w.alloc o).cell? ⟨g, i, none⟩ = some (.int .u8 (L[i].toNat : Int)) := cells_below hp h ((Below.refl _ _).alloc (Nat.le_refl _) o)
theorem is_at (num : Int) (L : List UInt8) (n : Nat) (hn : L.length = n) (hL : n ≤ 1000000) (hpos : 0 < n) (g : Nat) (s : ByteArray) (hs : s = ⟨L.toArray⟩) (w : World) (hc : Hid (∀ i (h : i < L.length), w.cell? ⟨g, i, none⟩ = some (.int .u8 (L[i].toNat : Int)))) :
    Calls Tryd.prog 22 #[.agg #[.int .u8 0, .bool false, .int .u32 num, .slice (some ⟨g, 0, none⟩) n n, .slice none 0 0], .int .i64 0, .int .u32 num, .string s] w fun e w' => e = .returned (.bool true) ∧ Below w.heap.size w w' := by
  subst hn; subst hs; exact is_yes num L g w hL hpos hc

theorem at_is6 (n y mo d h mi s : Int) (ht : okB y mo d h mi s = true) (hn : secs y mo d h mi s = n) (w : World) (hT : Tabs w) :
    Calls Tryd.prog 30 #[.int .i64 n] w fun e w' => e = .returned (.tuple #[.agg #[.int .i64 y, .int .i64 mo, .int .i64 d, .int .i64 h, .int .i64 mi, .int .i64 s], .int .i64 0]) ∧ Below w.heap.size w w' := at_is n ⟨y, mo, d, h, mi, s⟩ ht hn w hT
theorem at_no6 (n : Int) (w : World) (hT : Tabs w) (h : n < 0 ∨ 315569520000 ≤ n) :
    Calls Tryd.prog 30 #[.int .i64 n] w fun e w' => e = .returned (.tuple #[.agg #[.int .i64 0, .int .i64 0, .int .i64 0, .int .i64 0, .int .i64 0, .int .i64 0], .int .i64 1]) ∧ Below w.heap.size w w' := at_no n w hT h

set_option maxHeartbeats 16000000 in
set_option maxRecDepth 100000 in
theorem lives_yes (w : World) (hT : Tabs w) : Calls Tryd.prog 16 #[] w fun e w' => e = .returned (.bool true) ∧ Below w.heap.size w w' := by
  have hS1 : St w ((w.alloc (.cells #[.int .i64 0, .int .i64 0, .int .i64 0, .int .i64 0, .int .i64 0, .int .i64 0] 23)).alloc (.cells #[.int .i64 1999, .int .i64 12, .int .i64 31, .int .i64 23, .int .i64 59, .int .i64 59] 23)) := ((St.refl hT).alloc _).alloc _
  have hN1 : ((w.alloc (.cells #[.int .i64 0, .int .i64 0, .int .i64 0, .int .i64 0, .int .i64 0, .int .i64 0] 23)).alloc (.cells #[.int .i64 1999, .int .i64 12, .int .i64 31, .int .i64 23, .int .i64 59, .int .i64 59] 23)).heap[w.heap.size]? = some (.cells #[.int .i64 0, .int .i64 0, .int .i64 0, .int .i64 0, .int .i64 0, .int .i64 0] 23 (0, 0)) := blk_alloc (blk_new _ _) _
  have hE1 : ((w.alloc (.cells #[.int .i64 0, .int .i64 0, .int .i64 0, .int .i64 0, .int .i64 0, .int .i64 0] 23)).alloc (.cells #[.int .i64 1999, .int .i64 12, .int .i64 31, .int .i64 23, .int .i64 59, .int .i64 59] 23)).heap[w.heap.size + 1]? = some (.cells #[.int .i64 1999, .int .i64 12, .int .i64 31, .int .i64 23, .int .i64 59, .int .i64 59] 23 (0, 0)) := by
    have := blk_new (w.alloc (.cells #[.int .i64 0, .int .i64 0, .int .i64 0, .int .i64 0, .int .i64 0, .int .i64 0] 23)) (.cells #[.int .i64 1999, .int .i64 12, .int .i64 31, .int .i64 23, .int .i64 59, .int .i64 59] 23)
    simpa using this
  have S1 := Lib.hid hS1
  have N1 := Lib.hid hN1
  have E1 := Lib.hid hE1
  have hT1 := hT.alloc (.cells #[.int .i64 0, .int .i64 0, .int .i64 0, .int .i64 0, .int .i64 0, .int .i64 0] 23)
  have HT1 := Lib.hid hT1
  clear hS1 hN1 hE1 hT1
  go_enter Tryd.func16, Tryd.ntmps16
  go_wp2_with (first
    | (go_at_call 10; ((with_reducible refine (leap_is 2000 true (by decide) _).mono ?_); rintro e w' ⟨rfl, rfl⟩))
    | (go_at_call 10; ((with_reducible refine (leap_is 1900 false (by decide) _).mono ?_); rintro e w' ⟨rfl, rfl⟩))
    | (go_at_call 10; ((with_reducible refine (leap_is 2024 true (by decide) _).mono ?_); rintro e w' ⟨rfl, rfl⟩))
    | (go_at_call 12; ((with_reducible refine (days_is 2023 2 28 (by decide) _ HT1.out).mono ?_); rintro e w' ⟨rfl, rfl⟩))
    | (go_at_call 12; ((with_reducible refine (days_is 2024 2 29 (by decide) _ HT1.out).mono ?_); rintro e w' ⟨rfl, rfl⟩))
    | (go_at_call 12; ((with_reducible refine (days_is 2024 13 0 (by decide) _ HT1.out).mono ?_); rintro e w' ⟨rfl, rfl⟩)))
  refine (elem_is 1999 12 31 23 59 59 23 L1 (by decide) (by decide) hL1 _ S1.out.t).mono ?_
  rintro e w1 ⟨g1, rfl, hc1, hb1⟩
  have S2 := Lib.hid ((S1.out.next hb1).alloc (.cells #[.int .u8 0, .bool false, .int .u32 23, .slice (some ⟨g1, 0, none⟩) L1.length L1.length, .slice none 0 0] 37))
  have N2 := Lib.hid (blk_alloc (blk_below N1.out hb1) (.cells #[.int .u8 0, .bool false, .int .u32 23, .slice (some ⟨g1, 0, none⟩) L1.length L1.length, .slice none 0 0] 37))
  have E2 := Lib.hid (blk_alloc (blk_below E1.out hb1) (.cells #[.int .u8 0, .bool false, .int .u32 23, .slice (some ⟨g1, 0, none⟩) L1.length L1.length, .slice none 0 0] 37))
  have P2 := Lib.hid (blk_new w1 (.cells #[.int .u8 0, .bool false, .int .u32 23, .slice (some ⟨g1, 0, none⟩) L1.length L1.length, .slice none 0 0] 37))
  have C2 := Lib.hid (cells_alloc (by decide) hc1 (.cells #[.int .u8 0, .bool false, .int .u32 23, .slice (some ⟨g1, 0, none⟩) L1.length L1.length, .slice none 0 0] 37))
  clear hc1 hb1
  go_wp2_with fail
  refine (elem_is 2050 1 1 0 0 0 24 L2 (by decide) (by decide) hL2 _ S2.out.t).mono ?_
  rintro e w2 ⟨g2, rfl, hc2, hb2⟩
  have S3 := Lib.hid ((S2.out.next hb2).alloc (.cells #[.int .u8 0, .bool false, .int .u32 24, .slice (some ⟨g2, 0, none⟩) L2.length L2.length, .slice none 0 0] 37))
  have N3 := Lib.hid (blk_alloc (blk_below N2.out hb2) (.cells #[.int .u8 0, .bool false, .int .u32 24, .slice (some ⟨g2, 0, none⟩) L2.length L2.length, .slice none 0 0] 37))
  have E3 := Lib.hid (blk_alloc (blk_below E2.out hb2) (.cells #[.int .u8 0, .bool false, .int .u32 24, .slice (some ⟨g2, 0, none⟩) L2.length L2.length, .slice none 0 0] 37))
  have hP3 := blk_alloc (blk_below P2.out hb2) (.cells #[.int .u8 0, .bool false, .int .u32 24, .slice (some ⟨g2, 0, none⟩) L2.length L2.length, .slice none 0 0] 37)
  have P3 := Lib.hid hP3
  have hQ3 := blk_new w2 (.cells #[.int .u8 0, .bool false, .int .u32 24, .slice (some ⟨g2, 0, none⟩) L2.length L2.length, .slice none 0 0] 37)
  have Q3 := Lib.hid hQ3
  have C3 := Lib.hid (cells_alloc (by decide) (cells_below (by decide) C2.out hb2) (.cells #[.int .u8 0, .bool false, .int .u32 24, .slice (some ⟨g2, 0, none⟩) L2.length L2.length, .slice none 0 0] 37))
  have D3 := Lib.hid (cells_alloc (by decide) hc2 (.cells #[.int .u8 0, .bool false, .int .u32 24, .slice (some ⟨g2, 0, none⟩) L2.length L2.length, .slice none 0 0] 37))
  obtain ⟨p0, p1, p2, p3, p4⟩ := five hP3
  clear hc2 hb2 hP3 hQ3
  go_wp2_with fail
  refine (is_at 23 L1 L1.length rfl (by decide) (by decide) g1 _ rfl _ C3).mono ?_
  rintro e w3 ⟨rfl, hb3⟩
  have S4 := Lib.hid (S3.out.next hb3)
  have N4 := Lib.hid (blk_below N3.out hb3)
  have E4 := Lib.hid (blk_below E3.out hb3)
  have hQ4 := blk_below Q3.out hb3
  have D4 := Lib.hid (cells_below (by decide) D3.out hb3)
  obtain ⟨p0, p1, p2, p3, p4⟩ := five hQ4
  clear hb3 hQ4
  go_wp2_with fail
  refine (is_at 24 L2 L2.length rfl (by decide) (by decide) g2 _ rfl _ D4).mono ?_
  rintro e w4 ⟨rfl, hb4⟩
  have S5 := Lib.hid (S4.out.next hb4)
  have N5 := Lib.hid (blk_below N4.out hb4)
  have E5 := Lib.hid (blk_below E4.out hb4)
  clear hb4
  go_wp2_with fail
  refine (of_yes 23 (by omega) [53, 48, 48, 49, 48, 49, 48, 48, 48, 48, 48, 48, 90] ⟨1950, 1, 1, 0, 0, 0⟩ 0 _ S5.out.t (by decide) f1).mono ?_
  rintro e w5 ⟨rfl, hb5⟩
  have S6 := Lib.hid (S5.out.next hb5)
  have hN := blk_below N5.out hb5
  have N6 := Lib.hid hN
  have E6 := Lib.hid (blk_below E5.out hb5)
  clear hb5 hN
  go_wp2_with fail
  refine (of_yes 23 (by omega) [52, 57, 48, 49, 48, 49, 48, 48, 48, 48, 48, 48, 90] ⟨2049, 1, 1, 0, 0, 0⟩ 0 _ S6.out.t (by decide) f2).mono ?_
  rintro e w6 ⟨rfl, hb6⟩
  have S7 := Lib.hid (S6.out.next hb6)
  have hN := blk_below N6.out hb6
  have N7 := Lib.hid hN
  have E7 := Lib.hid (blk_below E6.out hb6)
  obtain ⟨n0, n1, n2, n3, n4, n5⟩ := six hN
  clear hb6 hN
  go_wp2_with fail
  refine (of_yes 23 (by omega) [57, 57, 48, 50, 50, 57, 48, 48, 48, 48, 48, 48, 90] Tm.zero 11 _ S7.out.t (by decide) f3).mono ?_
  rintro e w7 ⟨rfl, hb7⟩
  have S8 := Lib.hid (S7.out.next hb7)
  have hN := blk_below N7.out hb7
  have N8 := Lib.hid hN
  have E8 := Lib.hid (blk_below E7.out hb7)
  obtain ⟨n0, n1, n2, n3, n4, n5⟩ := six hN
  clear hb7 hN
  go_wp2_with fail
  refine (of_yes 24 (by omega) [50, 48, 52, 57, 48, 49, 48, 49, 48, 48, 48, 48, 48, 48, 90] Tm.zero 11 _ S8.out.t (by decide) f4).mono ?_
  rintro e w8 ⟨rfl, hb8⟩
  have S9 := Lib.hid (S8.out.next hb8)
  have hN := blk_below N8.out hb8
  have N9 := Lib.hid hN
  have E9 := Lib.hid (blk_below E8.out hb8)
  obtain ⟨n0, n1, n2, n3, n4, n5⟩ := six hN
  clear hb8 hN
  go_wp2_with fail
  refine (of_yes 23 (by omega) [57, 57, 49, 50, 51, 49, 50, 51, 53, 57, 90] Tm.zero 11 _ S9.out.t (by decide) f5).mono ?_
  rintro e w9 ⟨rfl, hb9⟩
  have S10 := Lib.hid (S9.out.next hb9)
  have hN := blk_below N9.out hb9
  have N10 := Lib.hid hN
  have E10 := Lib.hid (blk_below E9.out hb9)
  clear hb9 hN
  go_wp2_with fail
  refine (at_is6 86399 0 1 1 23 59 59 (by decide) (by decide) _ S10.out.t).mono ?_
  rintro e w10 ⟨rfl, hb⟩
  have S11 := Lib.hid ((S10.out.next hb).alloc (.cells #[.int .i64 0, .int .i64 1, .int .i64 1, .int .i64 23, .int .i64 59, .int .i64 59] 23))
  have N11 := Lib.hid (blk_alloc (blk_below N10.out hb) (.cells #[.int .i64 0, .int .i64 1, .int .i64 1, .int .i64 23, .int .i64 59, .int .i64 59] 23))
  have E11 := Lib.hid (blk_alloc (blk_below E10.out hb) (.cells #[.int .i64 0, .int .i64 1, .int .i64 1, .int .i64 23, .int .i64 59, .int .i64 59] 23))
  have C11 := Lib.hid (blk_new w10 (.cells #[.int .i64 0, .int .i64 1, .int .i64 1, .int .i64 23, .int .i64 59, .int .i64 59] 23))
  clear hb
  go_wp2_with fail
  refine (at_no6 (-1) _ S11.out.t (.inl (by omega))).mono ?_
  rintro e w11 ⟨rfl, hb⟩
  have S12 := Lib.hid ((S11.out.next hb).alloc (.cells #[.int .i64 0, .int .i64 0, .int .i64 0, .int .i64 0, .int .i64 0, .int .i64 0] 23))
  have N12 := Lib.hid (blk_alloc (blk_below N11.out hb) (.cells #[.int .i64 0, .int .i64 0, .int .i64 0, .int .i64 0, .int .i64 0, .int .i64 0] 23))
  have E12 := Lib.hid (blk_alloc (blk_below E11.out hb) (.cells #[.int .i64 0, .int .i64 0, .int .i64 0, .int .i64 0, .int .i64 0, .int .i64 0] 23))
  have C12 := Lib.hid (blk_alloc (blk_below C11.out hb) (.cells #[.int .i64 0, .int .i64 0, .int .i64 0, .int .i64 0, .int .i64 0, .int .i64 0] 23))
  clear hb
  go_wp2_with fail
  refine (secs_is 0 1 1 0 0 1 1 (by decide) (by decide) _ S12.out.t).mono ?_
  rintro e w12 ⟨rfl, hb⟩
  have S13 := Lib.hid (S12.out.next hb)
  have N13 := Lib.hid (blk_below N12.out hb)
  have E13 := Lib.hid (blk_below E12.out hb)
  have C13 := Lib.hid (blk_below C12.out hb)
  clear hb
  go_wp2_with fail
  refine (secs_is 1 1 1 0 0 0 31622400 (by decide) (by decide) _ S13.out.t).mono ?_
  rintro e w13 ⟨rfl, hb⟩
  have S14 := Lib.hid (S13.out.next hb)
  have hN := blk_below N13.out hb
  have N14 := Lib.hid hN
  have E14 := Lib.hid (blk_below E13.out hb)
  have hC := blk_below C13.out hb
  obtain ⟨k0, k1, k2, k3, k4, k5⟩ := six hC
  obtain ⟨n0, n1, n2, n3, n4, n5⟩ := six hN
  clear hb hN hC
  go_wp2_with fail
  refine (text_no 0 0 0 0 0 0 _ S14.out.t (by decide)).mono ?_
  rintro e w14 ⟨rfl, hb⟩
  have S15 := Lib.hid (S14.out.next hb)
  have N15 := Lib.hid (blk_below N14.out hb)
  have hE := blk_below E14.out hb
  obtain ⟨e0, e1, e2, e3, e4, e5⟩ := six hE
  clear hb hE
  go_wp2_with fail
  refine (text_is 1999 12 31 23 59 59 L3 (by decide) hL3 _ S15.out.t).mono ?_
  rintro e w15 ⟨rfl, hb⟩
  have S16 := Lib.hid (S15.out.next hb)
  have hN := blk_below N15.out hb
  have N16 := Lib.hid hN
  obtain ⟨n0, n1, n2, n3, n4, n5⟩ := six hN
  have hL3' : L3 = [49, 57, 57, 57, 45, 49, 50, 45, 51, 49, 84, 50, 51, 58, 53, 57, 58, 53, 57, 90] := rfl
  rw [hL3']
  clear hb hN hL3'
  go_wp2_with fail
  refine (parsed_yes [50, 48, 50, 52, 45, 48, 50, 45, 51, 48, 84, 48, 48, 58, 48, 48, 58, 48, 48, 90] Tm.zero 6 _ S16.out.t (by decide) f6).mono ?_
  rintro e w16 ⟨rfl, hb⟩
  have S17 := Lib.hid (S16.out.next hb)
  have hN := blk_below N16.out hb
  obtain ⟨n0, n1, n2, n3, n4, n5⟩ := six hN
  clear hb hN
  go_wp2_with fail
  refine (parsed_yes [50, 48, 50, 52, 45, 48, 50, 45, 50, 57, 84, 50, 52, 58, 48, 48, 58, 48, 48, 90] Tm.zero 6 _ S17.out.t (by decide) f7).mono ?_
  rintro e w17 ⟨rfl, hb⟩
  have S18 := Lib.hid (S17.out.next hb)
  clear hb
  go_wp2_with fail
  go_ret
  exact ⟨rfl, S18.out.b⟩
end Go.Proofs.YtbncjjobdipmgaaDoor
