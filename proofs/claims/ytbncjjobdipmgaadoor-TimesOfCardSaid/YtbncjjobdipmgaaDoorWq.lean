/- Chapter 10 (times): the contract of Element, of a valid time. -/
import Derived.Test.YtbncjjobdipmgaaDoorWp
import Derived.Deep.RegionHeld3
import Derived.Lib.ConvBytes
namespace Go.Proofs.YtbncjjobdipmgaaDoor
open Go.RowKit Pl

theorem le_grownCap (w : World) (n : Nat) (e : TypeId) : n ≤ grownCap w n 0 e := by
  simpa using grownCap_ge w n 0 e
theorem ElI.bytes {w wr w' : World} {tv : Array Value} {G : Nat} {num : Int} (h : ElI w tv G num wr) (hb : Below wr.heap.size wr w') : ElI w tv G num w' := h.below hb
theorem cell_past {W : World} {X T j o : Nat} {v : Value} (h : W.cell? ⟨X, o, none⟩ = some v) (hne : X ≠ T) (u : Value) : (W.setCell ⟨T, j, none⟩ u).cell? ⟨X, o, none⟩ = some v := by
  rw [← h]; exact World.cell?_of_block (a := ⟨X, o, none⟩) (Below.heap_setCell _ _ _ _ hne)
theorem el_cells (W : World) {sz : ByteArray} {L : List UInt8} (hz : sz = ⟨L.toArray⟩) {R : Nat} (hR : R < W.heap.size) (a0 a1 a2 a3 a4 : Value) :
    ∀ i (h : i < L.length), ((((((Lib.bytesWorld W 5 sz).setCell ⟨R, 0, none⟩ a0).setCell ⟨R, 1, none⟩ a1).setCell ⟨R, 2, none⟩ a2).setCell ⟨R, 3, none⟩ a3).setCell ⟨R, 4, none⟩ a4).cell? ⟨W.heap.size, i, none⟩ = some (.int .u8 (L[i].toNat : Int)) := by
  intro i h
  have hne : W.heap.size ≠ R := by omega
  refine cell_past (cell_past (cell_past (cell_past (cell_past ?_ hne _) hne _) hne _) hne _) hne _
  rw [Lib.bytesWorld_cell W 5 sz i (by rw [hz, bytes_size]; exact h), hz, List.getD, List.getElem?_eq_getElem h]
  rfl
theorem bw3 {W : World} {G : Nat} {a0 a1 a2 : Value} {e : TypeId} {s : ByteArray} (h0 : W.cell? ⟨G, 0, none⟩ = some a0) (h1 : W.cell? ⟨G, 1, none⟩ = some a1) (h2 : W.cell? ⟨G, 2, none⟩ = some a2) :
    (Lib.bytesWorld W e s).cell? ⟨G, 0, none⟩ = some a0 ∧ (Lib.bytesWorld W e s).cell? ⟨G, 1, none⟩ = some a1 ∧ (Lib.bytesWorld W e s).cell? ⟨G, 2, none⟩ = some a2 := by
  have hl := World.block_lt_of_cell? W _ h0
  exact ⟨by rw [Lib.bytesWorld_old W e s _ hl]; exact h0, by rw [Lib.bytesWorld_old W e s ⟨G, 1, none⟩ hl]; exact h1, by rw [Lib.bytesWorld_old W e s ⟨G, 2, none⟩ hl]; exact h2⟩

theorem three {w : World} {g : Nat} {a0 a1 a2 : Value} {t : TypeId} (h : w.heap[g]? = some (.cells #[a0, a1, a2] t (0, 0))) :
    w.cell? ⟨g, 0, none⟩ = some a0 ∧ w.cell? ⟨g, 1, none⟩ = some a1 ∧ w.cell? ⟨g, 2, none⟩ = some a2 := ⟨blk_cell h 0, blk_cell h 1, blk_cell h 2⟩

set_option maxHeartbeats 16000000 in
set_option maxRecDepth 100000 in
theorem elem_gen1 (y mo d h mi s : Int) (s0 : List UInt8) (w : World) (hT : Tabs w) (hk : okB y mo d h mi s = true) (hg : 1950 ≤ y) (hg' : 2049 < y) (hs0 : Hid (dg 4 y = s0)) (hs1 : s0.length ≤ 4) :
    Calls Tryd.prog 17 #[.agg #[.int .i64 y, .int .i64 mo, .int .i64 d, .int .i64 h, .int .i64 mi, .int .i64 s]] w (ElP 24 (ek s0 mo d h mi s 5 ++ [90]) w) := by
  obtain ⟨b0, b1, b2, b3, b4, _, b5, b6, b7, b8, b9, b10, b11⟩ := okB_bounds hk
  have l0 := dg_len 4 y b0 b1
  have l1 := dg_len 2 mo (by omega) (by omega)
  have l2 := dg_len 2 d (by omega) (by omega)
  have l3 := dg_len 2 h b6 (by omega)
  have l4 := dg_len 2 mi b8 (by omega)
  have l5 := dg_len 2 s b10 (by omega)
  have hc := fun (n : Int) (h0 : 0 ≤ n) (h1 : n ≤ 99) (W : World) (hW : Tabs W) => dg_any n 2 (by omega) h0 (by omega) W hW
  have HC := Lib.hid hc
  have H : Hid (∀ w, Tabs w → Calls Tryd.prog 15 #[.agg #[.int .i64 y, .int .i64 mo, .int .i64 d, .int .i64 h, .int .i64 mi, .int .i64 s]] w fun e w' => e = .returned (.int .i64 0) ∧ Below w.heap.size w w') := fun w hT => check_ok hk w hT
  have HE := Lib.hid (ElR.start w hT #[.int .i64 y, .int .i64 mo, .int .i64 d, .int .i64 h, .int .i64 mi, .int .i64 s])
  clear hk hc
  have k0 : decide (1950 ≤ y) = true := by simp; omega
  have k1 : decide (y ≤ 2049) = false := by simp; omega
  go_enter Tryd.func17, Tryd.ntmps17
  go_wp2_with (first
    | (go_at_call 15; refine (H.out _ HE.out.st.t).mono ?_; rintro e w1 ⟨rfl, hb⟩; have h1 := HE.out.below hb; have H1 := Lib.hid h1; obtain ⟨t0, t1, t2, t3, t4, t5⟩ := six h1.t; clear h1 hb)
    | (go_at_call 32; refine (dg_any _ 4 (by omega) (by omega) (by omega) _ H1.out.st.t).mono ?_; rintro e w2 ⟨rfl, hb⟩; have h2 := H1.out.below hb; have h3 := ElI.start h2 24; have H2 := Lib.hid h3; have H3 := Lib.hid (ElI.start h2 23); obtain ⟨t0, t1, t2, t3, t4, t5⟩ := six h3.i.t; have hw2 := blk_lt h2.r; clear h2 h3 hb))
  have hS0 : ElS w #[.int .i64 y, .int .i64 mo, .int .i64 d, .int .i64 h, .int .i64 mi, .int .i64 s] w2.heap.size 24 (w2.heap.size + 1) #[.int .i64 mo, .int .i64 d, .int .i64 h, .int .i64 mi, .int .i64 s] ((w2.alloc (.cells #[.int .u8 0, .bool false, .int .u32 24] 33)).alloc (.cells #[.int .i64 mo, .int .i64 d, .int .i64 h, .int .i64 mi, .int .i64 s] 3)) := by
    have := ElS.start H2.out #[.int .i64 mo, .int .i64 d, .int .i64 h, .int .i64 mi, .int .i64 s]
    simpa using this
  have HS0 := Lib.hid hS0
  clear hS0 t0 t1 t2 t3 t4 t5 H1 H2 H3 HE H
  go_loopw [6, 42] (fun t i wr => ∃ k : Nat, k ≤ 5 ∧ i = .int .i64 k ∧ t = .string ⟨(ek s0 mo d h mi s k).toArray⟩ ∧ Hid (ElS w #[.int .i64 y, .int .i64 mo, .int .i64 d, .int .i64 h, .int .i64 mi, .int .i64 s] w2.heap.size 24 (w2.heap.size + 1) #[.int .i64 mo, .int .i64 d, .int .i64 h, .int .i64 mi, .int .i64 s] wr)) (fun _ i _ => 5 - (intOf i).toNat)
  case atStart => exact ⟨0, by omega, rfl, by rw [hs0.out]; rfl, HS0⟩
  case round =>
    obtain ⟨k, hk, rfl, ht, hI⟩ := hrel
    by_cases hk5 : k < 5
    · subst ht
      rcases (show k = 0 ∨ k = 1 ∨ k = 2 ∨ k = 3 ∨ k = 4 by omega) with rfl | rfl | rfl | rfl | rfl
      · obtain ⟨v0, v1, v2, v3, v4⟩ := five hI.out.v
        have hlen : (ek s0 mo d h mi s 0).length ≤ 200 := by simp only [ek]; omega
        go_wp2_with (go_at_call 32; refine (HC.out _ (by omega) (by omega) _ hI.out.i.i.st.t).mono ?_; rintro e w3 ⟨rfl, hb⟩; have h3 := Lib.hid (hI.out.below hb); clear hb)
        go_roundw
        case rel => exact ⟨1, by omega, rfl, by first | rfl | exact congrArg Value.string (bytes_cat _ _), h3⟩
        case measure => simp [intOf]
      · obtain ⟨v0, v1, v2, v3, v4⟩ := five hI.out.v
        have hlen : (ek s0 mo d h mi s 1).length ≤ 200 := by simp only [ek, List.length_append]; omega
        go_wp2_with (go_at_call 32; refine (HC.out _ (by omega) (by omega) _ hI.out.i.i.st.t).mono ?_; rintro e w3 ⟨rfl, hb⟩; have h3 := Lib.hid (hI.out.below hb); clear hb)
        go_roundw
        case rel => exact ⟨2, by omega, rfl, by first | rfl | exact congrArg Value.string (bytes_cat _ _), h3⟩
        case measure => simp [intOf]
      · obtain ⟨v0, v1, v2, v3, v4⟩ := five hI.out.v
        have hlen : (ek s0 mo d h mi s 2).length ≤ 200 := by simp only [ek, List.length_append]; omega
        go_wp2_with (go_at_call 32; refine (HC.out _ (by omega) (by omega) _ hI.out.i.i.st.t).mono ?_; rintro e w3 ⟨rfl, hb⟩; have h3 := Lib.hid (hI.out.below hb); clear hb)
        go_roundw
        case rel => exact ⟨3, by omega, rfl, by first | rfl | exact congrArg Value.string (bytes_cat _ _), h3⟩
        case measure => simp [intOf]
      · obtain ⟨v0, v1, v2, v3, v4⟩ := five hI.out.v
        have hlen : (ek s0 mo d h mi s 3).length ≤ 200 := by simp only [ek, List.length_append]; omega
        go_wp2_with (go_at_call 32; refine (HC.out _ (by omega) (by omega) _ hI.out.i.i.st.t).mono ?_; rintro e w3 ⟨rfl, hb⟩; have h3 := Lib.hid (hI.out.below hb); clear hb)
        go_roundw
        case rel => exact ⟨4, by omega, rfl, by first | rfl | exact congrArg Value.string (bytes_cat _ _), h3⟩
        case measure => simp [intOf]
      · obtain ⟨v0, v1, v2, v3, v4⟩ := five hI.out.v
        have hlen : (ek s0 mo d h mi s 4).length ≤ 200 := by simp only [ek, List.length_append]; omega
        go_wp2_with (go_at_call 32; refine (HC.out _ (by omega) (by omega) _ hI.out.i.i.st.t).mono ?_; rintro e w3 ⟨rfl, hb⟩; have h3 := Lib.hid (hI.out.below hb); clear hb)
        go_roundw
        case rel => exact ⟨5, by omega, rfl, by first | rfl | exact congrArg Value.string (bytes_cat _ _), h3⟩
        case measure => simp [intOf]
    · obtain rfl : k = 5 := by omega
      have hlen : (ek s0 mo d h mi s 5).length ≤ 200 := by simp only [ek, List.length_append]; omega
      obtain ⟨sz, hsz⟩ : ∃ sz : ByteArray, sz = ⟨(ek s0 mo d h mi s 5 ++ [90]).toArray⟩ := ⟨_, rfl⟩
      obtain ⟨sa, hsa⟩ : ∃ sa : ByteArray, sa = ⟨(ek s0 mo d h mi s 5).toArray⟩ := ⟨_, rfl⟩
      rw [← hsa] at ht
      subst ht
      have hcat : ∀ W : World, (Op.stringOp .add sa ⟨#[90]⟩).run Tryd.prog W = .ok (.string sz) W := by
        rw [hsa, hsz]
        exact cat_run _ _ _ (by simp only [bytes_size]; simp; omega) (bytes_cat _ [90])
      have hsl : sz.size ≤ 1000 := by rw [hsz, bytes_size]; simp; omega
      have HL : Hid (List.length (ek s0 mo d h mi s 5 ++ [90]) = sz.size) := by show _ = _; rw [hsz, bytes_size]
      have HZ := Lib.hid hsz
      clear hsz hsa
      have hcv := fun (W : World) (s : ByteArray) => Lib.run_convert_string_bytes (P := Tryd.prog) W 9 34 5 s Tryd.underlying9 Tryd.underlying34 Tryd.underlying5
      obtain ⟨r0, r1, r2, r3, r4⟩ := five hI.out.i.i.r
      obtain ⟨q0, q1, q2, q3, q4, q5⟩ := free hI.out.i.i.r
      obtain ⟨g0, g1, g2⟩ := three hI.out.i.g
      clear HS0 HC
      have hb := hI.out.i.bytes (w' := Lib.bytesWorld wr.drew 5 sz) ⟨rfl, rfl, rfl, by rw [Lib.bytesWorld_size]; exact Nat.le_succ _, fun k hk => Lib.bytesWorld_at_old wr.drew 5 sz k hk⟩
      obtain ⟨y0, y1, y2, y3, y4⟩ := five hb.i.r
      obtain ⟨z0, z1, z2, z3, z4, z5⟩ := free hb.i.r
      obtain ⟨x0, x1, x2⟩ := three hb.g
      have HB := Lib.hid hb
      clear hb
      go_wp2_with fail
      go_region_with (first | (go_at_call 33; refine (clip_any _ _ _ (le_grownCap _ _ _) (by omega) _).mono ?_; rintro e w4 ⟨rfl, rfl⟩))
      all_goals
        go_wp2
        refine bodyPost_ret (ret17 rfl rfl (set5 HB.out.i.r _ _ _ _ _)) rfl ⟨wr.heap.size, ?_, ?_, ?_⟩
        · rw [HL.out]
        · exact el_cells wr.drew HZ.out (by show _ < wr.heap.size; have := blk_lt hI.out.i.i.r; omega) _ _ _ _ _
        · exact (set5_st HB.out.i.st (by omega) hT.two _ _ _ _ _).b

set_option maxHeartbeats 16000000 in
set_option maxRecDepth 100000 in
theorem elem_gen0 (y mo d h mi s : Int) (s0 : List UInt8) (w : World) (hT : Tabs w) (hk : okB y mo d h mi s = true) (hg : y < 1950) (hs0 : Hid (dg 4 y = s0)) (hs1 : s0.length ≤ 4) :
    Calls Tryd.prog 17 #[.agg #[.int .i64 y, .int .i64 mo, .int .i64 d, .int .i64 h, .int .i64 mi, .int .i64 s]] w (ElP 24 (ek s0 mo d h mi s 5 ++ [90]) w) := by
  obtain ⟨b0, b1, b2, b3, b4, _, b5, b6, b7, b8, b9, b10, b11⟩ := okB_bounds hk
  have l0 := dg_len 4 y b0 b1
  have l1 := dg_len 2 mo (by omega) (by omega)
  have l2 := dg_len 2 d (by omega) (by omega)
  have l3 := dg_len 2 h b6 (by omega)
  have l4 := dg_len 2 mi b8 (by omega)
  have l5 := dg_len 2 s b10 (by omega)
  have hc := fun (n : Int) (h0 : 0 ≤ n) (h1 : n ≤ 99) (W : World) (hW : Tabs W) => dg_any n 2 (by omega) h0 (by omega) W hW
  have HC := Lib.hid hc
  have H : Hid (∀ w, Tabs w → Calls Tryd.prog 15 #[.agg #[.int .i64 y, .int .i64 mo, .int .i64 d, .int .i64 h, .int .i64 mi, .int .i64 s]] w fun e w' => e = .returned (.int .i64 0) ∧ Below w.heap.size w w') := fun w hT => check_ok hk w hT
  have HE := Lib.hid (ElR.start w hT #[.int .i64 y, .int .i64 mo, .int .i64 d, .int .i64 h, .int .i64 mi, .int .i64 s])
  clear hk hc
  have k0 : decide (1950 ≤ y) = false := by simp; omega
  go_enter Tryd.func17, Tryd.ntmps17
  go_wp2_with (first
    | (go_at_call 15; refine (H.out _ HE.out.st.t).mono ?_; rintro e w1 ⟨rfl, hb⟩; have h1 := HE.out.below hb; have H1 := Lib.hid h1; obtain ⟨t0, t1, t2, t3, t4, t5⟩ := six h1.t; clear h1 hb)
    | (go_at_call 32; refine (dg_any _ 4 (by omega) (by omega) (by omega) _ H1.out.st.t).mono ?_; rintro e w2 ⟨rfl, hb⟩; have h2 := H1.out.below hb; have h3 := ElI.start h2 24; have H2 := Lib.hid h3; have H3 := Lib.hid (ElI.start h2 23); obtain ⟨t0, t1, t2, t3, t4, t5⟩ := six h3.i.t; have hw2 := blk_lt h2.r; clear h2 h3 hb))
  have hS0 : ElS w #[.int .i64 y, .int .i64 mo, .int .i64 d, .int .i64 h, .int .i64 mi, .int .i64 s] w2.heap.size 24 (w2.heap.size + 1) #[.int .i64 mo, .int .i64 d, .int .i64 h, .int .i64 mi, .int .i64 s] ((w2.alloc (.cells #[.int .u8 0, .bool false, .int .u32 24] 33)).alloc (.cells #[.int .i64 mo, .int .i64 d, .int .i64 h, .int .i64 mi, .int .i64 s] 3)) := by
    have := ElS.start H2.out #[.int .i64 mo, .int .i64 d, .int .i64 h, .int .i64 mi, .int .i64 s]
    simpa using this
  have HS0 := Lib.hid hS0
  clear hS0 t0 t1 t2 t3 t4 t5 H1 H2 H3 HE H
  go_loopw [6, 42] (fun t i wr => ∃ k : Nat, k ≤ 5 ∧ i = .int .i64 k ∧ t = .string ⟨(ek s0 mo d h mi s k).toArray⟩ ∧ Hid (ElS w #[.int .i64 y, .int .i64 mo, .int .i64 d, .int .i64 h, .int .i64 mi, .int .i64 s] w2.heap.size 24 (w2.heap.size + 1) #[.int .i64 mo, .int .i64 d, .int .i64 h, .int .i64 mi, .int .i64 s] wr)) (fun _ i _ => 5 - (intOf i).toNat)
  case atStart => exact ⟨0, by omega, rfl, by rw [hs0.out]; rfl, HS0⟩
  case round =>
    obtain ⟨k, hk, rfl, ht, hI⟩ := hrel
    by_cases hk5 : k < 5
    · subst ht
      rcases (show k = 0 ∨ k = 1 ∨ k = 2 ∨ k = 3 ∨ k = 4 by omega) with rfl | rfl | rfl | rfl | rfl
      · obtain ⟨v0, v1, v2, v3, v4⟩ := five hI.out.v
        have hlen : (ek s0 mo d h mi s 0).length ≤ 200 := by simp only [ek]; omega
        go_wp2_with (go_at_call 32; refine (HC.out _ (by omega) (by omega) _ hI.out.i.i.st.t).mono ?_; rintro e w3 ⟨rfl, hb⟩; have h3 := Lib.hid (hI.out.below hb); clear hb)
        go_roundw
        case rel => exact ⟨1, by omega, rfl, by first | rfl | exact congrArg Value.string (bytes_cat _ _), h3⟩
        case measure => simp [intOf]
      · obtain ⟨v0, v1, v2, v3, v4⟩ := five hI.out.v
        have hlen : (ek s0 mo d h mi s 1).length ≤ 200 := by simp only [ek, List.length_append]; omega
        go_wp2_with (go_at_call 32; refine (HC.out _ (by omega) (by omega) _ hI.out.i.i.st.t).mono ?_; rintro e w3 ⟨rfl, hb⟩; have h3 := Lib.hid (hI.out.below hb); clear hb)
        go_roundw
        case rel => exact ⟨2, by omega, rfl, by first | rfl | exact congrArg Value.string (bytes_cat _ _), h3⟩
        case measure => simp [intOf]
      · obtain ⟨v0, v1, v2, v3, v4⟩ := five hI.out.v
        have hlen : (ek s0 mo d h mi s 2).length ≤ 200 := by simp only [ek, List.length_append]; omega
        go_wp2_with (go_at_call 32; refine (HC.out _ (by omega) (by omega) _ hI.out.i.i.st.t).mono ?_; rintro e w3 ⟨rfl, hb⟩; have h3 := Lib.hid (hI.out.below hb); clear hb)
        go_roundw
        case rel => exact ⟨3, by omega, rfl, by first | rfl | exact congrArg Value.string (bytes_cat _ _), h3⟩
        case measure => simp [intOf]
      · obtain ⟨v0, v1, v2, v3, v4⟩ := five hI.out.v
        have hlen : (ek s0 mo d h mi s 3).length ≤ 200 := by simp only [ek, List.length_append]; omega
        go_wp2_with (go_at_call 32; refine (HC.out _ (by omega) (by omega) _ hI.out.i.i.st.t).mono ?_; rintro e w3 ⟨rfl, hb⟩; have h3 := Lib.hid (hI.out.below hb); clear hb)
        go_roundw
        case rel => exact ⟨4, by omega, rfl, by first | rfl | exact congrArg Value.string (bytes_cat _ _), h3⟩
        case measure => simp [intOf]
      · obtain ⟨v0, v1, v2, v3, v4⟩ := five hI.out.v
        have hlen : (ek s0 mo d h mi s 4).length ≤ 200 := by simp only [ek, List.length_append]; omega
        go_wp2_with (go_at_call 32; refine (HC.out _ (by omega) (by omega) _ hI.out.i.i.st.t).mono ?_; rintro e w3 ⟨rfl, hb⟩; have h3 := Lib.hid (hI.out.below hb); clear hb)
        go_roundw
        case rel => exact ⟨5, by omega, rfl, by first | rfl | exact congrArg Value.string (bytes_cat _ _), h3⟩
        case measure => simp [intOf]
    · obtain rfl : k = 5 := by omega
      have hlen : (ek s0 mo d h mi s 5).length ≤ 200 := by simp only [ek, List.length_append]; omega
      obtain ⟨sz, hsz⟩ : ∃ sz : ByteArray, sz = ⟨(ek s0 mo d h mi s 5 ++ [90]).toArray⟩ := ⟨_, rfl⟩
      obtain ⟨sa, hsa⟩ : ∃ sa : ByteArray, sa = ⟨(ek s0 mo d h mi s 5).toArray⟩ := ⟨_, rfl⟩
      rw [← hsa] at ht
      subst ht
      have hcat : ∀ W : World, (Op.stringOp .add sa ⟨#[90]⟩).run Tryd.prog W = .ok (.string sz) W := by
        rw [hsa, hsz]
        exact cat_run _ _ _ (by simp only [bytes_size]; simp; omega) (bytes_cat _ [90])
      have hsl : sz.size ≤ 1000 := by rw [hsz, bytes_size]; simp; omega
      have HL : Hid (List.length (ek s0 mo d h mi s 5 ++ [90]) = sz.size) := by show _ = _; rw [hsz, bytes_size]
      have HZ := Lib.hid hsz
      clear hsz hsa
      have hcv := fun (W : World) (s : ByteArray) => Lib.run_convert_string_bytes (P := Tryd.prog) W 9 34 5 s Tryd.underlying9 Tryd.underlying34 Tryd.underlying5
      obtain ⟨r0, r1, r2, r3, r4⟩ := five hI.out.i.i.r
      obtain ⟨q0, q1, q2, q3, q4, q5⟩ := free hI.out.i.i.r
      obtain ⟨g0, g1, g2⟩ := three hI.out.i.g
      clear HS0 HC
      have hb := hI.out.i.bytes (w' := Lib.bytesWorld wr.drew 5 sz) ⟨rfl, rfl, rfl, by rw [Lib.bytesWorld_size]; exact Nat.le_succ _, fun k hk => Lib.bytesWorld_at_old wr.drew 5 sz k hk⟩
      obtain ⟨y0, y1, y2, y3, y4⟩ := five hb.i.r
      obtain ⟨z0, z1, z2, z3, z4, z5⟩ := free hb.i.r
      obtain ⟨x0, x1, x2⟩ := three hb.g
      have HB := Lib.hid hb
      clear hb
      go_wp2_with fail
      go_region_with (first | (go_at_call 33; refine (clip_any _ _ _ (le_grownCap _ _ _) (by omega) _).mono ?_; rintro e w4 ⟨rfl, rfl⟩))
      all_goals
        go_wp2
        refine bodyPost_ret (ret17 rfl rfl (set5 HB.out.i.r _ _ _ _ _)) rfl ⟨wr.heap.size, ?_, ?_, ?_⟩
        · rw [HL.out]
        · exact el_cells wr.drew HZ.out (by show _ < wr.heap.size; have := blk_lt hI.out.i.i.r; omega) _ _ _ _ _
        · exact (set5_st HB.out.i.st (by omega) hT.two _ _ _ _ _).b

set_option maxHeartbeats 16000000 in
set_option maxRecDepth 100000 in
theorem elem_utc (y mo d h mi s : Int) (s0 : List UInt8) (w : World) (hT : Tabs w) (hk : okB y mo d h mi s = true) (hg : 1950 ≤ y) (hg' : y ≤ 2049) (hs0 : Hid ((dg 4 y).drop 2 = s0)) (hs1 : s0.length ≤ 4) (hs2 : 2 ≤ (dg 4 y).length) :
    Calls Tryd.prog 17 #[.agg #[.int .i64 y, .int .i64 mo, .int .i64 d, .int .i64 h, .int .i64 mi, .int .i64 s]] w (ElP 23 (ek s0 mo d h mi s 5 ++ [90]) w) := by
  obtain ⟨b0, b1, b2, b3, b4, _, b5, b6, b7, b8, b9, b10, b11⟩ := okB_bounds hk
  have l0 := dg_len 4 y b0 b1
  have l1 := dg_len 2 mo (by omega) (by omega)
  have l2 := dg_len 2 d (by omega) (by omega)
  have l3 := dg_len 2 h b6 (by omega)
  have l4 := dg_len 2 mi b8 (by omega)
  have l5 := dg_len 2 s b10 (by omega)
  have hc := fun (n : Int) (h0 : 0 ≤ n) (h1 : n ≤ 99) (W : World) (hW : Tabs W) => dg_any n 2 (by omega) h0 (by omega) W hW
  have HC := Lib.hid hc
  have H : Hid (∀ w, Tabs w → Calls Tryd.prog 15 #[.agg #[.int .i64 y, .int .i64 mo, .int .i64 d, .int .i64 h, .int .i64 mi, .int .i64 s]] w fun e w' => e = .returned (.int .i64 0) ∧ Below w.heap.size w w') := fun w hT => check_ok hk w hT
  have HE := Lib.hid (ElR.start w hT #[.int .i64 y, .int .i64 mo, .int .i64 d, .int .i64 h, .int .i64 mi, .int .i64 s])
  clear hk hc
  have k0 : decide (1950 ≤ y) = true := by simp; omega
  have k1 : decide (y ≤ 2049) = true := by simp; omega
  have hx : (⟨(dg 4 y).toArray⟩ : ByteArray).extract 2 (dg 4 y).length = ⟨s0.toArray⟩ := by
    rw [← hs0.out, extract_list, List.take_of_length_le (by simp)]
  go_enter Tryd.func17, Tryd.ntmps17
  go_wp2_with (first
    | (go_at_call 15; refine (H.out _ HE.out.st.t).mono ?_; rintro e w1 ⟨rfl, hb⟩; have h1 := HE.out.below hb; have H1 := Lib.hid h1; obtain ⟨t0, t1, t2, t3, t4, t5⟩ := six h1.t; clear h1 hb)
    | (go_at_call 32; refine (dg_any _ 4 (by omega) (by omega) (by omega) _ H1.out.st.t).mono ?_; rintro e w2 ⟨rfl, hb⟩; have h2 := H1.out.below hb; have h3 := ElI.start h2 24; have H2 := Lib.hid h3; have H3 := Lib.hid (ElI.start h2 23); obtain ⟨t0, t1, t2, t3, t4, t5⟩ := six h3.i.t; have hw2 := blk_lt h2.r; clear h2 h3 hb))
  obtain ⟨t0, t1, t2, t3, t4, t5⟩ := six H3.out.i.t
  go_region
  go_wp2
  have hS0 : ElS w #[.int .i64 y, .int .i64 mo, .int .i64 d, .int .i64 h, .int .i64 mi, .int .i64 s] w2.heap.size 23 (w2.heap.size + 1) #[.int .i64 mo, .int .i64 d, .int .i64 h, .int .i64 mi, .int .i64 s] ((w2.alloc (.cells #[.int .u8 0, .bool false, .int .u32 23] 33)).alloc (.cells #[.int .i64 mo, .int .i64 d, .int .i64 h, .int .i64 mi, .int .i64 s] 3)).drew := by
    have := ElS.start H3.out.drew #[.int .i64 mo, .int .i64 d, .int .i64 h, .int .i64 mi, .int .i64 s]
    have hz : (w2.alloc (.cells #[.int .u8 0, .bool false, .int .u32 23] 33)).drew.heap.size = w2.heap.size + 1 := by show (w2.alloc (.cells #[.int .u8 0, .bool false, .int .u32 23] 33)).heap.size = _; simp
    rw [hz] at this
    exact this
  have HS0 := Lib.hid hS0
  clear hS0 t0 t1 t2 t3 t4 t5 H1 H2 H3 HE H
  go_loopw [6, 42] (fun t i wr => ∃ k : Nat, k ≤ 5 ∧ i = .int .i64 k ∧ t = .string ⟨(ek s0 mo d h mi s k).toArray⟩ ∧ Hid (ElS w #[.int .i64 y, .int .i64 mo, .int .i64 d, .int .i64 h, .int .i64 mi, .int .i64 s] w2.heap.size 23 (w2.heap.size + 1) #[.int .i64 mo, .int .i64 d, .int .i64 h, .int .i64 mi, .int .i64 s] wr)) (fun _ i _ => 5 - (intOf i).toNat)
  case atStart => exact ⟨0, by omega, rfl, by first | rfl | (rw [hs0.out]; rfl), HS0⟩
  case round =>
    obtain ⟨k, hk, rfl, ht, hI⟩ := hrel
    by_cases hk5 : k < 5
    · subst ht
      rcases (show k = 0 ∨ k = 1 ∨ k = 2 ∨ k = 3 ∨ k = 4 by omega) with rfl | rfl | rfl | rfl | rfl
      · obtain ⟨v0, v1, v2, v3, v4⟩ := five hI.out.v
        have hlen : (ek s0 mo d h mi s 0).length ≤ 200 := by simp only [ek]; omega
        go_wp2_with (go_at_call 32; refine (HC.out _ (by omega) (by omega) _ hI.out.i.i.st.t).mono ?_; rintro e w3 ⟨rfl, hb⟩; have h3 := Lib.hid (hI.out.below hb); clear hb)
        go_roundw
        case rel => exact ⟨1, by omega, rfl, by first | rfl | exact congrArg Value.string (bytes_cat _ _), h3⟩
        case measure => simp [intOf]
      · obtain ⟨v0, v1, v2, v3, v4⟩ := five hI.out.v
        have hlen : (ek s0 mo d h mi s 1).length ≤ 200 := by simp only [ek, List.length_append]; omega
        go_wp2_with (go_at_call 32; refine (HC.out _ (by omega) (by omega) _ hI.out.i.i.st.t).mono ?_; rintro e w3 ⟨rfl, hb⟩; have h3 := Lib.hid (hI.out.below hb); clear hb)
        go_roundw
        case rel => exact ⟨2, by omega, rfl, by first | rfl | exact congrArg Value.string (bytes_cat _ _), h3⟩
        case measure => simp [intOf]
      · obtain ⟨v0, v1, v2, v3, v4⟩ := five hI.out.v
        have hlen : (ek s0 mo d h mi s 2).length ≤ 200 := by simp only [ek, List.length_append]; omega
        go_wp2_with (go_at_call 32; refine (HC.out _ (by omega) (by omega) _ hI.out.i.i.st.t).mono ?_; rintro e w3 ⟨rfl, hb⟩; have h3 := Lib.hid (hI.out.below hb); clear hb)
        go_roundw
        case rel => exact ⟨3, by omega, rfl, by first | rfl | exact congrArg Value.string (bytes_cat _ _), h3⟩
        case measure => simp [intOf]
      · obtain ⟨v0, v1, v2, v3, v4⟩ := five hI.out.v
        have hlen : (ek s0 mo d h mi s 3).length ≤ 200 := by simp only [ek, List.length_append]; omega
        go_wp2_with (go_at_call 32; refine (HC.out _ (by omega) (by omega) _ hI.out.i.i.st.t).mono ?_; rintro e w3 ⟨rfl, hb⟩; have h3 := Lib.hid (hI.out.below hb); clear hb)
        go_roundw
        case rel => exact ⟨4, by omega, rfl, by first | rfl | exact congrArg Value.string (bytes_cat _ _), h3⟩
        case measure => simp [intOf]
      · obtain ⟨v0, v1, v2, v3, v4⟩ := five hI.out.v
        have hlen : (ek s0 mo d h mi s 4).length ≤ 200 := by simp only [ek, List.length_append]; omega
        go_wp2_with (go_at_call 32; refine (HC.out _ (by omega) (by omega) _ hI.out.i.i.st.t).mono ?_; rintro e w3 ⟨rfl, hb⟩; have h3 := Lib.hid (hI.out.below hb); clear hb)
        go_roundw
        case rel => exact ⟨5, by omega, rfl, by first | rfl | exact congrArg Value.string (bytes_cat _ _), h3⟩
        case measure => simp [intOf]
    · obtain rfl : k = 5 := by omega
      have hlen : (ek s0 mo d h mi s 5).length ≤ 200 := by simp only [ek, List.length_append]; omega
      obtain ⟨sz, hsz⟩ : ∃ sz : ByteArray, sz = ⟨(ek s0 mo d h mi s 5 ++ [90]).toArray⟩ := ⟨_, rfl⟩
      obtain ⟨sa, hsa⟩ : ∃ sa : ByteArray, sa = ⟨(ek s0 mo d h mi s 5).toArray⟩ := ⟨_, rfl⟩
      rw [← hsa] at ht
      subst ht
      have hcat : ∀ W : World, (Op.stringOp .add sa ⟨#[90]⟩).run Tryd.prog W = .ok (.string sz) W := by
        rw [hsa, hsz]
        exact cat_run _ _ _ (by simp only [bytes_size]; simp; omega) (bytes_cat _ [90])
      have hsl : sz.size ≤ 1000 := by rw [hsz, bytes_size]; simp; omega
      have HL : Hid (List.length (ek s0 mo d h mi s 5 ++ [90]) = sz.size) := by show _ = _; rw [hsz, bytes_size]
      have HZ := Lib.hid hsz
      clear hsz hsa
      have hcv := fun (W : World) (s : ByteArray) => Lib.run_convert_string_bytes (P := Tryd.prog) W 9 34 5 s Tryd.underlying9 Tryd.underlying34 Tryd.underlying5
      obtain ⟨r0, r1, r2, r3, r4⟩ := five hI.out.i.i.r
      obtain ⟨q0, q1, q2, q3, q4, q5⟩ := free hI.out.i.i.r
      obtain ⟨g0, g1, g2⟩ := three hI.out.i.g
      clear HS0 HC
      have hb := hI.out.i.bytes (w' := Lib.bytesWorld wr.drew 5 sz) ⟨rfl, rfl, rfl, by rw [Lib.bytesWorld_size]; exact Nat.le_succ _, fun k hk => Lib.bytesWorld_at_old wr.drew 5 sz k hk⟩
      obtain ⟨y0, y1, y2, y3, y4⟩ := five hb.i.r
      obtain ⟨z0, z1, z2, z3, z4, z5⟩ := free hb.i.r
      obtain ⟨x0, x1, x2⟩ := three hb.g
      have HB := Lib.hid hb
      clear hb
      go_wp2_with fail
      go_region_with (first | (go_at_call 33; refine (clip_any _ _ _ (le_grownCap _ _ _) (by omega) _).mono ?_; rintro e w4 ⟨rfl, rfl⟩))
      all_goals
        go_wp2
        refine bodyPost_ret (ret17 rfl rfl (set5 HB.out.i.r _ _ _ _ _)) rfl ⟨wr.heap.size, ?_, ?_, ?_⟩
        · rw [HL.out]
        · exact el_cells wr.drew HZ.out (by show _ < wr.heap.size; have := blk_lt hI.out.i.i.r; omega) _ _ _ _ _
        · exact (set5_st HB.out.i.st (by omega) hT.two _ _ _ _ _).b

end Go.Proofs.YtbncjjobdipmgaaDoor
