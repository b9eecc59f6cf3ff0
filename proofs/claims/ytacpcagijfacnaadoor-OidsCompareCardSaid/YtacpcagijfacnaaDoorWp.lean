/- Chapters 6, 7 (oids, oidsets): Text. -/
import Derived.Test.YtacpcagijfacnaaDoorWo
namespace Go.Proofs.YtacpcagijfacnaaDoor
open Go.RowKit Go.Shelf
open Go.Proofs.YtacpcagijfacnaaDoorW.PrintWords (rd Ev gate_dst gate_store Kd.C_below Kd.C_of_reads Kd.reads_of_C ReadsOf.at_ rdOf blk_new blk_below blk_cell blk_alloc blk_lt blk_frozen blk_drew blk_set Kd.C Kd.int)
set_option linter.unusedSimpArgs false
set_option linter.unusedVariables false
set_option maxRecDepth 50000
theorem info9 : (Tryd.prog.info? 9).map (fun i => (i.zero, i.size, i.bytes)) = some (some (.string ⟨#[]⟩), 1, 16) := by kernel_rfl
/-- The dotted form. -/
def digO (x : Int) : List UInt8 := Lib.decDigits x.toNat
def txtO (N : Nat) (xs : List Int) : List UInt8 := Lib.join ((arcsO N xs).map digO) [46]
theorem dig_len {x : Int} (h : x < 18446744073709551616) : (digO x).length ≤ 20 := by
  unfold digO
  rw [Lib.decDigits_length]
  by_cases h1 : 1 ≤ x.toNat
  · have := Lib.numDigits_eq x.toNat h1 (by omega); split at this <;> omega
  · rw [show x.toNat = 0 by omega, ← Lib.decDigits_length, Lib.decDigits_one (by omega)]; simp
theorem joinTail_len (r : List (List UInt8)) (h : ∀ x ∈ r, x.length ≤ 20) : (Lib.joinTail [46] r).length ≤ 21 * r.length := by
  induction r with
  | nil => simp [Lib.joinTail]
  | cons a r ih =>
    have e : Lib.joinTail [46] (a :: r) = ([46] ++ a) ++ Lib.joinTail [46] r := by simp [Lib.joinTail]
    rw [e, List.length_append, List.length_append, List.length_cons]
    have h1 := h a (by simp)
    have h2 := ih (fun x hx => h x (List.mem_cons_of_mem _ hx))
    simp only [List.length_cons, List.length_nil]
    omega
theorem join_len (r : List (List UInt8)) (h : ∀ x ∈ r, x.length ≤ 20) : (Lib.join r [46]).length ≤ 21 * r.length := by
  cases r with
  | nil => simp [Lib.join_nil]
  | cons a r =>
    rw [Lib.join_cons, List.length_append, List.length_cons]
    have h1 := h a (by simp)
    have h2 := joinTail_len r (fun x hx => h x (List.mem_cons_of_mem _ hx))
    omega
set_option maxHeartbeats 4000000 in
theorem text_err (N : Nat) (xs : List Int) (w : World) (hx : xs.length = 16) (hr : chkO (N : Int) xs = 1) :
    Calls Tryd.prog 15 #[oidV (N : Int) xs] w fun e w' => e = .returned (.string ⟨#[63]⟩) ∧ Below w.heap.size w w' := by
  have CX := Lib.hid (fun W => check_any (N : Int) xs W hx (by omega))
  rw [hr] at CX
  have HX := Lib.hid hx
  have B0 := Lib.hid ((Below.refl w.heap.size w).alloc (Nat.le_refl _) (.cells (oidC (N : Int) xs) 27))
  have hB := Lib.hid (blk_new w (.cells (oidC (N : Int) xs) 27))
  go_enter Tryd.func15, Tryd.ntmps15
  go_wp2_with (first
    | ((with_reducible refine gate_dst (N := 6) rfl ?_); refine wpList_load_row rfl 27 _ rfl w.heap.size rfl 27 (oidC (N : Int) xs) (0, 0) _ hB.out Tryd.underlying27 rfl (oid_info _ _ HX.out) ?_)
    | (go_at_call 25; refine (CX.out _).mono ?_; rintro e w1 ⟨rfl, hb⟩; have B1 := Lib.hid (B0.out.trans (hb.mono B0.out.size)); clear hb))
  go_ret
  exact ⟨rfl, B1.out⟩
/-- What stands while the texts of the arcs are laid. -/
structure TxS (w : World) (N : Nat) (xs : List Int) (G : Nat) (j : Nat) (W : World) : Prop where
  s : St w W
  x : W.heap[w.heap.size]? = some (.cells (oidC (N : Int) xs) 27 (0, 0))
  o : ∃ cur, W.heap[G]? = some (.cells cur 9 (0, 0)) ∧ cur.size = N ∧ ∀ i, i < j → cur[i]? = some (.string ⟨(digO (xs.getD i 0)).toArray⟩)
theorem TxS.next {w : World} {N : Nat} {xs : List Int} {G j : Nat} {W W' : World} (h : TxS w N xs G j W) (hb : Below W.heap.size W W') : TxS w N xs G j W' := by
  obtain ⟨cur, h1, h2, h3⟩ := h.o
  exact ⟨h.s.next hb, blk_below h.x hb, cur, blk_below h1 hb, h2, h3⟩
theorem TxS.set {w : World} {N : Nat} {xs : List Int} {G j : Nat} {W : World} (h : TxS w N xs G j W) (hw : 3 < w.heap.size) (hG : w.heap.size < G) (hj : j < N) :
    TxS w N xs G (j + 1) (W.setCell ⟨G, j, none⟩ (.string ⟨(digO (xs.getD j 0)).toArray⟩)) := by
  obtain ⟨cur, h1, h2, h3⟩ := h.o
  refine ⟨h.s.set hw (by show w.heap.size ≤ G; omega) _, ?_, _, blk_set h1 j _, by simp [h2], fun i hi => ?_⟩
  · rw [Below.heap_setCell _ _ _ _ (by show w.heap.size ≠ G; omega)]; exact h.x
  · by_cases e : i = j
    · subst e; rw [Array.getElem?_setIfInBounds_self_of_lt (by omega)]
    · rw [Array.getElem?_setIfInBounds_ne (by omega)]; exact h3 i (by omega)
theorem TxS.at_ {w : World} {N : Nat} {xs : List Int} {G j : Nat} {W : World} (h : TxS w N xs G j W) (hj : j < N) : ∃ v, W.cell? ⟨G, j, none⟩ = some v ∧ W.frozen? ⟨G, j, none⟩ = false := by
  obtain ⟨cur, h1, h2, h3⟩ := h.o
  exact ⟨cur[j]'(by omega), by rw [blk_cell h1 j, Array.getElem?_eq_getElem (by omega)], blk_frozen h1 j⟩
set_option maxHeartbeats 4000000 in
theorem text_ok (N : Nat) (xs : List Int) (w : World) (hN : N < 256) (hx : xs.length = 16) (hu : U32 xs) (h0 : chkO (N : Int) xs = 0) (hT : Tabs w) :
    Calls Tryd.prog 15 #[oidV (N : Int) xs] w fun e w' => e = .returned (.string ⟨(txtO N xs).toArray⟩) ∧ Below w.heap.size w w' := by
  have CX := Lib.hid (fun W => check_any (N : Int) xs W hx (by omega))
  rw [h0] at CX
  obtain ⟨n2, n16⟩ := chkO_n h0
  have HU := Lib.hid hu
  have HX := Lib.hid hx
  have LX : Hid ((arcsO N xs).length = N) := by have := arcsO_len (N := N) hx; show _ = _; omega
  have S0 := Lib.hid ((St.refl hT).alloc (.cells (oidC (N : Int) xs) 27))
  have hB := Lib.hid (blk_new w (.cells (oidC (N : Int) xs) 27))
  have hsub : ∀ i, i < N → (arcsO N xs).getD i 0 = xs.getD i 0 := fun i hi => by
    unfold arcsO
    rw [List.getD_eq_getElem?_getD, List.getD_eq_getElem?_getD, List.getElem?_take, if_pos (by omega)]
  have HSUB := Lib.hid hsub
  have hw3 := hT.five
  obtain ⟨i0, hi, hz0, hz1, hz2⟩ := info_parts info9
  have hb16 : i0.bytes * N ≤ 281474976710656 := by rw [hz2]; omega
  clear hsub hx hu h0 hT hz2
  go_enter Tryd.func15, Tryd.ntmps15
  go_upto_region 4 with (first
    | ((with_reducible refine gate_dst (N := 6) rfl ?_); refine wpList_load_row rfl 27 _ rfl w.heap.size rfl 27 (oidC (N : Int) xs) (0, 0) _ hB.out Tryd.underlying27 rfl (oid_info _ _ HX.out) ?_)
    | (go_at_call 25; refine (CX.out _).mono ?_; rintro e w1 ⟨rfl, hb⟩; have S1 := Lib.hid (S0.out.next hb); have hB1 := Lib.hid (blk_below hB.out hb); clear hb; have c0 := (oid_cells hB1.out).1)
    | ((with_reducible refine gate_dst (N := 11) rfl ?_); refine wpList_make_full _ rfl _ _ 61 rfl w1.heap.size 9 i0 (.string ⟨#[]⟩) 1 Tryd.underlying61 hi hz0 hz1 .u8 .u8 (N : Int) (N : Int) N rfl rfl rfl rfl hb16 (by unfold maxLen; omega) (Nat.le_refl _) ?_; intro w2 hown hgrow))
  have hb2 : Below w1.heap.size w1 w2 := (Below.refl w1.heap.size w1).grown hgrow (Nat.le_refl _) (fun j e => by cases e)
  have T0 : Hid (TxS w N xs w1.heap.size 0 w2) := by
    refine ⟨S1.out.next hb2, blk_below hB1.out hb2, ?_⟩
    rcases hown.2 with ⟨h, _⟩ | ⟨g, cap, cur, hv, _, hh, _, _, hs, _⟩
    · cases h
    · injection hv with hp _ hc
      injection hp with hp
      injection hp with hg
      subst hg hc
      exact ⟨cur, hh, by simpa using hs, fun i hi => by omega⟩
  have hGw : w.heap.size < w1.heap.size := blk_lt hB1.out
  generalize w1.heap.size = G at *
  have c2 : w2.cell? ⟨w.heap.size, 0, none⟩ = some (.int .u8 (N : Int)) := (oid_cells T0.out.x).1
  clear hown hgrow hb2 c0
  go_upto_region 5 with (go_at_call 27; refine (arcs_of w.heap.size N xs _ c2 hN HX.out).mono ?_; rintro e w3 ⟨rfl, hb⟩; have T1 := Lib.hid (T0.out.next hb); clear hb; rw [LX.out])
  go_loopw [14] (fun i W => ∃ j : Nat, j ≤ N ∧ i = .int .i64 (j : Int) ∧ Hid (TxS w N xs G j W)) (fun i _ => N - (intOf i).toNat)
  case atStart => exact ⟨0, Nat.zero_le _, rfl, T1⟩
  case round =>
    obtain ⟨j, hj, rfl, T⟩ := hrel
    by_cases hlt : j < N
    · obtain ⟨u, hu⟩ : ∃ u : Nat, xs.getD j 0 = (u : Int) := ⟨(xs.getD j 0).toNat, by have := (HU.out.getD j).1; omega⟩
      have hub : (u : Int) < 4294967296 := by rw [← hu]; exact (HU.out.getD j).2
      have cj : wr.cell? ⟨w.heap.size, 1 + j, none⟩ = some (.int .u32 (u : Int)) := by rw [← hu]; exact (oid_cells T.out.x).2 j (by rw [HX.out]; omega)
      have hw : (u : Int) % 18446744073709551616 = (u : Int) := by omega
      have hjn : ¬ j = N := by omega
      have hdig : digO (xs.getD j 0) = Lib.decDigits u := by unfold digO; rw [hu]; rfl
      have HD := Lib.hid hdig
      clear hdig hu
      go_wp2_with (go_at_call 31; refine (fu_any u (by omega) _ T.out.s.t).mono ?_; rintro e w4 ⟨rfl, hb⟩; have T2 := Lib.hid (T.out.next hb); clear hb; have hat := T2.out.at_ hlt; obtain ⟨vj, cv, fv⟩ := hat)
      go_round
      case rel => exact ⟨j + 1, by omega, by go_num, by have := T2.out.set hw3 hGw hlt; rw [HD.out] at this; exact this⟩
      case measure => simp [intOf]; omega
    · obtain rfl : j = N := by omega
      have hJ : Hid (∀ W, TxS w j xs G j W → Calls Tryd.prog 32 #[.slice (some ⟨G, 0, none⟩) j j, .string ⟨#[46]⟩] W fun e w' => e = .returned (.string ⟨(txtO j xs).toArray⟩) ∧ Below W.heap.size W w') := by
        intro W T
        obtain ⟨cur, h1, h2, h3⟩ := T.o
        have hl : ((arcsO j xs).map (fun x => (⟨(digO x).toArray⟩ : ByteArray))).length = j := by rw [List.length_map, LX.out]
        have e1 : ((arcsO j xs).map (fun x => (⟨(digO x).toArray⟩ : ByteArray))).map (·.data.toList) = (arcsO j xs).map digO := by
          rw [List.map_map]; rfl
        have e2 : (⟨#[46]⟩ : ByteArray).data.toList = [46] := rfl
        have hjl := Tryd.strings_Join G 0 j ((arcsO j xs).map (fun x => (⟨(digO x).toArray⟩ : ByteArray))) ⟨#[46]⟩ W
          (fun i x hx => by
            have hi' : i < j := by
              by_cases h : i < j
              · exact h
              · rw [List.getElem?_eq_none (by omega)] at hx; cases hx
            rw [Nat.zero_add, blk_cell h1 i, h3 i hi']
            rw [List.getElem?_map, List.getElem?_eq_getElem (by rw [LX.out]; exact hi'), Option.map_some] at hx
            injection hx with hx
            rw [← hx, ← HSUB.out i hi', List.getD_eq_getElem?_getD, List.getElem?_eq_getElem (by rw [LX.out]; exact hi'), Option.getD_some])
          (blk_lt h1) (by omega) (by omega)
          (by
            rw [e1, e2]
            have := join_len ((arcsO j xs).map digO) (fun x hx => by
              obtain ⟨y, hy, rfl⟩ := List.mem_map.mp hx
              have := (HU.out y (List.mem_of_mem_take hy)).2
              exact dig_len (by omega))
            rw [List.length_map, LX.out] at this
            omega)
        rw [hl, e1, e2] at hjl
        exact hjl
      go_wp2_with (go_at_call 32; refine (hJ.out _ T.out).mono ?_; rintro e w5 ⟨rfl, hb⟩)
      go_ret
      exact ⟨rfl, (T.out.s.next hb).b⟩
end Go.Proofs.YtacpcagijfacnaaDoor
