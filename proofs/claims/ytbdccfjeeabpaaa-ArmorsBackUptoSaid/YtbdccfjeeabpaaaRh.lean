/- Chapter 22 (armors): the law ArmorsBack: the walk. -/
import Derived.Test.YtbdccfjeeabpaaaRg
import Derived.Test.YtbdccfjeeabpaaaPg
namespace Go.Proofs.Ytbdccfjeeabpaaa
open Go.RowKit Go.Shelf
open Go.Proofs.YtbdccfjeeabpaaaW.PrintWords (ReadsOf blk_cell add_plain Ev string_of_reads)
open Go.Proofs.YtbdccfjeeabpaaaW
open Go.Proofs.YtbdccfjeeabpaaaW.PrintLast
attribute [local go_sem] Oper.semAt_some
set_option linter.unusedSimpArgs false
set_option linter.unusedVariables false
set_option maxRecDepth 50000
theorem allL_take {rows : List Rw} {k : Nat} {R : Rw} (h : k < rows.length) (hR : rows.getD k rw0 = R) : allL (rows.take (k + 1)) = allL (rows.take k) + R.l.length := by
  unfold allL
  rw [List.take_add_one, List.getElem?_eq_getElem h, Option.toList_some, List.map_append, List.sum_append, ← hR, List.getD_eq_getElem?_getD, List.getElem?_eq_getElem h]
  simp
theorem allL_pre (rows : List Rw) (k : Nat) : allL (rows.take k) ≤ allL rows := by
  have h : allL (rows.take k) + allL (rows.drop k) = allL rows := by
    unfold allL
    rw [← List.sum_append, ← List.map_append, List.take_append_drop]
  omega
theorem allL_mem {rows : List Rw} {r : Rw} (h : r ∈ rows) : r.l.length ≤ allL rows := by
  induction rows with
  | nil => cases h
  | cons x t ih =>
    have e : allL (x :: t) = x.l.length + allL t := by unfold allL; simp
    rcases List.mem_cons.1 h with rfl | h
    · omega
    · have := ih h; omega
def emp (rows : List Rw) : Int := if rows.any (fun r => r.l.isEmpty) = true then 17 else 0
theorem emp_take {rows : List Rw} {k : Nat} {R : Rw} (h : k < rows.length) (hR : rows.getD k rw0 = R) : emp (rows.take (k + 1)) = if emp (rows.take k) = 0 then (if R.l.length = 0 then 17 else 0) else 17 := by
  unfold emp
  rw [List.take_add_one, List.getElem?_eq_getElem h, Option.toList_some, List.any_append]
  have hR' : rows[k] = R := by rw [← hR, List.getD_eq_getElem?_getD, List.getElem?_eq_getElem h]; rfl
  rw [hR']
  cases h1 : (rows.take k).any (fun r => r.l.isEmpty) <;> cases h2 : R.l <;> simp [h2]
theorem emp_01 (rows : List Rw) : emp rows = 0 ∨ emp rows = 17 := by unfold emp; split <;> simp
/-- Get of a text that it reads. -/
theorem get_of (S : List UInt8) (L : List (List Int)) (h : getP S = (L, 0, 0)) (hL : L.length ≤ 1000) (w : World) :
    Calls Try.prog 11 #[.string ⟨S.toArray⟩] w fun e w' => ∃ A rows, e = .returned (.tuple #[.slice A rows.length rows.length, .int .i64 0, .int .i64 0]) ∧ rows.map (·.l) = L ∧ Chn w' A rows.length rows ∧ (∀ r ∈ rows, r.c = r.l.length) ∧
      (rows ≠ [] → ∃ g cur, A = some ⟨g, 0, none⟩ ∧ w.heap.size ≤ g ∧ w'.heap[g]? = some (.cells cur 24 (0, 0)) ∧ cur.toList.take rows.length = rows.map rwV) ∧ (∀ r ∈ rows, RowB w' w.heap.size r) ∧ Below w.heap.size w w' := by
  refine (get_any ⟨S.toArray⟩ w).mono ?_
  rintro e w' ⟨A, rows, rfl, h1, h2, h3, hb⟩
  have hS : (⟨S.toArray⟩ : ByteArray).data.toList = S := rfl
  rw [hS, h] at h1 ⊢
  refine ⟨A, rows, rfl, h1, ⟨?_, Nat.le_refl _, fun r hr => ?_⟩, fun r hr => (h3 r hr).c, h2, h3, hb⟩
  · by_cases h0 : rows = []
    · subst h0; exact ⟨rfl, by simp, fun h => absurd h (Nat.lt_irrefl 0)⟩
    · obtain ⟨g, cur, rfl, _, hg, ht⟩ := h2 h0
      have hl : rows.length ≤ cur.size := by
        have h := congrArg List.length ht
        rw [List.length_take, List.length_map] at h
        have e : cur.toList.length = cur.size := Array.length_toList
        omega
      refine ⟨rfl, ?_, fun _ => ⟨_, rfl, fun j hj => ?_⟩⟩
      · have := congrArg List.length h1
        rw [List.length_map] at this
        have h9 : rows.length = L.length := this
        omega
      · rw [add_plain, blk_cell hg, ← Array.getElem?_toList]
        have e := congrArg (fun x : List Value => x[j]?) ht
        simp only [List.getElem?_take] at e
        rw [if_pos (by omega)] at e
        rw [e, List.getElem?_map, List.getD_eq_getElem?_getD, List.getElem?_eq_getElem hj]
        rfl
  · obtain ⟨g, cur, e1, _, e2, e3⟩ := (h3 r hr).g
    refine ⟨⟨rfl, by have := (h3 r hr).n.2; omega, fun _ => ⟨_, e1, fun j hj => ?_⟩⟩, by rw [(h3 r hr).c]; exact Nat.le_refl _, (h3 r hr).byt, by have := (h3 r hr).n.2; omega⟩
    rw [add_plain, blk_cell e2, ← Array.getElem?_toList]
    have e := congrArg (fun x : List Value => x[j]?) e3
    simp only [List.getElem?_take] at e
    rw [if_pos (by omega)] at e
    rw [e, List.getElem?_map, List.getD_eq_getElem?_getD, List.getElem?_eq_getElem hj]
    rfl
theorem cell_lt {w : World} {a : Addr} {v : Value} (h : w.cell? a = some v) : a.block < w.heap.size := by
  by_cases hlt : a.block < w.heap.size
  · exact hlt
  · unfold World.cell? at h
    rw [Array.getElem?_eq_none (by omega)] at h
    cases h
theorem cell_far {w : World} {a : Addr} {j : Nat} (h : a.block ≠ j) (v : Value) : (w.setCell ⟨j, 0, none⟩ v).cell? a = w.cell? a := by
  unfold World.cell?
  rw [Below.heap_setCell _ _ _ _ h]
theorem block_setCell {w : World} {g i : Nat} {cs : Array Value} {t : TypeId} {fr : Nat × Nat} (h : w.heap[g]? = some (.cells cs t fr)) (v : Value) : (w.setCell ⟨g, i, none⟩ v).heap[g]? = some (.cells (cs.setIfInBounds i v) t fr) := by
  rw [setCell_eq_setRow w g i cs t fr v h]
  exact setRow_heap w g _ _ t _ h
set_option maxHeartbeats 40000000 in
theorem armorsBack_walk (A : Option Addr) (c : Nat) (rows : List Rw) (w : World) (hC : Chn w A c rows) (hn : rows.length ≤ 1048576) (ha : allL rows ≤ 1048576) :
    Calls Try.prog 3 #[.slice A rows.length c] w fun e w' => e = .returned (.bool true) ∧ Below w.heap.size w w' := by
  have H0 := Lib.hid hC
  clear hC
  have HA := Lib.hid ha
  clear ha
  by_cases h64 : 64 < rows.length
  · go_enter Try.func3, Try.ntmps3
    go_wp2
    go_loopw [3, 4, 5] (fun v u i wr => ∃ k s : Nat, k ≤ rows.length ∧ i = .int .i64 k ∧ u = .int .i64 3 ∧ v = .int .i64 (s : Int) ∧ Hid (s = allL (rows.take k)) ∧ wr = w) (fun _ _ i _ => rows.length - (intOf i).toNat)
    case atStart => exact ⟨0, 0, by omega, rfl, rfl, rfl, Lib.hid (by simp [allL]), rfl⟩
    case round =>
      obtain ⟨k, s, hk, rfl, rfl, rfl, hs, rfl⟩ := hrel
      have hsa : s ≤ 1048576 := by have := hs.out; have := allL_pre rows k; have := HA.out; omega
      by_cases hlt : k < rows.length
      · obtain ⟨ad, hA, hx⟩ := H0.out.r.2.2 (by omega)
        clear hx
        subst hA
        obtain ⟨R, hR⟩ : ∃ R, Hid (rows.getD k rw0 = R) := ⟨_, Lib.hid rfl⟩
        have C1 := H0.out.cell hlt hR.out
        have hnx : Hid (s + R.l.length = allL (rows.take (k + 1))) := by show _ = _; rw [allL_take hlt hR.out, hs.out]
        have hsb : s + R.l.length ≤ 1048576 := by have := hnx.out; have := allL_pre rows (k + 1); have := HA.out; omega
        by_cases h0 : R.l.length = 0
        · go_wp2
          go_round
          case rel => exact ⟨k + 1, s, by omega, by go_num, rfl, rfl, Lib.hid (by have := hnx.out; omega), trivial⟩
          case measure => simp [intOf]; omega
        · have hg0 : ((R.l.length : Int) == 0) = false := by simp only [beq_eq_false_iff_ne]; omega
          go_wp2
          go_round
          case rel => exact ⟨k + 1, s + R.l.length, by omega, by go_num, rfl, by go_num, hnx, trivial⟩
          case measure => simp [intOf]; omega
      · obtain rfl : k = rows.length := by omega
        rw [List.take_length] at hs
        by_cases h70 : 70 < rows.length
        · go_wp2_with (go_at_call 9; refine (lives_any _).mono ?_; rintro e w' ⟨rfl, hb⟩)
          go_ret
          exact ⟨rfl, hb⟩
        · by_cases h2000 : 2000 < s
          · go_wp2_with (go_at_call 9; refine (lives_any _).mono ?_; rintro e w' ⟨rfl, hb⟩)
            go_ret
            exact ⟨rfl, hb⟩
          · have hP : Hid (putP rows = ([], 3)) := by show _ = _; unfold putP; rw [if_pos h64]
            go_wp2_with (first
              | (go_at_call 10; refine (put_any A c rows _ H0.out (by omega)).mono ?_; rintro e w1 ⟨rfl, hb1⟩; rw [hP.out]; have B1 := Lib.hid hb1; clear hb1)
              | (go_at_call 9; refine (lives_any _).mono ?_; rintro e w2 ⟨rfl, hb2⟩; have B2 := Lib.hid (chainB B1.out rfl hb2); clear hb2))
            go_ret
            exact ⟨rfl, B2.out⟩
  · go_enter Try.func3, Try.ntmps3
    go_wp2
    go_loopw [3, 4, 5] (fun v u i wr => ∃ k s : Nat, k ≤ rows.length ∧ i = .int .i64 k ∧ u = .int .i64 (emp (rows.take k)) ∧ v = .int .i64 (s : Int) ∧ Hid (s = allL (rows.take k)) ∧ wr = w) (fun _ _ i _ => rows.length - (intOf i).toNat)
    case atStart => exact ⟨0, 0, by omega, rfl, by simp [emp], rfl, Lib.hid (by simp [allL]), rfl⟩
    case round =>
      obtain ⟨k, s, hk, rfl, rfl, rfl, hs, rfl⟩ := hrel
      have hsa : s ≤ 1048576 := by have := hs.out; have := allL_pre rows k; have := HA.out; omega
      by_cases hlt : k < rows.length
      · obtain ⟨ad, hA, hx⟩ := H0.out.r.2.2 (by omega)
        clear hx
        subst hA
        obtain ⟨R, hR⟩ : ∃ R, Hid (rows.getD k rw0 = R) := ⟨_, Lib.hid rfl⟩
        have C1 := H0.out.cell hlt hR.out
        have hnx : Hid (s + R.l.length = allL (rows.take (k + 1))) := by show _ = _; rw [allL_take hlt hR.out, hs.out]
        have hsb : s + R.l.length ≤ 1048576 := by have := hnx.out; have := allL_pre rows (k + 1); have := HA.out; omega
        have hem := Lib.hid (emp_take hlt hR.out)
        rcases emp_01 (rows.take k) with he | he
        all_goals
          rw [he] at hem ⊢
          clear he
          by_cases h0 : R.l.length = 0
          · have hem2 := Lib.hid hem.out
            first | rw [if_pos rfl, if_pos h0] at hem2 | rw [if_neg (by decide)] at hem2
            go_wp2
            go_round
            case rel => exact ⟨k + 1, s, by omega, by go_num, by rw [hem2.out], rfl, Lib.hid (by have := hnx.out; omega), trivial⟩
            case measure => simp [intOf]; omega
          · have hg0 : ((R.l.length : Int) == 0) = false := by simp only [beq_eq_false_iff_ne]; omega
            have hem2 := Lib.hid hem.out
            first | rw [if_pos rfl, if_neg h0] at hem2 | rw [if_neg (by decide)] at hem2
            go_wp2
            go_round
            case rel => exact ⟨k + 1, s + R.l.length, by omega, by go_num, by rw [hem2.out], by go_num, hnx, trivial⟩
            case measure => simp [intOf]; omega
      · obtain rfl : k = rows.length := by omega
        rw [List.take_length] at hs
        rw [List.take_length]
        by_cases h2000 : 2000 < s
        · go_wp2_with (go_at_call 9; refine (lives_any _).mono ?_; rintro e w' ⟨rfl, hb⟩)
          go_ret
          exact ⟨rfl, hb⟩
        · have hP := put_want rows (by have := hs.out; omega)
          have hW : wantL rows.length rows = emp rows := by unfold wantL emp; rw [if_neg h64]
          rw [hW] at hP
          obtain ⟨P, hPe⟩ : ∃ P, putP rows = P := ⟨_, rfl⟩
          obtain ⟨T, er⟩ := P
          rw [hPe] at hP
          obtain ⟨h1, h2, h3⟩ := hP
          replace h1 : er = emp rows := h1
          have HP := Lib.hid hPe
          clear hPe
          rcases emp_01 rows with he | he
          · obtain rfl : er = 0 := h1.trans he
            rw [he]
            clear he h1 hW
            obtain ⟨h3, h4, h5, h6⟩ := h3 rfl
            replace h3 : T = putS rows := h3
            subst h3
            have hrl : ∀ r ∈ rows, r.l.length ≤ 2000 := fun r hr => by
              have := allL_mem hr
              have := hs.out
              omega
            have HG := Lib.hid (get_put h4 (fun r hr => ⟨h5 r hr, by have := hrl r hr; omega, (H0.out.ok r hr).bb⟩) h6)
            have H6 := Lib.hid h6
            have HL := Lib.hid hrl
            have H5 := Lib.hid h5
            have RP := Lib.hid (fun (W : World) (hC : Chn W A c rows) => rput_any A c rows W hC (by omega) (by omega) (fun r hr => by have := HL.out r hr; omega))
            clear h6 hrl h2 h5
            generalize putS rows = S at *
            go_upto_region 21 with (first
              | (go_at_call 10; refine (put_any A c rows _ H0.out (by omega)).mono ?_; rintro e w1 ⟨rfl, hb1⟩; rw [HP.out]; have B1 := Lib.hid hb1; clear hb1)
              | (go_at_call 11; refine (get_of S _ HG.out (by rw [List.length_map]; omega) _).mono ?_; rintro e w2 ⟨A2, rows2, rfl, g1, g2, g3, g4, g5, hb2⟩; have G1 := Lib.hid g1; have G2 := Lib.hid g2; have G3 := Lib.hid g3; have G4 := Lib.hid g4; have G5 := Lib.hid g5; have B2 := Lib.hid (chainB B1.out rfl hb2); clear hb2 g1 g2 g3 g4 g5)
              | (go_at_call 12; refine (RP.out _ (H0.out.below B2.out)).mono ?_; rintro e w3 ⟨rfl, hb3⟩; have B3 := Lib.hid (chainB B2.out rfl hb3); have C3 := Lib.hid (G2.out.below hb3); have D3 := Lib.hid hb3; clear hb3)
              | (go_at_call 13; refine (same_yes A2 rows2.length rows2 A c rows _ C3.out (H0.out.below B3.out) G1.out rfl G3.out (by have := congrArg List.length G1.out; simp only [List.length_map] at this; omega)).mono ?_; rintro e w4 ⟨rfl, hb4⟩; have B4 := Lib.hid (chainB B3.out rfl hb4); have D4 := Lib.hid (D3.out.trans (hb4.mono D3.out.size)); clear hb4))
            by_cases h0 : rows2 = []
            · subst h0
              go_wp2_with (go_at_call 9; refine (lives_any _).mono ?_; rintro e w5 ⟨rfl, hb5⟩; have B5 := Lib.hid (chainB B4.out rfl hb5); clear hb5)
              go_ret
              exact ⟨rfl, B5.out⟩
            · have hp2 := List.length_pos_iff.2 h0
              have hp1 : 0 < rows.length := by have := congrArg List.length G1.out; simp only [List.length_map] at this; omega
              obtain ⟨g, cur, hA2, hg0, hg, ht⟩ := G4.out h0
              subst hA2
              have hg4 : w4.heap[g]? = some (.cells cur 24 (0, 0)) := (D4.out.block g (Array.getElem?_eq_some_iff.1 hg).1).trans hg
              obtain ⟨R, hR⟩ : ∃ R, Hid (rows2.getD 0 rw0 = R) := ⟨_, Lib.hid rfl⟩
              obtain ⟨Q, hQ⟩ : ∃ Q, Hid (rows.getD 0 rw0 = Q) := ⟨_, Lib.hid rfl⟩
              have hRm : R ∈ rows2 := by rw [← hR.out, List.getD_eq_getElem?_getD, List.getElem?_eq_getElem hp2, Option.getD_some]; exact List.getElem_mem hp2
              have hRQ : Q.l = R.l := by
                have e := congrArg (fun x : List (List Int) => x[0]?) G1.out
                simp only [List.getElem?_map, List.getElem?_eq_getElem hp1, List.getElem?_eq_getElem hp2, Option.map_some, Option.some.injEq] at e
                rw [← hR.out, ← hQ.out]
                simp only [List.getD_eq_getElem?_getD, List.getElem?_eq_getElem hp1, List.getElem?_eq_getElem hp2, Option.getD_some]
                exact e.symm
              obtain ⟨g1, cur1, e1, hb1, hc1, ht1⟩ := (G5.out R hRm).g
              have hn1 := (G5.out R hRm).n.1
              have hc4 : w4.heap[g1]? = some (.cells cur1 5 (0, 0)) := (D4.out.block g1 (Array.getElem?_eq_some_iff.1 hc1).1).trans hc1
              have hne : g ≠ g1 := fun e => by subst e; rw [hg4] at hc4; cases hc4
              have m1 := (G2.out.below D4.out).cell hp2 hR.out
              rw [add_plain, e1] at m1
              obtain ⟨ad, hA, hx⟩ := H0.out.r.2.2 hp1
              clear hx
              subst hA
              have l1 := (H0.out.below B4.out).cell hp1 hQ.out
              obtain ⟨qd, hq, hqc⟩ := ((H0.out.below B4.out).row hp1 hQ.out).2.2 (by rw [hRQ]; omega)
              have l2 := hqc 0 (by rw [hRQ]; omega)
              rw [hRQ] at l2
              have hqb : (qd.add 0).block < wr.heap.size := by
                obtain ⟨qd', hq', hqc'⟩ := (H0.out.row hp1 hQ.out).2.2 (by rw [hRQ]; omega)
                rw [hq] at hq'
                cases hq'
                exact cell_lt (hqc' 0 (by rw [hRQ]; omega))
              have hab : (ad.add 0).block < wr.heap.size := cell_lt (H0.out.cell hp1 hQ.out)
              have hwg : wr.heap.size ≤ g1 := Nat.le_trans B1.out.size hb1
              have m2 : w4.cell? ⟨g1, 0, none⟩ = some (.int .u8 (R.l.getD 0 0)) := by
                rw [blk_cell hc4, ← Array.getElem?_toList]
                have e := congrArg (fun x : List Value => x[0]?) ht1
                simp only [List.getElem?_take] at e
                rw [if_pos (by omega)] at e
                rw [e, List.getElem?_map, List.getD_eq_getElem?_getD, List.getElem?_eq_getElem (by omega)]
                rfl
              have f2 : w4.frozen? ⟨g1, 0, none⟩ = false := PrintWords.blk_frozen hc4 0
              rw [hRQ] at l1
              rw [hq] at l1
              generalize R.l.getD 0 0 = x at *
              generalize hrn : R.l.length = rn at *
              clear ht ht1 hg hc1 hqc HG H6 HL H5 RP hR hQ hRm hRQ G1 G2 G3 G4 G5
              go_upto_region 23 with fail
              have a0 : ∀ b : Addr, b.add 0 = b := fun b => by cases b; simp [Addr.add]
              have k1 := (cell_far (w := w4) (a := ⟨g, 0, none⟩) hne (.int .u8 ((x + 1) % 256))).trans m1
              have k2 : (w4.setCell ⟨g1, 0, none⟩ (.int .u8 ((x + 1) % 256))).cell? ⟨g1, 0, none⟩ = some (.int .u8 ((x + 1) % 256)) := by
                rw [blk_cell (block_setCell hc4 _) 0]
                have hsz : 0 < cur1.size := by
                  have := (Array.getElem?_eq_some_iff.1 ((blk_cell hc4 0).symm.trans m2)).1
                  exact this
                simp [hsz]
              have k3 := (cell_far (w := w4) (a := ad.add 0) (j := g1) (by omega) (.int .u8 ((x + 1) % 256))).trans l1
              have k4 := (cell_far (w := w4) (a := qd.add 0) (j := g1) (by omega) (.int .u8 ((x + 1) % 256))).trans l2
              rw [a0] at k3 k4
              have B5 := Lib.hid (B4.out.setCell (p := ⟨g1, 0, none⟩) hwg (.int .u8 ((x + 1) % 256)))
              generalize w4.setCell ⟨g1, 0, none⟩ (.int .u8 ((x + 1) % 256)) = W5 at *
              clear m1 m2 f2 l1 l2 hg4 hc4
              go_region_with (go_at_call 9; refine (lives_any _).mono ?_; rintro e w6 ⟨rfl, hb6⟩; have B6 := Lib.hid (chainB B5.out.drew rfl hb6); clear hb6)
              all_goals go_wp2
              all_goals go_ret
              all_goals exact ⟨rfl, B6.out⟩
          · obtain rfl : er = 17 := h1.trans he
            rw [he]
            clear he h1 hW h3
            replace h2 : T = [] := h2 (by show (17 : Int) ≠ 0; decide)
            subst h2
            go_wp2_with (first
              | (go_at_call 10; refine (put_any A c rows _ H0.out (by omega)).mono ?_; rintro e w1 ⟨rfl, hb1⟩; rw [HP.out]; have B1 := Lib.hid hb1; clear hb1)
              | (go_at_call 9; refine (lives_any _).mono ?_; rintro e w2 ⟨rfl, hb2⟩; have B2 := Lib.hid (chainB B1.out rfl hb2); clear hb2))
            go_ret
            exact ⟨rfl, B2.out⟩
end Go.Proofs.Ytbdccfjeeabpaaa
