/- Chapter 22 (armors): Get: a line: the ways through a round (the lines of a certificate). -/
import Derived.Test.YtbdccfjeeabpaaaXa
namespace Go.Proofs.Ytbdccfjeeabpaaa
open Go.RowKit Go.Shelf
open Go.Proofs.YtbdccfjeeabpaaaW.PrintWords (ReadsOf blk_cell)
attribute [local go_sem] Oper.semAt_some
set_option linter.unusedSimpArgs false
set_option linter.unusedVariables false
set_option maxRecDepth 50000
theorem decode_s (D : Nat) (s : List UInt8) (p : List Int) (er : Int) (w : World) (hs : s.length ≤ 2000000) (hD : w.heap[D]? = some (.cells (tabC 64) 60 (0, 0))) (hd : decP s = (p, er)) :
    Calls Try.prog 30 #[.pointer (some ⟨D, 0, none⟩), .string ⟨s.toArray⟩] w fun e w' => ∃ A, e = .returned (.tuple #[.slice A p.length p.length, .int .i64 er]) ∧ Ex w' w.heap.size A p ∧ Below w.heap.size w w' := by
  refine (decode_any D ⟨s.toArray⟩ w (by simp only [ByteArray.size, List.size_toArray]; omega) hD).mono ?_
  rintro e w' ⟨A, h1, h2, h3⟩
  rw [show (⟨s.toArray⟩ : ByteArray).data.toList = s by simp, hd] at h1 h2
  exact ⟨A, h1, h2, h3⟩
set_option maxHeartbeats 8000000 in
theorem body_F1 (lo : Nat) (S : ByteArray) (w : World) (D : Nat) (v17 gv : Value) (st : GS) (m : Int) (n : Nat) (s : List UInt8) (W : World) (hn : n ≤ 2000000) (H : HS w D st m 0 W) (hsz : D + 1 + 1 + 1 + 1 + 1 + 1 ≤ W.heap.size) (hi : st.ins = true) (hs : ¬ s = endS) (h1 : st.last < 48) :
    BodyWp lo (BPost w D st n s W) { tmps := bfr S w D v17 gv n s, defers := [] } W := by
  have hg : gstep st s = (st, 10) := by
    unfold gstep; rw [if_neg (by rw [hi]; decide), if_neg hs, if_pos]
    exact .inl h1
  obtain ⟨vl, vb, rows, hX, hO, hL⟩ := H.ex
  obtain ⟨Al, cl, rfl⟩ := own_sl hO.l
  obtain ⟨Ab, cb, rfl⟩ := own_sl hO.b
  have c1 := hX.m.cell
  have f1 := hX.m.fr
  have X1 := Lib.hid (hX.setM (.int .i64 (n : Int)))
  have K1 := Lib.hid (BK.set (g := D + 1 + 1 + 1 + 1 + 1) hX.m (by omega) (.int .i64 (n : Int)))
  have O1 := Lib.hid (hO.ck (ck_set (by omega : D + 1 + 1 + 1 < D + 1 + 1 + 1 + 1 + 1 + 1) (.int .i64 (n : Int))))
  have hb2 : (s == [45, 45, 45, 45, 45, 69, 78, 68, 32, 67, 69, 82, 84, 73, 70, 73, 67, 65, 84, 69, 45, 45, 45, 45, 45]) = false := by simpa [endS] using hs
  have h1d : decide (st.last < 48) = true := by simpa using h1
  clear h1
  dsimp only [BodyWp, Try.f11, rfBody, Option.getD, Option.or, bfr]
  gi_upto_region 10 with fail
  generalize W.setCell ⟨D + 1 + 1 + 1, 0, none⟩ (.int .i64 (n : Int)) = W1 at *
  have c2 : W1.cell? ⟨D + 1, 0, none⟩ = some (.bool true) := by rw [← hi]; exact X1.out.i.cell
  clear c1 f1
  have c0 := X1.out.la.cell
  have HG := Lib.hid hg
  clear hg
  gi_upto_region 23 with fail
  have c3 := X1.out.er.cell
  have f3 := X1.out.er.fr
  have X2 := Lib.hid (X1.out.setEr (.int .i64 (10)))
  have K2 := Lib.hid (K1.out.trans (BK.set X1.out.er (by have := X1.out.dw; omega) (.int .i64 (10))))
  have O2 := Lib.hid (O1.out.ck (ck_set (by have := X1.out.dw; omega : w.heap.size + 1 + 1 < D + 1 + 1 + 1 + 1 + 1 + 1) (.int .i64 (10))))
  gi_upto_region 27 with fail
  generalize W1.setCell ⟨w.heap.size + 1 + 1, 0, none⟩ (.int .i64 (10)) = W2 at *
  have HEX : Hid (Ex W2 0 none ([] : List Int)) := .inl ⟨rfl, rfl⟩
  obtain ⟨v3, W8, hap, hown, hgr, hv⟩ := app_b (base := D + 1 + 1 + 1 + 1 + 1 + 1) O2.out.b HEX.out (by have := H.nb; simp; omega) (by have := K2.out.size; omega)
  obtain ⟨BP, hBP⟩ : ∃ l, st.B ++ ([] : List Int) = l := ⟨_, rfl⟩
  have how : ∀ (hii : st.ins = true), OW (D + 1 + 1 + 1 + 1 + 1 + 1) _ v3 rows (st.B ++ ([] : List Int)) true W8 := fun hii => ow_app (hii ▸ O2.out) hown hgr hv
  rw [hBP] at hown how
  have HBP := Lib.hid hBP
  clear hBP
  obtain ⟨Ab3, cb3, rfl⟩ := own_sl hown
  have X8 := Lib.hid (X2.out.grown hgr (own_base_lt O2.out.b) (by omega))
  have K8 := Lib.hid (K2.out.trans (BK.grown O2.out.b hgr (by omega)))
  have HAP := Lib.hid hap
  have HOW := Lib.hid how
  clear hap hown hgr hv how
  have cbb := X2.out.b.cell
  have c4 := X8.out.la.cell
  have f4 := X8.out.la.fr
  have X9 := Lib.hid (X8.out.setLa (.int .i64 0))
  have c5 := X9.out.b.cell
  have f5 := X9.out.b.fr
  have XA := Lib.hid (X9.out.setB (.slice Ab3 BP.length cb3))
  have KA := Lib.hid ((K8.out.trans (BK.set X8.out.la (by omega) (.int .i64 0))).trans (BK.set X9.out.b (by omega) (.slice Ab3 BP.length cb3)))
  have OA := Lib.hid (fun (hii : st.ins = true) => ((HOW.out hii).ck (ck_set (by omega : D + 1 + 1 < D + 1 + 1 + 1 + 1 + 1 + 1) (.int .i64 0))).ck (ck_set (by omega : D + 1 + 1 + 1 + 1 < D + 1 + 1 + 1 + 1 + 1 + 1) (.slice Ab3 BP.length cb3)))
  gi_upto_region 28 with (first
    | (gi_at_builtin; refine appIn lo _ rfl _ _ 24 rfl rfl rfl HAP.out ?_))
  generalize (W8.setCell ⟨D + 1 + 1, 0, none⟩ (.int .i64 0)).setCell ⟨D + 1 + 1 + 1 + 1, 0, none⟩ (.slice Ab3 BP.length cb3) = WA at *
  have hg := HG.out
  have c91 := XA.out.er.cell
  have f91 := XA.out.er.fr
  have c92 := XA.out.l.cell
  have f92 := XA.out.l.fr
  have c93 := XA.out.ln.cell
  have f93 := XA.out.ln.fr
  have X9 := Lib.hid (((XA.out.drew.setL (.slice none 0 0)).setLn (.int .i64 (n : Int))).setEr (.int .i64 (10)))
  have K9 := Lib.hid (((KA.out.drew.trans (BK.set XA.out.drew.l (by have := XA.out.dw; omega) (.slice none 0 0))).trans (BK.set (XA.out.drew.setL (.slice none 0 0)).ln (by have := XA.out.dw; omega) (.int .i64 (n : Int)))).trans (BK.set ((XA.out.drew.setL (.slice none 0 0)).setLn (.int .i64 (n : Int))).er (by have := XA.out.dw; omega) (.int .i64 (10))))
  gi_upto_region 29 with fail
  gi_region_with (fail)
  all_goals gi_wp2
  all_goals exact ⟨K9.out, by rw [hg]; simp, _, _, _, _, by rw [hg]; exact X9.out⟩
set_option maxHeartbeats 8000000 in
theorem body_F2 (lo : Nat) (S : ByteArray) (w : World) (D : Nat) (v17 gv : Value) (st : GS) (m : Int) (n : Nat) (s : List UInt8) (W : World) (hn : n ≤ 2000000) (H : HS w D st m 0 W) (hsz : D + 1 + 1 + 1 + 1 + 1 + 1 ≤ W.heap.size) (hi : st.ins = true) (hs : ¬ s = endS) (h1 : ¬ st.last < 48) (h2 : s = []) :
    BodyWp lo (BPost w D st n s W) { tmps := bfr S w D v17 gv n s, defers := [] } W := by
  have hg : gstep st s = (st, 10) := by
    unfold gstep; rw [if_neg (by rw [hi]; decide), if_neg hs, if_pos]
    exact .inr (.inl h2)
  obtain ⟨vl, vb, rows, hX, hO, hL⟩ := H.ex
  obtain ⟨Al, cl, rfl⟩ := own_sl hO.l
  obtain ⟨Ab, cb, rfl⟩ := own_sl hO.b
  have c1 := hX.m.cell
  have f1 := hX.m.fr
  have X1 := Lib.hid (hX.setM (.int .i64 (n : Int)))
  have K1 := Lib.hid (BK.set (g := D + 1 + 1 + 1 + 1 + 1) hX.m (by omega) (.int .i64 (n : Int)))
  have O1 := Lib.hid (hO.ck (ck_set (by omega : D + 1 + 1 + 1 < D + 1 + 1 + 1 + 1 + 1 + 1) (.int .i64 (n : Int))))
  have hb2 : (s == [45, 45, 45, 45, 45, 69, 78, 68, 32, 67, 69, 82, 84, 73, 70, 73, 67, 65, 84, 69, 45, 45, 45, 45, 45]) = false := by simpa [endS] using hs
  have h1d : decide (st.last < 48) = false := by simpa using h1
  have h2e : s.isEmpty = true := by rw [h2]; rfl
  clear h1
  dsimp only [BodyWp, Try.f11, rfBody, Option.getD, Option.or, bfr]
  gi_upto_region 10 with fail
  generalize W.setCell ⟨D + 1 + 1 + 1, 0, none⟩ (.int .i64 (n : Int)) = W1 at *
  have c2 : W1.cell? ⟨D + 1, 0, none⟩ = some (.bool true) := by rw [← hi]; exact X1.out.i.cell
  clear c1 f1
  have c0 := X1.out.la.cell
  subst h2
  have HG := Lib.hid hg
  clear hg
  gi_upto_region 23 with fail
  have c3 := X1.out.er.cell
  have f3 := X1.out.er.fr
  have X2 := Lib.hid (X1.out.setEr (.int .i64 (10)))
  have K2 := Lib.hid (K1.out.trans (BK.set X1.out.er (by have := X1.out.dw; omega) (.int .i64 (10))))
  have O2 := Lib.hid (O1.out.ck (ck_set (by have := X1.out.dw; omega : w.heap.size + 1 + 1 < D + 1 + 1 + 1 + 1 + 1 + 1) (.int .i64 (10))))
  gi_upto_region 27 with fail
  generalize W1.setCell ⟨w.heap.size + 1 + 1, 0, none⟩ (.int .i64 (10)) = W2 at *
  have HEX : Hid (Ex W2 0 none ([] : List Int)) := .inl ⟨rfl, rfl⟩
  obtain ⟨v3, W8, hap, hown, hgr, hv⟩ := app_b (base := D + 1 + 1 + 1 + 1 + 1 + 1) O2.out.b HEX.out (by have := H.nb; simp; omega) (by have := K2.out.size; omega)
  obtain ⟨BP, hBP⟩ : ∃ l, st.B ++ ([] : List Int) = l := ⟨_, rfl⟩
  have how : ∀ (hii : st.ins = true), OW (D + 1 + 1 + 1 + 1 + 1 + 1) _ v3 rows (st.B ++ ([] : List Int)) true W8 := fun hii => ow_app (hii ▸ O2.out) hown hgr hv
  rw [hBP] at hown how
  have HBP := Lib.hid hBP
  clear hBP
  obtain ⟨Ab3, cb3, rfl⟩ := own_sl hown
  have X8 := Lib.hid (X2.out.grown hgr (own_base_lt O2.out.b) (by omega))
  have K8 := Lib.hid (K2.out.trans (BK.grown O2.out.b hgr (by omega)))
  have HAP := Lib.hid hap
  have HOW := Lib.hid how
  clear hap hown hgr hv how
  have cbb := X2.out.b.cell
  have c4 := X8.out.la.cell
  have f4 := X8.out.la.fr
  have X9 := Lib.hid (X8.out.setLa (.int .i64 0))
  have c5 := X9.out.b.cell
  have f5 := X9.out.b.fr
  have XA := Lib.hid (X9.out.setB (.slice Ab3 BP.length cb3))
  have KA := Lib.hid ((K8.out.trans (BK.set X8.out.la (by omega) (.int .i64 0))).trans (BK.set X9.out.b (by omega) (.slice Ab3 BP.length cb3)))
  have OA := Lib.hid (fun (hii : st.ins = true) => ((HOW.out hii).ck (ck_set (by omega : D + 1 + 1 < D + 1 + 1 + 1 + 1 + 1 + 1) (.int .i64 0))).ck (ck_set (by omega : D + 1 + 1 + 1 + 1 < D + 1 + 1 + 1 + 1 + 1 + 1) (.slice Ab3 BP.length cb3)))
  gi_upto_region 28 with (first
    | (gi_at_builtin; refine appIn lo _ rfl _ _ 24 rfl rfl rfl HAP.out ?_))
  generalize (W8.setCell ⟨D + 1 + 1, 0, none⟩ (.int .i64 0)).setCell ⟨D + 1 + 1 + 1 + 1, 0, none⟩ (.slice Ab3 BP.length cb3) = WA at *
  have hg := HG.out
  have c91 := XA.out.er.cell
  have f91 := XA.out.er.fr
  have c92 := XA.out.l.cell
  have f92 := XA.out.l.fr
  have c93 := XA.out.ln.cell
  have f93 := XA.out.ln.fr
  have X9 := Lib.hid (((XA.out.drew.setL (.slice none 0 0)).setLn (.int .i64 (n : Int))).setEr (.int .i64 (10)))
  have K9 := Lib.hid (((KA.out.drew.trans (BK.set XA.out.drew.l (by have := XA.out.dw; omega) (.slice none 0 0))).trans (BK.set (XA.out.drew.setL (.slice none 0 0)).ln (by have := XA.out.dw; omega) (.int .i64 (n : Int)))).trans (BK.set ((XA.out.drew.setL (.slice none 0 0)).setLn (.int .i64 (n : Int))).er (by have := XA.out.dw; omega) (.int .i64 (10))))
  gi_upto_region 29 with fail
  gi_region_with (fail)
  all_goals gi_wp2
  all_goals exact ⟨K9.out, by rw [hg]; simp, _, _, _, _, by rw [hg]; exact X9.out⟩
set_option maxHeartbeats 8000000 in
theorem body_F3 (lo : Nat) (S : ByteArray) (w : World) (D : Nat) (v17 gv : Value) (st : GS) (m : Int) (n : Nat) (s : List UInt8) (W : World) (hn : n ≤ 2000000) (H : HS w D st m 0 W) (hsz : D + 1 + 1 + 1 + 1 + 1 + 1 ≤ W.heap.size) (hi : st.ins = true) (hs : ¬ s = endS) (h1 : ¬ st.last < 48) (h2 : ¬ s = []) (h3 : 64 < s.length) :
    BodyWp lo (BPost w D st n s W) { tmps := bfr S w D v17 gv n s, defers := [] } W := by
  have hg : gstep st s = (st, 10) := by
    unfold gstep; rw [if_neg (by rw [hi]; decide), if_neg hs, if_pos]
    exact .inr (.inr h3)
  obtain ⟨vl, vb, rows, hX, hO, hL⟩ := H.ex
  obtain ⟨Al, cl, rfl⟩ := own_sl hO.l
  obtain ⟨Ab, cb, rfl⟩ := own_sl hO.b
  have c1 := hX.m.cell
  have f1 := hX.m.fr
  have X1 := Lib.hid (hX.setM (.int .i64 (n : Int)))
  have K1 := Lib.hid (BK.set (g := D + 1 + 1 + 1 + 1 + 1) hX.m (by omega) (.int .i64 (n : Int)))
  have O1 := Lib.hid (hO.ck (ck_set (by omega : D + 1 + 1 + 1 < D + 1 + 1 + 1 + 1 + 1 + 1) (.int .i64 (n : Int))))
  have hb2 : (s == [45, 45, 45, 45, 45, 69, 78, 68, 32, 67, 69, 82, 84, 73, 70, 73, 67, 65, 84, 69, 45, 45, 45, 45, 45]) = false := by simpa [endS] using hs
  have h1d : decide (st.last < 48) = false := by simpa using h1
  have h2e : s.isEmpty = false := by simpa using h2
  have h3i : (64 : Int) < (s.length : Int) := by omega
  clear h1 h2
  dsimp only [BodyWp, Try.f11, rfBody, Option.getD, Option.or, bfr]
  gi_upto_region 10 with fail
  generalize W.setCell ⟨D + 1 + 1 + 1, 0, none⟩ (.int .i64 (n : Int)) = W1 at *
  have c2 : W1.cell? ⟨D + 1, 0, none⟩ = some (.bool true) := by rw [← hi]; exact X1.out.i.cell
  clear c1 f1
  have c0 := X1.out.la.cell
  have HG := Lib.hid hg
  clear hg
  gi_upto_region 23 with fail
  have c3 := X1.out.er.cell
  have f3 := X1.out.er.fr
  have X2 := Lib.hid (X1.out.setEr (.int .i64 (10)))
  have K2 := Lib.hid (K1.out.trans (BK.set X1.out.er (by have := X1.out.dw; omega) (.int .i64 (10))))
  have O2 := Lib.hid (O1.out.ck (ck_set (by have := X1.out.dw; omega : w.heap.size + 1 + 1 < D + 1 + 1 + 1 + 1 + 1 + 1) (.int .i64 (10))))
  gi_upto_region 27 with fail
  generalize W1.setCell ⟨w.heap.size + 1 + 1, 0, none⟩ (.int .i64 (10)) = W2 at *
  have HEX : Hid (Ex W2 0 none ([] : List Int)) := .inl ⟨rfl, rfl⟩
  obtain ⟨v3, W8, hap, hown, hgr, hv⟩ := app_b (base := D + 1 + 1 + 1 + 1 + 1 + 1) O2.out.b HEX.out (by have := H.nb; simp; omega) (by have := K2.out.size; omega)
  obtain ⟨BP, hBP⟩ : ∃ l, st.B ++ ([] : List Int) = l := ⟨_, rfl⟩
  have how : ∀ (hii : st.ins = true), OW (D + 1 + 1 + 1 + 1 + 1 + 1) _ v3 rows (st.B ++ ([] : List Int)) true W8 := fun hii => ow_app (hii ▸ O2.out) hown hgr hv
  rw [hBP] at hown how
  have HBP := Lib.hid hBP
  clear hBP
  obtain ⟨Ab3, cb3, rfl⟩ := own_sl hown
  have X8 := Lib.hid (X2.out.grown hgr (own_base_lt O2.out.b) (by omega))
  have K8 := Lib.hid (K2.out.trans (BK.grown O2.out.b hgr (by omega)))
  have HAP := Lib.hid hap
  have HOW := Lib.hid how
  clear hap hown hgr hv how
  have cbb := X2.out.b.cell
  have c4 := X8.out.la.cell
  have f4 := X8.out.la.fr
  have X9 := Lib.hid (X8.out.setLa (.int .i64 0))
  have c5 := X9.out.b.cell
  have f5 := X9.out.b.fr
  have XA := Lib.hid (X9.out.setB (.slice Ab3 BP.length cb3))
  have KA := Lib.hid ((K8.out.trans (BK.set X8.out.la (by omega) (.int .i64 0))).trans (BK.set X9.out.b (by omega) (.slice Ab3 BP.length cb3)))
  have OA := Lib.hid (fun (hii : st.ins = true) => ((HOW.out hii).ck (ck_set (by omega : D + 1 + 1 < D + 1 + 1 + 1 + 1 + 1 + 1) (.int .i64 0))).ck (ck_set (by omega : D + 1 + 1 + 1 + 1 < D + 1 + 1 + 1 + 1 + 1 + 1) (.slice Ab3 BP.length cb3)))
  gi_upto_region 28 with (first
    | (gi_at_builtin; refine appIn lo _ rfl _ _ 24 rfl rfl rfl HAP.out ?_))
  generalize (W8.setCell ⟨D + 1 + 1, 0, none⟩ (.int .i64 0)).setCell ⟨D + 1 + 1 + 1 + 1, 0, none⟩ (.slice Ab3 BP.length cb3) = WA at *
  have hg := HG.out
  have c91 := XA.out.er.cell
  have f91 := XA.out.er.fr
  have c92 := XA.out.l.cell
  have f92 := XA.out.l.fr
  have c93 := XA.out.ln.cell
  have f93 := XA.out.ln.fr
  have X9 := Lib.hid (((XA.out.drew.setL (.slice none 0 0)).setLn (.int .i64 (n : Int))).setEr (.int .i64 (10)))
  have K9 := Lib.hid (((KA.out.drew.trans (BK.set XA.out.drew.l (by have := XA.out.dw; omega) (.slice none 0 0))).trans (BK.set (XA.out.drew.setL (.slice none 0 0)).ln (by have := XA.out.dw; omega) (.int .i64 (n : Int)))).trans (BK.set ((XA.out.drew.setL (.slice none 0 0)).setLn (.int .i64 (n : Int))).er (by have := XA.out.dw; omega) (.int .i64 (10))))
  gi_upto_region 29 with fail
  gi_region_with (fail)
  all_goals gi_wp2
  all_goals exact ⟨K9.out, by rw [hg]; simp, _, _, _, _, by rw [hg]; exact X9.out⟩
end Go.Proofs.Ytbdccfjeeabpaaa
