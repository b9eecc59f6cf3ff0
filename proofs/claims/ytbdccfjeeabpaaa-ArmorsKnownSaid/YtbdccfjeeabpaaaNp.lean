/- Chapter 22 (armors): Get: a line: the ways through a round (the lines of a certificate, decoded). -/
import Derived.Test.YtbdccfjeeabpaaaNo
namespace Go.Proofs.Ytbdccfjeeabpaaa
open Go.RowKit Go.Shelf
open Go.Proofs.YtbdccfjeeabpaaaW.PrintWords (ReadsOf blk_cell)
attribute [local go_sem] Oper.semAt_some
set_option linter.unusedSimpArgs false
set_option linter.unusedVariables false
set_option maxRecDepth 50000
set_option maxHeartbeats 8000000 in
theorem body_G (lo : Nat) (S : ByteArray) (w : World) (D : Nat) (v17 gv : Value) (st : GS) (m : Int) (n : Nat) (s : List UInt8) (W : World) (hn : n ≤ 2000000) (H : HS w D st m 0 W) (hsz : D + 1 + 1 + 1 + 1 + 1 + 1 ≤ W.heap.size) (hi : st.ins = true) (hs : ¬ s = endS) (h1 : ¬ st.last < 48) (h2 : ¬ s = []) (h3 : ¬ 64 < s.length) (p : List Int) (er : Int) (hd : decP s = (p, er)) (he : er ≠ 0) :
    BodyWp lo (BPost w D st n s W) { tmps := bfr S w D v17 gv n s, defers := [] } W := by
  have hg : gstep st s = (st, er) := by
    unfold gstep; rw [if_neg (by rw [hi]; decide), if_neg hs, if_neg (by intro h; rcases h with h | h | h; exact h1 h; exact h2 h; exact h3 h), hd]
    rw [if_pos he]
  obtain ⟨vl, vb, rows, hX, hO, hL⟩ := H.ex
  obtain ⟨Al, cl, rfl⟩ := own_sl hO.l
  obtain ⟨Ab, cb, rfl⟩ := own_sl hO.b
  have c1 := hX.m.cell
  have f1 := hX.m.fr
  have X1 := Lib.hid (hX.setM (.int .i64 (n : Int)))
  have K1 := Lib.hid (BK.set (g := D + 1 + 1 + 1 + 1 + 1) hX.m (by omega) (.int .i64 (n : Int)))
  have O1 := Lib.hid (hO.ck (ck_set (by omega : D + 1 + 1 + 1 < D + 1 + 1 + 1 + 1 + 1 + 1) (.int .i64 (n : Int))))
  have hb2 : (s == [45, 45, 45, 45, 45, 69, 78, 68, 32, 67, 69, 82, 84, 73, 70, 73, 67, 65, 84, 69, 45, 45, 45, 45, 45]) = false := by simpa [endS] using hs
  have h1d : decide (st.last < 48) = false := by simpa using h1
  have h2e : s.isEmpty = false := by simpa using h2
  have h3i : (s.length : Int) ≤ 64 := by omega
  have h3j : ¬ (64 : Int) < (s.length : Int) := by omega
  have hpl := decP_len s
  rw [hd] at hpl
  simp only at hpl
  have HD := Lib.hid hd
  have HDB := Lib.hid (fun (h : (decP s).2 = 0) => decP_byt h)
  clear h1 h2 hd
  dsimp only [BodyWp, Try.f11, rfBody, Option.getD, Option.or, bfr]
  gi_upto_region 10 with fail
  generalize W.setCell ⟨D + 1 + 1 + 1, 0, none⟩ (.int .i64 (n : Int)) = W1 at *
  have c2 : W1.cell? ⟨D + 1, 0, none⟩ = some (.bool true) := by rw [← hi]; exact X1.out.i.cell
  clear c1 f1
  have c0 := X1.out.la.cell
  have HG := Lib.hid hg
  clear hg
  have HE0 := Lib.hid he
  clear he
  have HDE := Lib.hid (fun W hW => decode_s D s p er W (by omega) hW HD.out)
  have HC : Hid (∀ (A : Option Addr) (W3 : World), Ex W3 W1.heap.size A p → Below W1.heap.size W1 W3 → W3.cell? ⟨w.heap.size + 1 + 1, 0, none⟩ = some (.int .i64 0) ∧ W3.frozen? ⟨w.heap.size + 1 + 1, 0, none⟩ = false) := fun A W3 h1 h2 => ⟨(X1.out.below h2).er.cell, (X1.out.below h2).er.fr⟩
  gi_upto_region 25 with (first
    | (refine ⟨trivial, ?_⟩; gi_at_call 30; refine (CallsIn.inRound lo (callsIn_wide.2 (HDE.out _ X1.out.d))).mono ?_; rintro e W3 ⟨A, rfl, hEx, hb⟩; obtain ⟨c3, f3⟩ := HC.out A W3 hEx hb; have HEX := Lib.hid hEx; have HBW := Lib.hid hb; clear hEx hb))
  have X3 := Lib.hid (X1.out.below HBW.out)
  have K3 := Lib.hid (K1.out.trans (BK.below HBW.out))
  have O3 := Lib.hid (O1.out.ck (ck_below HBW.out))
  have X4 := Lib.hid (X3.out.setEr (.int .i64 er))
  have K4 := Lib.hid (K3.out.trans (BK.set X3.out.er (by have := X3.out.dw; omega) (.int .i64 er)))
  have O4 := Lib.hid (O3.out.ck (ck_set (by have := X3.out.dw; omega : w.heap.size + 1 + 1 < D + 1 + 1 + 1 + 1 + 1 + 1) (.int .i64 er)))
  have E4 : Hid (Ex (W3.setCell ⟨w.heap.size + 1 + 1, 0, none⟩ (.int .i64 er)) 0 A p) := by
    rcases HEX.out with h | ⟨g, h1, h2, h3⟩
    · exact .inl h
    · exact .inr ⟨g, h1, Nat.zero_le _, (Below.heap_setCell _ _ _ _ (by show g ≠ w.heap.size + 1 + 1; have := X1.out.lt; have := X1.out.dw; omega)).trans h3⟩
  clear c3 f3 HEX
  generalize W3.setCell ⟨w.heap.size + 1 + 1, 0, none⟩ (.int .i64 er) = W4 at *
  have c40 := X4.out.er.cell
  have cbB := X4.out.b.cell
  have hez : (er == 0) = false := by simpa using HE0.out
  gi_upto_region 27 with fail
  obtain ⟨v3, W8, hap, hown, hgr, hv⟩ := app_b (base := D + 1 + 1 + 1 + 1 + 1 + 1) O4.out.b E4.out (by have := H.nb; omega) (by have := K4.out.size; omega)
  obtain ⟨BP, hBP⟩ : ∃ l, st.B ++ p = l := ⟨_, rfl⟩
  have how : ∀ (hii : st.ins = true), OW (D + 1 + 1 + 1 + 1 + 1 + 1) _ v3 rows (st.B ++ p) true W8 := fun hii => ow_app (hii ▸ O4.out) hown hgr hv
  rw [hBP] at hown how
  have HBP := Lib.hid hBP
  clear hBP
  obtain ⟨Ab3, cb3, rfl⟩ := own_sl hown
  have X8 := Lib.hid (X4.out.grown hgr (own_base_lt O4.out.b) (by omega))
  have K8 := Lib.hid (K4.out.trans (BK.grown O4.out.b hgr (by omega)))
  have HAP := Lib.hid hap
  have HOW := Lib.hid how
  clear hap hown hgr hv how
  have cbb := X4.out.b.cell
  have c4 := X8.out.la.cell
  have f4 := X8.out.la.fr
  have X9 := Lib.hid (X8.out.setLa (.int .i64 ((p).length : Int)))
  have c5 := X9.out.b.cell
  have f5 := X9.out.b.fr
  have XA := Lib.hid (X9.out.setB (.slice Ab3 BP.length cb3))
  have KA := Lib.hid ((K8.out.trans (BK.set X8.out.la (by omega) (.int .i64 ((p).length : Int)))).trans (BK.set X9.out.b (by omega) (.slice Ab3 BP.length cb3)))
  have OA := Lib.hid (fun (hii : st.ins = true) => ((HOW.out hii).ck (ck_set (by omega : D + 1 + 1 < D + 1 + 1 + 1 + 1 + 1 + 1) (.int .i64 ((p).length : Int)))).ck (ck_set (by omega : D + 1 + 1 + 1 + 1 < D + 1 + 1 + 1 + 1 + 1 + 1) (.slice Ab3 BP.length cb3)))
  gi_upto_region 28 with (first
    | (gi_at_builtin; refine appIn lo _ rfl _ _ 24 rfl rfl rfl HAP.out ?_))
  generalize (W8.setCell ⟨D + 1 + 1, 0, none⟩ (.int .i64 ((p).length : Int))).setCell ⟨D + 1 + 1 + 1 + 1, 0, none⟩ (.slice Ab3 BP.length cb3) = WA at *
  have hg := HG.out
  have c91 := XA.out.er.cell
  have f91 := XA.out.er.fr
  have c92 := XA.out.l.cell
  have f92 := XA.out.l.fr
  have c93 := XA.out.ln.cell
  have f93 := XA.out.ln.fr
  have X9 := Lib.hid (((XA.out.drew.setL (.slice none 0 0)).setLn (.int .i64 (n : Int))).setEr (.int .i64 (er)))
  have K9 := Lib.hid (((KA.out.drew.trans (BK.set XA.out.drew.l (by have := XA.out.dw; omega) (.slice none 0 0))).trans (BK.set (XA.out.drew.setL (.slice none 0 0)).ln (by have := XA.out.dw; omega) (.int .i64 (n : Int)))).trans (BK.set ((XA.out.drew.setL (.slice none 0 0)).setLn (.int .i64 (n : Int))).er (by have := XA.out.dw; omega) (.int .i64 (er))))
  have hez2 : (er != 0) = true := by simpa using HE0.out
  gi_upto_region 29 with fail
  gi_region_with (fail)
  all_goals gi_wp2
  all_goals exact ⟨K9.out, by rw [hg]; exact HE0.out, _, _, _, _, by rw [hg]; exact X9.out⟩
set_option maxHeartbeats 8000000 in
theorem body_H (lo : Nat) (S : ByteArray) (w : World) (D : Nat) (v17 gv : Value) (st : GS) (m : Int) (n : Nat) (s : List UInt8) (W : World) (hn : n ≤ 2000000) (H : HS w D st m 0 W) (hsz : D + 1 + 1 + 1 + 1 + 1 + 1 ≤ W.heap.size) (hi : st.ins = true) (hs : ¬ s = endS) (h1 : ¬ st.last < 48) (h2 : ¬ s = []) (h3 : ¬ 64 < s.length) (p : List Int) (er : Int) (hd : decP s = (p, er)) (he : er = 0) (hbig : 65536 < st.B.length + p.length) :
    BodyWp lo (BPost w D st n s W) { tmps := bfr S w D v17 gv n s, defers := [] } W := by
  have hg : gstep st s = (st, 3) := by
    unfold gstep; rw [if_neg (by rw [hi]; decide), if_neg hs, if_neg (by intro h; rcases h with h | h | h; exact h1 h; exact h2 h; exact h3 h), hd]
    rw [if_neg (fun h => h he), if_pos hbig]
  obtain ⟨vl, vb, rows, hX, hO, hL⟩ := H.ex
  obtain ⟨Al, cl, rfl⟩ := own_sl hO.l
  obtain ⟨Ab, cb, rfl⟩ := own_sl hO.b
  have c1 := hX.m.cell
  have f1 := hX.m.fr
  have X1 := Lib.hid (hX.setM (.int .i64 (n : Int)))
  have K1 := Lib.hid (BK.set (g := D + 1 + 1 + 1 + 1 + 1) hX.m (by omega) (.int .i64 (n : Int)))
  have O1 := Lib.hid (hO.ck (ck_set (by omega : D + 1 + 1 + 1 < D + 1 + 1 + 1 + 1 + 1 + 1) (.int .i64 (n : Int))))
  have hb2 : (s == [45, 45, 45, 45, 45, 69, 78, 68, 32, 67, 69, 82, 84, 73, 70, 73, 67, 65, 84, 69, 45, 45, 45, 45, 45]) = false := by simpa [endS] using hs
  have h1d : decide (st.last < 48) = false := by simpa using h1
  have h2e : s.isEmpty = false := by simpa using h2
  have h3i : (s.length : Int) ≤ 64 := by omega
  have h3j : ¬ (64 : Int) < (s.length : Int) := by omega
  have hpl := decP_len s
  rw [hd] at hpl
  simp only at hpl
  have HD := Lib.hid hd
  have HDB := Lib.hid (fun (h : (decP s).2 = 0) => decP_byt h)
  clear h1 h2 hd
  dsimp only [BodyWp, Try.f11, rfBody, Option.getD, Option.or, bfr]
  gi_upto_region 10 with fail
  generalize W.setCell ⟨D + 1 + 1 + 1, 0, none⟩ (.int .i64 (n : Int)) = W1 at *
  have c2 : W1.cell? ⟨D + 1, 0, none⟩ = some (.bool true) := by rw [← hi]; exact X1.out.i.cell
  clear c1 f1
  have c0 := X1.out.la.cell
  have HG := Lib.hid hg
  clear hg
  have HE0 := Lib.hid he
  clear he
  have HDE := Lib.hid (fun W hW => decode_s D s p er W (by omega) hW HD.out)
  have HC : Hid (∀ (A : Option Addr) (W3 : World), Ex W3 W1.heap.size A p → Below W1.heap.size W1 W3 → W3.cell? ⟨w.heap.size + 1 + 1, 0, none⟩ = some (.int .i64 0) ∧ W3.frozen? ⟨w.heap.size + 1 + 1, 0, none⟩ = false) := fun A W3 h1 h2 => ⟨(X1.out.below h2).er.cell, (X1.out.below h2).er.fr⟩
  gi_upto_region 25 with (first
    | (refine ⟨trivial, ?_⟩; gi_at_call 30; refine (CallsIn.inRound lo (callsIn_wide.2 (HDE.out _ X1.out.d))).mono ?_; rintro e W3 ⟨A, rfl, hEx, hb⟩; obtain ⟨c3, f3⟩ := HC.out A W3 hEx hb; have HEX := Lib.hid hEx; have HBW := Lib.hid hb; clear hEx hb))
  have X3 := Lib.hid (X1.out.below HBW.out)
  have K3 := Lib.hid (K1.out.trans (BK.below HBW.out))
  have O3 := Lib.hid (O1.out.ck (ck_below HBW.out))
  have X4 := Lib.hid (X3.out.setEr (.int .i64 er))
  have K4 := Lib.hid (K3.out.trans (BK.set X3.out.er (by have := X3.out.dw; omega) (.int .i64 er)))
  have O4 := Lib.hid (O3.out.ck (ck_set (by have := X3.out.dw; omega : w.heap.size + 1 + 1 < D + 1 + 1 + 1 + 1 + 1 + 1) (.int .i64 er)))
  have E4 : Hid (Ex (W3.setCell ⟨w.heap.size + 1 + 1, 0, none⟩ (.int .i64 er)) 0 A p) := by
    rcases HEX.out with h | ⟨g, h1, h2, h3⟩
    · exact .inl h
    · exact .inr ⟨g, h1, Nat.zero_le _, (Below.heap_setCell _ _ _ _ (by show g ≠ w.heap.size + 1 + 1; have := X1.out.lt; have := X1.out.dw; omega)).trans h3⟩
  clear c3 f3 HEX
  generalize W3.setCell ⟨w.heap.size + 1 + 1, 0, none⟩ (.int .i64 er) = W4 at *
  have c40 := X4.out.er.cell
  have cbB := X4.out.b.cell
  have hez : (er == 0) = true := by simpa using HE0.out
  have hnb : (st.B.length : Int) ≤ 65536 := by have := H.nb; omega
  have hpl2 : (p.length : Int) ≤ 64 := by omega
  have hb3 : (65536 : Int) < (st.B.length : Int) + (p.length : Int) := by omega
  gi_upto_region 26 with fail
  have c5 := X4.out.er.cell
  have f5 := X4.out.er.fr
  have X5 := Lib.hid (X4.out.setEr (.int .i64 (3)))
  have K5 := Lib.hid (K4.out.trans (BK.set X4.out.er (by have := X4.out.dw; omega) (.int .i64 (3))))
  have O5 := Lib.hid (O4.out.ck (ck_set (by have := X4.out.dw; omega : w.heap.size + 1 + 1 < D + 1 + 1 + 1 + 1 + 1 + 1) (.int .i64 (3))))
  have E5 : Hid (Ex (W4.setCell ⟨w.heap.size + 1 + 1, 0, none⟩ (.int .i64 (3))) 0 A p) := by
    rcases E4.out with h | ⟨g, h1, h2, h3⟩
    · exact .inl h
    · exact .inr ⟨g, h1, Nat.zero_le _, (Below.heap_setCell _ _ _ _ (by
        show g ≠ w.heap.size + 1 + 1
        intro e
        rw [e, show W4.heap[w.heap.size + 1 + 1]? = _ from X4.out.er] at h3
        injection h3 with h3
        injection h3 with _ h4
        exact absurd h4 (by decide))).trans h3⟩
  gi_upto_region 27 with fail
  generalize W4.setCell ⟨w.heap.size + 1 + 1, 0, none⟩ (.int .i64 (3)) = W5 at *
  obtain ⟨v3, W8, hap, hown, hgr, hv⟩ := app_b (base := D + 1 + 1 + 1 + 1 + 1 + 1) O5.out.b E5.out (by have := H.nb; omega) (by have := K5.out.size; omega)
  obtain ⟨BP, hBP⟩ : ∃ l, st.B ++ p = l := ⟨_, rfl⟩
  have how : ∀ (hii : st.ins = true), OW (D + 1 + 1 + 1 + 1 + 1 + 1) _ v3 rows (st.B ++ p) true W8 := fun hii => ow_app (hii ▸ O5.out) hown hgr hv
  rw [hBP] at hown how
  have HBP := Lib.hid hBP
  clear hBP
  obtain ⟨Ab3, cb3, rfl⟩ := own_sl hown
  have X8 := Lib.hid (X5.out.grown hgr (own_base_lt O5.out.b) (by omega))
  have K8 := Lib.hid (K5.out.trans (BK.grown O5.out.b hgr (by omega)))
  have HAP := Lib.hid hap
  have HOW := Lib.hid how
  clear hap hown hgr hv how
  have cbb := X5.out.b.cell
  have c4 := X8.out.la.cell
  have f4 := X8.out.la.fr
  have X9 := Lib.hid (X8.out.setLa (.int .i64 ((p).length : Int)))
  have c5 := X9.out.b.cell
  have f5 := X9.out.b.fr
  have XA := Lib.hid (X9.out.setB (.slice Ab3 BP.length cb3))
  have KA := Lib.hid ((K8.out.trans (BK.set X8.out.la (by omega) (.int .i64 ((p).length : Int)))).trans (BK.set X9.out.b (by omega) (.slice Ab3 BP.length cb3)))
  have OA := Lib.hid (fun (hii : st.ins = true) => ((HOW.out hii).ck (ck_set (by omega : D + 1 + 1 < D + 1 + 1 + 1 + 1 + 1 + 1) (.int .i64 ((p).length : Int)))).ck (ck_set (by omega : D + 1 + 1 + 1 + 1 < D + 1 + 1 + 1 + 1 + 1 + 1) (.slice Ab3 BP.length cb3)))
  gi_upto_region 28 with (first
    | (gi_at_builtin; refine appIn lo _ rfl _ _ 24 rfl rfl rfl HAP.out ?_))
  generalize (W8.setCell ⟨D + 1 + 1, 0, none⟩ (.int .i64 ((p).length : Int))).setCell ⟨D + 1 + 1 + 1 + 1, 0, none⟩ (.slice Ab3 BP.length cb3) = WA at *
  have hg := HG.out
  have c91 := XA.out.er.cell
  have f91 := XA.out.er.fr
  have c92 := XA.out.l.cell
  have f92 := XA.out.l.fr
  have c93 := XA.out.ln.cell
  have f93 := XA.out.ln.fr
  have X9 := Lib.hid (((XA.out.drew.setL (.slice none 0 0)).setLn (.int .i64 (n : Int))).setEr (.int .i64 (3)))
  have K9 := Lib.hid (((KA.out.drew.trans (BK.set XA.out.drew.l (by have := XA.out.dw; omega) (.slice none 0 0))).trans (BK.set (XA.out.drew.setL (.slice none 0 0)).ln (by have := XA.out.dw; omega) (.int .i64 (n : Int)))).trans (BK.set ((XA.out.drew.setL (.slice none 0 0)).setLn (.int .i64 (n : Int))).er (by have := XA.out.dw; omega) (.int .i64 (3))))
  gi_upto_region 29 with fail
  gi_region_with (fail)
  all_goals gi_wp2
  all_goals exact ⟨K9.out, by rw [hg]; simp, _, _, _, _, by rw [hg]; exact X9.out⟩
set_option maxHeartbeats 8000000 in
theorem body_I (lo : Nat) (S : ByteArray) (w : World) (D : Nat) (v17 gv : Value) (st : GS) (m : Int) (n : Nat) (s : List UInt8) (W : World) (hn : n ≤ 2000000) (H : HS w D st m 0 W) (hsz : D + 1 + 1 + 1 + 1 + 1 + 1 ≤ W.heap.size) (hi : st.ins = true) (hs : ¬ s = endS) (h1 : ¬ st.last < 48) (h2 : ¬ s = []) (h3 : ¬ 64 < s.length) (p : List Int) (er : Int) (hd : decP s = (p, er)) (he : er = 0) (hfit : ¬ 65536 < st.B.length + p.length) :
    BodyWp lo (BPost w D st n s W) { tmps := bfr S w D v17 gv n s, defers := [] } W := by
  have hg : gstep st s = (⟨st.L, true, st.B ++ p, (p.length : Int)⟩, 0) := by
    unfold gstep; rw [if_neg (by rw [hi]; decide), if_neg hs, if_neg (by intro h; rcases h with h | h | h; exact h1 h; exact h2 h; exact h3 h), hd]
    rw [if_neg (fun h => h he), if_neg hfit]
  obtain ⟨vl, vb, rows, hX, hO, hL⟩ := H.ex
  obtain ⟨Al, cl, rfl⟩ := own_sl hO.l
  obtain ⟨Ab, cb, rfl⟩ := own_sl hO.b
  have c1 := hX.m.cell
  have f1 := hX.m.fr
  have X1 := Lib.hid (hX.setM (.int .i64 (n : Int)))
  have K1 := Lib.hid (BK.set (g := D + 1 + 1 + 1 + 1 + 1) hX.m (by omega) (.int .i64 (n : Int)))
  have O1 := Lib.hid (hO.ck (ck_set (by omega : D + 1 + 1 + 1 < D + 1 + 1 + 1 + 1 + 1 + 1) (.int .i64 (n : Int))))
  have hb2 : (s == [45, 45, 45, 45, 45, 69, 78, 68, 32, 67, 69, 82, 84, 73, 70, 73, 67, 65, 84, 69, 45, 45, 45, 45, 45]) = false := by simpa [endS] using hs
  have h1d : decide (st.last < 48) = false := by simpa using h1
  have h2e : s.isEmpty = false := by simpa using h2
  have h3i : (s.length : Int) ≤ 64 := by omega
  have h3j : ¬ (64 : Int) < (s.length : Int) := by omega
  have hpl := decP_len s
  rw [hd] at hpl
  simp only at hpl
  have HD := Lib.hid hd
  have HDB := Lib.hid (fun (h : (decP s).2 = 0) => decP_byt h)
  clear h1 h2 hd
  dsimp only [BodyWp, Try.f11, rfBody, Option.getD, Option.or, bfr]
  gi_upto_region 10 with fail
  generalize W.setCell ⟨D + 1 + 1 + 1, 0, none⟩ (.int .i64 (n : Int)) = W1 at *
  have c2 : W1.cell? ⟨D + 1, 0, none⟩ = some (.bool true) := by rw [← hi]; exact X1.out.i.cell
  clear c1 f1
  have c0 := X1.out.la.cell
  have HG := Lib.hid hg
  clear hg
  have HE0 := Lib.hid he
  clear he
  have HDE := Lib.hid (fun W hW => decode_s D s p er W (by omega) hW HD.out)
  have HC : Hid (∀ (A : Option Addr) (W3 : World), Ex W3 W1.heap.size A p → Below W1.heap.size W1 W3 → W3.cell? ⟨w.heap.size + 1 + 1, 0, none⟩ = some (.int .i64 0) ∧ W3.frozen? ⟨w.heap.size + 1 + 1, 0, none⟩ = false) := fun A W3 h1 h2 => ⟨(X1.out.below h2).er.cell, (X1.out.below h2).er.fr⟩
  gi_upto_region 25 with (first
    | (refine ⟨trivial, ?_⟩; gi_at_call 30; refine (CallsIn.inRound lo (callsIn_wide.2 (HDE.out _ X1.out.d))).mono ?_; rintro e W3 ⟨A, rfl, hEx, hb⟩; obtain ⟨c3, f3⟩ := HC.out A W3 hEx hb; have HEX := Lib.hid hEx; have HBW := Lib.hid hb; clear hEx hb))
  have X3 := Lib.hid (X1.out.below HBW.out)
  have K3 := Lib.hid (K1.out.trans (BK.below HBW.out))
  have O3 := Lib.hid (O1.out.ck (ck_below HBW.out))
  have X4 := Lib.hid (X3.out.setEr (.int .i64 er))
  have K4 := Lib.hid (K3.out.trans (BK.set X3.out.er (by have := X3.out.dw; omega) (.int .i64 er)))
  have O4 := Lib.hid (O3.out.ck (ck_set (by have := X3.out.dw; omega : w.heap.size + 1 + 1 < D + 1 + 1 + 1 + 1 + 1 + 1) (.int .i64 er)))
  have E4 : Hid (Ex (W3.setCell ⟨w.heap.size + 1 + 1, 0, none⟩ (.int .i64 er)) 0 A p) := by
    rcases HEX.out with h | ⟨g, h1, h2, h3⟩
    · exact .inl h
    · exact .inr ⟨g, h1, Nat.zero_le _, (Below.heap_setCell _ _ _ _ (by show g ≠ w.heap.size + 1 + 1; have := X1.out.lt; have := X1.out.dw; omega)).trans h3⟩
  clear c3 f3 HEX
  generalize W3.setCell ⟨w.heap.size + 1 + 1, 0, none⟩ (.int .i64 er) = W4 at *
  have c40 := X4.out.er.cell
  have cbB := X4.out.b.cell
  have hez : (er == 0) = true := by simpa using HE0.out
  have hnb : (st.B.length : Int) ≤ 65536 := by have := H.nb; omega
  have hpl2 : (p.length : Int) ≤ 64 := by omega
  have hb3 : ¬ (65536 : Int) < (st.B.length : Int) + (p.length : Int) := by omega
  gi_upto_region 27 with fail
  obtain ⟨v3, W8, hap, hown, hgr, hv⟩ := app_b (base := D + 1 + 1 + 1 + 1 + 1 + 1) O4.out.b E4.out (by have := H.nb; omega) (by have := K4.out.size; omega)
  obtain ⟨BP, hBP⟩ : ∃ l, st.B ++ p = l := ⟨_, rfl⟩
  have how : ∀ (hii : st.ins = true), OW (D + 1 + 1 + 1 + 1 + 1 + 1) _ v3 rows (st.B ++ p) true W8 := fun hii => ow_app (hii ▸ O4.out) hown hgr hv
  rw [hBP] at hown how
  have HBP := Lib.hid hBP
  clear hBP
  obtain ⟨Ab3, cb3, rfl⟩ := own_sl hown
  have X8 := Lib.hid (X4.out.grown hgr (own_base_lt O4.out.b) (by omega))
  have K8 := Lib.hid (K4.out.trans (BK.grown O4.out.b hgr (by omega)))
  have HAP := Lib.hid hap
  have HOW := Lib.hid how
  clear hap hown hgr hv how
  have cbb := X4.out.b.cell
  have c4 := X8.out.la.cell
  have f4 := X8.out.la.fr
  have X9 := Lib.hid (X8.out.setLa (.int .i64 ((p).length : Int)))
  have c5 := X9.out.b.cell
  have f5 := X9.out.b.fr
  have XA := Lib.hid (X9.out.setB (.slice Ab3 BP.length cb3))
  have KA := Lib.hid ((K8.out.trans (BK.set X8.out.la (by omega) (.int .i64 ((p).length : Int)))).trans (BK.set X9.out.b (by omega) (.slice Ab3 BP.length cb3)))
  have OA := Lib.hid (fun (hii : st.ins = true) => ((HOW.out hii).ck (ck_set (by omega : D + 1 + 1 < D + 1 + 1 + 1 + 1 + 1 + 1) (.int .i64 ((p).length : Int)))).ck (ck_set (by omega : D + 1 + 1 + 1 + 1 < D + 1 + 1 + 1 + 1 + 1 + 1) (.slice Ab3 BP.length cb3)))
  gi_upto_region 28 with (first
    | (gi_at_builtin; refine appIn lo _ rfl _ _ 24 rfl rfl rfl HAP.out ?_))
  generalize (W8.setCell ⟨D + 1 + 1, 0, none⟩ (.int .i64 ((p).length : Int))).setCell ⟨D + 1 + 1 + 1 + 1, 0, none⟩ (.slice Ab3 BP.length cb3) = WA at *
  have c7 := XA.out.er.cell
  have hez2 : (er != 0) = false := by simpa using HE0.out
  have HE : Hid (BPost w D st n s W .normal { tmps := #[], defers := [] } WA) := by
    refine ⟨KA.out, by rw [HG.out], ?_⟩
    rw [HG.out]
    have XB := XA.out
    rw [HE0.out, hi] at XB
    have hbt := HDB.out (by rw [HD.out]; exact HE0.out)
    rw [HD.out] at hbt
    refine .mk' XB (by rw [show st.B ++ p = BP from HBP.out]; exact OA.out hi) hL (fun x hx => ?_) (by show (st.B ++ p).length ≤ 65536; rw [List.length_append]; omega) ⟨H.nl.1, fun _ => H.nl.2 hi⟩
    rcases List.mem_append.1 hx with hx | hx
    · exact H.byt x hx
    · exact hbt x hx
  gi_wp2
  exact HE.out
end Go.Proofs.Ytbdccfjeeabpaaa
