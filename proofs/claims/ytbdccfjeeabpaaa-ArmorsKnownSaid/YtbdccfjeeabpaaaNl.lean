/- Chapter 22 (armors): Get: a line: the ways through a round (outside of a certificate). -/
import Derived.Test.YtbdccfjeeabpaaaNk
namespace Go.Proofs.Ytbdccfjeeabpaaa
open Go.RowKit Go.Shelf
open Go.Proofs.YtbdccfjeeabpaaaW.PrintWords (ReadsOf blk_cell)
attribute [local go_sem] Oper.semAt_some
set_option linter.unusedSimpArgs false
set_option linter.unusedVariables false
set_option maxRecDepth 50000
set_option maxHeartbeats 8000000 in
theorem body_A (lo : Nat) (S : ByteArray) (w : World) (D : Nat) (v17 gv : Value) (st : GS) (m : Int) (n : Nat) (s : List UInt8) (W : World) (hn : n ≤ 2000000) (H : HS w D st m 0 W) (hsz : D + 1 + 1 + 1 + 1 + 1 + 1 ≤ W.heap.size) (hi : st.ins = false) (hs : ¬ (s = [] ∨ s.head? = some 35)) (hb : ¬ s = begS) :
    BodyWp lo (BPost w D st n s W) { tmps := bfr S w D v17 gv n s, defers := [] } W := by
  have hg : gstep st s = (st, 6) := by unfold gstep; rw [if_pos hi, if_neg hs, if_pos hb]
  obtain ⟨vl, vb, rows, hX, hO, hL⟩ := H.ex
  obtain ⟨Al, cl, rfl⟩ := own_sl hO.l
  obtain ⟨Ab, cb, rfl⟩ := own_sl hO.b
  have c1 := hX.m.cell
  have f1 := hX.m.fr
  have X1 := Lib.hid (hX.setM (.int .i64 (n : Int)))
  have K1 := Lib.hid (BK.set (g := D + 1 + 1 + 1 + 1 + 1) hX.m (by omega) (.int .i64 (n : Int)))
  have O1 := Lib.hid (hO.ck (ck_set (by omega : D + 1 + 1 + 1 < D + 1 + 1 + 1 + 1 + 1 + 1) (.int .i64 (n : Int))))
  have h0 : s.isEmpty = false := by
    cases s with
    | nil => exact absurd (.inl rfl) hs
    | cons a r => rfl
  have hlen : 0 < s.length := by
    cases s with
    | nil => cases h0
    | cons a r => simp
  have ha2 : ∀ h, (((((⟨s.toArray⟩ : ByteArray)[0]'h).toNat : Nat) : Int) == 35) = false := by
    intro h
    cases s with
    | nil => cases h0
    | cons a r =>
      simp only [beq_eq_false_iff_ne]
      intro e
      refine hs (.inr ?_)
      have : a.toNat = 35 := by exact_mod_cast e
      rw [show a = 35 from UInt8.toNat_inj.1 (by simpa using this)]
      rfl
  have hb2 : (s == [45, 45, 45, 45, 45, 66, 69, 71, 73, 78, 32, 67, 69, 82, 84, 73, 70, 73, 67, 65, 84, 69, 45, 45, 45, 45, 45]) = false := by simpa [begS] using hb
  dsimp only [BodyWp, Try.f11, rfBody, Option.getD, Option.or, bfr]
  gi_upto_region 10 with fail
  generalize W.setCell ⟨D + 1 + 1 + 1, 0, none⟩ (.int .i64 (n : Int)) = W1 at *
  have c2 : W1.cell? ⟨D + 1, 0, none⟩ = some (.bool false) := by rw [← hi]; exact X1.out.i.cell
  clear c1 f1
  gi_upto_region 13 with fail
  have c3 := X1.out.er.cell
  have f3 := X1.out.er.fr
  have X2 := Lib.hid (X1.out.setEr (.int .i64 (6)))
  have K2 := Lib.hid (K1.out.trans (BK.set X1.out.er (by have := X1.out.dw; omega) (.int .i64 (6))))
  have O2 := Lib.hid (O1.out.ck (ck_set (by have := X1.out.dw; omega : w.heap.size + 1 + 1 < D + 1 + 1 + 1 + 1 + 1 + 1) (.int .i64 (6))))
  gi_upto_region 16 with fail
  generalize W1.setCell ⟨w.heap.size + 1 + 1, 0, none⟩ (.int .i64 (6)) = W2 at *
  have c4 := X2.out.i.cell
  have f4 := X2.out.i.fr
  have c5 := X2.out.la.cell
  have f5 := X2.out.la.fr
  have c6 := X2.out.b.cell
  have f6 := X2.out.b.fr
  have X3 := Lib.hid (((X2.out.setI (.bool true)).setLa (.int .i64 48)).setB (.slice none 0 0))
  have K3 := Lib.hid (((K2.out.trans (BK.set X2.out.i (by omega) (.bool true))).trans (BK.set (X2.out.setI (.bool true)).la (by omega) (.int .i64 48))).trans (BK.set ((X2.out.setI (.bool true)).setLa (.int .i64 48)).b (by omega) (.slice none 0 0)))
  have O3 := Lib.hid (((O2.out.ck (ck_set (by omega : D + 1 < D + 1 + 1 + 1 + 1 + 1 + 1) (.bool true))).ck (ck_set (by omega : D + 1 + 1 < D + 1 + 1 + 1 + 1 + 1 + 1) (.int .i64 48))).ck (ck_set (by omega : D + 1 + 1 + 1 + 1 < D + 1 + 1 + 1 + 1 + 1 + 1) (.slice none 0 0)))
  gi_upto_region 28 with fail
  generalize ((W2.setCell ⟨D + 1, 0, none⟩ (.bool true)).setCell ⟨D + 1 + 1, 0, none⟩ (.int .i64 48)).setCell ⟨D + 1 + 1 + 1 + 1, 0, none⟩ (.slice none 0 0) = W3 at *
  have c91 := X3.out.er.cell
  have f91 := X3.out.er.fr
  have c92 := X3.out.l.cell
  have f92 := X3.out.l.fr
  have c93 := X3.out.ln.cell
  have f93 := X3.out.ln.fr
  have X9 := Lib.hid (((X3.out.drew.setL (.slice none 0 0)).setLn (.int .i64 (n : Int))).setEr (.int .i64 (6)))
  have K9 := Lib.hid (((K3.out.drew.trans (BK.set X3.out.drew.l (by have := X3.out.dw; omega) (.slice none 0 0))).trans (BK.set (X3.out.drew.setL (.slice none 0 0)).ln (by have := X3.out.dw; omega) (.int .i64 (n : Int)))).trans (BK.set ((X3.out.drew.setL (.slice none 0 0)).setLn (.int .i64 (n : Int))).er (by have := X3.out.dw; omega) (.int .i64 (6))))
  gi_upto_region 29 with fail
  gi_region_with (fail)
  all_goals gi_wp2
  all_goals exact ⟨K9.out, by rw [hg]; simp, _, _, _, _, by rw [hg]; exact X9.out⟩
set_option maxHeartbeats 8000000 in
theorem body_B (lo : Nat) (S : ByteArray) (w : World) (D : Nat) (v17 gv : Value) (st : GS) (m : Int) (n : Nat) (s : List UInt8) (W : World) (hn : n ≤ 2000000) (H : HS w D st m 0 W) (hsz : D + 1 + 1 + 1 + 1 + 1 + 1 ≤ W.heap.size) (hi : st.ins = false) (hb : s = begS) (h64 : st.L.length = 64) :
    BodyWp lo (BPost w D st n s W) { tmps := bfr S w D v17 gv n s, defers := [] } W := by
  have hg : gstep st s = (st, 3) := by subst hb; unfold gstep; rw [if_pos hi, if_neg (by simp [begS]), if_neg (by simp), if_pos h64]
  obtain ⟨vl, vb, rows, hX, hO, hL⟩ := H.ex
  obtain ⟨Al, cl, rfl⟩ := own_sl hO.l
  obtain ⟨Ab, cb, rfl⟩ := own_sl hO.b
  have c1 := hX.m.cell
  have f1 := hX.m.fr
  have X1 := Lib.hid (hX.setM (.int .i64 (n : Int)))
  have K1 := Lib.hid (BK.set (g := D + 1 + 1 + 1 + 1 + 1) hX.m (by omega) (.int .i64 (n : Int)))
  have O1 := Lib.hid (hO.ck (ck_set (by omega : D + 1 + 1 + 1 < D + 1 + 1 + 1 + 1 + 1 + 1) (.int .i64 (n : Int))))
  have hr64 : rows.length = 64 := by rw [← h64, ← hL, List.length_map]
  dsimp only [BodyWp, Try.f11, rfBody, Option.getD, Option.or, bfr]
  gi_upto_region 10 with fail
  generalize W.setCell ⟨D + 1 + 1 + 1, 0, none⟩ (.int .i64 (n : Int)) = W1 at *
  have c2 : W1.cell? ⟨D + 1, 0, none⟩ = some (.bool false) := by rw [← hi]; exact X1.out.i.cell
  clear c1 f1
  have c0 := X1.out.l.cell
  rw [hr64] at c0
  subst hb
  unfold begS
  gi_upto_region 15 with fail
  have c3 := X1.out.er.cell
  have f3 := X1.out.er.fr
  have X2 := Lib.hid (X1.out.setEr (.int .i64 (3)))
  have K2 := Lib.hid (K1.out.trans (BK.set X1.out.er (by have := X1.out.dw; omega) (.int .i64 (3))))
  have O2 := Lib.hid (O1.out.ck (ck_set (by have := X1.out.dw; omega : w.heap.size + 1 + 1 < D + 1 + 1 + 1 + 1 + 1 + 1) (.int .i64 (3))))
  gi_upto_region 16 with fail
  generalize W1.setCell ⟨w.heap.size + 1 + 1, 0, none⟩ (.int .i64 (3)) = W2 at *
  have c4 := X2.out.i.cell
  have f4 := X2.out.i.fr
  have c5 := X2.out.la.cell
  have f5 := X2.out.la.fr
  have c6 := X2.out.b.cell
  have f6 := X2.out.b.fr
  have X3 := Lib.hid (((X2.out.setI (.bool true)).setLa (.int .i64 48)).setB (.slice none 0 0))
  have K3 := Lib.hid (((K2.out.trans (BK.set X2.out.i (by omega) (.bool true))).trans (BK.set (X2.out.setI (.bool true)).la (by omega) (.int .i64 48))).trans (BK.set ((X2.out.setI (.bool true)).setLa (.int .i64 48)).b (by omega) (.slice none 0 0)))
  have O3 := Lib.hid (((O2.out.ck (ck_set (by omega : D + 1 < D + 1 + 1 + 1 + 1 + 1 + 1) (.bool true))).ck (ck_set (by omega : D + 1 + 1 < D + 1 + 1 + 1 + 1 + 1 + 1) (.int .i64 48))).ck (ck_set (by omega : D + 1 + 1 + 1 + 1 < D + 1 + 1 + 1 + 1 + 1 + 1) (.slice none 0 0)))
  gi_upto_region 28 with fail
  generalize ((W2.setCell ⟨D + 1, 0, none⟩ (.bool true)).setCell ⟨D + 1 + 1, 0, none⟩ (.int .i64 48)).setCell ⟨D + 1 + 1 + 1 + 1, 0, none⟩ (.slice none 0 0) = W3 at *
  have c91 := X3.out.er.cell
  have f91 := X3.out.er.fr
  have c92 := X3.out.l.cell
  have f92 := X3.out.l.fr
  have c93 := X3.out.ln.cell
  have f93 := X3.out.ln.fr
  have X9 := Lib.hid (((X3.out.drew.setL (.slice none 0 0)).setLn (.int .i64 (n : Int))).setEr (.int .i64 (3)))
  have K9 := Lib.hid (((K3.out.drew.trans (BK.set X3.out.drew.l (by have := X3.out.dw; omega) (.slice none 0 0))).trans (BK.set (X3.out.drew.setL (.slice none 0 0)).ln (by have := X3.out.dw; omega) (.int .i64 (n : Int)))).trans (BK.set ((X3.out.drew.setL (.slice none 0 0)).setLn (.int .i64 (n : Int))).er (by have := X3.out.dw; omega) (.int .i64 (3))))
  gi_upto_region 29 with fail
  gi_region_with (fail)
  all_goals gi_wp2
  all_goals exact ⟨K9.out, by rw [hg]; simp, _, _, _, _, by rw [hg]; exact X9.out⟩
set_option maxHeartbeats 8000000 in
theorem body_C (lo : Nat) (S : ByteArray) (w : World) (D : Nat) (v17 gv : Value) (st : GS) (m : Int) (n : Nat) (s : List UInt8) (W : World) (hn : n ≤ 2000000) (H : HS w D st m 0 W) (hsz : D + 1 + 1 + 1 + 1 + 1 + 1 ≤ W.heap.size) (hi : st.ins = false) (hb : s = begS) (h64 : ¬ st.L.length = 64) :
    BodyWp lo (BPost w D st n s W) { tmps := bfr S w D v17 gv n s, defers := [] } W := by
  have hg : gstep st s = (⟨st.L, true, [], 48⟩, 0) := by subst hb; unfold gstep; rw [if_pos hi, if_neg (by simp [begS]), if_neg (by simp), if_neg h64]
  obtain ⟨vl, vb, rows, hX, hO, hL⟩ := H.ex
  obtain ⟨Al, cl, rfl⟩ := own_sl hO.l
  obtain ⟨Ab, cb, rfl⟩ := own_sl hO.b
  have c1 := hX.m.cell
  have f1 := hX.m.fr
  have X1 := Lib.hid (hX.setM (.int .i64 (n : Int)))
  have K1 := Lib.hid (BK.set (g := D + 1 + 1 + 1 + 1 + 1) hX.m (by omega) (.int .i64 (n : Int)))
  have O1 := Lib.hid (hO.ck (ck_set (by omega : D + 1 + 1 + 1 < D + 1 + 1 + 1 + 1 + 1 + 1) (.int .i64 (n : Int))))
  have hr64 : ((rows.length : Int) == 64) = false := by
    have : rows.length = st.L.length := by rw [← hL, List.length_map]
    simp only [beq_eq_false_iff_ne]; omega
  dsimp only [BodyWp, Try.f11, rfBody, Option.getD, Option.or, bfr]
  gi_upto_region 10 with fail
  generalize W.setCell ⟨D + 1 + 1 + 1, 0, none⟩ (.int .i64 (n : Int)) = W1 at *
  have c2 : W1.cell? ⟨D + 1, 0, none⟩ = some (.bool false) := by rw [← hi]; exact X1.out.i.cell
  clear c1 f1
  have c0 := X1.out.l.cell
  have hgS := Lib.hid hg
  clear hg
  subst hb
  rw [show begS = [45, 45, 45, 45, 45, 66, 69, 71, 73, 78, 32, 67, 69, 82, 84, 73, 70, 73, 67, 65, 84, 69, 45, 45, 45, 45, 45] from rfl] at hgS ⊢
  gi_upto_region 16 with fail
  have c4 := X1.out.i.cell
  have f4 := X1.out.i.fr
  have c5 := X1.out.la.cell
  have f5 := X1.out.la.fr
  have c6 := X1.out.b.cell
  have f6 := X1.out.b.fr
  have X3 := Lib.hid (((X1.out.setI (.bool true)).setLa (.int .i64 48)).setB (.slice none 0 0))
  have K3 := Lib.hid (((K1.out.trans (BK.set X1.out.i (by omega) (.bool true))).trans (BK.set (X1.out.setI (.bool true)).la (by omega) (.int .i64 48))).trans (BK.set ((X1.out.setI (.bool true)).setLa (.int .i64 48)).b (by omega) (.slice none 0 0)))
  have O3 := Lib.hid (((O1.out.ck (ck_set (by omega : D + 1 < D + 1 + 1 + 1 + 1 + 1 + 1) (.bool true))).ck (ck_set (by omega : D + 1 + 1 < D + 1 + 1 + 1 + 1 + 1 + 1) (.int .i64 48))).ck (ck_set (by omega : D + 1 + 1 + 1 + 1 < D + 1 + 1 + 1 + 1 + 1 + 1) (.slice none 0 0)))
  gi_upto_region 28 with fail
  generalize ((W1.setCell ⟨D + 1, 0, none⟩ (.bool true)).setCell ⟨D + 1 + 1, 0, none⟩ (.int .i64 48)).setCell ⟨D + 1 + 1 + 1 + 1, 0, none⟩ (.slice none 0 0) = W3 at *
  have c91 := X3.out.er.cell
  have f91 := X3.out.er.fr
  have HE : Hid (BPost w D st n [45, 45, 45, 45, 45, 66, 69, 71, 73, 78, 32, 67, 69, 82, 84, 73, 70, 73, 67, 65, 84, 69, 45, 45, 45, 45, 45] W .normal { tmps := #[], defers := [] } W3) := ⟨K3.out, by rw [hgS.out], by rw [hgS.out]; exact .mk' X3.out ⟨O3.out.l, O3.out.r, ⟨rfl, .inl ⟨rfl, rfl⟩⟩, fun _ _ _ _ _ => by simp [Value.ownBlock]⟩ hL (fun _ h => absurd h List.not_mem_nil) (by simp) ⟨H.nl.1, fun _ => by show st.L.length < 64; have := H.nl.1; omega⟩⟩
  gi_wp2
  exact HE.out
end Go.Proofs.Ytbdccfjeeabpaaa
