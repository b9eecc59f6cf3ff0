/- Chapter 22 (armors): Get: a line: the ways through a round (inside of a certificate). -/
import Derived.Test.YtbdccfjeeabpaaaXa
namespace Go.Proofs.Ytbdccfjeeabpaaa
open Go.RowKit Go.Shelf
open Go.Proofs.YtbdccfjeeabpaaaW.PrintWords (ReadsOf blk_cell)
open Go.Proofs.YtbdccfjeeabpaaaW.PrintLast
attribute [local go_sem] Oper.semAt_some
set_option linter.unusedSimpArgs false
set_option linter.unusedVariables false
set_option maxRecDepth 50000
set_option maxHeartbeats 8000000 in
theorem body_D (lo : Nat) (S : ByteArray) (w : World) (D : Nat) (v17 gv : Value) (st : GS) (m : Int) (n : Nat) (s : List UInt8) (W : World) (hn : n ≤ 2000000) (H : HS w D st m 0 W) (hsz : D + 1 + 1 + 1 + 1 + 1 + 1 ≤ W.heap.size) (hi : st.ins = true) (hs : s = endS) (hB : st.B = []) :
    BodyWp lo (BPost w D st n s W) { tmps := bfr S w D v17 gv n s, defers := [] } W := by
  have hg : gstep st s = (st, 17) := by subst hs; unfold gstep; rw [if_neg (by rw [hi]; decide), if_pos rfl, if_pos hB]
  obtain ⟨vl, vb, rows, hX, hO, hL⟩ := H.ex
  obtain ⟨Al, cl, rfl⟩ := own_sl hO.l
  obtain ⟨Ab, cb, rfl⟩ := own_sl hO.b
  have c1 := hX.m.cell
  have f1 := hX.m.fr
  have X1 := Lib.hid (hX.setM (.int .i64 (n : Int)))
  have K1 := Lib.hid (BK.set (g := D + 1 + 1 + 1 + 1 + 1) hX.m (by omega) (.int .i64 (n : Int)))
  have O1 := Lib.hid (hO.ck (ck_set (by omega : D + 1 + 1 + 1 < D + 1 + 1 + 1 + 1 + 1 + 1) (.int .i64 (n : Int))))
  have hBl : ((st.B.length : Int) == 0) = true := by rw [hB]; rfl
  clear hB
  dsimp only [BodyWp, Try.f11, rfBody, Option.getD, Option.or, bfr]
  gi_upto_region 10 with fail
  generalize W.setCell ⟨D + 1 + 1 + 1, 0, none⟩ (.int .i64 (n : Int)) = W1 at *
  have c2 : W1.cell? ⟨D + 1, 0, none⟩ = some (.bool true) := by rw [← hi]; exact X1.out.i.cell
  clear c1 f1
  have c0 := X1.out.b.cell
  subst hs
  rw [show endS = [45, 45, 45, 45, 45, 69, 78, 68, 32, 67, 69, 82, 84, 73, 70, 73, 67, 65, 84, 69, 45, 45, 45, 45, 45] from rfl]
  gi_upto_region 19 with fail
  have c3 := X1.out.er.cell
  have f3 := X1.out.er.fr
  have X2 := Lib.hid (X1.out.setEr (.int .i64 (17)))
  have K2 := Lib.hid (K1.out.trans (BK.set X1.out.er (by have := X1.out.dw; omega) (.int .i64 (17))))
  have O2 := Lib.hid (O1.out.ck (ck_set (by have := X1.out.dw; omega : w.heap.size + 1 + 1 < D + 1 + 1 + 1 + 1 + 1 + 1) (.int .i64 (17))))
  gi_upto_region 20 with fail
  generalize W1.setCell ⟨w.heap.size + 1 + 1, 0, none⟩ (.int .i64 (17)) = W2 at *
  clear c0
  have hbs := X2.out.lt
  have nl := H.nl.1
  have hrl : rows.length = st.L.length := by rw [← hL, List.length_map]
  obtain ⟨v2, W5, hap, hown, hgr⟩ := app_l (W := W2.drew) W2.heap.size rfl (ev := .slice Ab st.B.length st.B.length) O2.out.drew.l (by omega) (by show _ ≤ W2.heap.size; have := K2.out.size; omega) rfl
  obtain ⟨Al2, cl2, rfl⟩ := own_sl hown
  have X5 := Lib.hid ((X2.out.drew.below ((Below.refl _ _).alloc (Nat.le_refl _) (.cells #[.slice Ab st.B.length st.B.length] 24))).grown hgr (own_base_lt O2.out.l) (by omega))
  have K5 := Lib.hid ((K2.out.drew.trans (BK.below ((Below.refl _ _).alloc (Nat.le_refl _) (.cells #[.slice Ab st.B.length st.B.length] 24)))).trans (BK.grown (O2.out.drew.l.alloc (.cells #[.slice Ab st.B.length st.B.length] 24)) hgr (by omega)))
  have HOWN := Lib.hid hown
  have HGR := Lib.hid hgr
  have HAP := Lib.hid hap
  clear hown hgr hap
  have c4 := X5.out.i.cell
  have f4 := X5.out.i.fr
  have X6 := Lib.hid (X5.out.setI (.bool false))
  have c5 := X6.out.l.cell
  have f5 := X6.out.l.fr
  have X7 := Lib.hid (X6.out.setL (.slice Al2 (rows.length + 1) cl2))
  have K7 := Lib.hid ((K5.out.trans (BK.set X5.out.i (by omega) (.bool false))).trans (BK.set X6.out.l (by have := X5.out.dw; omega) (.slice Al2 (rows.length + 1) cl2)))
  have O7 := Lib.hid (fun (h1 : st.B ≠ []) => ((ow_end O2.out.drew h1 H.byt H.nb HOWN.out HGR.out).ck (ck_set (by omega : D + 1 < D + 1 + 1 + 1 + 1 + 1 + 1) (.bool false))).ck (ck_set (by have := X5.out.dw; omega : w.heap.size < D + 1 + 1 + 1 + 1 + 1 + 1) (.slice Al2 (rows.length + 1) cl2)))
  refine start_in (n := 7) (S := fun W => bx W w.heap.size (.slice Al rows.length cl) 22 ∧ bx W (D + 1 + 1 + 1 + 1) (.slice Ab st.B.length cb) 24) (ds := [6]) #[false, false, false, false, false, false, false] (by kernel_rfl) rfl rfl (nodefer rfl) (fun h => by obtain ⟨a, w, h⟩ := h; exact h) ⟨X2.out.l, X2.out.b⟩ (fun HS => ?_)
  refine take_ (i := 0) (N := some 45) (v := .slice Al rows.length cl) (a' := ?_) #[true, false, false, false, false, false, false] rfl rfl (by kernel_rfl) (fun _ _ _ h => h) (Or.inl ⟨by rfl, fun W hS => by have := hS.1.cell; go_simp⟩) (by assumption) ?_ ?_
  rotate_left
  · simp only [Act.put, List.setIfInBounds_toArray, List.set_cons_zero, List.set_cons_succ]
    rfl
  refine take_ (i := 1) (N := some 46) (v := .slice Ab st.B.length cb) (a' := ?_) #[true, true, false, false, false, false, false] rfl rfl (by kernel_rfl) (fun _ _ _ h => h) (Or.inl ⟨by rfl, fun W hS => by have := hS.2.cell; go_simp⟩) (by assumption) ?_ ?_
  rotate_left
  · simp only [Act.put, List.setIfInBounds_toArray, List.set_cons_zero, List.set_cons_succ]
    rfl
  refine one_ (i := 2) (N := some 47) #[true, true, true, false, false, false, false] rfl rfl (by kernel_rfl) (by decide) (fun K hK => ?_)
  refine goes_ Try.func29 (by kernel_rfl) rfl #[.slice Ab st.B.length cb] (by rfl) rfl rfl (by (try simp only [List.map_toArray, List.map_cons, List.map_nil]); first | done | rfl) ?_
  refine (clip_own O2.out.b _).mono ?_
  rintro e w' ⟨rfl, rfl⟩
  refine ⟨_, rfl, ?_⟩
  refine hK.out _ _ HS (fun _ => ?_)
  clear hK K
  refine norm_ (a' := ?_) ?_ ?_
  rotate_left
  · show Act.put _ (some 47) _ = _
    simp only [Act.put, List.setIfInBounds_toArray, List.set_cons_zero, List.set_cons_succ]
    rfl
  refine one_ (i := 3) (N := some 48) #[true, true, true, true, false, false, false] rfl rfl (by kernel_rfl) (by decide) (fun K hK => ?_)
  refine value_ (by rfl) (N := some 48) rfl (v := .slice (some ⟨W2.heap.size, 0, none⟩) 1 1) (w1 := World.alloc W2.drew (.cells #[.slice Ab st.B.length st.B.length] 24)) (by go_simp) ?_
  refine hK.out _ _ ⟨HS.1.below ((Below.refl _ _).alloc (Nat.le_refl _) _), HS.2.below ((Below.refl _ _).alloc (Nat.le_refl _) _)⟩ (fun _ => ?_)
  clear hK K
  refine norm_ (a' := ?_) ?_ ?_
  rotate_left
  · show Act.put _ (some 48) _ = _
    simp only [Act.put, List.setIfInBounds_toArray, List.set_cons_zero, List.set_cons_succ]
    rfl
  refine one_ (i := 4) (N := some 49) #[true, true, true, true, true, false, false] rfl rfl (by kernel_rfl) (by decide) (fun K hK => ?_)
  refine value_ (by rfl) (N := some 49) rfl (v := (.slice Al2 (rows.length + 1) cl2)) (w1 := W5) (by simp [execOp, resolve, invoke, builtin, Act.eval, HAP.out, Result.andThen]) ?_
  refine hK.out _ _ ⟨X5.out.l, X5.out.b⟩ (fun _ => ?_)
  clear hK K
  refine norm_ (a' := ?_) ?_ ?_
  rotate_left
  · show Act.put _ (some 49) _ = _
    simp only [Act.put, List.setIfInBounds_toArray, List.set_cons_zero, List.set_cons_succ]
    rfl
  refine one_ (i := 5) (N := none) #[true, true, true, true, true, true, false] rfl rfl (by kernel_rfl) (by decide) (fun K hK => ?_)
  refine skip_ (by rfl) rfl (w1 := W5.setCell ⟨D + 1, 0, none⟩ (.bool false)) (by go_simp) ?_
  refine hK.out _ _ ⟨X6.out.l, X6.out.b⟩ (fun _ => ?_)
  clear hK K
  refine last_ (i := 6) (N := none) #[true, true, true, true, true, true, true] rfl rfl (by kernel_rfl) (by decide) (fun K hK => ?_)
  refine skip_ (by rfl) rfl (w1 := (W5.setCell ⟨D + 1, 0, none⟩ (.bool false)).setCell ⟨w.heap.size, 0, none⟩ (.slice Al2 (rows.length + 1) cl2)) (by go_simp) ?_
  refine hK.out _ _ ?_
  clear hK K
  refine done_ (by kernel_rfl) ?_
  clear c4 f4 c5 f5
  generalize (W5.setCell ⟨D + 1, 0, none⟩ (.bool false)).setCell ⟨w.heap.size, 0, none⟩ (.slice Al2 (rows.length + 1) cl2) = W7 at *
  have XF := X7
  have KF := K7
  clear HS
  have c91 := XF.out.er.cell
  have f91 := XF.out.er.fr
  have c92 := XF.out.l.cell
  have f92 := XF.out.l.fr
  have c93 := XF.out.ln.cell
  have f93 := XF.out.ln.fr
  have X9 := Lib.hid (((XF.out.drew.setL (.slice none 0 0)).setLn (.int .i64 (n : Int))).setEr (.int .i64 (17)))
  have K9 := Lib.hid (((KF.out.drew.trans (BK.set XF.out.drew.l (by have := XF.out.dw; omega) (.slice none 0 0))).trans (BK.set (XF.out.drew.setL (.slice none 0 0)).ln (by have := XF.out.dw; omega) (.int .i64 (n : Int)))).trans (BK.set ((XF.out.drew.setL (.slice none 0 0)).setLn (.int .i64 (n : Int))).er (by have := XF.out.dw; omega) (.int .i64 (17))))
  gi_upto_region 29 with fail
  gi_region_with (fail)
  all_goals gi_wp2
  all_goals exact ⟨K9.out, by rw [hg]; simp, _, _, _, _, by rw [hg]; exact X9.out⟩
set_option maxHeartbeats 8000000 in
theorem body_E (lo : Nat) (S : ByteArray) (w : World) (D : Nat) (v17 gv : Value) (st : GS) (m : Int) (n : Nat) (s : List UInt8) (W : World) (hn : n ≤ 2000000) (H : HS w D st m 0 W) (hsz : D + 1 + 1 + 1 + 1 + 1 + 1 ≤ W.heap.size) (hi : st.ins = true) (hs : s = endS) (hB : st.B ≠ []) :
    BodyWp lo (BPost w D st n s W) { tmps := bfr S w D v17 gv n s, defers := [] } W := by
  have hg : gstep st s = (⟨st.L ++ [st.B], false, st.B, st.last⟩, 0) := by subst hs; unfold gstep; rw [if_neg (by rw [hi]; decide), if_pos rfl, if_neg hB]
  have HB := Lib.hid hB
  obtain ⟨vl, vb, rows, hX, hO, hL⟩ := H.ex
  obtain ⟨Al, cl, rfl⟩ := own_sl hO.l
  obtain ⟨Ab, cb, rfl⟩ := own_sl hO.b
  have c1 := hX.m.cell
  have f1 := hX.m.fr
  have X1 := Lib.hid (hX.setM (.int .i64 (n : Int)))
  have K1 := Lib.hid (BK.set (g := D + 1 + 1 + 1 + 1 + 1) hX.m (by omega) (.int .i64 (n : Int)))
  have O1 := Lib.hid (hO.ck (ck_set (by omega : D + 1 + 1 + 1 < D + 1 + 1 + 1 + 1 + 1 + 1) (.int .i64 (n : Int))))
  have hBl : ((st.B.length : Int) == 0) = false := by
    have := List.length_pos_iff.2 hB
    simp only [beq_eq_false_iff_ne]; omega
  clear hB
  dsimp only [BodyWp, Try.f11, rfBody, Option.getD, Option.or, bfr]
  gi_upto_region 10 with fail
  generalize W.setCell ⟨D + 1 + 1 + 1, 0, none⟩ (.int .i64 (n : Int)) = W1 at *
  have c2 : W1.cell? ⟨D + 1, 0, none⟩ = some (.bool true) := by rw [← hi]; exact X1.out.i.cell
  clear c1 f1
  have c0 := X1.out.b.cell
  subst hs
  rw [show endS = [45, 45, 45, 45, 45, 69, 78, 68, 32, 67, 69, 82, 84, 73, 70, 73, 67, 65, 84, 69, 45, 45, 45, 45, 45] from rfl] at hg ⊢
  gi_upto_region 20 with fail
  have HG := Lib.hid hg
  clear hg
  clear c0
  have hbs := X1.out.lt
  have nl := H.nl.1
  have hrl : rows.length = st.L.length := by rw [← hL, List.length_map]
  obtain ⟨v2, W5, hap, hown, hgr⟩ := app_l (W := W1.drew) W1.heap.size rfl (ev := .slice Ab st.B.length st.B.length) O1.out.drew.l (by omega) (by show _ ≤ W1.heap.size; have := K1.out.size; omega) rfl
  obtain ⟨Al2, cl2, rfl⟩ := own_sl hown
  have X5 := Lib.hid ((X1.out.drew.below ((Below.refl _ _).alloc (Nat.le_refl _) (.cells #[.slice Ab st.B.length st.B.length] 24))).grown hgr (own_base_lt O1.out.l) (by omega))
  have K5 := Lib.hid ((K1.out.drew.trans (BK.below ((Below.refl _ _).alloc (Nat.le_refl _) (.cells #[.slice Ab st.B.length st.B.length] 24)))).trans (BK.grown (O1.out.drew.l.alloc (.cells #[.slice Ab st.B.length st.B.length] 24)) hgr (by omega)))
  have HOWN := Lib.hid hown
  have HGR := Lib.hid hgr
  have HAP := Lib.hid hap
  clear hown hgr hap
  have c4 := X5.out.i.cell
  have f4 := X5.out.i.fr
  have X6 := Lib.hid (X5.out.setI (.bool false))
  have c5 := X6.out.l.cell
  have f5 := X6.out.l.fr
  have X7 := Lib.hid (X6.out.setL (.slice Al2 (rows.length + 1) cl2))
  have K7 := Lib.hid ((K5.out.trans (BK.set X5.out.i (by omega) (.bool false))).trans (BK.set X6.out.l (by have := X5.out.dw; omega) (.slice Al2 (rows.length + 1) cl2)))
  have O7 := Lib.hid (fun (h1 : st.B ≠ []) => ((ow_end O1.out.drew h1 H.byt H.nb HOWN.out HGR.out).ck (ck_set (by omega : D + 1 < D + 1 + 1 + 1 + 1 + 1 + 1) (.bool false))).ck (ck_set (by have := X5.out.dw; omega : w.heap.size < D + 1 + 1 + 1 + 1 + 1 + 1) (.slice Al2 (rows.length + 1) cl2)))
  refine start_in (n := 7) (S := fun W => bx W w.heap.size (.slice Al rows.length cl) 22 ∧ bx W (D + 1 + 1 + 1 + 1) (.slice Ab st.B.length cb) 24) (ds := [6]) #[false, false, false, false, false, false, false] (by kernel_rfl) rfl rfl (nodefer rfl) (fun h => by obtain ⟨a, w, h⟩ := h; exact h) ⟨X1.out.l, X1.out.b⟩ (fun HS => ?_)
  refine take_ (i := 0) (N := some 45) (v := .slice Al rows.length cl) (a' := ?_) #[true, false, false, false, false, false, false] rfl rfl (by kernel_rfl) (fun _ _ _ h => h) (Or.inl ⟨by rfl, fun W hS => by have := hS.1.cell; go_simp⟩) (by assumption) ?_ ?_
  rotate_left
  · simp only [Act.put, List.setIfInBounds_toArray, List.set_cons_zero, List.set_cons_succ]
    rfl
  refine take_ (i := 1) (N := some 46) (v := .slice Ab st.B.length cb) (a' := ?_) #[true, true, false, false, false, false, false] rfl rfl (by kernel_rfl) (fun _ _ _ h => h) (Or.inl ⟨by rfl, fun W hS => by have := hS.2.cell; go_simp⟩) (by assumption) ?_ ?_
  rotate_left
  · simp only [Act.put, List.setIfInBounds_toArray, List.set_cons_zero, List.set_cons_succ]
    rfl
  refine one_ (i := 2) (N := some 47) #[true, true, true, false, false, false, false] rfl rfl (by kernel_rfl) (by decide) (fun K hK => ?_)
  refine goes_ Try.func29 (by kernel_rfl) rfl #[.slice Ab st.B.length cb] (by rfl) rfl rfl (by (try simp only [List.map_toArray, List.map_cons, List.map_nil]); first | done | rfl) ?_
  refine (clip_own O1.out.b _).mono ?_
  rintro e w' ⟨rfl, rfl⟩
  refine ⟨_, rfl, ?_⟩
  refine hK.out _ _ HS (fun _ => ?_)
  clear hK K
  refine norm_ (a' := ?_) ?_ ?_
  rotate_left
  · show Act.put _ (some 47) _ = _
    simp only [Act.put, List.setIfInBounds_toArray, List.set_cons_zero, List.set_cons_succ]
    rfl
  refine one_ (i := 3) (N := some 48) #[true, true, true, true, false, false, false] rfl rfl (by kernel_rfl) (by decide) (fun K hK => ?_)
  refine value_ (by rfl) (N := some 48) rfl (v := .slice (some ⟨W1.heap.size, 0, none⟩) 1 1) (w1 := World.alloc W1.drew (.cells #[.slice Ab st.B.length st.B.length] 24)) (by go_simp) ?_
  refine hK.out _ _ ⟨HS.1.below ((Below.refl _ _).alloc (Nat.le_refl _) _), HS.2.below ((Below.refl _ _).alloc (Nat.le_refl _) _)⟩ (fun _ => ?_)
  clear hK K
  refine norm_ (a' := ?_) ?_ ?_
  rotate_left
  · show Act.put _ (some 48) _ = _
    simp only [Act.put, List.setIfInBounds_toArray, List.set_cons_zero, List.set_cons_succ]
    rfl
  refine one_ (i := 4) (N := some 49) #[true, true, true, true, true, false, false] rfl rfl (by kernel_rfl) (by decide) (fun K hK => ?_)
  refine value_ (by rfl) (N := some 49) rfl (v := (.slice Al2 (rows.length + 1) cl2)) (w1 := W5) (by simp [execOp, resolve, invoke, builtin, Act.eval, HAP.out, Result.andThen]) ?_
  refine hK.out _ _ ⟨X5.out.l, X5.out.b⟩ (fun _ => ?_)
  clear hK K
  refine norm_ (a' := ?_) ?_ ?_
  rotate_left
  · show Act.put _ (some 49) _ = _
    simp only [Act.put, List.setIfInBounds_toArray, List.set_cons_zero, List.set_cons_succ]
    rfl
  refine one_ (i := 5) (N := none) #[true, true, true, true, true, true, false] rfl rfl (by kernel_rfl) (by decide) (fun K hK => ?_)
  refine skip_ (by rfl) rfl (w1 := W5.setCell ⟨D + 1, 0, none⟩ (.bool false)) (by go_simp) ?_
  refine hK.out _ _ ⟨X6.out.l, X6.out.b⟩ (fun _ => ?_)
  clear hK K
  refine last_ (i := 6) (N := none) #[true, true, true, true, true, true, true] rfl rfl (by kernel_rfl) (by decide) (fun K hK => ?_)
  refine skip_ (by rfl) rfl (w1 := (W5.setCell ⟨D + 1, 0, none⟩ (.bool false)).setCell ⟨w.heap.size, 0, none⟩ (.slice Al2 (rows.length + 1) cl2)) (by go_simp) ?_
  refine hK.out _ _ ?_
  clear hK K
  refine done_ (by kernel_rfl) ?_
  clear c4 f4 c5 f5
  generalize (W5.setCell ⟨D + 1, 0, none⟩ (.bool false)).setCell ⟨w.heap.size, 0, none⟩ (.slice Al2 (rows.length + 1) cl2) = W7 at *
  have c7 := X7.out.er.cell
  have HE : Hid (BPost w D st n [45, 45, 45, 45, 45, 69, 78, 68, 32, 67, 69, 82, 84, 73, 70, 73, 67, 65, 84, 69, 45, 45, 45, 45, 45] W .normal { tmps := #[], defers := [] } W7) := by
    refine ⟨K7.out, by rw [HG.out], ?_⟩
    rw [HG.out]
    exact .mk' X7.out (O7.out HB.out) (by rw [List.map_append, hL]; rfl) H.byt H.nb ⟨by have := H.nl.2 hi; rw [List.length_append]; simp; omega, fun h => by cases h⟩
  gi_wp2
  exact HE.out
end Go.Proofs.Ytbdccfjeeabpaaa
