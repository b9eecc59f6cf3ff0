/- Chapter 22 (armors): Get. -/
import Derived.Test.YtbdccfjeeabpaaaNl
import Derived.Test.YtbdccfjeeabpaaaNm
import Derived.Test.YtbdccfjeeabpaaaNp
namespace Go.Proofs.Ytbdccfjeeabpaaa
open Go.RowKit Go.Shelf
open Go.Proofs.YtbdccfjeeabpaaaW.PrintWords (ReadsOf blk_cell)
attribute [local go_sem] Oper.semAt_some
set_option linter.unusedSimpArgs false
set_option linter.unusedVariables false
set_option maxRecDepth 50000
theorem body_any (lo : Nat) (S : ByteArray) (w : World) (D : Nat) (v17 gv : Value) (st : GS) (m : Int) (n : Nat) (s : List UInt8) (W : World) (hn : n ≤ 2000000) (H : HS w D st m 0 W) (hsz : D + 1 + 1 + 1 + 1 + 1 + 1 ≤ W.heap.size) :
    BodyWp lo (BPost w D st n s W) { tmps := bfr S w D v17 gv n s, defers := [] } W := by
  by_cases hi : st.ins = true
  · by_cases hs : s = endS
    · by_cases hB : st.B = []
      · exact body_D lo S w D v17 gv st m n s W hn H hsz hi hs hB
      · exact body_E lo S w D v17 gv st m n s W hn H hsz hi hs hB
    · by_cases h1 : st.last < 48
      · exact body_F1 lo S w D v17 gv st m n s W hn H hsz hi hs h1
      · by_cases h2 : s = []
        · exact body_F2 lo S w D v17 gv st m n s W hn H hsz hi hs h1 h2
        · by_cases h3 : 64 < s.length
          · exact body_F3 lo S w D v17 gv st m n s W hn H hsz hi hs h1 h2 h3
          · obtain ⟨p, er, hp⟩ : ∃ p er, decP s = (p, er) := ⟨_, _, rfl⟩
            by_cases he : er = 0
            · by_cases hb : 65536 < st.B.length + p.length
              · exact body_H lo S w D v17 gv st m n s W hn H hsz hi hs h1 h2 h3 p er hp he hb
              · exact body_I lo S w D v17 gv st m n s W hn H hsz hi hs h1 h2 h3 p er hp he hb
            · exact body_G lo S w D v17 gv st m n s W hn H hsz hi hs h1 h2 h3 p er hp he
  · have hi : st.ins = false := by simpa using hi
    by_cases hs : s = [] ∨ s.head? = some 35
    · exact body_skip lo S w D v17 gv st m n s W hn H hi hs
    · by_cases hb : s = begS
      · by_cases h64 : st.L.length = 64
        · exact body_B lo S w D v17 gv st m n s W hn H hsz hi hb h64
        · exact body_C lo S w D v17 gv st m n s W hn H hsz hi hb h64
      · exact body_A lo S w D v17 gv st m n s W hn H hsz hi hs hb
theorem BX.step {w : World} {D : Nat} {vl ln er i la m vb : Value} {W W' : World} (h : BX w D vl ln er i la m vb W) (hb : Below w.heap.size W W') (hk : ∀ (k : Nat) (c : Array Value) (t : TypeId), k ≠ D + 1 + 1 + 1 + 1 + 1 → W.heap[k]? = some (.cells c t (0, 0)) → W'.heap[k]? = some (.cells c t (0, 0))) : BX w D vl ln er i la m vb W' := by
  have := h.dw
  exact ⟨h.dw, h.bel.trans hb, hk _ _ _ (by omega) h.l, hk _ _ _ (by omega) h.ln, hk _ _ _ (by omega) h.er, hk _ _ _ (by omega) h.d, hk _ _ _ (by omega) h.i, hk _ _ _ (by omega) h.la, hk _ _ _ (by omega) h.m, hk _ _ _ (by omega) h.b⟩
theorem HS.step {w : World} {D : Nat} {x : GS} {m err : Int} {W W' : World} (h : HS w D x m err W) (hb : Below w.heap.size W W') (hk : ∀ (k : Nat) (c : Array Value) (t : TypeId), k ≠ D + 1 + 1 + 1 + 1 + 1 → W.heap[k]? = some (.cells c t (0, 0)) → W'.heap[k]? = some (.cells c t (0, 0))) : HS w D x m err W' := by
  obtain ⟨vl, vb, rows, hX, hO, hL⟩ := h.ex
  exact ⟨⟨vl, vb, rows, hX.step hb hk, hO.ck (fun k c t h1 h2 => hk k c t (by omega) h2), hL⟩, h.byt, h.nb, h.nl⟩
theorem step_grown {w W W' : World} {g : Nat} (hw : Below w.heap.size w W) (hg : W.grownBy W' (some g)) (hwg : w.heap.size ≤ g) : Below w.heap.size W W' ∧ ∀ (k : Nat) (c : Array Value) (t : TypeId), k ≠ g → W.heap[k]? = some (.cells c t (0, 0)) → W'.heap[k]? = some (.cells c t (0, 0)) :=
  ⟨Below.grown (Below.refl _ _) hg hw.size (fun k e => by cases e; exact hwg), fun k c t hk h => (hg.block k (Array.getElem?_eq_some_iff.1 h).1 (fun e => hk (by cases e; rfl))).trans h⟩
theorem step_obj {w W : World} {k : Nat} {o o' : Obj} {g : Nat} (hk : W.heap[k]? = some o) (ho : o.isCells = false) (hwk : w.heap.size ≤ k) (hw : Below w.heap.size w W) : Below w.heap.size W (W.putObj k o') ∧ ∀ (j : Nat) (c : Array Value) (t : TypeId), j ≠ g → W.heap[j]? = some (.cells c t (0, 0)) → (W.putObj k o').heap[j]? = some (.cells c t (0, 0)) :=
  ⟨Below.grown (Below.refl _ _) (grownBy_putObj' W k o') hw.size (fun j e => by cases e; exact hwk), fun j c t _ h => (World.putObj_heap_other (fun e => by
    subst e
    rw [hk] at h; cases h; cases ho)).trans h⟩
def manyL (pre : List Li) : Int := ((vals pre).getLast?.map (fun x => (x.1 : Int))).getD 0
theorem vals_snoc (pre : List Li) (x : Li) : vals (pre ++ [x]) = vals pre ++ [x.1] := by simp [vals]
theorem manyL_snoc (pre : List Li) (x : Li) : manyL (pre ++ [x]) = (x.1.1 : Int) := by unfold manyL; rw [vals_snoc]; simp
theorem num_last : ∀ (k : Nat) (l : List (List UInt8)), ((num (k + 1) l).getLast?.map (fun x => (x.1 : Int))).getD (k : Int) = ((k + l.length : Nat) : Int)
  | k, [] => by simp [num]
  | k, [a] => by simp [num]
  | k, a :: b :: r => by
    have ih := num_last (k + 1) (b :: r)
    rw [num, num] at *
    rw [List.getLast?_cons_cons]
    rw [show k + (a :: b :: r).length = k + 1 + (b :: r).length by simp; omega, ← ih]
    cases h : (List.getLast? ((k + 1 + 1, b) :: num (k + 1 + 1 + 1) r)) with
    | none => simp at h
    | some x => simp
theorem manyL_all {xs : List Li} {l : List (List UInt8)} (h : vals xs = num 1 l) : manyL xs = (l.length : Int) := by
  unfold manyL
  rw [h]
  have := num_last 0 l
  simpa using this
/-- What stands between two lines. -/
def IG (w : World) (D : Nat) (pre : List Li) (W : World) : Prop := ∃ st, gfold gs0 (vals pre) = some st ∧ HS w D st (manyL pre) 0 W
def XG (w : World) (D : Nat) (pre : List Li) (W : World) : Prop :=
  ∃ (q : List (Nat × List UInt8)) (n : Nat) (s : List UInt8) (st : GS) (vi vla vm vb : Value), vals pre = q ++ [(n, s)] ∧ gfold gs0 q = some st ∧ (gstep st s).2 ≠ 0 ∧ BX w D (.slice none 0 0) (.int .i64 (n : Int)) (.int .i64 (gstep st s).2) vi vla vm vb W
theorem HS.bel {w : World} {D : Nat} {x : GS} {m err : Int} {W : World} (h : HS w D x m err W) : Below w.heap.size w W ∧ w.heap.size + 3 ≤ D := by
  obtain ⟨vl, vb, rows, hX, hO, hL⟩ := h.ex
  exact ⟨hX.bel, hX.dw⟩
theorem IG.abB (w : World) (D : Nat) : AbB (D + 1 + 1 + 1 + 1 + 1) (IG w D) := by
  rintro s W W' ⟨st, h1, h2⟩ hg
  have := h2.bel
  obtain ⟨a, b⟩ := step_grown h2.bel.1 hg (by omega)
  exact ⟨st, h1, h2.step a b⟩
theorem XG.abB (w : World) (D : Nat) : AbB (D + 1 + 1 + 1 + 1 + 1) (XG w D) := by
  rintro s W W' ⟨q, n, t, st, vi, vla, vm, vb, h1, h2, h3, h4⟩ hg
  have := h4.dw
  obtain ⟨a, b⟩ := step_grown h4.bel hg (by omega)
  exact ⟨q, n, t, st, vi, vla, vm, vb, h1, h2, h3, h4.step a b⟩
theorem IG.abO (w : World) (D B : Nat) (hB : D + 1 + 1 + 1 + 1 + 1 + 1 ≤ B) : AbO B (IG w D) := by
  rintro s W k o o' ⟨st, h1, h2⟩ hk ho hc
  have := h2.bel
  obtain ⟨a, b⟩ := step_obj (w := w) (g := D + 1 + 1 + 1 + 1 + 1) (o' := o') ho hc (by omega) h2.bel.1
  exact ⟨st, h1, h2.step a b⟩
theorem XG.abO (w : World) (D B : Nat) (hB : D + 1 + 1 + 1 + 1 + 1 + 1 ≤ B) : AbO B (XG w D) := by
  rintro s W k o o' ⟨q, n, t, st, vi, vla, vm, vb, h1, h2, h3, h4⟩ hk ho hc
  have := h4.dw
  obtain ⟨a, b⟩ := step_obj (w := w) (g := D + 1 + 1 + 1 + 1 + 1) (o' := o') ho hc (by omega) h4.bel
  exact ⟨q, n, t, st, vi, vla, vm, vb, h1, h2, h3, h4.step a b⟩
theorem al_new {W : World} {k : Nat} {o : Obj} (h : k = W.heap.size) : (W.alloc o).heap[k]? = some o := by
  subst h; exact heap_alloc_new W o
theorem al_old {W : World} {k : Nat} {o x : Obj} (hx : W.heap[k]? = some x) : (W.alloc o).heap[k]? = some x :=
  (Below.heap_alloc W o k (by have := (Array.getElem?_eq_some_iff.1 hx).1; omega)).trans hx
theorem manyL_le (pre : List Li) : 0 ≤ manyL pre ∧ manyL pre ≤ 2000000 := by
  unfold manyL vals
  rw [List.getLast?_map]
  cases h : pre.getLast? with
  | none => simp
  | some x =>
    have := x.2.1
    simp
    omega
theorem clip22 {W0 : World} {base : Nat} {A : Option Addr} {n c : Nat} {xs : List Value} (h : W0.ownsRow base 24 1 (.slice A n c) n xs) (W : World) : Calls Try.prog 31 #[.slice A n c] W fun e w' => e = .returned (.slice A n n) ∧ W = w' := by
  rcases h.2 with ⟨h1, rfl⟩ | ⟨g, cap, cur, h1, _, _, h2, _⟩
  · cases h1
    go_enter Try.func31, Try.ntmps31
    go_wp2
    go_ret
    exact ⟨rfl, rfl⟩
  · cases h1
    go_enter Try.func31, Try.ntmps31
    go_wp2
    go_ret
    exact ⟨rfl, rfl⟩
theorem addI (m : Int) (h1 : 0 ≤ m) (h2 : m ≤ 2000000) : IntKind.i64.wrap (m + 1) = m + 1 := by rw [IntKind.wrap_i64]; omega
/-- What Get answers. -/
def GetR (s : List UInt8) (w : World) (e : Ending) (w' : World) : Prop :=
  ∃ A rows, e = .returned (.tuple #[.slice A rows.length rows.length, .int .i64 (getP s).2.1, .int .i64 (getP s).2.2]) ∧ rows.map (·.l) = (getP s).1 ∧
    (rows ≠ [] → ∃ g cur, A = some ⟨g, 0, none⟩ ∧ w.heap.size ≤ g ∧ w'.heap[g]? = some (.cells cur 24 (0, 0)) ∧ cur.toList.take rows.length = rows.map rwV) ∧ (∀ r ∈ rows, RowB w' w.heap.size r) ∧ Below w.heap.size w w'
theorem GetR.fail {s : List UInt8} {w w' : World} {ln er : Int} (h : getP s = ([], ln, er)) (hb : Below w.heap.size w w') : GetR s w (.returned (.tuple #[.slice none 0 0, .int .i64 ln, .int .i64 er])) w' :=
  ⟨none, [], by rw [h]; rfl, by rw [h]; rfl, (fun h => absurd rfl h), (fun r hr => absurd hr List.not_mem_nil), hb⟩
theorem res11 {tmps : Array Value} {W : World} {a b c : Nat} {u v x : Value} (h2 : tmps.getD 2 undef = .pointer (some ⟨a, 0, none⟩)) (h3 : tmps.getD 3 undef = .pointer (some ⟨b, 0, none⟩)) (h4 : tmps.getD 4 undef = .pointer (some ⟨c, 0, none⟩)) (ha : bx W a u 22) (hb : bx W b v 3) (hc : bx W c x 23) :
    (results Try.f11 tmps).run Try.prog W = .ok (.tuple #[u, v, x]) W := by
  have ca := ha.cell
  have cb := hb.cell
  have cc := hc.cell
  have g2 : tmps[2]?.getD undef = .pointer (some ⟨a, 0, none⟩) := by simpa using h2
  have g3 : tmps[3]?.getD undef = .pointer (some ⟨b, 0, none⟩) := by simpa using h3
  have g4 : tmps[4]?.getD undef = .pointer (some ⟨c, 0, none⟩) := by simpa using h4
  simp [results, Try.f11, g2, g3, g4, ca, cb, cc, go_sem]
theorem getP_big {s : List UInt8} (h : 1048576 < s.length) : getP s = ([], 0, 3) := by unfold getP; rw [if_pos h]
set_option maxHeartbeats 8000000 in
theorem get_any (s : ByteArray) (w : World) : Calls Try.prog 11 #[.string s] w (GetR s.data.toList w) := by
  have hsl : s.data.toList.length = s.size := by rw [Array.length_toList]; rfl
  have B0 : Hid (Below w.heap.size w (((w.alloc (.cells #[.slice none 0 0] 22)).alloc (.cells #[.int .i64 0] 3)).alloc (.cells #[.int .i64 0] 23))) :=
    (((Below.refl _ w).alloc (Nat.le_refl _) _).alloc (by simp) _).alloc (by rw [World.size_alloc, World.size_alloc]; omega) _
  have A3 : Hid ((((w.alloc (.cells #[.slice none 0 0] 22)).alloc (.cells #[.int .i64 0] 3)).alloc (.cells #[.int .i64 0] 23)).heap[w.heap.size + 1 + 1]? = some (.cells #[.int .i64 0] 23 (0, 0))) := by
    show _ = _
    exact al_new (by simp)
  have A2 : Hid ((((w.alloc (.cells #[.slice none 0 0] 22)).alloc (.cells #[.int .i64 0] 3)).alloc (.cells #[.int .i64 0] 23)).heap[w.heap.size + 1]? = some (.cells #[.int .i64 0] 3 (0, 0))) := by
    show _ = _
    exact al_old (al_new (by simp))
  have A1 : Hid ((((w.alloc (.cells #[.slice none 0 0] 22)).alloc (.cells #[.int .i64 0] 3)).alloc (.cells #[.int .i64 0] 23)).heap[w.heap.size]? = some (.cells #[.slice none 0 0] 22 (0, 0))) := by
    show _ = _
    exact al_old (al_old (al_new rfl))
  have hz := z60
  refine callsIn_wide.1 (callsIn_of_wp_marks (n := 3) Try.func11 rfl trivial ?_ rfl)
  simp only [Try.ntmps11, List.size_toArray, List.length_cons, List.length_nil, Nat.reduceAdd, Nat.reduceSub, Array.replicate_succ, Array.replicate_zero, List.push_toArray, List.append_toArray, List.nil_append, List.cons_append]
  refine wpIn_wide.2 ?_
  by_cases hbig : 1048576 < s.size
  · have hP := Lib.hid (getP_big (s := s.data.toList) (by rw [hsl]; exact hbig))
    go_wp2
    go_step3
    go_upto_region 2 with fail
    generalize hW3 : ((w.alloc (.cells #[.slice none 0 0] 22)).alloc (.cells #[.int .i64 0] 3)).alloc (.cells #[.int .i64 0] 23) = W3 at *
    have c1 := bx.cell (show bx W3 w.heap.size (.slice none 0 0) 22 from A1.out)
    have f1 := bx.fr (show bx W3 w.heap.size (.slice none 0 0) 22 from A1.out)
    have c2 := bx.cell (show bx W3 (w.heap.size + 1) (.int .i64 0) 3 from A2.out)
    have f2 := bx.fr (show bx W3 (w.heap.size + 1) (.int .i64 0) 3 from A2.out)
    have c3 := bx.cell (show bx W3 (w.heap.size + 1 + 1) (.int .i64 0) 23 from A3.out)
    have f3 := bx.fr (show bx W3 (w.heap.size + 1 + 1) (.int .i64 0) 23 from A3.out)
    have X1 := Lib.hid ((((bx.set (show bx W3 w.heap.size (.slice none 0 0) 22 from A1.out) (.slice none 0 0)).ne (j := w.heap.size + 1) (by omega) (.int .i64 0))).ne (j := w.heap.size + 1 + 1) (by omega) (.int .i64 3))
    have X2 := Lib.hid ((((show bx W3 (w.heap.size + 1) (.int .i64 0) 3 from A2.out).ne (j := w.heap.size) (by omega) (.slice none 0 0)).set (.int .i64 0)).ne (j := w.heap.size + 1 + 1) (by omega) (.int .i64 3))
    have X3 := Lib.hid ((((show bx W3 (w.heap.size + 1 + 1) (.int .i64 0) 23 from A3.out).ne (j := w.heap.size) (by omega) (.slice none 0 0)).ne (j := w.heap.size + 1) (by omega) (.int .i64 0)).set (.int .i64 3))
    have BB := Lib.hid (((B0.out.setCell (p := ⟨w.heap.size, 0, none⟩) (Nat.le_refl _) (.slice none 0 0)).setCell (p := ⟨w.heap.size + 1, 0, none⟩) (by show _ ≤ w.heap.size + 1; omega) (.int .i64 0)).setCell (p := ⟨w.heap.size + 1 + 1, 0, none⟩) (by show _ ≤ w.heap.size + 1 + 1; omega) (.int .i64 3))
    go_wp2
    exact ⟨_, res11 rfl rfl rfl X1.out X2.out X3.out, GetR.fail hP.out BB.out⟩
  · have hs : s.size ≤ 1048576 := by omega
    have hs1 : ¬ (1048576 : Int) < (s.size : Int) := by omega
    go_wp2
    go_step3
    go_upto_region 3 with fail
    generalize hW3 : ((w.alloc (.cells #[.slice none 0 0] 22)).alloc (.cells #[.int .i64 0] 3)).alloc (.cells #[.int .i64 0] 23) = W3 at *
    have hs3 : W3.heap.size = w.heap.size + 1 + 1 + 1 := by rw [← hW3]; simp
    clear hW3
    go_upto_region 4 with (first
      | (go_at_call 27; refine (numbers_is _).mono ?_; rintro e w1 ⟨rfl, hb⟩; have B1 := Lib.hid hb; clear hb)
      | (refine wpList_plain rfl fun K hK => ?_; refine wp_store_row 60 _ _ rfl w1.heap.size (tabC 64) rfl rfl 60 (tabC 0) (heap_alloc_new w1 _) size60 rfl one57 ?_; refine hK _ _ ?_; dsimp only [Act.put]))
    generalize List.foldl _ (tabC 0) _ = v17
    have B2 : Hid (Below W3.heap.size W3 ((w1.alloc (.cells (tabC 0) 60)).setRow w1.heap.size (tabC 64))) := by
      show Below _ _ _
      exact below_setRow (B1.out.alloc B1.out.size _) B1.out.size _
    have C2 : Hid (((w1.alloc (.cells (tabC 0) 60)).setRow w1.heap.size (tabC 64)).heap[w1.heap.size]? = some (.cells (tabC 64) 60 (0, 0))) := setRow_heap _ _ _ _ _ _ (heap_alloc_new w1 _)
    have hs4 : ((w1.alloc (.cells (tabC 0) 60)).setRow w1.heap.size (tabC 64)).heap.size = w1.heap.size + 1 := by simp
    have hD : w.heap.size + 3 ≤ w1.heap.size := by have := B1.out.size; omega
    generalize (w1.alloc (.cells (tabC 0) 60)).setRow w1.heap.size (tabC 64) = W4 at *
    generalize w1.heap.size = D at *
    go_wp2
    go_step3
    go_wp2_with (go_at_call 28; refine (callsIn_wide.1 (lines_in Fence.wide 2 trivial rfl s _)).mono ?_; rintro e w' ⟨rfl, rfl⟩)
    have five : ∀ (o1 o2 o3 o4 o5 : Obj) (V : World), ((((W4.alloc o1).alloc o2).alloc o3).alloc o4).alloc o5 = V → V.heap.size = D + 1 + 1 + 1 + 1 + 1 + 1 ∧ Below W4.heap.size W4 V ∧ V.heap[D + 1]? = some o1 ∧ V.heap[D + 1 + 1]? = some o2 ∧ V.heap[D + 1 + 1 + 1]? = some o3 ∧ V.heap[D + 1 + 1 + 1 + 1]? = some o4 ∧ V.heap[D + 1 + 1 + 1 + 1 + 1]? = some o5 := by
      intro o1 o2 o3 o4 o5 V hV
      subst hV
      refine ⟨by simp [hs4], (((((Below.refl _ W4).alloc (Nat.le_refl _) _).alloc (by simp) _).alloc (by simp; omega) _).alloc (by simp; omega) _).alloc (by simp; omega) _, al_old (al_old (al_old (al_old (al_new (by simp [hs4]))))), al_old (al_old (al_old (al_new (by simp [hs4])))), al_old (al_old (al_new (by simp [hs4]))), al_old (al_new (by simp [hs4])), al_new (by simp [hs4])⟩
    obtain ⟨V, hV⟩ : ∃ V, ((((W4.alloc (.cells #[.bool false] 4)).alloc (.cells #[.int .i64 48] 3)).alloc (.cells #[.int .i64 0] 3)).alloc (.cells #[.slice none 0 0] 24)).alloc (.cells #[.string s] 9) = V := ⟨_, rfl⟩
    obtain ⟨v0, v1, v2, v3, v4, v5, v6⟩ := five _ _ _ _ _ V hV
    rw [hV]
    have k4 : ∀ k, k ≤ D → V.heap[k]? = W4.heap[k]? := fun k hk => v1.block k (by omega)
    have k3 : ∀ k, k < W3.heap.size → V.heap[k]? = W3.heap[k]? := fun k hk => (k4 k (by omega)).trans (B2.out.block k hk)
    have hX : BX w D (.slice none 0 0) (.int .i64 0) (.int .i64 0) (.bool false) (.int .i64 48) (.int .i64 0) (.slice none 0 0) V :=
      ⟨hD, (B0.out.trans (B2.out.mono (by omega))).trans (v1.mono (by omega)), (k3 _ (by omega)).trans A1.out, (k3 _ (by omega)).trans A2.out, (k3 _ (by omega)).trans A3.out, (k4 _ (by omega)).trans C2.out, v2, v3, v4, v5⟩
    have hI : IG w D [] V := ⟨gs0, rfl, ⟨⟨.slice none 0 0, .slice none 0 0, [], hX, ⟨⟨rfl, .inl ⟨rfl, rfl⟩⟩, fun r hr => absurd hr List.not_mem_nil, ⟨rfl, .inl ⟨rfl, rfl⟩⟩, fun h => by cases h⟩, rfl⟩, (fun x hx => absurd hx List.not_mem_nil), by simp [gs0], ⟨by simp [gs0], fun h => by cases h⟩⟩⟩
    have HI := Lib.hid hI
    have HP := Lib.hid (show getP s.data.toList = gall gs0 0 (lns s.data.toList) by unfold getP; rw [if_neg (by rw [hsl]; exact hbig)])
    have V6 := Lib.hid v6
    clear hX hI five k3 k4 v1 v2 v3 v4 v5 v6 hV B0 A1 A2 A3 B2 C2 B1 hz hs4 hs3
    refine (wpIn_wide (n := 3)).1 ?_
    refine range_w (gf := 40) (lb := #[.pointer (some ⟨D + 1 + 1 + 1 + 1 + 1, 0, none⟩)]) rfl (enters_of Try.func40 (by kernel_rfl) rfl) (lines_stops (3 - 1) (by omega) (D + 1 + 1 + 1 + 1 + 1) s.data.toList (by omega) V V6.out) (fun _ => rfl) ⟨_, _, V6.out⟩
      (IG w D) (XG w D) (IG.abB w D) (XG.abB w D) (IG.abO w D _ (by omega)) (XG.abO w D _ (by omega)) HI.out
      (fun x => { tmps := bfr s w D (.agg v17) (.func (.func 40) #[] #[.pointer (some ⟨D + 1 + 1 + 1 + 1 + 1, 0, none⟩)]) x.1.1 x.1.2, defers := [] }) ?assign ?body ?done ?stop
    case assign =>
      intro lo x W K hK
      unfold liE
      gi_wp2
      exact hK
    case body =>
      rintro lo pre x W ⟨st, h1, h2⟩ ⟨c, t, hc⟩
      have hlt := (Array.getElem?_eq_some_iff.1 hc).1
      refine wpIn_mono (body_any lo s w D (.agg v17) _ st _ x.1.1 x.1.2 W x.2.1 h2 hlt) ?_
      intro e a' W' hp
      cases e with
      | normal =>
        obtain ⟨k1, k2, k3⟩ := hp
        refine ⟨⟨k1.size, fun k o _ hk ho => k1.same k o hk (.inl ho)⟩, ?_, (gstep st x.1.2).1, ?_, ?_⟩
        · rw [k1.same _ _ hc (.inr rfl), hc]
        · rw [vals_snoc, show x.1 = (x.1.1, x.1.2) from rfl, gfold_snoc _ _ _ _ _ h1, if_neg (by rw [k2]; simp)]
        · rw [manyL_snoc]; exact k3
      | ret =>
        obtain ⟨k1, k2, vi, vla, vm, vb, k3⟩ := hp
        exact ⟨⟨k1.size, fun k o _ hk ho => k1.same k o hk (.inl ho)⟩, vals pre, x.1.1, x.1.2, st, vi, vla, vm, vb, vals_snoc _ _, h1, k2, k3⟩
      | exit id => exact hp.elim
      | goto t => exact hp.elim
      | panic ch => exact hp.elim
      | outgrown => exact hp.elim
    case stop =>
      rintro E pre W hE hS ⟨q, n, t, st, vi, vla, vm, vb, h1, h2, h3, h4⟩ hK
      have hd := h4.dw
      obtain ⟨a, b⟩ := step_obj (w := w) (g := D + 1 + 1 + 1 + 1 + 1) (o' := .deferred none) hK rfl (by omega) h4.bel
      have h5 := h4.step a b
      have hG : getP s.data.toList = ([], (n : Int), (gstep st t).2) := by
        rw [HP.out]
        exact gall_stop _ _ _ _ _ _ _ (by rw [← h1]; exact hS) h2 h3
      refine ⟨by simp, .inl ⟨_, _, rfl, run_takeDeferred hK, ?_⟩⟩
      exact ⟨_, res11 rfl rfl rfl h5.l h5.ln h5.er, GetR.fail hG h5.bel⟩
    case done =>
      rintro E xs W hE hS ⟨st, h1, h2⟩ hK
      obtain ⟨vl, vb, rows, hX, hO, hL⟩ := h2.ex
      obtain ⟨Al, cl, rfl⟩ := own_sl hO.l
      have hd := hX.dw
      have hm1 := manyL_le xs
      have hG : getP s.data.toList = if st.ins = true then ([], ((0 + (lns s.data.toList).length : Nat) : Int) + 1, 7) else (st.L, 0, 0) := by
        rw [HP.out]; exact gall_done _ _ _ _ (by rw [← h1]; exact congrArg _ hS.symm)
      rw [Nat.zero_add, ← manyL_all hS] at hG
      have HG := Lib.hid hG
      clear hG HP V6 hS h1
      have ha := Lib.hid (addI _ hm1.1 hm1.2)
      generalize manyL xs = m at *
      have c1 := hX.l.cell
      have f1 := hX.l.fr
      have c2 := hX.ln.cell
      have f2 := hX.ln.fr
      have c3 := hX.er.cell
      have f3 := hX.er.fr
      have c4 := hX.m.cell
      by_cases hi : st.ins = true
      · have c5 : W.cell? ⟨D + 1, 0, none⟩ = some (.bool true) := by rw [← hi]; exact hX.i.cell
        rw [hi, if_pos rfl] at HG
        have X1 := Lib.hid (((hX.setL (.slice none 0 0)).setLn (.int .i64 (m + 1))).setEr (.int .i64 7))
        clear hi
        dsimp only [bfr]
        go_wp2
        go_region
        go_wp2
        rw [Exit.noGoto_ret]
        have K5 : BK (D + 1 + 1 + 1 + 1 + 1) W _ := (((BK.set hX.l (by omega) (.slice none 0 0)).trans (BK.set (hX.setL (.slice none 0 0)).ln (by omega) (.int .i64 (m + 1)))).trans (BK.set ((hX.setL (.slice none 0 0)).setLn (.int .i64 (m + 1))).er (by omega) (.int .i64 7))).drew
        have hK2 := K5.same E _ hK (.inl rfl)
        have X2 := X1.out.drew
        obtain ⟨a, b⟩ := step_obj (w := w) (g := D + 1 + 1 + 1 + 1 + 1) (o' := .deferred none) hK2 rfl (by omega) X2.bel
        have h5 := X2.step a b
        refine ⟨by simp, .inl ⟨_, _, rfl, run_takeDeferred hK2, ?_⟩⟩
        exact ⟨_, res11 rfl rfl rfl h5.l h5.ln h5.er, GetR.fail HG.out h5.bel⟩
      · have c5 : W.cell? ⟨D + 1, 0, none⟩ = some (.bool false) := by rw [← (by simpa using hi : st.ins = false)]; exact hX.i.cell
        rw [if_neg hi] at HG
        have X1 := Lib.hid (((hX.setL (.slice Al rows.length rows.length)).setLn (.int .i64 0)).setEr (.int .i64 0))
        clear hi
        dsimp only [bfr]
        go_wp2_with (go_at_call 31; refine (clip22 hO.l _).mono ?_; rintro e w' ⟨rfl, rfl⟩)
        rw [Exit.noGoto_ret]
        have K5 : BK (D + 1 + 1 + 1 + 1 + 1) W _ := (((BK.set hX.l (by omega) (.slice Al rows.length rows.length)).trans (BK.set (hX.setL (.slice Al rows.length rows.length)).ln (by omega) (.int .i64 0))).trans (BK.set ((hX.setL (.slice Al rows.length rows.length)).setLn (.int .i64 0)).er (by omega) (.int .i64 0)))
        have hK2 := K5.same E _ hK (.inl rfl)
        obtain ⟨a, b⟩ := step_obj (w := w) (g := D + 1 + 1 + 1 + 1 + 1) (o' := .deferred none) hK2 rfl (by omega) X1.out.bel
        have h5 := X1.out.step a b
        have hO1 := ((hO.ck (ck_set (j := w.heap.size) (by omega) (.slice Al rows.length rows.length))).ck (ck_set (j := w.heap.size + 1) (by omega) (.int .i64 0))).ck (ck_set (j := w.heap.size + 1 + 1) (by omega) (.int .i64 0))
        have hO2 := hO1.ck (fun k c t h1 h2 => b k c t (by omega) h2)
        refine ⟨by simp, .inl ⟨_, _, rfl, run_takeDeferred hK2, ?_⟩⟩
        refine ⟨_, res11 rfl rfl rfl h5.l h5.ln h5.er, Al, rows, by rw [HG.out], by rw [HG.out]; exact hL, fun hne => ?_, fun r hr => ?_, h5.bel⟩
        · rcases hO2.l.2 with ⟨_, h0⟩ | ⟨g, cap, cur, g1, g2, g3, _, _, _, g4⟩
          · exact absurd (List.length_eq_zero_iff.1 h0) hne
          · cases g1
            exact ⟨g, cur, rfl, by omega, g3, by simpa using g4⟩
        · obtain ⟨g, cur, g1, g2, g3, g4⟩ := (hO2.r r hr).g
          exact ⟨(hO2.r r hr).c, ⟨g, cur, g1, by omega, g3, g4⟩, (hO2.r r hr).byt, (hO2.r r hr).n⟩
end Go.Proofs.Ytbdccfjeeabpaaa
