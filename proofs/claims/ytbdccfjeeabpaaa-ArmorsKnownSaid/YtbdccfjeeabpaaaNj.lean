/- Chapter 22 (armors): Get: what stands in memory between two lines. -/
import Derived.Test.YtbdccfjeeabpaaaPe
import Derived.WalkMore
import Derived.Scope
namespace Go.Proofs.Ytbdccfjeeabpaaa
open Go.RowKit Go.Shelf
open Go.Proofs.YtbdccfjeeabpaaaW.PrintWords (ReadsOf blk_cell)
set_option linter.unusedSimpArgs false
set_option linter.unusedVariables false
set_option maxRecDepth 50000
def bx (W : World) (k : Nat) (v : Value) (t : TypeId) : Prop := W.heap[k]? = some (.cells #[v] t (0, 0))
theorem bx.set {W : World} {k : Nat} {u : Value} {t : TypeId} (h : bx W k u t) (v : Value) : bx (W.setCell ⟨k, 0, none⟩ v) k v t := by
  unfold bx at *
  simp [World.setCell, Array.getElem?_modify, h]
theorem bx.ne {W : World} {k j : Nat} {u : Value} {t : TypeId} (h : bx W k u t) (hj : k ≠ j) (v : Value) : bx (W.setCell ⟨j, 0, none⟩ v) k u t := (Below.heap_setCell _ _ _ _ hj).trans h
theorem bx.cell {W : World} {k : Nat} {u : Value} {t : TypeId} (h : bx W k u t) : W.cell? ⟨k, 0, none⟩ = some u := cell_box h
theorem bx.fr {W : World} {k : Nat} {u : Value} {t : TypeId} (h : bx W k u t) : W.frozen? ⟨k, 0, none⟩ = false := by simp [World.frozen?, show W.heap[k]? = _ from h]
theorem bx.below {W W' : World} {k : Nat} {u : Value} {t : TypeId} (h : bx W k u t) (hb : Below W.heap.size W W') : bx W' k u t := (hb.block k (Array.getElem?_eq_some_iff.1 h).1).trans h
/-- The boxes of Get's variables. -/
structure BX (w : World) (D : Nat) (vl ln er i la m vb : Value) (W : World) : Prop where
  dw : w.heap.size + 3 ≤ D
  bel : Below w.heap.size w W
  l : bx W w.heap.size vl 22
  ln : bx W (w.heap.size + 1) ln 3
  er : bx W (w.heap.size + 1 + 1) er 23
  d : W.heap[D]? = some (.cells (tabC 64) 60 (0, 0))
  i : bx W (D + 1) i 4
  la : bx W (D + 1 + 1) la 3
  m : bx W (D + 1 + 1 + 1) m 3
  b : bx W (D + 1 + 1 + 1 + 1) vb 24
section
variable {w : World} {D : Nat} {vl ln er i la m vb : Value} {W : World}
theorem BX.setL (h : BX w D vl ln er i la m vb W) (v : Value) : BX w D v ln er i la m vb (W.setCell ⟨w.heap.size, 0, none⟩ v) := by
  have := h.dw
  exact ⟨h.dw, h.bel.setCell (Nat.le_refl _) _, h.l.set v, h.ln.ne (by omega) v, h.er.ne (by omega) v, (Below.heap_setCell _ _ _ _ (by show D ≠ w.heap.size; omega)).trans h.d, h.i.ne (by omega) v, h.la.ne (by omega) v, h.m.ne (by omega) v, h.b.ne (by omega) v⟩
theorem BX.setLn (h : BX w D vl ln er i la m vb W) (v : Value) : BX w D vl v er i la m vb (W.setCell ⟨w.heap.size + 1, 0, none⟩ v) := by
  have := h.dw
  exact ⟨h.dw, h.bel.setCell (by show _ ≤ w.heap.size + 1; omega) _, h.l.ne (by omega) v, h.ln.set v, h.er.ne (by omega) v, (Below.heap_setCell _ _ _ _ (by show D ≠ w.heap.size + 1; omega)).trans h.d, h.i.ne (by omega) v, h.la.ne (by omega) v, h.m.ne (by omega) v, h.b.ne (by omega) v⟩
theorem BX.setEr (h : BX w D vl ln er i la m vb W) (v : Value) : BX w D vl ln v i la m vb (W.setCell ⟨w.heap.size + 1 + 1, 0, none⟩ v) := by
  have := h.dw
  exact ⟨h.dw, h.bel.setCell (by show _ ≤ w.heap.size + 1 + 1; omega) _, h.l.ne (by omega) v, h.ln.ne (by omega) v, h.er.set v, (Below.heap_setCell _ _ _ _ (by show D ≠ w.heap.size + 1 + 1; omega)).trans h.d, h.i.ne (by omega) v, h.la.ne (by omega) v, h.m.ne (by omega) v, h.b.ne (by omega) v⟩
theorem BX.setI (h : BX w D vl ln er i la m vb W) (v : Value) : BX w D vl ln er v la m vb (W.setCell ⟨D + 1, 0, none⟩ v) := by
  have := h.dw
  exact ⟨h.dw, h.bel.setCell (by show _ ≤ D + 1; omega) _, h.l.ne (by omega) v, h.ln.ne (by omega) v, h.er.ne (by omega) v, (Below.heap_setCell _ _ _ _ (by show D ≠ D + 1; omega)).trans h.d, h.i.set v, h.la.ne (by omega) v, h.m.ne (by omega) v, h.b.ne (by omega) v⟩
theorem BX.setLa (h : BX w D vl ln er i la m vb W) (v : Value) : BX w D vl ln er i v m vb (W.setCell ⟨D + 1 + 1, 0, none⟩ v) := by
  have := h.dw
  exact ⟨h.dw, h.bel.setCell (by show _ ≤ D + 1 + 1; omega) _, h.l.ne (by omega) v, h.ln.ne (by omega) v, h.er.ne (by omega) v, (Below.heap_setCell _ _ _ _ (by show D ≠ D + 1 + 1; omega)).trans h.d, h.i.ne (by omega) v, h.la.set v, h.m.ne (by omega) v, h.b.ne (by omega) v⟩
theorem BX.setM (h : BX w D vl ln er i la m vb W) (v : Value) : BX w D vl ln er i la v vb (W.setCell ⟨D + 1 + 1 + 1, 0, none⟩ v) := by
  have := h.dw
  exact ⟨h.dw, h.bel.setCell (by show _ ≤ D + 1 + 1 + 1; omega) _, h.l.ne (by omega) v, h.ln.ne (by omega) v, h.er.ne (by omega) v, (Below.heap_setCell _ _ _ _ (by show D ≠ D + 1 + 1 + 1; omega)).trans h.d, h.i.ne (by omega) v, h.la.ne (by omega) v, h.m.set v, h.b.ne (by omega) v⟩
theorem BX.setB (h : BX w D vl ln er i la m vb W) (v : Value) : BX w D vl ln er i la m v (W.setCell ⟨D + 1 + 1 + 1 + 1, 0, none⟩ v) := by
  have := h.dw
  exact ⟨h.dw, h.bel.setCell (by show _ ≤ D + 1 + 1 + 1 + 1; omega) _, h.l.ne (by omega) v, h.ln.ne (by omega) v, h.er.ne (by omega) v, (Below.heap_setCell _ _ _ _ (by show D ≠ D + 1 + 1 + 1 + 1; omega)).trans h.d, h.i.ne (by omega) v, h.la.ne (by omega) v, h.m.ne (by omega) v, h.b.set v⟩
/-- A step that keeps every block up to the boxes. -/
theorem BX.keep (h : BX w D vl ln er i la m vb W) {W' : World} (hb : Below w.heap.size W W') (hk : ∀ k, k ≤ D + 1 + 1 + 1 + 1 → W'.heap[k]? = W.heap[k]?) : BX w D vl ln er i la m vb W' := by
  have := h.dw
  exact ⟨h.dw, h.bel.trans hb, (hk _ (by omega)).trans h.l, (hk _ (by omega)).trans h.ln, (hk _ (by omega)).trans h.er, (hk _ (by omega)).trans h.d, (hk _ (by omega)).trans h.i, (hk _ (by omega)).trans h.la, (hk _ (by omega)).trans h.m, (hk _ (by omega)).trans h.b⟩
theorem BX.lt (h : BX w D vl ln er i la m vb W) : D + 1 + 1 + 1 + 1 < W.heap.size := (Array.getElem?_eq_some_iff.1 h.b).1
theorem BX.below (h : BX w D vl ln er i la m vb W) {W' : World} (hb : Below W.heap.size W W') : BX w D vl ln er i la m vb W' :=
  h.keep (hb.mono h.bel.size) (fun k hk => hb.block k (by have := h.lt; omega))
end
/-- A certificate's bytes, in a block of the call's own. -/
structure RowB (W : World) (base : Nat) (r : Rw) : Prop where
  c : r.c = r.l.length
  g : ∃ g cur, r.a = some ⟨g, 0, none⟩ ∧ base ≤ g ∧ W.heap[g]? = some (.cells cur 5 (0, 0)) ∧ cur.toList.take r.l.length = r.l.map (Value.int .u8)
  byt : Byt r.l
  n : 1 ≤ r.l.length ∧ r.l.length ≤ 65536
/-- What is owned: the list, its rows, and the bytes of the present certificate. -/
structure OW (base : Nat) (vl vb : Value) (rows : List Rw) (B : List Int) (ins : Bool) (W : World) : Prop where
  l : W.ownsRow base 24 1 vl rows.length (rows.map rwV)
  r : ∀ r ∈ rows, RowB W base r
  b : W.ownsRow base 5 1 vb B.length (B.map (Value.int .u8))
  ne : ins = true → ∀ r ∈ rows, ∀ a, r.a = some a → vb.ownBlock ≠ some a.block
/-- Cells from base on stand. -/
def CS (base : Nat) (W W' : World) : Prop := ∀ (k : Nat) (c : Array Value) (t : TypeId), base ≤ k → W.heap[k]? = some (.cells c t (0, 0)) → W'.heap[k]? = some (.cells c t (0, 0))
theorem owns_ck {base : Nat} {W W' : World} {e : TypeId} {v : Value} {n : Nat} {xs : List Value} (h : W.ownsRow base e 1 v n xs) (k : CS base W W') : W'.ownsRow base e 1 v n xs := by
  refine ⟨h.1, ?_⟩
  rcases h.2 with h2 | ⟨g, cap, cur, h1, h2, h3, h4⟩
  · exact .inl h2
  · exact .inr ⟨g, cap, cur, h1, h2, k g cur e h2 h3, h4⟩
theorem RowB.ck {base : Nat} {W W' : World} {r : Rw} (h : RowB W base r) (k : CS base W W') : RowB W' base r := by
  obtain ⟨g, cur, h1, h2, h3, h4⟩ := h.g
  exact ⟨h.c, ⟨g, cur, h1, h2, k g cur 5 h2 h3, h4⟩, h.byt, h.n⟩
theorem OW.ck {base : Nat} {vl vb : Value} {rows : List Rw} {B : List Int} {ins : Bool} {W W' : World} (h : OW base vl vb rows B ins W) (k : CS base W W') : OW base vl vb rows B ins W' :=
  ⟨owns_ck h.l k, fun r hr => (h.r r hr).ck k, owns_ck h.b k, h.ne⟩
theorem ck_set {base : Nat} {W : World} {j : Nat} (hj : j < base) (v : Value) : CS base W (W.setCell ⟨j, 0, none⟩ v) := fun k c t hk h => (Below.heap_setCell _ _ _ _ (by show k ≠ j; omega)).trans h
theorem ck_below {base : Nat} {W W' : World} (hb : Below W.heap.size W W') : CS base W W' := fun k c t hk h => (hb.block k (Array.getElem?_eq_some_iff.1 h).1).trans h
/-- The state of Get. -/
structure HS (w : World) (D : Nat) (x : GS) (m err : Int) (W : World) : Prop where
  ex : ∃ vl vb rows, BX w D vl (.int .i64 0) (.int .i64 err) (.bool x.ins) (.int .i64 x.last) (.int .i64 m) vb W ∧ OW (D + 1 + 1 + 1 + 1 + 1 + 1) vl vb rows x.B x.ins W ∧ rows.map (·.l) = x.L
  byt : Byt x.B
  nb : x.B.length ≤ 65536
  nl : x.L.length ≤ 64 ∧ (x.ins = true → x.L.length < 64)
/-- A round keeps what is no cells, and one block. -/
structure BK (g : Nat) (W W' : World) : Prop where
  size : W.heap.size ≤ W'.heap.size
  same : ∀ (k : Nat) (o : Obj), W.heap[k]? = some o → (o.isCells = false ∨ k = g) → W'.heap[k]? = some o
theorem BK.refl (g : Nat) (W : World) : BK g W W := ⟨Nat.le_refl _, fun _ _ h _ => h⟩
theorem BK.trans {g : Nat} {A B C : World} (h : BK g A B) (k : BK g B C) : BK g A C := ⟨Nat.le_trans h.size k.size, fun i o hi ho => k.same i o (h.same i o hi ho) ho⟩
theorem BK.below {g : Nat} {A B : World} (hb : Below A.heap.size A B) : BK g A B := ⟨hb.size, fun k o hk _ => (hb.block k (Array.getElem?_eq_some_iff.1 hk).1).trans hk⟩
theorem BK.set {g j : Nat} {W : World} {u : Value} {t : TypeId} (h : bx W j u t) (hj : j ≠ g) (v : Value) : BK g W (W.setCell ⟨j, 0, none⟩ v) :=
  ⟨by simp [World.setCell], fun k o hk ho => (Below.heap_setCell _ _ _ _ (by
    show k ≠ j
    intro e
    subst e
    rcases ho with ho | ho
    · rw [show W.heap[k]? = _ from h] at hk; cases hk; cases ho
    · exact hj ho)).trans hk⟩
theorem BK.grown {g : Nat} {W W' : World} {v : Value} {e : TypeId} {base n : Nat} {xs : List Value} (ho : W.ownsRow base e 1 v n xs) (hg : W.grownBy W' v.ownBlock) (hb : g < base) : BK g W W' := by
  refine ⟨hg.size, fun k o hk hc => ?_⟩
  rw [hg.block k (Array.getElem?_eq_some_iff.1 hk).1 (fun e' => ?_)]
  · exact hk
  · rcases ho.2 with ⟨rfl, _⟩ | ⟨j, cap, cur, rfl, h2, h3, _⟩
    · simp [Value.ownBlock] at e'
    · obtain rfl : k = j := by simpa [Value.ownBlock] using e'
      rcases hc with hc | hc
      · rw [h3] at hk; cases hk; cases hc
      · omega
/-- Appending to one owned row leaves another one. -/
theorem ck_grown {base b2 : Nat} {W W' : World} {v : Value} (hg : W.grownBy W' v.ownBlock) (k : Nat) (c : Array Value) (t : TypeId) (h : W.heap[k]? = some (.cells c t (0, 0))) (hne : v.ownBlock ≠ some k) : W'.heap[k]? = some (.cells c t (0, 0)) :=
  (hg.block k (Array.getElem?_eq_some_iff.1 h).1 (fun e => hne e.symm)).trans h
theorem own_block_type {W : World} {base : Nat} {e : TypeId} {v : Value} {n : Nat} {xs : List Value} (h : W.ownsRow base e 1 v n xs) {k : Nat} {c : Array Value} {t : TypeId} (hk : W.heap[k]? = some (.cells c t (0, 0))) (hne : t ≠ e) : v.ownBlock ≠ some k := by
  rcases h.2 with ⟨rfl, _⟩ | ⟨j, cap, cur, rfl, h2, h3, _⟩
  · simp [Value.ownBlock]
  · intro e'
    obtain rfl : j = k := by simpa [Value.ownBlock] using e'
    rw [h3] at hk; cases hk; exact hne rfl
theorem own_lt {W : World} {base : Nat} {e : TypeId} {v : Value} {n : Nat} {xs : List Value} (h : W.ownsRow base e 1 v n xs) {k : Nat} (hk : v.ownBlock = some k) : base ≤ k ∧ k < W.heap.size := by
  rcases h.2 with ⟨rfl, _⟩ | ⟨j, cap, cur, rfl, h2, h3, _⟩
  · simp [Value.ownBlock] at hk
  · obtain rfl : j = k := by simpa [Value.ownBlock] using hk
    exact ⟨h2, (Array.getElem?_eq_some_iff.1 h3).1⟩
end Go.Proofs.Ytbdccfjeeabpaaa
