/- Chapter 10 (times): the walk of the law TimesOrder: it answers true. -/
import Derived.Test.YtbncjjobdipmgaaDoorLfA
import Derived.Deep.DeepCutAuto
import Derived.WalkLawsBesides
import Derived.Test.YtbncjjobdipmgaaDoorWLast
namespace Go.Proofs.YtbncjjobdipmgaaDoor
open Go.RowKit Pl Go.Proofs.YtbncjjobdipmgaaDoorW.PrintLast
set_option linter.unusedVariables false
set_option linter.unusedSimpArgs false

section
variable {P : Program} {ops : Array Oper} {o : Oper} {a : Act} {Q : Exit → Act → World → Prop} {Kc : Act → World → Prop}
/-- A fresh block as one step of a region: what follows knows its cells, not where it lies. -/
theorem box_step {W : World} (hw : Region.wanted o (yielded ops a.tmps) = true) {N : Tmp} (_hd : o.dst = some N) {cs : Array Value} {t : TypeId}
    (hrun : (execOp a.eval o).run P W = .ok (.value (.pointer (some ⟨W.heap.size, 0, none⟩))) (W.alloc (.cells cs t (0, 0))))
    (h : ∀ g, g = W.heap.size → ∀ w1, w1.heap[g]? = some (.cells cs t (0, 0)) → Below W.heap.size W w1 → Kc (a.put o.dst (.pointer (some ⟨g, 0, none⟩))) w1) : if Region.wanted o (yielded ops a.tmps) = true then Oper.wp P o a W Kc Q else Kc (a.put o.dst undef) W := by
  rw [if_pos hw]
  unfold Oper.wp
  rw [hrun]
  exact h _ rfl _ (blk_new W _) ((Below.refl _ _).alloc (Nat.le_refl _) _)
end

/-- The three boxed arguments in a world that has grown out of w. -/
def Box3 (ca cb cx : Array Value) (w W : World) : Prop := St w W ∧ W.heap[w.heap.size]? = some (.cells ca 23 (0, 0)) ∧ W.heap[w.heap.size + 1]? = some (.cells cb 23 (0, 0)) ∧ W.heap[w.heap.size + 2]? = some (.cells cx 63 (0, 0))
theorem Box3.t {ca cb cx : Array Value} {w W : World} (h : Box3 ca cb cx w W) : Tabs W := h.1.t
theorem Box3.b {ca cb cx : Array Value} {w W : World} (h : Box3 ca cb cx w W) : Below w.heap.size w W := h.1.b
theorem Box3.next {ca cb cx : Array Value} {w W W' : World} (h : Box3 ca cb cx w W) (hb : Below W.heap.size W W') : Box3 ca cb cx w W' := ⟨h.1.next hb, blk_below h.2.1 hb, blk_below h.2.2.1 hb, blk_below h.2.2.2 hb⟩
theorem Box3.drew {ca cb cx : Array Value} {w W : World} (h : Box3 ca cb cx w W) : Box3 ca cb cx w W.drew := ⟨h.1.drew, h.2.1, h.2.2.1, h.2.2.2⟩
theorem Box3.start (w : World) (hT : Tabs w) (ca cb cx : Array Value) : Box3 ca cb cx w (((w.alloc (.cells ca 23)).alloc (.cells cb 23)).alloc (.cells cx 63)) := by
  refine ⟨(((St.refl hT).alloc _).alloc _).alloc _, blk_alloc (blk_alloc (blk_new _ _) _) _, blk_alloc ?_ _, ?_⟩
  · have := blk_new (w.alloc (.cells ca 23)) (.cells cb 23); simpa using this
  · have := blk_new ((w.alloc (.cells ca 23)).alloc (.cells cb 23)) (.cells cx 63); simpa using this
theorem dozen {w : World} {g : Nat} {a0 a1 a2 a3 a4 a5 a6 a7 a8 a9 a10 a11 : Value} {t : TypeId} (h : w.heap[g]? = some (.cells #[a0, a1, a2, a3, a4, a5, a6, a7, a8, a9, a10, a11] t (0, 0))) :
    w.cell? ⟨g, 0, none⟩ = some a0 ∧ w.cell? ⟨g, 1, none⟩ = some a1 ∧ w.cell? ⟨g, 2, none⟩ = some a2 ∧ w.cell? ⟨g, 3, none⟩ = some a3 ∧ w.cell? ⟨g, 4, none⟩ = some a4 ∧ w.cell? ⟨g, 5, none⟩ = some a5 ∧ w.cell? ⟨g, 6, none⟩ = some a6 ∧ w.cell? ⟨g, 7, none⟩ = some a7 ∧ w.cell? ⟨g, 8, none⟩ = some a8 ∧ w.cell? ⟨g, 9, none⟩ = some a9 ∧ w.cell? ⟨g, 10, none⟩ = some a10 ∧ w.cell? ⟨g, 11, none⟩ = some a11 :=
  ⟨blk_cell h 0, blk_cell h 1, blk_cell h 2, blk_cell h 3, blk_cell h 4, blk_cell h 5, blk_cell h 6, blk_cell h 7, blk_cell h 8, blk_cell h 9, blk_cell h 10, blk_cell h 11⟩
abbrev ZT6 : Array Value := #[.int .i64 0, .int .i64 0, .int .i64 0, .int .i64 0, .int .i64 0, .int .i64 0]
/-- The boxes, and fresh blocks that a region has made so far. -/
structure Als (ca cb cx : Array Value) (l : List Nat) (w W : World) : Prop where
  x : Box3 ca cb cx w W
  a : ∀ p ∈ l, w.heap.size + 2 < p ∧ W.heap[p]? = some (.cells ZT6 23 (0, 0))
  n : l.Nodup
theorem Als.alloc {ca cb cx : Array Value} {l : List Nat} {w W : World} (h : Als ca cb cx l w W) : Als ca cb cx (W.heap.size :: l) w (W.alloc (.cells #[.int .i64 0, .int .i64 0, .int .i64 0, .int .i64 0, .int .i64 0, .int .i64 0] 23)) := by
  refine ⟨h.x.next ((Below.refl _ _).alloc (Nat.le_refl _) _), fun p hp => ?_, List.nodup_cons.mpr ⟨fun hm => absurd (blk_lt (h.a _ hm).2) (Nat.lt_irrefl _), h.n⟩⟩
  rcases List.mem_cons.mp hp with rfl | hp
  · exact ⟨blk_lt h.x.2.2.2, blk_new _ _⟩
  · exact ⟨(h.a p hp).1, blk_alloc (h.a p hp).2 _⟩
theorem Als.next {ca cb cx : Array Value} {l : List Nat} {w W W' : World} (h : Als ca cb cx l w W) (hb : Below W.heap.size W W') : Als ca cb cx l w W' := ⟨h.x.next hb, fun p hp => ⟨(h.a p hp).1, blk_below (h.a p hp).2 hb⟩, h.n⟩
theorem Als.box {ca cb cx : Array Value} {l : List Nat} {w W W' : World} {g : Nat} (h : Als ca cb cx l w W) (hg : g = W.heap.size) (hx : W'.heap[g]? = some (.cells ZT6 23 (0, 0))) (hb : Below W.heap.size W W') : Als ca cb cx (g :: l) w W' := by
  subst hg
  refine ⟨h.x.next hb, fun p hp => ?_, List.nodup_cons.mpr ⟨fun hm => absurd (blk_lt (h.a _ hm).2) (Nat.lt_irrefl _), h.n⟩⟩
  rcases List.mem_cons.mp hp with rfl | hp
  · exact ⟨blk_lt h.x.2.2.2, hx⟩
  · exact ⟨(h.a p hp).1, blk_below (h.a p hp).2 hb⟩
theorem Als.swap {ca cb cx : Array Value} {p q : Nat} {w W : World} (h : Als ca cb cx [p, q] w W) : Als ca cb cx [q, p] w W :=
  ⟨h.x, fun k hk => h.a k (by simp at hk ⊢; exact hk.symm), by have := h.n; simp at this ⊢; exact fun e => this e.symm⟩
theorem one6 (a b c d e f : Int) : (#[.int .i64 a, .int .i64 b, .int .i64 c, .int .i64 d, .int .i64 e, .int .i64 f] : Array Value).all (·.oneCell') = true := by
  simp [Value.oneCell']
theorem St.setRow {w W : World} (h : St w W) (h2 : 1 < w.heap.size) {p : Nat} (hp : w.heap.size ≤ p) (cs : Array Value) : St w (W.setRow p cs) := by
  have hb : Below w.heap.size W (W.setRow p cs) := ⟨rfl, rfl, rfl, by simp [World.setRow], fun k hk => setRow_other W p k cs (by omega)⟩
  refine ⟨h.b.trans hb, fun k hk => ?_, ?_⟩
  · rw [← h.t.lens k hk]; exact hb.cell (p := ⟨0, k, none⟩) (by show 0 < _; omega)
  · have hp := h.t.pow
    unfold Lib.TabIs World.var? at *
    rw [gPow] at *
    simpa [hb.block 1 h2] using hp
theorem Als.t {ca cb cx : Array Value} {l : List Nat} {w W : World} (h : Als ca cb cx l w W) : Tabs W := h.x.t
theorem cell_far0 {w : World} {b p : Nat} (hne : b ≠ p) (j i : Nat) (u : Value) : (w.setCell ⟨p, i, none⟩ u).cell? ⟨b, j, none⟩ = w.cell? ⟨b, j, none⟩ := by
  unfold World.cell?
  rw [Below.heap_setCell _ _ _ _ hne]
theorem z_next {w W W' : World} {b : Nat} {v0 v1 v2 v3 v4 v5 v6 v7 v8 v9 v10 v11 : Value} (h : W.cell? ⟨b, 0, none⟩ = some (v0) ∧ W.cell? ⟨b, 1, none⟩ = some (v1) ∧ W.cell? ⟨b, 2, none⟩ = some (v2) ∧ W.cell? ⟨b, 3, none⟩ = some (v3) ∧ W.cell? ⟨b, 4, none⟩ = some (v4) ∧ W.cell? ⟨b, 5, none⟩ = some (v5) ∧ W.cell? ⟨b, 6, none⟩ = some (v6) ∧ W.cell? ⟨b, 7, none⟩ = some (v7) ∧ W.cell? ⟨b, 8, none⟩ = some (v8) ∧ W.cell? ⟨b, 9, none⟩ = some (v9) ∧ W.cell? ⟨b, 10, none⟩ = some (v10) ∧ W.cell? ⟨b, 11, none⟩ = some (v11) ∧ St w W) (hb : Below W.heap.size W W') : W'.cell? ⟨b, 0, none⟩ = some (v0) ∧ W'.cell? ⟨b, 1, none⟩ = some (v1) ∧ W'.cell? ⟨b, 2, none⟩ = some (v2) ∧ W'.cell? ⟨b, 3, none⟩ = some (v3) ∧ W'.cell? ⟨b, 4, none⟩ = some (v4) ∧ W'.cell? ⟨b, 5, none⟩ = some (v5) ∧ W'.cell? ⟨b, 6, none⟩ = some (v6) ∧ W'.cell? ⟨b, 7, none⟩ = some (v7) ∧ W'.cell? ⟨b, 8, none⟩ = some (v8) ∧ W'.cell? ⟨b, 9, none⟩ = some (v9) ∧ W'.cell? ⟨b, 10, none⟩ = some (v10) ∧ W'.cell? ⟨b, 11, none⟩ = some (v11) ∧ St w W' := by
  obtain ⟨h0, h1, h2, h3, h4, h5, h6, h7, h8, h9, h10, h11, hs⟩ := h
  have hl := cell_lt h0
  refine ⟨(hb.cell (p := ⟨b, 0, none⟩) hl).trans h0, (hb.cell (p := ⟨b, 1, none⟩) hl).trans h1, (hb.cell (p := ⟨b, 2, none⟩) hl).trans h2, (hb.cell (p := ⟨b, 3, none⟩) hl).trans h3, (hb.cell (p := ⟨b, 4, none⟩) hl).trans h4, (hb.cell (p := ⟨b, 5, none⟩) hl).trans h5, (hb.cell (p := ⟨b, 6, none⟩) hl).trans h6, (hb.cell (p := ⟨b, 7, none⟩) hl).trans h7, (hb.cell (p := ⟨b, 8, none⟩) hl).trans h8, (hb.cell (p := ⟨b, 9, none⟩) hl).trans h9, (hb.cell (p := ⟨b, 10, none⟩) hl).trans h10, (hb.cell (p := ⟨b, 11, none⟩) hl).trans h11, hs.next hb⟩
theorem z_alloc {w W : World} {b : Nat} {v0 v1 v2 v3 v4 v5 v6 v7 v8 v9 v10 v11 : Value} (h : W.cell? ⟨b, 0, none⟩ = some (v0) ∧ W.cell? ⟨b, 1, none⟩ = some (v1) ∧ W.cell? ⟨b, 2, none⟩ = some (v2) ∧ W.cell? ⟨b, 3, none⟩ = some (v3) ∧ W.cell? ⟨b, 4, none⟩ = some (v4) ∧ W.cell? ⟨b, 5, none⟩ = some (v5) ∧ W.cell? ⟨b, 6, none⟩ = some (v6) ∧ W.cell? ⟨b, 7, none⟩ = some (v7) ∧ W.cell? ⟨b, 8, none⟩ = some (v8) ∧ W.cell? ⟨b, 9, none⟩ = some (v9) ∧ W.cell? ⟨b, 10, none⟩ = some (v10) ∧ W.cell? ⟨b, 11, none⟩ = some (v11) ∧ St w W) (o : Obj) : (W.alloc o).cell? ⟨b, 0, none⟩ = some (v0) ∧ (W.alloc o).cell? ⟨b, 1, none⟩ = some (v1) ∧ (W.alloc o).cell? ⟨b, 2, none⟩ = some (v2) ∧ (W.alloc o).cell? ⟨b, 3, none⟩ = some (v3) ∧ (W.alloc o).cell? ⟨b, 4, none⟩ = some (v4) ∧ (W.alloc o).cell? ⟨b, 5, none⟩ = some (v5) ∧ (W.alloc o).cell? ⟨b, 6, none⟩ = some (v6) ∧ (W.alloc o).cell? ⟨b, 7, none⟩ = some (v7) ∧ (W.alloc o).cell? ⟨b, 8, none⟩ = some (v8) ∧ (W.alloc o).cell? ⟨b, 9, none⟩ = some (v9) ∧ (W.alloc o).cell? ⟨b, 10, none⟩ = some (v10) ∧ (W.alloc o).cell? ⟨b, 11, none⟩ = some (v11) ∧ St w (W.alloc o) := z_next h ((Below.refl _ _).alloc (Nat.le_refl _) _)
theorem z_far {w W : World} {b p : Nat} {v0 v1 v2 v3 v4 v5 v6 v7 v8 v9 v10 v11 : Value} (h : W.cell? ⟨b, 0, none⟩ = some (v0) ∧ W.cell? ⟨b, 1, none⟩ = some (v1) ∧ W.cell? ⟨b, 2, none⟩ = some (v2) ∧ W.cell? ⟨b, 3, none⟩ = some (v3) ∧ W.cell? ⟨b, 4, none⟩ = some (v4) ∧ W.cell? ⟨b, 5, none⟩ = some (v5) ∧ W.cell? ⟨b, 6, none⟩ = some (v6) ∧ W.cell? ⟨b, 7, none⟩ = some (v7) ∧ W.cell? ⟨b, 8, none⟩ = some (v8) ∧ W.cell? ⟨b, 9, none⟩ = some (v9) ∧ W.cell? ⟨b, 10, none⟩ = some (v10) ∧ W.cell? ⟨b, 11, none⟩ = some (v11) ∧ St w W) (hp : b < p) (hwp : w.heap.size ≤ p) (hw1 : 1 < w.heap.size) (i : Nat) (u : Value) : (W.setCell ⟨p, i, none⟩ u).cell? ⟨b, 0, none⟩ = some (v0) ∧ (W.setCell ⟨p, i, none⟩ u).cell? ⟨b, 1, none⟩ = some (v1) ∧ (W.setCell ⟨p, i, none⟩ u).cell? ⟨b, 2, none⟩ = some (v2) ∧ (W.setCell ⟨p, i, none⟩ u).cell? ⟨b, 3, none⟩ = some (v3) ∧ (W.setCell ⟨p, i, none⟩ u).cell? ⟨b, 4, none⟩ = some (v4) ∧ (W.setCell ⟨p, i, none⟩ u).cell? ⟨b, 5, none⟩ = some (v5) ∧ (W.setCell ⟨p, i, none⟩ u).cell? ⟨b, 6, none⟩ = some (v6) ∧ (W.setCell ⟨p, i, none⟩ u).cell? ⟨b, 7, none⟩ = some (v7) ∧ (W.setCell ⟨p, i, none⟩ u).cell? ⟨b, 8, none⟩ = some (v8) ∧ (W.setCell ⟨p, i, none⟩ u).cell? ⟨b, 9, none⟩ = some (v9) ∧ (W.setCell ⟨p, i, none⟩ u).cell? ⟨b, 10, none⟩ = some (v10) ∧ (W.setCell ⟨p, i, none⟩ u).cell? ⟨b, 11, none⟩ = some (v11) ∧ St w (W.setCell ⟨p, i, none⟩ u) := by
  obtain ⟨h0, h1, h2, h3, h4, h5, h6, h7, h8, h9, h10, h11, hs⟩ := h
  refine ⟨(cell_far0 (Nat.ne_of_lt hp) _ _ _).trans h0, (cell_far0 (Nat.ne_of_lt hp) _ _ _).trans h1, (cell_far0 (Nat.ne_of_lt hp) _ _ _).trans h2, (cell_far0 (Nat.ne_of_lt hp) _ _ _).trans h3, (cell_far0 (Nat.ne_of_lt hp) _ _ _).trans h4, (cell_far0 (Nat.ne_of_lt hp) _ _ _).trans h5, (cell_far0 (Nat.ne_of_lt hp) _ _ _).trans h6, (cell_far0 (Nat.ne_of_lt hp) _ _ _).trans h7, (cell_far0 (Nat.ne_of_lt hp) _ _ _).trans h8, (cell_far0 (Nat.ne_of_lt hp) _ _ _).trans h9, (cell_far0 (Nat.ne_of_lt hp) _ _ _).trans h10, (cell_far0 (Nat.ne_of_lt hp) _ _ _).trans h11, hs.setCell hwp hw1 u⟩
theorem Als.z {ca cb : Array Value} {v0 v1 v2 v3 v4 v5 v6 v7 v8 v9 v10 v11 : Value} {l : List Nat} {w W : World} (h : Als ca cb #[v0, v1, v2, v3, v4, v5, v6, v7, v8, v9, v10, v11] l w W) : W.cell? ⟨w.heap.size + 2, 0, none⟩ = some (v0) ∧ W.cell? ⟨w.heap.size + 2, 1, none⟩ = some (v1) ∧ W.cell? ⟨w.heap.size + 2, 2, none⟩ = some (v2) ∧ W.cell? ⟨w.heap.size + 2, 3, none⟩ = some (v3) ∧ W.cell? ⟨w.heap.size + 2, 4, none⟩ = some (v4) ∧ W.cell? ⟨w.heap.size + 2, 5, none⟩ = some (v5) ∧ W.cell? ⟨w.heap.size + 2, 6, none⟩ = some (v6) ∧ W.cell? ⟨w.heap.size + 2, 7, none⟩ = some (v7) ∧ W.cell? ⟨w.heap.size + 2, 8, none⟩ = some (v8) ∧ W.cell? ⟨w.heap.size + 2, 9, none⟩ = some (v9) ∧ W.cell? ⟨w.heap.size + 2, 10, none⟩ = some (v10) ∧ W.cell? ⟨w.heap.size + 2, 11, none⟩ = some (v11) ∧ St w W := by
  obtain ⟨h0, h1, h2, h3, h4, h5, h6, h7, h8, h9, h10, h11⟩ := dozen h.x.2.2.2
  exact ⟨h0, h1, h2, h3, h4, h5, h6, h7, h8, h9, h10, h11, h.x.1⟩
/-- Two boxed times in a world that has grown out of w. -/
def Two (ca cb : Array Value) (p q : Nat) (w W : World) : Prop := St w W ∧ W.heap[p]? = some (.cells ca 23 (0, 0)) ∧ W.heap[q]? = some (.cells cb 23 (0, 0))
theorem Two.t {ca cb : Array Value} {p q : Nat} {w W : World} (h : Two ca cb p q w W) : Tabs W := h.1.t
theorem Two.b {ca cb : Array Value} {p q : Nat} {w W : World} (h : Two ca cb p q w W) : Below w.heap.size w W := h.1.b
theorem Two.next {ca cb : Array Value} {p q : Nat} {w W W' : World} (h : Two ca cb p q w W) (hb : Below W.heap.size W W') : Two ca cb p q w W' := ⟨h.1.next hb, blk_below h.2.1 hb, blk_below h.2.2 hb⟩
theorem Two.drew {ca cb : Array Value} {p q : Nat} {w W : World} (h : Two ca cb p q w W) : Two ca cb p q w W.drew := ⟨h.1.drew, h.2.1, h.2.2⟩

theorem Two.z {u0 u1 u2 u3 u4 u5 v0 v1 v2 v3 v4 v5 : Value} {p q : Nat} {w W : World} (h : Two #[u0, u1, u2, u3, u4, u5] #[v0, v1, v2, v3, v4, v5] p q w W) : W.cell? ⟨p, 0, none⟩ = some u0 ∧ W.cell? ⟨p, 1, none⟩ = some u1 ∧ W.cell? ⟨p, 2, none⟩ = some u2 ∧ W.cell? ⟨p, 3, none⟩ = some u3 ∧ W.cell? ⟨p, 4, none⟩ = some u4 ∧ W.cell? ⟨p, 5, none⟩ = some u5 ∧ W.cell? ⟨q, 0, none⟩ = some v0 ∧ W.cell? ⟨q, 1, none⟩ = some v1 ∧ W.cell? ⟨q, 2, none⟩ = some v2 ∧ W.cell? ⟨q, 3, none⟩ = some v3 ∧ W.cell? ⟨q, 4, none⟩ = some v4 ∧ W.cell? ⟨q, 5, none⟩ = some v5 := by
  obtain ⟨a0, a1, a2, a3, a4, a5⟩ := six h.2.1
  obtain ⟨b0, b1, b2, b3, b4, b5⟩ := six h.2.2
  exact ⟨a0, a1, a2, a3, a4, a5, b0, b1, b2, b3, b4, b5⟩
set_option maxHeartbeats 8000000 in
set_option maxRecDepth 100000 in
theorem order_gen (a0 a1 a2 a3 a4 a5 b0 b1 b2 b3 b4 b5 p0 p1 p2 p3 p4 p5 q0 q1 q2 q3 q4 q5 xY xM xD xH xMi xS zY zM zD zH zMi zS c c' r m n : Int) (tx ty : ByteArray) (w : World) (hT : Tabs w)
    (H31 : Hid (∀ w, Tabs w → Calls Tryd.prog 31 #[.agg #[.int .i64 a0, .int .i64 a1, .int .i64 a2, .int .i64 a3, .int .i64 a4, .int .i64 a5], .agg #[.int .i64 b0, .int .i64 b1, .int .i64 b2, .int .i64 b3, .int .i64 b4, .int .i64 b5]] w fun e w' => e = .returned (.int .i64 (c)) ∧ Below w.heap.size w w'))
    (H31' : Hid (∀ w, Tabs w → Calls Tryd.prog 31 #[.agg #[.int .i64 b0, .int .i64 b1, .int .i64 b2, .int .i64 b3, .int .i64 b4, .int .i64 b5], .agg #[.int .i64 a0, .int .i64 a1, .int .i64 a2, .int .i64 a3, .int .i64 a4, .int .i64 a5]] w fun e w' => e = .returned (.int .i64 (c')) ∧ Below w.heap.size w w'))
    (HC : Hid ((c = 0 ∧ c' = 0 ∧ a0 = b0 ∧ a1 = b1 ∧ a2 = b2 ∧ a3 = b3 ∧ a4 = b4 ∧ a5 = b5) ∨ (c = -1 ∧ c' = 1 ∧ a0 < b0) ∨ (c = 1 ∧ c' = -1 ∧ b0 < a0) ∨ (c = -1 ∧ c' = 1 ∧ a0 = b0 ∧ (a1 ≠ b1 ∨ a1 = b1 ∧ a2 ≠ b2 ∨ a1 = b1 ∧ a2 = b2 ∧ a3 ≠ b3 ∨ a1 = b1 ∧ a2 = b2 ∧ a3 = b3 ∧ a4 ≠ b4 ∨ a1 = b1 ∧ a2 = b2 ∧ a3 = b3 ∧ a4 = b4 ∧ a5 ≠ b5)) ∨ (c = 1 ∧ c' = -1 ∧ a0 = b0 ∧ (a1 ≠ b1 ∨ a1 = b1 ∧ a2 ≠ b2 ∨ a1 = b1 ∧ a2 = b2 ∧ a3 ≠ b3 ∨ a1 = b1 ∧ a2 = b2 ∧ a3 = b3 ∧ a4 ≠ b4 ∨ a1 = b1 ∧ a2 = b2 ∧ a3 = b3 ∧ a4 = b4 ∧ a5 ≠ b5))))
    (H20 : Hid (∀ w, Tabs w → Calls Tryd.prog 20 #[.agg #[.int .u16 xY, .int .u8 xM, .int .u8 xD, .int .u8 xH, .int .u8 xMi, .int .u8 xS]] w fun e w' => e = .returned (.agg #[.int .i64 p0, .int .i64 p1, .int .i64 p2, .int .i64 p3, .int .i64 p4, .int .i64 p5]) ∧ Below w.heap.size w w'))
    (H20' : Hid (∀ w, Tabs w → Calls Tryd.prog 20 #[.agg #[.int .u16 zY, .int .u8 zM, .int .u8 zD, .int .u8 zH, .int .u8 zMi, .int .u8 zS]] w fun e w' => e = .returned (.agg #[.int .i64 q0, .int .i64 q1, .int .i64 q2, .int .i64 q3, .int .i64 q4, .int .i64 q5]) ∧ Below w.heap.size w w'))
    (H18 : Hid (∀ w, Tabs w → Calls Tryd.prog 18 #[.agg #[.int .i64 p0, .int .i64 p1, .int .i64 p2, .int .i64 p3, .int .i64 p4, .int .i64 p5]] w fun e w' => e = .returned (.int .i64 m) ∧ Below w.heap.size w w'))
    (H18' : Hid (∀ w, Tabs w → Calls Tryd.prog 18 #[.agg #[.int .i64 q0, .int .i64 q1, .int .i64 q2, .int .i64 q3, .int .i64 q4, .int .i64 q5]] w fun e w' => e = .returned (.int .i64 n) ∧ Below w.heap.size w w'))
    (H19 : Hid (∀ w, Tabs w → Calls Tryd.prog 19 #[.agg #[.int .i64 p0, .int .i64 p1, .int .i64 p2, .int .i64 p3, .int .i64 p4, .int .i64 p5]] w fun e w' => e = .returned (.string tx) ∧ Below w.heap.size w w'))
    (H19' : Hid (∀ w, Tabs w → Calls Tryd.prog 19 #[.agg #[.int .i64 q0, .int .i64 q1, .int .i64 q2, .int .i64 q3, .int .i64 q4, .int .i64 q5]] w fun e w' => e = .returned (.string ty) ∧ Below w.heap.size w w'))
    (H29 : Hid (∀ w, Calls Tryd.prog 29 #[.agg #[.int .i64 p0, .int .i64 p1, .int .i64 p2, .int .i64 p3, .int .i64 p4, .int .i64 p5]] w fun e w' => e = .returned (.int .i64 m) ∧ Below w.heap.size w w'))
    (H29' : Hid (∀ w, Calls Tryd.prog 29 #[.agg #[.int .i64 q0, .int .i64 q1, .int .i64 q2, .int .i64 q3, .int .i64 q4, .int .i64 q5]] w fun e w' => e = .returned (.int .i64 n) ∧ Below w.heap.size w w'))
    (H31r : Hid (∀ w, Tabs w → Calls Tryd.prog 31 #[.agg #[.int .i64 p0, .int .i64 p1, .int .i64 p2, .int .i64 p3, .int .i64 p4, .int .i64 p5], .agg #[.int .i64 q0, .int .i64 q1, .int .i64 q2, .int .i64 q3, .int .i64 q4, .int .i64 q5]] w fun e w' => e = .returned (.int .i64 (r)) ∧ Below w.heap.size w w'))
    (HR : Hid ((r = -1 ∧ m < n ∧ Op.bytesLess tx.toList ty.toList = true) ∨ (r = 0 ∧ m = n ∧ Op.bytesLess tx.toList ty.toList = false ∧ (tx.toList == ty.toList) = true) ∨ (r = 1 ∧ n < m ∧ Op.bytesLess tx.toList ty.toList = false ∧ (tx.toList == ty.toList) = false))) :
    Calls Tryd.prog 9 #[.agg #[.int .i64 a0, .int .i64 a1, .int .i64 a2, .int .i64 a3, .int .i64 a4, .int .i64 a5], .agg #[.int .i64 b0, .int .i64 b1, .int .i64 b2, .int .i64 b3, .int .i64 b4, .int .i64 b5], .agg #[.int .u16 xY, .int .u8 xM, .int .u8 xD, .int .u8 xH, .int .u8 xMi, .int .u8 xS, .int .u16 zY, .int .u8 zM, .int .u8 zD, .int .u8 zH, .int .u8 zMi, .int .u8 zS]] w fun e w' => e = .returned (.bool true) ∧ Below w.heap.size w w' := by
  have B0 : Box3 #[.int .i64 a0, .int .i64 a1, .int .i64 a2, .int .i64 a3, .int .i64 a4, .int .i64 a5] #[.int .i64 b0, .int .i64 b1, .int .i64 b2, .int .i64 b3, .int .i64 b4, .int .i64 b5] #[.int .u16 xY, .int .u8 xM, .int .u8 xD, .int .u8 xH, .int .u8 xMi, .int .u8 xS, .int .u16 zY, .int .u8 zM, .int .u8 zD, .int .u8 zH, .int .u8 zMi, .int .u8 zS] w _ := Box3.start w hT _ _ _
  go_enter Tryd.func9, Tryd.ntmps9
  go_upto_region 2 with (go_at_call 31; refine (H31.out _ (Box3.t (by assumption))).mono ?_; rintro e w' ⟨rfl, hb⟩; have hx := Box3.next (by assumption) hb; obtain ⟨x0, x1, x2, x3, x4, x5⟩ := six hx.2.1; obtain ⟨y0, y1, y2, y3, y4, y5⟩ := six hx.2.2.1; obtain ⟨z0, z1, z2, z3, z4, z5, z6, z7, z8, z9, z10, z11⟩ := dozen hx.2.2.2; clear hb)

  go_cut [56] (fun s56 wx => s56 = .bool false ∧ Hid (Box3 #[.int .i64 a0, .int .i64 a1, .int .i64 a2, .int .i64 a3, .int .i64 a4, .int .i64 a5] #[.int .i64 b0, .int .i64 b1, .int .i64 b2, .int .i64 b3, .int .i64 b4, .int .i64 b5] #[.int .u16 xY, .int .u8 xM, .int .u8 xD, .int .u8 xH, .int .u8 xMi, .int .u8 xS, .int .u16 zY, .int .u8 zM, .int .u8 zD, .int .u8 zH, .int .u8 zMi, .int .u8 zS] w wx))
  case first =>
    rcases HC.out with ⟨rfl, rfl, rfl, rfl, rfl, rfl, rfl, rfl⟩ | ⟨rfl, rfl, hlt⟩ | ⟨rfl, rfl, hlt⟩ | ⟨rfl, rfl, rfl, hne | ⟨rfl, hne⟩ | ⟨rfl, rfl, hne⟩ | ⟨rfl, rfl, rfl, hne⟩ | ⟨rfl, rfl, rfl, rfl, hne⟩⟩ | ⟨rfl, rfl, rfl, hne | ⟨rfl, hne⟩ | ⟨rfl, rfl, hne⟩ | ⟨rfl, rfl, rfl, hne⟩ | ⟨rfl, rfl, rfl, rfl, hne⟩⟩
    all_goals
      go_wp2_with (go_at_call 31; refine (H31'.out _ (Box3.t (by assumption))).mono ?_; rintro e w' ⟨rfl, hb⟩; have hx := Box3.next (by assumption) hb; obtain ⟨x0, x1, x2, x3, x4, x5⟩ := six hx.2.1; obtain ⟨y0, y1, y2, y3, y4, y5⟩ := six hx.2.2.1; obtain ⟨z0, z1, z2, z3, z4, z5, z6, z7, z8, z9, z10, z11⟩ := dozen hx.2.2.2; clear hb)
      go_meet
      refine ⟨?_, hx⟩
      first | rfl | (simp; omega)
  case rest =>
    obtain ⟨rfl, HB⟩ := hcut
    obtain ⟨z0, z1, z2, z3, z4, z5, z6, z7, z8, z9, z10, z11⟩ := dozen HB.out.2.2.2
    go_upto_region 4 with fail
    go_cut [8, 9] (fun s8 s9 wx => ∃ p q : Nat, s8 = .pointer (some ⟨p, 0, none⟩) ∧ s9 = .pointer (some ⟨q, 0, none⟩) ∧ Hid (Two #[.int .i64 p0, .int .i64 p1, .int .i64 p2, .int .i64 p3, .int .i64 p4, .int .i64 p5] #[.int .i64 q0, .int .i64 q1, .int .i64 q2, .int .i64 q3, .int .i64 q4, .int .i64 q5] p q w wx))
    case first =>
      have hx0 : Als #[.int .i64 a0, .int .i64 a1, .int .i64 a2, .int .i64 a3, .int .i64 a4, .int .i64 a5] #[.int .i64 b0, .int .i64 b1, .int .i64 b2, .int .i64 b3, .int .i64 b4, .int .i64 b5] #[.int .u16 xY, .int .u8 xM, .int .u8 xD, .int .u8 xH, .int .u8 xMi, .int .u8 xS, .int .u16 zY, .int .u8 zM, .int .u8 zD, .int .u8 zH, .int .u8 zMi, .int .u8 zS] [] w _ := ⟨Box3.drew HB.out, (by intro p hp; cases hp), List.nodup_nil⟩
      have HX := hx0
      refine start_ (n := 10) (S := fun W => W.cell? ⟨w.heap.size + 1 + 1, 0, none⟩ = some (.int .u16 xY) ∧ W.cell? ⟨w.heap.size + 1 + 1, 1, none⟩ = some (.int .u8 xM) ∧ W.cell? ⟨w.heap.size + 1 + 1, 2, none⟩ = some (.int .u8 xD) ∧ W.cell? ⟨w.heap.size + 1 + 1, 3, none⟩ = some (.int .u8 xH) ∧ W.cell? ⟨w.heap.size + 1 + 1, 4, none⟩ = some (.int .u8 xMi) ∧ W.cell? ⟨w.heap.size + 1 + 1, 5, none⟩ = some (.int .u8 xS) ∧ W.cell? ⟨w.heap.size + 1 + 1, 6, none⟩ = some (.int .u16 zY) ∧ W.cell? ⟨w.heap.size + 1 + 1, 7, none⟩ = some (.int .u8 zM) ∧ W.cell? ⟨w.heap.size + 1 + 1, 8, none⟩ = some (.int .u8 zD) ∧ W.cell? ⟨w.heap.size + 1 + 1, 9, none⟩ = some (.int .u8 zH) ∧ W.cell? ⟨w.heap.size + 1 + 1, 10, none⟩ = some (.int .u8 zMi) ∧ W.cell? ⟨w.heap.size + 1 + 1, 11, none⟩ = some (.int .u8 zS) ∧ St w W) (ds := [8, 9]) #[false, false, false, false, false, false, false, false, false, false] (by kernel_rfl) rfl rfl (Als.z HX) (fun HS => ?_)
      refine join_ (σ := Nat × Nat) 2 #[true, true, true, true, true, true, true, true, false, false] (fun s => [(57, .pointer (some ⟨w.heap.size + 1 + 1, 0, none⟩)), (58, .agg #[.int .u16 xY, .int .u8 xM, .int .u8 xD, .int .u8 xH, .int .u8 xMi, .int .u8 xS]), (59, .agg #[.int .i64 p0, .int .i64 p1, .int .i64 p2, .int .i64 p3, .int .i64 p4, .int .i64 p5]), (60, .pointer (some ⟨w.heap.size + 1 + 1, 6, none⟩)), (61, .agg #[.int .u16 zY, .int .u8 zM, .int .u8 zD, .int .u8 zH, .int .u8 zMi, .int .u8 zS]), (62, .agg #[.int .i64 q0, .int .i64 q1, .int .i64 q2, .int .i64 q3, .int .i64 q4, .int .i64 q5]), (8, .pointer (some ⟨s.1, 0, none⟩)), (9, .pointer (some ⟨s.2, 0, none⟩))]) (fun s W => Als #[.int .i64 a0, .int .i64 a1, .int .i64 a2, .int .i64 a3, .int .i64 a4, .int .i64 a5] #[.int .i64 b0, .int .i64 b1, .int .i64 b2, .int .i64 b3, .int .i64 b4, .int .i64 b5] #[.int .u16 xY, .int .u8 xM, .int .u8 xD, .int .u8 xH, .int .u8 xMi, .int .u8 xS, .int .u16 zY, .int .u8 zM, .int .u8 zD, .int .u8 zH, .int .u8 zMi, .int .u8 zS] [s.2, s.1] w W) ?_ (fun hc0 => ?_)
      rotate_left
      have hcont := fun (p q : Nat) W h => hc0 (p, q) W h
      clear hc0
      simp only [putAll, Act.put, List.setIfInBounds_toArray, List.set_cons_zero, List.set_cons_succ] at hcont
      refine take_ (i := 0) (N := some 57) (v := ?_) (a' := ?_) #[true, false, false, false, false, false, false, false, false, false] rfl rfl (by kernel_rfl) (fun _ _ _ h => h) (Or.inl ⟨by rfl, ?_⟩) (by assumption) ?_ ?_
      rotate_left
      · rintro W' ⟨s0, s1, s2, s3, s4, s5, s6, s7, s8, s9, s10, s11, st⟩
        go_simp
        with_reducible rfl
      rotate_left
      · simp only [Act.put, List.setIfInBounds_toArray, List.set_cons_zero, List.set_cons_succ, i64_w, i32_w]
        rfl
      refine take_ (i := 1) (N := some 58) (v := ?_) (a' := ?_) #[true, true, false, false, false, false, false, false, false, false] rfl rfl (by kernel_rfl) (fun _ _ _ h => h) (Or.inl ⟨by rfl, ?_⟩) (by assumption) ?_ ?_
      rotate_left
      · rintro W' ⟨s0, s1, s2, s3, s4, s5, s6, s7, s8, s9, s10, s11, st⟩
        go_simp
        with_reducible rfl
      rotate_left
      · simp only [Act.put, List.setIfInBounds_toArray, List.set_cons_zero, List.set_cons_succ, i64_w, i32_w]
        rfl
      refine take_ (i := 3) (N := some 60) (v := ?_) (a' := ?_) #[true, true, false, true, false, false, false, false, false, false] rfl rfl (by kernel_rfl) (fun _ _ _ h => h) (Or.inl ⟨by rfl, ?_⟩) (by assumption) ?_ ?_
      rotate_left
      · rintro W' ⟨s0, s1, s2, s3, s4, s5, s6, s7, s8, s9, s10, s11, st⟩
        go_simp
        with_reducible rfl
      rotate_left
      · simp only [Act.put, List.setIfInBounds_toArray, List.set_cons_zero, List.set_cons_succ, i64_w, i32_w]
        rfl
      refine take_ (i := 4) (N := some 61) (v := ?_) (a' := ?_) #[true, true, false, true, true, false, false, false, false, false] rfl rfl (by kernel_rfl) (fun _ _ _ h => h) (Or.inl ⟨by rfl, ?_⟩) (by assumption) ?_ ?_
      rotate_left
      · rintro W' ⟨s0, s1, s2, s3, s4, s5, s6, s7, s8, s9, s10, s11, st⟩
        go_simp
        with_reducible rfl
      rotate_left
      · simp only [Act.put, List.setIfInBounds_toArray, List.set_cons_zero, List.set_cons_succ, i64_w, i32_w]
        rfl
      refine three_ (i := 2) (j := 6) (k := 7) (Ni := some 59) (Nj := some 8) (Nk := some 9) #[true, true, true, true, true, false, false, false, false, false] #[true, true, false, true, true, false, true, false, false, false] #[true, true, false, true, true, false, false, true, false, false] rfl rfl rfl rfl rfl rfl (by kernel_rfl) (by decide) (by decide) (by decide) (fun K hK => ?_) (fun K hK => ?_) (fun K hK => ?_)
      · refine goes_ Tryd.func20 (by kernel_rfl) rfl #[.agg #[.int .u16 xY, .int .u8 xM, .int .u8 xD, .int .u8 xH, .int .u8 xMi, .int .u8 xS]] (by rfl) rfl rfl (by (try simp only [List.map_toArray, List.map_cons, List.map_nil]); first | done | rfl) ?_
        refine (H20.out _ HX.t).mono ?_
        rintro e w' ⟨rfl, hb⟩
        refine ⟨_, rfl, ?_⟩
        replace HX := Als.next HX hb
        clear hb
        refine hK.out _ _ (Als.z HX) (fun HS => ?_)
        clear hK K
        refine norm_ (a' := ?_) ?_ ?_
        rotate_left
        · show Act.put _ (some 59) _ = _
          simp only [Act.put, List.setIfInBounds_toArray, List.set_cons_zero, List.set_cons_succ, i64_w, i32_w]
          rfl
        refine three_ (i := 5) (j := 6) (k := 7) (Ni := some 62) (Nj := some 8) (Nk := some 9) #[true, true, true, true, true, true, false, false, false, false] #[true, true, true, true, true, false, true, false, false, false] #[true, true, true, true, true, false, false, true, false, false] rfl rfl rfl rfl rfl rfl (by kernel_rfl) (by decide) (by decide) (by decide) (fun K hK => ?_) (fun K hK => ?_) (fun K hK => ?_)
        · refine goes_ Tryd.func20 (by kernel_rfl) rfl #[.agg #[.int .u16 zY, .int .u8 zM, .int .u8 zD, .int .u8 zH, .int .u8 zMi, .int .u8 zS]] (by rfl) rfl rfl (by (try simp only [List.map_toArray, List.map_cons, List.map_nil]); first | done | rfl) ?_
          refine (H20'.out _ HX.t).mono ?_
          rintro e w' ⟨rfl, hb⟩
          refine ⟨_, rfl, ?_⟩
          replace HX := Als.next HX hb
          clear hb
          refine hK.out _ _ (Als.z HX) (fun HS => ?_)
          clear hK K
          refine norm_ (a' := ?_) ?_ ?_
          rotate_left
          · show Act.put _ (some 62) _ = _
            simp only [Act.put, List.setIfInBounds_toArray, List.set_cons_zero, List.set_cons_succ, i64_w, i32_w]
            rfl
          refine two_ (i := 6) (j := 7) (Ni := some 8) (Nj := some 9) #[true, true, true, true, true, true, true, false, false, false] #[true, true, true, true, true, true, false, true, false, false] rfl rfl rfl rfl (by kernel_rfl) (by decide) (by decide) (fun K hK => ?_) (fun K hK => ?_)
          · refine box_step (by rfl) (N := 8) rfl (cs := #[.int .i64 0, .int .i64 0, .int .i64 0, .int .i64 0, .int .i64 0, .int .i64 0]) (t := 23) ?_ ?_
            · first | (go_simp; done) | (go_simp; rfl)
            intro p hg w' hbox hb
            replace HX := Als.box HX hg hbox hb
            clear hb hg hbox
            refine hK.out _ _ (Als.z HX) (fun HS => ?_)
            clear hK K
            refine norm_ (a' := ?_) ?_ ?_
            rotate_left
            · show Act.put _ (some 8) _ = _
              simp only [Act.put, List.setIfInBounds_toArray, List.set_cons_zero, List.set_cons_succ, i64_w, i32_w]
              rfl
            refine one_ (i := 7) (N := some 9) #[true, true, true, true, true, true, true, true, false, false] rfl rfl (by kernel_rfl) (by decide) (fun K hK => ?_)
            · refine box_step (by rfl) (N := 9) rfl (cs := #[.int .i64 0, .int .i64 0, .int .i64 0, .int .i64 0, .int .i64 0, .int .i64 0]) (t := 23) ?_ ?_
              · first | (go_simp; done) | (go_simp; rfl)
              intro q hg w' hbox hb
              replace HX := Als.box HX hg hbox hb
              clear hb hg hbox
              refine hK.out _ _ (Als.z HX) (fun HS => ?_)
              clear hK K
              refine norm_ (a' := ?_) ?_ ?_
              rotate_left
              · show Act.put _ (some 9) _ = _
                simp only [Act.put, List.setIfInBounds_toArray, List.set_cons_zero, List.set_cons_succ, i64_w, i32_w]
                rfl
              with_reducible exact hcont p q _ (by first | exact HX | exact HX.swap)
          · refine box_step (by rfl) (N := 9) rfl (cs := #[.int .i64 0, .int .i64 0, .int .i64 0, .int .i64 0, .int .i64 0, .int .i64 0]) (t := 23) ?_ ?_
            · first | (go_simp; done) | (go_simp; rfl)
            intro q hg w' hbox hb
            replace HX := Als.box HX hg hbox hb
            clear hb hg hbox
            refine hK.out _ _ (Als.z HX) (fun HS => ?_)
            clear hK K
            refine norm_ (a' := ?_) ?_ ?_
            rotate_left
            · show Act.put _ (some 9) _ = _
              simp only [Act.put, List.setIfInBounds_toArray, List.set_cons_zero, List.set_cons_succ, i64_w, i32_w]
              rfl
            refine one_ (i := 6) (N := some 8) #[true, true, true, true, true, true, true, true, false, false] rfl rfl (by kernel_rfl) (by decide) (fun K hK => ?_)
            · refine box_step (by rfl) (N := 8) rfl (cs := #[.int .i64 0, .int .i64 0, .int .i64 0, .int .i64 0, .int .i64 0, .int .i64 0]) (t := 23) ?_ ?_
              · first | (go_simp; done) | (go_simp; rfl)
              intro p hg w' hbox hb
              replace HX := Als.box HX hg hbox hb
              clear hb hg hbox
              refine hK.out _ _ (Als.z HX) (fun HS => ?_)
              clear hK K
              refine norm_ (a' := ?_) ?_ ?_
              rotate_left
              · show Act.put _ (some 8) _ = _
                simp only [Act.put, List.setIfInBounds_toArray, List.set_cons_zero, List.set_cons_succ, i64_w, i32_w]
                rfl
              with_reducible exact hcont p q _ (by first | exact HX | exact HX.swap)
        · refine box_step (by rfl) (N := 8) rfl (cs := #[.int .i64 0, .int .i64 0, .int .i64 0, .int .i64 0, .int .i64 0, .int .i64 0]) (t := 23) ?_ ?_
          · first | (go_simp; done) | (go_simp; rfl)
          intro p hg w' hbox hb
          replace HX := Als.box HX hg hbox hb
          clear hb hg hbox
          refine hK.out _ _ (Als.z HX) (fun HS => ?_)
          clear hK K
          refine norm_ (a' := ?_) ?_ ?_
          rotate_left
          · show Act.put _ (some 8) _ = _
            simp only [Act.put, List.setIfInBounds_toArray, List.set_cons_zero, List.set_cons_succ, i64_w, i32_w]
            rfl
          refine two_ (i := 5) (j := 7) (Ni := some 62) (Nj := some 9) #[true, true, true, true, true, true, true, false, false, false] #[true, true, true, true, true, false, true, true, false, false] rfl rfl rfl rfl (by kernel_rfl) (by decide) (by decide) (fun K hK => ?_) (fun K hK => ?_)
          · refine goes_ Tryd.func20 (by kernel_rfl) rfl #[.agg #[.int .u16 zY, .int .u8 zM, .int .u8 zD, .int .u8 zH, .int .u8 zMi, .int .u8 zS]] (by rfl) rfl rfl (by (try simp only [List.map_toArray, List.map_cons, List.map_nil]); first | done | rfl) ?_
            refine (H20'.out _ HX.t).mono ?_
            rintro e w' ⟨rfl, hb⟩
            refine ⟨_, rfl, ?_⟩
            replace HX := Als.next HX hb
            clear hb
            refine hK.out _ _ (Als.z HX) (fun HS => ?_)
            clear hK K
            refine norm_ (a' := ?_) ?_ ?_
            rotate_left
            · show Act.put _ (some 62) _ = _
              simp only [Act.put, List.setIfInBounds_toArray, List.set_cons_zero, List.set_cons_succ, i64_w, i32_w]
              rfl
            refine one_ (i := 7) (N := some 9) #[true, true, true, true, true, true, true, true, false, false] rfl rfl (by kernel_rfl) (by decide) (fun K hK => ?_)
            · refine box_step (by rfl) (N := 9) rfl (cs := #[.int .i64 0, .int .i64 0, .int .i64 0, .int .i64 0, .int .i64 0, .int .i64 0]) (t := 23) ?_ ?_
              · first | (go_simp; done) | (go_simp; rfl)
              intro q hg w' hbox hb
              replace HX := Als.box HX hg hbox hb
              clear hb hg hbox
              refine hK.out _ _ (Als.z HX) (fun HS => ?_)
              clear hK K
              refine norm_ (a' := ?_) ?_ ?_
              rotate_left
              · show Act.put _ (some 9) _ = _
                simp only [Act.put, List.setIfInBounds_toArray, List.set_cons_zero, List.set_cons_succ, i64_w, i32_w]
                rfl
              with_reducible exact hcont p q _ (by first | exact HX | exact HX.swap)
          · refine box_step (by rfl) (N := 9) rfl (cs := #[.int .i64 0, .int .i64 0, .int .i64 0, .int .i64 0, .int .i64 0, .int .i64 0]) (t := 23) ?_ ?_
            · first | (go_simp; done) | (go_simp; rfl)
            intro q hg w' hbox hb
            replace HX := Als.box HX hg hbox hb
            clear hb hg hbox
            refine hK.out _ _ (Als.z HX) (fun HS => ?_)
            clear hK K
            refine norm_ (a' := ?_) ?_ ?_
            rotate_left
            · show Act.put _ (some 9) _ = _
              simp only [Act.put, List.setIfInBounds_toArray, List.set_cons_zero, List.set_cons_succ, i64_w, i32_w]
              rfl
            refine one_ (i := 5) (N := some 62) #[true, true, true, true, true, true, true, true, false, false] rfl rfl (by kernel_rfl) (by decide) (fun K hK => ?_)
            · refine goes_ Tryd.func20 (by kernel_rfl) rfl #[.agg #[.int .u16 zY, .int .u8 zM, .int .u8 zD, .int .u8 zH, .int .u8 zMi, .int .u8 zS]] (by rfl) rfl rfl (by (try simp only [List.map_toArray, List.map_cons, List.map_nil]); first | done | rfl) ?_
              refine (H20'.out _ HX.t).mono ?_
              rintro e w' ⟨rfl, hb⟩
              refine ⟨_, rfl, ?_⟩
              replace HX := Als.next HX hb
              clear hb
              refine hK.out _ _ (Als.z HX) (fun HS => ?_)
              clear hK K
              refine norm_ (a' := ?_) ?_ ?_
              rotate_left
              · show Act.put _ (some 62) _ = _
                simp only [Act.put, List.setIfInBounds_toArray, List.set_cons_zero, List.set_cons_succ, i64_w, i32_w]
                rfl
              with_reducible exact hcont p q _ (by first | exact HX | exact HX.swap)
        · refine box_step (by rfl) (N := 9) rfl (cs := #[.int .i64 0, .int .i64 0, .int .i64 0, .int .i64 0, .int .i64 0, .int .i64 0]) (t := 23) ?_ ?_
          · first | (go_simp; done) | (go_simp; rfl)
          intro q hg w' hbox hb
          replace HX := Als.box HX hg hbox hb
          clear hb hg hbox
          refine hK.out _ _ (Als.z HX) (fun HS => ?_)
          clear hK K
          refine norm_ (a' := ?_) ?_ ?_
          rotate_left
          · show Act.put _ (some 9) _ = _
            simp only [Act.put, List.setIfInBounds_toArray, List.set_cons_zero, List.set_cons_succ, i64_w, i32_w]
            rfl
          refine two_ (i := 5) (j := 6) (Ni := some 62) (Nj := some 8) #[true, true, true, true, true, true, false, true, false, false] #[true, true, true, true, true, false, true, true, false, false] rfl rfl rfl rfl (by kernel_rfl) (by decide) (by decide) (fun K hK => ?_) (fun K hK => ?_)
          · refine goes_ Tryd.func20 (by kernel_rfl) rfl #[.agg #[.int .u16 zY, .int .u8 zM, .int .u8 zD, .int .u8 zH, .int .u8 zMi, .int .u8 zS]] (by rfl) rfl rfl (by (try simp only [List.map_toArray, List.map_cons, List.map_nil]); first | done | rfl) ?_
            refine (H20'.out _ HX.t).mono ?_
            rintro e w' ⟨rfl, hb⟩
            refine ⟨_, rfl, ?_⟩
            replace HX := Als.next HX hb
            clear hb
            refine hK.out _ _ (Als.z HX) (fun HS => ?_)
            clear hK K
            refine norm_ (a' := ?_) ?_ ?_
            rotate_left
            · show Act.put _ (some 62) _ = _
              simp only [Act.put, List.setIfInBounds_toArray, List.set_cons_zero, List.set_cons_succ, i64_w, i32_w]
              rfl
            refine one_ (i := 6) (N := some 8) #[true, true, true, true, true, true, true, true, false, false] rfl rfl (by kernel_rfl) (by decide) (fun K hK => ?_)
            · refine box_step (by rfl) (N := 8) rfl (cs := #[.int .i64 0, .int .i64 0, .int .i64 0, .int .i64 0, .int .i64 0, .int .i64 0]) (t := 23) ?_ ?_
              · first | (go_simp; done) | (go_simp; rfl)
              intro p hg w' hbox hb
              replace HX := Als.box HX hg hbox hb
              clear hb hg hbox
              refine hK.out _ _ (Als.z HX) (fun HS => ?_)
              clear hK K
              refine norm_ (a' := ?_) ?_ ?_
              rotate_left
              · show Act.put _ (some 8) _ = _
                simp only [Act.put, List.setIfInBounds_toArray, List.set_cons_zero, List.set_cons_succ, i64_w, i32_w]
                rfl
              with_reducible exact hcont p q _ (by first | exact HX | exact HX.swap)
          · refine box_step (by rfl) (N := 8) rfl (cs := #[.int .i64 0, .int .i64 0, .int .i64 0, .int .i64 0, .int .i64 0, .int .i64 0]) (t := 23) ?_ ?_
            · first | (go_simp; done) | (go_simp; rfl)
            intro p hg w' hbox hb
            replace HX := Als.box HX hg hbox hb
            clear hb hg hbox
            refine hK.out _ _ (Als.z HX) (fun HS => ?_)
            clear hK K
            refine norm_ (a' := ?_) ?_ ?_
            rotate_left
            · show Act.put _ (some 8) _ = _
              simp only [Act.put, List.setIfInBounds_toArray, List.set_cons_zero, List.set_cons_succ, i64_w, i32_w]
              rfl
            refine one_ (i := 5) (N := some 62) #[true, true, true, true, true, true, true, true, false, false] rfl rfl (by kernel_rfl) (by decide) (fun K hK => ?_)
            · refine goes_ Tryd.func20 (by kernel_rfl) rfl #[.agg #[.int .u16 zY, .int .u8 zM, .int .u8 zD, .int .u8 zH, .int .u8 zMi, .int .u8 zS]] (by rfl) rfl rfl (by (try simp only [List.map_toArray, List.map_cons, List.map_nil]); first | done | rfl) ?_
              refine (H20'.out _ HX.t).mono ?_
              rintro e w' ⟨rfl, hb⟩
              refine ⟨_, rfl, ?_⟩
              replace HX := Als.next HX hb
              clear hb
              refine hK.out _ _ (Als.z HX) (fun HS => ?_)
              clear hK K
              refine norm_ (a' := ?_) ?_ ?_
              rotate_left
              · show Act.put _ (some 62) _ = _
                simp only [Act.put, List.setIfInBounds_toArray, List.set_cons_zero, List.set_cons_succ, i64_w, i32_w]
                rfl
              with_reducible exact hcont p q _ (by first | exact HX | exact HX.swap)
      · refine box_step (by rfl) (N := 8) rfl (cs := #[.int .i64 0, .int .i64 0, .int .i64 0, .int .i64 0, .int .i64 0, .int .i64 0]) (t := 23) ?_ ?_
        · first | (go_simp; done) | (go_simp; rfl)
        intro p hg w' hbox hb
        replace HX := Als.box HX hg hbox hb
        clear hb hg hbox
        refine hK.out _ _ (Als.z HX) (fun HS => ?_)
        clear hK K
        refine norm_ (a' := ?_) ?_ ?_
        rotate_left
        · show Act.put _ (some 8) _ = _
          simp only [Act.put, List.setIfInBounds_toArray, List.set_cons_zero, List.set_cons_succ, i64_w, i32_w]
          rfl
        refine two_ (i := 2) (j := 7) (Ni := some 59) (Nj := some 9) #[true, true, true, true, true, false, true, false, false, false] #[true, true, false, true, true, false, true, true, false, false] rfl rfl rfl rfl (by kernel_rfl) (by decide) (by decide) (fun K hK => ?_) (fun K hK => ?_)
        · refine goes_ Tryd.func20 (by kernel_rfl) rfl #[.agg #[.int .u16 xY, .int .u8 xM, .int .u8 xD, .int .u8 xH, .int .u8 xMi, .int .u8 xS]] (by rfl) rfl rfl (by (try simp only [List.map_toArray, List.map_cons, List.map_nil]); first | done | rfl) ?_
          refine (H20.out _ HX.t).mono ?_
          rintro e w' ⟨rfl, hb⟩
          refine ⟨_, rfl, ?_⟩
          replace HX := Als.next HX hb
          clear hb
          refine hK.out _ _ (Als.z HX) (fun HS => ?_)
          clear hK K
          refine norm_ (a' := ?_) ?_ ?_
          rotate_left
          · show Act.put _ (some 59) _ = _
            simp only [Act.put, List.setIfInBounds_toArray, List.set_cons_zero, List.set_cons_succ, i64_w, i32_w]
            rfl
          refine two_ (i := 5) (j := 7) (Ni := some 62) (Nj := some 9) #[true, true, true, true, true, true, true, false, false, false] #[true, true, true, true, true, false, true, true, false, false] rfl rfl rfl rfl (by kernel_rfl) (by decide) (by decide) (fun K hK => ?_) (fun K hK => ?_)
          · refine goes_ Tryd.func20 (by kernel_rfl) rfl #[.agg #[.int .u16 zY, .int .u8 zM, .int .u8 zD, .int .u8 zH, .int .u8 zMi, .int .u8 zS]] (by rfl) rfl rfl (by (try simp only [List.map_toArray, List.map_cons, List.map_nil]); first | done | rfl) ?_
            refine (H20'.out _ HX.t).mono ?_
            rintro e w' ⟨rfl, hb⟩
            refine ⟨_, rfl, ?_⟩
            replace HX := Als.next HX hb
            clear hb
            refine hK.out _ _ (Als.z HX) (fun HS => ?_)
            clear hK K
            refine norm_ (a' := ?_) ?_ ?_
            rotate_left
            · show Act.put _ (some 62) _ = _
              simp only [Act.put, List.setIfInBounds_toArray, List.set_cons_zero, List.set_cons_succ, i64_w, i32_w]
              rfl
            refine one_ (i := 7) (N := some 9) #[true, true, true, true, true, true, true, true, false, false] rfl rfl (by kernel_rfl) (by decide) (fun K hK => ?_)
            · refine box_step (by rfl) (N := 9) rfl (cs := #[.int .i64 0, .int .i64 0, .int .i64 0, .int .i64 0, .int .i64 0, .int .i64 0]) (t := 23) ?_ ?_
              · first | (go_simp; done) | (go_simp; rfl)
              intro q hg w' hbox hb
              replace HX := Als.box HX hg hbox hb
              clear hb hg hbox
              refine hK.out _ _ (Als.z HX) (fun HS => ?_)
              clear hK K
              refine norm_ (a' := ?_) ?_ ?_
              rotate_left
              · show Act.put _ (some 9) _ = _
                simp only [Act.put, List.setIfInBounds_toArray, List.set_cons_zero, List.set_cons_succ, i64_w, i32_w]
                rfl
              with_reducible exact hcont p q _ (by first | exact HX | exact HX.swap)
          · refine box_step (by rfl) (N := 9) rfl (cs := #[.int .i64 0, .int .i64 0, .int .i64 0, .int .i64 0, .int .i64 0, .int .i64 0]) (t := 23) ?_ ?_
            · first | (go_simp; done) | (go_simp; rfl)
            intro q hg w' hbox hb
            replace HX := Als.box HX hg hbox hb
            clear hb hg hbox
            refine hK.out _ _ (Als.z HX) (fun HS => ?_)
            clear hK K
            refine norm_ (a' := ?_) ?_ ?_
            rotate_left
            · show Act.put _ (some 9) _ = _
              simp only [Act.put, List.setIfInBounds_toArray, List.set_cons_zero, List.set_cons_succ, i64_w, i32_w]
              rfl
            refine one_ (i := 5) (N := some 62) #[true, true, true, true, true, true, true, true, false, false] rfl rfl (by kernel_rfl) (by decide) (fun K hK => ?_)
            · refine goes_ Tryd.func20 (by kernel_rfl) rfl #[.agg #[.int .u16 zY, .int .u8 zM, .int .u8 zD, .int .u8 zH, .int .u8 zMi, .int .u8 zS]] (by rfl) rfl rfl (by (try simp only [List.map_toArray, List.map_cons, List.map_nil]); first | done | rfl) ?_
              refine (H20'.out _ HX.t).mono ?_
              rintro e w' ⟨rfl, hb⟩
              refine ⟨_, rfl, ?_⟩
              replace HX := Als.next HX hb
              clear hb
              refine hK.out _ _ (Als.z HX) (fun HS => ?_)
              clear hK K
              refine norm_ (a' := ?_) ?_ ?_
              rotate_left
              · show Act.put _ (some 62) _ = _
                simp only [Act.put, List.setIfInBounds_toArray, List.set_cons_zero, List.set_cons_succ, i64_w, i32_w]
                rfl
              with_reducible exact hcont p q _ (by first | exact HX | exact HX.swap)
        · refine box_step (by rfl) (N := 9) rfl (cs := #[.int .i64 0, .int .i64 0, .int .i64 0, .int .i64 0, .int .i64 0, .int .i64 0]) (t := 23) ?_ ?_
          · first | (go_simp; done) | (go_simp; rfl)
          intro q hg w' hbox hb
          replace HX := Als.box HX hg hbox hb
          clear hb hg hbox
          refine hK.out _ _ (Als.z HX) (fun HS => ?_)
          clear hK K
          refine norm_ (a' := ?_) ?_ ?_
          rotate_left
          · show Act.put _ (some 9) _ = _
            simp only [Act.put, List.setIfInBounds_toArray, List.set_cons_zero, List.set_cons_succ, i64_w, i32_w]
            rfl
          refine one_ (i := 2) (N := some 59) #[true, true, true, true, true, false, true, true, false, false] rfl rfl (by kernel_rfl) (by decide) (fun K hK => ?_)
          · refine goes_ Tryd.func20 (by kernel_rfl) rfl #[.agg #[.int .u16 xY, .int .u8 xM, .int .u8 xD, .int .u8 xH, .int .u8 xMi, .int .u8 xS]] (by rfl) rfl rfl (by (try simp only [List.map_toArray, List.map_cons, List.map_nil]); first | done | rfl) ?_
            refine (H20.out _ HX.t).mono ?_
            rintro e w' ⟨rfl, hb⟩
            refine ⟨_, rfl, ?_⟩
            replace HX := Als.next HX hb
            clear hb
            refine hK.out _ _ (Als.z HX) (fun HS => ?_)
            clear hK K
            refine norm_ (a' := ?_) ?_ ?_
            rotate_left
            · show Act.put _ (some 59) _ = _
              simp only [Act.put, List.setIfInBounds_toArray, List.set_cons_zero, List.set_cons_succ, i64_w, i32_w]
              rfl
            refine one_ (i := 5) (N := some 62) #[true, true, true, true, true, true, true, true, false, false] rfl rfl (by kernel_rfl) (by decide) (fun K hK => ?_)
            · refine goes_ Tryd.func20 (by kernel_rfl) rfl #[.agg #[.int .u16 zY, .int .u8 zM, .int .u8 zD, .int .u8 zH, .int .u8 zMi, .int .u8 zS]] (by rfl) rfl rfl (by (try simp only [List.map_toArray, List.map_cons, List.map_nil]); first | done | rfl) ?_
              refine (H20'.out _ HX.t).mono ?_
              rintro e w' ⟨rfl, hb⟩
              refine ⟨_, rfl, ?_⟩
              replace HX := Als.next HX hb
              clear hb
              refine hK.out _ _ (Als.z HX) (fun HS => ?_)
              clear hK K
              refine norm_ (a' := ?_) ?_ ?_
              rotate_left
              · show Act.put _ (some 62) _ = _
                simp only [Act.put, List.setIfInBounds_toArray, List.set_cons_zero, List.set_cons_succ, i64_w, i32_w]
                rfl
              with_reducible exact hcont p q _ (by first | exact HX | exact HX.swap)
      · refine box_step (by rfl) (N := 9) rfl (cs := #[.int .i64 0, .int .i64 0, .int .i64 0, .int .i64 0, .int .i64 0, .int .i64 0]) (t := 23) ?_ ?_
        · first | (go_simp; done) | (go_simp; rfl)
        intro q hg w' hbox hb
        replace HX := Als.box HX hg hbox hb
        clear hb hg hbox
        refine hK.out _ _ (Als.z HX) (fun HS => ?_)
        clear hK K
        refine norm_ (a' := ?_) ?_ ?_
        rotate_left
        · show Act.put _ (some 9) _ = _
          simp only [Act.put, List.setIfInBounds_toArray, List.set_cons_zero, List.set_cons_succ, i64_w, i32_w]
          rfl
        refine two_ (i := 2) (j := 6) (Ni := some 59) (Nj := some 8) #[true, true, true, true, true, false, false, true, false, false] #[true, true, false, true, true, false, true, true, false, false] rfl rfl rfl rfl (by kernel_rfl) (by decide) (by decide) (fun K hK => ?_) (fun K hK => ?_)
        · refine goes_ Tryd.func20 (by kernel_rfl) rfl #[.agg #[.int .u16 xY, .int .u8 xM, .int .u8 xD, .int .u8 xH, .int .u8 xMi, .int .u8 xS]] (by rfl) rfl rfl (by (try simp only [List.map_toArray, List.map_cons, List.map_nil]); first | done | rfl) ?_
          refine (H20.out _ HX.t).mono ?_
          rintro e w' ⟨rfl, hb⟩
          refine ⟨_, rfl, ?_⟩
          replace HX := Als.next HX hb
          clear hb
          refine hK.out _ _ (Als.z HX) (fun HS => ?_)
          clear hK K
          refine norm_ (a' := ?_) ?_ ?_
          rotate_left
          · show Act.put _ (some 59) _ = _
            simp only [Act.put, List.setIfInBounds_toArray, List.set_cons_zero, List.set_cons_succ, i64_w, i32_w]
            rfl
          refine two_ (i := 5) (j := 6) (Ni := some 62) (Nj := some 8) #[true, true, true, true, true, true, false, true, false, false] #[true, true, true, true, true, false, true, true, false, false] rfl rfl rfl rfl (by kernel_rfl) (by decide) (by decide) (fun K hK => ?_) (fun K hK => ?_)
          · refine goes_ Tryd.func20 (by kernel_rfl) rfl #[.agg #[.int .u16 zY, .int .u8 zM, .int .u8 zD, .int .u8 zH, .int .u8 zMi, .int .u8 zS]] (by rfl) rfl rfl (by (try simp only [List.map_toArray, List.map_cons, List.map_nil]); first | done | rfl) ?_
            refine (H20'.out _ HX.t).mono ?_
            rintro e w' ⟨rfl, hb⟩
            refine ⟨_, rfl, ?_⟩
            replace HX := Als.next HX hb
            clear hb
            refine hK.out _ _ (Als.z HX) (fun HS => ?_)
            clear hK K
            refine norm_ (a' := ?_) ?_ ?_
            rotate_left
            · show Act.put _ (some 62) _ = _
              simp only [Act.put, List.setIfInBounds_toArray, List.set_cons_zero, List.set_cons_succ, i64_w, i32_w]
              rfl
            refine one_ (i := 6) (N := some 8) #[true, true, true, true, true, true, true, true, false, false] rfl rfl (by kernel_rfl) (by decide) (fun K hK => ?_)
            · refine box_step (by rfl) (N := 8) rfl (cs := #[.int .i64 0, .int .i64 0, .int .i64 0, .int .i64 0, .int .i64 0, .int .i64 0]) (t := 23) ?_ ?_
              · first | (go_simp; done) | (go_simp; rfl)
              intro p hg w' hbox hb
              replace HX := Als.box HX hg hbox hb
              clear hb hg hbox
              refine hK.out _ _ (Als.z HX) (fun HS => ?_)
              clear hK K
              refine norm_ (a' := ?_) ?_ ?_
              rotate_left
              · show Act.put _ (some 8) _ = _
                simp only [Act.put, List.setIfInBounds_toArray, List.set_cons_zero, List.set_cons_succ, i64_w, i32_w]
                rfl
              with_reducible exact hcont p q _ (by first | exact HX | exact HX.swap)
          · refine box_step (by rfl) (N := 8) rfl (cs := #[.int .i64 0, .int .i64 0, .int .i64 0, .int .i64 0, .int .i64 0, .int .i64 0]) (t := 23) ?_ ?_
            · first | (go_simp; done) | (go_simp; rfl)
            intro p hg w' hbox hb
            replace HX := Als.box HX hg hbox hb
            clear hb hg hbox
            refine hK.out _ _ (Als.z HX) (fun HS => ?_)
            clear hK K
            refine norm_ (a' := ?_) ?_ ?_
            rotate_left
            · show Act.put _ (some 8) _ = _
              simp only [Act.put, List.setIfInBounds_toArray, List.set_cons_zero, List.set_cons_succ, i64_w, i32_w]
              rfl
            refine one_ (i := 5) (N := some 62) #[true, true, true, true, true, true, true, true, false, false] rfl rfl (by kernel_rfl) (by decide) (fun K hK => ?_)
            · refine goes_ Tryd.func20 (by kernel_rfl) rfl #[.agg #[.int .u16 zY, .int .u8 zM, .int .u8 zD, .int .u8 zH, .int .u8 zMi, .int .u8 zS]] (by rfl) rfl rfl (by (try simp only [List.map_toArray, List.map_cons, List.map_nil]); first | done | rfl) ?_
              refine (H20'.out _ HX.t).mono ?_
              rintro e w' ⟨rfl, hb⟩
              refine ⟨_, rfl, ?_⟩
              replace HX := Als.next HX hb
              clear hb
              refine hK.out _ _ (Als.z HX) (fun HS => ?_)
              clear hK K
              refine norm_ (a' := ?_) ?_ ?_
              rotate_left
              · show Act.put _ (some 62) _ = _
                simp only [Act.put, List.setIfInBounds_toArray, List.set_cons_zero, List.set_cons_succ, i64_w, i32_w]
                rfl
              with_reducible exact hcont p q _ (by first | exact HX | exact HX.swap)
        · refine box_step (by rfl) (N := 8) rfl (cs := #[.int .i64 0, .int .i64 0, .int .i64 0, .int .i64 0, .int .i64 0, .int .i64 0]) (t := 23) ?_ ?_
          · first | (go_simp; done) | (go_simp; rfl)
          intro p hg w' hbox hb
          replace HX := Als.box HX hg hbox hb
          clear hb hg hbox
          refine hK.out _ _ (Als.z HX) (fun HS => ?_)
          clear hK K
          refine norm_ (a' := ?_) ?_ ?_
          rotate_left
          · show Act.put _ (some 8) _ = _
            simp only [Act.put, List.setIfInBounds_toArray, List.set_cons_zero, List.set_cons_succ, i64_w, i32_w]
            rfl
          refine one_ (i := 2) (N := some 59) #[true, true, true, true, true, false, true, true, false, false] rfl rfl (by kernel_rfl) (by decide) (fun K hK => ?_)
          · refine goes_ Tryd.func20 (by kernel_rfl) rfl #[.agg #[.int .u16 xY, .int .u8 xM, .int .u8 xD, .int .u8 xH, .int .u8 xMi, .int .u8 xS]] (by rfl) rfl rfl (by (try simp only [List.map_toArray, List.map_cons, List.map_nil]); first | done | rfl) ?_
            refine (H20.out _ HX.t).mono ?_
            rintro e w' ⟨rfl, hb⟩
            refine ⟨_, rfl, ?_⟩
            replace HX := Als.next HX hb
            clear hb
            refine hK.out _ _ (Als.z HX) (fun HS => ?_)
            clear hK K
            refine norm_ (a' := ?_) ?_ ?_
            rotate_left
            · show Act.put _ (some 59) _ = _
              simp only [Act.put, List.setIfInBounds_toArray, List.set_cons_zero, List.set_cons_succ, i64_w, i32_w]
              rfl
            refine one_ (i := 5) (N := some 62) #[true, true, true, true, true, true, true, true, false, false] rfl rfl (by kernel_rfl) (by decide) (fun K hK => ?_)
            · refine goes_ Tryd.func20 (by kernel_rfl) rfl #[.agg #[.int .u16 zY, .int .u8 zM, .int .u8 zD, .int .u8 zH, .int .u8 zMi, .int .u8 zS]] (by rfl) rfl rfl (by (try simp only [List.map_toArray, List.map_cons, List.map_nil]); first | done | rfl) ?_
              refine (H20'.out _ HX.t).mono ?_
              rintro e w' ⟨rfl, hb⟩
              refine ⟨_, rfl, ?_⟩
              replace HX := Als.next HX hb
              clear hb
              refine hK.out _ _ (Als.z HX) (fun HS => ?_)
              clear hK K
              refine norm_ (a' := ?_) ?_ ?_
              rotate_left
              · show Act.put _ (some 62) _ = _
                simp only [Act.put, List.setIfInBounds_toArray, List.set_cons_zero, List.set_cons_succ, i64_w, i32_w]
                rfl
              with_reducible exact hcont p q _ (by first | exact HX | exact HX.swap)
      rintro ⟨p, q⟩ W HX
      simp only [putAll, Act.put, List.setIfInBounds_toArray, List.set_cons_zero, List.set_cons_succ]
      have hp := (HX.a p (by simp)).2
      have hq := (HX.a q (by simp)).2
      have hne : q ≠ p := by have := HX.n; simpa using this
      have hps := (HX.a p (by simp)).1
      have hqs := (HX.a q (by simp)).1
      refine last_ (i := 8) (N := none) #[true, true, true, true, true, true, true, true, true, false] rfl rfl (by kernel_rfl) (by decide) (fun K hK => ?_)
      rw [if_pos (by rfl)]
      refine wp_store_row 23 _ _ rfl p #[.int .i64 p0, .int .i64 p1, .int .i64 p2, .int .i64 p3, .int .i64 p4, .int .i64 p5] (by rfl) (by rfl) 23 ZT6 hp (by kernel_rfl) rfl (one6 _ _ _ _ _ _) ?_
      refine hK.out _ _ ?_
      clear hK K
      refine norm_ (a' := ?_) ?_ ?_
      rotate_left
      · show Act.put _ none _ = _
        rfl
      refine last_ (i := 9) (N := none) #[true, true, true, true, true, true, true, true, true, true] rfl rfl (by kernel_rfl) (by decide) (fun K hK => ?_)
      rw [if_pos (by rfl)]
      refine wp_store_row 23 _ _ rfl q #[.int .i64 q0, .int .i64 q1, .int .i64 q2, .int .i64 q3, .int .i64 q4, .int .i64 q5] (by rfl) (by rfl) 23 ZT6 (by rw [setRow_other _ _ _ _ hne]; exact hq) (by kernel_rfl) rfl (one6 _ _ _ _ _ _) ?_
      refine hK.out _ _ ?_
      clear hK K
      refine norm_ (a' := ?_) ?_ ?_
      rotate_left
      · show Act.put _ none _ = _
        rfl
      refine done_ (by kernel_rfl) ?_
      have hfin : Two #[.int .i64 p0, .int .i64 p1, .int .i64 p2, .int .i64 p3, .int .i64 p4, .int .i64 p5] #[.int .i64 q0, .int .i64 q1, .int .i64 q2, .int .i64 q3, .int .i64 q4, .int .i64 q5] p q w _ := ⟨(HX.x.1.setRow hT.two (by omega) #[.int .i64 p0, .int .i64 p1, .int .i64 p2, .int .i64 p3, .int .i64 p4, .int .i64 p5]).setRow hT.two (by omega) #[.int .i64 q0, .int .i64 q1, .int .i64 q2, .int .i64 q3, .int .i64 q4, .int .i64 q5], (setRow_other _ q p _ (fun e => hne e.symm)).trans (setRow_heap _ p _ _ _ _ hp), setRow_heap _ q _ _ _ _ ((setRow_other _ p q _ hne).trans hq)⟩
      go_wp2_with fail
      go_meet
      exact ⟨p, q, rfl, rfl, hfin⟩
    case rest =>
      obtain ⟨p, q, rfl, rfl, HX0⟩ := hcut
      have HX := HX0.out
      clear HX0
      rcases HR.out with ⟨rfl, hmn, l1⟩ | ⟨rfl, rfl, l1, l2⟩ | ⟨rfl, hmn, l1, l2⟩
      all_goals
        go_upto_region 5 with fail
        refine start_ (n := 6) (S := fun W => W.cell? ⟨p, 0, none⟩ = some (.int .i64 p0) ∧ W.cell? ⟨p, 1, none⟩ = some (.int .i64 p1) ∧ W.cell? ⟨p, 2, none⟩ = some (.int .i64 p2) ∧ W.cell? ⟨p, 3, none⟩ = some (.int .i64 p3) ∧ W.cell? ⟨p, 4, none⟩ = some (.int .i64 p4) ∧ W.cell? ⟨p, 5, none⟩ = some (.int .i64 p5) ∧ W.cell? ⟨q, 0, none⟩ = some (.int .i64 q0) ∧ W.cell? ⟨q, 1, none⟩ = some (.int .i64 q1) ∧ W.cell? ⟨q, 2, none⟩ = some (.int .i64 q2) ∧ W.cell? ⟨q, 3, none⟩ = some (.int .i64 q3) ∧ W.cell? ⟨q, 4, none⟩ = some (.int .i64 q4) ∧ W.cell? ⟨q, 5, none⟩ = some (.int .i64 q5)) (ds := []) #[false, false, false, false, false, false] (by kernel_rfl) rfl rfl (Two.z (Two.drew HX)) (fun HS => ?_)
        replace HX := Two.drew HX
        refine take_ (i := 0) (N := some 63) (v := ?_) (a' := ?_) #[true, false, false, false, false, false] rfl rfl (by kernel_rfl) (fun _ _ _ h => h) (Or.inl ⟨by rfl, ?_⟩) (by assumption) ?_ ?_
        rotate_left
        · rintro W' ⟨s0, s1, s2, s3, s4, s5, s6, s7, s8, s9, s10, s11⟩
          go_simp
          with_reducible rfl
        rotate_left
        · simp only [Act.put, List.setIfInBounds_toArray, List.set_cons_zero, List.set_cons_succ, i64_w, i32_w]
          rfl
        refine take_ (i := 2) (N := some 65) (v := ?_) (a' := ?_) #[true, false, true, false, false, false] rfl rfl (by kernel_rfl) (fun _ _ _ h => h) (Or.inl ⟨by rfl, ?_⟩) (by assumption) ?_ ?_
        rotate_left
        · rintro W' ⟨s0, s1, s2, s3, s4, s5, s6, s7, s8, s9, s10, s11⟩
          go_simp
          with_reducible rfl
        rotate_left
        · simp only [Act.put, List.setIfInBounds_toArray, List.set_cons_zero, List.set_cons_succ, i64_w, i32_w]
          rfl
        refine one_ (i := 1) (N := some 64) #[true, true, true, false, false, false] rfl rfl (by kernel_rfl) (by decide) (fun K hK => ?_)
        refine goes_ Tryd.func18 (by kernel_rfl) rfl #[.agg #[.int .i64 p0, .int .i64 p1, .int .i64 p2, .int .i64 p3, .int .i64 p4, .int .i64 p5]] (by rfl) rfl rfl (by (try simp only [List.map_toArray, List.map_cons, List.map_nil]); first | done | rfl) ?_
        refine (H18.out _ HX.t).mono ?_
        rintro e w' ⟨rfl, hb⟩
        refine ⟨_, rfl, ?_⟩
        replace HX := Two.next HX hb
        clear hb
        refine hK.out _ _ (Two.z HX) (fun HS => ?_)
        clear hK K
        refine norm_ (a' := ?_) ?_ ?_
        rotate_left
        · show Act.put _ (some 64) _ = _
          simp only [Act.put, List.setIfInBounds_toArray, List.set_cons_zero, List.set_cons_succ, i64_w, i32_w]
          rfl
        refine one_ (i := 3) (N := some 66) #[true, true, true, true, false, false] rfl rfl (by kernel_rfl) (by decide) (fun K hK => ?_)
        refine goes_ Tryd.func18 (by kernel_rfl) rfl #[.agg #[.int .i64 q0, .int .i64 q1, .int .i64 q2, .int .i64 q3, .int .i64 q4, .int .i64 q5]] (by rfl) rfl rfl (by (try simp only [List.map_toArray, List.map_cons, List.map_nil]); first | done | rfl) ?_
        refine (H18'.out _ HX.t).mono ?_
        rintro e w' ⟨rfl, hb⟩
        refine ⟨_, rfl, ?_⟩
        replace HX := Two.next HX hb
        clear hb
        refine hK.out _ _ (Two.z HX) (fun HS => ?_)
        clear hK K
        refine norm_ (a' := ?_) ?_ ?_
        rotate_left
        · show Act.put _ (some 66) _ = _
          simp only [Act.put, List.setIfInBounds_toArray, List.set_cons_zero, List.set_cons_succ, i64_w, i32_w]
          rfl
        refine take_ (i := 4) (N := some 10) (v := ?_) (a' := ?_) #[true, true, true, true, true, false] rfl rfl (by kernel_rfl) (fun _ _ _ h => h) (Or.inl ⟨by rfl, ?_⟩) (by assumption) ?_ ?_
        rotate_left
        · rintro W' ⟨s0, s1, s2, s3, s4, s5, s6, s7, s8, s9, s10, s11⟩
          go_simp
          with_reducible rfl
        rotate_left
        · simp only [Act.put, List.setIfInBounds_toArray, List.set_cons_zero, List.set_cons_succ, i64_w, i32_w]
          rfl
        refine take_ (i := 5) (N := some 11) (v := ?_) (a' := ?_) #[true, true, true, true, true, true] rfl rfl (by kernel_rfl) (fun _ _ _ h => h) (Or.inl ⟨by rfl, ?_⟩) (by assumption) ?_ ?_
        rotate_left
        · rintro W' ⟨s0, s1, s2, s3, s4, s5, s6, s7, s8, s9, s10, s11⟩
          go_simp
          with_reducible rfl
        rotate_left
        · simp only [Act.put, List.setIfInBounds_toArray, List.set_cons_zero, List.set_cons_succ, i64_w, i32_w]
          rfl
        refine done_ (by kernel_rfl) ?_
        go_upto_region 6 with fail
        refine start_ (n := 6) (S := fun W => W.cell? ⟨p, 0, none⟩ = some (.int .i64 p0) ∧ W.cell? ⟨p, 1, none⟩ = some (.int .i64 p1) ∧ W.cell? ⟨p, 2, none⟩ = some (.int .i64 p2) ∧ W.cell? ⟨p, 3, none⟩ = some (.int .i64 p3) ∧ W.cell? ⟨p, 4, none⟩ = some (.int .i64 p4) ∧ W.cell? ⟨p, 5, none⟩ = some (.int .i64 p5) ∧ W.cell? ⟨q, 0, none⟩ = some (.int .i64 q0) ∧ W.cell? ⟨q, 1, none⟩ = some (.int .i64 q1) ∧ W.cell? ⟨q, 2, none⟩ = some (.int .i64 q2) ∧ W.cell? ⟨q, 3, none⟩ = some (.int .i64 q3) ∧ W.cell? ⟨q, 4, none⟩ = some (.int .i64 q4) ∧ W.cell? ⟨q, 5, none⟩ = some (.int .i64 q5)) (ds := []) #[false, false, false, false, false, false] (by kernel_rfl) rfl rfl (Two.z (Two.drew HX)) (fun HS => ?_)
        replace HX := Two.drew HX
        refine take_ (i := 0) (N := some 67) (v := ?_) (a' := ?_) #[true, false, false, false, false, false] rfl rfl (by kernel_rfl) (fun _ _ _ h => h) (Or.inl ⟨by rfl, ?_⟩) (by assumption) ?_ ?_
        rotate_left
        · rintro W' ⟨s0, s1, s2, s3, s4, s5, s6, s7, s8, s9, s10, s11⟩
          go_simp
          with_reducible rfl
        rotate_left
        · simp only [Act.put, List.setIfInBounds_toArray, List.set_cons_zero, List.set_cons_succ, i64_w, i32_w]
          rfl
        refine take_ (i := 2) (N := some 69) (v := ?_) (a' := ?_) #[true, false, true, false, false, false] rfl rfl (by kernel_rfl) (fun _ _ _ h => h) (Or.inl ⟨by rfl, ?_⟩) (by assumption) ?_ ?_
        rotate_left
        · rintro W' ⟨s0, s1, s2, s3, s4, s5, s6, s7, s8, s9, s10, s11⟩
          go_simp
          with_reducible rfl
        rotate_left
        · simp only [Act.put, List.setIfInBounds_toArray, List.set_cons_zero, List.set_cons_succ, i64_w, i32_w]
          rfl
        refine one_ (i := 1) (N := some 68) #[true, true, true, false, false, false] rfl rfl (by kernel_rfl) (by decide) (fun K hK => ?_)
        refine goes_ Tryd.func19 (by kernel_rfl) rfl #[.agg #[.int .i64 p0, .int .i64 p1, .int .i64 p2, .int .i64 p3, .int .i64 p4, .int .i64 p5]] (by rfl) rfl rfl (by (try simp only [List.map_toArray, List.map_cons, List.map_nil]); first | done | rfl) ?_
        refine (H19.out _ HX.t).mono ?_
        rintro e w' ⟨rfl, hb⟩
        refine ⟨_, rfl, ?_⟩
        replace HX := Two.next HX hb
        clear hb
        refine hK.out _ _ (Two.z HX) (fun HS => ?_)
        clear hK K
        refine norm_ (a' := ?_) ?_ ?_
        rotate_left
        · show Act.put _ (some 68) _ = _
          simp only [Act.put, List.setIfInBounds_toArray, List.set_cons_zero, List.set_cons_succ, i64_w, i32_w]
          rfl
        refine one_ (i := 3) (N := some 70) #[true, true, true, true, false, false] rfl rfl (by kernel_rfl) (by decide) (fun K hK => ?_)
        refine goes_ Tryd.func19 (by kernel_rfl) rfl #[.agg #[.int .i64 q0, .int .i64 q1, .int .i64 q2, .int .i64 q3, .int .i64 q4, .int .i64 q5]] (by rfl) rfl rfl (by (try simp only [List.map_toArray, List.map_cons, List.map_nil]); first | done | rfl) ?_
        refine (H19'.out _ HX.t).mono ?_
        rintro e w' ⟨rfl, hb⟩
        refine ⟨_, rfl, ?_⟩
        replace HX := Two.next HX hb
        clear hb
        refine hK.out _ _ (Two.z HX) (fun HS => ?_)
        clear hK K
        refine norm_ (a' := ?_) ?_ ?_
        rotate_left
        · show Act.put _ (some 70) _ = _
          simp only [Act.put, List.setIfInBounds_toArray, List.set_cons_zero, List.set_cons_succ, i64_w, i32_w]
          rfl
        refine take_ (i := 4) (N := some 12) (v := ?_) (a' := ?_) #[true, true, true, true, true, false] rfl rfl (by kernel_rfl) (fun _ _ _ h => h) (Or.inl ⟨by rfl, ?_⟩) (by assumption) ?_ ?_
        rotate_left
        · rintro W' ⟨s0, s1, s2, s3, s4, s5, s6, s7, s8, s9, s10, s11⟩
          go_simp
          with_reducible rfl
        rotate_left
        · simp only [Act.put, List.setIfInBounds_toArray, List.set_cons_zero, List.set_cons_succ, i64_w, i32_w]
          rfl
        refine take_ (i := 5) (N := some 13) (v := ?_) (a' := ?_) #[true, true, true, true, true, true] rfl rfl (by kernel_rfl) (fun _ _ _ h => h) (Or.inl ⟨by rfl, ?_⟩) (by assumption) ?_ ?_
        rotate_left
        · rintro W' ⟨s0, s1, s2, s3, s4, s5, s6, s7, s8, s9, s10, s11⟩
          go_simp
          with_reducible rfl
        rotate_left
        · simp only [Act.put, List.setIfInBounds_toArray, List.set_cons_zero, List.set_cons_succ, i64_w, i32_w]
          rfl
        refine done_ (by kernel_rfl) ?_
        go_upto_region 8 with fail
        refine start_ (n := 5) (S := fun W => W.cell? ⟨p, 0, none⟩ = some (.int .i64 p0) ∧ W.cell? ⟨p, 1, none⟩ = some (.int .i64 p1) ∧ W.cell? ⟨p, 2, none⟩ = some (.int .i64 p2) ∧ W.cell? ⟨p, 3, none⟩ = some (.int .i64 p3) ∧ W.cell? ⟨p, 4, none⟩ = some (.int .i64 p4) ∧ W.cell? ⟨p, 5, none⟩ = some (.int .i64 p5) ∧ W.cell? ⟨q, 0, none⟩ = some (.int .i64 q0) ∧ W.cell? ⟨q, 1, none⟩ = some (.int .i64 q1) ∧ W.cell? ⟨q, 2, none⟩ = some (.int .i64 q2) ∧ W.cell? ⟨q, 3, none⟩ = some (.int .i64 q3) ∧ W.cell? ⟨q, 4, none⟩ = some (.int .i64 q4) ∧ W.cell? ⟨q, 5, none⟩ = some (.int .i64 q5)) (ds := []) #[false, false, false, false, false] (by kernel_rfl) rfl rfl (Two.z (Two.drew HX)) (fun HS => ?_)
        replace HX := Two.drew HX
        refine take_ (i := 0) (N := some 71) (v := ?_) (a' := ?_) #[true, false, false, false, false] rfl rfl (by kernel_rfl) (fun _ _ _ h => h) (Or.inl ⟨by rfl, ?_⟩) (by assumption) ?_ ?_
        rotate_left
        · rintro W' ⟨s0, s1, s2, s3, s4, s5, s6, s7, s8, s9, s10, s11⟩
          go_simp
          with_reducible rfl
        rotate_left
        · simp only [Act.put, List.setIfInBounds_toArray, List.set_cons_zero, List.set_cons_succ, i64_w, i32_w]
          rfl
        refine take_ (i := 2) (N := some 73) (v := ?_) (a' := ?_) #[true, false, true, false, false] rfl rfl (by kernel_rfl) (fun _ _ _ h => h) (Or.inl ⟨by rfl, ?_⟩) (by assumption) ?_ ?_
        rotate_left
        · rintro W' ⟨s0, s1, s2, s3, s4, s5, s6, s7, s8, s9, s10, s11⟩
          go_simp
          with_reducible rfl
        rotate_left
        · simp only [Act.put, List.setIfInBounds_toArray, List.set_cons_zero, List.set_cons_succ, i64_w, i32_w]
          rfl
        refine one_ (i := 1) (N := some 72) #[true, true, true, false, false] rfl rfl (by kernel_rfl) (by decide) (fun K hK => ?_)
        refine goes_ Tryd.func29 (by kernel_rfl) rfl #[.agg #[.int .i64 p0, .int .i64 p1, .int .i64 p2, .int .i64 p3, .int .i64 p4, .int .i64 p5]] (by rfl) rfl rfl (by (try simp only [List.map_toArray, List.map_cons, List.map_nil]); first | done | rfl) ?_
        refine (H29.out _).mono ?_
        rintro e w' ⟨rfl, hb⟩
        refine ⟨_, rfl, ?_⟩
        replace HX := Two.next HX hb
        clear hb
        refine hK.out _ _ (Two.z HX) (fun HS => ?_)
        clear hK K
        refine norm_ (a' := ?_) ?_ ?_
        rotate_left
        · show Act.put _ (some 72) _ = _
          simp only [Act.put, List.setIfInBounds_toArray, List.set_cons_zero, List.set_cons_succ, i64_w, i32_w]
          rfl
        refine one_ (i := 3) (N := some 74) #[true, true, true, true, false] rfl rfl (by kernel_rfl) (by decide) (fun K hK => ?_)
        refine goes_ Tryd.func29 (by kernel_rfl) rfl #[.agg #[.int .i64 q0, .int .i64 q1, .int .i64 q2, .int .i64 q3, .int .i64 q4, .int .i64 q5]] (by rfl) rfl rfl (by (try simp only [List.map_toArray, List.map_cons, List.map_nil]); first | done | rfl) ?_
        refine (H29'.out _).mono ?_
        rintro e w' ⟨rfl, hb⟩
        refine ⟨_, rfl, ?_⟩
        replace HX := Two.next HX hb
        clear hb
        refine hK.out _ _ (Two.z HX) (fun HS => ?_)
        clear hK K
        refine norm_ (a' := ?_) ?_ ?_
        rotate_left
        · show Act.put _ (some 74) _ = _
          simp only [Act.put, List.setIfInBounds_toArray, List.set_cons_zero, List.set_cons_succ, i64_w, i32_w]
          rfl
        refine take_ (i := 4) (N := some 75) (v := ?_) (a' := ?_) #[true, true, true, true, true] rfl rfl (by kernel_rfl) (fun _ _ _ h => h) (Or.inl ⟨by rfl, ?_⟩) (by assumption) ?_ ?_
        rotate_left
        · rintro W' ⟨s0, s1, s2, s3, s4, s5, s6, s7, s8, s9, s10, s11⟩
          go_simp
          with_reducible rfl
        rotate_left
        · simp only [Act.put, List.setIfInBounds_toArray, List.set_cons_zero, List.set_cons_succ, i64_w, i32_w]
          rfl
        refine done_ (by kernel_rfl) ?_
        go_upto_region 10 with fail
        refine start_ (n := 5) (S := fun W => W.cell? ⟨p, 0, none⟩ = some (.int .i64 p0) ∧ W.cell? ⟨p, 1, none⟩ = some (.int .i64 p1) ∧ W.cell? ⟨p, 2, none⟩ = some (.int .i64 p2) ∧ W.cell? ⟨p, 3, none⟩ = some (.int .i64 p3) ∧ W.cell? ⟨p, 4, none⟩ = some (.int .i64 p4) ∧ W.cell? ⟨p, 5, none⟩ = some (.int .i64 p5) ∧ W.cell? ⟨q, 0, none⟩ = some (.int .i64 q0) ∧ W.cell? ⟨q, 1, none⟩ = some (.int .i64 q1) ∧ W.cell? ⟨q, 2, none⟩ = some (.int .i64 q2) ∧ W.cell? ⟨q, 3, none⟩ = some (.int .i64 q3) ∧ W.cell? ⟨q, 4, none⟩ = some (.int .i64 q4) ∧ W.cell? ⟨q, 5, none⟩ = some (.int .i64 q5)) (ds := []) #[false, false, false, false, false] (by kernel_rfl) rfl rfl (Two.z (Two.drew HX)) (fun HS => ?_)
        replace HX := Two.drew HX
        refine take_ (i := 0) (N := some 76) (v := ?_) (a' := ?_) #[true, false, false, false, false] rfl rfl (by kernel_rfl) (fun _ _ _ h => h) (Or.inl ⟨by rfl, ?_⟩) (by assumption) ?_ ?_
        rotate_left
        · rintro W' ⟨s0, s1, s2, s3, s4, s5, s6, s7, s8, s9, s10, s11⟩
          go_simp
          with_reducible rfl
        rotate_left
        · simp only [Act.put, List.setIfInBounds_toArray, List.set_cons_zero, List.set_cons_succ, i64_w, i32_w]
          rfl
        refine take_ (i := 2) (N := some 78) (v := ?_) (a' := ?_) #[true, false, true, false, false] rfl rfl (by kernel_rfl) (fun _ _ _ h => h) (Or.inl ⟨by rfl, ?_⟩) (by assumption) ?_ ?_
        rotate_left
        · rintro W' ⟨s0, s1, s2, s3, s4, s5, s6, s7, s8, s9, s10, s11⟩
          go_simp
          with_reducible rfl
        rotate_left
        · simp only [Act.put, List.setIfInBounds_toArray, List.set_cons_zero, List.set_cons_succ, i64_w, i32_w]
          rfl
        refine one_ (i := 1) (N := some 77) #[true, true, true, false, false] rfl rfl (by kernel_rfl) (by decide) (fun K hK => ?_)
        refine goes_ Tryd.func29 (by kernel_rfl) rfl #[.agg #[.int .i64 p0, .int .i64 p1, .int .i64 p2, .int .i64 p3, .int .i64 p4, .int .i64 p5]] (by rfl) rfl rfl (by (try simp only [List.map_toArray, List.map_cons, List.map_nil]); first | done | rfl) ?_
        refine (H29.out _).mono ?_
        rintro e w' ⟨rfl, hb⟩
        refine ⟨_, rfl, ?_⟩
        replace HX := Two.next HX hb
        clear hb
        refine hK.out _ _ (Two.z HX) (fun HS => ?_)
        clear hK K
        refine norm_ (a' := ?_) ?_ ?_
        rotate_left
        · show Act.put _ (some 77) _ = _
          simp only [Act.put, List.setIfInBounds_toArray, List.set_cons_zero, List.set_cons_succ, i64_w, i32_w]
          rfl
        refine one_ (i := 3) (N := some 79) #[true, true, true, true, false] rfl rfl (by kernel_rfl) (by decide) (fun K hK => ?_)
        refine goes_ Tryd.func29 (by kernel_rfl) rfl #[.agg #[.int .i64 q0, .int .i64 q1, .int .i64 q2, .int .i64 q3, .int .i64 q4, .int .i64 q5]] (by rfl) rfl rfl (by (try simp only [List.map_toArray, List.map_cons, List.map_nil]); first | done | rfl) ?_
        refine (H29'.out _).mono ?_
        rintro e w' ⟨rfl, hb⟩
        refine ⟨_, rfl, ?_⟩
        replace HX := Two.next HX hb
        clear hb
        refine hK.out _ _ (Two.z HX) (fun HS => ?_)
        clear hK K
        refine norm_ (a' := ?_) ?_ ?_
        rotate_left
        · show Act.put _ (some 79) _ = _
          simp only [Act.put, List.setIfInBounds_toArray, List.set_cons_zero, List.set_cons_succ, i64_w, i32_w]
          rfl
        refine take_ (i := 4) (N := some 80) (v := ?_) (a' := ?_) #[true, true, true, true, true] rfl rfl (by kernel_rfl) (fun _ _ _ h => h) (Or.inl ⟨by rfl, ?_⟩) (by assumption) ?_ ?_
        rotate_left
        · rintro W' ⟨s0, s1, s2, s3, s4, s5, s6, s7, s8, s9, s10, s11⟩
          go_simp
          with_reducible rfl
        rotate_left
        · simp only [Act.put, List.setIfInBounds_toArray, List.set_cons_zero, List.set_cons_succ, i64_w, i32_w]
          rfl
        refine done_ (by kernel_rfl) ?_
        obtain ⟨x0, x1, x2, x3, x4, x5⟩ := six HX.2.1
        obtain ⟨y0, y1, y2, y3, y4, y5⟩ := six HX.2.2
        go_wp2_with (first | (go_at_call 31; refine (H31r.out _ (Two.t (by assumption))).mono ?_; rintro e w' ⟨rfl, hb⟩; have hx := Two.next (by assumption) hb; obtain ⟨x0, x1, x2, x3, x4, x5⟩ := six hx.2.1; obtain ⟨y0, y1, y2, y3, y4, y5⟩ := six hx.2.2; clear hb) | (go_at_call 16; refine (lives_yes _ (Two.t (by assumption))).mono ?_; rintro e w' ⟨rfl, hb⟩; have hx := Two.next (by assumption) hb))
        go_ret
        refine ⟨?_, hx.b⟩
        first | rfl | (simp; done) | (simp; omega)
end Go.Proofs.YtbncjjobdipmgaaDoor
