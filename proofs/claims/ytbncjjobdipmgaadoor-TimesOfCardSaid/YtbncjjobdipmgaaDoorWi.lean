/- Chapter 10 (times): the contract of Of, where an element's bytes are read. -/
import Derived.Test.YtbncjjobdipmgaaDoorWh
namespace Go.Proofs.YtbncjjobdipmgaaDoor
open Go.RowKit Pl

theorem rdr_len (many : Nat) (l : List UInt8) : (rdr many l).length ≤ l.length := by
  unfold rdr
  split
  · exact Nat.le_refl _
  · simp
/-- What is left behind k numbers of two digits; the k-th number. -/
def lk (l0 : List UInt8) : Nat → List UInt8
  | 0 => l0
  | k + 1 => rdr 2 (lk l0 k)
def vk (l0 : List UInt8) (k : Nat) : Int := rdv 2 (lk l0 k)
theorem lk_len (l0 : List UInt8) (k : Nat) : (lk l0 k).length ≤ l0.length := by
  induction k with
  | zero => exact Nat.le_refl _
  | succ k ih => exact Nat.le_trans (rdr_len 2 _) ih
def i64 (n : Int) : Value := .int .i64 n
/-- The time's cells behind k numbers. -/
def tc (Y : Int) (l0 : List UInt8) : Nat → Array Value
  | 0 => #[.int .i64 Y, .int .i64 0, .int .i64 0, .int .i64 0, .int .i64 0, .int .i64 0]
  | 1 => #[.int .i64 Y, .int .i64 (vk l0 0), .int .i64 0, .int .i64 0, .int .i64 0, .int .i64 0]
  | 2 => #[.int .i64 Y, .int .i64 (vk l0 0), .int .i64 (vk l0 1), .int .i64 0, .int .i64 0, .int .i64 0]
  | 3 => #[.int .i64 Y, .int .i64 (vk l0 0), .int .i64 (vk l0 1), .int .i64 (vk l0 2), .int .i64 0, .int .i64 0]
  | 4 => #[.int .i64 Y, .int .i64 (vk l0 0), .int .i64 (vk l0 1), .int .i64 (vk l0 2), .int .i64 (vk l0 3), .int .i64 0]
  | _ => #[.int .i64 Y, .int .i64 (vk l0 0), .int .i64 (vk l0 1), .int .i64 (vk l0 2), .int .i64 (vk l0 3), .int .i64 (vk l0 4)]

/-- What stands in memory while Of reads: the element's box (block n), the result (n+1), the string (n+2), the time (n+3). -/
structure OfI (w : World) (ev tv : Array Value) (s : List UInt8) (wr : World) : Prop where
  e : wr.heap[w.heap.size]? = some (.cells ev 37 (0, 0))
  r : wr.heap[w.heap.size + 1]? = some (.cells #[.int .i64 0, .int .i64 0, .int .i64 0, .int .i64 0, .int .i64 0, .int .i64 0] 23 (0, 0))
  b : wr.heap[w.heap.size + 1 + 1]? = some (.cells #[.string ⟨s.toArray⟩] 9 (0, 0))
  t : wr.heap[w.heap.size + 1 + 1 + 1]? = some (.cells tv 23 (0, 0))
  st : St w wr
  two : 1 < w.heap.size
theorem OfI.clos {w wr w' : World} {ev tv : Array Value} {s s' : List UInt8} {v : Value} {e : Ending} (h : OfI w ev tv s wr) (hc : ClosP (w.heap.size + 1 + 1) v ⟨s'.toArray⟩ wr e w') : OfI w ev tv s' w' :=
  ⟨blk_grown h.e hc.2.2 (by omega), blk_grown h.r hc.2.2 (by omega), hc.2.1, blk_grown h.t hc.2.2 (by omega), h.st.grown hc.2.2 (by omega) h.two, h.two⟩
theorem OfI.setT {w wr : World} {ev tv : Array Value} {s : List UInt8} (h : OfI w ev tv s wr) (j : Nat) (u : Value) : OfI w ev (tv.setIfInBounds j u) s (wr.setCell ⟨w.heap.size + 1 + 1 + 1, j, none⟩ u) :=
  ⟨blk_far h.e (by show _ ≠ _ + 1 + 1 + 1; omega) u, blk_far h.r (by show _ ≠ _ + 1 + 1 + 1; omega) u, blk_far h.b (by show _ ≠ _ + 1 + 1 + 1; omega) u, blk_set h.t j u, h.st.setCell (by show _ ≤ _ + 1 + 1 + 1; omega) h.two u, h.two⟩
theorem OfI.alloc {w wr : World} {ev tv : Array Value} {s : List UInt8} (h : OfI w ev tv s wr) (o : Obj) : OfI w ev tv s (wr.alloc o) :=
  ⟨blk_alloc h.e o, blk_alloc h.r o, blk_alloc h.b o, blk_alloc h.t o, h.st.alloc o, h.two⟩
theorem OfI.below {w wr w' : World} {ev tv : Array Value} {s : List UInt8} (h : OfI w ev tv s wr) (hb : Below wr.heap.size wr w') : OfI w ev tv s w' :=
  ⟨blk_below h.e hb, blk_below h.r hb, blk_below h.b hb, blk_below h.t hb, h.st.next hb, h.two⟩
theorem OfI.start (w : World) (hT : Tabs w) (ev : Array Value) (s : List UInt8) :
    OfI w ev #[.int .i64 0, .int .i64 0, .int .i64 0, .int .i64 0, .int .i64 0, .int .i64 0] s ((((w.alloc (.cells ev 37)).alloc (.cells #[.int .i64 0, .int .i64 0, .int .i64 0, .int .i64 0, .int .i64 0, .int .i64 0] 23)).alloc (.cells #[.string ⟨s.toArray⟩] 9)).alloc (.cells #[.int .i64 0, .int .i64 0, .int .i64 0, .int .i64 0, .int .i64 0, .int .i64 0] 23)) := by
  refine ⟨?_, ?_, ?_, ?_, ((((St.refl hT).alloc _).alloc _).alloc _).alloc _, hT.two⟩
  · exact blk_alloc (blk_alloc (blk_alloc (blk_new _ _) _) _) _
  · have := blk_alloc (blk_alloc (blk_new (w.alloc (.cells ev 37)) (.cells #[.int .i64 0, .int .i64 0, .int .i64 0, .int .i64 0, .int .i64 0, .int .i64 0] 23)) (.cells #[.string ⟨s.toArray⟩] 9)) (.cells #[.int .i64 0, .int .i64 0, .int .i64 0, .int .i64 0, .int .i64 0, .int .i64 0] 23)
    simpa using this
  · have := blk_alloc (blk_new ((w.alloc (.cells ev 37)).alloc (.cells #[.int .i64 0, .int .i64 0, .int .i64 0, .int .i64 0, .int .i64 0, .int .i64 0] 23)) (.cells #[.string ⟨s.toArray⟩] 9)) (.cells #[.int .i64 0, .int .i64 0, .int .i64 0, .int .i64 0, .int .i64 0, .int .i64 0] 23)
    simpa using this
  · have := blk_new (((w.alloc (.cells ev 37)).alloc (.cells #[.int .i64 0, .int .i64 0, .int .i64 0, .int .i64 0, .int .i64 0, .int .i64 0] 23)).alloc (.cells #[.string ⟨s.toArray⟩] 9)) (.cells #[.int .i64 0, .int .i64 0, .int .i64 0, .int .i64 0, .int .i64 0, .int .i64 0] 23)
    simpa using this
def ptrs (n : Nat) : Array Value := #[.pointer (some ⟨n + 1 + 1 + 1, 1, none⟩), .pointer (some ⟨n + 1 + 1 + 1, 2, none⟩), .pointer (some ⟨n + 1 + 1 + 1, 3, none⟩), .pointer (some ⟨n + 1 + 1 + 1, 4, none⟩), .pointer (some ⟨n + 1 + 1 + 1, 5, none⟩)]
/-- .. and the slice of pointers into the time (block S). -/
structure OfS (w : World) (ev tv : Array Value) (s : List UInt8) (S : Nat) (wr : World) : Prop where
  i : OfI w ev tv s wr
  s : wr.heap[S]? = some (.cells (ptrs w.heap.size) 74 (0, 0))
  lt : w.heap.size + 1 + 1 + 1 < S
theorem OfS.clos {w wr w' : World} {ev tv : Array Value} {s s' : List UInt8} {S : Nat} {v : Value} {e : Ending} (h : OfS w ev tv s S wr) (hc : ClosP (w.heap.size + 1 + 1) v ⟨s'.toArray⟩ wr e w') : OfS w ev tv s' S w' :=
  ⟨h.i.clos hc, blk_grown h.s hc.2.2 (by have := h.lt; omega), h.lt⟩
theorem OfS.setT {w wr : World} {ev tv : Array Value} {s : List UInt8} {S : Nat} (h : OfS w ev tv s S wr) (j : Nat) (u : Value) : OfS w ev (tv.setIfInBounds j u) s S (wr.setCell ⟨w.heap.size + 1 + 1 + 1, j, none⟩ u) :=
  ⟨h.i.setT j u, blk_far h.s (by show _ ≠ _ + 1 + 1 + 1; have := h.lt; omega) u, h.lt⟩
theorem OfS.mk' {w wr : World} {ev tv : Array Value} {s : List UInt8} (h : OfI w ev tv s wr) : OfS w ev tv s wr.heap.size (wr.alloc (.cells (ptrs w.heap.size) 74)) :=
  ⟨h.alloc _, blk_new _ _, blk_lt h.t⟩

/-- A time. -/
structure Tm where
  y : Int
  mo : Int
  d : Int
  h : Int
  mi : Int
  s : Int
deriving DecidableEq
def Tm.zero : Tm := ⟨0, 0, 0, 0, 0, 0⟩
def Tm.val (t : Tm) : Value := .agg #[.int .i64 t.y, .int .i64 t.mo, .int .i64 t.d, .int .i64 t.h, .int .i64 t.mi, .int .i64 t.s]
def Tm.ok (t : Tm) : Bool := okB t.y t.mo t.d t.h t.mi t.s
/-- A time and an error are returned; what was there stands. -/
def TmP (t : Tm) (err : Int) (w : World) (e : Ending) (w' : World) : Prop := e = .returned (.tuple #[t.val, .int .i64 err]) ∧ Below w.heap.size w w'
/-- What Of answers where it reads: Y: the year that is read; l0: what is left behind it. -/
def ofG (utc : Bool) (l : List UInt8) (Y : Int) (l0 : List UInt8) : Tm × Int :=
  if l.length = (if utc then 13 else 15) ∧ mst 90 (lk l0 5) = true ∧ okB Y (vk l0 0) (vk l0 1) (vk l0 2) (vk l0 3) (vk l0 4) = true ∧ ¬ (utc = false ∧ 1950 ≤ Y ∧ Y ≤ 2049)
  then (⟨Y, vk l0 0, vk l0 1, vk l0 2, vk l0 3, vk l0 4⟩, 0) else (Tm.zero, 11)
theorem must_at (B : Nat) (c : Int) (c8 : UInt8) (hc8 : (c8.toNat : Int) = c) (l : List UInt8) (w : World) (hlen : l.length ≤ 1000000) (hB : w.heap[B]? = some (.cells #[.string ⟨l.toArray⟩] 9 (0, 0))) :
    Calls Tryd.prog 43 #[.int .u8 c, .pointer (some ⟨B, 0, none⟩)] w (ClosP B (.bool (mst c8 l)) ⟨(msr c8 l).toArray⟩ w) := by
  rw [← hc8]; exact must_any B c8 l w hlen hB
theorem must_is (B : Nat) (c : Int) (c8 : UInt8) (hc8 : (c8.toNat : Int) = c) (l : List UInt8) (b : Bool) (hb : mst c8 l = b) (w : World) (hlen : l.length ≤ 1000000) (hB : w.heap[B]? = some (.cells #[.string ⟨l.toArray⟩] 9 (0, 0))) :
    Calls Tryd.prog 43 #[.int .u8 c, .pointer (some ⟨B, 0, none⟩)] w (ClosP B (.bool b) ⟨(msr c8 l).toArray⟩ w) := by
  rw [← hb]; exact must_at B c c8 hc8 l w hlen hB
theorem num_is (B many : Nat) (l l' : List UInt8) (v : Int) (hv : Hid (rdv many l = v)) (hl : Hid (rdr many l = l')) (w : World) (hm : many ≤ 4) (hlen : l.length ≤ 1000000) (hB : w.heap[B]? = some (.cells #[.string ⟨l.toArray⟩] 9 (0, 0))) :
    Calls Tryd.prog 42 #[.int .i64 many, .pointer (some ⟨B, 0, none⟩)] w (ClosP B (.int .i64 v) ⟨l'.toArray⟩ w) := by
  rw [← hv.out, ← hl.out]; exact num_any B many l w hm hlen hB
theorem ret26 {R : Nat} {a0 a1 a2 a3 a4 a5 : Value} {err : Int} {tmps : Array Value} {w : World} (hp : tmps.getD 2 undef = .pointer (some ⟨R, 0, none⟩)) (he : tmps.getD 3 undef = .int .i64 err)
    (hR : w.heap[R]? = some (.cells #[a0, a1, a2, a3, a4, a5] 23 (0, 0))) : (results Tryd.f26 tmps).run Tryd.prog w = .ok (.tuple #[.agg #[a0, a1, a2, a3, a4, a5], .int .i64 err]) w := by
  obtain ⟨c0, c1, c2, c3, c4, c5⟩ := six hR
  rw [results_cell_tmp (p := 2) (u := 3) (ty := 23) Tryd.results26, hp, he]
  simp [go_sem, c0, c1, c2, c3, c4, c5]
theorem set6 {w : World} {g : Nat} {b0 b1 b2 b3 b4 b5 : Value} {t : TypeId} (h : w.heap[g]? = some (.cells #[b0, b1, b2, b3, b4, b5] t (0, 0))) (a0 a1 a2 a3 a4 a5 : Value) :
    ((((((w.setCell ⟨g, 0, none⟩ a0).setCell ⟨g, 1, none⟩ a1).setCell ⟨g, 2, none⟩ a2).setCell ⟨g, 3, none⟩ a3).setCell ⟨g, 4, none⟩ a4).setCell ⟨g, 5, none⟩ a5).heap[g]? = some (.cells #[a0, a1, a2, a3, a4, a5] t (0, 0)) :=
  blk_set (blk_set (blk_set (blk_set (blk_set (blk_set h 0 a0) 1 a1) 2 a2) 3 a3) 4 a4) 5 a5
theorem set6_st {w wr : World} (h : St w wr) {g : Nat} (hg : w.heap.size ≤ g) (h2 : 1 < w.heap.size) (a0 a1 a2 a3 a4 a5 : Value) :
    St w ((((((wr.setCell ⟨g, 0, none⟩ a0).setCell ⟨g, 1, none⟩ a1).setCell ⟨g, 2, none⟩ a2).setCell ⟨g, 3, none⟩ a3).setCell ⟨g, 4, none⟩ a4).setCell ⟨g, 5, none⟩ a5) :=
  (((((h.setCell (p := ⟨g, 0, none⟩) hg h2 a0).setCell (p := ⟨g, 1, none⟩) hg h2 a1).setCell (p := ⟨g, 2, none⟩) hg h2 a2).setCell (p := ⟨g, 3, none⟩) hg h2 a3).setCell (p := ⟨g, 4, none⟩) hg h2 a4).setCell (p := ⟨g, 5, none⟩) hg h2 a5
theorem setCell_size (w : World) (p : Addr) (u : Value) : (w.setCell p u).heap.size = w.heap.size := by simp [World.setCell]
end Go.Proofs.YtbncjjobdipmgaaDoor
