/- Chapter 10 (times): the contract of Parse. -/
import Derived.Test.YtbncjjobdipmgaaDoorWi
import Derived.Deep.RegionHeld3
namespace Go.Proofs.YtbncjjobdipmgaaDoor
open Go.RowKit Pl

/-- The signs behind the five numbers. -/
def cc : Nat → UInt8
  | 0 => 45
  | 1 => 84
  | 2 => 58
  | 3 => 58
  | _ => 90
/-- What is left behind k numbers and signs; the k-th number; whether the signs came. -/
def pk (p0 : List UInt8) : Nat → List UInt8
  | 0 => p0
  | k + 1 => msr (cc k) (rdr 2 (pk p0 k))
def uk (p0 : List UInt8) (k : Nat) : Int := rdv 2 (pk p0 k)
def okk (b0 : Bool) (p0 : List UInt8) : Nat → Bool
  | 0 => b0
  | k + 1 => mst (cc k) (rdr 2 (pk p0 k)) && okk b0 p0 k
theorem msr_len (c : UInt8) (l : List UInt8) : (msr c l).length ≤ l.length := by
  unfold msr
  split
  · exact Nat.le_refl _
  · split <;> simp
theorem pk_len (p0 : List UInt8) (k : Nat) : (pk p0 k).length ≤ p0.length := by
  induction k with
  | zero => exact Nat.le_refl _
  | succ k ih => exact Nat.le_trans (msr_len _ _) (Nat.le_trans (rdr_len 2 _) ih)
def pc (Y : Int) (p0 : List UInt8) : Nat → Array Value
  | 0 => #[.int .i64 Y, .int .i64 0, .int .i64 0, .int .i64 0, .int .i64 0, .int .i64 0]
  | 1 => #[.int .i64 Y, .int .i64 (uk p0 0), .int .i64 0, .int .i64 0, .int .i64 0, .int .i64 0]
  | 2 => #[.int .i64 Y, .int .i64 (uk p0 0), .int .i64 (uk p0 1), .int .i64 0, .int .i64 0, .int .i64 0]
  | 3 => #[.int .i64 Y, .int .i64 (uk p0 0), .int .i64 (uk p0 1), .int .i64 (uk p0 2), .int .i64 0, .int .i64 0]
  | 4 => #[.int .i64 Y, .int .i64 (uk p0 0), .int .i64 (uk p0 1), .int .i64 (uk p0 2), .int .i64 (uk p0 3), .int .i64 0]
  | _ => #[.int .i64 Y, .int .i64 (uk p0 0), .int .i64 (uk p0 1), .int .i64 (uk p0 2), .int .i64 (uk p0 3), .int .i64 (uk p0 4)]
abbrev Z6 : Array Value := #[.int .i64 0, .int .i64 0, .int .i64 0, .int .i64 0, .int .i64 0, .int .i64 0]
/-- What stands in memory while Parse reads: the result (block n), the string (n+1). -/
structure PaR (w : World) (s : List UInt8) (wr : World) : Prop where
  r : wr.heap[w.heap.size]? = some (.cells #[.int .i64 0, .int .i64 0, .int .i64 0, .int .i64 0, .int .i64 0, .int .i64 0] 23 (0, 0))
  b : wr.heap[w.heap.size + 1]? = some (.cells #[.string ⟨s.toArray⟩] 9 (0, 0))
  st : St w wr
  two : 1 < w.heap.size
theorem PaR.start (w : World) (hT : Tabs w) (s : List UInt8) : PaR w s ((w.alloc (.cells #[.int .i64 0, .int .i64 0, .int .i64 0, .int .i64 0, .int .i64 0, .int .i64 0] 23)).alloc (.cells #[.string ⟨s.toArray⟩] 9)) := by
  refine ⟨blk_alloc (blk_new _ _) _, ?_, ((St.refl hT).alloc _).alloc _, hT.two⟩
  have := blk_new (w.alloc (.cells #[.int .i64 0, .int .i64 0, .int .i64 0, .int .i64 0, .int .i64 0, .int .i64 0] 23)) (.cells #[.string ⟨s.toArray⟩] 9)
  simpa using this
theorem PaR.clos {w wr w' : World} {s s' : List UInt8} {v : Value} {e : Ending} (h : PaR w s wr) (hc : ClosP (w.heap.size + 1) v ⟨s'.toArray⟩ wr e w') : PaR w s' w' :=
  ⟨blk_grown h.r hc.2.2 (by omega), hc.2.1, h.st.grown hc.2.2 (by omega) h.two, h.two⟩
theorem PaR.alloc {w wr : World} {s : List UInt8} (h : PaR w s wr) (o : Obj) : PaR w s (wr.alloc o) := ⟨blk_alloc h.r o, blk_alloc h.b o, h.st.alloc o, h.two⟩
theorem PaR.below {w wr w' : World} {s : List UInt8} (h : PaR w s wr) (hb : Below wr.heap.size wr w') : PaR w s w' := ⟨blk_below h.r hb, blk_below h.b hb, h.st.next hb, h.two⟩
theorem PaR.drew {w wr : World} {s : List UInt8} (h : PaR w s wr) : PaR w s wr.drew := ⟨h.r, h.b, h.st.drew, h.two⟩
/-- .. and the time (block T). -/
structure PaI (w : World) (T : Nat) (tv : Array Value) (s : List UInt8) (wr : World) : Prop where
  i : PaR w s wr
  t : wr.heap[T]? = some (.cells tv 23 (0, 0))
  lt : w.heap.size + 1 < T
theorem PaI.start {w wr : World} {s : List UInt8} (h : PaR w s wr) (tv : Array Value) : PaI w wr.heap.size tv s (wr.alloc (.cells tv 23)) := ⟨h.alloc _, blk_new _ _, blk_lt h.b⟩
theorem PaI.clos {w wr w' : World} {T : Nat} {tv : Array Value} {s s' : List UInt8} {v : Value} {e : Ending} (h : PaI w T tv s wr) (hc : ClosP (w.heap.size + 1) v ⟨s'.toArray⟩ wr e w') : PaI w T tv s' w' :=
  ⟨h.i.clos hc, blk_grown h.t hc.2.2 (by have := h.lt; omega), h.lt⟩
theorem PaI.setT {w wr : World} {T : Nat} {tv : Array Value} {s : List UInt8} (h : PaI w T tv s wr) (j : Nat) (u : Value) : PaI w T (tv.setIfInBounds j u) s (wr.setCell ⟨T, j, none⟩ u) :=
  ⟨⟨blk_far h.i.r (by show _ ≠ T; have := h.lt; omega) u, blk_far h.i.b (by show _ ≠ T; have := h.lt; omega) u, h.i.st.setCell (by show _ ≤ T; have := h.lt; omega) h.i.two u, h.i.two⟩, blk_set h.t j u, h.lt⟩
theorem PaI.alloc {w wr : World} {T : Nat} {tv : Array Value} {s : List UInt8} (h : PaI w T tv s wr) (o : Obj) : PaI w T tv s (wr.alloc o) := ⟨h.i.alloc o, blk_alloc h.t o, h.lt⟩
theorem PaI.below {w wr w' : World} {T : Nat} {tv : Array Value} {s : List UInt8} (h : PaI w T tv s wr) (hb : Below wr.heap.size wr w') : PaI w T tv s w' := ⟨h.i.below hb, blk_below h.t hb, h.lt⟩
theorem PaI.drew {w wr : World} {T : Nat} {tv : Array Value} {s : List UInt8} (h : PaI w T tv s wr) : PaI w T tv s wr.drew := ⟨h.i.drew, h.t, h.lt⟩
def tabv (T : Nat) : Array Value := #[.pointer (some ⟨T, 1, none⟩), .int .u8 45, .pointer (some ⟨T, 2, none⟩), .int .u8 84, .pointer (some ⟨T, 3, none⟩), .int .u8 58, .pointer (some ⟨T, 4, none⟩), .int .u8 58, .pointer (some ⟨T, 5, none⟩), .int .u8 90]
/-- .. and the table of fields and signs (block S). -/
structure PaS (w : World) (T : Nat) (tv : Array Value) (s : List UInt8) (S : Nat) (wr : World) : Prop where
  i : PaI w T tv s wr
  s : wr.heap[S]? = some (.cells (tabv T) 80 (0, 0))
  lt : T < S
theorem PaS.start {w wr : World} {T : Nat} {tv : Array Value} {s : List UInt8} (h : PaI w T tv s wr) : PaS w T tv s wr.heap.size (wr.alloc (.cells (tabv T) 80)) := ⟨h.alloc _, blk_new _ _, blk_lt h.t⟩
theorem PaS.clos {w wr w' : World} {T : Nat} {tv : Array Value} {s s' : List UInt8} {S : Nat} {v : Value} {e : Ending} (h : PaS w T tv s S wr) (hc : ClosP (w.heap.size + 1) v ⟨s'.toArray⟩ wr e w') : PaS w T tv s' S w' :=
  ⟨h.i.clos hc, blk_grown h.s hc.2.2 (by have := h.lt; have := h.i.lt; omega), h.lt⟩
theorem PaS.setT {w wr : World} {T : Nat} {tv : Array Value} {s : List UInt8} {S : Nat} (h : PaS w T tv s S wr) (j : Nat) (u : Value) : PaS w T (tv.setIfInBounds j u) s S (wr.setCell ⟨T, j, none⟩ u) :=
  ⟨h.i.setT j u, blk_far h.s (by show _ ≠ T; have := h.lt; omega) u, h.lt⟩
theorem PaS.alloc {w wr : World} {T : Nat} {tv : Array Value} {s : List UInt8} {S : Nat} (h : PaS w T tv s S wr) (o : Obj) : PaS w T tv s S (wr.alloc o) := ⟨h.i.alloc o, blk_alloc h.s o, h.lt⟩
theorem PaS.drew {w wr : World} {T : Nat} {tv : Array Value} {s : List UInt8} {S : Nat} (h : PaS w T tv s S wr) : PaS w T tv s S wr.drew := ⟨h.i.drew, h.s, h.lt⟩
theorem ten {w : World} {g : Nat} {a0 a1 a2 a3 a4 a5 a6 a7 a8 a9 : Value} {t : TypeId} (h : w.heap[g]? = some (.cells #[a0, a1, a2, a3, a4, a5, a6, a7, a8, a9] t (0, 0))) :
    w.cell? ⟨g, 0, none⟩ = some a0 ∧ w.cell? ⟨g, 1, none⟩ = some a1 ∧ w.cell? ⟨g, 2, none⟩ = some a2 ∧ w.cell? ⟨g, 3, none⟩ = some a3 ∧ w.cell? ⟨g, 4, none⟩ = some a4 ∧ w.cell? ⟨g, 5, none⟩ = some a5 ∧ w.cell? ⟨g, 6, none⟩ = some a6 ∧ w.cell? ⟨g, 7, none⟩ = some a7 ∧ w.cell? ⟨g, 8, none⟩ = some a8 ∧ w.cell? ⟨g, 9, none⟩ = some a9 :=
  ⟨blk_cell h 0, blk_cell h 1, blk_cell h 2, blk_cell h 3, blk_cell h 4, blk_cell h 5, blk_cell h 6, blk_cell h 7, blk_cell h 8, blk_cell h 9⟩

/-- What Parse answers. -/
def parseG (l : List UInt8) (Y : Int) (b0 : Bool) (p0 : List UInt8) : Tm × Int :=
  if okk b0 p0 5 = true ∧ l.length = 20 ∧ okB Y (uk p0 0) (uk p0 1) (uk p0 2) (uk p0 3) (uk p0 4) = true
  then (⟨Y, uk p0 0, uk p0 1, uk p0 2, uk p0 3, uk p0 4⟩, 0) else (Tm.zero, 6)

theorem ret36 {R : Nat} {a0 a1 a2 a3 a4 a5 : Value} {err : Int} {tmps : Array Value} {w : World} (hp : tmps.getD 2 undef = .pointer (some ⟨R, 0, none⟩)) (he : tmps.getD 3 undef = .int .i64 err)
    (hR : w.heap[R]? = some (.cells #[a0, a1, a2, a3, a4, a5] 23 (0, 0))) : (results Tryd.f36 tmps).run Tryd.prog w = .ok (.tuple #[.agg #[a0, a1, a2, a3, a4, a5], .int .i64 err]) w := by
  obtain ⟨c0, c1, c2, c3, c4, c5⟩ := six hR
  rw [results_cell_tmp (p := 2) (u := 3) (ty := 23) Tryd.results36, hp, he]
  simp [go_sem, c0, c1, c2, c3, c4, c5]
theorem okk_t {b0 : Bool} {p0 : List UInt8} {k : Nat} (h : mst (cc k) (rdr 2 (pk p0 k)) = true) : okk b0 p0 (k + 1) = okk b0 p0 k := by
  show (mst (cc k) (rdr 2 (pk p0 k)) && okk b0 p0 k) = _; rw [h]; rfl
theorem okk_f {b0 : Bool} {p0 : List UInt8} {k : Nat} (h : mst (cc k) (rdr 2 (pk p0 k)) = false) : okk b0 p0 (k + 1) = false := by
  show (mst (cc k) (rdr 2 (pk p0 k)) && okk b0 p0 k) = _; rw [h]; rfl
theorem cell_far {W : World} {X T j o : Nat} {v : Value} (h : W.cell? ⟨X, o, none⟩ = some v) (hne : X ≠ T) (u : Value) : (W.setCell ⟨T, j, none⟩ u).cell? ⟨X, o, none⟩ = some v := by
  rw [← h]; exact World.cell?_of_block (a := ⟨X, o, none⟩) (Below.heap_setCell _ _ _ _ hne)
theorem blk_two {w : World} {g : Nat} {a0 a1 : Value} {t : TypeId} (h : w.heap[g]? = some (.cells #[a0, a1] t (0, 0))) : w.cell? ⟨g, 0, none⟩ = some a0 ∧ w.cell? ⟨g, 1, none⟩ = some a1 := ⟨blk_cell h 0, blk_cell h 1⟩

set_option maxHeartbeats 16000000 in
set_option maxRecDepth 100000 in
theorem parse_gen (l l1 p0 : List UInt8) (v : Int) (b0 : Bool) (w : World) (hT : Tabs w) (hlen : l.length ≤ 1000000) (hlen1 : l1.length ≤ 1000000) (hlen0 : p0.length ≤ 1000000)
    (hv : Hid (rdv 4 l = v)) (hl : Hid (rdr 4 l = l1)) (hb0 : Hid (mst 45 l1 = b0)) (hp0 : Hid (msr 45 l1 = p0)) :
    Calls Tryd.prog 36 #[.string ⟨l.toArray⟩] w (TmP (parseG l v b0 p0).1 (parseG l v b0 p0).2 w) := by
  have h0 := PaR.start w hT l
  have H0 := Lib.hid h0
  clear h0
  go_enter Tryd.func36, Tryd.ntmps36
  go_wp2_with (first
    | (go_at_call 37; refine (reader_any _ _).mono ?_; rintro e w1 ⟨rfl, rfl⟩)
    | (go_at_call 42; refine (num_is _ 4 _ _ _ hv hl _ (by omega) hlen H0.out.b).mono ?_; intro e w1 hP; have h1 := PaI.start (H0.out.clos hP) (pc v p0 0); obtain ⟨rfl, -, -⟩ := hP; have H1 := Lib.hid h1; clear h1)
    | (go_at_call 43; refine (must_is _ 45 45 rfl _ _ hb0.out _ hlen1 H1.out.i.b).mono ?_; intro e w2 hP; rw [hp0.out] at hP; have h2 := PaS.start (H1.out.clos hP); obtain ⟨rfl, -, -⟩ := hP; have H2 := Lib.hid h2; clear h2))
  have HS0 : Hid (PaS w w1.heap.size (pc v p0 0) (pk p0 0) w2.heap.size (w2.alloc (.cells (tabv w1.heap.size) 80))) := H2.out
  clear H0 H1 H2
  go_loopw [7, 32] (fun okv i wr => ∃ k : Nat, k ≤ 5 ∧ i = .int .i64 k ∧ okv = .bool (okk b0 p0 k) ∧ Hid (PaS w w1.heap.size (pc v p0 k) (pk p0 k) w2.heap.size wr)) (fun _ i _ => 5 - (intOf i).toNat)
  case atStart => exact ⟨0, by omega, rfl, rfl, HS0⟩
  case round =>
    obtain ⟨k, hk, rfl, hok, hI⟩ := hrel
    have hlk := pk_len p0 k
    have hlr := rdr_len 2 (pk p0 k)
    by_cases hk5 : k < 5
    · subst hok
      rcases (show k = 0 ∨ k = 1 ∨ k = 2 ∨ k = 3 ∨ k = 4 by omega) with rfl | rfl | rfl | rfl | rfl
      · obtain ⟨s0, s1, s2, s3, s4, s5, s6, s7, s8, s9⟩ := ten hI.out.s
        have hX := hI.out.alloc (.cells #[.pointer (some ⟨w1.heap.size, 1, none⟩), .int .u8 45] 80)
        have hXb := blk_new wr (.cells #[.pointer (some ⟨w1.heap.size, 1, none⟩), .int .u8 45] 80)
        have hXt : w1.heap.size < wr.heap.size := blk_lt hI.out.i.t
        have hBt := hI.out.i.lt
        have HX := Lib.hid hX
        have HXb := Lib.hid hXb
        clear hX hXb
        by_cases hM : mst (cc 0) (rdr 2 (pk p0 0)) = true
        · have hok : Hid (okk b0 p0 1 = okk b0 p0 0) := okk_t hM
          have HM := Lib.hid hM
          clear hM
          go_wp2_with fail
          go_region_held3 (fun W => W.cell? ⟨wr.heap.size, 0, none⟩ = some (.pointer (some ⟨w1.heap.size, 1, none⟩)))
            (first | assumption | (simp; done) | exact cell_far hx0 (by omega) _)
            (first | (go_at_call 42; refine (num_any (w.heap.size + 1) 2 (pk p0 0) _ (by omega) (by omega) (by first | exact HX.out.i.i.b | exact HX.out.drew.i.i.b)).mono ?_; intro e w3 hP; have h3 := PaS.clos (show PaS w w1.heap.size (pc v p0 0) (pk p0 0) w2.heap.size _ from by first | exact HX.out | exact HX.out.drew) hP; have hx3 := blk_grown (by first | exact HXb.out | exact blk_drew HXb.out) hP.2.2 (by omega); obtain ⟨rfl, -, -⟩ := hP; obtain ⟨hx0, hx1⟩ := blk_two hx3; obtain ⟨t0, t1, t2, t3, t4, t5⟩ := six h3.i.t; obtain ⟨f0, f1, f2, f3, f4, f5⟩ := free h3.i.t; have H3 := Lib.hid (h3.setT 1 (.int .i64 (rdv 2 (pk p0 0)))); clear h3 hx3))
          have hy1 := cell_far (T := w1.heap.size) (j := 1) hx1 (by omega) (.int .i64 (rdv 2 (pk p0 0)))
          go_wp2_with (first | (go_at_call 43; refine (must_is _ 45 (cc 0) rfl _ true HM.out _ (by omega) H3.out.i.i.b).mono ?_; intro e w4 hP; have h4 := PaS.clos H3.out hP; obtain ⟨rfl, -, -⟩ := hP; have H4 := Lib.hid h4; clear h4))
          go_roundw
          case rel => exact ⟨1, by omega, rfl, by rw [hok.out], H4.out⟩
          case measure => simp [intOf]
        · have hM' : mst (cc 0) (rdr 2 (pk p0 0)) = false := by simpa using hM
          have hok : Hid (okk b0 p0 1 = false) := okk_f hM'
          have HM := Lib.hid hM'
          clear hM hM'
          go_wp2_with fail
          go_region_held3 (fun W => W.cell? ⟨wr.heap.size, 0, none⟩ = some (.pointer (some ⟨w1.heap.size, 1, none⟩)))
            (first | assumption | (simp; done) | exact cell_far hx0 (by omega) _)
            (first | (go_at_call 42; refine (num_any (w.heap.size + 1) 2 (pk p0 0) _ (by omega) (by omega) (by first | exact HX.out.i.i.b | exact HX.out.drew.i.i.b)).mono ?_; intro e w3 hP; have h3 := PaS.clos (show PaS w w1.heap.size (pc v p0 0) (pk p0 0) w2.heap.size _ from by first | exact HX.out | exact HX.out.drew) hP; have hx3 := blk_grown (by first | exact HXb.out | exact blk_drew HXb.out) hP.2.2 (by omega); obtain ⟨rfl, -, -⟩ := hP; obtain ⟨hx0, hx1⟩ := blk_two hx3; obtain ⟨t0, t1, t2, t3, t4, t5⟩ := six h3.i.t; obtain ⟨f0, f1, f2, f3, f4, f5⟩ := free h3.i.t; have H3 := Lib.hid (h3.setT 1 (.int .i64 (rdv 2 (pk p0 0)))); clear h3 hx3))
          have hy1 := cell_far (T := w1.heap.size) (j := 1) hx1 (by omega) (.int .i64 (rdv 2 (pk p0 0)))
          go_wp2_with (first | (go_at_call 43; refine (must_is _ 45 (cc 0) rfl _ false HM.out _ (by omega) H3.out.i.i.b).mono ?_; intro e w4 hP; have h4 := PaS.clos H3.out hP; obtain ⟨rfl, -, -⟩ := hP; have H4 := Lib.hid h4; clear h4))
          go_roundw
          case rel => exact ⟨1, by omega, rfl, by rw [hok.out], H4.out⟩
          case measure => simp [intOf]
      · obtain ⟨s0, s1, s2, s3, s4, s5, s6, s7, s8, s9⟩ := ten hI.out.s
        have hX := hI.out.alloc (.cells #[.pointer (some ⟨w1.heap.size, 2, none⟩), .int .u8 84] 80)
        have hXb := blk_new wr (.cells #[.pointer (some ⟨w1.heap.size, 2, none⟩), .int .u8 84] 80)
        have hXt : w1.heap.size < wr.heap.size := blk_lt hI.out.i.t
        have hBt := hI.out.i.lt
        have HX := Lib.hid hX
        have HXb := Lib.hid hXb
        clear hX hXb
        by_cases hM : mst (cc 1) (rdr 2 (pk p0 1)) = true
        · have hok : Hid (okk b0 p0 2 = okk b0 p0 1) := okk_t hM
          have HM := Lib.hid hM
          clear hM
          go_wp2_with fail
          go_region_held3 (fun W => W.cell? ⟨wr.heap.size, 0, none⟩ = some (.pointer (some ⟨w1.heap.size, 2, none⟩)))
            (first | assumption | (simp; done) | exact cell_far hx0 (by omega) _)
            (first | (go_at_call 42; refine (num_any (w.heap.size + 1) 2 (pk p0 1) _ (by omega) (by omega) (by first | exact HX.out.i.i.b | exact HX.out.drew.i.i.b)).mono ?_; intro e w3 hP; have h3 := PaS.clos (show PaS w w1.heap.size (pc v p0 1) (pk p0 1) w2.heap.size _ from by first | exact HX.out | exact HX.out.drew) hP; have hx3 := blk_grown (by first | exact HXb.out | exact blk_drew HXb.out) hP.2.2 (by omega); obtain ⟨rfl, -, -⟩ := hP; obtain ⟨hx0, hx1⟩ := blk_two hx3; obtain ⟨t0, t1, t2, t3, t4, t5⟩ := six h3.i.t; obtain ⟨f0, f1, f2, f3, f4, f5⟩ := free h3.i.t; have H3 := Lib.hid (h3.setT 2 (.int .i64 (rdv 2 (pk p0 1)))); clear h3 hx3))
          have hy1 := cell_far (T := w1.heap.size) (j := 2) hx1 (by omega) (.int .i64 (rdv 2 (pk p0 1)))
          go_wp2_with (first | (go_at_call 43; refine (must_is _ 84 (cc 1) rfl _ true HM.out _ (by omega) H3.out.i.i.b).mono ?_; intro e w4 hP; have h4 := PaS.clos H3.out hP; obtain ⟨rfl, -, -⟩ := hP; have H4 := Lib.hid h4; clear h4))
          go_roundw
          case rel => exact ⟨2, by omega, rfl, by rw [hok.out], H4.out⟩
          case measure => simp [intOf]
        · have hM' : mst (cc 1) (rdr 2 (pk p0 1)) = false := by simpa using hM
          have hok : Hid (okk b0 p0 2 = false) := okk_f hM'
          have HM := Lib.hid hM'
          clear hM hM'
          go_wp2_with fail
          go_region_held3 (fun W => W.cell? ⟨wr.heap.size, 0, none⟩ = some (.pointer (some ⟨w1.heap.size, 2, none⟩)))
            (first | assumption | (simp; done) | exact cell_far hx0 (by omega) _)
            (first | (go_at_call 42; refine (num_any (w.heap.size + 1) 2 (pk p0 1) _ (by omega) (by omega) (by first | exact HX.out.i.i.b | exact HX.out.drew.i.i.b)).mono ?_; intro e w3 hP; have h3 := PaS.clos (show PaS w w1.heap.size (pc v p0 1) (pk p0 1) w2.heap.size _ from by first | exact HX.out | exact HX.out.drew) hP; have hx3 := blk_grown (by first | exact HXb.out | exact blk_drew HXb.out) hP.2.2 (by omega); obtain ⟨rfl, -, -⟩ := hP; obtain ⟨hx0, hx1⟩ := blk_two hx3; obtain ⟨t0, t1, t2, t3, t4, t5⟩ := six h3.i.t; obtain ⟨f0, f1, f2, f3, f4, f5⟩ := free h3.i.t; have H3 := Lib.hid (h3.setT 2 (.int .i64 (rdv 2 (pk p0 1)))); clear h3 hx3))
          have hy1 := cell_far (T := w1.heap.size) (j := 2) hx1 (by omega) (.int .i64 (rdv 2 (pk p0 1)))
          go_wp2_with (first | (go_at_call 43; refine (must_is _ 84 (cc 1) rfl _ false HM.out _ (by omega) H3.out.i.i.b).mono ?_; intro e w4 hP; have h4 := PaS.clos H3.out hP; obtain ⟨rfl, -, -⟩ := hP; have H4 := Lib.hid h4; clear h4))
          go_roundw
          case rel => exact ⟨2, by omega, rfl, by rw [hok.out], H4.out⟩
          case measure => simp [intOf]
      · obtain ⟨s0, s1, s2, s3, s4, s5, s6, s7, s8, s9⟩ := ten hI.out.s
        have hX := hI.out.alloc (.cells #[.pointer (some ⟨w1.heap.size, 3, none⟩), .int .u8 58] 80)
        have hXb := blk_new wr (.cells #[.pointer (some ⟨w1.heap.size, 3, none⟩), .int .u8 58] 80)
        have hXt : w1.heap.size < wr.heap.size := blk_lt hI.out.i.t
        have hBt := hI.out.i.lt
        have HX := Lib.hid hX
        have HXb := Lib.hid hXb
        clear hX hXb
        by_cases hM : mst (cc 2) (rdr 2 (pk p0 2)) = true
        · have hok : Hid (okk b0 p0 3 = okk b0 p0 2) := okk_t hM
          have HM := Lib.hid hM
          clear hM
          go_wp2_with fail
          go_region_held3 (fun W => W.cell? ⟨wr.heap.size, 0, none⟩ = some (.pointer (some ⟨w1.heap.size, 3, none⟩)))
            (first | assumption | (simp; done) | exact cell_far hx0 (by omega) _)
            (first | (go_at_call 42; refine (num_any (w.heap.size + 1) 2 (pk p0 2) _ (by omega) (by omega) (by first | exact HX.out.i.i.b | exact HX.out.drew.i.i.b)).mono ?_; intro e w3 hP; have h3 := PaS.clos (show PaS w w1.heap.size (pc v p0 2) (pk p0 2) w2.heap.size _ from by first | exact HX.out | exact HX.out.drew) hP; have hx3 := blk_grown (by first | exact HXb.out | exact blk_drew HXb.out) hP.2.2 (by omega); obtain ⟨rfl, -, -⟩ := hP; obtain ⟨hx0, hx1⟩ := blk_two hx3; obtain ⟨t0, t1, t2, t3, t4, t5⟩ := six h3.i.t; obtain ⟨f0, f1, f2, f3, f4, f5⟩ := free h3.i.t; have H3 := Lib.hid (h3.setT 3 (.int .i64 (rdv 2 (pk p0 2)))); clear h3 hx3))
          have hy1 := cell_far (T := w1.heap.size) (j := 3) hx1 (by omega) (.int .i64 (rdv 2 (pk p0 2)))
          go_wp2_with (first | (go_at_call 43; refine (must_is _ 58 (cc 2) rfl _ true HM.out _ (by omega) H3.out.i.i.b).mono ?_; intro e w4 hP; have h4 := PaS.clos H3.out hP; obtain ⟨rfl, -, -⟩ := hP; have H4 := Lib.hid h4; clear h4))
          go_roundw
          case rel => exact ⟨3, by omega, rfl, by rw [hok.out], H4.out⟩
          case measure => simp [intOf]
        · have hM' : mst (cc 2) (rdr 2 (pk p0 2)) = false := by simpa using hM
          have hok : Hid (okk b0 p0 3 = false) := okk_f hM'
          have HM := Lib.hid hM'
          clear hM hM'
          go_wp2_with fail
          go_region_held3 (fun W => W.cell? ⟨wr.heap.size, 0, none⟩ = some (.pointer (some ⟨w1.heap.size, 3, none⟩)))
            (first | assumption | (simp; done) | exact cell_far hx0 (by omega) _)
            (first | (go_at_call 42; refine (num_any (w.heap.size + 1) 2 (pk p0 2) _ (by omega) (by omega) (by first | exact HX.out.i.i.b | exact HX.out.drew.i.i.b)).mono ?_; intro e w3 hP; have h3 := PaS.clos (show PaS w w1.heap.size (pc v p0 2) (pk p0 2) w2.heap.size _ from by first | exact HX.out | exact HX.out.drew) hP; have hx3 := blk_grown (by first | exact HXb.out | exact blk_drew HXb.out) hP.2.2 (by omega); obtain ⟨rfl, -, -⟩ := hP; obtain ⟨hx0, hx1⟩ := blk_two hx3; obtain ⟨t0, t1, t2, t3, t4, t5⟩ := six h3.i.t; obtain ⟨f0, f1, f2, f3, f4, f5⟩ := free h3.i.t; have H3 := Lib.hid (h3.setT 3 (.int .i64 (rdv 2 (pk p0 2)))); clear h3 hx3))
          have hy1 := cell_far (T := w1.heap.size) (j := 3) hx1 (by omega) (.int .i64 (rdv 2 (pk p0 2)))
          go_wp2_with (first | (go_at_call 43; refine (must_is _ 58 (cc 2) rfl _ false HM.out _ (by omega) H3.out.i.i.b).mono ?_; intro e w4 hP; have h4 := PaS.clos H3.out hP; obtain ⟨rfl, -, -⟩ := hP; have H4 := Lib.hid h4; clear h4))
          go_roundw
          case rel => exact ⟨3, by omega, rfl, by rw [hok.out], H4.out⟩
          case measure => simp [intOf]
      · obtain ⟨s0, s1, s2, s3, s4, s5, s6, s7, s8, s9⟩ := ten hI.out.s
        have hX := hI.out.alloc (.cells #[.pointer (some ⟨w1.heap.size, 4, none⟩), .int .u8 58] 80)
        have hXb := blk_new wr (.cells #[.pointer (some ⟨w1.heap.size, 4, none⟩), .int .u8 58] 80)
        have hXt : w1.heap.size < wr.heap.size := blk_lt hI.out.i.t
        have hBt := hI.out.i.lt
        have HX := Lib.hid hX
        have HXb := Lib.hid hXb
        clear hX hXb
        by_cases hM : mst (cc 3) (rdr 2 (pk p0 3)) = true
        · have hok : Hid (okk b0 p0 4 = okk b0 p0 3) := okk_t hM
          have HM := Lib.hid hM
          clear hM
          go_wp2_with fail
          go_region_held3 (fun W => W.cell? ⟨wr.heap.size, 0, none⟩ = some (.pointer (some ⟨w1.heap.size, 4, none⟩)))
            (first | assumption | (simp; done) | exact cell_far hx0 (by omega) _)
            (first | (go_at_call 42; refine (num_any (w.heap.size + 1) 2 (pk p0 3) _ (by omega) (by omega) (by first | exact HX.out.i.i.b | exact HX.out.drew.i.i.b)).mono ?_; intro e w3 hP; have h3 := PaS.clos (show PaS w w1.heap.size (pc v p0 3) (pk p0 3) w2.heap.size _ from by first | exact HX.out | exact HX.out.drew) hP; have hx3 := blk_grown (by first | exact HXb.out | exact blk_drew HXb.out) hP.2.2 (by omega); obtain ⟨rfl, -, -⟩ := hP; obtain ⟨hx0, hx1⟩ := blk_two hx3; obtain ⟨t0, t1, t2, t3, t4, t5⟩ := six h3.i.t; obtain ⟨f0, f1, f2, f3, f4, f5⟩ := free h3.i.t; have H3 := Lib.hid (h3.setT 4 (.int .i64 (rdv 2 (pk p0 3)))); clear h3 hx3))
          have hy1 := cell_far (T := w1.heap.size) (j := 4) hx1 (by omega) (.int .i64 (rdv 2 (pk p0 3)))
          go_wp2_with (first | (go_at_call 43; refine (must_is _ 58 (cc 3) rfl _ true HM.out _ (by omega) H3.out.i.i.b).mono ?_; intro e w4 hP; have h4 := PaS.clos H3.out hP; obtain ⟨rfl, -, -⟩ := hP; have H4 := Lib.hid h4; clear h4))
          go_roundw
          case rel => exact ⟨4, by omega, rfl, by rw [hok.out], H4.out⟩
          case measure => simp [intOf]
        · have hM' : mst (cc 3) (rdr 2 (pk p0 3)) = false := by simpa using hM
          have hok : Hid (okk b0 p0 4 = false) := okk_f hM'
          have HM := Lib.hid hM'
          clear hM hM'
          go_wp2_with fail
          go_region_held3 (fun W => W.cell? ⟨wr.heap.size, 0, none⟩ = some (.pointer (some ⟨w1.heap.size, 4, none⟩)))
            (first | assumption | (simp; done) | exact cell_far hx0 (by omega) _)
            (first | (go_at_call 42; refine (num_any (w.heap.size + 1) 2 (pk p0 3) _ (by omega) (by omega) (by first | exact HX.out.i.i.b | exact HX.out.drew.i.i.b)).mono ?_; intro e w3 hP; have h3 := PaS.clos (show PaS w w1.heap.size (pc v p0 3) (pk p0 3) w2.heap.size _ from by first | exact HX.out | exact HX.out.drew) hP; have hx3 := blk_grown (by first | exact HXb.out | exact blk_drew HXb.out) hP.2.2 (by omega); obtain ⟨rfl, -, -⟩ := hP; obtain ⟨hx0, hx1⟩ := blk_two hx3; obtain ⟨t0, t1, t2, t3, t4, t5⟩ := six h3.i.t; obtain ⟨f0, f1, f2, f3, f4, f5⟩ := free h3.i.t; have H3 := Lib.hid (h3.setT 4 (.int .i64 (rdv 2 (pk p0 3)))); clear h3 hx3))
          have hy1 := cell_far (T := w1.heap.size) (j := 4) hx1 (by omega) (.int .i64 (rdv 2 (pk p0 3)))
          go_wp2_with (first | (go_at_call 43; refine (must_is _ 58 (cc 3) rfl _ false HM.out _ (by omega) H3.out.i.i.b).mono ?_; intro e w4 hP; have h4 := PaS.clos H3.out hP; obtain ⟨rfl, -, -⟩ := hP; have H4 := Lib.hid h4; clear h4))
          go_roundw
          case rel => exact ⟨4, by omega, rfl, by rw [hok.out], H4.out⟩
          case measure => simp [intOf]
      · obtain ⟨s0, s1, s2, s3, s4, s5, s6, s7, s8, s9⟩ := ten hI.out.s
        have hX := hI.out.alloc (.cells #[.pointer (some ⟨w1.heap.size, 5, none⟩), .int .u8 90] 80)
        have hXb := blk_new wr (.cells #[.pointer (some ⟨w1.heap.size, 5, none⟩), .int .u8 90] 80)
        have hXt : w1.heap.size < wr.heap.size := blk_lt hI.out.i.t
        have hBt := hI.out.i.lt
        have HX := Lib.hid hX
        have HXb := Lib.hid hXb
        clear hX hXb
        by_cases hM : mst (cc 4) (rdr 2 (pk p0 4)) = true
        · have hok : Hid (okk b0 p0 5 = okk b0 p0 4) := okk_t hM
          have HM := Lib.hid hM
          clear hM
          go_wp2_with fail
          go_region_held3 (fun W => W.cell? ⟨wr.heap.size, 0, none⟩ = some (.pointer (some ⟨w1.heap.size, 5, none⟩)))
            (first | assumption | (simp; done) | exact cell_far hx0 (by omega) _)
            (first | (go_at_call 42; refine (num_any (w.heap.size + 1) 2 (pk p0 4) _ (by omega) (by omega) (by first | exact HX.out.i.i.b | exact HX.out.drew.i.i.b)).mono ?_; intro e w3 hP; have h3 := PaS.clos (show PaS w w1.heap.size (pc v p0 4) (pk p0 4) w2.heap.size _ from by first | exact HX.out | exact HX.out.drew) hP; have hx3 := blk_grown (by first | exact HXb.out | exact blk_drew HXb.out) hP.2.2 (by omega); obtain ⟨rfl, -, -⟩ := hP; obtain ⟨hx0, hx1⟩ := blk_two hx3; obtain ⟨t0, t1, t2, t3, t4, t5⟩ := six h3.i.t; obtain ⟨f0, f1, f2, f3, f4, f5⟩ := free h3.i.t; have H3 := Lib.hid (h3.setT 5 (.int .i64 (rdv 2 (pk p0 4)))); clear h3 hx3))
          have hy1 := cell_far (T := w1.heap.size) (j := 5) hx1 (by omega) (.int .i64 (rdv 2 (pk p0 4)))
          go_wp2_with (first | (go_at_call 43; refine (must_is _ 90 (cc 4) rfl _ true HM.out _ (by omega) H3.out.i.i.b).mono ?_; intro e w4 hP; have h4 := PaS.clos H3.out hP; obtain ⟨rfl, -, -⟩ := hP; have H4 := Lib.hid h4; clear h4))
          go_roundw
          case rel => exact ⟨5, by omega, rfl, by rw [hok.out], H4.out⟩
          case measure => simp [intOf]
        · have hM' : mst (cc 4) (rdr 2 (pk p0 4)) = false := by simpa using hM
          have hok : Hid (okk b0 p0 5 = false) := okk_f hM'
          have HM := Lib.hid hM'
          clear hM hM'
          go_wp2_with fail
          go_region_held3 (fun W => W.cell? ⟨wr.heap.size, 0, none⟩ = some (.pointer (some ⟨w1.heap.size, 5, none⟩)))
            (first | assumption | (simp; done) | exact cell_far hx0 (by omega) _)
            (first | (go_at_call 42; refine (num_any (w.heap.size + 1) 2 (pk p0 4) _ (by omega) (by omega) (by first | exact HX.out.i.i.b | exact HX.out.drew.i.i.b)).mono ?_; intro e w3 hP; have h3 := PaS.clos (show PaS w w1.heap.size (pc v p0 4) (pk p0 4) w2.heap.size _ from by first | exact HX.out | exact HX.out.drew) hP; have hx3 := blk_grown (by first | exact HXb.out | exact blk_drew HXb.out) hP.2.2 (by omega); obtain ⟨rfl, -, -⟩ := hP; obtain ⟨hx0, hx1⟩ := blk_two hx3; obtain ⟨t0, t1, t2, t3, t4, t5⟩ := six h3.i.t; obtain ⟨f0, f1, f2, f3, f4, f5⟩ := free h3.i.t; have H3 := Lib.hid (h3.setT 5 (.int .i64 (rdv 2 (pk p0 4)))); clear h3 hx3))
          have hy1 := cell_far (T := w1.heap.size) (j := 5) hx1 (by omega) (.int .i64 (rdv 2 (pk p0 4)))
          go_wp2_with (first | (go_at_call 43; refine (must_is _ 90 (cc 4) rfl _ false HM.out _ (by omega) H3.out.i.i.b).mono ?_; intro e w4 hP; have h4 := PaS.clos H3.out hP; obtain ⟨rfl, -, -⟩ := hP; have H4 := Lib.hid h4; clear h4))
          go_roundw
          case rel => exact ⟨5, by omega, rfl, by rw [hok.out], H4.out⟩
          case measure => simp [intOf]
    · obtain rfl : k = 5 := by omega
      obtain ⟨t0, t1, t2, t3, t4, t5⟩ := six hI.out.i.t
      obtain ⟨r0, r1, r2, r3, r4, r5⟩ := six hI.out.i.i.r
      obtain ⟨q0, q1, q2, q3, q4, q5⟩ := free hI.out.i.i.r
      clear HS0
      by_cases hO5 : okk b0 p0 5 = true
      · by_cases hL : l.length = 20
        · have hL' : ((l.length : Int) != 20) = false := by simp; omega
          rw [hO5] at hok
          subst hok
          by_cases hO : okB v (uk p0 0) (uk p0 1) (uk p0 2) (uk p0 3) (uk p0 4) = true
          · have HK : Hid (∀ W, Tabs W → Calls Tryd.prog 15 #[.agg #[.int .i64 v, .int .i64 (uk p0 0), .int .i64 (uk p0 1), .int .i64 (uk p0 2), .int .i64 (uk p0 3), .int .i64 (uk p0 4)]] W fun e w' => e = .returned (.int .i64 0) ∧ Below W.heap.size W w') := fun W hW => check_ok hO W hW
            have hout : Hid (parseG l v b0 p0 = (⟨v, uk p0 0, uk p0 1, uk p0 2, uk p0 3, uk p0 4⟩, 0)) := by show _ = _; unfold parseG; rw [if_pos ⟨hO5, hL, hO⟩]
            clear hO hO5 hL
            go_wp2_with (first
              | (go_at_call 15; refine (HK.out _ hI.out.i.i.st.t).mono ?_; rintro e w4 ⟨rfl, hb4⟩; have h4 := hI.out.i.below hb4; have H4 := Lib.hid h4; clear hb4; obtain ⟨t0, t1, t2, t3, t4, t5⟩ := six h4.t; obtain ⟨r0, r1, r2, r3, r4, r5⟩ := six h4.i.r; obtain ⟨q0, q1, q2, q3, q4, q5⟩ := free h4.i.r; clear h4))
            exact bodyPost_ret (ret36 rfl rfl (set6 H4.out.i.r _ _ _ _ _ _)) rfl ⟨by rw [hout.out]; rfl, (set6_st H4.out.i.st (by omega) hI.out.i.i.two _ _ _ _ _ _).b⟩
          · have hO' : okB v (uk p0 0) (uk p0 1) (uk p0 2) (uk p0 3) (uk p0 4) = false := by simpa using hO
            have HK : Hid (∀ W, Tabs W → Calls Tryd.prog 15 #[.agg #[.int .i64 v, .int .i64 (uk p0 0), .int .i64 (uk p0 1), .int .i64 (uk p0 2), .int .i64 (uk p0 3), .int .i64 (uk p0 4)]] W fun e w' => e = .returned (.int .i64 1) ∧ Below W.heap.size W w') := fun W hW => check_no hO' W hW
            have hout : Hid (parseG l v b0 p0 = (Tm.zero, 6)) := by show _ = _; unfold parseG; rw [if_neg (by intro h; exact hO h.2.2)]
            clear hO hO' hO5 hL
            go_wp2_with (first
              | (go_at_call 15; refine (HK.out _ hI.out.i.i.st.t).mono ?_; rintro e w4 ⟨rfl, hb4⟩; have h4 := hI.out.i.below hb4; have H4 := Lib.hid h4; clear hb4; obtain ⟨t0, t1, t2, t3, t4, t5⟩ := six h4.t; obtain ⟨r0, r1, r2, r3, r4, r5⟩ := six h4.i.r; obtain ⟨q0, q1, q2, q3, q4, q5⟩ := free h4.i.r; clear h4))
            exact bodyPost_ret (ret36 rfl rfl (set6 H4.out.i.r _ _ _ _ _ _)) rfl ⟨by rw [hout.out]; rfl, (set6_st H4.out.i.st (by omega) hI.out.i.i.two _ _ _ _ _ _).b⟩
        · have hL' : ((l.length : Int) != 20) = true := by simp; omega
          rw [hO5] at hok
          subst hok
          have hout : Hid (parseG l v b0 p0 = (Tm.zero, 6)) := by show _ = _; unfold parseG; rw [if_neg (by intro h; exact hL h.2.1)]
          clear hL hO5
          go_wp2
          exact bodyPost_ret (ret36 rfl rfl (set6 hI.out.i.i.r _ _ _ _ _ _)) rfl ⟨by rw [hout.out]; rfl, (set6_st hI.out.i.i.st (by omega) hI.out.i.i.two _ _ _ _ _ _).b⟩
      · have hO5' : okk b0 p0 5 = false := by simpa using hO5
        rw [hO5'] at hok
        subst hok
        have hout : Hid (parseG l v b0 p0 = (Tm.zero, 6)) := by show _ = _; unfold parseG; rw [if_neg (by intro h; exact hO5 h.1)]
        clear hO5 hO5'
        go_wp2
        exact bodyPost_ret (ret36 rfl rfl (set6 hI.out.i.i.r _ _ _ _ _ _)) rfl ⟨by rw [hout.out]; rfl, (set6_st hI.out.i.i.st (by omega) hI.out.i.i.two _ _ _ _ _ _).b⟩
end Go.Proofs.YtbncjjobdipmgaaDoor
