/- The law ArmorsKnown holds: the call returns true. -/
import Derived.Test.YtbdccfjeeabpaaaRf
import Derived.Test.YtbdccfjeeabpaaaNk
import Derived.Test.YtbdccfjeeabpaaaPg
import Derived.Test.YtbdccfjeeabpaaaRg
import Derived.Test.YtbdccfjeeabpaaaShelf
import Derived.Test.YtbdccfjeeabpaaaSa
namespace Go.Proofs.Ytbdccfjeeabpaaa
open Go.RowKit Go.Shelf
open Go.Proofs.YtbdccfjeeabpaaaW.PrintWords (ReadsOf blk_cell add_plain Ev string_of_reads)
open Go.Proofs.YtbdccfjeeabpaaaW
open Go.Proofs.YtbdccfjeeabpaaaW.PrintLast
attribute [local go_sem] Oper.semAt_some
set_option linter.unusedSimpArgs false
set_option linter.unusedVariables false
set_option maxRecDepth 50000
/-- A certificate's bytes, in a block of the reference's own. -/
structure RowC (W : World) (base : Nat) (r : Rw) : Prop where
  c : r.l.length ≤ r.c
  g : ∃ g cur, r.a = some ⟨g, 0, none⟩ ∧ base ≤ g ∧ W.heap[g]? = some (.cells cur 5 (0, 0)) ∧ cur.toList.take r.l.length = r.l.map (Value.int .u8)
  byt : Byt r.l
  n : r.l.length ≤ 65536
def bOf (st : GS) : List Int := if st.ins = true then st.B else []
def laOf (st : GS) : Int := if st.ins = true then st.last else 0
/-- The reference's state. -/
structure RS (base : Nat) (st : GS) (vl vb : Value) (rows : List Rw) (W : World) : Prop where
  l : W.ownsRow base 24 1 vl rows.length (rows.map rwV)
  r : ∀ r ∈ rows, RowC W base r
  b : W.ownsRow base 5 1 vb (bOf st).length ((bOf st).map (Value.int .u8))
  ne : ∀ r ∈ rows, ∀ a, r.a = some a → vb.ownBlock ≠ some a.block
  L : rows.map (·.l) = st.L
  byt : Byt (bOf st)
  nb : (bOf st).length ≤ 65536
  nl : st.L.length ≤ 64 ∧ (st.ins = true → st.L.length < 64)
def stV (st : GS) (vl vb : Value) : Value := .agg #[vl, .bool st.ins, vb, .int .i64 (laOf st)]
theorem RowC.ck {base : Nat} {W W' : World} {r : Rw} (h : RowC W base r) (k : CS base W W') : RowC W' base r := by
  obtain ⟨g, cur, h1, h2, h3, h4⟩ := h.g
  exact ⟨h.c, ⟨g, cur, h1, h2, k g cur 5 h2 h3, h4⟩, h.byt, h.n⟩
theorem RS.ck {base : Nat} {st : GS} {vl vb : Value} {rows : List Rw} {W W' : World} (h : RS base st vl vb rows W) (k : CS base W W') : RS base st vl vb rows W' :=
  ⟨owns_ck h.l k, fun r hr => (h.r r hr).ck k, owns_ck h.b k, h.ne, h.L, h.byt, h.nb, h.nl⟩
/-- What is no row of bytes or of slices stands. -/
def KO (W W' : World) : Prop := ∀ (k : Nat) (c : Array Value) (t : TypeId), t ≠ 5 → t ≠ 24 → W.heap[k]? = some (.cells c t (0, 0)) → W'.heap[k]? = some (.cells c t (0, 0))
theorem ko_below {W W' : World} (hb : Below W.heap.size W W') : KO W W' := fun k c t _ _ h => (hb.block k (Array.getElem?_eq_some_iff.1 h).1).trans h
/-- What a step answers. -/
def StepR (base : Nat) (st : GS) (s : List UInt8) (W : World) (e : Ending) (W' : World) : Prop :=
  Below base W W' ∧ W.heap.size ≤ W'.heap.size ∧ KO W W' ∧ (((gstep st s).2 ≠ 0 ∧ ∃ A B n c m f b i, e = .returned (.tuple #[.agg #[.slice A n c, .bool b, .slice B m f, .int .i64 i], .int .i64 (gstep st s).2])) ∨ ((gstep st s).2 = 0 ∧ ∃ vl vb rows, e = .returned (.tuple #[stV (gstep st s).1 vl vb, .int .i64 0]) ∧ RS base (gstep st s).1 vl vb rows W'))
theorem blk_set {w : World} {g i : Nat} {cs : Array Value} {t : TypeId} {fr : Nat × Nat} (h : w.heap[g]? = some (.cells cs t fr)) (v : Value) : (w.setCell ⟨g, i, none⟩ v).heap[g]? = some (.cells (cs.setIfInBounds i v) t fr) := by
  rw [setCell_eq_setRow w g i cs t fr v h]
  exact setRow_heap w g _ _ t _ h
theorem fin4 {W : World} {k : Nat} {z : Array Value} (h : W.heap[k]? = some (.cells z 67 (0, 0))) (hz : z.size = 4) (a b c d : Value) :
    ((((W.setCell ⟨k, 0, none⟩ a).setCell ⟨k, 1, none⟩ b).setCell ⟨k, 2, none⟩ c).setCell ⟨k, 3, none⟩ d).heap[k]? = some (.cells #[a, b, c, d] 67 (0, 0)) := by
  rw [blk_set (blk_set (blk_set (blk_set h a) b) c) d]
  obtain ⟨l⟩ := z
  rcases l with _ | ⟨z0, _ | ⟨z1, _ | ⟨z2, _ | ⟨z3, _ | ⟨z4, r⟩⟩⟩⟩⟩ <;> simp at hz
  rfl
theorem below4 {base : Nat} {w W : World} {k : Nat} (h : Below base w W) (hk : base ≤ k) (a b c d : Value) : Below base w ((((W.setCell ⟨k, 0, none⟩ a).setCell ⟨k, 1, none⟩ b).setCell ⟨k, 2, none⟩ c).setCell ⟨k, 3, none⟩ d) :=
  (((h.setCell (p := ⟨k, 0, none⟩) hk a).setCell (p := ⟨k, 1, none⟩) hk b).setCell (p := ⟨k, 2, none⟩) hk c).setCell (p := ⟨k, 3, none⟩) hk d
theorem size4 (W : World) (k : Nat) (a b c d : Value) : ((((W.setCell ⟨k, 0, none⟩ a).setCell ⟨k, 1, none⟩ b).setCell ⟨k, 2, none⟩ c).setCell ⟨k, 3, none⟩ d).heap.size = W.heap.size := by simp [World.setCell]
theorem res32 {tmps : Array Value} {W : World} {k : Nat} {a b c d x : Value} (h4 : tmps.getD 4 undef = .pointer (some ⟨k, 0, none⟩)) (h5 : tmps.getD 5 undef = x) (h : W.heap[k]? = some (.cells #[a, b, c, d] 67 (0, 0))) :
    (results Try.f32 tmps).run Try.prog W = .ok (.tuple #[.agg #[a, b, c, d], x]) W := by
  have g4 : tmps[4]?.getD undef = .pointer (some ⟨k, 0, none⟩) := by simpa using h4
  have g5 : tmps[5]?.getD undef = x := by simpa using h5
  have c0 : W.cell? ⟨k, 0, none⟩ = some a := by rw [blk_cell h]; rfl
  have c1 : W.cell? ⟨k, 1, none⟩ = some b := by rw [blk_cell h]; rfl
  have c2 : W.cell? ⟨k, 2, none⟩ = some c := by rw [blk_cell h]; rfl
  have c3 : W.cell? ⟨k, 3, none⟩ = some d := by rw [blk_cell h]; rfl
  simp [results, Try.f32, g4, g5, c0, c1, c2, c3, go_sem]
theorem close32 {R : Ending → World → Prop} {tmps : Array Value} {W : World} {k : Nat} {a b c d x : Value} (h4 : tmps.getD 4 undef = .pointer (some ⟨k, 0, none⟩)) (h5 : tmps.getD 5 undef = x) (h : W.heap[k]? = some (.cells #[a, b, c, d] 67 (0, 0)))
    (hR : R (.returned (.tuple #[.agg #[a, b, c, d], x])) W) : bodyPost Try.prog Try.f32 R .ret { tmps := tmps, defers := [] } W := by
  exact ⟨rfl, _, res32 h4 h5 h, hR⟩
theorem two_below (W : World) (o p : Obj) : Below W.heap.size W ((W.alloc o).alloc p) := ((Below.refl _ W).alloc (Nat.le_refl _) o).alloc (by simp) p
theorem StepR.ok {base : Nat} {st st' : GS} {s : List UInt8} {W W' : World} {vl vb : Value} {rows : List Rw} (hg : gstep st s = (st', 0)) (hbase : base ≤ W.heap.size) (hB : Below base W W') (hK : KO W W') (H : RS base st' vl vb rows W') : StepR base st s W (.returned (.tuple #[stV st' vl vb, .int .i64 0])) W' :=
  ⟨hB, hB.size, hK, .inr (by rw [hg]; exact ⟨rfl, _, _, _, rfl, H⟩)⟩
theorem StepR.bad {base : Nat} {st : GS} {s : List UInt8} {W W' : World} {A B : Option Addr} {n c m f : Nat} {b : Bool} {i : Int} {er : Int} (hg : (gstep st s).2 = er) (he : er ≠ 0) (hbase : base ≤ W.heap.size) (hB : Below base W W') (hK : KO W W') : StepR base st s W (.returned (.tuple #[.agg #[.slice A n c, .bool b, .slice B m f, .int .i64 i], .int .i64 er])) W' :=
  ⟨hB, hB.size, hK, .inl ⟨by rw [hg]; exact he, A, B, n, c, m, f, b, i, by rw [hg]⟩⟩
set_option maxHeartbeats 800000 in
theorem rstep_skip (base : Nat) (st : GS) (vl vb : Value) (rows : List Rw) (s : List UInt8) (W : World) (H : RS base st vl vb rows W) (hbase : base ≤ W.heap.size) (hi : st.ins = false) (hs : s = [] ∨ s.head? = some 35) :
    Calls Try.prog 32 #[stV st vl vb, .string ⟨s.toArray⟩] W (StepR base st s W) := by
  have hg := Lib.hid (show gstep st s = (st, 0) by unfold gstep; rw [if_pos hi, if_pos hs])
  have H0 := Lib.hid H
  obtain ⟨Al, cl, rfl⟩ := own_sl H.l
  obtain ⟨Ab, cb, rfl⟩ := own_sl H.b
  clear H
  have E : ∀ (s : List UInt8) (o p : Obj), gstep st s = (st, 0) → StepR base st s W (.returned (.tuple #[stV st (.slice Al rows.length cl) (.slice Ab (bOf st).length cb), .int .i64 0])) ((W.alloc o).alloc p) := fun s o p hg =>
    .ok hg hbase ((two_below W o p).mono hbase) (ko_below (two_below W o p)) (H0.out.ck (fun k c t hk h => ((two_below W o p).block k (Array.getElem?_eq_some_iff.1 h).1).trans h))
  unfold stV at E ⊢
  rw [hi] at E ⊢
  clear hi
  go_enter Try.func32, Try.ntmps32
  rcases hs with hs | hs
  · subst hs
    go_wp2
    exact close32 (k := W.heap.size + 1) rfl rfl (al_new (by simp)) (E _ _ _ hg.out)
  · obtain ⟨r, rfl⟩ : ∃ r, s = 35 :: r := by
      cases s with
      | nil => cases hs
      | cons a r => simp at hs; exact ⟨r, by rw [hs]⟩
    clear hs
    go_wp2
    exact close32 (k := W.heap.size + 1) rfl rfl (al_new (by simp)) (E _ _ _ hg.out)
set_option maxHeartbeats 1600000 in
theorem rstep_A (base : Nat) (st : GS) (vl vb : Value) (rows : List Rw) (s : List UInt8) (W : World) (H : RS base st vl vb rows W) (hbase : base ≤ W.heap.size) (hi : st.ins = false) (hs : ¬ (s = [] ∨ s.head? = some 35)) (hb : ¬ s = begS) :
    Calls Try.prog 32 #[stV st vl vb, .string ⟨s.toArray⟩] W (StepR base st s W) := by
  have hg := Lib.hid (show (gstep st s).2 = 6 by unfold gstep; rw [if_pos hi, if_neg hs, if_pos hb])
  obtain ⟨Al, cl, rfl⟩ := own_sl H.l
  obtain ⟨Ab, cb, rfl⟩ := own_sl H.b
  have E : ∀ (W' : World) (A' B' : Option Addr) (n' c' m' e' : Nat) (b' : Bool) (i' : Int), Below W.heap.size W W' → StepR base st s W (.returned (.tuple #[.agg #[.slice A' n' c', .bool b', .slice B' m' e', .int .i64 i'], .int .i64 6])) W' := fun W' A' B' n' c' m' e' b' i' hB => .bad hg.out (by decide) hbase (hB.mono hbase) (ko_below hB)
  have h0 : s.isEmpty = false := by
    cases s with
    | nil => exact absurd (.inl rfl) hs
    | cons a r => rfl
  have hlen : 0 < s.length := by
    cases s with
    | nil => cases h0
    | cons a r => simp
  have ha2 : ∀ h, (((((⟨s.toArray⟩ : ByteArray)[0]'h).toNat : Nat) : Int) == 35) = false := by
    intro h
    cases s with
    | nil => cases h0
    | cons a r =>
      simp only [beq_eq_false_iff_ne]
      intro e
      refine hs (.inr ?_)
      have : a.toNat = 35 := by exact_mod_cast e
      rw [show a = 35 from UInt8.toNat_inj.1 (by simpa using this)]
      rfl
  have hb2 : (s == [45, 45, 45, 45, 45, 66, 69, 71, 73, 78, 32, 67, 69, 82, 84, 73, 70, 73, 67, 65, 84, 69, 45, 45, 45, 45, 45]) = false := by simpa [begS] using hb
  clear hs hb
  clear H hg
  unfold stV
  rw [hi]
  clear hi
  generalize (bOf st).length = nB at *
  generalize laOf st = la at *
  go_enter Try.func32, Try.ntmps32
  go_wp2
  exact close32 (k := W.heap.size + 1) rfl rfl (al_new (by simp)) (E _ _ _ _ _ _ _ _ _ (two_below W _ _))
set_option maxHeartbeats 1600000 in
theorem rstep_B (base : Nat) (st : GS) (vl vb : Value) (rows : List Rw) (s : List UInt8) (W : World) (H : RS base st vl vb rows W) (hbase : base ≤ W.heap.size) (hi : st.ins = false) (hb : s = begS) (h64 : st.L.length = 64) :
    Calls Try.prog 32 #[stV st vl vb, .string ⟨s.toArray⟩] W (StepR base st s W) := by
  have hg := Lib.hid (show (gstep st s).2 = 3 by subst hb; unfold gstep; rw [if_pos hi, if_neg (by simp [begS]), if_neg (by simp), if_pos h64])
  obtain ⟨Al, cl, rfl⟩ := own_sl H.l
  obtain ⟨Ab, cb, rfl⟩ := own_sl H.b
  have E : ∀ (W' : World) (A' B' : Option Addr) (n' c' m' e' : Nat) (b' : Bool) (i' : Int), Below W.heap.size W W' → StepR base st s W (.returned (.tuple #[.agg #[.slice A' n' c', .bool b', .slice B' m' e', .int .i64 i'], .int .i64 3])) W' := fun W' A' B' n' c' m' e' b' i' hB => .bad hg.out (by decide) hbase (hB.mono hbase) (ko_below hB)
  have hr64 : rows.length = 64 := by rw [← h64, ← H.L, List.length_map]
  rw [hr64]
  clear H hg
  unfold stV
  rw [hi]
  clear hi
  subst hb
  unfold begS at E ⊢
  clear h64 hr64
  generalize (bOf st).length = nB at *
  generalize laOf st = la at *
  go_enter Try.func32, Try.ntmps32
  go_wp2
  exact close32 (k := W.heap.size + 1) rfl rfl (al_new (by simp)) (E _ _ _ _ _ _ _ _ _ (two_below W _ _))
set_option maxHeartbeats 1600000 in
theorem rstep_D (base : Nat) (st : GS) (vl vb : Value) (rows : List Rw) (s : List UInt8) (W : World) (H : RS base st vl vb rows W) (hbase : base ≤ W.heap.size) (hi : st.ins = true) (hs : s = endS) (hB : st.B = []) :
    Calls Try.prog 32 #[stV st vl vb, .string ⟨s.toArray⟩] W (StepR base st s W) := by
  have hg := Lib.hid (show (gstep st s).2 = 17 by subst hs; unfold gstep; rw [if_neg (by rw [hi]; decide), if_pos rfl, if_pos hB])
  obtain ⟨Al, cl, rfl⟩ := own_sl H.l
  obtain ⟨Ab, cb, rfl⟩ := own_sl H.b
  have E : ∀ (W' : World) (A' B' : Option Addr) (n' c' m' e' : Nat) (b' : Bool) (i' : Int), Below W.heap.size W W' → StepR base st s W (.returned (.tuple #[.agg #[.slice A' n' c', .bool b', .slice B' m' e', .int .i64 i'], .int .i64 17])) W' := fun W' A' B' n' c' m' e' b' i' hB => .bad hg.out (by decide) hbase (hB.mono hbase) (ko_below hB)
  have hb0 : (bOf st).length = 0 := by unfold bOf; rw [if_pos hi, hB]; rfl
  rw [hb0]
  clear H hg
  unfold stV
  rw [hi]
  clear hi
  subst hs
  unfold endS at E ⊢
  clear hB hb0
  generalize laOf st = la at *
  go_enter Try.func32, Try.ntmps32
  go_wp2
  exact close32 (k := W.heap.size + 1) rfl rfl (al_new (by simp)) (E _ _ _ _ _ _ _ _ _ (two_below W _ _))
set_option maxHeartbeats 1600000 in
theorem rstep_F1 (base : Nat) (st : GS) (vl vb : Value) (rows : List Rw) (s : List UInt8) (W : World) (H : RS base st vl vb rows W) (hbase : base ≤ W.heap.size) (hi : st.ins = true) (hs : ¬ s = endS) (h1 : st.last < 48) :
    Calls Try.prog 32 #[stV st vl vb, .string ⟨s.toArray⟩] W (StepR base st s W) := by
  have hg := Lib.hid (show (gstep st s).2 = 10 by unfold gstep; rw [if_neg (by rw [hi]; decide), if_neg hs, if_pos]; exact .inl h1)
  obtain ⟨Al, cl, rfl⟩ := own_sl H.l
  obtain ⟨Ab, cb, rfl⟩ := own_sl H.b
  have E : ∀ (W' : World) (A' B' : Option Addr) (n' c' m' e' : Nat) (b' : Bool) (i' : Int), Below W.heap.size W W' → StepR base st s W (.returned (.tuple #[.agg #[.slice A' n' c', .bool b', .slice B' m' e', .int .i64 i'], .int .i64 10])) W' := fun W' A' B' n' c' m' e' b' i' hB => .bad hg.out (by decide) hbase (hB.mono hbase) (ko_below hB)
  have hb2 : (s == [45, 45, 45, 45, 45, 69, 78, 68, 32, 67, 69, 82, 84, 73, 70, 73, 67, 65, 84, 69, 45, 45, 45, 45, 45]) = false := by simpa [endS] using hs
  have hla : laOf st = st.last := by unfold laOf; rw [if_pos hi]
  rw [← hla] at h1
  clear hla hs
  clear H hg
  unfold stV
  rw [hi]
  clear hi
  generalize (bOf st).length = nB at *
  generalize laOf st = la at *
  go_enter Try.func32, Try.ntmps32
  go_wp2
  exact close32 (k := W.heap.size + 1) rfl rfl (al_new (by simp)) (E _ _ _ _ _ _ _ _ _ (two_below W _ _))
set_option maxHeartbeats 1600000 in
theorem rstep_F2 (base : Nat) (st : GS) (vl vb : Value) (rows : List Rw) (s : List UInt8) (W : World) (H : RS base st vl vb rows W) (hbase : base ≤ W.heap.size) (hi : st.ins = true) (hs : ¬ s = endS) (h1 : ¬ st.last < 48) (h2 : s = []) :
    Calls Try.prog 32 #[stV st vl vb, .string ⟨s.toArray⟩] W (StepR base st s W) := by
  have hg := Lib.hid (show (gstep st s).2 = 10 by unfold gstep; rw [if_neg (by rw [hi]; decide), if_neg hs, if_pos]; exact .inr (.inl h2))
  obtain ⟨Al, cl, rfl⟩ := own_sl H.l
  obtain ⟨Ab, cb, rfl⟩ := own_sl H.b
  have E : ∀ (W' : World) (A' B' : Option Addr) (n' c' m' e' : Nat) (b' : Bool) (i' : Int), Below W.heap.size W W' → StepR base st s W (.returned (.tuple #[.agg #[.slice A' n' c', .bool b', .slice B' m' e', .int .i64 i'], .int .i64 10])) W' := fun W' A' B' n' c' m' e' b' i' hB => .bad hg.out (by decide) hbase (hB.mono hbase) (ko_below hB)
  have hb2 : (s == [45, 45, 45, 45, 45, 69, 78, 68, 32, 67, 69, 82, 84, 73, 70, 73, 67, 65, 84, 69, 45, 45, 45, 45, 45]) = false := by simpa [endS] using hs
  have hla : laOf st = st.last := by unfold laOf; rw [if_pos hi]
  rw [← hla] at h1
  have h2e : s.isEmpty = true := by rw [h2]; rfl
  clear hla hs h2
  clear H hg
  unfold stV
  rw [hi]
  clear hi
  generalize (bOf st).length = nB at *
  generalize laOf st = la at *
  go_enter Try.func32, Try.ntmps32
  go_wp2
  exact close32 (k := W.heap.size + 1) rfl rfl (al_new (by simp)) (E _ _ _ _ _ _ _ _ _ (two_below W _ _))
set_option maxHeartbeats 1600000 in
theorem rstep_F3 (base : Nat) (st : GS) (vl vb : Value) (rows : List Rw) (s : List UInt8) (W : World) (H : RS base st vl vb rows W) (hbase : base ≤ W.heap.size) (hi : st.ins = true) (hs : ¬ s = endS) (h1 : ¬ st.last < 48) (h2 : ¬ s = []) (h3 : 64 < s.length) :
    Calls Try.prog 32 #[stV st vl vb, .string ⟨s.toArray⟩] W (StepR base st s W) := by
  have hg := Lib.hid (show (gstep st s).2 = 10 by unfold gstep; rw [if_neg (by rw [hi]; decide), if_neg hs, if_pos]; exact .inr (.inr h3))
  obtain ⟨Al, cl, rfl⟩ := own_sl H.l
  obtain ⟨Ab, cb, rfl⟩ := own_sl H.b
  have E : ∀ (W' : World) (A' B' : Option Addr) (n' c' m' e' : Nat) (b' : Bool) (i' : Int), Below W.heap.size W W' → StepR base st s W (.returned (.tuple #[.agg #[.slice A' n' c', .bool b', .slice B' m' e', .int .i64 i'], .int .i64 10])) W' := fun W' A' B' n' c' m' e' b' i' hB => .bad hg.out (by decide) hbase (hB.mono hbase) (ko_below hB)
  have hb2 : (s == [45, 45, 45, 45, 45, 69, 78, 68, 32, 67, 69, 82, 84, 73, 70, 73, 67, 65, 84, 69, 45, 45, 45, 45, 45]) = false := by simpa [endS] using hs
  have hla : laOf st = st.last := by unfold laOf; rw [if_pos hi]
  rw [← hla] at h1
  have h2e : s.isEmpty = false := by simpa using h2
  have h3i : (64 : Int) < (s.length : Int) := by omega
  clear hla hs h2
  clear H hg
  unfold stV
  rw [hi]
  clear hi
  generalize (bOf st).length = nB at *
  generalize laOf st = la at *
  go_enter Try.func32, Try.ntmps32
  go_wp2
  exact close32 (k := W.heap.size + 1) rfl rfl (al_new (by simp)) (E _ _ _ _ _ _ _ _ _ (two_below W _ _))
end Go.Proofs.Ytbdccfjeeabpaaa
namespace Go.Proofs.Ytbdccfjeeabpaaa
open Go.RowKit Go.Shelf
open Go.Proofs.YtbdccfjeeabpaaaW.PrintWords (ReadsOf blk_cell add_plain Ev string_of_reads)
open Go.Proofs.YtbdccfjeeabpaaaW
open Go.Proofs.YtbdccfjeeabpaaaW.PrintLast
attribute [local go_sem] Oper.semAt_some
set_option linter.unusedSimpArgs false
set_option linter.unusedVariables false
set_option maxRecDepth 50000
/-- The two boxes of a step. -/
structure BoxF (W : World) (a b c d : Value) (W1 : World) : Prop where
  x : W1.heap[W.heap.size]? = some (.cells #[a, b, c, d] 67 (0, 0))
  z : W1.heap[W.heap.size + 1]? = some (.cells #[.slice none 0 0, .bool false, .slice none 0 0, .int .i64 0] 67 (0, 0))
theorem BoxF.two (W : World) (a b c d : Value) : BoxF W a b c d ((W.alloc (.cells #[a, b, c, d] 67)).alloc (.cells #[.slice none 0 0, .bool false, .slice none 0 0, .int .i64 0] 67)) :=
  ⟨al_old (al_new rfl), al_new (by simp)⟩
theorem BoxF.below {W W1 W2 : World} {a b c d : Value} (h : BoxF W a b c d W1) (hb : Below W1.heap.size W1 W2) : BoxF W a b c d W2 :=
  ⟨(hb.block _ (Array.getElem?_eq_some_iff.1 h.x).1).trans h.x, (hb.block _ (Array.getElem?_eq_some_iff.1 h.z).1).trans h.z⟩
theorem BoxF.grown {W W1 W2 : World} {a b c d : Value} {row : Option Nat} (h : BoxF W a b c d W1) (hg : W1.grownBy W2 row) (hr : ∀ k, row = some k → k < W.heap.size) : BoxF W a b c d W2 :=
  ⟨(hg.block _ (Array.getElem?_eq_some_iff.1 h.x).1 (fun e => by have := hr _ e.symm; omega)).trans h.x, (hg.block _ (Array.getElem?_eq_some_iff.1 h.z).1 (fun e => by have := hr _ e.symm; omega)).trans h.z⟩
theorem cellAt {W : World} {k : Nat} {cs : Array Value} {t : TypeId} (h : W.heap[k]? = some (.cells cs t (0, 0))) (i : Nat) : W.cell? ⟨k, i, none⟩ = cs[i]? := by rw [blk_cell h]
theorem frAt {W : World} {k : Nat} {cs : Array Value} {t : TypeId} (h : W.heap[k]? = some (.cells cs t (0, 0))) (i : Nat) : W.frozen? ⟨k, i, none⟩ = false := by simp [World.frozen?, h]
set_option maxHeartbeats 1600000 in
theorem rstep_C (base : Nat) (st : GS) (vl vb : Value) (rows : List Rw) (s : List UInt8) (W : World) (H : RS base st vl vb rows W) (hbase : base ≤ W.heap.size) (hi : st.ins = false) (hb : s = begS) (h64 : ¬ st.L.length = 64) :
    Calls Try.prog 32 #[stV st vl vb, .string ⟨s.toArray⟩] W (StepR base st s W) := by
  have hg := Lib.hid (show gstep st s = (⟨st.L, true, [], 48⟩, 0) by subst hb; unfold gstep; rw [if_pos hi, if_neg (by simp [begS]), if_neg (by simp), if_neg h64])
  have H0 := Lib.hid H
  obtain ⟨Al, cl, rfl⟩ := own_sl H.l
  obtain ⟨Ab, cb, rfl⟩ := own_sl H.b
  have hr64 : ((rows.length : Int) == 64) = false := by
    have : rows.length = st.L.length := by rw [← H.L, List.length_map]
    simp only [beq_eq_false_iff_ne]; omega
  have nl := H.nl.1
  clear H
  have E : ∀ (o p : Obj), StepR base st s W (.returned (.tuple #[.agg #[.slice Al rows.length cl, .bool true, .slice none 0 0, .int .i64 48], .int .i64 0])) ((W.alloc o).alloc p) := fun o p =>
    .ok (st' := ⟨st.L, true, [], 48⟩) (vl := .slice Al rows.length cl) (vb := .slice none 0 0) (rows := rows) hg.out hbase ((two_below W o p).mono hbase) (ko_below (two_below W o p)) (by
      have h := H0.out.ck (fun k c t hk h => ((two_below W o p).block k (Array.getElem?_eq_some_iff.1 h).1).trans h)
      exact ⟨h.l, h.r, ⟨rfl, .inl ⟨rfl, rfl⟩⟩, fun _ _ _ _ => by simp [Value.ownBlock], h.L, fun _ h => absurd h List.not_mem_nil, by simp [bOf], ⟨nl, fun _ => by show st.L.length < 64; omega⟩⟩)
  subst hb
  unfold begS at E ⊢
  clear hg h64 nl
  unfold stV
  rw [hi]
  clear hi
  generalize (bOf st).length = nB at *
  generalize laOf st = la at *
  go_enter Try.func32, Try.ntmps32
  go_wp2
  exact close32 (k := W.heap.size + 1) rfl rfl (al_new (by simp)) (E _ _)
set_option maxHeartbeats 1600000 in
theorem rstep_G (base : Nat) (st : GS) (vl vb : Value) (rows : List Rw) (s : List UInt8) (W : World) (H : RS base st vl vb rows W) (hbase : base ≤ W.heap.size) (hi : st.ins = true) (hs : ¬ s = endS) (h1 : ¬ st.last < 48) (h2 : ¬ s = []) (h3 : ¬ 64 < s.length) (p : List Int) (er : Int) (hp : decP s = (p, er)) (he : er ≠ 0) :
    Calls Try.prog 32 #[stV st vl vb, .string ⟨s.toArray⟩] W (StepR base st s W) := by
  have hg := Lib.hid (show (gstep st s).2 = er by unfold gstep; rw [if_neg (by rw [hi]; decide), if_neg hs, if_neg (by rintro (h | h | h) <;> contradiction), hp, if_pos he])
  obtain ⟨Al, cl, rfl⟩ := own_sl H.l
  obtain ⟨Ab, cb, rfl⟩ := own_sl H.b
  have E : ∀ (W' : World) (A' B' : Option Addr) (n' c' m' e' : Nat) (b' : Bool) (i' : Int), Below W.heap.size W W' → StepR base st s W (.returned (.tuple #[.agg #[.slice A' n' c', .bool b', .slice B' m' e', .int .i64 i'], .int .i64 er])) W' := fun W' A' B' n' c' m' e' b' i' hB => .bad hg.out he hbase (hB.mono hbase) (ko_below hB)
  have hb2 : (s == [45, 45, 45, 45, 45, 69, 78, 68, 32, 67, 69, 82, 84, 73, 70, 73, 67, 65, 84, 69, 45, 45, 45, 45, 45]) = false := by simpa [endS] using hs
  have hla : laOf st = st.last := by unfold laOf; rw [if_pos hi]
  rw [← hla] at h1
  have h2e : s.isEmpty = false := by simpa using h2
  have h3i : ¬ (64 : Int) < (s.length : Int) := by omega
  have he' : (er == 0) = false := by simpa using he
  have hsz : (⟨s.toArray⟩ : ByteArray).size ≤ 1000000000 := by show s.toArray.size ≤ _; rw [List.size_toArray]; omega
  have hp' : decP (⟨s.toArray⟩ : ByteArray).data.toList = (p, er) := hp
  clear H hg hla hs h2 he
  unfold stV
  rw [hi]
  clear hi
  generalize (bOf st).length = nB at *
  generalize laOf st = la at *
  go_enter Try.func32, Try.ntmps32
  go_upto_region 15 with fail
  have B0 := Lib.hid (BoxF.two W (.slice Al rows.length cl) (.bool true) (.slice Ab nB cb) (.int .i64 la))
  have BB := Lib.hid (two_below W (.cells #[.slice Al rows.length cl, .bool true, .slice Ab nB cb, .int .i64 la] 67) (.cells #[.slice none 0 0, .bool false, .slice none 0 0, .int .i64 0] 67))
  generalize (W.alloc (.cells #[.slice Al rows.length cl, .bool true, .slice Ab nB cb, .int .i64 la] 67)).alloc (.cells #[.slice none 0 0, .bool false, .slice none 0 0, .int .i64 0] 67) = W2 at *
  go_upto_region 17 with (go_at_call 19; refine (refDec_any ⟨s.toArray⟩ _ hsz p er hp').mono ?_; rintro e w1 ⟨A, c, rfl, hc, hr, hb⟩; have B1 := Lib.hid (B0.out.below hb); have BB1 := Lib.hid (chainB BB.out rfl hb); clear hc hr hb)
  have c0 := cellAt B1.out.x 0
  have c1 := cellAt B1.out.x 1
  have c2 := cellAt B1.out.x 2
  have c3 := cellAt B1.out.x 3
  have d0 := cellAt B1.out.z 0
  have d1 := cellAt B1.out.z 1
  have d2 := cellAt B1.out.z 2
  have d3 := cellAt B1.out.z 3
  have f0 := frAt B1.out.z 0
  have f1 := frAt B1.out.z 1
  have f2 := frAt B1.out.z 2
  have f3 := frAt B1.out.z 3
  simp at c0 c1 c2 c3 d0 d1 d2 d3
  go_wp2
  exact close32 (k := W.heap.size + 1) rfl rfl (fin4 B1.out.z rfl _ _ _ _) (E _ _ _ _ _ _ _ _ _ (below4 BB1.out (by omega) _ _ _ _))
end Go.Proofs.Ytbdccfjeeabpaaa
namespace Go.Proofs.Ytbdccfjeeabpaaa
open Go.RowKit Go.Shelf
open Go.Proofs.YtbdccfjeeabpaaaW.PrintWords (rd bt Ev)
set_option linter.unusedSimpArgs false
set_option linter.unusedVariables false
set_option maxRecDepth 50000
theorem al_35 : ∀ v : Fin 64, al (v.val : Int) ≠ 35 := by decide +kernel
theorem chr_35 (x : List Int) (j : Nat) : chr x j ≠ 35 := by
  unfold chr
  split
  · decide
  · have h0 : 0 ≤ bts x / 2 ^ (18 - 6 * j) % 64 := Int.emod_nonneg _ (by decide)
    have h1 : bts x / 2 ^ (18 - 6 * j) % 64 < 64 := Int.emod_lt_of_pos _ (by decide)
    generalize bts x / 2 ^ (18 - 6 * j) % 64 = v at *
    obtain ⟨m, rfl⟩ := Int.eq_ofNat_of_zero_le h0
    exact al_35 ⟨m, by omega⟩
theorem e4_35 (x : List Int) : ∀ v ∈ e4 x, v ≠ 35 := by
  intro v hv
  unfold e4 at hv
  simp only [List.mem_cons, List.not_mem_nil, or_false] at hv
  rcases hv with rfl | rfl | rfl | rfl <;> exact chr_35 _ _
theorem encR_35 : ∀ (l : List Int), ∀ v ∈ encR l, v ≠ 35
  | [], v, hv => by cases hv
  | [a], v, hv => e4_35 _ v hv
  | [a, b], v, hv => e4_35 _ v hv
  | a :: b :: c :: r, v, hv => by
    rcases List.mem_append.1 hv with h | h
    · exact e4_35 _ v h
    · exact encR_35 r v h
theorem encS_35 (l : List Int) : ∀ c ∈ encS l, c ≠ 35 := by
  intro c hc
  unfold encS b8 at hc
  rw [encB_encR] at hc
  obtain ⟨v, hv, rfl⟩ := List.mem_map.1 hc
  exact u8_ne v (encR_ne l v hv).1 35 (by omega) (encR_35 l v hv)
def skipL (s : List UInt8) : Prop := s = [] ∨ s.head? = some 35
instance (s : List UInt8) : Decidable (skipL s) := by unfold skipL; infer_instance
/-- A line that is not skipped. -/
def keepL (s : List UInt8) : List UInt8 := if skipL s then [] else s ++ [10]
def restL (ls : List (List UInt8)) : List UInt8 := ls.flatMap keepL
def preT (x : GS) : List UInt8 := x.L.flatMap cerS ++ (if x.ins = true then begN ++ linR x.B else [])
def IVs (x : GS) : Prop := x.ins = true → 48 ≤ x.last → x.B.length % 48 = 0
theorem gstep_pre {x : GS} {s : List UInt8} (h : (gstep x s).2 = 0) (hv : IVs x) : preT (gstep x s).1 = preT x ++ keepL s ∧ IVs (gstep x s).1 := by
  unfold gstep at h ⊢
  by_cases hi : x.ins = false
  · rw [if_pos hi] at h ⊢
    by_cases hs : s = [] ∨ s.head? = some 35
    · rw [if_pos hs] at h ⊢
      refine ⟨?_, hv⟩
      unfold keepL
      rw [if_pos (show skipL s from hs), List.append_nil]
    · rw [if_neg hs] at h ⊢
      by_cases hb : s ≠ begS
      · rw [if_pos hb] at h; cases h
      · rw [if_neg hb] at h ⊢
        by_cases h64 : x.L.length = 64
        · rw [if_pos h64] at h; cases h
        · rw [if_neg h64] at h ⊢
          have hb : s = begS := Classical.not_not.1 hb
          subst hb
          refine ⟨?_, fun _ _ => rfl⟩
          unfold preT keepL
          rw [if_neg (show ¬ skipL begS from hs)]
          simp [linR_nil, begS, hi]
  · have hi' : x.ins = true := by simpa using hi
    rw [if_neg hi] at h ⊢
    by_cases hs : s = endS
    · rw [if_pos hs] at h ⊢
      by_cases hB : x.B = []
      · rw [if_pos hB] at h; cases h
      · rw [if_neg hB] at h ⊢
        subst hs
        refine ⟨?_, fun h => by cases h⟩
        unfold preT keepL
        rw [if_pos hi', if_neg (by simp), if_neg (by unfold skipL endS; simp)]
        simp [cerS, linS_linR, endS]
    · rw [if_neg hs] at h ⊢
      by_cases h1 : x.last < 48 ∨ s = [] ∨ 64 < s.length
      · rw [if_pos h1] at h; cases h
      · rw [if_neg h1] at h ⊢
        by_cases hd : (decP s).2 ≠ 0
        · rw [if_pos hd] at h; exact absurd h hd
        · rw [if_neg hd] at h ⊢
          by_cases hz : 65536 < x.B.length + (decP s).1.length
          · rw [if_pos hz] at h; cases h
          · rw [if_neg hz] at h ⊢
            have hd : (decP s).2 = 0 := Classical.not_not.1 hd
            obtain ⟨hby, he⟩ := enc_dec (L := s) (b := (decP s).1) (by rw [← hd])
            have hl := encS_len4 (decP s).1
            rw [he] at hl
            have hs0 : s ≠ [] := fun e => h1 (.inr (.inl e))
            have hs1 := List.length_pos_iff.2 hs0
            have h64 : s.length ≤ 64 := by omega
            have hp0 : (decP s).1 ≠ [] := fun e => by rw [e, List.length_nil] at hl; omega
            have hm := hv hi' (by omega)
            refine ⟨?_, fun _ h48 => ?_⟩
            · unfold preT keepL
              rw [if_pos hi', if_pos rfl, if_neg (by
                rintro (h | h)
                · exact hs0 h
                · cases hq : s with
                  | nil => exact hs0 hq
                  | cons a r =>
                    rw [hq] at h
                    have ha : a = 35 := by simpa using h
                    exact encS_35 (decP s).1 35 (by rw [he, hq, ha]; simp) rfl)]
              show _ ++ (begN ++ linR (x.B ++ (decP s).1)) = _
              have h48 : (decP s).1.length ≤ 48 := by clear he; omega
              rw [linR_append (x.B.length / 48) _ _ (by omega), linR_short _ hp0 h48, he]
              simp
            · show (x.B ++ (decP s).1).length % 48 = 0
              have h48 : (48 : Int) ≤ ((decP s).1.length : Int) := h48
              rw [List.length_append]
              omega
theorem gall_rest : ∀ (ls : List (List UInt8)) (x : GS) (k : Nat) (L : List (List Int)) (n : Int), IVs x → gall x k ls = (L, n, 0) → L.flatMap cerS = preT x ++ restL ls
  | [], x, k, L, n, hv, h => by
    unfold gall at h
    by_cases hi : x.ins = true
    · rw [if_pos hi] at h; simp at h
    · rw [if_neg hi] at h
      obtain ⟨rfl, _⟩ := by simpa using h
      unfold preT
      rw [if_neg hi]
      simp [restL]
  | s :: r, x, k, L, n, hv, h => by
    unfold gall at h
    by_cases he : (gstep x s).2 ≠ 0
    · rw [if_pos he] at h
      have : (gstep x s).2 = 0 := by simp at h; exact h.2.2
      exact absurd this he
    · rw [if_neg he] at h
      obtain ⟨h1, h2⟩ := gstep_pre (Classical.not_not.1 he) hv
      rw [gall_rest r _ (k + 1) L n h2 h, h1, List.append_assoc]
      rfl
theorem lineR_sum (s : List UInt8) : (lineF s).length + (lineR s).length ≤ s.length ∧ (lineR s ≠ [] → (lineF s).length + 1 + (lineR s).length ≤ s.length) := by
  have h := congrArg List.length (List.takeWhile_append_dropWhile (p := (· != 10)) (l := s))
  rw [List.length_append] at h
  unfold lineF lineR
  rw [List.length_drop]
  refine ⟨by omega, fun hne => ?_⟩
  have := List.length_pos_iff.2 hne
  rw [List.length_drop] at this
  omega
theorem keepL_len (s : List UInt8) : (keepL s).length ≤ s.length + 1 := by
  unfold keepL
  split <;> simp
theorem rest_len : ∀ (n : Nat) (s : List UInt8), s.length ≤ n → (restL (lns s)).length ≤ s.length + 1
  | n, s, h => by
    by_cases h0 : s = []
    · subst h0; rw [lns_nil]; simp [restL]
    · obtain ⟨m, rfl⟩ : ∃ m, n = m + 1 := ⟨n - 1, by have := List.length_pos_iff.2 h0; omega⟩
      have hl := lineR_len s h0
      have ih := rest_len m (lineR s) (by omega)
      rw [lns_cons h0]
      have e : restL (lineF s :: lns (lineR s)) = keepL (lineF s) ++ restL (lns (lineR s)) := rfl
      have hk := keepL_len (lineF s)
      have hs := lineR_sum s
      rw [e, List.length_append]
      by_cases hr : lineR s = []
      · rw [hr, lns_nil]
        simp [restL]
        omega
      · have := hs.2 hr
        omega
theorem putS_map (rows : List Rw) : putS rows = (rows.map (·.l)).flatMap cerS := by
  unfold putS; rw [List.flatMap_map]
theorem cer_len (L : List (List Int)) : 54 * L.length ≤ (L.flatMap cerS).length := by
  induction L with
  | nil => simp
  | cons x t ih =>
    rw [List.flatMap_cons, List.length_append, List.length_cons]
    have : 54 ≤ (cerS x).length := by unfold cerS; rw [List.length_append, List.length_append]; simp
    omega
/-- WHAT Get READS, Put WRITES: the text without the lines that are skipped. -/
theorem rest_put {s : List UInt8} {rows : List Rw} {n : Int} (hs : s.length ≤ 3000) (h : getP s = (rows.map (·.l), n, 0)) (hr : ∀ r ∈ rows, 1 ≤ r.l.length ∧ r.l.length ≤ 65536) : putP rows = (restL (lns s), 0) := by
  unfold getP at h
  rw [if_neg (by omega)] at h
  have h1 := gall_rest (lns s) gs0 0 _ _ (fun h => by cases h) h
  have e0 : preT gs0 = [] := by simp [preT, gs0]
  rw [e0, List.nil_append, ← putS_map] at h1
  have h2 := rest_len s.length s (Nat.le_refl _)
  have h3 := cer_len (rows.map (·.l))
  rw [← putS_map, h1, List.length_map] at h3
  have hc : chkR rows = 0 := by
    clear h1 h2 h3 h
    induction rows with
    | nil => rfl
    | cons x t ih =>
      have := hr x (by simp)
      unfold chkR
      rw [if_neg (by omega), if_neg (by omega)]
      exact ih (fun r h => hr r (List.mem_cons_of_mem _ h))
  unfold putP
  rw [if_neg (by omega), if_neg (by rw [hc]; simp), if_neg (by rw [h1]; omega), h1]
def mkS (l : List UInt8) : ByteArray := ⟨l.toArray⟩
theorem lns_one {Q : List UInt8} (h : ∀ c ∈ Q, c ≠ 10) (h0 : Q ≠ []) : lns Q = [Q] := by
  have h' : ∀ c ∈ Q, (c != 10) = true := fun c hc => by simpa using h c hc
  have e1 : lineF Q = Q := by
    unfold lineF
    have := List.takeWhile_append_of_pos (l₂ := []) h'
    simpa using this
  have e2 : lineR Q = [] := by
    unfold lineR
    have := List.dropWhile_append_of_pos (l₂ := []) h'
    simp at this
    simp [this]
  rw [lns_cons h0, e1, e2, lns_nil]
theorem lines_go (s : ByteArray) (hs : s.size ≤ 1000000000) : ∀ (R P Q : List UInt8) (out : List ByteArray), s.data.toList = P ++ Q ++ R → (∀ c ∈ Q, c ≠ 10) → out.length ≤ P.length →
    Ev (fun k => Pr.vidimusref22_Lines.l0 k s out (P.length : Int) ((P.length + Q.length : Nat) : Int)) (out ++ (lns (Q ++ R)).map mkS) := by
  have hsl : s.data.toList.length = s.size := by rw [Array.length_toList]; rfl
  have ex : ∀ (P Q R : List UInt8), s.data.toList = P ++ Q ++ R → s.extract P.length (P.length + Q.length) = mkS Q := fun P Q R e => by
    refine ba_eq ?_
    simp [mkS, ByteArray.data_extract, Array.toList_extract, e, List.extract_eq_take_drop]
  intro R
  induction R with
  | nil =>
    intro P Q out hS hQ ho
    rw [List.append_nil] at hS ⊢
    have hz : s.size = P.length + Q.length := by rw [← hsl, hS, List.length_append]
    refine Ev.step (f := fun _ => some (out ++ (lns Q).map mkS)) (fun k => ?_) (Ev.now _)
    simp only [Pr.vidimusref22_Lines.l0]
    rw [if_neg (by omega)]
    by_cases h0 : Q = []
    · subst h0
      rw [if_neg (by simp at hz; omega), lns_nil]
      simp
    · have := List.length_pos_iff.2 h0
      rw [if_pos (by omega), if_pos (by omega), if_pos (by omega), if_pos (by omega), lns_one hQ h0]
      have := ex P Q [] (by rw [hS, List.append_nil])
      rw [Int.toNat_natCast, hz, this]
      rfl
  | cons c R ih =>
    intro P Q out hS hQ ho
    have hz : s.size = P.length + Q.length + (R.length + 1) := by rw [← hsl, hS]; simp; omega
    have hc : bt s ((P.length + Q.length : Nat) : Int) = (c.toNat : Int) := by
      unfold bt
      have hlt : (((P.length + Q.length : Nat) : Int)).toNat < s.size := by rw [Int.toNat_natCast]; omega
      rw [dif_pos hlt]
      have e : s.data.toList[P.length + Q.length]? = some c := by rw [hS]; simp
      have e2 : s[(((P.length + Q.length : Nat) : Int)).toNat]'hlt = c := by
        have h3 : s.data[P.length + Q.length]? = some c := by rw [← Array.getElem?_toList]; exact e
        obtain ⟨hh, h4⟩ := Array.getElem?_eq_some_iff.1 h3
        exact h4
      rw [e2]
    have hw : ∀ n : Nat, n ≤ 1000000000 → wrap64 ((n : Int) + 1) = ((n + 1 : Nat) : Int) := fun n hn => by unfold wrap64; omega
    by_cases h10 : c = 10
    · subst h10
      have ihh := ih (P ++ Q ++ [10]) [] (out ++ [mkS Q]) (by rw [hS]; simp) (by simp) (by simp; omega)
      refine Ev.step (f := fun k => Pr.vidimusref22_Lines.l0 k s (out ++ [mkS Q]) ((P.length + Q.length + 1 : Nat) : Int) ((P.length + Q.length + 1 : Nat) : Int)) (fun k => ?_) ?_
      · simp only [Pr.vidimusref22_Lines.l0]
        rw [if_pos (by omega), if_pos (by omega), if_pos (by rw [hc]; rfl), if_pos (by omega), if_pos (by omega), if_pos (by omega), if_pos (by omega), Int.toNat_natCast, Int.toNat_natCast, ex P Q _ hS, hw _ (by omega)]
      · have e : (P ++ Q ++ [10]).length = P.length + Q.length + 1 := by simp; omega
        rw [e] at ihh
        rw [lns_app Q R hQ]
        simpa using ihh
    · have ihh := ih P (Q ++ [c]) out (by rw [hS]; simp) (fun x hx => by
        rcases List.mem_append.1 hx with h | h
        · exact hQ x h
        · rw [List.mem_singleton.1 h]; exact h10) ho
      refine Ev.step (f := fun k => Pr.vidimusref22_Lines.l0 k s out (P.length : Int) ((P.length + Q.length + 1 : Nat) : Int)) (fun k => ?_) ?_
      · simp only [Pr.vidimusref22_Lines.l0]
        rw [if_pos (by omega), if_pos (by omega), if_neg (by
          rw [hc]
          intro e
          exact h10 (UInt8.toNat_inj.1 (by exact_mod_cast e))), hw _ (by omega)]
      · have e : (Q ++ [c]).length = Q.length + 1 := by simp
        rw [e, ← Nat.add_assoc] at ihh
        rw [List.append_assoc] at ihh
        exact ihh
theorem lines_ev (s : ByteArray) (hs : s.size ≤ 1000000000) : Ev (fun k => Pr.vidimusref22_Lines.f k s) ((lns s.data.toList).map mkS) := by
  have := lines_go s hs s.data.toList [] [] [] (by simp) (by simp) (Nat.le_refl _)
  unfold Pr.vidimusref22_Lines.f
  simpa using this
end Go.Proofs.Ytbdccfjeeabpaaa
namespace Go.Proofs.Ytbdccfjeeabpaaa
open Go.RowKit Go.Shelf
open Go.Proofs.YtbdccfjeeabpaaaW.PrintWords (ReadsOf blk_cell add_plain Ev string_of_reads)
open Go.Proofs.YtbdccfjeeabpaaaW
open Go.Proofs.YtbdccfjeeabpaaaW.PrintLast
attribute [local go_sem] Oper.semAt_some
set_option linter.unusedSimpArgs false
set_option linter.unusedVariables false
set_option maxRecDepth 50000
theorem appV {P : Program} {w W' : World} {ops : Array Oper} {rest : List Oper} {o : Oper} {a : Act} {Q : Exit → Act → World → Prop} (hg : o.guard = none) (s x : Operand) (t u : TypeId)
    (ho : o.op = .call { callee := .builtin .append, args := #[s, x], argTypes := #[t, u] }) {vs vx v : Value} (hs : a.eval s = vs) (hx : a.eval x = vx) (hrun : (Builtin.append_ #[t, u] o.type #[vs, vx]).run P w = .ok v W')
    (h : wpList P ops Q rest (a.put o.dst v) W') : wpList P ops Q (o :: rest) a w := by
  refine wpList_plain hg fun K hK => ?_
  unfold Oper.wp
  simp [execOp, ho, resolve, invoke, builtin, hs, hx, hrun, Result.andThen]
  exact hK _ _ h
theorem store_in {P : Program} {ops : Array Oper} {oi : Oper} {a a' : Act} {w : World} {K : Act → World → Prop} {Q : Exit → Act → World → Prop} (hw : Region.wanted oi (yielded ops a.tmps) = true) (h : oi.wp P a w K Q) : if Region.wanted oi (yielded ops a.tmps) = true then Oper.wp P oi a w K Q else K a' w := by
  rw [if_pos hw]
  exact h
theorem info67 : (Try.prog.info? 67).map (·.size) = some 4 := by kernel_rfl
/-- Rows of bytes and of slices stand. -/
def CT (W W' : World) : Prop := ∀ (k : Nat) (c : Array Value) (t : TypeId), t = 5 ∨ t = 24 → W.heap[k]? = some (.cells c t (0, 0)) → W'.heap[k]? = some (.cells c t (0, 0))
theorem owns_ct {base : Nat} {W W' : World} {e : TypeId} {v : Value} {n : Nat} {xs : List Value} (he : e = 5 ∨ e = 24) (h : W.ownsRow base e 1 v n xs) (k : CT W W') : W'.ownsRow base e 1 v n xs := by
  refine ⟨h.1, ?_⟩
  rcases h.2 with h2 | ⟨g, cap, cur, h1, h2, h3, h4⟩
  · exact .inl h2
  · exact .inr ⟨g, cap, cur, h1, h2, k g cur e he h3, h4⟩
theorem RowC.ct {base : Nat} {W W' : World} {r : Rw} (h : RowC W base r) (k : CT W W') : RowC W' base r := by
  obtain ⟨g, cur, h1, h2, h3, h4⟩ := h.g
  exact ⟨h.c, ⟨g, cur, h1, h2, k g cur 5 (.inl rfl) h3, h4⟩, h.byt, h.n⟩
theorem RS.ct {base : Nat} {st : GS} {vl vb : Value} {rows : List Rw} {W W' : World} (h : RS base st vl vb rows W) (k : CT W W') : RS base st vl vb rows W' :=
  ⟨owns_ct (.inr rfl) h.l k, fun r hr => (h.r r hr).ct k, owns_ct (.inl rfl) h.b k, h.ne, h.L, h.byt, h.nb, h.nl⟩
theorem ct_row {W : World} {j : Nat} {c c' : Array Value} (h : W.heap[j]? = some (.cells c 67 (0, 0))) : CT W (W.setRow j c') := fun k cs t ht hk => by
  rw [setRow_other W j k _ (fun e => by
    subst e
    rw [h] at hk
    injection hk with hk
    injection hk with _ hk
    rcases ht with rfl | rfl <;> exact absurd hk (by decide))]
  exact hk
theorem ct_below {W W' : World} (hb : Below W.heap.size W W') : CT W W' := fun k c t _ h => (hb.block k (Array.getElem?_eq_some_iff.1 h).1).trans h
/-- append(b, p...): b the call's own; p is read anywhere. -/
theorem app_rd {W : World} {base : Nat} {vb : Value} {ad : Addr} {cp : Nat} {B p : List Int} (h : W.ownsRow base 5 1 vb B.length (B.map (Value.int .u8))) (hp : ReadsOf (Value.int .u8) (0 : Int) W (some ad) p.length p) (hn : B.length + p.length ≤ 1000000) (hb : base ≤ W.heap.size) :
    ∃ v' w', (Builtin.append_ #[24, 24] 24 #[vb, .slice (some ad) p.length cp]).run Try.prog W = .ok v' w' ∧ w'.ownsRow base 5 1 v' (B ++ p).length ((B ++ p).map (Value.int .u8)) ∧ W.grownBy w' vb.ownBlock ∧ (v'.ownBlock = vb.ownBlock ∨ v'.ownBlock = some W.heap.size) := by
  obtain ⟨i0, hi, hz0, hz1, hz2⟩ := info_parts info5
  obtain ⟨v', w', r1, r2, r3, _, r4⟩ := run_append_own_at (P := Try.prog) W base 24 24 5 i0 (.int .u8 0) 1 1 Try.underlying24 hi hz0 hz1 hz2 rfl (by decide) vb B.length _ h ad p.length cp (p.map (Value.int .u8)) (by simp)
    (fun j u hu => by
      rw [List.getElem?_map] at hu
      cases e : p[j]? with
      | none => rw [e] at hu; cases hu
      | some x =>
        rw [e] at hu
        simp at hu
        subst hu
        have hj : j < p.length := (List.getElem?_eq_some_iff.1 e).1
        obtain ⟨ad', e1, hc⟩ := hp.2.2 (by omega)
        cases e1
        have := hc j hj
        rw [List.getD_eq_getElem?_getD, e] at this
        exact this) (by simp [Value.oneCell']) (by unfold maxLen; omega) (by omega) hb
  refine ⟨v', w', r1, ?_, r3, r4⟩
  rw [List.length_append, List.map_append]
  exact r2
/-- The present certificate grows. -/
theorem RS.app {base : Nat} {st : GS} {vl vb v' : Value} {rows : List Rw} {W w' : World} {p : List Int} {la : Int} (h : RS base st vl vb rows W) (hi : st.ins = true) (hb' : w'.ownsRow base 5 1 v' (st.B ++ p).length ((st.B ++ p).map (Value.int .u8))) (hg : W.grownBy w' vb.ownBlock) (hv : v'.ownBlock = vb.ownBlock ∨ v'.ownBlock = some W.heap.size)
    (hp : Byt p) (hn : (st.B ++ p).length ≤ 65536) : RS base ⟨st.L, true, st.B ++ p, la⟩ vl v' rows w' := by
  refine ⟨⟨h.l.1, ?_⟩, fun r hr => ?_, hb', fun r hr a ha => ?_, h.L, fun x hx => ?_, hn, ⟨h.nl.1, fun _ => h.nl.2 hi⟩⟩
  · rcases h.l.2 with h2 | ⟨g, cap, cur, h1, h2, h3, h4⟩
    · exact .inl h2
    · exact .inr ⟨g, cap, cur, h1, h2, ck_grown (b2 := 0) (base := 0) hg g cur 24 h3 (own_block_type h.b h3 (by decide)), h4⟩
  · obtain ⟨g, cur, h1, h2, h3, h4⟩ := (h.r r hr).g
    exact ⟨(h.r r hr).c, ⟨g, cur, h1, h2, ck_grown (b2 := 0) (base := 0) hg g cur 5 h3 (h.ne r hr _ h1), h4⟩, (h.r r hr).byt, (h.r r hr).n⟩
  · rcases hv with hv | hv
    · rw [hv]; exact h.ne r hr a ha
    · rw [hv]
      obtain ⟨g, cur, h1, h2, h3, h4⟩ := (h.r r hr).g
      rw [h1] at ha
      cases ha
      have hlt := (Array.getElem?_eq_some_iff.1 h3).1
      intro e
      have e2 : W.heap.size = g := Option.some.inj e
      exact absurd hlt (by rw [e2]; exact Nat.lt_irrefl _)
  · rcases List.mem_append.1 hx with hx | hx
    · exact h.byt x (by unfold bOf; rw [if_pos hi]; exact hx)
    · exact hp x hx
set_option maxHeartbeats 4000000 in
theorem rstep_H (base : Nat) (st : GS) (vl vb : Value) (rows : List Rw) (s : List UInt8) (W : World) (H : RS base st vl vb rows W) (hbase : base ≤ W.heap.size) (hi : st.ins = true) (hs : ¬ s = endS) (h1 : ¬ st.last < 48) (h2 : ¬ s = []) (h3 : ¬ 64 < s.length) (p : List Int) (hp : decP s = (p, 0)) (hz : 65536 < st.B.length + p.length) :
    Calls Try.prog 32 #[stV st vl vb, .string ⟨s.toArray⟩] W (StepR base st s W) := by
  have hg := Lib.hid (show (gstep st s).2 = 3 by unfold gstep; rw [if_neg (by rw [hi]; decide), if_neg hs, if_neg (by rintro (h | h | h) <;> contradiction), hp, if_neg (by simp), if_pos hz])
  obtain ⟨Al, cl, rfl⟩ := own_sl H.l
  obtain ⟨Ab, cb, rfl⟩ := own_sl H.b
  have E : ∀ (W' : World) (A' B' : Option Addr) (n' c' m' e' : Nat) (b' : Bool) (i' : Int), Below W.heap.size W W' → StepR base st s W (.returned (.tuple #[.agg #[.slice A' n' c', .bool b', .slice B' m' e', .int .i64 i'], .int .i64 3])) W' := fun W' A' B' n' c' m' e' b' i' hB => .bad hg.out (by decide) hbase (hB.mono hbase) (ko_below hB)
  have hb2 : (s == [45, 45, 45, 45, 45, 69, 78, 68, 32, 67, 69, 82, 84, 73, 70, 73, 67, 65, 84, 69, 45, 45, 45, 45, 45]) = false := by simpa [endS] using hs
  have hla : laOf st = st.last := by unfold laOf; rw [if_pos hi]
  rw [← hla] at h1
  have h2e : s.isEmpty = false := by simpa using h2
  have h3i : ¬ (64 : Int) < (s.length : Int) := by omega
  have hsz : (⟨s.toArray⟩ : ByteArray).size ≤ 1000000000 := by show s.toArray.size ≤ _; rw [List.size_toArray]; omega
  have hp' : decP (⟨s.toArray⟩ : ByteArray).data.toList = (p, 0) := hp
  have hpl : p.length ≤ 64 := by have := decP_len s; rw [hp] at this; show (p, (0 : Int)).1.length ≤ 64; omega
  have hnB : (bOf st).length = st.B.length := by unfold bOf; rw [if_pos hi]
  have hnb := H.nb
  have hz' : (65536 : Int) < ((bOf st).length : Int) + (p.length : Int) := by omega
  clear H hg hla hs h2 hz hnB
  unfold stV
  rw [hi]
  clear hi
  generalize (bOf st).length = nB at *
  generalize laOf st = la at *
  have hwr : IntKind.i64.wrap ((nB : Int) + (p.length : Int)) = (nB : Int) + (p.length : Int) := by rw [IntKind.wrap_i64]; omega
  go_enter Try.func32, Try.ntmps32
  go_upto_region 15 with fail
  have B0 := Lib.hid (BoxF.two W (.slice Al rows.length cl) (.bool true) (.slice Ab nB cb) (.int .i64 la))
  have BB := Lib.hid (two_below W (.cells #[.slice Al rows.length cl, .bool true, .slice Ab nB cb, .int .i64 la] 67) (.cells #[.slice none 0 0, .bool false, .slice none 0 0, .int .i64 0] 67))
  generalize (W.alloc (.cells #[.slice Al rows.length cl, .bool true, .slice Ab nB cb, .int .i64 la] 67)).alloc (.cells #[.slice none 0 0, .bool false, .slice none 0 0, .int .i64 0] 67) = W2 at *
  go_upto_region 18 with (go_at_call 19; refine (refDec_any ⟨s.toArray⟩ _ hsz p 0 hp').mono ?_; rintro e w1 ⟨A, c, rfl, hc, hr, hb⟩; have B1 := Lib.hid (B0.out.below hb); have BB1 := Lib.hid (chainB BB.out rfl hb); clear hc hr hb)
  have c0 := cellAt B1.out.x 0
  have c1 := cellAt B1.out.x 1
  have c2 := cellAt B1.out.x 2
  have c3 := cellAt B1.out.x 3
  have d0 := cellAt B1.out.z 0
  have d1 := cellAt B1.out.z 1
  have d2 := cellAt B1.out.z 2
  have d3 := cellAt B1.out.z 3
  have f0 := frAt B1.out.z 0
  have f1 := frAt B1.out.z 1
  have f2 := frAt B1.out.z 2
  have f3 := frAt B1.out.z 3
  simp at c0 c1 c2 c3 d0 d1 d2 d3
  go_wp2
  exact close32 (k := W.heap.size + 1) rfl rfl (fin4 B1.out.z rfl _ _ _ _) (E _ _ _ _ _ _ _ _ _ (below4 BB1.out (by omega) _ _ _ _))
set_option maxHeartbeats 8000000 in
theorem rstep_I (base : Nat) (st : GS) (vl vb : Value) (rows : List Rw) (s : List UInt8) (W : World) (H : RS base st vl vb rows W) (hbase : base ≤ W.heap.size) (hi : st.ins = true) (hs : ¬ s = endS) (h1 : ¬ st.last < 48) (h2 : ¬ s = []) (h3 : ¬ 64 < s.length) (p : List Int) (hp : decP s = (p, 0)) (hz : ¬ 65536 < st.B.length + p.length) :
    Calls Try.prog 32 #[stV st vl vb, .string ⟨s.toArray⟩] W (StepR base st s W) := by
  have hg := Lib.hid (show gstep st s = (⟨st.L, true, st.B ++ p, (p.length : Int)⟩, 0) by unfold gstep; rw [if_neg (by rw [hi]; decide), if_neg hs, if_neg (by rintro (h | h | h) <;> contradiction), hp, if_neg (by simp), if_neg hz])
  have H0 := Lib.hid H
  obtain ⟨Al, cl, rfl⟩ := own_sl H.l
  obtain ⟨Ab, cb, rfl⟩ := own_sl H.b
  have hb2 : (s == [45, 45, 45, 45, 45, 69, 78, 68, 32, 67, 69, 82, 84, 73, 70, 73, 67, 65, 84, 69, 45, 45, 45, 45, 45]) = false := by simpa [endS] using hs
  have hla : laOf st = st.last := by unfold laOf; rw [if_pos hi]
  rw [← hla] at h1
  have h2e : s.isEmpty = false := by simpa using h2
  have h3i : ¬ (64 : Int) < (s.length : Int) := by omega
  have hsz : (⟨s.toArray⟩ : ByteArray).size ≤ 1000000000 := by show s.toArray.size ≤ _; rw [List.size_toArray]; omega
  have hp' : decP (⟨s.toArray⟩ : ByteArray).data.toList = (p, 0) := hp
  have hpl : p.length ≤ 64 := by have := decP_len s; rw [hp] at this; show (p, (0 : Int)).1.length ≤ 64; omega
  have hbo : bOf st = st.B := by unfold bOf; rw [if_pos hi]
  have hpne : p ≠ [] := fun e => by
    have h9 := (enc_dec hp).2
    rw [e] at h9
    have h8 := encS_len4 []
    rw [h9] at h8
    simp at h8
    exact h2 h8
  have hby := Lib.hid (enc_dec hp).1
  have hnb := H.nb
  have hz' : ¬ (65536 : Int) < ((bOf st).length : Int) + (p.length : Int) := by rw [hbo]; omega
  have hi' := Lib.hid hi
  have E : ∀ (W' : World) (vb' : Value), Below base W W' → KO W W' → RS base ⟨st.L, true, st.B ++ p, (p.length : Int)⟩ (.slice Al rows.length cl) vb' rows W' → StepR base st s W (.returned (.tuple #[.agg #[.slice Al rows.length cl, .bool true, vb', .int .i64 (p.length : Int)], .int .i64 0])) W' := fun W' v hB hK hR => .ok hg.out hbase hB hK hR
  have HBO := Lib.hid hbo
  clear H hg hla hs h2 hp hbo hz
  unfold stV
  rw [hi]
  clear hi
  obtain ⟨nB, hnB⟩ : ∃ n, Hid ((bOf st).length = n) := ⟨_, Lib.hid rfl⟩
  rw [hnB.out] at hz' hnb H0 ⊢
  obtain ⟨la, hla⟩ : ∃ n, laOf st = n := ⟨_, rfl⟩
  rw [hla] at h1 ⊢
  clear hla
  obtain ⟨nD, hnD⟩ : ∃ n : Nat, Hid (p.length = n) := ⟨_, Lib.hid rfl⟩
  have hwr : IntKind.i64.wrap ((nB : Int) + (p.length : Int)) = (nB : Int) + (p.length : Int) := by rw [IntKind.wrap_i64]; omega
  rw [hnD.out] at hwr hz' hpl
  go_enter Try.func32, Try.ntmps32
  go_upto_region 15 with fail
  have B0 := Lib.hid (BoxF.two W (.slice Al rows.length cl) (.bool true) (.slice Ab nB cb) (.int .i64 la))
  have BB := Lib.hid (two_below W (.cells #[.slice Al rows.length cl, .bool true, .slice Ab nB cb, .int .i64 la] 67) (.cells #[.slice none 0 0, .bool false, .slice none 0 0, .int .i64 0] 67))
  generalize (W.alloc (.cells #[.slice Al rows.length cl, .bool true, .slice Ab nB cb, .int .i64 la] 67)).alloc (.cells #[.slice none 0 0, .bool false, .slice none 0 0, .int .i64 0] 67) = W2 at *
  go_upto_region 18 with (go_at_call 19; refine (refDec_any ⟨s.toArray⟩ _ hsz p 0 hp').mono ?_; rintro e w1 ⟨A, c, rfl, hc, hr, hb⟩; rw [hnD.out]; have B1 := Lib.hid (B0.out.below hb); have BB1 := Lib.hid (chainB BB.out rfl hb); have RR := Lib.hid hr; clear hc hr hb)
  obtain ⟨ad, hAd, _⟩ := RR.out.2.2 (List.length_pos_iff.2 hpne)
  subst hAd
  have c2 := cellAt B1.out.x 2
  simp at c2
  go_upto_region 20 with fail
  clear c2
  have B2 := Lib.hid (show BoxF W (.slice Al rows.length cl) (.bool true) (.slice Ab nB cb) (.int .i64 la) (World.drew _) from B1.out.below (Below.refl _ w1).drew)
  have BB2 := Lib.hid (show Below W.heap.size W (World.drew _) from BB1.out.drew)
  have RR2 := Lib.hid (RR.out.below (Below.refl _ w1).drew)
  have HX := B2.out
  have H2 := Lib.hid (H0.out.ck (fun k c t hk h => (BB2.out.block k (Array.getElem?_eq_some_iff.1 h).1).trans h))
  have hob := H2.out.b
  rw [HBO.out] at hob
  have hcc : st.B.length = nB := by rw [← HBO.out]; exact hnB.out
  obtain ⟨v', w2, r1, r2, r3, r4⟩ := app_rd (cp := c) hob RR2.out (by rw [hcc]; rw [hnD.out]; omega) (Nat.le_trans hbase BB2.out.size)
  have hown : ∀ k, (Value.slice Ab nB cb).ownBlock = some k → k < W.heap.size := fun k hk => (own_lt H0.out.b hk).2
  have HX2 := HX.grown r3 hown
  have hlen2 : (st.B ++ p).length ≤ 65536 := by rw [List.length_append, hcc, hnD.out]; omega
  have R2 := Lib.hid (H2.out.app (la := (p.length : Int)) hi'.out r2 r3 r4 hby.out hlen2)
  have BB3 := Lib.hid (Below.grown (BB2.out.mono hbase) r3 (Nat.le_trans hbase BB2.out.size) (own_base_lt H0.out.b))
  have KOA := Lib.hid (show KO W w2 from fun k c t h5 h24 hk => by
    have e1 := (BB2.out.block k (Array.getElem?_eq_some_iff.1 hk).1).trans hk
    rw [r3.block k (Array.getElem?_eq_some_iff.1 e1).1 (fun e => own_block_type H0.out.b hk h5 e.symm)]
    exact e1)
  obtain ⟨Av, cv, hv'⟩ := own_sl r2
  subst hv'
  obtain ⟨nP, hnP⟩ : ∃ n, (st.B ++ p).length = n := ⟨_, rfl⟩
  rw [hnP] at r1 R2
  rw [hnD.out] at r1
  clear r2 r3 r4 hob hlen2
  refine start_ (n := 11) (S := fun W1 => BoxF W (.slice Al rows.length cl) (.bool true) (.slice Ab nB cb) (.int .i64 la) W1) (ds := [9]) #[false, false, false, false, false, false, false, false, false, false, false] (by kernel_rfl) rfl rfl HX (fun HS => ?_)
  refine take_ (i := 0) (N := (some 74)) (v := ?_) (a' := ?_) #[true, false, false, false, false, false, false, false, false, false, false] rfl rfl (by kernel_rfl) (fun _ _ _ h => h) (Or.inl ⟨by rfl, ?_⟩) (by assumption) ?_ ?_
  rotate_left
  · rintro W' hS'
    go_simp
    with_reducible rfl
  rotate_left
  · simp only [Act.put, List.setIfInBounds_toArray, List.set_cons_zero, List.set_cons_succ]
    rfl
  refine take_ (i := 1) (N := (some 75)) (v := ?_) (a' := ?_) #[true, true, false, false, false, false, false, false, false, false, false] rfl rfl (by kernel_rfl) (fun _ _ _ h => h) (Or.inl ⟨by rfl, ?_⟩) (by assumption) ?_ ?_
  rotate_left
  · rintro W' hS'
    have c0 := cellAt hS'.x 0
    have c2 := cellAt hS'.x 2
    simp at c0 c2
    go_simp
    with_reducible rfl
  rotate_left
  · simp only [Act.put, List.setIfInBounds_toArray, List.set_cons_zero, List.set_cons_succ]
    rfl
  refine take_ (i := 2) (N := (some 76)) (v := ?_) (a' := ?_) #[true, true, true, false, false, false, false, false, false, false, false] rfl rfl (by kernel_rfl) (fun _ _ _ h => h) (Or.inl ⟨by rfl, ?_⟩) (by assumption) ?_ ?_
  rotate_left
  · rintro W' hS'
    go_simp
    with_reducible rfl
  rotate_left
  · simp only [Act.put, List.setIfInBounds_toArray, List.set_cons_zero, List.set_cons_succ]
    rfl
  refine take_ (i := 3) (N := (some 77)) (v := ?_) (a' := ?_) #[true, true, true, true, false, false, false, false, false, false, false] rfl rfl (by kernel_rfl) (fun _ _ _ h => h) (Or.inl ⟨by rfl, ?_⟩) (by assumption) ?_ ?_
  rotate_left
  · rintro W' hS'
    have c0 := cellAt hS'.x 0
    have c2 := cellAt hS'.x 2
    simp at c0 c2
    go_simp
    with_reducible rfl
  rotate_left
  · simp only [Act.put, List.setIfInBounds_toArray, List.set_cons_zero, List.set_cons_succ]
    rfl
  refine take_ (i := 4) (N := (some 78)) (v := ?_) (a' := ?_) #[true, true, true, true, true, false, false, false, false, false, false] rfl rfl (by kernel_rfl) (fun _ _ _ h => h) (Or.inl ⟨by rfl, ?_⟩) (by assumption) ?_ ?_
  rotate_left
  · rintro W' hS'
    go_simp
    with_reducible rfl
  rotate_left
  · simp only [Act.put, List.setIfInBounds_toArray, List.set_cons_zero, List.set_cons_succ]
    rfl
  refine take_ (i := 6) (N := (some 80)) (v := ?_) (a' := ?_) #[true, true, true, true, true, false, true, false, false, false, false] rfl rfl (by kernel_rfl) (fun _ _ _ h => h) (Or.inl ⟨by rfl, ?_⟩) (by assumption) ?_ ?_
  rotate_left
  · rintro W' hS'
    go_simp
    with_reducible rfl
  rotate_left
  · simp only [Act.put, List.setIfInBounds_toArray, List.set_cons_zero, List.set_cons_succ]
    rfl
  refine take_ (i := 7) (N := (some 81)) (v := ?_) (a' := ?_) #[true, true, true, true, true, false, true, true, false, false, false] rfl rfl (by kernel_rfl) (fun _ _ _ h => h) (Or.inl ⟨by rfl, ?_⟩) (by assumption) ?_ ?_
  rotate_left
  · rintro W' hS'
    go_simp
    with_reducible rfl
  rotate_left
  · simp only [Act.put, List.setIfInBounds_toArray, List.set_cons_zero, List.set_cons_succ]
    rfl
  refine one_ (i := 5) (N := (some 79)) #[true, true, true, true, true, true, true, true, false, false, false] rfl rfl (by kernel_rfl) (by decide) (fun K hK => ?_)
  refine value_ (by rfl) (N := some 79) rfl (v := .slice Av nP cv) (w1 := w2) (by simp [execOp, resolve, invoke, builtin, Act.eval, r1, Result.andThen]) ?_
  refine hK.out _ _ HX2 (fun HS => ?_)
  clear hK K
  refine norm_ (a' := ?_) ?_ ?_
  rotate_left
  · show Act.put _ (some 79) _ = _
    simp only [Act.put, List.setIfInBounds_toArray, List.set_cons_zero, List.set_cons_succ]
    rfl
  refine take_ (i := 8) (N := (some 82)) (v := ?_) (a' := ?_) #[true, true, true, true, true, true, true, true, true, false, false] rfl rfl (by kernel_rfl) (fun _ _ _ h => h) (Or.inl ⟨by rfl, ?_⟩) (by assumption) ?_ ?_
  rotate_left
  · rintro W' hS'
    go_simp
    with_reducible rfl
  rotate_left
  · simp only [Act.put, List.setIfInBounds_toArray, List.set_cons_zero, List.set_cons_succ]
    rfl
  refine last_ (i := 9) (N := none) #[true, true, true, true, true, true, true, true, true, true, false] rfl rfl (by kernel_rfl) (by decide) (fun K hK => ?_)
  refine store_in (by rfl) ?_
  refine wp_store_row 67 _ _ rfl (W.heap.size + 1) #[.slice Al rows.length cl, .bool true, .slice Av nP cv, .int .i64 nD] rfl rfl 67 #[.slice none 0 0, .bool false, .slice none 0 0, .int .i64 0] HX2.z info67 rfl (by simp [Value.oneCell']) ?_
  refine hK.out _ _ ?_
  clear hK K
  refine norm_ (a' := ?_) ?_ ?_
  rotate_left
  · show Act.put _ none _ = _
    simp only [Act.put, List.setIfInBounds_toArray, List.set_cons_zero, List.set_cons_succ]
    rfl
  refine pure_ (i := 10) (N := (some 5)) (v := ?_) (a' := ?_) #[true, true, true, true, true, true, true, true, true, true, true] rfl rfl (by kernel_rfl) (fun _ _ _ h => h) (Or.inl ⟨by rfl, ?_⟩) ?_ ?_
  rotate_left
  · rintro W'
    go_simp
    with_reducible rfl
  rotate_left
  · simp only [Act.put, List.setIfInBounds_toArray, List.set_cons_zero, List.set_cons_succ]
    rfl
  refine done_ (by kernel_rfl) ?_
  have F1 := setRow_heap w2 (W.heap.size + 1) _ #[.slice Al rows.length cl, .bool true, .slice Av nP cv, .int .i64 nD] 67 _ HX2.z
  have F2 : Below base W (w2.setRow (W.heap.size + 1) #[.slice Al rows.length cl, .bool true, .slice Av nP cv, .int .i64 nD]) := below_setRow BB3.out (by omega) _
  have F3 := R2.out.ct (ct_row (c' := #[.slice Al rows.length cl, .bool true, .slice Av nP cv, .int .i64 nD]) HX2.z)
  have F5 : KO W (w2.setRow (W.heap.size + 1) #[.slice Al rows.length cl, .bool true, .slice Av nP cv, .int .i64 nD]) := fun k c t h5 h24 hk => by
    have hlt := (Array.getElem?_eq_some_iff.1 hk).1
    rw [setRow_other w2 _ k _ (by omega)]
    exact KOA.out k c t h5 h24 hk
  have F4 := Lib.hid (E _ _ F2 F5 F3)
  rw [hnD.out] at F4
  clear F2 F3
  go_wp2
  exact close32 (k := W.heap.size + 1) rfl rfl F1 F4.out
/-- The list grows by the certificate that ends. -/
theorem RS.end_ {base : Nat} {st : GS} {vl v' ev : Value} {A : Option Addr} {c : Nat} {rows : List Rw} {W w' : World} (h : RS base st vl (.slice A st.B.length c) rows W) (hi : st.ins = true) (hB : st.B ≠ [])
    (hl : w'.ownsRow base 24 1 v' (rows.length + 1) (rows.map rwV ++ [.slice A st.B.length c])) (hg : (W.alloc (.cells #[ev] 24)).grownBy w' vl.ownBlock) : RS base ⟨st.L ++ [st.B], false, st.B, st.last⟩ v' (.slice none 0 0) (rows ++ [⟨A, st.B, c⟩]) w' := by
  have keep : ∀ (k : Nat) (cs : Array Value), W.heap[k]? = some (.cells cs 5 (0, 0)) → w'.heap[k]? = some (.cells cs 5 (0, 0)) := fun k cs hk => by
    have h1 : (W.alloc (.cells #[ev] 24)).heap[k]? = some (.cells cs 5 (0, 0)) := (Below.heap_alloc _ _ _ (Array.getElem?_eq_some_iff.1 hk).1).trans hk
    rw [hg.block k (Array.getElem?_eq_some_iff.1 h1).1 (fun e => own_block_type h.l hk (by decide) e.symm)]
    exact h1
  have hbb : bOf st = st.B := by unfold bOf; rw [if_pos hi]
  refine ⟨by simpa [rwV] using hl, fun r hr => ?_, ⟨rfl, .inl ⟨rfl, rfl⟩⟩, fun _ _ _ _ => by simp [Value.ownBlock], by simp [h.L], fun x hx => absurd hx List.not_mem_nil, by simp [bOf], ⟨by have := h.nl.2 hi; simp; omega, fun h => by cases h⟩⟩
  rcases List.mem_append.1 hr with hr | hr
  · obtain ⟨g, cur, h1, h2, h3, h4⟩ := (h.r r hr).g
    exact ⟨(h.r r hr).c, ⟨g, cur, h1, h2, keep _ _ h3, h4⟩, (h.r r hr).byt, (h.r r hr).n⟩
  · obtain rfl := List.mem_singleton.1 hr
    have hb := h.b
    rw [hbb] at hb
    rcases hb.2 with ⟨_, h2⟩ | ⟨g, cap, cur, h1, h2, h3, h4, h5, h6, h7⟩
    · exact absurd (List.eq_nil_of_length_eq_zero h2) hB
    · injection h1 with h1a h1b h1c
      exact ⟨by show st.B.length ≤ c; omega, ⟨g, cur, h1a, h2, keep _ _ h3, by rw [Nat.mul_one] at h7; exact h7⟩, by have := h.byt; rw [hbb] at this; exact this, by have := h.nb; rw [hbb] at this; exact this⟩
set_option maxHeartbeats 4000000 in
theorem rstep_E (base : Nat) (st : GS) (vl vb : Value) (rows : List Rw) (s : List UInt8) (W : World) (H : RS base st vl vb rows W) (hbase : base ≤ W.heap.size) (hi : st.ins = true) (hs : s = endS) (hB : st.B ≠ []) :
    Calls Try.prog 32 #[stV st vl vb, .string ⟨s.toArray⟩] W (StepR base st s W) := by
  have hg := Lib.hid (show gstep st s = (⟨st.L ++ [st.B], false, st.B, st.last⟩, 0) by subst hs; unfold gstep; rw [if_neg (by rw [hi]; decide), if_pos rfl, if_neg hB])
  have H0 := Lib.hid H
  have HB := Lib.hid hB
  have hi' := Lib.hid hi
  obtain ⟨Ab, cb, rfl⟩ := own_sl H.b
  have hbo : bOf st = st.B := by unfold bOf; rw [if_pos hi]
  have hBl : ((st.B.length : Int) == 0) = false := by
    have := List.length_pos_iff.2 hB
    simp only [beq_eq_false_iff_ne]; omega
  have E : ∀ (W' : World) (vl' : Value) (rows' : List Rw), Below base W W' → KO W W' → RS base ⟨st.L ++ [st.B], false, st.B, st.last⟩ vl' (.slice none 0 0) rows' W' → StepR base st s W (.returned (.tuple #[.agg #[vl', .bool false, .slice none 0 0, .int .i64 0], .int .i64 0])) W' := fun W' vl' rows' hB hK hR => .ok hg.out hbase hB hK hR
  subst hs
  unfold endS at E ⊢
  clear H hg hB
  rw [hbo] at H0 ⊢
  unfold stV
  rw [hi]
  clear hi
  obtain ⟨la, hla⟩ : ∃ n, laOf st = n := ⟨_, rfl⟩
  rw [hla]
  clear hla hbo
  go_enter Try.func32, Try.ntmps32
  go_upto_region 12 with fail
  have B2 := Lib.hid (BoxF.two W vl (.bool true) (.slice Ab st.B.length cb) (.int .i64 la))
  have BB := Lib.hid (two_below W (.cells #[vl, .bool true, .slice Ab st.B.length cb, .int .i64 la] 67) (.cells #[.slice none 0 0, .bool false, .slice none 0 0, .int .i64 0] 67))
  have hsz : ((W.alloc (.cells #[vl, .bool true, .slice Ab st.B.length cb, .int .i64 la] 67)).alloc (.cells #[.slice none 0 0, .bool false, .slice none 0 0, .int .i64 0] 67)).heap.size = W.heap.size + 1 + 1 := by simp
  generalize (W.alloc (.cells #[vl, .bool true, .slice Ab st.B.length cb, .int .i64 la] 67)).alloc (.cells #[.slice none 0 0, .bool false, .slice none 0 0, .int .i64 0] 67) = W2 at *
  have H2 := Lib.hid (H0.out.ct (fun k c t _ h => (BB.out.block k (Array.getElem?_eq_some_iff.1 h).1).trans h))
  have hrl : rows.length ≤ 64 := by have h := H0.out.nl.1; rw [← H0.out.L, List.length_map] at h; exact h
  obtain ⟨v', w3, r1, r2, r3⟩ := app_l (ev := .slice Ab st.B.length cb) W2.heap.size rfl H2.out.l (by omega) (by omega) rfl
  have hown : ∀ k, vl.ownBlock = some k → k < W.heap.size := fun k hk => (own_lt H0.out.l hk).2
  have c0 := cellAt B2.out.x 0
  have c2 := cellAt B2.out.x 2
  simp at c0 c2
  have B3 := Lib.hid ((B2.out.below ((Below.refl _ W2).alloc (Nat.le_refl _) (.cells #[.slice Ab st.B.length cb] 24))).grown r3 hown)
  have R3 := Lib.hid (H2.out.end_ hi'.out HB.out r2 r3)
  have BB3 := Lib.hid (Below.grown (((BB.out.mono hbase).alloc (Nat.le_trans hbase BB.out.size) (.cells #[.slice Ab st.B.length cb] 24))) r3 (by rw [World.size_alloc]; omega) (own_base_lt H0.out.l))
  have KOA := Lib.hid (show KO W w3 from fun k c t h5 h24 hk => by
    have e1 := (BB.out.block k (Array.getElem?_eq_some_iff.1 hk).1).trans hk
    have e2 := (((Below.refl _ W2).alloc (Nat.le_refl _) (.cells #[.slice Ab st.B.length cb] 24)).block k (Array.getElem?_eq_some_iff.1 e1).1).trans e1
    rw [r3.block k (Array.getElem?_eq_some_iff.1 e2).1 (fun e => own_block_type H0.out.l hk h24 e.symm)]
    exact e2)
  obtain ⟨Av, cv, hv'⟩ := own_sl r2
  subst hv'
  obtain ⟨nP, hnP⟩ : ∃ n, rows.length + 1 = n := ⟨_, rfl⟩
  rw [hnP] at r1 r2 R3
  have k0 := cellAt B3.out.z 0
  have k1 := cellAt B3.out.z 1
  have k2 := cellAt B3.out.z 2
  have k3 := cellAt B3.out.z 3
  have f0 := frAt B3.out.z 0
  have f1 := frAt B3.out.z 1
  have f2 := frAt B3.out.z 2
  have f3 := frAt B3.out.z 3
  simp at k0 k1 k2 k3
  clear hsz
  have HE : ∀ W', Below base w3 W' → CT w3 W' → (∀ k, k < W.heap.size → W'.heap[k]? = w3.heap[k]?) → StepR base st [45, 45, 45, 45, 45, 69, 78, 68, 32, 67, 69, 82, 84, 73, 70, 73, 67, 65, 84, 69, 45, 45, 45, 45, 45] W (.returned (.tuple #[.agg #[.slice Av nP cv, .bool false, .slice none 0 0, .int .i64 0], .int .i64 0])) W' := fun W' hb hc hk => E _ _ _ (BB3.out.trans hb) (fun k c t h5 h24 h => (hk k (Array.getElem?_eq_some_iff.1 h).1).trans (KOA.out k c t h5 h24 h)) (R3.out.ct hc)
  go_wp2_with (refine appV (vs := vl) (vx := .slice (some ⟨W2.heap.size, 0, none⟩) 1 1) (v := .slice Av nP cv) (W' := w3) rfl (.tmp 38) (.tmp 41) 22 22 rfl rfl rfl r1 ?_)
  refine close32 (k := W.heap.size + 1) rfl rfl (fin4 B3.out.z rfl _ _ _ _) (HE _ (below4 (Below.refl _ _) (by omega) _ _ _ _) ?_ (fun k hk => by rw [Below.heap_setCell _ _ _ _ (by show k ≠ W.heap.size + 1; omega), Below.heap_setCell _ _ _ _ (by show k ≠ W.heap.size + 1; omega), Below.heap_setCell _ _ _ _ (by show k ≠ W.heap.size + 1; omega), Below.heap_setCell _ _ _ _ (by show k ≠ W.heap.size + 1; omega)]))
  have hct : ∀ (V : World) (cs : Array Value) (i : Nat) (u : Value), V.heap[W.heap.size + 1]? = some (.cells cs 67 (0, 0)) → CT V (V.setCell ⟨W.heap.size + 1, i, none⟩ u) := fun V cs i u h k c t ht hk => by
    rw [Below.heap_setCell _ _ _ _ (fun e => by
      have e : k = W.heap.size + 1 := e
      subst e
      rw [h] at hk
      injection hk with hk
      injection hk with _ hk
      rcases ht with rfl | rfl <;> exact absurd hk (by decide))]
    exact hk
  intro k c t ht hk
  have z0 := B3.out.z
  exact hct _ _ 3 _ (blk_set (blk_set (blk_set z0 _) _) _) k c t ht (hct _ _ 2 _ (blk_set (blk_set z0 _) _) k c t ht (hct _ _ 1 _ (blk_set z0 _) k c t ht (hct _ _ 0 _ z0 k c t ht hk)))
theorem rstep_any (base : Nat) (st : GS) (vl vb : Value) (rows : List Rw) (s : List UInt8) (W : World) (H : RS base st vl vb rows W) (hbase : base ≤ W.heap.size) :
    Calls Try.prog 32 #[stV st vl vb, .string ⟨s.toArray⟩] W (StepR base st s W) := by
  by_cases hi : st.ins = true
  · by_cases hs : s = endS
    · by_cases hB : st.B = []
      · exact rstep_D base st vl vb rows s W H hbase hi hs hB
      · exact rstep_E base st vl vb rows s W H hbase hi hs hB
    · by_cases h1 : st.last < 48
      · exact rstep_F1 base st vl vb rows s W H hbase hi hs h1
      · by_cases h2 : s = []
        · exact rstep_F2 base st vl vb rows s W H hbase hi hs h1 h2
        · by_cases h3 : 64 < s.length
          · exact rstep_F3 base st vl vb rows s W H hbase hi hs h1 h2 h3
          · obtain ⟨p, er, hp⟩ : ∃ p er, decP s = (p, er) := ⟨_, _, rfl⟩
            by_cases he : er = 0
            · subst he
              by_cases hb : 65536 < st.B.length + p.length
              · exact rstep_H base st vl vb rows s W H hbase hi hs h1 h2 h3 p hp hb
              · exact rstep_I base st vl vb rows s W H hbase hi hs h1 h2 h3 p hp hb
            · exact rstep_G base st vl vb rows s W H hbase hi hs h1 h2 h3 p er hp he
  · have hi : st.ins = false := by simpa using hi
    by_cases hs : s = [] ∨ s.head? = some 35
    · exact rstep_skip base st vl vb rows s W H hbase hi hs
    · by_cases hb : s = begS
      · by_cases h64 : st.L.length = 64
        · exact rstep_B base st vl vb rows s W H hbase hi hb h64
        · exact rstep_C base st vl vb rows s W H hbase hi hb h64
      · exact rstep_A base st vl vb rows s W H hbase hi hs hb
end Go.Proofs.Ytbdccfjeeabpaaa
namespace Go.Proofs.Ytbdccfjeeabpaaa
open Go.RowKit Go.Shelf
open Go.Proofs.YtbdccfjeeabpaaaW.PrintWords (ReadsOf blk_cell add_plain Ev string_of_reads)
open Go.Proofs.YtbdccfjeeabpaaaW
open Go.Proofs.YtbdccfjeeabpaaaW.PrintLast
attribute [local go_sem] Oper.semAt_some
set_option linter.unusedSimpArgs false
set_option linter.unusedVariables false
set_option maxRecDepth 50000
/-- A row of strings, in a block. -/
def LR (W : World) (A : Option Addr) (strs : List ByteArray) : Prop :=
  strs ≠ [] → ∃ g cur, A = some ⟨g, 0, none⟩ ∧ W.heap[g]? = some (.cells cur 9 (0, 0)) ∧ ∀ j, j < strs.length → cur[j]? = some (.string (strs.getD j ByteArray.empty))
theorem LR.ko {W W' : World} {A : Option Addr} {strs : List ByteArray} (h : LR W A strs) (hk : KO W W') : LR W' A strs := fun hne => by
  obtain ⟨g, cur, h1, h2, h3⟩ := h hne
  exact ⟨g, cur, h1, hk g cur 9 (by decide) (by decide) h2, h3⟩
theorem LR.cell {W : World} {ad : Addr} {strs : List ByteArray} (h : LR W (some ad) strs) {k : Nat} (hk : k < strs.length) : W.cell? (ad.add k) = some (.string (strs.getD k ByteArray.empty)) := by
  obtain ⟨g, cur, h1, h2, h3⟩ := h (fun e => by rw [e] at hk; simp at hk)
  cases h1
  rw [add_plain, blk_cell h2]
  exact h3 k hk
/-- The reference's Lines. -/
theorem rlines_any (s : ByteArray) (hs : s.size ≤ 1000000000) (w : World) :
    Calls Try.prog 15 #[.string s] w fun e w' => ∃ A c, e = .returned (.slice A ((lns s.data.toList).map mkS).length c) ∧ ((lns s.data.toList).map mkS).length ≤ c ∧ LR w' A ((lns s.data.toList).map mkS) ∧ Below w.heap.size w w' := by
  obtain ⟨k, hk⟩ := (lines_ev s hs).rounds
  refine (Pr.vidimusref22_Lines.calls k s _ w hk).mono ?_
  rintro e w' ⟨v, rfl, hr, hb⟩
  generalize (lns s.data.toList).map mkS = strs at *
  obtain ⟨A, c, rfl, hc, hC⟩ := PrintWords.Kd.R_reads hr
  have hC : ReadsOf Value.string ByteArray.empty w' A strs.length strs := PrintWords.Kd.reads_of_C hC
  refine ⟨A, c, rfl, hc, fun hne => ?_, hb⟩
  obtain ⟨inner, ho⟩ := PrintWords.Kd.R_own hr
  rcases ho.2 with ⟨h1, h2⟩ | ⟨g, cap, cur, h1, h2, h3, _⟩
  · exact absurd (List.length_eq_zero_iff.1 h2) hne
  · injection h1 with h1a h1b h1c
    refine ⟨g, cur, h1a, h3, fun j hj => ?_⟩
    obtain ⟨ad, e1, hx⟩ := hC.2.2 (by omega)
    rw [h1a] at e1
    cases e1
    have := hx j hj
    rw [add_plain, blk_cell h3] at this
    exact this
/-- What stands in a round: the lines, the state's box. -/
structure GI (w : World) (A : Option Addr) (strs : List ByteArray) (xs : Array Value) (W : World) : Prop where
  bel : Below w.heap.size w W
  x : W.heap[w.heap.size]? = some (.cells xs 67 (0, 0))
  rd : LR W A strs
theorem GI.ko {w W W' : World} {A : Option Addr} {strs : List ByteArray} {xs : Array Value} (h : GI w A strs xs W) (hb : Below w.heap.size W W') (hk : KO W W') : GI w A strs xs W' :=
  ⟨h.bel.trans hb, hk _ _ 67 (by decide) (by decide) h.x, h.rd.ko hk⟩
theorem GI.alloc {w W : World} {A : Option Addr} {strs : List ByteArray} {xs : Array Value} (h : GI w A strs xs W) (o : Obj) : GI w A strs xs (W.alloc o) :=
  h.ko ((Below.refl _ W).alloc h.bel.size o) (ko_below ((Below.refl _ W).alloc (Nat.le_refl _) o))
theorem StepR.split {st : GS} {s : List UInt8} {base : Nat} {e : Ending} {W' : World} (h : ((gstep st s).2 ≠ 0 ∧ ∃ A B n c m f b i, e = .returned (.tuple #[.agg #[.slice A n c, .bool b, .slice B m f, .int .i64 i], .int .i64 (gstep st s).2])) ∨ ((gstep st s).2 = 0 ∧ ∃ vl vb rows, e = .returned (.tuple #[stV (gstep st s).1 vl vb, .int .i64 0]) ∧ RS base (gstep st s).1 vl vb rows W')) :
    ∃ (v : Value) (er : Int), e = .returned (.tuple #[v, .int .i64 er]) ∧ (er = (gstep st s).2 ∧ (∃ A B n c m f b i, v = .agg #[.slice A n c, .bool b, .slice B m f, .int .i64 i]) ∧ ((gstep st s).2 = 0 → ∃ vl vb rows, v = stV (gstep st s).1 vl vb ∧ RS base (gstep st s).1 vl vb rows W')) := by
  rcases h with ⟨h1, A, B, n, c, m, f, b, i, rfl⟩ | ⟨h1, vl, vb, rows, rfl, hR⟩
  · exact ⟨_, _, rfl, rfl, ⟨A, B, n, c, m, f, b, i, rfl⟩, fun h => absurd h h1⟩
  · obtain ⟨Al, cl, e1⟩ := own_sl hR.l
    obtain ⟨Ab, cb, e2⟩ := own_sl hR.b
    exact ⟨_, 0, rfl, h1.symm, ⟨Al, Ab, _, cl, _, cb, _, _, by rw [e1, e2]; rfl⟩, fun _ => ⟨vl, vb, rows, rfl, hR⟩⟩
/-- What the orders leave. -/
def GF (w : World) (A : Option Addr) (strs : List ByteArray) (st : GS) (lin : List UInt8) (q : Nat × Value × Int) (W : World) : Prop :=
  W.heap[q.1]? = some (.cells #[.slice none 0 0, .bool false, .slice none 0 0, .int .i64 0] 67 (0, 0)) ∧ w.heap.size < q.1 ∧ (∃ xs : Array Value, xs.size = 4 ∧ GI w A strs xs W) ∧
  (∃ A B n c m f b i, q.2.1 = .agg #[.slice A n c, .bool b, .slice B m f, .int .i64 i]) ∧ q.2.2 = (gstep st lin).2 ∧ ((gstep st lin).2 = 0 → ∃ vl vb rows, q.2.1 = stV (gstep st lin).1 vl vb ∧ RS w.heap.size (gstep st lin).1 vl vb rows W)
theorem GI.lt {w W : World} {A : Option Addr} {strs : List ByteArray} {xs : Array Value} (h : GI w A strs xs W) : w.heap.size < W.heap.size := (Array.getElem?_eq_some_iff.1 h.x).1
section
variable {w W1 W W' w3 : World} {A : Option Addr} {strs : List ByteArray} {xs : Array Value} {st : GS} {lin : List UInt8} {v : Value} {er : Int}
theorem GF.mk1 {a b c d : Value} (hX : GI w A strs #[a, b, c, d] w3)
    (hq : er = (gstep st lin).2 ∧ (∃ A B n c m f b i, v = .agg #[.slice A n c, .bool b, .slice B m f, .int .i64 i]) ∧ ((gstep st lin).2 = 0 → ∃ vl vb rows, v = stV (gstep st lin).1 vl vb ∧ RS w.heap.size (gstep st lin).1 vl vb rows w3)) :
    GF w A strs st lin (w3.heap.size, v, er) (w3.alloc (.cells #[.slice none 0 0, .bool false, .slice none 0 0, .int .i64 0] 67)) :=
  ⟨heap_alloc_new _ _, hX.lt, ⟨_, rfl, hX.alloc _⟩, hq.2.1, hq.1, fun h => by
    obtain ⟨vl, vb, rows, h1, h2⟩ := hq.2.2 h
    exact ⟨vl, vb, rows, h1, h2.ct (ct_below ((Below.refl _ w3).alloc (Nat.le_refl _) _))⟩⟩
theorem GF.mk2 {a b c d : Value} (hX : GI w A strs #[a, b, c, d] W1) (hb : Below w.heap.size (W1.alloc (.cells #[.slice none 0 0, .bool false, .slice none 0 0, .int .i64 0] 67)) w3) (hk : KO (W1.alloc (.cells #[.slice none 0 0, .bool false, .slice none 0 0, .int .i64 0] 67)) w3) (hX4 : GI w A strs #[a, b, c, d] w3)
    (hq : er = (gstep st lin).2 ∧ (∃ A B n c m f b i, v = .agg #[.slice A n c, .bool b, .slice B m f, .int .i64 i]) ∧ ((gstep st lin).2 = 0 → ∃ vl vb rows, v = stV (gstep st lin).1 vl vb ∧ RS w.heap.size (gstep st lin).1 vl vb rows w3)) :
    GF w A strs st lin (W1.heap.size, v, er) w3 :=
  ⟨hk _ _ 67 (by decide) (by decide) (heap_alloc_new _ _), hX.lt, ⟨_, rfl, hX4⟩, hq.2.1, hq.1, hq.2.2⟩
end
theorem num_snoc (l : List (List UInt8)) (k : Nat) (j : Nat) (h : k < l.length) : num j (l.take (k + 1)) = num j (l.take k) ++ [(j + k, l.getD k [])] := by
  induction l generalizing k j with
  | nil => simp at h
  | cons a r ih =>
    cases k with
    | zero => simp [num]
    | succ k =>
      have := ih k (j + 1) (by simpa using h)
      simp only [List.take_succ_cons, num, List.cons_append]
      rw [this]
      simp
      omega
theorem lns_len : ∀ (n : Nat) (s : List UInt8), s.length ≤ n → (lns s).length ≤ s.length
  | n, s, h => by
    by_cases h0 : s = []
    · subst h0; rw [lns_nil]; simp
    · obtain ⟨m, rfl⟩ : ∃ m, n = m + 1 := ⟨n - 1, by have := List.length_pos_iff.2 h0; omega⟩
      have hl := lineR_len s h0
      have ih := lns_len m (lineR s) (by omega)
      rw [lns_cons h0, List.length_cons]
      omega
theorem num_pre : ∀ (l : List (List UInt8)) (k j : Nat), num j (l.take k) <+: num j l
  | [], k, j => by simp
  | a :: r, 0, j => by simp [num]
  | a :: r, k + 1, j => by
    rw [List.take_succ_cons, num, num]
    exact (List.prefix_cons_inj _).2 (num_pre r k (j + 1))
theorem LR.ne {W W' : World} {A : Option Addr} {strs : List ByteArray} {j : Nat} {c : Array Value} (h : LR W A strs) (hj : W.heap[j]? = some (.cells c 67 (0, 0))) (hk : ∀ k, k ≠ j → W'.heap[k]? = W.heap[k]?) : LR W' A strs := fun hne => by
  obtain ⟨g, cur, h1, h2, h3⟩ := h hne
  refine ⟨g, cur, h1, (hk g (fun e => ?_)).trans h2, h3⟩
  subst e
  rw [hj] at h2
  injection h2 with h2
  injection h2 with _ h2
  exact absurd h2 (by decide)
theorem CT.ne {W W' : World} {j : Nat} {c : Array Value} (hj : W.heap[j]? = some (.cells c 67 (0, 0))) (hk : ∀ k, k ≠ j → W'.heap[k]? = W.heap[k]?) : CT W W' := fun k cs t ht h => by
  rw [hk k (fun e => ?_)]
  · exact h
  · subst e
    rw [hj] at h
    injection h with h
    injection h with _ h
    rcases ht with rfl | rfl <;> exact absurd h (by decide)
theorem far4 (W : World) (j : Nat) (a b c d : Value) : ∀ k, k ≠ j → ((((W.setCell ⟨j, 0, none⟩ a).setCell ⟨j, 1, none⟩ b).setCell ⟨j, 2, none⟩ c).setCell ⟨j, 3, none⟩ d).heap[k]? = W.heap[k]? := fun k hk => by
  rw [Below.heap_setCell _ _ _ _ hk, Below.heap_setCell _ _ _ _ hk, Below.heap_setCell _ _ _ _ hk, Below.heap_setCell _ _ _ _ hk]
/-- Rows of the reference's own, read as a chain. -/
theorem RS.chn {base : Nat} {st : GS} {A : Option Addr} {c : Nat} {vb : Value} {rows : List Rw} {W : World} (h : RS base st (.slice A rows.length c) vb rows W) : Chn W A c rows := by
  obtain ⟨A', c', e, hc, hr⟩ := PrintWords.own_reads_of_le (enc := rwV) (d := rw0) (show W.ownsRow base 24 1 (.slice A rows.length c) rows.length (PrintWords.encs rwV rows) from h.l)
  injection e with e1 e2 e3
  subst e1
  subst e3
  refine ⟨hr, hc, fun r hr => ?_⟩
  obtain ⟨g, cur, e1, _, e2, e3⟩ := (h.r r hr).g
  refine ⟨⟨rfl, by have := (h.r r hr).n; omega, fun _ => ⟨_, e1, fun j hj => ?_⟩⟩, (h.r r hr).c, (h.r r hr).byt, by have := (h.r r hr).n; omega⟩
  rw [add_plain, blk_cell e2, ← Array.getElem?_toList]
  have e := congrArg (fun x : List Value => x[j]?) e3
  simp only [List.getElem?_take] at e
  rw [if_pos (by omega)] at e
  rw [e, List.getElem?_map, List.getD_eq_getElem?_getD, List.getElem?_eq_getElem hj]
  rfl
set_option maxHeartbeats 16000000 in
theorem rget_any (s : ByteArray) (hs : s.size ≤ 1000000000) (w : World) :
    Calls Try.prog 14 #[.string s] w fun e w' => ∃ A rows c, e = .returned (.tuple #[.slice A rows.length c, .int .i64 (getP s.data.toList).2.1, .int .i64 (getP s.data.toList).2.2]) ∧ rows.map (·.l) = (getP s.data.toList).1 ∧ Chn w' A c rows ∧ Below w.heap.size w w' := by
  have hsl : s.data.toList.length = s.size := by rw [Array.length_toList]; rfl
  by_cases hbig : 1048576 < s.size
  · have hP := Lib.hid (getP_big (s := s.data.toList) (by rw [hsl]; exact hbig))
    go_enter Try.func14, Try.ntmps14
    go_wp2
    go_ret3
    exact ⟨none, [], 0, by rw [hP.out]; rfl, by rw [hP.out]; rfl, ⟨.nil _ _ _, Nat.le_refl _, fun r hr => absurd hr List.not_mem_nil⟩, Below.refl _ _⟩
  · have hP : Hid (getP s.data.toList = gall gs0 0 (lns s.data.toList)) := by
      show _ = _
      unfold getP
      rw [if_neg (by omega)]
    have hbig' : ¬ (1048576 : Int) < (s.size : Int) := by omega
    clear hbig
    go_enter Try.func14, Try.ntmps14
    go_upto_region 4 with fail
    have B0 := Lib.hid ((Below.refl _ w).alloc (Nat.le_refl _) (.cells #[.slice none 0 0, .bool false, .slice none 0 0, .int .i64 0] 67))
    have X0 := Lib.hid (heap_alloc_new w (.cells #[.slice none 0 0, .bool false, .slice none 0 0, .int .i64 0] 67))
    go_upto_region 5 with (go_at_call 15; refine (rlines_any s hs _).mono ?_; rintro e w1 ⟨A, c, rfl, hc, hl, hb⟩)
    obtain ⟨LL, hLL⟩ : ∃ LL, lns s.data.toList = LL := ⟨_, rfl⟩
    have hlnl : Hid (LL.length ≤ 1048577) := by
      show _ ≤ _
      have := lns_len s.data.toList.length s.data.toList (Nat.le_refl _)
      rw [hLL] at this
      omega
    rw [hLL] at hP hc hl ⊢
    clear hLL hsl
    obtain ⟨strs, hst⟩ : ∃ strs, Hid (LL.map mkS = strs) := ⟨_, Lib.hid rfl⟩
    have hln : Hid (LL.length = strs.length) := by show _ = _; rw [← hst.out, List.length_map]
    rw [hst.out] at hl
    try rw [List.length_map] at hc
    rw [hln.out] at hc ⊢
    have G0 : Hid (GI w A strs #[.slice none 0 0, .bool false, .slice none 0 0, .int .i64 0] w1) := ⟨chainB B0.out rfl hb, (hb.block _ (Array.getElem?_eq_some_iff.1 X0.out).1).trans X0.out, hl⟩
    clear hb hl
    have R0 : Hid (RS w.heap.size gs0 (.slice none 0 0) (.slice none 0 0) [] w1) := ⟨⟨rfl, .inl ⟨rfl, rfl⟩⟩, fun _ h => absurd h List.not_mem_nil, ⟨rfl, .inl ⟨rfl, rfl⟩⟩, fun _ h => absurd h List.not_mem_nil, rfl, fun _ h => absurd h List.not_mem_nil, by simp [bOf, gs0], by simp [gs0]⟩
    go_wp2
    go_loopw [7] (fun i wr => ∃ (k : Nat) (st : GS) (vl vb : Value) (rows : List Rw), k ≤ strs.length ∧ i = .int .i64 k ∧ Hid (gfold gs0 (num 1 (LL.take k)) = some st) ∧ Hid (RS w.heap.size st vl vb rows wr) ∧ Hid (GI w A strs #[vl, .bool st.ins, vb, .int .i64 (laOf st)] wr)) (fun i _ => strs.length - (intOf i).toNat)
    case atStart => exact ⟨0, gs0, _, _, [], by omega, rfl, Lib.hid rfl, R0, G0⟩
    case round =>
      obtain ⟨k, st, vl, vb, rows, hk, rfl, HF, RS0, HG⟩ := hrel
      obtain ⟨Al, cl, rfl⟩ := own_sl RS0.out.l
      obtain ⟨Ab, cb, rfl⟩ := own_sl RS0.out.b
      by_cases hlt : k < strs.length
      · have hlt' := hlt
        obtain ⟨ad, rfl⟩ : ∃ ad, A = some ad := by
          obtain ⟨g, cur, h1, _⟩ := HG.out.rd (fun e => by rw [e] at hlt; simp at hlt)
          exact ⟨_, h1⟩
        obtain ⟨lin, hlin⟩ : ∃ lin, Hid (LL.getD k [] = lin) := ⟨_, Lib.hid rfl⟩
        have hstr : Hid (strs.getD k ByteArray.empty = ⟨lin.toArray⟩) := by
          show _ = _
          rw [← hst.out, ← hlin.out, List.getD_eq_getElem?_getD, List.getD_eq_getElem?_getD, List.getElem?_map, List.getElem?_eq_getElem (by have := hln.out; omega)]
          rfl
        have hnum := Lib.hid (num_snoc LL k 1 (by have := hln.out; omega))
        rw [hlin.out] at hnum
        go_upto_region 8 with fail
        have HX : GI w (some ad) strs #[.slice Al rows.length cl, .bool st.ins, .slice Ab (bOf st).length cb, .int .i64 (laOf st)] (World.drew _) := HG.out.ko (Below.refl _ wr).drew (ko_below (Below.refl _ wr).drew)
        replace RS0 := Lib.hid (RS0.out.ct (ct_below (Below.refl _ wr).drew))
        clear HG
        refine start_ (n := 12) (S := fun W1 => GI w (some ad) strs #[.slice Al rows.length cl, .bool st.ins, .slice Ab (bOf st).length cb, .int .i64 (laOf st)] W1) (ds := [10]) #[false, false, false, false, false, false, false, false, false, false, false, false] (by kernel_rfl) rfl rfl HX (fun HS => ?_)
        generalize wr.drew = W1 at *
        refine take_ (i := 0) (N := (some 22)) (v := ?_) (a' := ?_) #[true, false, false, false, false, false, false, false, false, false, false, false] rfl rfl (by kernel_rfl) (fun _ _ _ h => h) (Or.inl ⟨by rfl, ?_⟩) (by assumption) ?_ ?_
        rotate_left
        · rintro W' hS'
          have c0 := cellAt hS'.x 0
          have c1 := cellAt hS'.x 1
          have c2 := cellAt hS'.x 2
          have c3 := cellAt hS'.x 3
          simp at c0 c1 c2 c3
          go_simp
          with_reducible rfl
        rotate_left
        · simp only [Act.put, List.setIfInBounds_toArray, List.set_cons_zero, List.set_cons_succ]
          rfl
        refine take_ (i := 1) (N := (some 23)) (v := ?_) (a' := ?_) #[true, true, false, false, false, false, false, false, false, false, false, false] rfl rfl (by kernel_rfl) (fun _ _ _ h => h) (Or.inl ⟨by rfl, ?_⟩) (by assumption) ?_ ?_
        rotate_left
        · rintro W' hS'
          go_simp
          with_reducible rfl
        rotate_left
        · simp only [Act.put, List.setIfInBounds_toArray, List.set_cons_zero, List.set_cons_succ]
          rfl
        refine take_ (i := 2) (N := (some 24)) (v := ?_) (a' := ?_) #[true, true, true, false, false, false, false, false, false, false, false, false] rfl rfl (by kernel_rfl) (fun _ _ _ h => h) (Or.inl ⟨by rfl, ?_⟩) (by assumption) ?_ ?_
        rotate_left
        · rintro W' hS'
          go_simp
          with_reducible rfl
        rotate_left
        · simp only [Act.put, List.setIfInBounds_toArray, List.set_cons_zero, List.set_cons_succ]
          rfl
        refine take_ (i := 3) (N := (some 25)) (v := ?_) (a' := ?_) #[true, true, true, true, false, false, false, false, false, false, false, false] rfl rfl (by kernel_rfl) (fun _ _ _ h => h) (Or.inl ⟨by rfl, ?_⟩) (by assumption) ?_ ?_
        rotate_left
        · rintro W' hS'
          go_simp
          with_reducible rfl
        rotate_left
        · simp only [Act.put, List.setIfInBounds_toArray, List.set_cons_zero, List.set_cons_succ]
          rfl
        refine take_ (i := 4) (N := (some 26)) (v := ?_) (a' := ?_) #[true, true, true, true, true, false, false, false, false, false, false, false] rfl rfl (by kernel_rfl) (fun _ _ _ h => h) (Or.inl ⟨by rfl, ?_⟩) (by assumption) ?_ ?_
        rotate_left
        · rintro W' hS'
          have c0 : W'.cell? (ad.add k) = some (.string ⟨lin.toArray⟩) := by rw [← hstr.out]; exact hS'.rd.cell hlt'
          go_simp
          with_reducible rfl
        rotate_left
        · simp only [Act.put, List.setIfInBounds_toArray, List.set_cons_zero, List.set_cons_succ]
          rfl
        refine join_ 2 #[true, true, true, true, true, true, true, true, true, true, false, false] (fun q : Nat × Value × Int => [(27, .tuple #[q.2.1, .int .i64 q.2.2]), (21, .tuple #[q.2.1, .int .i64 q.2.2]), (28, q.2.1), (29, .int .i64 q.2.2), (8, .pointer (some ⟨q.1, 0, none⟩))]) (GF w (some ad) strs st lin) ?_ (fun J => ?_)
        · rintro ⟨k8, v, er⟩ w2 HF
          obtain ⟨F1, F2, F3, F4, F5, F6⟩ := HF
          dsimp only at F1 F2 F3 F4 F5 F6
          obtain ⟨A1, B1, n1, c1, m1, f1, b1, i1, rfl⟩ := F4
          refine norm_ (a' := ?_) ?_ ?_
          rotate_left
          · show putAll _ _ = _
            simp only [putAll, Act.put, List.setIfInBounds_toArray, List.set_cons_zero, List.set_cons_succ]
            rfl
          refine last_ (i := 10) (N := none) #[true, true, true, true, true, true, true, true, true, true, true, false] rfl rfl (by kernel_rfl) (by decide) (fun K hK => ?_)
          refine store_in (by rfl) ?_
          refine wp_store_row 67 _ _ rfl k8 #[.slice A1 n1 c1, .bool b1, .slice B1 m1 f1, .int .i64 i1] rfl rfl 67 #[.slice none 0 0, .bool false, .slice none 0 0, .int .i64 0] F1 info67 rfl (by simp [Value.oneCell']) ?_
          refine hK.out _ _ ?_
          clear hK K
          refine norm_ (a' := ?_) ?_ ?_
          rotate_left
          · show Act.put _ none _ = _
            simp only [Act.put, List.setIfInBounds_toArray, List.set_cons_zero, List.set_cons_succ]
            rfl
          refine pure_ (i := 11) (N := (some 9)) (v := ?_) (a' := ?_) #[true, true, true, true, true, true, true, true, true, true, true, true] rfl rfl (by kernel_rfl) (fun _ _ _ h => h) (Or.inl ⟨by rfl, ?_⟩) ?_ ?_
          rotate_left
          · rintro W'
            go_simp
            with_reducible rfl
          rotate_left
          · simp only [Act.put, List.setIfInBounds_toArray, List.set_cons_zero, List.set_cons_succ]
            rfl
          refine done_ (by kernel_rfl) ?_
          obtain ⟨xs, hxs, HGx⟩ := F3
          have Z1 := Lib.hid (setRow_heap w2 k8 _ #[.slice A1 n1 c1, .bool b1, .slice B1 m1 f1, .int .i64 i1] 67 _ F1)
          have Z2 := Lib.hid ((setRow_other w2 k8 w.heap.size #[.slice A1 n1 c1, .bool b1, .slice B1 m1 f1, .int .i64 i1] (by omega)).trans HGx.x)
          have Z3 := Lib.hid (HGx.rd.ne F1 (fun k hk => setRow_other w2 k8 k #[.slice A1 n1 c1, .bool b1, .slice B1 m1 f1, .int .i64 i1] hk))
          have Z4 : Hid (Below w.heap.size w (w2.setRow k8 #[.slice A1 n1 c1, .bool b1, .slice B1 m1 f1, .int .i64 i1])) := below_setRow HGx.bel (Nat.le_of_lt F2) _
          have Z5 := Lib.hid (show CT w2 (w2.setRow k8 #[.slice A1 n1 c1, .bool b1, .slice B1 m1 f1, .int .i64 i1]) from ct_row F1)
          have hkk : Hid (wrap64 ((k : Int) + 1) = (k : Int) + 1) := by
            show _ = _
            have h1 := hln.out
            have h2 := hlnl.out
            unfold wrap64
            omega
          by_cases he : (gstep st lin).2 = 0
          · obtain ⟨vl', vb', rows', h1, h2⟩ := F6 he
            have h1 : stV (gstep st lin).1 vl' vb' = .agg #[.slice A1 n1 c1, .bool b1, .slice B1 m1 f1, .int .i64 i1] := h1.symm
            unfold stV at h1
            injection h1 with h1
            injection h1 with h1
            injection h1 with h1a h1
            injection h1 with h1b h1
            injection h1 with h1c h1
            injection h1 with h1d h1
            subst h1a h1c
            obtain rfl : er = 0 := F5.trans he
            have hG := Lib.hid (show gfold gs0 (num 1 (LL.take (k + 1))) = some (gstep st lin).1 by rw [hnum.out, gfold_snoc _ _ _ _ _ HF.out, if_neg (by rw [he]; simp)])
            have R1 := Lib.hid (h2.ct Z5.out)
            clear h1 F6 F5 hnum HF h2
            generalize w2.setRow k8 #[.slice A1 n1 c1, .bool b1, .slice B1 m1 f1, .int .i64 i1] = W3 at *
            have c0 := cellAt Z1.out 0
            have c1' := cellAt Z1.out 1
            have c2 := cellAt Z1.out 2
            have c3 := cellAt Z1.out 3
            simp at c0 c1' c2 c3
            obtain ⟨x0, x1, x2, x3, rfl⟩ : ∃ x0 x1 x2 x3, xs = #[x0, x1, x2, x3] := by
              obtain ⟨l⟩ := xs
              rcases l with _ | ⟨z0, _ | ⟨z1, _ | ⟨z2, _ | ⟨z3, _ | ⟨z4, r⟩⟩⟩⟩⟩ <;> simp at hxs
              exact ⟨_, _, _, _, rfl⟩
            have d0 := cellAt Z2.out 0
            have d1 := cellAt Z2.out 1
            have d2 := cellAt Z2.out 2
            have d3 := cellAt Z2.out 3
            simp at d0 d1 d2 d3
            have f0 := frAt Z2.out 0
            have f1' := frAt Z2.out 1
            have f2 := frAt Z2.out 2
            have f3 := frAt Z2.out 3
            have hnr := R1.out.l.1
            have Q1 := Lib.hid (fin4 Z2.out rfl (.slice A1 n1 c1) (.bool b1) (.slice B1 m1 f1) (.int .i64 i1))
            have Q2 := Lib.hid (below4 (a := .slice A1 n1 c1) (b := .bool b1) (c := .slice B1 m1 f1) (d := .int .i64 i1) Z4.out (Nat.le_refl _))
            have Q3 := Lib.hid (Z3.out.ne Z2.out (far4 W3 w.heap.size (.slice A1 n1 c1) (.bool b1) (.slice B1 m1 f1) (.int .i64 i1)))
            have Q4 := Lib.hid (R1.out.ct (CT.ne Z2.out (far4 W3 w.heap.size (.slice A1 n1 c1) (.bool b1) (.slice B1 m1 f1) (.int .i64 i1))))
            go_wp2
            go_round
            case rel => exact ⟨k + 1, _, _, _, rows', by omega, by rw [hkk.out]; rfl, hG, Q4, ⟨Q2.out, Q1.out, Q3.out⟩⟩
            case measure => rw [hkk.out]; simp [intOf]; omega
          · have he' : ((gstep st lin).2 == 0) = false := by simpa using he
            have hG := Lib.hid (gall_stop gs0 0 LL (num 1 (LL.take k)) (1 + k) lin st (by rw [← hnum.out]; exact num_pre LL (k + 1) 1) HF.out he)
            clear F6 F5 he hnum
            go_wp2
            go_ret3
            refine ⟨none, [], 0, ?_, by rw [hP.out, hG.out]; rfl, ⟨.nil _ _ _, Nat.le_refl _, fun r hr => absurd hr List.not_mem_nil⟩, Z4.out⟩
            rw [hP.out, hG.out]
            simp only [Array.getD, hkk.out]
            rw [show ((1 + k : Nat) : Int) = (k : Int) + 1 by omega]
            rfl
        have HA := HX
        refine two_ (i := 5) (j := 9) (Ni := some 27) (Nj := some 8) #[true, true, true, true, true, true, false, false, false, false, false, false] #[true, true, true, true, true, false, false, false, false, true, false, false] rfl rfl rfl rfl (by kernel_rfl) (by decide) (by decide) (fun K hK => ?_) (fun K hK => ?_)
        · refine goes_ Try.func32 (by kernel_rfl) rfl #[stV st (.slice Al rows.length cl) (.slice Ab (bOf st).length cb), .string ⟨lin.toArray⟩] (by rfl) rfl rfl (by (try simp only [List.map_toArray, List.map_cons, List.map_nil]); first | done | rfl) ?_
          refine (rstep_any w.heap.size st _ _ rows lin _ RS0.out HA.bel.size).mono ?_
          rintro e w3 ⟨hb, hs, hk, hr⟩
          obtain ⟨v, er, rfl, hq0⟩ := StepR.split hr
          have hq := Lib.hid hq0
          clear hq0 hr
          refine ⟨_, rfl, ?_⟩
          have HX3 := HA.ko hb hk
          refine hK.out _ _ HX3 (fun HS => ?_)
          clear hK K
          refine norm_ (a' := ?_) ?_ ?_
          rotate_left
          · show Act.put _ (some 27) _ = _
            simp only [Act.put, List.setIfInBounds_toArray, List.set_cons_zero, List.set_cons_succ]
            rfl
          refine take_ (i := 6) (N := (some 21)) (v := ?_) (a' := ?_) #[true, true, true, true, true, true, true, false, false, false, false, false] rfl rfl (by kernel_rfl) (fun _ _ _ h => h) (Or.inl ⟨by rfl, ?_⟩) (by assumption) ?_ ?_
          rotate_left
          · rintro W' hS'
            go_simp
            with_reducible rfl
          rotate_left
          · simp only [Act.put, List.setIfInBounds_toArray, List.set_cons_zero, List.set_cons_succ]
            rfl
          refine take_ (i := 7) (N := (some 28)) (v := ?_) (a' := ?_) #[true, true, true, true, true, true, true, true, false, false, false, false] rfl rfl (by kernel_rfl) (fun _ _ _ h => h) (Or.inl ⟨by rfl, ?_⟩) (by assumption) ?_ ?_
          rotate_left
          · rintro W' hS'
            go_simp
            with_reducible rfl
          rotate_left
          · simp only [Act.put, List.setIfInBounds_toArray, List.set_cons_zero, List.set_cons_succ]
            rfl
          refine pure_ (i := 8) (N := (some 29)) (v := ?_) (a' := ?_) #[true, true, true, true, true, true, true, true, true, false, false, false] rfl rfl (by kernel_rfl) (fun _ _ _ h => h) (Or.inl ⟨by rfl, ?_⟩) ?_ ?_
          rotate_left
          · rintro W'
            go_simp
            with_reducible rfl
          rotate_left
          · simp only [Act.put, List.setIfInBounds_toArray, List.set_cons_zero, List.set_cons_succ]
            rfl
          refine one_ (i := 9) (N := (some 8)) #[true, true, true, true, true, true, true, true, true, true, false, false] rfl rfl (by kernel_rfl) (by decide) (fun K hK => ?_)
          refine value_ (by rfl) (N := some 8) rfl (v := .pointer (some ⟨w3.heap.size, 0, none⟩)) (w1 := w3.alloc (.cells #[.slice none 0 0, .bool false, .slice none 0 0, .int .i64 0] 67)) (by first | rfl | (simp [execOp, go_sem])) ?_
          refine hK.out _ _ (HX3.alloc _) (fun HS => ?_)
          clear hK K
          refine norm_ (a' := ?_) ?_ ?_
          rotate_left
          · show Act.put _ (some 8) _ = _
            simp only [Act.put, List.setIfInBounds_toArray, List.set_cons_zero, List.set_cons_succ]
            rfl
          refine norm_ ?_ (J (w3.heap.size, v, er) _ (GF.mk1 HX3 hq.out))
          simp only [putAll, Act.put, List.setIfInBounds_toArray, List.set_cons_zero, List.set_cons_succ]
        · refine value_ (by rfl) (N := some 8) rfl (v := .pointer (some ⟨W1.heap.size, 0, none⟩)) (w1 := W1.alloc (.cells #[.slice none 0 0, .bool false, .slice none 0 0, .int .i64 0] 67)) (by first | rfl | (simp [execOp, go_sem])) ?_
          have HX3 := HA.alloc (.cells #[.slice none 0 0, .bool false, .slice none 0 0, .int .i64 0] 67)
          refine hK.out _ _ HX3 (fun HS => ?_)
          clear hK K
          refine norm_ (a' := ?_) ?_ ?_
          rotate_left
          · show Act.put _ (some 8) _ = _
            simp only [Act.put, List.setIfInBounds_toArray, List.set_cons_zero, List.set_cons_succ]
            rfl
          refine one_ (i := 5) (N := some 27) #[true, true, true, true, true, true, false, false, false, true, false, false] rfl rfl (by kernel_rfl) (by decide) (fun K hK => ?_)
          refine goes_ Try.func32 (by kernel_rfl) rfl #[stV st (.slice Al rows.length cl) (.slice Ab (bOf st).length cb), .string ⟨lin.toArray⟩] (by rfl) rfl rfl (by (try simp only [List.map_toArray, List.map_cons, List.map_nil]); first | done | rfl) ?_
          refine (rstep_any w.heap.size st _ _ rows lin _ (RS0.out.ct (ct_below ((Below.refl _ W1).alloc (Nat.le_refl _) _))) HX3.bel.size).mono ?_
          rintro e w3 ⟨hb, hs, hk, hr⟩
          obtain ⟨v, er, rfl, hq0⟩ := StepR.split hr
          have hq := Lib.hid hq0
          clear hq0 hr
          refine ⟨_, rfl, ?_⟩
          have HX4 := HX3.ko hb hk
          refine hK.out _ _ HX4 (fun HS => ?_)
          clear hK K
          refine norm_ (a' := ?_) ?_ ?_
          rotate_left
          · show Act.put _ (some 27) _ = _
            simp only [Act.put, List.setIfInBounds_toArray, List.set_cons_zero, List.set_cons_succ]
            rfl
          refine take_ (i := 6) (N := (some 21)) (v := ?_) (a' := ?_) #[true, true, true, true, true, true, true, false, false, true, false, false] rfl rfl (by kernel_rfl) (fun _ _ _ h => h) (Or.inl ⟨by rfl, ?_⟩) (by assumption) ?_ ?_
          rotate_left
          · rintro W' hS'
            go_simp
            with_reducible rfl
          rotate_left
          · simp only [Act.put, List.setIfInBounds_toArray, List.set_cons_zero, List.set_cons_succ]
            rfl
          refine take_ (i := 7) (N := (some 28)) (v := ?_) (a' := ?_) #[true, true, true, true, true, true, true, true, false, true, false, false] rfl rfl (by kernel_rfl) (fun _ _ _ h => h) (Or.inl ⟨by rfl, ?_⟩) (by assumption) ?_ ?_
          rotate_left
          · rintro W' hS'
            go_simp
            with_reducible rfl
          rotate_left
          · simp only [Act.put, List.setIfInBounds_toArray, List.set_cons_zero, List.set_cons_succ]
            rfl
          refine pure_ (i := 8) (N := (some 29)) (v := ?_) (a' := ?_) #[true, true, true, true, true, true, true, true, true, true, false, false] rfl rfl (by kernel_rfl) (fun _ _ _ h => h) (Or.inl ⟨by rfl, ?_⟩) ?_ ?_
          rotate_left
          · rintro W'
            go_simp
            with_reducible rfl
          rotate_left
          · simp only [Act.put, List.setIfInBounds_toArray, List.set_cons_zero, List.set_cons_succ]
            rfl
          refine norm_ ?_ (J (W1.heap.size, v, er) _ (GF.mk2 HA hb hk HX4 hq.out))
          simp only [putAll, Act.put, List.setIfInBounds_toArray, List.set_cons_zero, List.set_cons_succ]
      · obtain rfl : k = strs.length := by omega
        have HF1 := HF.out
        rw [← hln.out, List.take_length] at HF1
        have hG := Lib.hid (gall_done gs0 0 LL st HF1)
        have c0 := cellAt HG.out.x 0
        have c1 := cellAt HG.out.x 1
        simp at c0 c1
        by_cases hi : st.ins = true
        · rw [if_pos hi] at hG
          rw [hi] at c1
          go_wp2
          go_ret3
          refine ⟨none, [], 0, ?_, by rw [hP.out, hG.out]; rfl, ⟨.nil _ _ _, Nat.le_refl _, fun r hr => absurd hr List.not_mem_nil⟩, HG.out.bel⟩
          rw [hP.out, hG.out]
          have h1 := hln.out
          have h2 := hlnl.out
          have h3 : wrap64 ((strs.length : Int) + 1) = ((0 + LL.length : Nat) : Int) + 1 := by unfold wrap64; omega
          simp only [Array.getD, h3]
          rfl
        · rw [if_neg hi] at hG
          have hi : st.ins = false := by simpa using hi
          rw [hi] at c1
          go_wp2
          go_ret3
          exact ⟨Al, rows, cl, by rw [hP.out, hG.out]; rfl, by rw [hP.out, hG.out]; exact RS0.out.L, RS0.out.chn, HG.out.bel⟩
end Go.Proofs.Ytbdccfjeeabpaaa
namespace Go.Proofs.Ytbdccfjeeabpaaa
open Go.RowKit Go.Shelf
open Go.Proofs.YtbdccfjeeabpaaaW.PrintWords (ReadsOf blk_cell add_plain Ev string_of_reads)
open Go.Proofs.YtbdccfjeeabpaaaW
attribute [local go_sem] Oper.semAt_some
set_option linter.unusedSimpArgs false
set_option linter.unusedVariables false
set_option maxRecDepth 50000
/-- Get, as a chain. -/
theorem get_r (s : ByteArray) (L : List (List Int)) (n er : Int) (h : getP s.data.toList = (L, n, er)) (hL : L.length ≤ 1000) (w : World) :
    Calls Try.prog 11 #[.string s] w fun e w' => ∃ A rows, e = .returned (.tuple #[.slice A rows.length rows.length, .int .i64 n, .int .i64 er]) ∧ rows.map (·.l) = L ∧ Chn w' A rows.length rows ∧ (∀ r ∈ rows, r.c = r.l.length) ∧ (∀ r ∈ rows, 1 ≤ r.l.length ∧ r.l.length ≤ 65536) ∧ Below w.heap.size w w' := by
  refine (get_any s w).mono ?_
  rintro e w' ⟨A, rows, rfl, h1, h2, h3, hb⟩
  rw [h] at h1 ⊢
  refine ⟨A, rows, rfl, h1, ⟨?_, Nat.le_refl _, fun r hr => ?_⟩, fun r hr => (h3 r hr).c, fun r hr => (h3 r hr).n, hb⟩
  · by_cases h0 : rows = []
    · subst h0; exact ⟨rfl, by simp, fun h => absurd h (Nat.lt_irrefl 0)⟩
    · obtain ⟨g, cur, rfl, _, hg, ht⟩ := h2 h0
      have hl : rows.length ≤ cur.size := by
        have h := congrArg List.length ht
        rw [List.length_take, List.length_map] at h
        have e : cur.toList.length = cur.size := Array.length_toList
        omega
      refine ⟨rfl, ?_, fun _ => ⟨_, rfl, fun j hj => ?_⟩⟩
      · have := congrArg List.length h1
        rw [List.length_map] at this
        have h9 : rows.length = L.length := this
        omega
      · rw [add_plain, blk_cell hg, ← Array.getElem?_toList]
        have e := congrArg (fun x : List Value => x[j]?) ht
        simp only [List.getElem?_take] at e
        rw [if_pos (by omega)] at e
        rw [e, List.getElem?_map, List.getD_eq_getElem?_getD, List.getElem?_eq_getElem hj]
        rfl
  · obtain ⟨g, cur, e1, _, e2, e3⟩ := (h3 r hr).g
    refine ⟨⟨rfl, by have := (h3 r hr).n.2; omega, fun _ => ⟨_, e1, fun j hj => ?_⟩⟩, by rw [(h3 r hr).c]; exact Nat.le_refl _, (h3 r hr).byt, by have := (h3 r hr).n.2; omega⟩
    rw [add_plain, blk_cell e2, ← Array.getElem?_toList]
    have e := congrArg (fun x : List Value => x[j]?) e3
    simp only [List.getElem?_take] at e
    rw [if_pos (by omega)] at e
    rw [e, List.getElem?_map, List.getD_eq_getElem?_getD, List.getElem?_eq_getElem hj]
    rfl
theorem rget_r (s : ByteArray) (L : List (List Int)) (n er : Int) (h : getP s.data.toList = (L, n, er)) (hs : s.size ≤ 1000000000) (w : World) :
    Calls Try.prog 14 #[.string s] w fun e w' => ∃ A rows c, e = .returned (.tuple #[.slice A rows.length c, .int .i64 n, .int .i64 er]) ∧ rows.map (·.l) = L ∧ Chn w' A c rows ∧ Below w.heap.size w w' := by
  have := rget_any s hs w
  rw [h] at this
  exact this
theorem gall_bad : ∀ (ls : List (List UInt8)) (x : GS) (k : Nat), (gall x k ls).2.2 ≠ 0 → (gall x k ls).1 = []
  | [], x, k, h => by
    unfold gall at h ⊢
    by_cases hi : x.ins = true
    · rw [if_pos hi]
    · rw [if_neg hi] at h; exact absurd rfl h
  | s :: r, x, k, h => by
    unfold gall at h ⊢
    by_cases he : (gstep x s).2 ≠ 0
    · rw [if_pos he]
    · rw [if_neg he] at h ⊢
      exact gall_bad r _ (k + 1) h
theorem getP_bad {s : List UInt8} {L : List (List Int)} {n er : Int} (h : getP s = (L, n, er)) (he : er ≠ 0) : L = [] := by
  unfold getP at h
  split at h
  · cases h; rfl
  · have := gall_bad (lns s) gs0 0 (by rw [h]; exact he)
    rw [h] at this
    exact this
theorem getP_len {s : List UInt8} {L : List (List Int)} {n er : Int} (hs : s.length ≤ 3000) (h : getP s = (L, n, er)) : L.length ≤ 64 := by
  by_cases he : er = 0
  · subst he
    unfold getP at h
    rw [if_neg (by omega)] at h
    have h1 := gall_rest (lns s) gs0 0 _ _ (fun h => by cases h) h
    have e0 : preT gs0 = [] := by simp [preT, gs0]
    rw [e0, List.nil_append] at h1
    have h2 := rest_len s.length s (Nat.le_refl _)
    have h3 := cer_len L
    rw [h1] at h3
    omega
  · rw [getP_bad h he]; simp
theorem restL_snoc {ls : List (List UInt8)} {k : Nat} (h : k < ls.length) : restL (ls.take (k + 1)) = restL (ls.take k) ++ keepL (ls.getD k []) := by
  unfold restL
  rw [List.take_add_one, List.getElem?_eq_getElem h, Option.toList_some, List.flatMap_append, List.getD_eq_getElem?_getD, List.getElem?_eq_getElem h]
  simp
theorem restL_pre (ls : List (List UInt8)) (j : Nat) : (restL (ls.take j)).length ≤ (restL ls).length := by
  have h : restL (ls.take j) ++ restL (ls.drop j) = restL ls := by
    unfold restL
    rw [← List.flatMap_append, List.take_append_drop]
  rw [← h, List.length_append]
  omega
theorem ba_app (a b : List UInt8) : (⟨a.toArray⟩ : ByteArray) ++ ⟨b.toArray⟩ = ⟨(a ++ b).toArray⟩ := ba_eq (by simp)
set_option maxHeartbeats 16000000 in
theorem armorsGet_walk (s : ByteArray) (W : World) : Calls Try.prog 4 #[.string s] W fun e w' => e = .returned (.bool true) ∧ Below W.heap.size W w' := by
  have hsl : s.data.toList.length = s.size := by rw [Array.length_toList]; rfl
  by_cases hbig : 3000 < s.size
  · go_enter Try.func4, Try.ntmps4
    go_wp2_with (go_at_call 9; refine (lives_any _).mono ?_; rintro e w' ⟨rfl, hb⟩)
    go_ret
    exact ⟨rfl, hb⟩
  · obtain ⟨L, n, er, hP⟩ : ∃ L n er, Hid (getP s.data.toList = (L, n, er)) := ⟨_, _, _, Lib.hid rfl⟩
    have hL := Lib.hid (getP_len (by omega) hP.out)
    by_cases he : er = 0
    · subst he
      have HPut := Lib.hid (fun (rows : List Rw) (h : rows.map (·.l) = L) (hr : ∀ r ∈ rows, 1 ≤ r.l.length ∧ r.l.length ≤ 65536) => rest_put (s := s.data.toList) (rows := rows) (n := n) (by omega) (by rw [h]; exact hP.out) hr)
      obtain ⟨LL, hLL⟩ : ∃ LL, Hid (lns s.data.toList = LL) := ⟨_, Lib.hid rfl⟩
      have hlnl : Hid (LL.length ≤ 3000) := by
        show _ ≤ _
        have := lns_len s.data.toList.length s.data.toList (Nat.le_refl _)
        rw [hLL.out] at this
        omega
      have RLn := Lib.hid (fun w => rlines_any s (by omega) w)
      rw [hLL.out] at HPut RLn
      obtain ⟨strs, hst⟩ : ∃ strs, Hid (LL.map mkS = strs) := ⟨_, Lib.hid rfl⟩
      rw [hst.out] at RLn
      have hln : Hid (LL.length = strs.length) := by show _ = _; rw [← hst.out, List.length_map]
      have hsb : strs.length ≤ 3000 := by have := hlnl.out; have := hln.out; omega
      have hsl' : Hid (s.data.toList.length ≤ 3000) := by show _ ≤ _; omega
      clear hsl
      go_enter Try.func4, Try.ntmps4
      go_upto_region 11 with (first
        | (go_at_call 11; refine (get_r s L n 0 hP.out (by have := hL.out; omega) _).mono ?_; rintro e w1 ⟨A, ra, rfl, g1, g2, g3, g4, hb1⟩; have G1 := Lib.hid g1; have G2 := Lib.hid g2; have G3 := Lib.hid g3; have G4 := Lib.hid g4; have B1 := Lib.hid hb1; clear g1 g2 g3 g4 hb1)
        | (go_at_call 14; refine (rget_r s L n 0 hP.out (by omega) _).mono ?_; rintro e w2 ⟨B, rb, cb, rfl, k1, k2, hb2⟩; have K1 := Lib.hid k1; have K2 := Lib.hid k2; have GA := Lib.hid (G2.out.below hb2); have B2 := Lib.hid (chainB B1.out rfl hb2); clear k1 k2 hb2)
        | (go_at_call 13; refine (same_yes A ra.length ra B cb rb _ GA.out K2.out (G1.out.trans K1.out.symm) rfl G3.out (by have := congrArg List.length G1.out; simp only [List.length_map] at this; have := hL.out; omega)).mono ?_; rintro e w3 ⟨rfl, hb3⟩; have GB := Lib.hid (GA.out.below hb3); have B3 := Lib.hid (chainB B2.out rfl hb3); clear hb3)
        | (go_at_call 15; refine (RLn.out _).mono ?_; rintro e w4 ⟨D, cd, rfl, q1, q2, hb4⟩; have Q2 := Lib.hid q2; have GC := Lib.hid (GB.out.below hb4); have B4 := Lib.hid (chainB B3.out rfl hb4); clear q2 hb4))
      go_wp2
      go_loopw [9, 11] (fun v i wr => ∃ (k : Nat) (T : List UInt8), k ≤ strs.length ∧ i = .int .i64 k ∧ v = .string ⟨T.toArray⟩ ∧ Hid (T = restL (LL.take k)) ∧ wr = w4) (fun _ i _ => strs.length - (intOf i).toNat)
      case atStart => exact ⟨0, [], by omega, rfl, rfl, Lib.hid (by simp [restL]), rfl⟩
      case round =>
        obtain ⟨k, T, hk, rfl, rfl, hT, rfl⟩ := hrel
        by_cases hlt : k < strs.length
        · obtain ⟨ad, rfl⟩ : ∃ ad, D = some ad := by
            obtain ⟨g, cur, h1, _⟩ := Q2.out (fun e => by rw [e] at hlt; simp at hlt)
            exact ⟨_, h1⟩
          obtain ⟨lin, hlin⟩ : ∃ lin, Hid (LL.getD k [] = lin) := ⟨_, Lib.hid rfl⟩
          have hstr : strs.getD k ByteArray.empty = ⟨lin.toArray⟩ := by
            rw [← hst.out, ← hlin.out, List.getD_eq_getElem?_getD, List.getD_eq_getElem?_getD, List.getElem?_map, List.getElem?_eq_getElem (by have := hln.out; omega)]
            rfl
          have c0 := Q2.out.cell hlt
          rw [hstr] at c0
          clear hstr
          have hsn := Lib.hid (restL_snoc (ls := LL) (k := k) (by have := hln.out; omega))
          rw [hlin.out, ← hT.out] at hsn
          clear hlin
          rcases lin with _ | ⟨a, r⟩
          · go_wp2
            go_round
            case rel => exact ⟨k + 1, T, by omega, by go_num, rfl, Lib.hid (by rw [hsn.out]; simp [keepL, skipL]), trivial⟩
            case measure => simp [intOf]; omega
          · by_cases ha : a = 35
            · subst ha
              go_wp2
              go_round
              case rel => exact ⟨k + 1, T, by omega, by go_num, rfl, Lib.hid (by rw [hsn.out]; simp [keepL, skipL]), trivial⟩
              case measure => simp [intOf]; omega
            · have ha1 : ((a.toNat : Int) == 35) = false := by
                simp only [beq_eq_false_iff_ne]
                intro e
                exact ha (UInt8.toNat_inj.1 (by exact_mod_cast e))
              have hkp : Hid (restL (LL.take (k + 1)) = T ++ ((a :: r) ++ [10])) := by
                show _ = _
                rw [hsn.out]
                unfold keepL
                rw [if_neg (by unfold skipL; simpa using ha)]
              have hcat : (⟨T.toArray⟩ : ByteArray) ++ (⟨(a :: r).toArray⟩ ++ ⟨#[10]⟩) = ⟨(T ++ ((a :: r) ++ [10])).toArray⟩ := by
                rw [← ba_app, ← ba_app]
              have ha2 : ∀ h, (((((⟨(a :: r).toArray⟩ : ByteArray)[0]'h).toNat : Nat) : Int) != 35) = true := fun h => by
                have e : ((((⟨(a :: r).toArray⟩ : ByteArray)[0]'h).toNat : Nat) : Int) = (a.toNat : Int) := rfl
                rw [e, bne, ha1]
                rfl
              have hz2 : T.length + (r.length + 1 + 1) ≤ 3001 := by
                have h1 := restL_pre LL (k + 1)
                rw [hkp.out] at h1
                have h2 := rest_len s.data.toList.length s.data.toList (Nat.le_refl _)
                rw [hLL.out] at h2
                have h3 := hsl'.out
                simp only [List.length_append, List.length_cons, List.length_nil] at h1
                omega
              have hb1 : ¬ 9223372036854775807 < r.length + 1 + 1 := by omega
              have hb2 : ¬ 9223372036854775807 < T.length + (r.length + 1 + 1) := by omega
              clear ha
              go_wp2
              go_round
              case rel => exact ⟨k + 1, T ++ ((a :: r) ++ [10]), by omega, by go_num, by simp, Lib.hid hkp.out.symm, trivial⟩
              case measure => simp [intOf]; omega
        · obtain rfl : k = strs.length := by omega
          rw [← hln.out, List.take_length] at hT
          have hPu := Lib.hid (HPut.out ra G1.out G4.out)
          rw [← hT.out] at hPu
          go_wp2_with (first
            | (go_at_call 10; refine (put_any A ra.length ra _ GC.out (by have := congrArg List.length G1.out; simp only [List.length_map] at this; have := hL.out; omega)).mono ?_; rintro e w5 ⟨rfl, hb5⟩; rw [hPu.out]; have B5 := Lib.hid (chainB B4.out rfl hb5); clear hb5)
            | (go_at_call 9; refine (lives_any _).mono ?_; rintro e w6 ⟨rfl, hb6⟩; have B6 := Lib.hid (chainB B5.out rfl hb6); clear hb6))
          go_ret
          exact ⟨rfl, B6.out⟩
    · have he' : (er == 0) = false := by simpa using he
      obtain rfl := getP_bad hP.out he
      clear he
      go_enter Try.func4, Try.ntmps4
      go_wp2_with (first
        | (go_at_call 11; refine (get_r s [] n er hP.out (by simp) _).mono ?_; rintro e w1 ⟨A, ra, rfl, g1, g2, g3, g4, hb1⟩; obtain rfl := List.map_eq_nil_iff.1 g1; have G2 := Lib.hid g2; have B1 := Lib.hid hb1; clear g1 g2 g3 g4 hb1)
        | (go_at_call 14; refine (rget_r s [] n er hP.out (by omega) _).mono ?_; rintro e w2 ⟨B, rb, cb, rfl, k1, k2, hb2⟩; obtain rfl := List.map_eq_nil_iff.1 k1; have K2 := Lib.hid k2; have GA := Lib.hid (G2.out.below hb2); have B2 := Lib.hid (chainB B1.out rfl hb2); clear k1 k2 hb2)
        | (go_at_call 13; refine (same_yes A 0 [] B cb [] _ GA.out K2.out rfl rfl (fun r hr => absurd hr List.not_mem_nil) (by simp)).mono ?_; rintro e w3 ⟨rfl, hb3⟩; have B3 := Lib.hid (chainB B2.out rfl hb3); clear hb3)
        | (go_at_call 9; refine (lives_any _).mono ?_; rintro e w6 ⟨rfl, hb6⟩; have B6 := Lib.hid (chainB B3.out rfl hb6); clear hb6))
      go_ret
      exact ⟨rfl, B6.out⟩
end Go.Proofs.Ytbdccfjeeabpaaa
namespace Go.Proofs.Ytbdccfjeeabpaaa
open Go.RowKit Go.Shelf
set_option linter.unusedSimpArgs false
set_option linter.unusedVariables false
set_option maxRecDepth 50000
/-- Some empty lines, and a line that is skipped. -/
def skipT (z : Nat) : List UInt8 := List.replicate z 10 ++ ([35, 32] ++ begS ++ [10])
theorem skipT_len (z : Nat) : (skipT z).length = z + 30 := by unfold skipT begS; simp
theorem lns_skip (z : Nat) (r : List UInt8) : lns (skipT z ++ r) = List.replicate z [] ++ ([35, 32] ++ begS) :: lns r := by
  induction z with
  | zero =>
    unfold skipT
    simp only [List.replicate_zero, List.nil_append, List.append_assoc]
    have := lns_app ([35, 32] ++ begS) r (by decide)
    simpa using this
  | succ z ih =>
    have e : skipT (z + 1) ++ r = [] ++ 10 :: (skipT z ++ r) := by
      unfold skipT
      rw [List.replicate_succ]
      simp
    rw [e, lns_app _ _ (by simp), ih, List.replicate_succ]
    rfl
theorem gstep_skip {x : GS} {s : List UInt8} (hi : x.ins = false) (hs : s = [] ∨ s.head? = some 35) : gstep x s = (x, 0) := by
  unfold gstep; rw [if_pos hi, if_pos hs]
theorem gall_rep (x : GS) (hi : x.ins = false) (r : List (List UInt8)) : ∀ (z k : Nat), gall x k (List.replicate z [] ++ r) = gall x (k + z) r
  | 0, k => rfl
  | z + 1, k => by
    rw [List.replicate_succ, List.cons_append, gall_go (gstep_skip hi (.inl rfl)), gall_rep x hi r z (k + 1), show k + 1 + z = k + (z + 1) by omega]
theorem gall_skip (x : GS) (hi : x.ins = false) (z k : Nat) (r : List UInt8) : gall x k (lns (skipT z ++ r)) = gall x (k + z + 1) (lns r) := by
  rw [lns_skip, gall_rep x hi, gall_go (gstep_skip hi (.inr rfl))]
/-- A certificate's lines, up to its end, counted. -/
theorem gall_lin' (L : List (List Int)) (r : List UInt8) : ∀ (n : Nat) (l : List Int) (B : List Int) (last : Int) (k : Nat), l.length ≤ n → Byt l → (l ≠ [] → 48 ≤ last) → B.length + l.length ≤ 65536 → B ++ l ≠ [] →
    ∃ last', gall ⟨L, true, B, last⟩ k (lns (linR l ++ (endS ++ 10 :: r))) = gall ⟨L ++ [B ++ l], false, B ++ l, last'⟩ (k + ((l.length + 47) / 48 + 1)) (lns r) := by
  intro n
  induction n with
  | zero =>
    intro l B last k hn hb hl hs hne
    obtain rfl : l = [] := List.length_eq_zero_iff.1 (by omega)
    rw [linR_nil, List.nil_append, lns_app _ _ (by decide), List.append_nil]
    rw [List.append_nil] at hne
    refine ⟨last, gall_go ?_⟩
    unfold gstep
    rw [if_neg (by simp), if_pos rfl, if_neg hne]
  | succ n ih =>
    intro l B last k hn hb hl hs hne
    by_cases h0 : l = []
    · subst h0
      rw [linR_nil, List.nil_append, lns_app _ _ (by decide), List.append_nil]
      rw [List.append_nil] at hne
      refine ⟨last, gall_go ?_⟩
      unfold gstep
      rw [if_neg (by simp), if_pos rfl, if_neg hne]
    · have hpos := List.length_pos_iff.2 h0
      have ht : (l.take 48).length = min 48 l.length := List.length_take
      have hd := dec_enc (l.take 48) (byt_take' hb 48)
      rw [linR_cons h0, List.append_assoc, List.cons_append, lns_app _ _ (fun c hc => (encS_ne _ c hc).1)]
      have e : gstep ⟨L, true, B, last⟩ (encS (l.take 48)) = (⟨L, true, B ++ l.take 48, ((l.take 48).length : Int)⟩, 0) := by
        unfold gstep
        have h48 := hl h0
        have h64 := encS_len4 (l.take 48)
        rw [if_neg (by simp), if_neg (encS_end _), if_neg (by
          rintro (h | h | h)
          · have h : last < 48 := h
            omega
          · rw [h] at h64
            simp at h64
            omega
          · omega), hd, if_neg (by simp), if_neg (by show ¬ 65536 < B.length + (l.take 48).length; omega)]
      rw [gall_go e]
      obtain ⟨last', h⟩ := ih (l.drop 48) (B ++ l.take 48) ((l.take 48).length : Int) (k + 1) (by rw [List.length_drop]; omega) (byt_drop' hb 48)
        (fun h => by
          have := List.length_pos_iff.2 h
          rw [List.length_drop] at this
          omega) (by rw [List.length_append, List.length_drop]; omega) (by
          rw [List.append_assoc, List.take_append_drop]; exact hne)
      rw [List.append_assoc, List.take_append_drop] at h
      refine ⟨last', ?_⟩
      rw [h, List.length_drop, show k + 1 + ((l.length - 48 + 47) / 48 + 1) = k + ((l.length + 47) / 48 + 1) by omega]
def nLin (rows : List Rw) : Nat := (rows.map fun r => (r.l.length + 47) / 48 + 2).sum
theorem gall_put_tail : ∀ (rows : List Rw) (L : List (List Int)) (B : List Int) (last : Int) (k : Nat) (r : List UInt8), L.length + rows.length ≤ 64 → (∀ r ∈ rows, r.l ≠ [] ∧ r.l.length ≤ 65536 ∧ Byt r.l) →
    ∃ B' last', gall ⟨L, false, B, last⟩ k (lns (putS rows ++ r)) = gall ⟨L ++ rows.map (·.l), false, B', last'⟩ (k + nLin rows) (lns r)
  | [], L, B, last, k, r, _, _ => ⟨B, last, by simp [putS, nLin]⟩
  | x :: t, L, B, last, k, r, hl, h => by
    obtain ⟨h1, h2, h3⟩ := h x (by simp)
    rw [List.length_cons] at hl
    have e0 : putS (x :: t) ++ r = begS ++ 10 :: (linR x.l ++ (endS ++ 10 :: (putS t ++ r))) := by
      unfold putS
      rw [List.flatMap_cons]
      unfold cerS
      rw [linS_linR]
      simp [begS, endS]
    have e : gstep ⟨L, false, B, last⟩ begS = (⟨L, true, [], 48⟩, 0) := by
      unfold gstep
      rw [if_pos rfl, if_neg (by decide), if_neg (by simp), if_neg (by show ¬ L.length = 64; omega)]
    obtain ⟨last', e2⟩ := gall_lin' L (putS t ++ r) x.l.length x.l [] 48 (k + 1) (Nat.le_refl _) h3 (fun _ => by omega) (by simpa using h2) (by simpa using h1)
    obtain ⟨B2, last2, e3⟩ := gall_put_tail t (L ++ [x.l]) x.l last' (k + 1 + ((x.l.length + 47) / 48 + 1)) r (by rw [List.length_append, List.length_singleton]; omega) (fun r hr => h r (List.mem_cons_of_mem _ hr))
    refine ⟨B2, last2, ?_⟩
    rw [e0, lns_app _ _ (by decide), gall_go e, e2, List.nil_append, e3]
    have en : k + 1 + ((x.l.length + 47) / 48 + 1) + nLin t = k + nLin (x :: t) := by
      unfold nLin
      rw [List.map_cons, List.sum_cons]
      omega
    rw [en]
    simp
theorem putS_len_ok (rows : List Rw) (h1 : rows.length ≤ 4) (h2 : allL rows ≤ 500) : (putS rows).length ≤ 2716 := by
  have := putS_small rows
  omega
/-- Both chains. -/
theorem get_both (z : Nat) (hz : z ≤ 3) (a b : List Rw) (ha : a.length ≤ 4) (hb : b.length ≤ 4) (hal : allL a ≤ 500) (hbl : allL b ≤ 500) (h : ∀ r ∈ a ++ b, r.l ≠ [] ∧ r.l.length ≤ 65536 ∧ Byt r.l) :
    getP (skipT z ++ putS a ++ skipT z ++ skipT z ++ putS b ++ [35]) = ((a ++ b).map (·.l), 0, 0) := by
  have h1 := putS_len_ok a ha hal
  have h2 := putS_len_ok b hb hbl
  have h3 := skipT_len z
  unfold getP
  rw [if_neg (by simp only [List.length_append, List.length_cons, List.length_nil]; omega)]
  rw [List.append_assoc, List.append_assoc, List.append_assoc, List.append_assoc, gall_skip gs0 rfl]
  obtain ⟨B1, l1, e1⟩ := gall_put_tail a [] [] 48 (0 + z + 1) (skipT z ++ (skipT z ++ (putS b ++ [35]))) (by simpa using by omega) (fun r hr => h r (List.mem_append_left _ hr))
  have e0 : gs0 = ⟨[], false, [], 48⟩ := rfl
  rw [e0, e1, gall_skip _ rfl, gall_skip _ rfl]
  obtain ⟨B2, l2, e2⟩ := gall_put_tail b ([] ++ a.map (·.l)) B1 l1 (0 + z + 1 + nLin a + z + 1 + z + 1) [35] (by rw [List.nil_append, List.length_map]; omega) (fun r hr => h r (List.mem_append_right _ hr))
  rw [e2, lns_one (by decide) (by simp), gall_go (gstep_skip rfl (.inr rfl)), gall, if_neg (by simp)]
  simp
theorem get_form (z : Nat) (hz : z ≤ 3) : getP (skipT z ++ [120] ++ skipT z) = ([], (z : Int) + 2, 6) := by
  have h3 := skipT_len z
  unfold getP
  rw [if_neg (by simp only [List.length_append, List.length_cons, List.length_nil]; omega), List.append_assoc, gall_skip gs0 rfl]
  have e : ∀ t : List UInt8, lineF (120 :: t) = 120 :: lineF t := fun t => by simp [lineF]
  rw [List.singleton_append, lns_cons (by simp), e]
  have hg : gstep gs0 (120 :: lineF (skipT z)) = (gs0, 6) := by
    unfold gstep
    rw [if_pos (show gs0.ins = false from rfl), if_neg (by simp), if_pos (by simp [begS])]
  rw [gall, hg, if_pos (by simp)]
  simp
  omega
theorem get_leng (z : Nat) (hz : z ≤ 3) : getP (skipT z ++ begS ++ [10] ++ skipT z) = ([], (z : Int) + 3, 10) := by
  have h3 := skipT_len z
  have hb : begS.length = 27 := rfl
  unfold getP
  rw [if_neg (by simp only [List.length_append, List.length_cons, List.length_nil]; omega), List.append_assoc, List.append_assoc, gall_skip gs0 rfl, List.singleton_append, lns_app _ _ (by decide)]
  have e : gstep gs0 begS = (⟨[], true, [], 48⟩, 0) := by
    unfold gstep
    rw [if_pos (show gs0.ins = false from rfl), if_neg (by decide), if_neg (by simp), if_neg (by decide)]
    rfl
  rw [gall_go e]
  have hl := lns_skip z []
  rw [List.append_nil] at hl
  rw [hl]
  have key : ∀ (s : List UInt8) (t : List (List UInt8)), s = [] ∨ s = [35, 32] ++ begS → gall ⟨[], true, [], 48⟩ (0 + z + 1 + 1) (s :: t) = ([], (z : Int) + 3, 10) := fun s t hs => by
    have hg : gstep ⟨[], true, [], 48⟩ s = (⟨[], true, [], 48⟩, 10) := by
      rcases hs with rfl | rfl
      · unfold gstep
        rw [if_neg (by simp), if_neg (by decide), if_pos (.inr (.inl rfl))]
      · unfold gstep
        have hd : (decP ([35, 32] ++ begS)).2 = 10 := by
          unfold decP
          rw [if_neg (by decide)]
        rw [if_neg (by simp), if_neg (by decide), if_neg (by
          rintro (h | h | h)
          · exact absurd h (by decide)
          · exact absurd h (by decide)
          · exact absurd h (by decide)), if_pos (by rw [hd]; decide), hd]
    rw [gall, hg, if_pos (by simp)]
    simp
    omega
  cases z with
  | zero => exact key _ _ (.inr rfl)
  | succ z => rw [List.replicate_succ]; exact key _ _ (.inl rfl)
end Go.Proofs.Ytbdccfjeeabpaaa
namespace Go.Proofs.Ytbdccfjeeabpaaa
open Go.RowKit Go.Shelf
open Go.Proofs.YtbdccfjeeabpaaaW.PrintWords (ReadsOf blk_cell add_plain Ev string_of_reads)
open Go.Proofs.YtbdccfjeeabpaaaW
attribute [local go_sem] Oper.semAt_some
set_option linter.unusedSimpArgs false
set_option linter.unusedVariables false
set_option maxRecDepth 50000
theorem rep_any (m : Nat) (hm : m ≤ 3) (w : World) : Calls Try.prog 20 #[.string ⟨#[10]⟩, .int .i64 (m : Int)] w fun e w' => e = .returned (.string ⟨(List.replicate m 10).toArray⟩) ∧ Below w.heap.size w w' := by
  rcases (show m = 0 ∨ m = 1 ∨ m = 2 ∨ m = 3 by omega) with rfl | rfl | rfl | rfl
  · exact (Try.strings_Repeat_zero _ w).mono fun e w' ⟨h1, h2⟩ => ⟨h1, by rw [h2]; exact Below.refl _ _⟩
  · exact (Try.strings_Repeat_one _ w).mono fun e w' ⟨h1, h2⟩ => ⟨h1, by rw [h2]; exact Below.refl _ _⟩
  · exact (Try.strings_Repeat_main _ 2 w (by decide) (by decide) (by decide) (by decide)).mono fun e w' ⟨h1, h2⟩ => ⟨h1, h2⟩
  · exact (Try.strings_Repeat_main _ 3 w (by decide) (by decide) (by decide) (by decide)).mono fun e w' ⟨h1, h2⟩ => ⟨h1, h2⟩
theorem app_none {W : World} {base : Nat} {v : Value} {n c : Nat} {xs : List Value} (hown : W.ownsRow base 24 1 v n xs) : (Builtin.append_ #[22, 22] 22 #[v, .slice none 0 c]).run Try.prog W = .ok v W := by
  obtain ⟨i0, hi, hz0, hz1, hz2⟩ := info_parts info24
  rcases hown.2 with ⟨rfl, rfl⟩ | ⟨g, cap, cur, rfl, _, _, hnc, _⟩
  · simp [Builtin.append_, run_underlying Try.underlying22, sizeOf, typeInfo, hi, Builtin.lenOf, Builtin.firstCells]
  · simp [Builtin.append_, run_underlying Try.underlying22, sizeOf, typeInfo, hi, Builtin.lenOf, Builtin.firstCells, hnc, storeCells]
/-- append(l, rows...): l the call's own. -/
theorem app_chn {W : World} {base : Nat} {vl : Value} {n : Nat} {xs : List Value} {A : Option Addr} {c : Nat} {rows : List Rw} (h : W.ownsRow base 24 1 vl n xs) (hp : ReadsOf rwV rw0 W A rows.length rows) (hn : n + rows.length ≤ 1000) (hb : base ≤ W.heap.size) :
    ∃ v' w', (Builtin.append_ #[22, 22] 22 #[vl, .slice A rows.length c]).run Try.prog W = .ok v' w' ∧ w'.ownsRow base 24 1 v' (n + rows.length) (xs ++ rows.map rwV) ∧ W.grownBy w' vl.ownBlock := by
  obtain ⟨i0, hi, hz0, hz1, hz2⟩ := info_parts info24
  cases A with
  | none =>
    have h0 : rows = [] := by
      by_cases h0 : rows = []
      · exact h0
      · obtain ⟨ad, e, _⟩ := hp.2.2 (List.length_pos_iff.2 h0)
        cases e
    subst h0
    exact ⟨vl, W, app_none h, by simpa using h, World.grownBy.refl W _⟩
  | some ad =>
    obtain ⟨v', w', r1, r2, r3, _, _⟩ := run_append_own_at (P := Try.prog) W base 22 22 24 i0 (.slice none 0 0) 1 24 Try.underlying22 hi hz0 hz1 hz2 rfl (by decide) vl n xs h ad rows.length c (rows.map rwV) (by simp)
      (fun j u hu => by
        rw [List.getElem?_map] at hu
        cases e : rows[j]? with
        | none => rw [e] at hu; cases hu
        | some x =>
          rw [e] at hu
          simp at hu
          subst hu
          have hj : j < rows.length := (List.getElem?_eq_some_iff.1 e).1
          obtain ⟨ad', e1, hc⟩ := hp.2.2 (by omega)
          cases e1
          have := hc j hj
          rw [List.getD_eq_getElem?_getD, e] at this
          exact this) (by simp [rwV, Value.oneCell']) (by unfold maxLen; omega) (by omega) hb
    exact ⟨v', w', r1, r2, r3⟩
/-- A row of one's own, read as a chain. -/
theorem chn_own {W : World} {base : Nat} {v : Value} {rows : List Rw} (h : W.ownsRow base 24 1 v rows.length (rows.map rwV)) (hr : ∀ r ∈ rows, RwOk W r) : ∃ A c, v = .slice A rows.length c ∧ Chn W A c rows := by
  obtain ⟨A, c, e, hc, hx⟩ := PrintWords.own_reads_of_le (enc := rwV) (d := rw0) (show W.ownsRow base 24 1 v rows.length (PrintWords.encs rwV rows) from h)
  exact ⟨A, c, e, hx, hc, hr⟩
theorem RwOk.below {W W' : World} {r : Rw} (h : RwOk W r) (hb : Below W.heap.size W W') : RwOk W' r := ⟨h.rr.below hb, h.cc, h.bb, h.nn⟩
theorem allL_take' {rows : List Rw} {k : Nat} {R : Rw} (h : k < rows.length) (hR : rows.getD k rw0 = R) : allL (rows.take (k + 1)) = allL (rows.take k) + R.l.length := by
  unfold allL
  rw [List.take_add_one, List.getElem?_eq_getElem h, Option.toList_some, List.map_append, List.sum_append]
  have hR' : rows[k] = R := by rw [← hR, List.getD_eq_getElem?_getD, List.getElem?_eq_getElem h]; rfl
  rw [hR']
  simp
theorem allL_pre' (rows : List Rw) (k : Nat) : allL (rows.take k) ≤ allL rows := by
  have h : allL (rows.take k) + allL (rows.drop k) = allL rows := by
    unfold allL
    rw [← List.sum_append, ← List.map_append, List.take_append_drop]
  omega
theorem allL_mem' {rows : List Rw} {r : Rw} (h : r ∈ rows) : r.l.length ≤ allL rows := by
  unfold allL
  induction rows with
  | nil => cases h
  | cons x t ih =>
    rw [List.map_cons, List.sum_cons]
    rcases List.mem_cons.1 h with rfl | h
    · omega
    · have := ih h; omega
theorem mem_take_succ {rows : List Rw} {k : Nat} {R : Rw} (h : k < rows.length) (hR : rows.getD k rw0 = R) {P : Rw → Prop} (h1 : ∀ r ∈ rows.take k, P r) (h2 : P R) : ∀ r ∈ rows.take (k + 1), P r := fun r hr => by
  rw [List.take_add_one, List.getElem?_eq_getElem h, Option.toList_some] at hr
  have hR' : rows[k] = R := by rw [← hR, List.getD_eq_getElem?_getD, List.getElem?_eq_getElem h]; rfl
  rcases List.mem_append.1 hr with hr | hr
  · exact h1 r hr
  · rw [List.mem_singleton.1 hr, hR']; exact h2
set_option maxHeartbeats 16000000 in
theorem armorsLoose_walk (A : Option Addr) (ca : Nat) (ra : List Rw) (B : Option Addr) (cb : Nat) (rb : List Rw) (z : Int) (hz : 0 ≤ z ∧ z < 256) (w : World) (hA : Chn w A ca ra) (hB : Chn w B cb rb) (hna : ra.length ≤ 1048576) (hnb : rb.length ≤ 1048576) (hal : allL ra + allL rb ≤ 1048576) :
    Calls Try.prog 7 #[.slice A ra.length ca, .slice B rb.length cb, .int .u8 z] w fun e w' => e = .returned (.bool true) ∧ Below w.heap.size w w' := by
  have HA := Lib.hid hA
  have HB := Lib.hid hB
  have HS := Lib.hid hal
  clear hA hB hal
  go_enter Try.func7, Try.ntmps7
  go_wp2
  go_loopw [7, 8] (fun v i wr => ∃ k s : Nat, k ≤ ra.length ∧ i = .int .i64 k ∧ v = .int .i64 (s : Int) ∧ Hid (s = allL (ra.take k)) ∧ Hid (∀ r ∈ ra.take k, r.l ≠ []) ∧ wr = w) (fun _ i _ => ra.length - (intOf i).toNat)
  case atStart => exact ⟨0, 0, by omega, rfl, rfl, Lib.hid (by simp [allL]), Lib.hid (by simp), rfl⟩
  case round =>
    obtain ⟨k, s, hk, rfl, rfl, hs, hne, rfl⟩ := hrel
    have hsa : s ≤ 1048576 := by have := hs.out; have := allL_pre' ra k; have := HS.out; omega
    by_cases hlt : k < ra.length
    · obtain ⟨ad, hAe, hx⟩ := HA.out.r.2.2 (by omega)
      clear hx
      subst hAe
      obtain ⟨R, hR⟩ : ∃ R, Hid (ra.getD k rw0 = R) := ⟨_, Lib.hid rfl⟩
      have C1 := HA.out.cell hlt hR.out
      have hnx : Hid (s + R.l.length = allL (ra.take (k + 1))) := by show _ = _; rw [allL_take' hlt hR.out, hs.out]
      have hsb : s + R.l.length ≤ 1048576 := by have := hnx.out; have := allL_pre' ra (k + 1); have := HS.out; omega
      by_cases h0 : R.l.length = 0
      · go_wp2_with (go_at_call 9; refine (lives_any _).mono ?_; rintro e w' ⟨rfl, hb⟩)
        go_ret
        exact ⟨rfl, hb⟩
      · have hg0 : ((R.l.length : Int) == 0) = false := by simp only [beq_eq_false_iff_ne]; omega
        have hne2 := Lib.hid (mem_take_succ hlt hR.out hne.out (fun e => h0 (by rw [e]; rfl)))
        go_wp2
        go_round
        case rel => exact ⟨k + 1, s + R.l.length, by omega, by go_num, by go_num, hnx, hne2, trivial⟩
        case measure => simp [intOf]; omega
    · obtain rfl : k = ra.length := by omega
      rw [List.take_length] at hs hne
      have hs0 := Lib.hid hs.out
      go_wp2
      go_loopw [7, 9] (fun v i w2 => ∃ k s2 : Nat, k ≤ rb.length ∧ i = .int .i64 k ∧ v = .int .i64 (s2 : Int) ∧ Hid (s2 = s + allL (rb.take k)) ∧ Hid (∀ r ∈ rb.take k, r.l ≠ []) ∧ w2 = wr) (fun _ i _ => rb.length - (intOf i).toNat)
      case atStart => exact ⟨0, s, by omega, rfl, rfl, Lib.hid (by simp [allL]), Lib.hid (by simp), rfl⟩
      case round =>
        obtain ⟨k, s2, hk2, rfl, rfl, hs2, hne2, rfl⟩ := hrel
        have hsa2 : s2 ≤ 1048576 := by have := hs2.out; have := hs0.out; have := allL_pre' rb k; have := HS.out; omega
        by_cases hlt : k < rb.length
        · obtain ⟨ad, hAe, hx⟩ := HB.out.r.2.2 (by omega)
          clear hx
          subst hAe
          obtain ⟨R, hR⟩ : ∃ R, Hid (rb.getD k rw0 = R) := ⟨_, Lib.hid rfl⟩
          have C1 := HB.out.cell hlt hR.out
          have hnx : Hid (s2 + R.l.length = s + allL (rb.take (k + 1))) := by show _ = _; rw [allL_take' hlt hR.out, hs2.out]; omega
          have hsb : s2 + R.l.length ≤ 1048576 := by have := hnx.out; have := hs0.out; have := allL_pre' rb (k + 1); have := HS.out; omega
          by_cases h0 : R.l.length = 0
          · go_wp2_with (go_at_call 9; refine (lives_any _).mono ?_; rintro e w' ⟨rfl, hb⟩)
            go_ret
            exact ⟨rfl, hb⟩
          · have hg0 : ((R.l.length : Int) == 0) = false := by simp only [beq_eq_false_iff_ne]; omega
            have hne3 := Lib.hid (mem_take_succ hlt hR.out hne2.out (fun e => h0 (by rw [e]; rfl)))
            go_wp2
            go_round
            case rel => exact ⟨k + 1, s2 + R.l.length, by omega, by go_num, by go_num, hnx, hne3, trivial⟩
            case measure => simp [intOf]; omega
        · obtain rfl : k = rb.length := by omega
          rw [List.take_length] at hs2 hne2
          by_cases h4a : 4 < ra.length
          · go_wp2_with (go_at_call 9; refine (lives_any _).mono ?_; rintro e w' ⟨rfl, hb⟩)
            go_ret
            exact ⟨rfl, hb⟩
          · by_cases h4b : 4 < rb.length
            · go_wp2_with (go_at_call 9; refine (lives_any _).mono ?_; rintro e w' ⟨rfl, hb⟩)
              go_ret
              exact ⟨rfl, hb⟩
            · by_cases h500 : 500 < s2
              · go_wp2_with (go_at_call 9; refine (lives_any _).mono ?_; rintro e w' ⟨rfl, hb⟩)
                go_ret
                exact ⟨rfl, hb⟩
              · have h5 : allL ra + allL rb ≤ 500 := by have h1 := hs2.out; have h2 := hs0.out; omega
                have hall : Hid (∀ r ∈ ra ++ rb, r.l ≠ [] ∧ r.l.length ≤ 65536 ∧ Byt r.l) := fun r hr => by
                  rcases List.mem_append.1 hr with hr | hr
                  · exact ⟨hne.out r hr, by have := allL_mem' hr; omega, (HA.out.ok r hr).bb⟩
                  · exact ⟨hne2.out r hr, by have := allL_mem' hr; omega, (HB.out.ok r hr).bb⟩
                obtain ⟨m, hm⟩ : ∃ m : Nat, z % 4 = (m : Int) := ⟨(z % 4).toNat, by omega⟩
                have hm3 : m ≤ 3 := by omega
                have G1 := Lib.hid (get_both m hm3 ra rb (by omega) (by omega) (by omega) (by omega) hall.out)
                have G2 := Lib.hid (get_form m hm3)
                have G3 := Lib.hid (get_leng m hm3)
                have hPA := putS_len_ok ra (by omega) (by omega)
                have hPB := putS_len_ok rb (by omega) (by omega)
                have RA := Lib.hid (fun (W : World) (hC : Chn W A ca ra) => rput_any A ca ra W hC (by omega) (by omega) (fun r hr => by have := (hall.out r (List.mem_append_left _ hr)).2.1; omega))
                have RB := Lib.hid (fun (W : World) (hC : Chn W B cb rb) => rput_any B cb rb W hC (by omega) (by omega) (fun r hr => by have := (hall.out r (List.mem_append_right _ hr)).2.1; omega))
                have hskl := skipT_len m
                have htm : Int.tmod z 4 = (m : Int) := by rw [Int.tmod_eq_emod_of_nonneg (by omega)]; exact hm
                clear hs hs2 hne hne2
                generalize putS ra = PA at *
                generalize putS rb = PB at *
                obtain ⟨RM, hRM⟩ : ∃ RM : List UInt8, Hid (List.replicate m 10 = RM) := ⟨_, Lib.hid rfl⟩
                have hRl : RM.length ≤ 3 := by rw [← hRM.out, List.length_replicate]; exact hm3
                go_upto_region 17 with (go_at_call 20; refine (rep_any m hm3 _).mono ?_; rintro e w1 ⟨rfl, hb1⟩; rw [hRM.out]; have B1 := Lib.hid hb1; clear hb1)
                have hK : ((⟨RM.toArray⟩ ++ ⟨#[35, 32]⟩ ++ ⟨#[45, 45, 45, 45, 45, 66, 69, 71, 73, 78, 32, 67, 69, 82, 84, 73, 70, 73, 67, 65, 84, 69, 45, 45, 45, 45, 45]⟩ ++ ⟨#[10]⟩ : ByteArray)) = ⟨(skipT m).toArray⟩ := by
                  have e1 := ba_app RM [35, 32]
                  have e2 := ba_app (RM ++ [35, 32]) begS
                  have e3 := ba_app (RM ++ [35, 32] ++ begS) [10]
                  have e4 : skipT m = RM ++ [35, 32] ++ begS ++ [10] := by
                    unfold skipT
                    rw [hRM.out]
                    simp
                  rw [e4, ← e3, ← e2, ← e1]
                  rfl
                rw [hK]
                clear hK
                generalize skipT m = K at *
                have hKl : K.length ≤ 33 := by omega
                clear hRM hRl
                go_upto_region 18 with (first
                  | (go_at_call 12; with_reducible refine (RA.out _ (HA.out.below B1.out)).mono ?_; rintro e w2 ⟨rfl, hb2⟩; have B2 := Lib.hid (chainB B1.out rfl hb2); clear hb2)
                  | (go_at_call 12; with_reducible refine (RB.out _ (HB.out.below B2.out)).mono ?_; rintro e w3 ⟨rfl, hb3⟩; have B3 := Lib.hid (chainB B2.out rfl hb3); clear hb3))
                have hS : ((⟨K.toArray⟩ ++ ⟨PA.toArray⟩ ++ ⟨K.toArray⟩ ++ ⟨K.toArray⟩ ++ ⟨PB.toArray⟩ ++ ⟨#[35]⟩ : ByteArray)) = ⟨(K ++ PA ++ K ++ K ++ PB ++ [35]).toArray⟩ := by
                  rw [← ba_app, ← ba_app, ← ba_app, ← ba_app, ← ba_app]
                have hF : ((⟨K.toArray⟩ ++ ⟨#[120]⟩ ++ ⟨K.toArray⟩ : ByteArray)) = ⟨(K ++ [120] ++ K).toArray⟩ := by
                  rw [← ba_app, ← ba_app]
                have hN : ((⟨K.toArray⟩ ++ ⟨#[45, 45, 45, 45, 45, 66, 69, 71, 73, 78, 32, 67, 69, 82, 84, 73, 70, 73, 67, 65, 84, 69, 45, 45, 45, 45, 45]⟩ ++ ⟨#[10]⟩ ++ ⟨K.toArray⟩ : ByteArray)) = ⟨(K ++ begS ++ [10] ++ K).toArray⟩ := by
                  rw [← ba_app, ← ba_app, ← ba_app]
                  rfl
                have G1' := Lib.hid (show getP (⟨K.toArray⟩ ++ ⟨PA.toArray⟩ ++ ⟨K.toArray⟩ ++ ⟨K.toArray⟩ ++ ⟨PB.toArray⟩ ++ ⟨#[35]⟩ : ByteArray).data.toList = ((ra ++ rb).map (·.l), 0, 0) by rw [hS]; exact G1.out)
                have G2' := Lib.hid (show getP (⟨K.toArray⟩ ++ ⟨#[120]⟩ ++ ⟨K.toArray⟩ : ByteArray).data.toList = ([], (m : Int) + 2, 6) by rw [hF]; exact G2.out)
                have G3' := Lib.hid (show getP (⟨K.toArray⟩ ++ ⟨#[45, 45, 45, 45, 45, 66, 69, 71, 73, 78, 32, 67, 69, 82, 84, 73, 70, 73, 67, 65, 84, 69, 45, 45, 45, 45, 45]⟩ ++ ⟨#[10]⟩ ++ ⟨K.toArray⟩ : ByteArray).data.toList = ([], (m : Int) + 3, 10) by rw [hN]; exact G3.out)
                clear hS hF hN G1 G2 G3
                go_upto_region 19 with (go_at_call 11; refine (get_r _ _ _ _ G1'.out (by simp; omega) _).mono ?_; rintro e w4 ⟨A2, r2, rfl, g1, g2, g3, g4, hb4⟩; have K1 := Lib.hid g1; have K2 := Lib.hid g2; have K3 := Lib.hid g3; have B4 := Lib.hid (chainB B3.out rfl hb4); clear g1 g2 g3 g4 hb4)
                obtain ⟨v5, w5, a1, a2, a3⟩ := app_chn (W := w4) (base := w4.heap.size) (vl := .slice none 0 0) (n := 0) (xs := []) (A := A) (c := ca) (rows := ra) ⟨rfl, .inl ⟨rfl, rfl⟩⟩ (HA.out.below B4.out).r (by omega) (Nat.le_refl _)
                have D5 := Lib.hid (Below.grown (Below.refl w4.heap.size w4) a3 (Nat.le_refl _) (fun k hk => by cases hk))
                have B5 := Lib.hid (chainB B4.out rfl D5.out)
                obtain ⟨v6, w6, b1, b2, b3⟩ := app_chn (c := cb) a2 (HB.out.below B5.out).r (by omega) D5.out.size
                have D6 := Lib.hid (Below.grown D5.out b3 D5.out.size (own_base_lt a2))
                have B6 := Lib.hid (chainB B4.out rfl D6.out)
                have hlen : 0 + ra.length + rb.length = (ra ++ rb).length := by rw [List.length_append]; omega
                have b2' : w6.ownsRow w4.heap.size 24 1 v6 (ra ++ rb).length ((ra ++ rb).map rwV) := by
                  rw [← hlen, List.map_append]
                  simpa using b2
                obtain ⟨A6, c6, hv6, C6⟩ := chn_own b2' (fun r hr => by
                  rcases List.mem_append.1 hr with hr | hr
                  · exact ((HA.out.ok r hr).below B6.out)
                  · exact ((HB.out.ok r hr).below B6.out))
                subst hv6
                have HC := Lib.hid C6
                have K2' := Lib.hid (K2.out.below D6.out)
                clear C6 b2 b2' a2 a3 b3 hlen
                have hr2 : r2.length ≤ 8 := by
                  have := congrArg List.length K1.out
                  simp only [List.length_map, List.length_append] at this
                  omega
                have RS := Lib.hid (same_yes A2 r2.length r2 A6 c6 (ra ++ rb) w6 K2'.out HC.out K1.out rfl K3.out (by omega))
                obtain ⟨nAB, hnAB⟩ : ∃ n, (ra ++ rb).length = n := ⟨_, rfl⟩
                rw [hnAB] at b1 RS
                clear hnAB
                go_upto_region 20 with (first
                  | (refine appV (vs := .slice none 0 0) (vx := .slice A ra.length ca) (v := v5) (W' := w5) rfl (.const _) (.tmp 101) 22 22 rfl rfl rfl a1 ?_)
                  | (refine appV (vs := v5) (vx := .slice B rb.length cb) (v := .slice A6 nAB c6) (W' := w6) rfl (.tmp 102) (.tmp 103) 22 22 rfl rfl rfl b1 ?_))
                clear a1 b1
                go_wp2_with (first
                  | (go_at_call 13; with_reducible refine RS.out.mono ?_; rintro e w7 ⟨rfl, hb7⟩; have B7 := Lib.hid (chainB B6.out rfl hb7); clear hb7)
                  | (go_at_call 11; with_reducible refine (get_r _ _ _ _ G2'.out (by simp) _).mono ?_; rintro e w8 ⟨A8, r8, rfl, g1, g2, g3, g4, hb8⟩; have B8 := Lib.hid (chainB B7.out rfl hb8); clear g1 g2 g3 g4 hb8)
                  | (go_at_call 11; with_reducible refine (get_r _ _ _ _ G3'.out (by simp) _).mono ?_; rintro e w9 ⟨A9, r9, rfl, g1, g2, g3, g4, hb9⟩; have B9 := Lib.hid (chainB B8.out rfl hb9); clear g1 g2 g3 g4 hb9)
                  | (go_at_call 9; refine (lives_any _).mono ?_; rintro e w10 ⟨rfl, hb10⟩; have B10 := Lib.hid (chainB B9.out rfl hb10); clear hb10))
                go_ret
                exact ⟨rfl, B10.out⟩
end Go.Proofs.Ytbdccfjeeabpaaa
namespace Go.Proofs.Ytbdccfjeeabpaaa
open Go.RowKit Go.Shelf
set_option linter.unusedSimpArgs false
set_option linter.unusedVariables false
set_option maxRecDepth 50000
theorem putS_append (a b : List Rw) : putS (a ++ b) = putS a ++ putS b := by unfold putS; rw [List.flatMap_append]
theorem cerS_lenE (l : List Int) : (cerS l).length = 54 + (linR l).length := by
  unfold cerS
  rw [linS_linR, List.length_append, List.length_append]
  simp
  omega
theorem linR_lenE : ∀ (m r : Nat) (l : List Int), l.length = 48 * m + r → r < 48 → (linR l).length = 65 * m + (if r = 0 then 0 else 4 * ((r + 2) / 3) + 1)
  | 0, r, l, h, hr => by
    by_cases h0 : r = 0
    · obtain rfl : l = [] := List.length_eq_zero_iff.1 (by omega)
      rw [linR_nil, if_pos h0]; rfl
    · rw [if_neg h0, linR_short l (fun e => by rw [e] at h; simp at h; omega) (by omega), List.length_append, encS_len4]
      simp
      omega
  | m + 1, r, l, h, hr => by
    have h1 : l ≠ [] := fun e => by rw [e, List.length_nil] at h; omega
    have ih := linR_lenE m r (l.drop 48) (by rw [List.length_drop]; omega) hr
    rw [linR_cons h1, List.length_append, List.length_cons, ih, encS_len4, List.length_take]
    have : min 48 l.length = 48 := by omega
    rw [this]
    omega
theorem chkR_all : ∀ rows : List Rw, (∀ r ∈ rows, 1 ≤ r.l.length ∧ r.l.length ≤ 65536) → chkR rows = 0
  | [], _ => rfl
  | x :: t, h => by
    have := h x (by simp)
    unfold chkR
    rw [if_neg (by omega), if_neg (by omega)]
    exact chkR_all t (fun r hr => h r (List.mem_cons_of_mem _ hr))
theorem putP_good {rows : List Rw} (h64 : rows.length ≤ 64) (h : ∀ r ∈ rows, 1 ≤ r.l.length ∧ r.l.length ≤ 65536) (hs : (putS rows).length ≤ 1048576) : putP rows = (putS rows, 0) := by
  unfold putP
  rw [if_neg (by omega), if_neg (by rw [chkR_all rows h]; simp), if_neg (by omega)]
/-- Chains of one byte each. -/
theorem ones_len : ∀ rows : List Rw, (∀ r ∈ rows, r.l.length = 1) → (putS rows).length = 59 * rows.length ∧ nLin rows = 3 * rows.length
  | [], _ => ⟨rfl, rfl⟩
  | x :: t, h => by
    obtain ⟨h1, h2⟩ := ones_len t (fun r hr => h r (List.mem_cons_of_mem _ hr))
    have hx := h x (by simp)
    have e : putS (x :: t) = cerS x.l ++ putS t := by unfold putS; rw [List.flatMap_cons]
    have en : nLin (x :: t) = (x.l.length + 47) / 48 + 2 + nLin t := by unfold nLin; rw [List.map_cons, List.sum_cons]
    have hl := linR_lenE 0 1 x.l (by omega) (by omega)
    rw [if_neg (by omega)] at hl
    rw [e, en, List.length_append, cerS_lenE, List.length_cons, hl, h1, h2, hx]
    omega
theorem begin_cons (x : Rw) (t : List Rw) : ∃ q, putS (x :: t) = begS ++ 10 :: q := ⟨linR x.l ++ (endN ++ putS t), by
  unfold putS
  rw [List.flatMap_cons]
  unfold cerS
  rw [linS_linR]
  simp [begS]⟩
/-- The sixty-fifth. -/
theorem get_many {rows : List Rw} (x : Rw) (h64 : rows.length = 64) (h : ∀ r ∈ rows, r.l.length = 1 ∧ Byt r.l) (hx : (putS [x]).length ≤ 1000) : getP (putS rows ++ putS [x]) = ([], 193, 3) := by
  obtain ⟨h1, h2⟩ := ones_len rows (fun r hr => (h r hr).1)
  unfold getP
  rw [if_neg (by rw [List.length_append]; omega)]
  obtain ⟨B, last, e⟩ := gall_put_tail rows [] [] 48 0 (putS [x]) (by simpa using by omega) (fun r hr => ⟨fun e => by have := (h r hr).1; rw [e] at this; simp at this, by have := (h r hr).1; omega, (h r hr).2⟩)
  have e0 : gs0 = ⟨[], false, [], 48⟩ := rfl
  obtain ⟨q, hq⟩ := begin_cons x []
  rw [e0, e, hq, lns_app _ _ (by decide)]
  have hg : gstep ⟨[] ++ rows.map (·.l), false, B, last⟩ begS = (⟨[] ++ rows.map (·.l), false, B, last⟩, 3) := by
    unfold gstep
    rw [if_pos rfl, if_neg (by decide), if_neg (by simp), if_pos (by simpa using h64)]
  rw [gall, hg, if_pos (by simp), h2, h64]
  simp
/-- A certificate that is too long. -/
theorem gall_mid (L : List (List Int)) (r : List UInt8) : ∀ (m : Nat) (x : List Int) (B : List Int) (k : Nat), x.length = 48 * m → Byt x → B.length + x.length ≤ 65536 →
    gall ⟨L, true, B, 48⟩ k (lns (linR x ++ r)) = gall ⟨L, true, B ++ x, 48⟩ (k + m) (lns r)
  | 0, x, B, k, h, hb, hs => by
    obtain rfl : x = [] := List.length_eq_zero_iff.1 (by omega)
    rw [linR_nil, List.nil_append, List.append_nil]
    rfl
  | m + 1, x, B, k, h, hb, hs => by
    have h0 : x ≠ [] := fun e => by rw [e, List.length_nil] at h; omega
    have ht : (x.take 48).length = 48 := by rw [List.length_take]; omega
    have hd := dec_enc (x.take 48) (byt_take' hb 48)
    rw [linR_cons h0, List.append_assoc, List.cons_append, lns_app _ _ (fun c hc => (encS_ne _ c hc).1)]
    have h64 := encS_len4 (x.take 48)
    have e : gstep ⟨L, true, B, 48⟩ (encS (x.take 48)) = (⟨L, true, B ++ x.take 48, 48⟩, 0) := by
      unfold gstep
      rw [if_neg (by simp), if_neg (encS_end _), if_neg (by
        rintro (h | h | h)
        · exact absurd (show (48 : Int) < 48 from h) (by decide)
        · rw [h, List.length_nil] at h64
          omega
        · omega), hd, if_neg (by simp), if_neg (by show ¬ 65536 < B.length + (x.take 48).length; omega), ht]
      rfl
    rw [gall_go e, gall_mid L r m (x.drop 48) (B ++ x.take 48) (k + 1) (by rw [List.length_drop]; omega) (byt_drop' hb 48) (by rw [List.length_append, List.length_drop, ht]; omega), List.append_assoc, List.take_append_drop, show k + 1 + m = k + (m + 1) by omega]
theorem get_big {x : Rw} (h : x.l.length = 65537) (hb : Byt x.l) : getP (putS [x]) = ([], 1367, 3) := by
  have hl := linR_lenE 1365 17 x.l (by omega) (by omega)
  rw [if_neg (by omega)] at hl
  have hlen : (putS [x]).length = 88804 := by
    have e : putS [x] = cerS x.l := by unfold putS; simp
    rw [e, cerS_lenE, hl]
  have e0 : putS [x] = begS ++ 10 :: (linR (x.l.take 65520) ++ (linR (x.l.drop 65520) ++ endN)) := by
    have e := linR_append 1365 (x.l.take 65520) (x.l.drop 65520) (by rw [List.length_take]; omega)
    rw [List.take_append_drop] at e
    unfold putS cerS
    rw [List.flatMap_cons, linS_linR, e]
    simp [begS]
  unfold getP
  rw [if_neg (by omega), e0, lns_app _ _ (by decide)]
  have hg : gstep gs0 begS = (⟨[], true, [], 48⟩, 0) := by
    unfold gstep
    rw [if_pos (show gs0.ins = false from rfl), if_neg (by decide), if_neg (by simp), if_neg (by decide)]
    rfl
  have ht : (x.l.take 65520).length = 65520 := by rw [List.length_take]; omega
  have hdl : (x.l.drop 65520).length = 17 := by rw [List.length_drop]; omega
  have hd0 : x.l.drop 65520 ≠ [] := fun e => by rw [e] at hdl; simp at hdl
  rw [gall_go hg, gall_mid [] _ 1365 (x.l.take 65520) [] 1 (by omega) (byt_take' hb _) (by simp; omega), linR_short _ hd0 (by omega), List.append_assoc]
  rw [show ([10] ++ endN : List UInt8) = 10 :: endN from rfl, lns_app _ _ (fun c hc => (encS_ne _ c hc).1)]
  have hd := dec_enc (x.l.drop 65520) (byt_drop' hb _)
  have h64 := encS_len4 (x.l.drop 65520)
  have hg2 : gstep ⟨[], true, [] ++ x.l.take 65520, 48⟩ (encS (x.l.drop 65520)) = (⟨[], true, [] ++ x.l.take 65520, 48⟩, 3) := by
    unfold gstep
    rw [if_neg (by simp), if_neg (encS_end _), if_neg (by
      rintro (h | h | h)
      · exact absurd (show (48 : Int) < 48 from h) (by decide)
      · rw [h, List.length_nil] at h64
        omega
      · omega), hd, if_neg (by simp), if_pos (by show 65536 < ([] ++ x.l.take 65520).length + (x.l.drop 65520).length; rw [List.nil_append, ht, hdl]; omega)]
  rw [gall, hg2, if_pos (by simp)]
  simp
theorem big_len {rows : List Rw} (h : ∀ r ∈ rows, r.l.length = 65536) : (putS rows).length = 88804 * rows.length := by
  induction rows with
  | nil => rfl
  | cons x t ih =>
    have e : putS (x :: t) = cerS x.l ++ putS t := by unfold putS; rw [List.flatMap_cons]
    have hl := linR_lenE 1365 16 x.l (by have := h x (by simp); omega) (by omega)
    rw [if_neg (by omega)] at hl
    rw [e, List.length_append, cerS_lenE, hl, ih (fun r hr => h r (List.mem_cons_of_mem _ hr)), List.length_cons]
    omega
theorem put_long {rows : List Rw} (h : ∀ r ∈ rows, r.l.length = 65536) (hn : rows.length = 12) : putP rows = ([], 3) := by
  have h1 := big_len h
  unfold putP
  rw [if_neg (by omega), if_neg (by rw [chkR_all rows (fun r hr => by have := h r hr; omega)]; simp), if_pos (by omega)]
theorem put_bad {x y : Rw} (h : x.l.length = 65537) : putP [x, y] = ([], 3) := by
  have hc : chkR [x, y] = 3 := by
    unfold chkR
    rw [if_neg (by omega), if_pos (by omega)]
  unfold putP
  rw [if_neg (by simp), if_pos (by rw [hc]; decide), hc]
theorem put_many {rows : List Rw} (h : rows.length = 65) : putP rows = ([], 3) := by
  unfold putP
  rw [if_pos (by omega)]
theorem rep_is (n : Nat) : Lib.repeatL [10] n = List.replicate n 10 := by
  induction n with
  | zero => rfl
  | succ n ih => rw [Lib.repeatL, ih, List.replicate_succ]; rfl
theorem lns_feeds : ∀ n : Nat, lns (List.replicate n 10) = List.replicate n []
  | 0 => by simp [lns_nil]
  | n + 1 => by
    have := lns_app [] (List.replicate n 10) (by simp)
    rw [List.replicate_succ, List.replicate_succ, ← lns_feeds n, ← this]
    rfl
theorem get_feeds {n : Nat} (h : n ≤ 1048576) : getP (List.replicate n 10) = ([], 0, 0) := by
  unfold getP
  rw [if_neg (by rw [List.length_replicate]; omega), lns_feeds]
  have := gall_rep gs0 rfl [] n 0
  rw [List.append_nil] at this
  rw [this]
  rfl
theorem get_over {n : Nat} (h : 1048576 < n) : getP (List.replicate n 10) = ([], 0, 3) := by
  unfold getP
  rw [if_pos (by rw [List.length_replicate]; exact h)]
end Go.Proofs.Ytbdccfjeeabpaaa
namespace Go.Proofs.Ytbdccfjeeabpaaa
open Go.RowKit Go.Shelf
open Go.Proofs.YtbdccfjeeabpaaaW.PrintWords (ReadsOf blk_cell add_plain Ev string_of_reads)
open Go.Proofs.YtbdccfjeeabpaaaW
attribute [local go_sem] Oper.semAt_some
set_option linter.unusedSimpArgs false
set_option linter.unusedVariables false
set_option maxRecDepth 50000
/-- The rows of one byte each. -/
def rw1 (g j : Nat) : Rw := ⟨some ⟨g + 1 + j, 0, none⟩, [(j : Int)], 1⟩
def rws (g n : Nat) : List Rw := (List.range n).map (rw1 g)
theorem rws_len (g n : Nat) : (rws g n).length = n := by simp [rws]
structure LI (w : World) (k : Nat) (W : World) : Prop where
  size : W.heap.size = w.heap.size + 1 + k
  x : ∃ cs : Array Value, W.heap[w.heap.size]? = some (.cells cs 24 (0, 0)) ∧ cs.size = 65 ∧ ∀ j, j < k → cs[j]? = some (.slice (some ⟨w.heap.size + 1 + j, 0, none⟩) 1 1)
  b : ∀ j, j < k → W.heap[w.heap.size + 1 + j]? = some (.cells #[.int .u8 (j : Int)] 5 (0, 0))
  bel : Below w.heap.size w W
theorem LI.step {w W : World} {k : Nat} (h : LI w k W) (hk : k < 65) : LI w (k + 1) ((W.alloc (.cells #[.int .u8 (k : Int)] 5)).setCell ⟨w.heap.size, k, none⟩ (.slice (some ⟨W.heap.size, 0, none⟩) 1 1)) := by
  obtain ⟨cs, h1, h2, h3⟩ := h.x
  have e1 : (W.alloc (.cells #[.int .u8 (k : Int)] 5)).heap[w.heap.size]? = some (.cells cs 24 (0, 0)) := al_old h1
  refine ⟨by simp [World.setCell, h.size]; omega, ⟨_, blk_set e1 _, by simp [h2], fun j hj => ?_⟩, fun j hj => ?_, (h.bel.alloc h.bel.size _).setCell (Nat.le_refl _) _⟩
  · by_cases e : j = k
    · subst e
      rw [h.size]
      simp [h2, hk]
    · rw [Array.getElem?_setIfInBounds_ne (by omega)]
      exact h3 j (by omega)
  · rw [Below.heap_setCell _ _ _ _ (by show _ ≠ w.heap.size; omega)]
    by_cases e : j = k
    · subst e
      exact al_new (by rw [h.size])
    · exact al_old (h.b j (by omega))
theorem LI.ok {w W : World} {n : Nat} (h : LI w n W) (hn : n ≤ 65) : ∀ j, j < n → RwOk W (rw1 w.heap.size j) := fun j hj =>
  ⟨⟨rfl, (by show 1 ≤ maxLen; decide), fun _ => ⟨_, rfl, fun i hi => by
    have hi : i = 0 := by have : i < 1 := hi; omega
    subst hi
    rw [add_plain, blk_cell (h.b j hj)]
    rfl⟩⟩, Nat.le_refl _, fun x hx => by
      obtain rfl := List.mem_singleton.1 hx
      exact ⟨by omega, by omega⟩, (by show 1 ≤ 1000000000; decide)⟩
theorem LI.chn {w W : World} (h : LI w 65 W) (n : Nat) (hn : n ≤ 65) : Chn W (some ⟨w.heap.size, 0, none⟩) 65 (rws w.heap.size n) := by
  obtain ⟨cs, h1, h2, h3⟩ := h.x
  refine ⟨⟨rfl, by rw [rws_len]; omega, fun _ => ⟨_, rfl, fun j hj => ?_⟩⟩, by rw [rws_len]; exact hn, fun r hr => ?_⟩
  · rw [rws_len] at hj
    rw [add_plain, blk_cell h1, h3 j (by omega)]
    simp [rws, List.getD_eq_getElem?_getD, hj, rw1, rwV]
  · simp only [rws, List.mem_map, List.mem_range] at hr
    obtain ⟨j, hj, rfl⟩ := hr
    exact h.ok (Nat.le_refl _) j (by omega)
theorem LI.last {w W : World} (h : LI w 65 W) : Chn W (some ⟨w.heap.size, 64, none⟩) 1 [rw1 w.heap.size 64] := by
  obtain ⟨cs, h1, h2, h3⟩ := h.x
  refine ⟨⟨rfl, by simp [maxLen], fun _ => ⟨_, rfl, fun j hj => ?_⟩⟩, Nat.le_refl _, fun r hr => ?_⟩
  · have hj : j = 0 := by have : j < 1 := hj; omega
    subst hj
    show W.cell? ⟨w.heap.size, 64, none⟩ = _
    rw [blk_cell h1, h3 64 (by omega)]
    rfl
  · obtain rfl := List.mem_singleton.1 hr
    exact h.ok (Nat.le_refl _) 64 (by omega)
theorem made65 : ∃ Z : Array Value, Z.size = 65 ∧ ∀ w : World, (Instr.makeSlice 22 (.int .i64 65) (.int .i64 65)).run Try.prog w = .ok (.slice (some ⟨w.heap.size, 0, none⟩) 65 65) (w.alloc (.cells Z 24)) := by
  obtain ⟨i0, hi, hz0, hz1, hz2⟩ := info_parts info24
  refine ⟨madeCells (Value.slice none 0 0).cells (65 * i0.size), ?_, fun w => ?_⟩
  · rw [size_madeCells, hz1]
  · exact run_make w 22 24 i0 (.slice none 0 0) Try.underlying22 hi hz0 .i64 .i64 65 65 (by omega) (by omega) (by rw [hz2]; omega) (by omega)
theorem madeBig : ∃ Z : Array Value, Z.size = 65536 ∧ (∀ j, j < 65536 → Z[j]? = some (.int .u8 0)) ∧ ∀ w : World, (Instr.makeSlice 24 (.int .i64 65536) (.int .i64 65536)).run Try.prog w = .ok (.slice (some ⟨w.heap.size, 0, none⟩) 65536 65536) (w.alloc (.cells Z 5)) := by
  obtain ⟨i0, hi, hz0, hz1, hz2⟩ := info_parts info5
  have h : ∀ w : World, (Instr.makeSlice 24 (.int .i64 65536) (.int .i64 65536)).run Try.prog w = .ok (.slice (some ⟨w.heap.size, 0, none⟩) 65536 65536) (w.alloc (.cells (madeCells (Value.int .u8 0).cells 65536) 5)) := fun w => by
    have := run_make w 24 5 i0 (.int .u8 0) Try.underlying24 hi hz0 .i64 .i64 65536 65536 (by omega) (by omega) (by rw [hz2]; omega) (by omega)
    rw [hz1] at this
    exact this
  refine ⟨_, size_madeCells _ 65536, fun j hj => ?_, h⟩
  unfold madeCells
  rw [Array.getElem?_map, Array.getElem?_range, if_pos hj]
  simp [Value.cells, Nat.mod_one]
theorem chn1 {W : World} {r : Rw} (h : RwOk W r) : Chn (W.alloc (.cells #[.slice r.a r.l.length r.c] 24)) (some ⟨W.heap.size, 0, none⟩) 1 [r] :=
  ⟨⟨rfl, (by show 1 ≤ maxLen; decide), fun _ => ⟨_, rfl, fun j hj => by
    have hj : j = 0 := by have : j < 1 := hj; omega
    subst hj
    rw [add_plain, blk_cell (heap_alloc_new W _)]
    rfl⟩⟩, Nat.le_refl _, fun x hx => by
    obtain rfl := List.mem_singleton.1 hx
    exact h.below ((Below.refl _ W).alloc (Nat.le_refl _) _)⟩
theorem chn2 {W : World} {r q : Rw} (h : RwOk W r) (k : RwOk W q) : Chn (W.alloc (.cells #[.slice r.a r.l.length r.c, .slice q.a q.l.length q.c] 24)) (some ⟨W.heap.size, 0, none⟩) 2 [r, q] :=
  ⟨⟨rfl, (by show 2 ≤ maxLen; decide), fun _ => ⟨_, rfl, fun j hj => by
    rw [add_plain, blk_cell (heap_alloc_new W _)]
    have hj : j = 0 ∨ j = 1 := by have : j < 2 := hj; omega
    rcases hj with rfl | rfl <;> rfl⟩⟩, Nat.le_refl _, fun x hx => by
    have hb := (Below.refl _ W).alloc (Nat.le_refl _) (.cells #[.slice r.a r.l.length r.c, .slice q.a q.l.length q.c] 24)
    rcases List.mem_cons.1 hx with rfl | hx
    · exact h.below hb
    · obtain rfl := List.mem_singleton.1 hx
      exact k.below hb⟩
/-- append(big, 1): more than there is room for. -/
theorem grow1 (W : World) (g : Nat) (bl : List Int) (hbl : bl.length = 65536) (h : RwOk W ⟨some ⟨g, 0, none⟩, bl, 65536⟩) :
    ∃ A c w', (Builtin.append_ #[24, 24] 24 #[.slice (some ⟨g, 0, none⟩) 65536 65536, .slice (some ⟨W.heap.size, 0, none⟩) 1 1]).run Try.prog (W.alloc (.cells #[.int .u8 1] 5)) = .ok (.slice A 65537 c) w' ∧ RwOk w' ⟨A, bl ++ [1], c⟩ ∧ Below W.heap.size W w' := by
  obtain ⟨i0, hi, hz0, hz1, hz2⟩ := info_parts info5
  have hb := (Below.refl _ W).alloc (Nat.le_refl _) (.cells #[.int .u8 1] 5)
  have h2 := h.below hb
  have hl : (⟨some ⟨g, 0, none⟩, bl, 65536⟩ : Rw).l.length = 65536 := hbl
  obtain ⟨v', w', r1, r2, r3⟩ := run_append_arg_grows (P := Try.prog) (W.alloc (.cells #[.int .u8 1] 5)) 24 24 5 i0 (.int .u8 0) 1 1 Try.underlying24 hi hz0 hz1 hz2 rfl (by decide) ⟨g, 0, none⟩ 65536 65536 (bl.map (Value.int .u8)) (by rw [List.length_map, hbl])
    (fun j u hu => by
      rw [List.getElem?_map] at hu
      cases e : bl[j]? with
      | none => rw [e] at hu; cases hu
      | some x =>
        rw [e] at hu
        simp at hu
        subst hu
        have hj : j < bl.length := (List.getElem?_eq_some_iff.1 e).1
        obtain ⟨ad', e1, hc⟩ := h2.rr.2.2 (by rw [hl]; omega)
        cases e1
        have := hc j (by rw [hl]; omega)
        rw [List.getD_eq_getElem?_getD, e] at this
        exact this)
    ⟨W.heap.size, 0, none⟩ 1 1 [.int .u8 1] rfl (World.news_of_block (cs := #[.int .u8 1]) (t := 5) (fr := (0, 0)) (heap_alloc_new W _)) (by omega) (by unfold maxLen; omega) (by omega)
  have r2 : w'.ownsRow (W.alloc (.cells #[.int .u8 1] 5)).heap.size 5 1 v' 65537 (PrintWords.encs (Value.int .u8) (bl ++ [1])) := by
    have e : PrintWords.encs (Value.int .u8) (bl ++ [1]) = bl.map (Value.int .u8) ++ [.int .u8 1] := by
      show (bl ++ [1]).map _ = _
      rw [List.map_append]
      rfl
    rw [e]
    exact r2
  obtain ⟨A, c, rfl, hc, hr⟩ := PrintWords.own_reads_of_le (d := (0 : Int)) r2
  have hl2 : (bl ++ [1]).length = 65537 := by rw [List.length_append, hbl]; rfl
  refine ⟨A, c, w', r1, ⟨?_, by show (bl ++ [1]).length ≤ c; omega, fun x hx => ?_, by show (bl ++ [1]).length ≤ _; omega⟩, chainB hb rfl (Below.grown (Below.refl _ _) r3 (Nat.le_refl _) (fun k hk => by cases hk))⟩
  · show ReadsOf _ _ _ _ (bl ++ [1]).length _
    rw [hl2]
    exact hr
  · rcases List.mem_append.1 hx with hx | hx
    · exact h.bb x hx
    · obtain rfl := List.mem_singleton.1 hx
      exact ⟨by omega, by omega⟩
theorem bigOk {W : World} {Z : Array Value} {bl : List Int} (hbl : bl = List.replicate 65536 0) (hZ : ∀ j, j < 65536 → Z[j]? = some (.int .u8 0)) : RwOk (W.alloc (.cells Z 5)) ⟨some ⟨W.heap.size, 0, none⟩, bl, 65536⟩ := by
  have hl : bl.length = 65536 := by rw [hbl, List.length_replicate]
  refine ⟨⟨rfl, by show bl.length ≤ maxLen; rw [hl]; decide, fun _ => ⟨_, rfl, fun j hj => ?_⟩⟩, by show bl.length ≤ 65536; omega, fun x hx => ?_, by show bl.length ≤ _; omega⟩
  · have hj : j < bl.length := hj
    rw [add_plain, blk_cell (heap_alloc_new W _), hZ j (by omega)]
    have e : bl.getD j 0 = 0 := by rw [hbl, List.getD_eq_getElem?_getD, List.getElem?_replicate]; split <;> rfl
    show _ = some (Value.int .u8 (bl.getD j 0))
    rw [e]
  · have hx : x ∈ bl := hx
    rw [hbl] at hx
    have := List.eq_of_mem_replicate hx
    subst this
    exact ⟨by omega, by omega⟩
theorem feeds_is (n : Nat) (h2 : 2 ≤ n) (hn : n ≤ 2000000) : ∃ S : ByteArray, S.data.toList = List.replicate n 10 ∧ ∀ w : World, Calls Try.prog 20 #[.string ⟨#[10]⟩, .int .i64 (n : Int)] w fun e w' => e = .returned (.string S) ∧ Below w.heap.size w w' :=
  ⟨⟨(Lib.repeatL [10] n).toArray⟩, rep_is n, fun w => Try.strings_Repeat_main ⟨#[10]⟩ n w h2 (by omega) (by show 1 * n ≤ _; omega) (by decide)⟩
theorem over_is : ∃ S : ByteArray, getP S.data.toList = ([], 0, 3) ∧ ∀ w : World, Calls Try.prog 20 #[.string ⟨#[10]⟩, .int .i64 1048577] w fun e w' => e = .returned (.string S) ∧ Below w.heap.size w w' := by
  obtain ⟨n, hn⟩ : ∃ n : Nat, n = 1048577 := ⟨_, rfl⟩
  obtain ⟨S, h1, h2⟩ := feeds_is n (by omega) (by omega)
  have e : (n : Int) = 1048577 := by omega
  rw [e] at h2
  exact ⟨S, by rw [h1]; exact get_over (by omega), h2⟩
theorem feeds_ok : ∃ S : ByteArray, getP S.data.toList = ([], 0, 0) ∧ ∀ w : World, Calls Try.prog 20 #[.string ⟨#[10]⟩, .int .i64 1048576] w fun e w' => e = .returned (.string S) ∧ Below w.heap.size w w' := by
  obtain ⟨n, hn⟩ : ∃ n : Nat, n = 1048576 := ⟨_, rfl⟩
  obtain ⟨S, h1, h2⟩ := feeds_is n (by omega) (by omega)
  have e : (n : Int) = 1048576 := by omega
  rw [e] at h2
  exact ⟨S, by rw [h1]; exact get_feeds (by omega), h2⟩
set_option maxHeartbeats 16000000 in
theorem armorsKnown_walk (w : World) : Calls Try.prog 8 #[] w fun e w' => e = .returned (.bool true) ∧ Below w.heap.size w w' := by
  obtain ⟨Z, hZ, mk⟩ := made65
  have L0 : Hid (LI w 0 (w.alloc (.cells Z 24))) := ⟨by simp, ⟨Z, heap_alloc_new w _, hZ, fun j hj => by omega⟩, fun j hj => by omega, (Below.refl _ w).alloc (Nat.le_refl _) _⟩
  have hwk : ∀ k : Nat, k < 65 → IntKind.u8.wrap (k : Int) = (k : Int) := fun k hk => by rw [IntKind.wrap_u8]; omega
  go_enter Try.func8, Try.ntmps8
  go_upto_region 2 with fail
  clear mk
  generalize w.alloc (.cells Z 24) = W1 at *
  clear hZ
  go_wp2
  go_loopw [2] (fun i wr => ∃ k : Nat, k ≤ 65 ∧ i = .int .i64 k ∧ Hid (LI w k wr)) (fun i _ => 65 - (intOf i).toNat)
  case atStart => exact ⟨0, by omega, rfl, L0⟩
  case round =>
    obtain ⟨k, hk, rfl, HL⟩ := hrel
    by_cases hlt : k < 65
    · have hw1 := hwk k hlt
      obtain ⟨cs, x1, x2, x3⟩ := HL.out.x
      have c1 := (blk_cell (show (wr.alloc (.cells #[.int .u8 (k : Int)] 5)).heap[w.heap.size]? = _ from al_old x1) k).trans (Array.getElem?_eq_getElem (by omega))
      have f1 := frAt (show (wr.alloc (.cells #[.int .u8 (k : Int)] 5)).heap[w.heap.size]? = _ from al_old x1) k
      have HN := Lib.hid (HL.out.step hlt)
      clear x1 x3
      go_wp2
      go_round
      case rel => exact ⟨k + 1, by omega, by go_num, HN⟩
      case measure => simp [intOf]; omega
    · obtain rfl : k = 65 := by omega
      have hg : Hid (w.heap.size < wr.heap.size) := by show _ < _; rw [HL.out.size]; omega
      have B0 := Lib.hid HL.out.bel
      have C64 := Lib.hid (HL.out.chn 64 (by omega))
      have C65 := Lib.hid (HL.out.chn 65 (by omega))
      have CL := Lib.hid HL.out.last
      have hones : ∀ n, ∀ r ∈ rws w.heap.size n, n ≤ 65 → r.l.length = 1 ∧ Byt r.l := fun n r hr hn => by
        simp only [rws, List.mem_map, List.mem_range] at hr
        obtain ⟨j, hj, rfl⟩ := hr
        exact ⟨rfl, fun x hx => by
          obtain rfl := List.mem_singleton.1 hx
          exact ⟨by omega, by omega⟩⟩
      have o64 := (ones_len (rws w.heap.size 64) (fun r hr => (hones 64 r hr (by omega)).1)).1
      have o1 := (ones_len [rw1 w.heap.size 64] (fun r hr => by obtain rfl := List.mem_singleton.1 hr; rfl)).1
      rw [rws_len] at o64
      have g64 := putP_good (rows := rws w.heap.size 64) (by rw [rws_len]; omega) (fun r hr => by have := (hones 64 r hr (by omega)).1; omega) (by omega)
      have q64 := get_put (rows := rws w.heap.size 64) (by rw [rws_len]; omega) (fun r hr => ⟨(fun e => by have h9 := (hones 64 r hr (by omega)).1; rw [e] at h9; exact absurd h9 (by decide)), by have := (hones 64 r hr (by omega)).1; omega, (hones 64 r hr (by omega)).2⟩) (by omega)
      have q65 := get_many (rows := rws w.heap.size 64) (rw1 w.heap.size 64) (rws_len _ _) (fun r hr => hones 64 r hr (by omega)) (by rw [o1]; simp)
      have PA := Lib.hid (fun (W : World) (h : Chn W (some ⟨w.heap.size, 0, none⟩) 65 (rws w.heap.size 64)) => put_any _ _ _ W h (by rw [rws_len]; omega))
      have PB := Lib.hid (fun (W : World) (h : Chn W (some ⟨w.heap.size, 0, none⟩) 65 (rws w.heap.size 65)) => put_any _ _ _ W h (by rw [rws_len]; omega))
      have PC := Lib.hid (show ∀ (W : World), Chn W (some ⟨w.heap.size, 64, none⟩) 1 [rw1 w.heap.size 64] → Calls Try.prog 12 #[.slice (some ⟨w.heap.size, 64, none⟩) 1 1] W fun e w' => e = .returned (.string ⟨(putS [rw1 w.heap.size 64]).toArray⟩) ∧ Below W.heap.size W w' from fun W h => rput_any _ _ _ W h (by simp) (by rw [o1]; simp) (fun r hr => by obtain rfl := List.mem_singleton.1 hr; show 1 ≤ _; omega))
      rw [g64, rws_len] at PA
      rw [put_many (rws_len _ _), rws_len] at PB
      obtain ⟨L64, hL64⟩ : ∃ L, Hid ((rws w.heap.size 64).map (·.l) = L) := ⟨_, Lib.hid rfl⟩
      rw [hL64.out] at q64
      have hLl : Hid (L64.length = 64) := by show _ = _; rw [← hL64.out, List.length_map, rws_len]
      generalize hS64 : putS (rws w.heap.size 64) = S64 at *
      generalize hS1 : putS [rw1 w.heap.size 64] = S1 at *
      have hcat : (⟨S64.toArray⟩ ++ ⟨S1.toArray⟩ : ByteArray) = ⟨(S64 ++ S1).toArray⟩ := ba_app _ _
      have Q1 := Lib.hid (show getP (⟨S64.toArray⟩ : ByteArray).data.toList = (L64, 0, 0) from q64)
      have Q2 := Lib.hid (show getP (⟨S64.toArray⟩ ++ ⟨S1.toArray⟩ : ByteArray).data.toList = ([], 193, 3) by rw [hcat]; exact q65)
      have hl1 : S1.length = 59 := o1
      clear hcat q64 q65 hS64 hS1 g64 hones hwk HL
      have SY := Lib.hid (fun (A : Option Addr) (ra : List Rw) (W : World) (hA : Chn W A ra.length ra) (hB : Chn W (some ⟨w.heap.size, 0, none⟩) 65 (rws w.heap.size 64)) (h1 : ra.map (·.l) = L64) (h3 : ∀ r ∈ ra, r.c = r.l.length) => same_yes A ra.length ra _ _ _ W hA hB (h1.trans hL64.out.symm) rfl h3 (by have := congrArg List.length h1; rw [List.length_map] at this; have := hLl.out; omega))
      rw [rws_len] at SY
      have D0 := Lib.hid (Below.refl wr.heap.size wr)
      go_upto_region 12 with (first
        | (go_at_call 10; with_reducible refine (PA.out _ (C64.out.below D0.out)).mono ?_; rintro e w1 ⟨rfl, hb1⟩; have D1 := Lib.hid hb1; clear hb1)
        | (go_at_call 11; with_reducible refine (get_r _ _ _ _ Q1.out (by have := hLl.out; omega) _).mono ?_; rintro e w2 ⟨A2, r2, rfl, g1, g2, g3, g4, hb2⟩; have K1 := Lib.hid g1; have K2 := Lib.hid g2; have K3 := Lib.hid g3; have D2 := Lib.hid (chainB D1.out rfl hb2); clear g1 g2 g3 g4 hb2)
        | (go_at_call 12; with_reducible refine (PC.out _ (CL.out.below D2.out)).mono ?_; rintro e w3 ⟨rfl, hb3⟩; have D3 := Lib.hid (chainB D2.out rfl hb3); have K2' := Lib.hid (K2.out.below hb3); clear hb3)
        | (go_at_call 11; with_reducible refine (get_r _ _ _ _ Q2.out (by simp) _).mono ?_; rintro e w4 ⟨A4, r4, rfl, g1, g2, g3, g4, hb4⟩; have D4 := Lib.hid (chainB D3.out rfl hb4); have K4 := Lib.hid (K2'.out.below hb4); clear g1 g2 g3 g4 hb4)
        | (go_at_call 10; with_reducible refine (PB.out _ (C65.out.below D4.out)).mono ?_; rintro e w5 ⟨rfl, hb5⟩; have D5 := Lib.hid (chainB D4.out rfl hb5); have K5 := Lib.hid (K4.out.below hb5); clear hb5)
        | (go_at_call 13; with_reducible refine (SY.out A2 r2 _ K5.out (C64.out.below D5.out) K1.out K3.out).mono ?_; rintro e w6 ⟨rfl, hb6⟩; have D6 := Lib.hid (chainB D5.out rfl hb6); clear hb6))
      have B6 := Lib.hid (chainB B0.out rfl D6.out)
      clear PA PB PC Q1 Q2 SY K1 K2 K3 K2' K4 K5 C64 C65 CL D0 D1 D2 D3 D4 D5 D6 hL64 hLl B0 hg
      obtain ⟨ZB, hZs, hZj, mkB⟩ := madeBig
      obtain ⟨bl, hbl⟩ : ∃ bl : List Int, Hid (bl = List.replicate 65536 0) := ⟨_, Lib.hid rfl⟩
      have hbn : Hid (bl.length = 65536) := by show _ = _; rw [hbl.out, List.length_replicate]
      have hbb : Hid (Byt bl) := fun x hx => by
        rw [hbl.out] at hx
        have := List.eq_of_mem_replicate hx
        subst this
        exact ⟨by omega, by omega⟩
      go_upto_region 13 with fail
      have OK0 := Lib.hid (bigOk (W := w6) hbl.out hZj)
      have B7 := Lib.hid (B6.out.alloc B6.out.size (.cells ZB 5))
      clear mkB hZj hZs hbl L0
      obtain ⟨gB, hgB⟩ : ∃ g, w6.heap.size = g := ⟨_, rfl⟩
      rw [hgB] at OK0 ⊢
      clear hgB
      generalize w6.alloc (.cells ZB 5) = W7 at *
      have hbB := big_len (rows := [⟨some ⟨gB, 0, none⟩, bl, 65536⟩]) (fun r hr => by obtain rfl := List.mem_singleton.1 hr; exact hbn.out)
      have pB := putP_good (rows := [⟨some ⟨gB, 0, none⟩, bl, 65536⟩]) (by simp) (fun r hr => by obtain rfl := List.mem_singleton.1 hr; have : bl.length = 65536 := hbn.out; exact ⟨by show 1 ≤ bl.length; omega, by show bl.length ≤ _; omega⟩) (by rw [hbB]; simp)
      have gBq := get_put (rows := [⟨some ⟨gB, 0, none⟩, bl, 65536⟩]) (by simp) (fun r hr => by obtain rfl := List.mem_singleton.1 hr; have : bl.length = 65536 := hbn.out; exact ⟨(fun e => by have e : bl = [] := e; rw [e] at this; exact absurd this (by decide)), by show bl.length ≤ _; omega, hbb.out⟩) (by rw [hbB]; simp)
      have gBp : Hid (getP (cerS (bl ++ [1])) = ([], 1367, 3)) := by
        have := get_big (x := ⟨none, bl ++ [1], 0⟩) (by show (bl ++ [1]).length = _; rw [List.length_append, hbn.out]; rfl) (fun x hx => by
          rcases List.mem_append.1 hx with hx | hx
          · exact hbb.out x hx
          · obtain rfl := List.mem_singleton.1 hx
            exact ⟨by omega, by omega⟩)
        have e : putS [(⟨none, bl ++ [1], 0⟩ : Rw)] = cerS (bl ++ [1]) := by simp [putS]
        rw [e] at this
        exact this
      have hcl : Hid ((cerS (bl ++ [1])).length ≤ 100000) := by
        show _ ≤ _
        rw [cerS_lenE, linR_lenE 1365 17 (bl ++ [1]) (by rw [List.length_append, hbn.out]; rfl) (by omega), if_neg (by omega)]
        omega
      obtain ⟨SB, hSB⟩ : ∃ S, putS [(⟨some ⟨gB, 0, none⟩, bl, 65536⟩ : Rw)] = S := ⟨_, rfl⟩
      rw [hSB] at pB gBq
      have X1 := Lib.hid (show ∀ W, RwOk W ⟨some ⟨gB, 0, none⟩, bl, 65536⟩ → Chn (W.alloc (.cells #[.slice (some ⟨gB, 0, none⟩) 65536 65536] 24)) (some ⟨W.heap.size, 0, none⟩) 1 [⟨some ⟨gB, 0, none⟩, bl, 65536⟩] from fun W h => by
        have := chn1 h
        have e : (⟨some ⟨gB, 0, none⟩, bl, 65536⟩ : Rw).l.length = 65536 := hbn.out
        rw [e] at this
        exact this)
      have Y1 := Lib.hid (show ∀ W, RwOk W ⟨some ⟨gB, 0, none⟩, bl, 65536⟩ → Calls Try.prog 10 #[.slice (some ⟨W.heap.size, 0, none⟩) 1 1] (W.alloc (.cells #[.slice (some ⟨gB, 0, none⟩) 65536 65536] 24)) (fun e w' => e = .returned (.tuple #[.string ⟨SB.toArray⟩, .int .i64 0]) ∧ Below W.heap.size W w') from fun W h => by
        have := put_any _ _ _ _ (X1.out W h) (by simp)
        rw [pB] at this
        exact this.mono fun e w' ⟨h1, h2⟩ => ⟨h1, chainB ((Below.refl _ W).alloc (Nat.le_refl _) _) rfl h2⟩)
      have Y2 := Lib.hid (show getP (⟨SB.toArray⟩ : ByteArray).data.toList = ([bl], 0, 0) from gBq)
      have Y3 := Lib.hid (show ∀ (A : Option Addr) (c : Nat) (W : World), RwOk W ⟨A, bl ++ [1], c⟩ → Calls Try.prog 12 #[.slice (some ⟨W.heap.size, 0, none⟩) 1 1] (W.alloc (.cells #[.slice A 65537 c] 24)) (fun e w' => e = .returned (.string ⟨(cerS (bl ++ [1])).toArray⟩) ∧ Below W.heap.size W w') from fun A c W h => by
        have h1 := chn1 h
        have el : (bl ++ [1]).length = 65537 := by rw [List.length_append, hbn.out]; rfl
        have e : (⟨A, bl ++ [1], c⟩ : Rw).l.length = 65537 := el
        rw [e] at h1
        have es : putS [(⟨A, bl ++ [1], c⟩ : Rw)] = cerS (bl ++ [1]) := by simp [putS]
        have := rput_any _ _ _ _ h1 (by simp) (by rw [es]; have := hcl.out; omega) (fun r hr => by obtain rfl := List.mem_singleton.1 hr; rw [e]; omega)
        rw [es] at this
        exact this.mono fun e w' ⟨h1, h2⟩ => ⟨h1, chainB ((Below.refl _ W).alloc (Nat.le_refl _) _) rfl h2⟩)
      have Y4 := Lib.hid (show getP (⟨(cerS (bl ++ [1])).toArray⟩ : ByteArray).data.toList = ([], 1367, 3) from gBp.out)
      have Y5 := Lib.hid (show ∀ (A : Option Addr) (c : Nat) (W : World), RwOk W ⟨A, bl ++ [1], c⟩ → Calls Try.prog 10 #[.slice (some ⟨W.heap.size, 0, none⟩) 2 2] (W.alloc (.cells #[.slice A 65537 c, .slice none 0 0] 24)) (fun e w' => e = .returned (.tuple #[.string ⟨#[]⟩, .int .i64 3]) ∧ Below W.heap.size W w') from fun A c W h => by
        have h1 := chn2 h (q := ⟨none, [], 0⟩) ⟨.nil _ _ _, Nat.le_refl _, fun x hx => absurd hx List.not_mem_nil, by show 0 ≤ _; omega⟩
        have el : (bl ++ [1]).length = 65537 := by rw [List.length_append, hbn.out]; rfl
        have e : (⟨A, bl ++ [1], c⟩ : Rw).l.length = 65537 := el
        have := put_any _ _ _ _ h1 (by simp)
        rw [put_bad e, e] at this
        exact this.mono fun e w' ⟨h1, h2⟩ => ⟨h1, chainB ((Below.refl _ W).alloc (Nat.le_refl _) _) rfl h2⟩)
      have Y6 := Lib.hid (show ∀ (A : Option Addr) (ra : List Rw) (W : World), Chn W A ra.length ra → RwOk W ⟨some ⟨gB, 0, none⟩, bl, 65536⟩ → ra.map (·.l) = [bl] → (∀ r ∈ ra, r.c = r.l.length) →
          Calls Try.prog 13 #[.slice A ra.length ra.length, .slice (some ⟨W.heap.size, 0, none⟩) 1 1] (W.alloc (.cells #[.slice (some ⟨gB, 0, none⟩) 65536 65536] 24)) (fun e w' => e = .returned (.int .i64 1) ∧ Below W.heap.size W w') from fun A ra W hA h h1 h3 => by
        have hb := (Below.refl _ W).alloc (Nat.le_refl _) (.cells #[.slice (some ⟨gB, 0, none⟩) 65536 65536] 24)
        have := same_yes A ra.length ra _ _ _ _ (hA.below hb) (X1.out W h) h1 rfl h3 (by have := congrArg List.length h1; rw [List.length_map] at this; simp at this; omega)
        exact this.mono fun e w' ⟨h1, h2⟩ => ⟨h1, chainB hb rfl h2⟩)
      clear gBq gBp hcl pB hbB hSB
      have D0 := Lib.hid (Below.refl W7.heap.size W7)
      go_upto_region 15 with (first
        | (go_at_call 10; with_reducible refine (Y1.out _ OK0.out).mono ?_; rintro e w8 ⟨rfl, hb8⟩; have D8 := Lib.hid hb8; clear hb8)
        | (go_at_call 11; with_reducible refine (get_r _ _ _ _ Y2.out (by simp) _).mono ?_; rintro e w9 ⟨A9, r9, rfl, g1, g2, g3, g4, hb9⟩; have K1 := Lib.hid g1; have K2 := Lib.hid g2; have K3 := Lib.hid g3; have D9 := Lib.hid (chainB D8.out rfl hb9); clear g1 g2 g3 g4 hb9))
      obtain ⟨A10, c10, w10, a10, ok10, bl10⟩ := grow1 w9 gB bl hbn.out (OK0.out.below D9.out)
      have OK10 := Lib.hid ok10
      have D10 := Lib.hid (chainB D9.out rfl bl10)
      have K10 := Lib.hid (K2.out.below bl10)
      clear ok10 bl10
      go_upto_region 16 with (first
        | (refine appV (vs := .slice (some ⟨gB, 0, none⟩) 65536 65536) (vx := .slice (some ⟨w9.heap.size, 0, none⟩) 1 1) (v := .slice A10 65537 c10) (W' := w10) rfl (.tmp 100) (.tmp 101) 24 24 rfl rfl rfl a10 ?_)
        | (go_at_call 12; with_reducible refine (Y3.out _ _ _ OK10.out).mono ?_; rintro e w11 ⟨rfl, hb11⟩; have D11 := Lib.hid (chainB D10.out rfl hb11); have K11 := Lib.hid (K10.out.below hb11); clear hb11)
        | (go_at_call 11; with_reducible refine (get_r _ _ _ _ Y4.out (by simp) _).mono ?_; rintro e w12 ⟨A12, r12, rfl, g1, g2, g3, g4, hb12⟩; have D12 := Lib.hid (chainB D11.out rfl hb12); have K12 := Lib.hid (K11.out.below hb12); clear g1 g2 g3 g4 hb12))
      clear a10
      obtain ⟨A13, c13, w13, a13, ok13, bl13⟩ := grow1 w12 gB bl hbn.out (OK0.out.below D12.out)
      have OK13 := Lib.hid ok13
      have D13 := Lib.hid (chainB D12.out rfl bl13)
      have K13 := Lib.hid (K12.out.below bl13)
      clear ok13 bl13
      go_upto_region 19 with (first
        | (refine appV (vs := .slice (some ⟨gB, 0, none⟩) 65536 65536) (vx := .slice (some ⟨w12.heap.size, 0, none⟩) 1 1) (v := .slice A13 65537 c13) (W' := w13) rfl (.tmp 110) (.tmp 111) 24 24 rfl rfl rfl a13 ?_)
        | (go_at_call 10; with_reducible refine (Y5.out _ _ _ OK13.out).mono ?_; rintro e w14 ⟨rfl, hb14⟩; have D14 := Lib.hid (chainB D13.out rfl hb14); have K14 := Lib.hid (K13.out.below hb14); clear hb14)
        | (go_at_call 13; with_reducible refine (Y6.out A9 r9 _ K14.out (OK0.out.below D14.out) K1.out K3.out).mono ?_; rintro e w15 ⟨rfl, hb15⟩; have D15 := Lib.hid (chainB D14.out rfl hb15); clear hb15))
      clear a13
      have B15 := Lib.hid (chainB B7.out rfl D15.out)
      have OK15 := Lib.hid (OK0.out.below D15.out)
      clear K1 K2 K3 K10 K11 K12 K13 K14 OK10 OK13 Y1 Y2 Y3 Y4 Y5 Y6 D0 D8 D9 D10 D11 D12 D13 D14 D15 X1 OK0 B7
      obtain ⟨bs, hbs⟩ : ∃ bs : List Rw, Hid (bs = List.replicate 12 ⟨some ⟨gB, 0, none⟩, bl, 65536⟩) := ⟨_, Lib.hid rfl⟩
      have hbr : Hid (∀ r ∈ bs, r = ⟨some ⟨gB, 0, none⟩, bl, 65536⟩) := fun r hr => by rw [hbs.out] at hr; exact List.eq_of_mem_replicate hr
      have hb12 : Hid (bs.length = 12) := by show _ = _; rw [hbs.out, List.length_replicate]
      have R0 : Hid (w15.ownsRow w15.heap.size 24 1 (.slice none 0 0) 0 (List.replicate 0 (.slice (some ⟨gB, 0, none⟩) 65536 65536))) := ⟨rfl, .inl ⟨rfl, rfl⟩⟩
      have D0 := Lib.hid (Below.refl w15.heap.size w15)
      go_wp2
      go_loopw [14, 15] (fun v i W => ∃ k : Nat, k ≤ 12 ∧ i = .int .i64 k ∧ Hid (W.ownsRow w15.heap.size 24 1 v k (List.replicate k (.slice (some ⟨gB, 0, none⟩) 65536 65536))) ∧ Hid (Below w15.heap.size w15 W)) (fun _ i _ => 12 - (intOf i).toNat)
      case atStart => exact ⟨0, by omega, rfl, R0, D0⟩
      case round =>
        obtain ⟨k, hk, rfl, HR, HD⟩ := hrel
        by_cases hlt : k < 12
        · obtain ⟨v1, w1, r1, q1, q2⟩ := app_l (ev := .slice (some ⟨gB, 0, none⟩) 65536 65536) wr.heap.size rfl HR.out (by omega) HD.out.size rfl
          have HR1 : Hid (w1.ownsRow w15.heap.size 24 1 v1 (k + 1) (List.replicate (k + 1) (.slice (some ⟨gB, 0, none⟩) 65536 65536))) := by
            show World.ownsRow _ _ _ _ _ _ _
            rw [List.replicate_succ']
            exact q1
          have HD1 := Lib.hid (Below.grown (HD.out.alloc HD.out.size (.cells #[.slice (some ⟨gB, 0, none⟩) 65536 65536] 24)) q2 (by rw [World.size_alloc]; have := HD.out.size; omega) (own_base_lt HR.out))
          clear q1 q2
          go_wp2_with (refine appV (vs := u14) (vx := .slice (some ⟨wr.heap.size, 0, none⟩) 1 1) (v := v1) (W' := w1) rfl (.tmp 146) (.tmp 148) 22 22 rfl rfl rfl r1 ?_)
          go_round
          case rel => exact ⟨k + 1, by omega, by go_num, HR1, HD1⟩
          case measure => simp [intOf]; omega
        · obtain rfl : k = 12 := by omega
          have OKW := Lib.hid (OK15.out.below HD.out)
          have BW := Lib.hid (chainB B15.out rfl HD.out)
          have hown : wr.ownsRow w15.heap.size 24 1 u14 bs.length (bs.map rwV) := by
            have e : bs.map rwV = List.replicate 12 (.slice (some ⟨gB, 0, none⟩) 65536 65536) := by
              rw [hbs.out, List.map_replicate]
              congr 1
              show Value.slice (some ⟨gB, 0, none⟩) bl.length 65536 = _
              rw [hbn.out]
            rw [e, hb12.out]
            exact HR.out
          obtain ⟨A, c, hv, hC⟩ := chn_own hown (fun r hr => by rw [hbr.out r hr]; exact OKW.out)
          obtain ⟨ad, rfl, _⟩ := hC.r.2.2 (by rw [hb12.out]; omega)
          have hcc := hC.c
          rw [hb12.out] at hcc hv
          subst hv
          have HC := Lib.hid hC
          have HC11 : Hid (Chn wr (some ad) c (bs.take 11)) := ⟨by
            have := hC.r.take_ 11 (by rw [hb12.out]; omega)
            rw [List.length_take, hb12.out]
            exact this, by rw [List.length_take, hb12.out]; omega, fun r hr => hC.ok r (List.mem_of_mem_take hr)⟩
          have h11 : Hid ((bs.take 11).length = 11) := by show _ = _; rw [List.length_take, hb12.out]; rfl
          have hall : Hid (∀ r ∈ bs, r.l.length = 65536) := fun r hr => by rw [hbr.out r hr]; exact hbn.out
          have hS11 := Lib.hid (big_len (rows := bs.take 11) (fun r hr => hall.out r (List.mem_of_mem_take hr)))
          rw [h11.out] at hS11
          have p11 := Lib.hid (putP_good (rows := bs.take 11) (by rw [h11.out]; omega) (fun r hr => by have := hall.out r (List.mem_of_mem_take hr); omega) (by rw [hS11.out]; omega))
          have p12 := Lib.hid (put_long hall.out hb12.out)
          obtain ⟨S11, hSe⟩ : ∃ S, putS (bs.take 11) = S := ⟨_, rfl⟩
          rw [hSe] at hS11 p11
          have hlen : ((S11.length : Int) == 976844) = true := by have := hS11.out; simp only [beq_iff_eq]; omega
          have Y1 := Lib.hid (show ∀ V, Chn V (some ad) c (bs.take 11) → Calls Try.prog 10 #[.slice (some ad) 11 c] V (fun e w' => e = .returned (.tuple #[.string ⟨S11.toArray⟩, .int .i64 0]) ∧ Below V.heap.size V w') from fun V h => by
            have := put_any _ _ _ V h (by rw [h11.out]; omega)
            rw [p11.out, h11.out] at this
            exact this)
          have Y2 := Lib.hid (show ∀ V, Chn V (some ad) c bs → Calls Try.prog 10 #[.slice (some ad) 12 c] V (fun e w' => e = .returned (.tuple #[.string ⟨#[]⟩, .int .i64 3]) ∧ Below V.heap.size V w') from fun V h => by
            have := put_any _ _ _ V h (by rw [hb12.out]; omega)
            rw [p12.out, hb12.out] at this
            exact this)
          obtain ⟨T1, hT1, F1⟩ := over_is
          obtain ⟨T2, hT2, F2⟩ := feeds_ok
          have Z1 := Lib.hid hT1
          have Z2 := Lib.hid hT2
          have Z3 := Lib.hid F1
          have Z4 := Lib.hid F2
          clear hT1 hT2 F1 F2 hown hC hSe
          have E0 := Lib.hid (Below.refl wr.heap.size wr)
          go_wp2_with (first
            | (go_at_call 10; with_reducible refine (Y1.out _ HC11.out).mono ?_; rintro e w21 ⟨rfl, hb21⟩; have E1 := Lib.hid hb21; clear hb21)
            | (go_at_call 10; with_reducible refine (Y2.out _ (HC.out.below E1.out)).mono ?_; rintro e w22 ⟨rfl, hb22⟩; have E2 := Lib.hid (chainB E1.out rfl hb22); clear hb22)
            | (go_at_call 20; with_reducible refine (Z3.out _).mono ?_; rintro e w23 ⟨rfl, hb23⟩; have E3 := Lib.hid (chainB E2.out rfl hb23); clear hb23)
            | (go_at_call 11; with_reducible refine (get_r T1 _ _ _ Z1.out (by simp) _).mono ?_; rintro e w24 ⟨A24, r24, rfl, g1, g2, g3, g4, hb24⟩; have E4 := Lib.hid (chainB E3.out rfl hb24); clear g1 g2 g3 g4 hb24)
            | (go_at_call 20; with_reducible refine (Z4.out _).mono ?_; rintro e w25 ⟨rfl, hb25⟩; have E5 := Lib.hid (chainB E4.out rfl hb25); clear hb25)
            | (go_at_call 11; with_reducible refine (get_r T2 _ _ _ Z2.out (by simp) _).mono ?_; rintro e w26 ⟨A26, r26, rfl, g1, g2, g3, g4, hb26⟩; obtain rfl := List.map_eq_nil_iff.1 g1; have E6 := Lib.hid (chainB E5.out rfl hb26); clear g1 g2 g3 g4 hb26)
            | (go_at_call 9; refine (lives_any _).mono ?_; rintro e w27 ⟨rfl, hb27⟩; have E7 := Lib.hid (chainB E6.out rfl hb27); clear hb27))
          go_ret
          exact ⟨rfl, chainB BW.out rfl E7.out⟩
end Go.Proofs.Ytbdccfjeeabpaaa
namespace Go.Proofs.Ytbdccfjeeabpaaa.armorsKnown
open Go.ChangeShapes Go.WideShapes Go.ChangeAt Go.RowKit
set_option maxRecDepth 100000 in
theorem lifted (os : Os) (started : os.Started) (H : Type) (enc : TypeId × Value → H) :
    ReturnsInHanded {} Try.checked os 8 .any (Rows.armorsKnownSpec.pre6 enc Try.prog Try.f8 Rows.armorsKnownRow.domain false) (Rows.armorsKnownSpec.post enc Try.prog Try.f8 false true false false) := by
  refine returnsInHanded_of_change (C := Try.checked) own started (by kernel_rfl) Try.func8
    (ChangeSpec.witness6 (enc := enc) (C := Try.checked) false ⟨#[], #[], []⟩ 8 (by kernel_rfl) (by kernel_rfl) (by kernel_rfl) (by kernel_rfl)) ?_
  intro W base args ds gs before hval0 hW hcnd _
  have hW' := hW
  obtain ⟨p, q, hA0, hV, rfl, hfz, hnd⟩ := hW
  have hA : DataW.TrodAll enc Try.prog W 0 (fun _ => true) true Try.f8.params.toList args.toList ds p := hA0
  rw [Try.params8] at hA
  obtain ⟨hargs, rfl, rfl⟩ := trodAll_nil hA
  obtain rfl : args = #[] := by cases args; simp_all
  obtain ⟨rfl, rfl⟩ := trodVars_none hV
  clear hA0
  refine (armorsKnown_walk W).mono fun e W' ⟨he, bel⟩ => ?_
  subst he
  exact ⟨_, rfl, _, _, _, [], _, [], hW', trodAll_mk1 (shut_bool Try.underlying4 _), trodAll_mk0, rfl, bel.frame _, fun h => by cases h⟩
theorem said : Rows.ArmorsKnownSaid :=
  OpenClaim.holds_of_wide 8 Try.f8 rfl rfl rfl rfl rfl rfl rfl ⟨rfl, rfl, rfl, rfl, rfl⟩ rfl rfl rfl rfl rfl (by kernel_rfl) Try.func8 (by kernel_rfl)
    (of_decide_eq_true (by kernel_rfl)) (by unfold Func.isWrapper; first | (rw [if_pos (by decide +kernel)]; kernel_rfl) | (rw [if_neg (by decide +kernel)]; exact ⟨rfl, rfl⟩))
    (fun os started H enc _ => lifted os started H enc)
#print axioms said
end Go.Proofs.Ytbdccfjeeabpaaa.armorsKnown
