/- Chapter 22 (armors): a range over a function whose iterator writes a variable that it has captured; the iterator of lines. -/
import Derived.Test.YtbdccfjeeabpaaaNg
namespace Go.Proofs.Ytbdccfjeeabpaaa
open Go.RowKit Go.Shelf
attribute [local go_sem] Oper.semAt_some
set_option linter.unusedSimpArgs false
set_option linter.unusedVariables false
set_option maxRecDepth 50000
/-- What is said abides new blocks and writes to one block of cells. -/
def AbB {α : Type} (g : Nat) (I : List α → World → Prop) : Prop := ∀ s W W', I s W → W.grownBy W' (some g) → I s W'
/-- .. and the turn of a block from B on that holds no cells. -/
def AbO {α : Type} (B : Nat) (I : List α → World → Prop) : Prop := ∀ s W k o o', I s W → B ≤ k → W.heap[k]? = some o → o.isCells = false → I s (W.putObj k o')
def isC (g : Nat) (W : World) : Prop := ∃ c t, W.heap[g]? = some (.cells c t (0, 0))
/-- The contract of such an iterator. -/
def SeqW {α : Type} (n : Nat) (P : Program) (gf : Nat) (lb : Array Value) (encs : α → Array Value) (g : Nat) (S Sp : List α → Prop) (w : World) : Prop :=
  ∀ (l : Nat) (J Jx : List α → World → Prop) (W : World), W.heap[g]? = w.heap[g]? → AbB g J → AbB g Jx →
    (∀ pre x W1, J pre W1 → isC g W1 → YieldAt Fence.wide (n - 1) P l (encs x) W1 fun e W' => (e = .returned (.bool true) ∧ J (pre ++ [x]) W' ∧ W'.heap[g]? = W1.heap[g]?) ∨ (e = .returned (.bool false) ∧ Jx (pre ++ [x]) W')) →
    J [] W → CallsIn Fence.wide n P gf (#[.func (.yield l) #[] #[]] ++ lb) W fun e W' => (∃ v, e = .returned v) ∧ ((∃ xs, S xs ∧ J xs W') ∨ (∃ pre, Sp pre ∧ Jx pre W'))
/-- How a round may be left. -/
def postW {α : Type} (B g : Nat) (I Ix : List α → World → Prop) (xs : List α) (W : World) : Exit → Act → World → Prop
  | .normal, _, W' => KeepsFrom B W W' ∧ W'.heap[g]? = W.heap[g]? ∧ I xs W'
  | .ret, _, W' => KeepsFrom B W W' ∧ Ix xs W'
  | _, _, _ => False
theorem range_w {α : Type} {P : Program} {go : Operand} {ps : Array Tmp} {assign body : Code} {Q : Exit → Act → World → Prop} {a : Act} {w : World} {gf : Nat} {lb : Array Value} (hgo : a.eval go = .func (.func gf) #[] lb)
    (eg : ∀ args w, (callFunc gf args).run P w = .ok (.enter gf args) w) {encs : α → Array Value} {g : Nat} {S Sp : List α → Prop} (hseq : SeqW (3 - 1) P gf lb encs g S Sp w) (hps : ∀ x, (encs x).size = ps.size) (hgc : isC g w)
    (I Ix : List α → World → Prop) (hI : AbB g I) (hIx : AbB g Ix) (hI' : AbO w.heap.size I) (hIx' : AbO w.heap.size Ix) (h0 : I [] w) (a₁ : α → Act)
    (hassign : ∀ (l : Nat) (x : α) (W : World) (K : Act → World → Prop), K (a₁ x) W →
      assign.wpIn (Fence.wide.inRound l) (3 - 1 - 1) P (Exit.then K (fun _ _ _ => False)) { tmps := (ps.zip (encs x)).foldl (fun t (p, v) => t.setIfInBounds p v) a.tmps, defers := [] } W)
    (hbody : ∀ (l : Nat) (pre : List α) (x : α) (W : World), I pre W → isC g W → body.wpIn (Fence.wide.inRound l) (3 - 1 - 1) P (postW w.heap.size g I Ix (pre ++ [x]) W) (a₁ x) W)
    (hdone : ∀ (D : Nat) (xs : List α) (W : World), w.heap.size ≤ D → S xs → I xs W → W.heap[D]? = some (.deferred (some [])) → Q .normal { a with defers := { target := .collected D, args := #[] } :: a.defers } W)
    (hstop : ∀ (D : Nat) (pre : List α) (W : World), w.heap.size ≤ D → Sp pre → Ix pre W → W.heap[D]? = some (.deferred (some [])) → Q .ret { a with defers := { target := .collected D, args := #[] } :: a.defers } W) :
    (Code.rangeFunc go ps assign body).wpIn Fence.wide 3 P Q a w := by
  refine wpIn_rangeFunc fun fn hfn => ?_
  have hgl : g < w.heap.size := by obtain ⟨c, t, h⟩ := hgc; exact (Array.getElem?_eq_some_iff.1 h).1
  -- the record of the loop, in its states
  let R : LoopState → Option Code → Loop := fun st pe => { state := st, pending := pe, fn, tmps := a.tmps, params := ps, assign, body, defers := w.heap.size }
  let V : World := (w.alloc (.deferred (some []))).alloc (.loop (R .ready none))
  let Both : LoopState → Option Code → World → Prop := fun st pe W => W.heap[w.heap.size + 1]? = some (.loop (R st pe)) ∧ W.heap[w.heap.size]? = some (.deferred (some []))
  have hV : Both .ready none V := ⟨by have := World.alloc_heap_new (w.alloc (.deferred (some []))) (.loop (R .ready none)); rwa [World.size_alloc] at this, (Below.heap_alloc _ _ _ (by simp)).trans (World.alloc_heap_new w _)⟩
  have hIV : I [] V := hI _ _ _ (hI _ _ _ h0 (World.grownBy_alloc w _ _)) (World.grownBy_alloc _ _ _)
  have bothB : ∀ st pe W W', Both st pe W → W.grownBy W' (some g) → Both st pe W' := fun st pe W W' h hg =>
    ⟨(hg.block _ (Array.getElem?_eq_some_iff.1 h.1).1 (by simp; omega)).trans h.1, (hg.block _ (Array.getElem?_eq_some_iff.1 h.2).1 (by simp; omega)).trans h.2⟩
  have turn : ∀ st pe st' pe' W, Both st pe W → Both st' pe' (W.putObj (w.heap.size + 1) (.loop (R st' pe'))) := fun st pe st' pe' W h =>
    ⟨World.putObj_heap_same (Array.getElem?_eq_some_iff.1 h.1).1, (World.putObj_heap_other (by omega)).trans h.2⟩
  refine ⟨w.heap.size + 1, [{ target := .collected w.heap.size, args := #[] }], V, { target := .fn (.func gf) lb, args := #[.func (.yield (w.heap.size + 1)) #[] #[]] }, V, gf, #[.func (.yield (w.heap.size + 1)) #[] #[]] ++ lb, V, ?_, ?_, fun _ _ => trivial, ?_, (fun h => by cases h), ?_⟩
  · exact run_enterLoop_outer _ _ _ _ _
  · simp only [resolve, hgo]; simp [go_sem]
  · simp [invoke, go_sem, eg]
  refine (hseq (w.heap.size + 1) (fun pre W => I pre W ∧ Both .ready none W) (fun pre W => Ix pre W ∧ Both .done (some .ret) W) V ?_
    (fun s W W' h hg => ⟨hI s W W' h.1 hg, bothB _ _ _ _ h.2 hg⟩) (fun s W W' h hg => ⟨hIx s W W' h.1 hg, bothB _ _ _ _ h.2 hg⟩) ?_ ⟨hIV, hV⟩).mono ?_
  · exact (Below.heap_alloc _ _ _ (by simp; omega)).trans (Below.heap_alloc _ _ _ hgl)
  · rintro pre x W ⟨hi, hb⟩ hc
    have hy := run_yield (P := P) (args := encs x) hb.1 (hps x)
    have hgW : ∀ o', (W.putObj (w.heap.size + 1) o').heap[g]? = W.heap[g]? := fun o' => World.putObj_heap_other (by omega)
    refine ⟨fn, _, assign, body, hy, roundIn_of_wpIn hfn (hassign _ x W _ ⟨_, run_beginRound hb.1 rfl, ?_⟩)⟩
    have hbusy := turn .ready none .busy none W hb
    have hcb : isC g (W.putObj (w.heap.size + 1) (.loop (R .busy none))) := by obtain ⟨c, t, h⟩ := hc; exact ⟨c, t, by rw [hgW]; exact h⟩
    refine wpIn_mono (hbody _ pre x _ (hI' _ _ _ _ _ hi (by omega) hb.1 rfl) hcb) ?_
    have fin : ∀ (jump : Option Code) (W3 : World), KeepsFrom w.heap.size (W.putObj (w.heap.size + 1) (.loop (R .busy none))) W3 →
        (Instr.endRound (w.heap.size + 1) jump).run P W3 = .ok (.bool jump.isNone) (W3.putObj (w.heap.size + 1) (.loop (R (if jump.isNone then .ready else .done) jump))) ∧ Both .busy none W3 := fun jump W3 hk => by
      have hb3 : Both .busy none W3 := ⟨hk.same _ _ (by omega) (turn .ready none .busy none W hb).1 rfl, hk.same _ _ (Nat.le_refl _) (turn .ready none .busy none W hb).2 rfl⟩
      have := run_endRound (P := P) jump hb3.1
      exact ⟨this, hb3⟩
    rintro e a3 W3 hp
    cases e with
    | normal =>
      obtain ⟨hk, hg3, hi3⟩ := hp
      obtain ⟨hr, hb3⟩ := fin none W3 hk
      refine ⟨_, _, hr, .inl ⟨rfl, ⟨hI' _ _ _ _ _ hi3 (by omega) hb3.1 rfl, ?_⟩, ?_⟩⟩
      · exact turn .busy none .ready none W3 hb3
      · rw [World.putObj_heap_other (by omega), hg3, hgW]
    | ret =>
      obtain ⟨hk, hi3⟩ := hp
      obtain ⟨hr, hb3⟩ := fin (some .ret) W3 hk
      refine ⟨_, _, hr, .inr ⟨rfl, hIx' _ _ _ _ _ hi3 (by omega) hb3.1 rfl, ?_⟩⟩
      exact turn .busy none .done (some .ret) W3 hb3
    | exit id => exact hp.elim
    | goto t => exact hp.elim
    | panic ch => exact hp.elim
    | outgrown => exact hp.elim
  · rintro e W2 ⟨⟨v, rfl⟩, (⟨xs, hS, hi, hb⟩ | ⟨pre, hSp, hi, hb⟩)⟩
    · exact ⟨none, _, run_endLoop (P := P) hb.1 (by simp [R]), hdone _ xs _ (Nat.le_refl _) hS (hI' _ _ _ _ _ hi (by omega) hb.1 rfl) ((World.putObj_heap_other (by omega)).trans hb.2)⟩
    · exact ⟨some .ret, _, run_endLoop (P := P) hb.1 (by simp [R]), wpIn_ret (hstop _ pre _ (Nat.le_refl _) hSp (hIx' _ _ _ _ _ hi (by omega) hb.1 rfl) ((World.putObj_heap_other (by omega)).trans hb.2))⟩
end Go.Proofs.Ytbdccfjeeabpaaa
