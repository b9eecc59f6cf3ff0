/- Words for results that lie in a block of the call's own, of which more may be there than the slice may reach (slices.Clip): they are read, never written. -/
import Derived.Test.YtpdomckacfeffaaDoorWWords
import Derived.Test.YtpdomckacfeffaaDoorWMore
namespace Go.Proofs.YtpdomckacfeffaaDoorW.PrintWords
open Go.RowKit
/-- A slice without spare capacity. -/
def Tight (v : Value) : Prop := ∃ A n, v = .slice A n n
theorem Tight.cap {A : Option Addr} {n c : Nat} (h : Tight (.slice A n c)) : c = n := by
  obtain ⟨A', m, he⟩ := h
  injection he with _ h2 h3
  exact h3.trans h2.symm
namespace KL
section
variable {α : Type} {d : Kd α} {e : Nat} {w w1 W : World} {base base' : Nat} {ok ok' : Nat → Prop} {v u : Value} {xs : List α}
def R (d : Kd α) (_e : Nat) (w : World) (base : Nat) (ok : Nat → Prop) (v : Value) (xs : List α) : Prop :=
  (∀ k, v.ownBlock = some k → ok k ∧ base ≤ k ∧ k < w.heap.size) ∧ ∃ A c, v = .slice A xs.length c ∧ xs.length ≤ c ∧ ∀ w' : World, (∀ k, v.ownBlock = some k → w'.heap[k]? = w.heap[k]?) → d.C w' A xs.length xs
theorem R_mono (h : R d e w base ok v xs) (hok : ∀ k, ok k → ok' k) : R d e w base ok' v xs := ⟨fun k hk => ⟨hok k (h.1 k hk).1, (h.1 k hk).2⟩, h.2⟩
theorem R_lower (h : R d e w base ok v xs) (hb : base' ≤ base) : R d e w base' ok v xs := ⟨fun k hk => ⟨(h.1 k hk).1, Nat.le_trans hb (h.1 k hk).2.1, (h.1 k hk).2.2⟩, h.2⟩
theorem R_step (h : R d e w base ok v xs) (hs : w.heap.size ≤ w1.heap.size) (hm : ∀ k, v.ownBlock = some k → k < w.heap.size → w1.heap[k]? = w.heap[k]?) : R d e w1 base ok v xs := by
  obtain ⟨h1, A, c, hv, hl, hc⟩ := h
  refine ⟨fun k hk => ⟨(h1 k hk).1, (h1 k hk).2.1, Nat.lt_of_lt_of_le (h1 k hk).2.2 hs⟩, A, c, hv, hl, fun w' hw' => hc w' fun k hk => (hw' k hk).trans (hm k hk (h1 k hk).2.2)⟩
theorem R_below (h : R d e w base ok v xs) (hb : Below w.heap.size w w1) : R d e w1 base ok v xs := R_step h hb.size (fun k _ hk => hb.block k hk)
theorem R_alloc (h : R d e w base ok v xs) (o : Obj) : R d e (w.alloc o) base ok v xs := R_below h (below_alloc (Below.refl _ _) o)
theorem R_drew (h : R d e w base ok v xs) : R d e w.drew base ok v xs := R_below h (below_drew (Below.refl _ _))
theorem R_drewN (h : R d e w base ok v xs) (m : Nat) : R d e (w.drewN m) base ok v xs := R_below h (pw_below_drewN (Below.refl _ _) m)
theorem R_slice (h : R d e w base ok v xs) : ∃ A c, v = .slice A xs.length c := by
  obtain ⟨_, A, c, hv, _⟩ := h
  exact ⟨A, c, hv⟩
theorem R_reads' {A : Option Addr} {n c : Nat} (h : R d e w base ok (.slice A n c) xs) : n = xs.length ∧ n ≤ c ∧ d.C w A xs.length xs := by
  obtain ⟨_, A', c', he, hl, hr⟩ := h
  injection he with h1 h2 h3
  subst h1
  exact ⟨h2, by omega, hr w fun _ _ => rfl⟩
theorem R_lt (h : R d e w base ok v xs) : ∀ k, v.ownBlock = some k → k < w.heap.size := fun k hk => (h.1 k hk).2.2
theorem R_base (h : R d e w base ok v xs) : ∀ k, v.ownBlock = some k → base ≤ k := fun k hk => (h.1 k hk).2.1
theorem R_after {v1 : Value} (h : R d e W base (fun k => ok k ∧ some k ≠ v.ownBlock) u xs) (hg : W.grownBy w1 v.ownBlock) (hat : v1.ownBlock = v.ownBlock ∨ ∃ b, v1.ownBlock = some b ∧ W.heap.size ≤ b) : R d e w1 base (fun k => ok k ∧ some k ≠ v1.ownBlock) u xs := by
  have h2 : R d e w1 base (fun k => ok k ∧ some k ≠ v.ownBlock) u xs := R_step h hg.size (fun k hk hl => hg.block k hl (h.1 k hk).1.2)
  refine ⟨fun k hk => ⟨⟨(h2.1 k hk).1.1, ?_⟩, (h2.1 k hk).2⟩, h2.2⟩
  rcases hat with hat | ⟨b, hb, hle⟩
  · rw [hat]; exact (h2.1 k hk).1.2
  · rw [hb]
    intro he
    injection he with he
    have := (h.1 k hk).2.2
    omega
theorem R_elder' (hu : R d e W base ok u xs) (hbase : ∀ k, v.ownBlock = some k → W.heap.size ≤ k) (hb : Below W.heap.size W w1) : R d e w1 base (fun k => ok k ∧ some k ≠ v.ownBlock) u xs := by
  have h2 := R_below hu hb
  refine ⟨fun k hk => ⟨⟨(h2.1 k hk).1, fun he => ?_⟩, (h2.1 k hk).2⟩, h2.2⟩
  have h3 := hbase k he.symm
  have h4 := (hu.1 k hk).2.2
  omega
theorem R_new' (h : R d e w1 W.heap.size ok v xs) (hlt : ∀ k, u.ownBlock = some k → k < W.heap.size) : R d e w1 W.heap.size (fun k => ok k ∧ some k ≠ u.ownBlock) v xs :=
  ⟨fun k hk => ⟨⟨(h.1 k hk).1, fun he => by have h3 := hlt k he.symm; have h4 := (h.1 k hk).2.1; omega⟩, (h.1 k hk).2⟩, h.2⟩
theorem R_drop (h : R d e w base (fun k => ok k ∧ ok' k) u xs) : R d e w base ok u xs := R_mono h (fun _ hk => hk.1)
end
end KL
end Go.Proofs.YtpdomckacfeffaaDoorW.PrintWords
