/- Chapters 6, 7 (oids, oidsets): the plain law of the reference's Parse. -/
import Derived.Test.YtacpcagijfacnaaDoorWs
namespace Go.Proofs.YtacpcagijfacnaaDoor
open Go.RowKit Go.Shelf
set_option linter.unusedSimpArgs false
set_option linter.unusedVariables false
set_option maxRecDepth 50000
/-- A number, at most 2^32. -/
def capV (p : List UInt8) : Int := ((min (valB p) 4294967296 : Nat) : Int)
def curP (l : List UInt8) (f i : Nat) : List UInt8 := (l.drop f).take (i - f)
/-- Where the reference's Parse stands: i places gone through, the piece began at f, S has come. -/
def RpI (l : List UInt8) (i f : Nat) (S : List Int) : Prop :=
  (i ≤ l.length ∧ f ≤ i ∧ S.length ≤ f ∧ ∃ D, splitP l = D ++ (curP l f i ++ (splitP (l.drop i)).headD []) :: (splitP (l.drop i)).tail ∧ (curP l f i).all isDig = true ∧ D.all decB = true ∧ S = D.map capV) ∨
  (i = l.length + 1 ∧ S.length ≤ i ∧ (splitP l).all decB = true ∧ S = (splitP l).map capV)
theorem headD_tail {P : List (List UInt8)} (h : P ≠ []) : P.headD [] :: P.tail = P := by
  cases P with
  | nil => exact absurd rfl h
  | cons a r => rfl
theorem curP_self (l : List UInt8) (f : Nat) : curP l f f = [] := by unfold curP; rw [Nat.sub_self, List.take_zero]
theorem RpI.start (l : List UInt8) : RpI l 0 0 [] :=
  .inl ⟨Nat.zero_le _, Nat.le_refl _, Nat.le_refl _, [], by rw [curP_self, List.nil_append, List.nil_append, List.drop_zero, headD_tail (splitP_ne l)], by rw [curP_self]; rfl, rfl, rfl⟩
theorem curP_next {l : List UInt8} {f i : Nat} (hf : f ≤ i) (hi : i < l.length) : curP l f (i + 1) = curP l f i ++ [l.getD i 0] := by
  unfold curP
  rw [show i + 1 - f = (i - f) + 1 by omega, List.take_add_one, List.getElem?_drop, show f + (i - f) = i by omega, List.getElem?_eq_getElem hi, Option.toList_some, List.getD_eq_getElem?_getD, List.getElem?_eq_getElem hi, Option.getD_some]
theorem dropU_at {l : List UInt8} {k : Nat} (h : k < l.length) : l.drop k = l.getD k 0 :: l.drop (k + 1) := by
  rw [List.drop_eq_getElem_cons h]
  congr 1
  simp [List.getD, List.getElem?_eq_getElem h]
theorem splitP_cons {b : UInt8} {r : List UInt8} (h : b ≠ 46) : splitP (b :: r) = (b :: (splitP r).headD []) :: (splitP r).tail := by
  simp only [splitP, if_neg h]
theorem splitP_dot (r : List UInt8) : splitP (46 :: r) = [] :: splitP r := by
  simp only [splitP, if_true]
theorem dig_46 : isDig 46 = false := by decide
theorem decB_dig {p : List UInt8} {b : UInt8} (hb : b ∈ p) (hd : isDig b = false) : decB p = false := by
  rw [Bool.eq_false_iff]
  intro h
  have := (decB_all h).2
  rw [List.all_eq_true] at this
  rw [this b hb] at hd; cases hd
theorem all_mem {P : List (List UInt8)} {p : List UInt8} (hp : p ∈ P) (hd : decB p = false) : P.all decB = false := by
  rw [Bool.eq_false_iff]
  intro h
  rw [List.all_eq_true] at h
  rw [h p hp] at hd; cases hd
theorem RpI.bad {l : List UInt8} {i f : Nat} {S : List Int} (h : RpI l i f S) (hi : i < l.length) (h46 : l.getD i 0 ≠ 46) (hd : isDig (l.getD i 0) = false) : (splitP l).all decB = false := by
  rcases h with ⟨_, _, _, D, h1, _⟩ | ⟨h1, _⟩
  · rw [dropU_at hi, splitP_cons h46, List.headD_cons, List.tail_cons] at h1
    refine all_mem (p := curP l f i ++ l.getD i 0 :: (splitP (l.drop (i + 1))).headD []) ?_ (decB_dig (b := l.getD i 0) (by simp) hd)
    rw [h1]; simp
  · omega
theorem RpI.digit {l : List UInt8} {i f : Nat} {S : List Int} (h : RpI l i f S) (hi : i < l.length) (h46 : l.getD i 0 ≠ 46) (hd : isDig (l.getD i 0) = true) : RpI l (i + 1) f S := by
  rcases h with ⟨_, h2, h2b, D, h1, h3, h4, h5⟩ | ⟨h1, _⟩
  · rw [dropU_at hi, splitP_cons h46, List.headD_cons, List.tail_cons] at h1
    refine .inl ⟨by omega, by omega, h2b, D, ?_, ?_, h4, h5⟩
    · rw [h1, curP_next h2 hi]; simp
    · rw [curP_next h2 hi, List.all_append, h3, List.all_cons, hd]; rfl
  · omega
theorem RpI.le {l : List UInt8} {i f : Nat} {S : List Int} (h : RpI l i f S) (hi : i ≤ l.length) : f ≤ i ∧ S.length ≤ f ∧ (curP l f i).all isDig = true := by
  rcases h with ⟨_, h2, h2b, D, h1, h3, h4, h5⟩ | ⟨h1, _⟩
  · exact ⟨h2, h2b, h3⟩
  · omega
theorem RpI.ended {l : List UInt8} {i f : Nat} {S : List Int} (h : RpI l i f S) (hi : i ≤ l.length) (hend : i = l.length ∨ l.getD i 0 = 46) (hd : decB (curP l f i) = false) : (splitP l).all decB = false := by
  rcases h with ⟨_, h2, h2b, D, h1, h3, h4, h5⟩ | ⟨h1, _⟩
  · refine all_mem (p := curP l f i) ?_ hd
    rw [h1]
    rcases Nat.lt_or_ge i l.length with hlt | hge
    · have h46 := hend.resolve_left (by omega)
      rw [dropU_at hlt, h46, splitP_dot]; simp
    · rw [List.drop_of_length_le hge]; simp [splitP]
  · omega
theorem RpI.piece {l : List UInt8} {i f : Nat} {S : List Int} (h : RpI l i f S) (hi : i ≤ l.length) (hend : i = l.length ∨ l.getD i 0 = 46) (hd : decB (curP l f i) = true) : RpI l (i + 1) (i + 1) (S ++ [capV (curP l f i)]) := by
  rcases h with ⟨_, h2, h2b, D, h1, h3, h4, h5⟩ | ⟨h1, _⟩
  · rcases Nat.lt_or_ge i l.length with hlt | hge
    · have h46 := hend.resolve_left (by omega)
      rw [dropU_at hlt, h46, splitP_dot, List.headD_cons, List.tail_cons, List.append_nil] at h1
      refine .inl ⟨by omega, Nat.le_refl _, by simp; omega, D ++ [curP l f i], ?_, by rw [curP_self]; rfl, by simp [h4, hd], by simp [h5]⟩
      rw [h1, curP_self, List.nil_append, headD_tail (splitP_ne (l.drop (i + 1))), List.append_assoc]
      rfl
    · have hil : i = l.length := by omega
      rw [List.drop_of_length_le hge] at h1
      simp only [splitP, List.headD_cons, List.tail_cons, List.append_nil] at h1
      refine .inr ⟨by omega, by simp; omega, ?_, ?_⟩
      · rw [h1]; simp [h4, hd]
      · rw [h1]; simp [h5]
  · omega
theorem RpI.last {l : List UInt8} {i f : Nat} {S : List Int} (h : RpI l i f S) (hi : ¬ i ≤ l.length) : (splitP l).all decB = true ∧ S = (splitP l).map capV := by
  rcases h with ⟨h1, _⟩ | ⟨_, _, h1, h2⟩
  · omega
  · exact ⟨h1, h2⟩
theorem RpI.top {l : List UInt8} {i f : Nat} {S : List Int} (h : RpI l i f S) : i ≤ l.length + 1 ∧ S.length ≤ i := by
  rcases h with ⟨h1, h2, h3, _⟩ | ⟨h0, h1, _⟩
  · exact ⟨by omega, by omega⟩
  · exact ⟨by omega, h1⟩
/-- The end of a piece: is it a number? -/
theorem decB_cur {p : List UInt8} (h : p.all isDig = true) : decB p = (!p.isEmpty && !(p.headD 0 == 48 && decide (1 < p.length))) := by
  cases p with
  | nil => rfl
  | cons b r =>
    have hd : (b :: r).all (digs.contains ·) = true := by rw [all_dig]; exact h
    simp only [decB, hd, Bool.and_true, List.isEmpty_cons, Bool.not_false, Bool.true_and, List.headD_cons, List.length_cons]
    by_cases hb : b = 48
    · subst hb
      cases r with
      | nil => rfl
      | cons a t => simp
    · simp [hb]
def capR (m : Nat) (l : List UInt8) : Nat := l.foldl (fun a c => min (10 * a + (c.toNat - 48)) 4294967296) m
theorem capR_nil (m : Nat) : capR m [] = m := by unfold capR; exact List.foldl_nil
theorem capR_cons (m : Nat) (c : UInt8) (r : List UInt8) : capR m (c :: r) = capR (min (10 * m + (c.toNat - 48)) 4294967296) r := by unfold capR; exact List.foldl_cons
theorem capR_is (l : List UInt8) : ∀ a, capR (min a 4294967296) l = min (valA a l) 4294967296 := by
  induction l with
  | nil => intro a; rw [capR_nil, valA_nil]
  | cons c r ih =>
    intro a
    rw [capR_cons, valA_cons, ← ih]
    congr 1
    generalize c.toNat - 48 = d
    omega
theorem capV_is (p : List UInt8) : capV p = ((capR 0 p : Nat) : Int) := by
  unfold capV valB
  rw [← capR_is]
  rfl
end Go.Proofs.YtacpcagijfacnaaDoor
