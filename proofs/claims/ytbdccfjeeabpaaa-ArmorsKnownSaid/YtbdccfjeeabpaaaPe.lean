/- Chapter 22 (armors): plain words: what Get reads. -/
import Derived.Test.YtbdccfjeeabpaaaNi
import Derived.Test.YtbdccfjeeabpaaaPd
namespace Go.Proofs.Ytbdccfjeeabpaaa
open Go.RowKit Go.Shelf
set_option linter.unusedSimpArgs false
set_option linter.unusedVariables false
/-- How far lines are read. -/
structure GS where
  L : List (List Int)
  ins : Bool
  B : List Int
  last : Int
def gs0 : GS := ⟨[], false, [], 48⟩
def gstep (x : GS) (s : List UInt8) : GS × Int :=
  if x.ins = false then
    if s = [] ∨ s.head? = some 35 then (x, 0)
    else if s ≠ begS then (x, 6)
    else if x.L.length = 64 then (x, 3)
    else (⟨x.L, true, [], 48⟩, 0)
  else if s = endS then
    if x.B = [] then (x, 17) else (⟨x.L ++ [x.B], false, x.B, x.last⟩, 0)
  else if x.last < 48 ∨ s = [] ∨ 64 < s.length then (x, 10)
  else if (decP s).2 ≠ 0 then (x, (decP s).2)
  else if 65536 < x.B.length + (decP s).1.length then (x, 3)
  else (⟨x.L, true, x.B ++ (decP s).1, ((decP s).1.length : Int)⟩, 0)
def gall : GS → Nat → List (List UInt8) → List (List Int) × Int × Int
  | x, k, [] => if x.ins = true then ([], (k : Int) + 1, 7) else (x.L, 0, 0)
  | x, k, s :: r => if (gstep x s).2 ≠ 0 then ([], (k : Int) + 1, (gstep x s).2) else gall (gstep x s).1 (k + 1) r
def getP (s : List UInt8) : List (List Int) × Int × Int := if 1048576 < s.length then ([], 0, 3) else gall gs0 0 (lns s)
def gfold : GS → List (Nat × List UInt8) → Option GS
  | x, [] => some x
  | x, (_, s) :: r => if (gstep x s).2 ≠ 0 then none else gfold (gstep x s).1 r
theorem gfold_snoc : ∀ (x : GS) (q : List (Nat × List UInt8)) (n : Nat) (s : List UInt8) (st : GS), gfold x q = some st → gfold x (q ++ [(n, s)]) = if (gstep st s).2 ≠ 0 then none else some (gstep st s).1
  | x, [], n, s, st, h => by
    injection h with h; subst h
    rfl
  | x, (m, t) :: r, n, s, st, h => by
    rw [gfold] at h
    show (if _ then _ else _) = _
    by_cases h1 : (gstep x t).2 ≠ 0
    · rw [if_pos h1] at h; cases h
    · rw [if_neg h1] at h ⊢
      exact gfold_snoc _ r n s st h
theorem gall_done : ∀ (x : GS) (k : Nat) (l : List (List UInt8)) (st : GS), gfold x (num (k + 1) l) = some st → gall x k l = if st.ins = true then ([], ((k + l.length : Nat) : Int) + 1, 7) else (st.L, 0, 0)
  | x, k, [], st, h => by
    injection h with h; subst h
    rfl
  | x, k, s :: r, st, h => by
    rw [num, gfold] at h
    rw [gall]
    by_cases h1 : (gstep x s).2 ≠ 0
    · rw [if_pos h1] at h; cases h
    · rw [if_neg h1] at h ⊢
      rw [gall_done _ (k + 1) r st h, List.length_cons, show k + 1 + r.length = k + (r.length + 1) by omega]
theorem gall_stop : ∀ (x : GS) (k : Nat) (l : List (List UInt8)) (q : List (Nat × List UInt8)) (n : Nat) (s : List UInt8) (st : GS), q ++ [(n, s)] <+: num (k + 1) l → gfold x q = some st → (gstep st s).2 ≠ 0 → gall x k l = ([], (n : Int), (gstep st s).2)
  | x, k, [], q, n, s, st, hp, _, _ => by
    rw [num] at hp
    have := List.prefix_nil.1 hp
    simp at this
  | x, k, a :: r, [], n, s, st, hp, h, he => by
    injection h with h; subst h
    rw [num, List.nil_append] at hp
    have h2 := List.cons_prefix_cons.1 hp
    obtain ⟨rfl, rfl⟩ : n = k + 1 ∧ s = a := by have := h2.1; simpa using this
    rw [gall, if_pos he]
    simp
  | x, k, a :: r, (m, t) :: q, n, s, st, hp, h, he => by
    rw [num, List.cons_append] at hp
    have h2 := List.cons_prefix_cons.1 hp
    obtain ⟨rfl, rfl⟩ : m = k + 1 ∧ t = a := by have := h2.1; simpa using this
    rw [gfold] at h
    rw [gall]
    by_cases h1 : (gstep x t).2 ≠ 0
    · rw [if_pos h1] at h; cases h
    · rw [if_neg h1] at h ⊢
      exact gall_stop _ (k + 1) r q n s st h2.2 h he
theorem num_len : ∀ (k : Nat) (l : List (List UInt8)), (num k l).length = l.length
  | _, [] => rfl
  | k, a :: r => by rw [num, List.length_cons, num_len, List.length_cons]
theorem dgo_len : ∀ (T : List UInt8) (k : Nat) (b : Int) (out : List Int) (b' : Int) (out' : List Int), dgo T k b out = some (b', out') → out'.length ≤ out.length + T.length
  | [], k, b, out, b', out', h => by
    simp only [dgo, Option.some.injEq, Prod.mk.injEq] at h
    rw [← h.2]; simp
  | c :: r, k, b, out, b', out', h => by
    rw [dgo] at h
    by_cases hc : dig c = 0
    · rw [if_pos hc] at h; cases h
    · rw [if_neg hc] at h
      have := dgo_len r _ _ _ b' out' h
      rw [List.length_append] at this
      have he : (em k (b * 64 + (dig c - 1))).length ≤ 1 := by unfold em; split <;> (try split) <;> (try split) <;> simp
      rw [List.length_cons]
      omega
theorem decP_len (s : List UInt8) : (decP s).1.length ≤ s.length := by
  unfold decP
  split
  · cases h : dgo (trimE s) 0 0 [] with
    | none => simp [finD]
    | some x =>
      obtain ⟨b, out⟩ := x
      have := dgo_len _ _ _ _ _ _ h
      have h2 := trimE_len s
      unfold finD
      simp only
      split
      · simp at this ⊢; omega
      · simp
  · simp
theorem decP_byt {s : List UInt8} (h : (decP s).2 = 0) : Byt (decP s).1 := (enc_dec (L := s) (b := (decP s).1) (by rw [← h])).1
end Go.Proofs.Ytbdccfjeeabpaaa
