/- Chapter 10 (times): the order of times, in plain data (no walk here). -/
import Derived.Test.YtbncjjobdipmgaaDoorXe
import Derived.Test.YtbncjjobdipmgaaDoorWu
namespace Go.Proofs.YtbncjjobdipmgaaDoor
open Go.RowKit Pl

def cmpL : List Int → List Int → Int
  | [], [] => 0
  | [], _ :: _ => -1
  | _ :: _, [] => 1
  | a :: r, b :: s => if a < b then -1 else if b < a then 1 else cmpL r s
theorem cmpL_is (r : List Int) : ∀ s, cmpL r s = -1 ∨ cmpL r s = 0 ∨ cmpL r s = 1 := by
  induction r with
  | nil => intro s; cases s <;> simp [cmpL]
  | cons a r ih =>
    intro s
    cases s with
    | nil => simp [cmpL]
    | cons b s =>
      unfold cmpL
      split
      · exact .inl rfl
      · split
        · exact .inr (.inr rfl)
        · exact ih s
theorem cmpL_zero (r : List Int) : ∀ s, cmpL r s = 0 ↔ r = s := by
  induction r with
  | nil => intro s; cases s <;> simp [cmpL]
  | cons a r ih =>
    intro s
    cases s with
    | nil => simp [cmpL]
    | cons b s =>
      unfold cmpL
      split
      · constructor
        · intro h; exact absurd h (by decide)
        · intro h; injection h with h _; omega
      · split
        · constructor
          · intro h; exact absurd h (by decide)
          · intro h; injection h with h _; omega
        · rw [ih s]
          constructor
          · intro h; rw [h, show a = b by omega]
          · intro h; injection h
theorem cmpL_neg (r : List Int) : ∀ s, cmpL s r = -cmpL r s := by
  induction r with
  | nil => intro s; cases s <;> simp [cmpL]
  | cons a r ih =>
    intro s
    cases s with
    | nil => simp [cmpL]
    | cons b s =>
      unfold cmpL
      rcases Int.lt_trichotomy a b with h | h | h
      · rw [if_neg (by omega), if_pos h, if_pos h]; rfl
      · rw [if_neg (by omega), if_neg (by omega), if_neg (by omega), if_neg (by omega)]; exact ih s
      · rw [if_pos h, if_neg (by omega), if_pos h]
def Tm.list (t : Tm) : List Int := [t.y, t.mo, t.d, t.h, t.mi, t.s]
theorem cmpL_year (a b : Tm) (h : a.y ≠ b.y) : cmpL a.list b.list < 0 ↔ a.y < b.y := by
  unfold Tm.list cmpL
  rcases Int.lt_trichotomy a.y b.y with h1 | h1 | h1
  · rw [if_pos h1]; simp; exact h1
  · exact absurd h1 h
  · rw [if_neg (by omega), if_pos h1]; simp; omega
theorem cmpL_lt {a b : Int} {r s : List Int} (h : cmpL (a :: r) (b :: s) < 0) : a < b ∨ (a = b ∧ cmpL r s < 0) := by
  unfold cmpL at h
  rcases Int.lt_trichotomy a b with h1 | h1 | h1
  · exact .inl h1
  · rw [if_neg (by omega), if_neg (by omega)] at h; exact .inr ⟨h1, h⟩
  · rw [if_neg (by omega), if_pos h1] at h; exact absurd h (by decide)
theorem cmp_secs {a b : Tm} (ha : a.ok = true) (hb : b.ok = true) (h : cmpL a.list b.list < 0) : a.secs < b.secs := by
  obtain ⟨y, mo, d, hh, mi, s⟩ := a
  obtain ⟨y', mo', d', hh', mi', s'⟩ := b
  have p := okB_bounds (show okB y mo d hh mi s = true from ha)
  have q := okB_bounds (show okB y' mo' d' hh' mi' s' = true from hb)
  show secs y mo d hh mi s < secs y' mo' d' hh' mi' s'
  rw [secs_eq, secs_eq]
  have hd := day_in p.1 p.2.2.1 p.2.2.2.1 p.2.2.2.2.1 p.2.2.2.2.2.1
  have hd' := day_in q.1 q.2.2.1 q.2.2.2.1 q.2.2.2.2.1 q.2.2.2.2.2.1
  have g0 : cmpL [y, mo, d, hh, mi, s] [y', mo', d', hh', mi', s'] < 0 := h
  clear h
  rcases cmpL_lt g0 with h | ⟨e, g1⟩
  · have := dby_mono (y + 1) y' (by omega) (by omega); omega
  · subst e
    unfold dayN
    unfold dayN at hd hd'
    rcases cmpL_lt g1 with h | ⟨e, g2⟩
    · have hm := cumd_mono y ((mo - 1).toNat + 1) (mo' - 1).toNat (by omega)
      rw [cumd_step] at hm
      rw [show (((mo - 1).toNat : Nat) : Int) + 1 = mo by omega] at hm
      omega
    · subst e
      rcases cmpL_lt g2 with h | ⟨_, g3⟩
      · omega
      · rcases cmpL_lt g3 with h | ⟨_, g4⟩
        · omega
        · rcases cmpL_lt g4 with h | ⟨_, g5⟩
          · omega
          · rcases cmpL_lt g5 with h | ⟨_, g6⟩
            · omega
            · exact absurd g6 (by decide)
/-- The order of two valid times is that of their seconds. -/
theorem cmp_sign {a b : Tm} (ha : a.ok = true) (hb : b.ok = true) :
    (cmpL a.list b.list = -1 ∧ a.secs < b.secs) ∨ (cmpL a.list b.list = 0 ∧ a = b) ∨ (cmpL a.list b.list = 1 ∧ b.secs < a.secs) := by
  rcases cmpL_is a.list b.list with h | h | h
  · exact .inl ⟨h, cmp_secs ha hb (by omega)⟩
  · refine .inr (.inl ⟨h, ?_⟩)
    have := (cmpL_zero _ _).mp h
    obtain ⟨y, mo, d, hh, mi, s⟩ := a
    obtain ⟨y', mo', d', hh', mi', s'⟩ := b
    simp [Tm.list] at this
    simp [this]
  · exact .inr (.inr ⟨h, cmp_secs hb ha (by rw [cmpL_neg, h]; decide)⟩)

theorem less_app {p p' r r' : List UInt8} (hl : p.length = p'.length) (h : p = p') : Op.bytesLess (p ++ r) (p' ++ r') = Op.bytesLess r r' := by
  subst h
  clear hl
  induction p with
  | nil => rfl
  | cons c p ih =>
    show (decide (c < c) || (c == c && Op.bytesLess (p ++ r) (p ++ r'))) = _
    rw [ih]; simp
theorem ch_lt {a b : Int} (a0 : 0 ≤ a) (a1 : a ≤ 9) (b0 : 0 ≤ b) (b1 : b ≤ 9) : (ch a < ch b) ↔ a < b := by
  have h1 := ch_nat a0 a1
  have h2 := ch_nat b0 b1
  rw [UInt8.lt_iff_toNat_lt]
  omega
theorem ch_eq {a b : Int} (a0 : 0 ≤ a) (a1 : a ≤ 9) (b0 : 0 ≤ b) (b1 : b ≤ 9) : (ch a == ch b) = decide (a = b) := by
  have h1 := ch_nat a0 a1
  have h2 := ch_nat b0 b1
  by_cases h : a = b
  · subst h; simp
  · rw [decide_eq_false h]
    refine beq_false_of_ne fun hc => ?_
    rw [hc] at h1; omega
theorem less_step {a b : Int} (a0 : 0 ≤ a) (a1 : a ≤ 9) (b0 : 0 ≤ b) (b1 : b ≤ 9) (r s : List UInt8) : Op.bytesLess (ch a :: r) (ch b :: s) = (decide (a < b) || (decide (a = b) && Op.bytesLess r s)) := by
  show (decide (ch a < ch b) || (ch a == ch b && Op.bytesLess r s)) = _
  rw [ch_eq a0 a1 b0 b1]
  congr 1
  exact decide_eq_decide.mpr (ch_lt a0 a1 b0 b1)
theorem less_dg2 {a b : Int} (a0 : 0 ≤ a) (a1 : a ≤ 99) (b0 : 0 ≤ b) (b1 : b ≤ 99) (r s : List UInt8) : Op.bytesLess (dg 2 a ++ r) (dg 2 b ++ s) = (decide (a < b) || (decide (a = b) && Op.bytesLess r s)) := by
  rw [dg2 a a0 a1, dg2 b b0 b1]
  show Op.bytesLess (ch (a / 10) :: ch (a % 10) :: r) (ch (b / 10) :: ch (b % 10) :: s) = _
  rw [less_step (by omega) (by omega) (by omega) (by omega), less_step (by omega) (by omega) (by omega) (by omega)]
  cases Op.bytesLess r s
  · simp
    rw [← Bool.decide_and, ← Bool.decide_or]
    exact decide_eq_decide.mpr (by omega)
  · simp
    rw [← Bool.decide_or, ← Bool.decide_and, ← Bool.decide_or, ← Bool.decide_or]
    exact decide_eq_decide.mpr (by omega)
theorem less_dg4 {a b : Int} (a0 : 0 ≤ a) (a1 : a ≤ 9999) (b0 : 0 ≤ b) (b1 : b ≤ 9999) (r s : List UInt8) : Op.bytesLess (dg 4 a ++ r) (dg 4 b ++ s) = (decide (a < b) || (decide (a = b) && Op.bytesLess r s)) := by
  rw [dg4 a a0 a1, dg4 b b0 b1]
  show Op.bytesLess (ch (a / 1000) :: ch (a / 100 % 10) :: ch (a / 10 % 10) :: ch (a % 10) :: r) (ch (b / 1000) :: ch (b / 100 % 10) :: ch (b / 10 % 10) :: ch (b % 10) :: s) = _
  rw [less_step (by omega) (by omega) (by omega) (by omega), less_step (by omega) (by omega) (by omega) (by omega), less_step (by omega) (by omega) (by omega) (by omega), less_step (by omega) (by omega) (by omega) (by omega)]
  rcases Int.lt_trichotomy a b with h | h | h
  · rw [decide_eq_true h]
    simp only [Bool.true_or]
    cases Op.bytesLess r s <;> (simp only [Bool.and_false, Bool.or_false, Bool.and_true, ← Bool.decide_and, ← Bool.decide_or]; exact decide_eq_true (by omega))
  · subst h; simp
  · rw [decide_eq_false (show ¬ a < b by omega), decide_eq_false (show ¬ a = b by omega)]
    simp only [Bool.false_or, Bool.false_and]
    cases Op.bytesLess r s <;> (simp only [Bool.and_false, Bool.or_false, Bool.and_true, ← Bool.decide_and, ← Bool.decide_or]; exact decide_eq_false (by omega))
theorem less_self (c : UInt8) (r s : List UInt8) : Op.bytesLess (c :: r) (c :: s) = Op.bytesLess r s := by
  show (decide (c < c) || (c == c && Op.bytesLess r s)) = _
  simp
theorem text_less {a b : Tm} (ha : a.ok = true) (hb : b.ok = true) : Op.bytesLess (textL a.y a.mo a.d a.h a.mi a.s) (textL b.y b.mo b.d b.h b.mi b.s) = decide (cmpL a.list b.list < 0) := by
  obtain ⟨y, mo, d, hh, mi, s⟩ := a
  obtain ⟨y', mo', d', hh', mi', s'⟩ := b
  have p := okB_bounds (show okB y mo d hh mi s = true from ha)
  have q := okB_bounds (show okB y' mo' d' hh' mi' s' = true from hb)
  show Op.bytesLess (textL y mo d hh mi s) (textL y' mo' d' hh' mi' s') = decide (cmpL [y, mo, d, hh, mi, s] [y', mo', d', hh', mi', s'] < 0)
  rw [textL_eq, textL_eq]
  unfold text5
  rw [less_dg4 (by omega) (by omega) (by omega) (by omega), less_self, less_dg2 (by omega) (by omega) (by omega) (by omega), less_self, less_dg2 (by omega) (by omega) (by omega) (by omega), less_self, less_dg2 (by omega) (by omega) (by omega) (by omega), less_self, less_dg2 (by omega) (by omega) (by omega) (by omega), less_self, less_dg2 (by omega) (by omega) (by omega) (by omega)]
  have e : Op.bytesLess [90] [90] = false := by decide
  rw [e]
  have st : ∀ (u v : Int) (r t : List Int), decide (cmpL (u :: r) (v :: t) < 0) = (decide (u < v) || (decide (u = v) && decide (cmpL r t < 0))) := by
    intro u v r t
    show decide ((if u < v then -1 else if v < u then 1 else cmpL r t) < 0) = _
    rcases Int.lt_trichotomy u v with h | h | h
    · rw [if_pos h, decide_eq_true h]; rfl
    · subst h; simp
    · rw [if_neg (by omega), if_pos h, decide_eq_false (show ¬ u < v by omega), decide_eq_false (show ¬ u = v by omega)]; rfl
  rw [st, st, st, st, st, st]
  rfl
end Go.Proofs.YtbncjjobdipmgaaDoor
