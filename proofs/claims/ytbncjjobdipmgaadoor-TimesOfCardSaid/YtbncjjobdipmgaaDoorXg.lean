/- Chapter 10 (times): the reference's Parse, in plain data (no walk here). -/
import Derived.Test.YtbncjjobdipmgaaDoorXe
namespace Go.Proofs.YtbncjjobdipmgaaDoor
open Go.RowKit Pl

def cut (l : List UInt8) (a n : Nat) : List UInt8 := (l.drop a).take n
/-- The time that stands in a text's places. -/
def refT (l : List UInt8) : Tm := ⟨numA (cut l 0 4) 0, numA (cut l 5 2) 0, numA (cut l 8 2) 0, numA (cut l 11 2) 0, numA (cut l 14 2) 0, numA (cut l 17 2) 0⟩
theorem num_dg2 (n : Int) (h0 : 0 ≤ n) (h1 : n ≤ 99) : numA [ch (n / 10), ch (n % 10)] 0 = n := by
  rw [numA_ch (by omega) (by omega), numA_ch (by omega) (by omega)]
  show 10 * (10 * 0 + n / 10) + n % 10 = n
  omega
theorem num_dg4 (n : Int) (h0 : 0 ≤ n) (h1 : n ≤ 9999) : numA [ch (n / 1000), ch (n / 100 % 10), ch (n / 10 % 10), ch (n % 10)] 0 = n := by
  rw [numA_ch (by omega) (by omega), numA_ch (by omega) (by omega), numA_ch (by omega) (by omega), numA_ch (by omega) (by omega)]
  show 10 * (10 * (10 * (10 * 0 + n / 1000) + n / 100 % 10) + n / 10 % 10) + n % 10 = n
  omega
theorem refT_text (y mo d h mi s : Int) (hk : okB y mo d h mi s = true) : refT (textL y mo d h mi s) = ⟨y, mo, d, h, mi, s⟩ := by
  obtain ⟨b0, b1, b2, b3, b4, _, b5, b6, b7, b8, b9, b10, b11⟩ := okB_bounds hk
  unfold textL refT
  rw [dg4 y b0 b1, dg2 mo (by omega) (by omega), dg2 d (by omega) (by omega), dg2 h b6 (by omega), dg2 mi b8 (by omega), dg2 s b10 (by omega)]
  have e0 := num_dg4 y b0 b1
  have e1 := num_dg2 mo (by omega) (by omega)
  have e2 := num_dg2 d (by omega) (by omega)
  have e3 := num_dg2 h b6 (by omega)
  have e4 := num_dg2 mi b8 (by omega)
  have e5 := num_dg2 s b10 (by omega)
  refine Tm.mk.injEq .. |>.mpr ⟨e0, e1, e2, e3, e4, e5⟩
theorem parse_len {l : List UInt8} (h : l.length ≠ 20) : parseF l = (Tm.zero, 6) := by
  unfold parseF parseG
  rw [if_neg (fun hc => h hc.2.1)]
theorem parse_one (l : List UInt8) : (∃ t, parseF l = (t, 0)) ∨ parseF l = (Tm.zero, 6) := by
  unfold parseF parseG
  split
  · exact .inl ⟨_, rfl⟩
  · exact .inr rfl
theorem parse_ref (l : List UInt8) : parseF l = if (refT l).ok = true ∧ textL (refT l).y (refT l).mo (refT l).d (refT l).h (refT l).mi (refT l).s = l then (refT l, 0) else (Tm.zero, 6) := by
  rcases parse_one l with ⟨t, h⟩ | h
  · obtain ⟨hk, hl⟩ := parse_inv h
    have hr : refT l = t := by rw [hl]; exact refT_text _ _ _ _ _ _ hk
    rw [hr, if_pos ⟨hk, hl.symm⟩]; exact h
  · rw [h]
    split
    · rename_i hc
      obtain ⟨hk, hl⟩ := hc
      have := parse_text (refT l).y (refT l).mo (refT l).d (refT l).h (refT l).mi (refT l).s hk
      rw [hl, h] at this
      exact absurd (Prod.mk.inj this).2 (by decide)
    · rfl
end Go.Proofs.YtbncjjobdipmgaaDoor
