/- The plain mathematics of chapter 10 (times), more: a number of seconds is that of one time at most. No program here. -/
import Derived.Test.YtbncjjobdipmgaaDoorPm
namespace Go.Proofs.YtbncjjobdipmgaaDoor.Pl

theorem cumd_step (y : Int) (k : Nat) : cumd y (k + 1) = cumd y k + dim y ((k : Int) + 1) := rfl
theorem cumd_mono (y : Int) (j k : Nat) (h : j ≤ k) : cumd y j ≤ cumd y k := by
  induction k with
  | zero => rw [show j = 0 by omega]; exact Int.le_refl _
  | succ k ih =>
    rcases Nat.lt_or_ge j (k + 1) with h1 | h1
    · have := ih (by omega)
      have := dim_le y ((k : Int) + 1)
      rw [cumd_step]
      omega
    · rw [show j = k + 1 by omega]; exact Int.le_refl _
/-- The day's number. -/
def dayN (y mo d : Int) : Int := dby y + cumd y (mo - 1).toNat + (d - 1)
theorem day_in {y mo d : Int} (h0 : 0 ≤ y) (h1 : 1 ≤ mo) (h2 : mo ≤ 12) (h3 : 1 ≤ d) (h4 : d ≤ dim y mo) : dby y ≤ dayN y mo d ∧ dayN y mo d < dby (y + 1) := by
  unfold dayN
  have hs := dby_succ y h0
  have hc := cumd_le y (mo - 1).toNat
  have hm := cumd_mono y ((mo - 1).toNat + 1) 12 (by omega)
  rw [cumd_step] at hm
  rw [show (((mo - 1).toNat : Nat) : Int) + 1 = mo by omega] at hm
  omega
theorem day_inj {y mo d y' mo' d' : Int} (h0 : 0 ≤ y) (h1 : 1 ≤ mo) (h2 : mo ≤ 12) (h3 : 1 ≤ d) (h4 : d ≤ dim y mo) (k0 : 0 ≤ y') (k1 : 1 ≤ mo') (k2 : mo' ≤ 12) (k3 : 1 ≤ d') (k4 : d' ≤ dim y' mo')
    (h : dayN y mo d = dayN y' mo' d') : y = y' ∧ mo = mo' ∧ d = d' := by
  have a := day_in h0 h1 h2 h3 h4
  have b := day_in k0 k1 k2 k3 k4
  have hy : y = y' := by
    rcases Int.lt_trichotomy y y' with hl | he | hl
    · have := dby_mono (y + 1) y' (by omega) (by omega); omega
    · exact he
    · have := dby_mono (y' + 1) y (by omega) (by omega); omega
  subst hy
  unfold dayN at h
  have hm : mo = mo' := by
    rcases Int.lt_trichotomy mo mo' with hl | he | hl
    · have hm := cumd_mono y ((mo - 1).toNat + 1) (mo' - 1).toNat (by omega)
      rw [cumd_step] at hm
      rw [show (((mo - 1).toNat : Nat) : Int) + 1 = mo by omega] at hm
      omega
    · exact he
    · have hm := cumd_mono y ((mo' - 1).toNat + 1) (mo - 1).toNat (by omega)
      rw [cumd_step] at hm
      rw [show (((mo' - 1).toNat : Nat) : Int) + 1 = mo' by omega] at hm
      omega
  subst hm
  exact ⟨rfl, rfl, by omega⟩
theorem secs_eq (y mo d h mi s : Int) : secs y mo d h mi s = 86400 * dayN y mo d + 3600 * h + 60 * mi + s := rfl
end Go.Proofs.YtbncjjobdipmgaaDoor.Pl
