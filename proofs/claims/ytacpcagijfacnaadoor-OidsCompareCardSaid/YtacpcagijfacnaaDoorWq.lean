/- Chapters 6, 7 (oids, oidsets): decimal. -/
import Derived.Test.YtacpcagijfacnaaDoorWp
import Derived.Shelf.Strings.SlTrimAscii
namespace Go.Proofs.YtacpcagijfacnaaDoor
open Go.RowKit Go.Shelf Go.Lib
open Go.Proofs.YtacpcagijfacnaaDoorW.PrintWords (gate_guard gate_dst)
set_option linter.unusedSimpArgs false
set_option linter.unusedVariables false
set_option maxRecDepth 50000
abbrev digs : List UInt8 := [48, 49, 50, 51, 52, 53, 54, 55, 56, 57]
theorem dropWhile_nil {p : UInt8 → Bool} : ∀ {l : List UInt8}, l.dropWhile p = [] ↔ l.all p = true
  | [] => by simp
  | a :: r => by
    have ih := dropWhile_nil (p := p) (l := r)
    rw [List.dropWhile_cons, List.all_cons]
    cases h : p a
    · simp
    · simpa using ih
theorem dropWhile_last {p : UInt8 → Bool} : ∀ {l : List UInt8} {a : UInt8} {t : List UInt8}, l.dropWhile p = a :: t → p a = false
  | [], a, t, h => by simp at h
  | b :: r, a, t, h => by
    rw [List.dropWhile_cons] at h
    cases hb : p b
    · rw [hb] at h; simp at h; rw [← h.1]; exact hb
    · rw [hb] at h; exact dropWhile_last h
theorem trimS_nil (l cs : List UInt8) : Lib.trimS l cs = [] ↔ l.all (cs.contains ·) = true := by
  unfold Lib.trimS Lib.trimLeftS Lib.trimRightS
  rw [dropWhile_nil]
  constructor
  · intro h
    cases hr : l.reverse.dropWhile (cs.contains ·) with
    | nil => rw [dropWhile_nil] at hr; simpa using hr
    | cons a t =>
      rw [hr] at h
      have h1 := dropWhile_last hr
      rw [List.all_eq_true] at h
      have h2 := h a (by simp)
      rw [h1] at h2; cases h2
  · intro h
    have : l.reverse.dropWhile (cs.contains ·) = [] := by rw [dropWhile_nil]; simpa using h
    rw [this]; rfl
/-- A decimal number without leading zeros. -/
def decB : List UInt8 → Bool
  | [] => false
  | b :: r => decide (r = [] ∧ b = 48) || (decide (b ≠ 48) && (b :: r).all (digs.contains ·))
theorem decimal_cons (b : UInt8) (r : List UInt8) (w : World) (hl : (b :: r).length ≤ 1000000) :
    Calls Tryd.prog 40 #[.string ⟨(b :: r).toArray⟩] w fun e w' => e = .returned (.bool (decB (b :: r))) ∧ Below w.heap.size w w' := by
  generalize hres : decB (b :: r) = res
  have HRES := Lib.hid hres
  clear hres
  by_cases h1 : r = [] ∧ b = 48
  · obtain ⟨rfl, rfl⟩ := h1
    obtain rfl : res = true := by rw [← HRES.out]; rfl
    go_enter Tryd.func40, Tryd.ntmps40
    go_wp2
    go_ret
    exact ⟨rfl, Below.refl _ _⟩
  have hne : ¬ ((⟨(b :: r).toArray⟩ : ByteArray) = ⟨#[48]⟩) := fun h => h1 (by
    have := congrArg (fun x : ByteArray => x.data.toList) h
    simp at this
    exact ⟨this.2, this.1⟩)
  have hne2 : ¬ ((⟨(b :: r).toArray⟩ : ByteArray) = ⟨#[]⟩) := fun h => by
    have := congrArg (fun x : ByteArray => x.data.toList) h
    simp at this
  have hcon0 := Any.strings_Trim_laid Tryd.lays160 (by kernel_rfl) ⟨(b :: r).toArray⟩ ⟨#[48, 49, 50, 51, 52, 53, 54, 55, 56, 57]⟩
  have hcon := hcon0 w (by rw [ByteArray.size]; simp at hl ⊢; omega) (by decide) (ascii_of_all (by decide))
  change Calls Tryd.prog 49 _ _ (fun e w' => e = .returned (.string ⟨(Lib.trimS (b :: r) digs).toArray⟩) ∧ Below w.heap.size w w') at hcon
  clear hcon0
  have HT := Lib.hid (trimS_nil (b :: r) digs)
  have HCON := Lib.hid hcon
  clear hcon
  generalize Lib.trimS (b :: r) digs = T at *
  clear hne hne2
  by_cases h48 : b = 48
  · subst h48
    obtain rfl : res = false := by rw [← HRES.out]; unfold decB; simp; exact fun h => h1 ⟨h, rfl⟩
    go_enter Tryd.func40, Tryd.ntmps40
    have hr : r.isEmpty = false := by cases r with | nil => exact absurd ⟨rfl, rfl⟩ h1 | cons a t => rfl
    go_wp2
    go_ret
    exact ⟨rfl, Below.refl _ _⟩
  · have h48' : ¬ (b.toNat : Int) = 48 := fun h => h48 (UInt8.toNat_inj.mp (by show b.toNat = 48; omega))
    have hbn : ((b.toNat : Int) != 48) = true := by simpa using h48'
    have h48b : (b == 48) = false := by simp [h48]
    have h48n : ¬ b.toNat = 48 := fun h => h48 (UInt8.toNat_inj.mp h)
    have hix : (⟨(b :: r).toArray⟩ : ByteArray)[0]'(by rw [ByteArray.size]; simp) = b := rfl
    by_cases hall : T = []
    · obtain rfl : res = true := by rw [← HRES.out]; simp only [decB]; rw [HT.out.mp hall]; simp [h48]
      subst hall
      clear HT
      go_enter Tryd.func40, Tryd.ntmps40
      go_wp2_with (go_at_call 49; refine HCON.out.mono ?_; rintro e w' ⟨rfl, hb⟩)
      go_ret
      exact ⟨rfl, hb⟩
    · obtain rfl : res = false := by rw [← HRES.out]; simp only [decB]; rw [Bool.eq_false_iff.mpr (fun h => hall (HT.out.mpr h))]; simp; exact fun h h2 => h1 ⟨h, h2⟩
      obtain ⟨t0, t1, rfl⟩ : ∃ t0 t1, T = t0 :: t1 := by cases T with | nil => exact absurd rfl hall | cons a t => exact ⟨a, t, rfl⟩
      go_enter Tryd.func40, Tryd.ntmps40
      go_wp2_with (go_at_call 49; refine HCON.out.mono ?_; rintro e w' ⟨rfl, hb⟩)
      go_ret
      exact ⟨rfl, hb⟩
theorem decimal_nil (w : World) : Calls Tryd.prog 40 #[.string ⟨#[]⟩] w fun e w' => e = .returned (.bool false) ∧ Below w.heap.size w w' := by
  go_enter Tryd.func40, Tryd.ntmps40
  go_wp2
  go_ret
  exact ⟨rfl, Below.refl _ _⟩
theorem decimal_is (l : List UInt8) (w : World) (hl : l.length ≤ 1000000) :
    Calls Tryd.prog 40 #[.string ⟨l.toArray⟩] w fun e w' => e = .returned (.bool (decB l)) ∧ Below w.heap.size w w' := by
  cases l with
  | nil => exact decimal_nil w
  | cons b r => exact decimal_cons b r w hl
end Go.Proofs.YtacpcagijfacnaaDoor
