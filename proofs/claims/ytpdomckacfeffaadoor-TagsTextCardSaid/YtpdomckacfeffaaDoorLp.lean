/- Chapter 2 (tags): numerals; the reference's Text is txt. -/
import Derived.Test.YtpdomckacfeffaaDoorRt
import Derived.Test.YtpdomckacfeffaaDoorLe
import Derived.Test.YtpdomckacfeffaaDoorQd
namespace Go.Proofs.YtpdomckacfeffaaDoor
open Go.RowKit Go.Shelf
open Go.Proofs.YtpdomckacfeffaaDoorW.PrintWords (rd at_rounds rdOf bt Ev)
set_option linter.unusedSimpArgs false
set_option linter.unusedVariables false

/-- A numeral's value, from the left. -/
def val (a : Nat) (l : List UInt8) : Nat := l.foldl (fun a c => 10 * a + (c.toNat - 48)) a
theorem val_snoc (a : Nat) (l : List UInt8) (c : UInt8) : val a (l ++ [c]) = 10 * val a l + (c.toNat - 48) := by simp [val]
theorem dig_toNat {d : Nat} (h : d < 10) : (UInt8.ofNat (48 + d)).toNat = 48 + d := by rw [UInt8.toNat_ofNat']; omega
theorem dd_one {u : Nat} (h : u < 10) : Lib.decDigits u = [UInt8.ofNat (48 + u)] := Lib.decDigits_one h
theorem dd_more {u : Nat} (h : ¬ u < 10) : Lib.decDigits u = Lib.decDigits (u / 10) ++ [UInt8.ofNat (48 + u % 10)] := by rw [Lib.decDigits, dif_neg h]
theorem dd_digit (u : Nat) : ∀ c ∈ Lib.decDigits u, 48 ≤ c.toNat ∧ c.toNat ≤ 57 := by
  induction u using Nat.strongRecOn with
  | _ u ih =>
    by_cases h : u < 10
    · rw [dd_one h]
      intro c hc
      obtain rfl := List.mem_singleton.mp hc
      rw [dig_toNat h]; omega
    · rw [dd_more h]
      intro c hc
      rcases List.mem_append.mp hc with hc | hc
      · exact ih (u / 10) (by omega) c hc
      · obtain rfl := List.mem_singleton.mp hc
        rw [dig_toNat (by omega)]; omega
theorem dd_val (u : Nat) : val 0 (Lib.decDigits u) = u := by
  induction u using Nat.strongRecOn with
  | _ u ih =>
    by_cases h : u < 10
    · rw [dd_one h]; show 10 * 0 + ((UInt8.ofNat (48 + u)).toNat - 48) = u; rw [dig_toNat h]; omega
    · rw [dd_more h, val_snoc, ih (u / 10) (by omega), dig_toNat (by omega)]; omega
theorem dd_len (k : Nat) : ∀ u : Nat, u < 10 ^ (k + 1) → (Lib.decDigits u).length ≤ k + 1 := by
  induction k with
  | zero => intro u h; rw [dd_one (by simpa using h)]; simp
  | succ k ih =>
    intro u h
    by_cases h' : u < 10
    · rw [dd_one h']; simp
    · rw [dd_more h', List.length_append]
      have := ih (u / 10) (by rw [Nat.pow_succ] at h; omega)
      simp only [List.length_singleton]
      omega
theorem dd_ne (u : Nat) : Lib.decDigits u ≠ [] := by
  by_cases h : u < 10
  · rw [dd_one h]; simp
  · rw [dd_more h]; simp
theorem pu_snoc : ∀ (l : List UInt8) (a : Nat) (c : UInt8), Lib.parseUint10 a (l ++ [c]) = match Lib.parseUint10 a l with | .ok v => Lib.parseUint10 v [c] | .syntax => .syntax | .range => .range
  | [], a, c => rfl
  | b :: l, a, c => by
    simp only [List.cons_append, Lib.parseUint10]
    by_cases h1 : 48 ≤ b.toNat ∧ b.toNat ≤ 57
    · rw [if_pos h1, if_pos h1]
      by_cases h2 : 1844674407370955162 ≤ a
      · rw [if_pos h2, if_pos h2]
      · rw [if_neg h2, if_neg h2]
        by_cases h3 : 18446744073709551616 ≤ a * 10 + (b.toNat - 48)
        · rw [if_pos h3, if_pos h3]
        · rw [if_neg h3, if_neg h3, pu_snoc l]; cases Lib.parseUint10 (a * 10 + (b.toNat - 48)) l <;> rfl
    · rw [if_neg h1, if_neg h1]
theorem pu_dd (u : Nat) (hu : u < 1000000000000000000) : Lib.parseUint10 0 (Lib.decDigits u) = .ok u := by
  induction u using Nat.strongRecOn with
  | _ u ih =>
    by_cases h : u < 10
    · rw [dd_one h]
      simp only [Lib.parseUint10, dig_toNat h]
      rw [if_pos (by omega), if_neg (by omega), if_neg (by omega)]
      congr 1; omega
    · rw [dd_more h, pu_snoc, ih (u / 10) (by omega) (by omega)]
      simp only [Lib.parseUint10, dig_toNat (show u % 10 < 10 by omega)]
      rw [if_pos (by omega), if_neg (by omega), if_neg (by omega)]
      congr 1; omega
theorem atoi_dd (u : Nat) (hu : u < 1000000000000000000) : Lib.atoiAll (Lib.decDigits u) = .ok (u : Int) := by
  have hp := pu_dd u hu
  have hd := dd_digit u
  have hn := dd_ne u
  generalize Lib.decDigits u = l at hp hd hn
  match l, hn with
  | c :: r, _ =>
    have hc := hd c (by simp)
    rw [Lib.atoiAll_plain c r (by omega) (by omega)]
    have hm : Lib.parseMag (c :: r) = .ok u := by unfold Lib.parseMag; rw [if_neg (by simp)]; exact hp
    rw [hm]
    show (if 9223372036854775808 ≤ u then _ else _) = _
    rw [if_neg (by omega)]
/-- The digits, the last one ahead. -/
def lsd (u : Nat) : List Int := if h : u = 0 then [] else ((u % 10 : Nat) : Int) :: lsd (u / 10)
termination_by u
decreasing_by omega
def chr (d : Int) : UInt8 := UInt8.ofNat (48 + d.toNat)
theorem lsd_dd (u : Nat) (h0 : u ≠ 0) : ((lsd u).reverse.map chr) = Lib.decDigits u := by
  induction u using Nat.strongRecOn with
  | _ u ih =>
    rw [lsd, dif_neg h0]
    by_cases h : u < 10
    · rw [dd_one h, show u / 10 = 0 by omega, lsd, dif_pos rfl]
      simp [chr, Nat.mod_eq_of_lt h]
    · rw [dd_more h, List.reverse_cons, List.map_append, ih (u / 10) (by omega) (by omega)]
      show _ ++ [UInt8.ofNat (48 + ((u % 10 : Nat) : Int).toNat)] = _
      rw [Int.toNat_natCast]
theorem lsd_dig (u : Nat) : ∀ d ∈ lsd u, 0 ≤ d ∧ d < 10 := by
  induction u using Nat.strongRecOn with
  | _ u ih =>
    rw [lsd]
    by_cases h0 : u = 0
    · rw [dif_pos h0]; intro d hd; cases hd
    · rw [dif_neg h0]
      intro d hd
      rcases List.mem_cons.mp hd with rfl | hd
      · omega
      · exact ih (u / 10) (by omega) d hd
theorem lsd_len (k : Nat) : ∀ u : Nat, u < 10 ^ k → (lsd u).length ≤ k := by
  induction k with
  | zero => intro u h; rw [lsd, dif_pos (by simpa using h)]; simp
  | succ k ih =>
    intro u h
    rw [lsd]
    by_cases h0 : u = 0
    · rw [dif_pos h0]; simp
    · rw [dif_neg h0]
      have := ih (u / 10) (by rw [Nat.pow_succ] at h; omega)
      simp only [List.length_cons]; omega
theorem small_l0 (u : Nat) : ∀ (acc : List Int), u < 4294967296 → acc.length + (lsd u).length ≤ 100 → Ev (fun k => Pr.vidimusref01_Small.l0 k (u : Int) acc) (acc ++ lsd u) := by
  induction u using Nat.strongRecOn with
  | _ u ih =>
    intro acc hu hl
    by_cases h0 : u = 0
    · subst h0
      refine Ev.step (f := fun _ => some (acc ++ lsd 0)) (fun k => ?_) (Ev.now _)
      rw [Pr.vidimusref01_Small.l0, if_neg (by simp), lsd, dif_pos rfl, List.append_nil]
    · have e : lsd u = ((u % 10 : Nat) : Int) :: lsd (u / 10) := by rw [lsd, dif_neg h0]
      rw [e] at hl ⊢
      simp only [List.length_cons] at hl
      have := ih (u / 10) (by omega) (acc ++ [((u % 10 : Nat) : Int)]) (by omega) (by simp; omega)
      rw [List.append_assoc, List.singleton_append] at this
      refine Ev.step (fun k => ?_) this
      have t1 : Int.tdiv (u : Int) 10 = ((u / 10 : Nat) : Int) := by rw [Int.tdiv_eq_ediv_of_nonneg (by omega)]; omega
      have t2 : Int.tmod (u : Int) 10 = ((u % 10 : Nat) : Int) := by rw [Int.tmod_eq_emod_of_nonneg (by omega)]; omega
      rw [Pr.vidimusref01_Small.l0, if_pos (by omega), if_pos (by omega), t1, t2, show wrap64 ((u / 10 : Nat) : Int) = ((u / 10 : Nat) : Int) by unfold wrap64; omega]
theorem piece : ∀ d : Nat, d < 10 → ((⟨#[48, 49, 50, 51, 52, 53, 54, 55, 56, 57]⟩ : ByteArray).extract d (d + 1)) = ⟨#[chr d]⟩ := by
  intro d hd
  match d, hd with
  | 0, _ => rfl
  | 1, _ => rfl
  | 2, _ => rfl
  | 3, _ => rfl
  | 4, _ => rfl
  | 5, _ => rfl
  | 6, _ => rfl
  | 7, _ => rfl
  | 8, _ => rfl
  | 9, _ => rfl
theorem text_l0 (L : List Int) (hd : ∀ d ∈ L, 0 ≤ d ∧ d < 10) (hL : L.length ≤ 100) : ∀ (n : Nat) (acc : List UInt8), n ≤ L.length → acc.length + n ≤ 100 →
    Ev (fun k => Pr.vidimusref01_D_Text.l0 k L ⟨acc.toArray⟩ ((n : Int) - 1)) (⟨(acc ++ (L.take n).reverse.map chr).toArray⟩ : ByteArray)
  | 0, acc, _, _ => by
    refine Ev.step (f := fun _ => some (⟨(acc ++ (L.take 0).reverse.map chr).toArray⟩ : ByteArray)) (fun k => ?_) (Ev.now _)
    rw [Pr.vidimusref01_D_Text.l0, if_neg (by omega)]
    simp
  | n + 1, acc, hn, ha => by
    have hx := hd L[n] (List.getElem_mem (by omega))
    obtain ⟨x, hxe⟩ : ∃ x : Nat, L[n] = (x : Int) := ⟨L[n].toNat, by omega⟩
    have hrd : rd L (((n + 1 : Nat) : Int) - 1) = (x : Int) := by
      unfold rd
      rw [show (((n + 1 : Nat) : Int) - 1).toNat = n by omega, List.getD_eq_getElem?_getD, List.getElem?_eq_getElem (by omega), Option.getD_some, hxe]
    have ih := text_l0 L hd hL n (acc ++ [chr x]) (by omega) (by simp; omega)
    have e : acc ++ (L.take (n + 1)).reverse.map chr = (acc ++ [chr x]) ++ (L.take n).reverse.map chr := by
      rw [List.take_add_one, List.getElem?_eq_getElem (by omega)]
      simp [hxe]
    rw [e]
    refine Ev.step (fun k => ?_) ih
    have w1 : wrap64 ((x : Int) + 1) = ((x + 1 : Nat) : Int) := by unfold wrap64; omega
    have w2 : wrap64 (((n + 1 : Nat) : Int) - 1 - 1) = (n : Int) - 1 := by unfold wrap64; omega
    have hp := piece x (by omega)
    rw [Pr.vidimusref01_D_Text.l0, if_pos (by omega), if_pos (by omega), if_pos (by omega), hrd, if_pos (by omega), w1, if_pos (by omega), if_pos (by omega), w2, Int.toNat_natCast, Int.toNat_natCast, hp]
    rw [if_pos (by
      show acc.toArray.size + 1 ≤ _
      simp; omega)]
    have e2 : (⟨acc.toArray⟩ : ByteArray) ++ ⟨#[chr x]⟩ = ⟨(acc ++ [chr x]).toArray⟩ := by
      apply ByteArray.ext
      rw [ByteArray.data_append]
      simp
    rw [e2]
theorem small_f (u : Nat) (hu : u < 4294967296) : Ev (fun k => Pr.vidimusref01_Small.f k (u : Int)) (lsd u) := by
  have hl := lsd_len 10 u (by omega)
  exact small_l0 u [] hu (by simp; omega)
theorem dtext_f (u : Nat) (hu : u < 4294967296) : Ev (fun k => Pr.vidimusref01_D_Text.f k (lsd u)) (⟨(Lib.decDigits u).toArray⟩ : ByteArray) := by
  have hl := lsd_len 10 u (by omega)
  by_cases h0 : u = 0
  · subst h0
    have e : lsd 0 = [] := by rw [lsd, dif_pos rfl]
    rw [e]
    exact ⟨0, fun k _ => by rw [dd_one (by omega)]; rfl⟩
  · have hne : (lsd u).length ≠ 0 := by rw [lsd, dif_neg h0]; simp
    have := text_l0 (lsd u) (lsd_dig u) (by omega) (lsd u).length [] (Nat.le_refl _) (by simp; omega)
    rw [List.take_length, List.nil_append, lsd_dd u h0] at this
    refine Ev.congr (fun k => ?_) this
    unfold Pr.vidimusref01_D_Text.f
    rw [if_neg (by omega), show wrap64 (((lsd u).length : Int) - 1) = ((lsd u).length : Int) - 1 by unfold wrap64; omega]
theorem app (a b : List UInt8) : (⟨a.toArray⟩ : ByteArray) ++ ⟨b.toArray⟩ = ⟨(a ++ b).toArray⟩ := by
  apply ByteArray.ext
  rw [ByteArray.data_append]
  simp
theorem itoa_nat (nu : Int) (h : 0 ≤ nu) : Lib.itoa nu = Lib.decDigits nu.toNat := by unfold Lib.itoa; rw [if_neg (by omega)]
theorem cname_rd (cl : Int) (h0 : 0 ≤ cl) (h1 : cl ≤ 3) : rdOf ByteArray.empty [(⟨#[117, 110, 105, 118, 101, 114, 115, 97, 108]⟩ : ByteArray), ⟨#[97, 112, 112, 108, 105, 99, 97, 116, 105, 111, 110]⟩, ⟨#[99, 111, 110, 116, 101, 120, 116]⟩, ⟨#[112, 114, 105, 118, 97, 116, 101]⟩] cl = ⟨(cname cl).toArray⟩ := by
  obtain rfl | rfl | rfl | rfl : cl = 0 ∨ cl = 1 ∨ cl = 2 ∨ cl = 3 := by omega
  all_goals rfl
theorem cname_le (cl : Int) : (cname cl).length ≤ 11 := by
  unfold cname
  repeat' split
  all_goals decide
theorem rtext_ev (cl : Int) (co : Bool) (nu : Int) (h0 : 0 ≤ cl) (h1 : cl ≤ 3) (n0 : 0 ≤ nu) (n1 : nu < 4294967296) : Ev (fun k => Pr.vidimusref02_Text.f k cl co nu) (⟨(txt cl co nu).toArray⟩ : ByteArray) := by
  obtain ⟨u, rfl⟩ : ∃ u : Nat, nu = (u : Int) := ⟨nu.toNat, by omega⟩
  obtain ⟨K1, hs⟩ := small_f u (by omega)
  obtain ⟨K2, ht⟩ := dtext_f u (by omega)
  have hdl := dd_len 10 u (by omega)
  have hcl := cname_le cl
  have w1 : wrap64 cl = cl := by unfold wrap64; omega
  have w2 : wrap64 (u : Int) = (u : Int) := by unfold wrap64; omega
  refine ⟨K1 + K2, fun k hk => ?_⟩
  have hs := hs k (by omega)
  have ht := ht k (by omega)
  simp only at hs ht
  show Pr.vidimusref02_Text.f k cl co u = _
  unfold Pr.vidimusref02_Text.f
  rw [Option.bind_some, w1, if_pos h0, if_pos (by simp; omega), cname_rd cl h0 h1, w2]
  have z1 : (⟨(cname cl).toArray⟩ : ByteArray).size = (cname cl).length := by show (cname cl).toArray.size = _; simp
  have z2 : (⟨(Lib.decDigits u).toArray⟩ : ByteArray).size = (Lib.decDigits u).length := by show (Lib.decDigits u).toArray.size = _; simp
  have z3 : (⟨#[32]⟩ : ByteArray).size = 1 := rfl
  rw [if_pos (by omega), hs, Option.bind_some, ht, Option.bind_some, if_pos (by rw [ByteArray.size_append]; omega)]
  have e1 : ((⟨(cname cl).toArray⟩ : ByteArray) ++ ⟨#[32]⟩) ++ ⟨(Lib.decDigits u).toArray⟩ = ⟨(cname cl ++ [32] ++ Lib.decDigits u).toArray⟩ := by
    rw [show (⟨#[32]⟩ : ByteArray) = ⟨[32].toArray⟩ from rfl, app, app]
  unfold txt
  rw [itoa_nat _ (by omega), Int.toNat_natCast]
  cases co
  · rw [if_neg (by decide), e1]; simp
  · rw [if_pos rfl, if_pos (by rw [ByteArray.size_append, ByteArray.size_append]; omega), e1, show (⟨#[32, 99, 111, 110, 115, 116, 114, 117, 99, 116, 101, 100]⟩ : ByteArray) = ⟨sfx.toArray⟩ from rfl, app]; simp
end Go.Proofs.YtpdomckacfeffaaDoor
