/- Chapter 2 (tags): the reference's Get is getS; what Get takes is what Put writes. -/
import Derived.Test.YtpdomckacfeffaaDoorRg
import Derived.Test.YtpdomckacfeffaaDoorLe
import Derived.Test.YtpdomckacfeffaaDoorLg
namespace Go.Proofs.YtpdomckacfeffaaDoor
open Go.RowKit Go.Shelf
open Go.Proofs.YtpdomckacfeffaaDoorW.PrintWords (rd at_rounds)
set_option linter.unusedSimpArgs false
set_option linter.unusedVariables false

/-- What follows the number. -/
def res (cl : Int) (co : Bool) (p : Int × Int × Int) : Int × Bool × Int × Int × Int :=
  if p.2.2 = 0 then (if chk cl co p.1 = 0 then (cl, co, p.1, p.2.1, 0) else (0, false, 0, 0, chk cl co p.1)) else (0, false, 0, 0, p.2.2)
theorem rchk_at (k : Nat) (hk : 4 ≤ k) (cl : Int) (co : Bool) (nu : Int) : Pr.vidimusref02_Check.f k cl co nu = some (chk cl co nu) :=
  at_rounds (Pr.vidimusref02_Check.mono cl co nu) hk (rcheck_f cl co nu)
theorem g_j1_err (k : Nat) (l : List Int) (s n cl nu : Int) (co : Bool) : Pr.vidimusref02_Get.j1 (k + 1) l s n true cl co nu = some (0, false, 0, 0, 9) := by
  rw [Pr.vidimusref02_Get.j1, if_pos rfl]
theorem g_j1 (k : Nat) (hk : 4 ≤ k) (l : List Int) (s n cl nu : Int) (co : Bool) (x : Int) (hx : rd l s = x) (hs : 0 ≤ s) (hl : s < (l.length : Int)) (hl2 : s < 100) (h0 : 0 ≤ x) (h1 : x < 256) (hn : 0 ≤ n) (hn1 : n < 2097152) :
    Pr.vidimusref02_Get.j1 (k + 1) l s n false cl co nu = if x < 128 then some (res cl co (fin (n * 128 + x) (s + 1))) else Pr.vidimusref02_Get.l0 k l (s + 1) (n * 128 + (x - 128)) cl co nu := by
  have w1 : wrap64 (s + 1) = s + 1 := by unfold wrap64; omega
  have w2 : wrap64 (s + 1 - 1) = s := by unfold wrap64; omega
  have w3 : wrap64 (128 * n) = 128 * n := by unfold wrap64; omega
  have t : Int.tmod x 128 = x % 128 := Int.tmod_eq_emod_of_nonneg h0
  have w4 : wrap64 (x % 128) = x % 128 := by unfold wrap64; omega
  have w5 : wrap64 (128 * n + x % 128) = 128 * n + x % 128 := by unfold wrap64; omega
  rw [Pr.vidimusref02_Get.j1, if_neg (by simp), if_pos hs, if_pos hl, w1, w2, if_pos hs, if_pos hl, hx, w3, t, w4, w5]
  by_cases h : x < 128
  · rw [if_pos h, if_pos h, show 128 * n + x % 128 = n * 128 + x by omega]
    unfold fin res
    by_cases h31 : n * 128 + x < 31
    · rw [if_pos h31, if_pos h31, if_neg (by decide)]
    · rw [if_neg h31, if_neg h31, if_pos rfl, rchk_at k hk, Option.bind_some, Int.emod_eq_of_lt (by omega) (by omega)]
      by_cases hc : chk cl co (n * 128 + x) = 0
      · rw [if_pos hc, if_pos hc]
      · rw [if_neg hc, if_neg hc]
  · rw [if_neg h, if_neg h, show 128 * n + x % 128 = n * 128 + (x - 128) by omega]
theorem g_end (k : Nat) (l : List Int) (s n cl nu : Int) (co : Bool) (h : s = (l.length : Int)) : Pr.vidimusref02_Get.l0 (k + 1) l s n cl co nu = some (0, false, 0, 0, 7) := by
  rw [Pr.vidimusref02_Get.l0, if_pos h]
theorem g_one (k : Nat) (l : List Int) (n cl nu : Int) (co : Bool) (h : 1 < (l.length : Int)) : Pr.vidimusref02_Get.l0 (k + 1) l 1 n cl co nu = Pr.vidimusref02_Get.j1 k l 1 n (decide (rd l 1 = 128)) cl co nu := by
  rw [Pr.vidimusref02_Get.l0, if_neg (by omega), if_pos rfl, if_pos h]
  by_cases e : rd l 1 = 128
  · rw [if_pos e, decide_eq_true e]
  · rw [if_neg e, if_neg (by omega), decide_eq_false e]
theorem g_mid (k : Nat) (l : List Int) (s n cl nu : Int) (co : Bool) (h : s < (l.length : Int)) (hs : s = 2 ∨ s = 3) : Pr.vidimusref02_Get.l0 (k + 1) l s n cl co nu = Pr.vidimusref02_Get.j1 k l s n false cl co nu := by
  rw [Pr.vidimusref02_Get.l0, if_neg (by omega), if_neg (by omega), if_neg (by omega)]
theorem g_four (k : Nat) (l : List Int) (n cl nu : Int) (co : Bool) (h : 4 < (l.length : Int)) : Pr.vidimusref02_Get.l0 (k + 1) l 4 n cl co nu = Pr.vidimusref02_Get.j1 k l 4 n (decide (rd l 4 > 127)) cl co nu := by
  rw [Pr.vidimusref02_Get.l0, if_neg (by omega), if_neg (by omega), if_pos rfl, if_pos h]
theorem g_num (b : Int) (r : List Int) (hr : Byt r) (cl nu : Int) (co : Bool) : Pr.vidimusref02_Get.l0 20 (b :: r) 1 0 cl co nu = some (res cl co (numR r)) := by
  match r, hr with
  | [], _ => rw [g_end 19 [b] 1 _ _ _ _ (by simp)]; rfl
  | x :: r, hr =>
    have hx := hr x (by simp)
    have hr' : Byt r := fun y hy => hr y (by simp [hy])
    rw [g_one 19 _ _ _ _ _ (by simp; omega), show rd (b :: x :: r) 1 = x from rfl]
    by_cases e : x = 128
    · subst e
      rw [decide_eq_true rfl, g_j1_err]
      match r with
      | [] => rfl
      | [y] => rfl
      | [y, z] => rfl
      | y :: z :: u :: r => rfl
    rw [decide_eq_false e, g_j1 18 (by omega) _ 1 0 cl nu co x rfl (by omega) (by simp; omega) (by omega) hx.1 hx.2 (by omega) (by omega)]
    by_cases h : x < 128
    · rw [if_pos h, show (0 * 128 + x : Int) = x by omega, show (1 + 1 : Int) = 2 by omega]
      match r with
      | [] => simp only [numR]; rw [if_neg e, if_pos h]
      | [y] => simp only [numR]; rw [if_neg e, if_pos h]
      | [y, z] => simp only [numR]; rw [if_neg e, if_pos h]
      | y :: z :: u :: r => simp only [numR]; rw [if_neg e, if_pos h]
    rw [if_neg h, show (0 * 128 + (x - 128) : Int) = x - 128 by omega, show (1 + 1 : Int) = 2 by omega]
    match r, hr' with
    | [], _ => rw [g_end 17 [b, x] 2 _ _ _ _ (by simp)]; simp only [numR]; rw [if_neg e, if_neg h]; rfl
    | y :: r, hr' =>
      have hy := hr' y (by simp)
      have hr2 : Byt r := fun v hv => hr' v (by simp [hv])
      rw [g_mid 17 _ 2 _ _ _ _ (by simp; omega) (by omega), g_j1 16 (by omega) _ 2 (x - 128) cl nu co y rfl (by omega) (by simp; omega) (by omega) hy.1 hy.2 (by omega) (by omega)]
      by_cases h2 : y < 128
      · rw [if_pos h2, show (2 + 1 : Int) = 3 by omega]
        match r with
        | [] => simp only [numR]; rw [if_neg e, if_neg h, if_pos h2]
        | [z] => simp only [numR]; rw [if_neg e, if_neg h, if_pos h2]
        | z :: u :: r => simp only [numR]; rw [if_neg e, if_neg h, if_pos h2]
      rw [if_neg h2, show (2 + 1 : Int) = 3 by omega]
      match r, hr2 with
      | [], _ => rw [g_end 15 [b, x, y] 3 _ _ _ _ (by simp)]; simp only [numR]; rw [if_neg e, if_neg h, if_neg h2]; rfl
      | z :: r, hr2 =>
        have hz := hr2 z (by simp)
        have hr3 : Byt r := fun v hv => hr2 v (by simp [hv])
        rw [g_mid 15 _ 3 _ _ _ _ (by simp; omega) (by omega), g_j1 14 (by omega) _ 3 _ cl nu co z rfl (by omega) (by simp; omega) (by omega) hz.1 hz.2 (by omega) (by omega)]
        by_cases h3 : z < 128
        · rw [if_pos h3, show (3 + 1 : Int) = 4 by omega]
          match r with
          | [] => simp only [numR]; rw [if_neg e, if_neg h, if_neg h2, if_pos h3]
          | u :: r => simp only [numR]; rw [if_neg e, if_neg h, if_neg h2, if_pos h3]
        rw [if_neg h3, show (3 + 1 : Int) = 4 by omega]
        match r, hr3 with
        | [], _ => rw [g_end 13 [b, x, y, z] 4 _ _ _ _ (by simp)]; simp only [numR]; rw [if_neg e, if_neg h, if_neg h2, if_neg h3]; rfl
        | u :: r, hr3 =>
          have hu := hr3 u (by simp)
          rw [g_four 13 _ _ _ _ _ (by simp; omega), show rd (b :: x :: y :: z :: u :: r) 4 = u from rfl]
          simp only [numR]
          rw [if_neg e, if_neg h, if_neg h2, if_neg h3]
          by_cases h4 : 128 ≤ u
          · rw [decide_eq_true (by omega), g_j1_err, if_pos h4]; rfl
          · rw [decide_eq_false (by omega), g_j1 12 (by omega) _ 4 _ cl nu co u rfl (by omega) (by simp; omega) (by omega) hu.1 hu.2 (by omega) (by omega), if_pos (by omega), if_neg h4, show (4 + 1 : Int) = 5 by omega]
theorem rget_f (l : List Int) (hb : Byt l) : Pr.vidimusref02_Get.f 20 l = some (getS l) := by
  match l, hb with
  | [], _ => rfl
  | b :: r, hb =>
    have h0 := hb b (by simp)
    have hr : Byt r := fun x hx => hb x (List.mem_cons_of_mem _ hx)
    have t1 : Int.tmod b 32 = b % 32 := Int.tmod_eq_emod_of_nonneg h0.1
    have t2 : Int.tdiv b 64 = b / 64 := Int.tdiv_eq_ediv_of_nonneg h0.1
    have t3 : Int.tdiv b 32 = b / 32 := Int.tdiv_eq_ediv_of_nonneg h0.1
    unfold Pr.vidimusref02_Get.f
    rw [if_neg (by simp; omega), if_pos (by simp), show rd (b :: r) 0 = b from rfl, t1, t2, t3, show b % 32 % 4294967296 = b % 32 by omega, show b / 64 % 256 = b / 64 by omega]
    have hg : getS (b :: r) = res (b / 64) (b / 32 % 2 == 1) (hd b r) := rfl
    rw [hg]
    by_cases h : b % 32 = 31
    · rw [if_pos h, g_num b r hr]
      unfold hd
      rw [if_pos h]
    · rw [if_neg h, rchk_at 20 (by omega), Option.bind_some]
      unfold hd res
      rw [if_neg h]
      simp only [if_true]
      by_cases hc : chk (b / 64) (b / 32 % 2 == 1) (b % 32) = 0
      · rw [if_pos hc, if_pos hc]
      · rw [if_neg hc, if_neg hc]
/-- What a number's octets are, if it is read. -/
theorem numR_ok : ∀ (r : List Int), Byt r → ∀ n s, numR r = (n, s, 0) → 31 ≤ n ∧ n < 268435456 ∧ s = 1 + ((gl n).length : Int) ∧ gl n = r.take (gl n).length := by
  have fin0 : ∀ {m t n s : Int}, fin m t = (n, s, 0) → 31 ≤ m ∧ n = m ∧ s = t := fun {m t n s} h => by
    unfold fin at h
    split at h
    · injection h with _ h; injection h with _ h; cases h
    · injection h with h1 h; injection h with h2 _; omega
  have g1 : ∀ x : Int, x < 128 → gl x = [x] := fun x h => by unfold gl; rw [if_pos h]
  have g2 : ∀ n : Int, 128 ≤ n → n < 16384 → gl n = [128 + n / 128, n % 128] := fun n h h2 => by unfold gl; rw [if_neg (by omega), if_pos h2]
  have g3 : ∀ n : Int, 16384 ≤ n → n < 2097152 → gl n = [128 + n / 16384, 128 + n / 128 % 128, n % 128] := fun n h h2 => by unfold gl; rw [if_neg (by omega), if_neg (by omega), if_pos h2]
  have g4 : ∀ n : Int, 2097152 ≤ n → gl n = [128 + n / 2097152, 128 + n / 16384 % 128, 128 + n / 128 % 128, n % 128] := fun n h => by unfold gl; rw [if_neg (by omega), if_neg (by omega), if_neg (by omega)]
  have one : ∀ x : Int, ∀ r n s, 0 ≤ x → x < 128 → fin x 2 = (n, s, 0) → 31 ≤ n ∧ n < 268435456 ∧ s = 1 + ((gl n).length : Int) ∧ gl n = (x :: r).take (gl n).length := fun x r n s h0 h1 h => by
    obtain ⟨a, rfl, rfl⟩ := fin0 h
    rw [g1 _ h1]
    exact ⟨a, by omega, rfl, rfl⟩
  have two : ∀ x y : Int, ∀ r n s, ¬ x = 128 → 128 ≤ x → x < 256 → 0 ≤ y → y < 128 → fin ((x - 128) * 128 + y) 3 = (n, s, 0) → 31 ≤ n ∧ n < 268435456 ∧ s = 1 + ((gl n).length : Int) ∧ gl n = (x :: y :: r).take (gl n).length := fun x y r n s e h0 h1 y0 y1 h => by
    obtain ⟨a, rfl, rfl⟩ := fin0 h
    rw [g2 _ (by omega) (by omega), show 128 + ((x - 128) * 128 + y) / 128 = x by omega, show ((x - 128) * 128 + y) % 128 = y by omega]
    exact ⟨a, by omega, rfl, rfl⟩
  have three : ∀ x y z : Int, ∀ r n s, ¬ x = 128 → 128 ≤ x → x < 256 → 128 ≤ y → y < 256 → 0 ≤ z → z < 128 → fin (((x - 128) * 128 + (y - 128)) * 128 + z) 4 = (n, s, 0) → 31 ≤ n ∧ n < 268435456 ∧ s = 1 + ((gl n).length : Int) ∧ gl n = (x :: y :: z :: r).take (gl n).length := fun x y z r n s e h0 h1 y0 y1 z0 z1 h => by
    obtain ⟨a, rfl, rfl⟩ := fin0 h
    rw [g3 _ (by omega) (by omega), show 128 + (((x - 128) * 128 + (y - 128)) * 128 + z) / 16384 = x by omega, show 128 + (((x - 128) * 128 + (y - 128)) * 128 + z) / 128 % 128 = y by omega, show (((x - 128) * 128 + (y - 128)) * 128 + z) % 128 = z by omega]
    exact ⟨a, by omega, rfl, rfl⟩
  intro r hb n s h
  match r, hb with
  | [], _ => cases h
  | [x], hb =>
    have hx := hb x (by simp)
    simp only [numR] at h
    split at h
    · cases h
    split at h
    case isTrue hlt => exact one x [] n s hx.1 hlt h
    case isFalse => cases h
  | [x, y], hb =>
    have hx := hb x (by simp)
    have hy := hb y (by simp)
    simp only [numR] at h
    split at h
    · cases h
    rename_i e
    split at h
    case isTrue hlt => exact one x _ n s hx.1 hlt h
    rename_i hx2
    split at h
    case isTrue hlt => exact two x y [] n s e (by omega) hx.2 hy.1 hlt h
    case isFalse => cases h
  | [x, y, z], hb =>
    have hx := hb x (by simp)
    have hy := hb y (by simp)
    have hz := hb z (by simp)
    simp only [numR] at h
    split at h
    · cases h
    rename_i e
    split at h
    case isTrue hlt => exact one x _ n s hx.1 hlt h
    rename_i hx2
    split at h
    case isTrue hlt => exact two x y _ n s e (by omega) hx.2 hy.1 hlt h
    rename_i hy2
    split at h
    case isTrue hlt => exact three x y z [] n s e (by omega) hx.2 (by omega) hy.2 hz.1 hlt h
    case isFalse => cases h
  | x :: y :: z :: u :: r, hb =>
    have hx := hb x (by simp)
    have hy := hb y (by simp)
    have hz := hb z (by simp)
    have hu := hb u (by simp)
    simp only [numR] at h
    split at h
    · cases h
    rename_i e
    split at h
    case isTrue hlt => exact one x _ n s hx.1 hlt h
    rename_i hx2
    split at h
    case isTrue hlt => exact two x y _ n s e (by omega) hx.2 hy.1 hlt h
    rename_i hy2
    split at h
    case isTrue hlt => exact three x y z _ n s e (by omega) hx.2 (by omega) hy.2 hz.1 hlt h
    rename_i hz2
    split at h
    case isTrue => cases h
    rename_i hu2
    obtain ⟨a, rfl, rfl⟩ := fin0 h
    rw [g4 _ (by omega), show 128 + ((((x - 128) * 128 + (y - 128)) * 128 + (z - 128)) * 128 + u) / 2097152 = x by omega, show 128 + ((((x - 128) * 128 + (y - 128)) * 128 + (z - 128)) * 128 + u) / 16384 % 128 = y by omega, show 128 + ((((x - 128) * 128 + (y - 128)) * 128 + (z - 128)) * 128 + u) / 128 % 128 = z by omega, show ((((x - 128) * 128 + (y - 128)) * 128 + (z - 128)) * 128 + u) % 128 = u by omega]
    exact ⟨a, by omega, rfl, rfl⟩
/-- WHAT GET TAKES IS WHAT PUT WRITES. -/
theorem getS_ok (l : List Int) (hb : Byt l) (cl nu n : Int) (co : Bool) (h : getS l = (cl, co, nu, n, 0)) : 0 ≤ cl ∧ 0 ≤ nu ∧ chk cl co nu = 0 ∧ 0 ≤ n ∧ n ≤ (l.length : Int) ∧ enc cl co nu = l.take n.toNat := by
  match l, hb with
  | [], _ => cases h
  | b :: r, hb =>
    have h0 := hb b (by simp)
    have hr : Byt r := fun x hx => hb x (List.mem_cons_of_mem _ hx)
    simp only [getS] at h
    split at h
    case isFalse hf => injection h with _ h; injection h with _ h; injection h with _ h; injection h with _ h; exact absurd h hf
    case isTrue hf =>
    split at h
    case isFalse hc => injection h with _ h; injection h with _ h; injection h with _ h; injection h with _ h; exact absurd h hc
    case isTrue hc =>
    injection h with h1 h
    injection h with h2 h
    injection h with h3 h
    injection h with h4 _
    subst h1 h2 h3 h4
    have hform : ∀ d : Int, b % 32 = d → fst8 (b / 64) (b / 32 % 2 == 1) + d = b := fun d hd => by
      unfold fst8
      by_cases hp : b / 32 % 2 = 1
      · rw [show (b / 32 % 2 == 1) = true by simpa using hp]; simp; omega
      · rw [show (b / 32 % 2 == 1) = false by simpa using hp]; simp; omega
    by_cases h31 : b % 32 = 31
    · have e : hd b r = numR r := by unfold hd; rw [if_pos h31]
      rw [e] at hf hc ⊢
      obtain ⟨n', s', hns⟩ : ∃ n' s', numR r = (n', s', 0) := ⟨(numR r).1, (numR r).2.1, by rw [← hf]⟩
      obtain ⟨a1, a2, a3, a4⟩ := numR_ok r hr n' s' hns
      rw [hns] at hc ⊢
      simp only at hc ⊢
      have hlen : (gl n').length ≤ r.length := by
        have := congrArg List.length a4
        rw [List.length_take] at this
        omega
      refine ⟨by omega, by omega, hc, by omega, by simp; omega, ?_⟩
      unfold enc
      rw [if_neg (by omega), hform 31 h31, a3, show (1 + ((gl n').length : Int)).toNat = (gl n').length + 1 by omega, List.take_succ_cons, ← a4]
    · have e : hd b r = (b % 32, 1, 0) := by unfold hd; rw [if_neg h31]
      rw [e] at hc ⊢
      simp only at hc ⊢
      refine ⟨by omega, by omega, hc, by omega, by simp; omega, ?_⟩
      unfold enc
      rw [if_pos (by omega), hform _ rfl]
      rfl
end Go.Proofs.YtpdomckacfeffaaDoor
