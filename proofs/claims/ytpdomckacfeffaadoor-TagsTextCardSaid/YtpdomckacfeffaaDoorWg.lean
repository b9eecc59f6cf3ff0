/- Chapter 2 (tags): what Get returns, in plain data. -/
import Derived.Test.YtpdomckacfeffaaDoorWf
import Derived.Laws.BitsLemmas
namespace Go.Proofs.YtpdomckacfeffaaDoor
open Go.RowKit Go.Shelf
open Go.Proofs.YtpdomckacfeffaaDoorW.PrintWords (rd)

theorem u32_or7 {x y : Int} (hx₀ : 0 ≤ x) (hx : x % 128 = 0) (hx₁ : x < 4294967296) (h₀ : 0 ≤ y) (h₁ : y < 128) : bits .or .u32 x y = x + y :=
  bits_join .u32 32 (by decide) (fun n h0 h1 => by rw [IntKind.wrap_u32]; omega) 7 x y hx₀ hx (by omega) h₀ (by omega) (by omega)
def fin (n s : Int) : Int × Int × Int := if n < 31 then (0, 0, 9) else (n, s, 0)
/-- The number in the octets after the first one, the number of all octets, and 0 or the error. -/
def numR : List Int → Int × Int × Int
  | [] => (0, 0, 7)
  | [x] => if x = 128 then (0, 0, 9) else if x < 128 then fin x 2 else (0, 0, 7)
  | [x, y] => if x = 128 then (0, 0, 9) else if x < 128 then fin x 2 else if y < 128 then fin ((x - 128) * 128 + y) 3 else (0, 0, 7)
  | [x, y, z] => if x = 128 then (0, 0, 9) else if x < 128 then fin x 2 else if y < 128 then fin ((x - 128) * 128 + y) 3 else if z < 128 then fin (((x - 128) * 128 + (y - 128)) * 128 + z) 4 else (0, 0, 7)
  | x :: y :: z :: u :: _ => if x = 128 then (0, 0, 9) else if x < 128 then fin x 2 else if y < 128 then fin ((x - 128) * 128 + y) 3 else if z < 128 then fin (((x - 128) * 128 + (y - 128)) * 128 + z) 4
      else if 128 ≤ u then (0, 0, 9) else fin ((((x - 128) * 128 + (y - 128)) * 128 + (z - 128)) * 128 + u) 5
def Byt (l : List Int) : Prop := ∀ x ∈ l, 0 ≤ x ∧ x < 256

theorem j1_err (k : Nat) (l : List Int) (n s x : Int) : Pr.tags_number.j1 (k + 1) l n s x true = some (0, 0, 9) := by
  simp only [Pr.tags_number.j1, if_true]
theorem j1_step (k : Nat) (l : List Int) (n s x : Int) (hn : 0 ≤ n) (hn1 : n < 2097152) (hx : 0 ≤ x) (hx1 : x < 256) (hs : 0 ≤ s) (hs1 : s < 100) :
    Pr.tags_number.j1 (k + 1) l n s x false = if x < 128 then some (fin (n * 128 + x) (s + 1)) else Pr.tags_number.l0 k l (n * 128 + (x - 128)) (s + 1) := by
  simp only [Pr.tags_number.j1, Bool.false_eq_true, if_false]
  rw [and127 x hx hx1, u32_or7 (by omega) (by omega) (by omega) (by omega) (by omega)]
  rw [show wrap64 (s + 1) = s + 1 by unfold wrap64; omega]
  rw [show n * 128 % 4294967296 + x % 128 % 4294967296 = n * 128 + x % 128 by omega]
  by_cases h : x < 128
  · rw [if_pos h, if_pos h, show n * 128 + x % 128 = n * 128 + x by omega]
    unfold fin
    split <;> rfl
  · rw [if_neg h, if_neg h, show n * 128 + x % 128 = n * 128 + (x - 128) by omega]
theorem l0_end (k : Nat) (l : List Int) (n : Int) : Pr.tags_number.l0 (k + 1) l n (l.length : Int) = some (0, 0, 7) := by
  simp only [Pr.tags_number.l0, if_true]
theorem l0_one (k : Nat) (l : List Int) (h : 1 < l.length) : Pr.tags_number.l0 (k + 1) l 0 1 = Pr.tags_number.j1 k l 0 1 (rd l 1) (decide (rd l 1 = 128)) := by
  simp only [Pr.tags_number.l0]
  rw [if_neg (by omega), if_pos (by omega), if_pos (by omega), if_pos trivial]
  by_cases hx : rd l 1 = 128
  · rw [if_pos hx, decide_eq_true hx]
  · rw [if_neg hx, if_neg (by omega), decide_eq_false hx]
theorem l0_mid (k : Nat) (l : List Int) (n s : Int) (h : s < l.length) (hs : s = 2 ∨ s = 3) : Pr.tags_number.l0 (k + 1) l n s = Pr.tags_number.j1 k l n s (rd l s) false := by
  simp only [Pr.tags_number.l0]
  rw [if_neg (by omega), if_pos (by omega), if_pos (by omega), if_neg (by omega), if_neg (by omega)]
theorem l0_four (k : Nat) (l : List Int) (n : Int) (h : 4 < l.length) : Pr.tags_number.l0 (k + 1) l n 4 = Pr.tags_number.j1 k l n 4 (rd l 4) (decide (128 ≤ rd l 4)) := by
  simp only [Pr.tags_number.l0]
  rw [if_neg (by omega), if_pos (by omega), if_pos (by omega), if_neg (by omega), if_pos trivial]
theorem number_f (b0 : Int) (r : List Int) (hb : Byt r) : Pr.tags_number.f 12 (b0 :: r) = some (numR r) := by
  unfold Pr.tags_number.f
  match r, hb with
  | [], _ => exact l0_end 11 [b0] 0
  | x :: r, hb =>
    have hx := hb x (by simp)
    rw [l0_one 11 (b0 :: x :: r) (by simp)]
    show Pr.tags_number.j1 11 _ 0 1 x (decide (x = 128)) = _
    by_cases e : x = 128
    · rw [decide_eq_true e, j1_err]
      match r with
      | [] => simp only [numR]; rw [if_pos e]
      | [y] => simp only [numR]; rw [if_pos e]
      | [y, z] => simp only [numR]; rw [if_pos e]
      | y :: z :: u :: r => simp only [numR]; rw [if_pos e]
    · rw [decide_eq_false e, j1_step 10 _ 0 1 x (by omega) (by omega) hx.1 hx.2 (by omega) (by omega)]
      by_cases h1 : x < 128
      · rw [if_pos h1]
        match r with
        | [] => simp only [numR]; rw [if_neg e, if_pos h1]; simp
        | [y] => simp only [numR]; rw [if_neg e, if_pos h1]; simp
        | [y, z] => simp only [numR]; rw [if_neg e, if_pos h1]; simp
        | y :: z :: u :: r => simp only [numR]; rw [if_neg e, if_pos h1]; simp
      · rw [if_neg h1, show (0 : Int) * 128 + (x - 128) = x - 128 by omega, show (1 : Int) + 1 = 2 by omega]
        match r, hb with
        | [], _ => simp only [numR]; rw [if_neg e, if_neg h1]; exact l0_end 9 [b0, x] _
        | y :: r, hb =>
          have hy := hb y (by simp)
          rw [l0_mid 9 _ _ 2 (by simp; omega) (.inl rfl)]
          show Pr.tags_number.j1 9 _ (x - 128) 2 y false = _
          rw [j1_step 8 _ (x - 128) 2 y (by omega) (by omega) hy.1 hy.2 (by omega) (by omega)]
          by_cases h2 : y < 128
          · rw [if_pos h2]
            match r with
            | [] => simp only [numR]; rw [if_neg e, if_neg h1, if_pos h2]; rfl
            | [z] => simp only [numR]; rw [if_neg e, if_neg h1, if_pos h2]; rfl
            | z :: u :: r => simp only [numR]; rw [if_neg e, if_neg h1, if_pos h2]; rfl
          · rw [if_neg h2, show (2 : Int) + 1 = 3 by omega]
            match r, hb with
            | [], _ => simp only [numR]; rw [if_neg e, if_neg h1, if_neg h2]; exact l0_end 7 [b0, x, y] _
            | z :: r, hb =>
              have hz := hb z (by simp)
              rw [l0_mid 7 _ _ 3 (by simp; omega) (.inr rfl)]
              show Pr.tags_number.j1 7 _ _ 3 z false = _
              rw [j1_step 6 _ _ 3 z (by omega) (by omega) hz.1 hz.2 (by omega) (by omega)]
              by_cases h3 : z < 128
              · rw [if_pos h3]
                match r with
                | [] => simp only [numR]; rw [if_neg e, if_neg h1, if_neg h2, if_pos h3]; rfl
                | u :: r => simp only [numR]; rw [if_neg e, if_neg h1, if_neg h2, if_pos h3]; rfl
              · rw [if_neg h3, show (3 : Int) + 1 = 4 by omega]
                match r, hb with
                | [], _ => simp only [numR]; rw [if_neg e, if_neg h1, if_neg h2, if_neg h3]; exact l0_end 5 [b0, x, y, z] _
                | u :: r, hb =>
                  have hu := hb u (by simp)
                  rw [l0_four 5 _ _ (by simp)]
                  show Pr.tags_number.j1 5 _ _ 4 u (decide (128 ≤ u)) = _
                  simp only [numR]
                  rw [if_neg e, if_neg h1, if_neg h2, if_neg h3]
                  by_cases h4 : 128 ≤ u
                  · rw [decide_eq_true h4, j1_err, if_pos h4]
                  · rw [decide_eq_false h4, j1_step 4 _ _ 4 u (by omega) (by omega) hu.1 hu.2 (by omega) (by omega), if_pos (by omega), if_neg h4]; rfl
theorem and32n : ∀ v : Fin 256, (bits .and .u8 ((v.val : Nat) : Int) 32 != 0) = (((v.val : Nat) : Int) / 32 % 2 == 1) := by decide +kernel
theorem and32 (v : Int) (h0 : 0 ≤ v) (h1 : v < 256) : (bits .and .u8 v 32 != 0) = (v / 32 % 2 == 1) := by
  have := and32n ⟨v.toNat, by omega⟩
  simp only at this
  rwa [show ((v.toNat : Nat) : Int) = v by omega] at this
/-- What Get returns: a tag, the number of its octets, and 0 or the error. -/
def hd (b : Int) (r : List Int) : Int × Int × Int := if b % 32 = 31 then numR r else (b % 32, 1, 0)
def getS : List Int → Int × Bool × Int × Int × Int
  | [] => (0, false, 0, 0, 7)
  | b :: r => if (hd b r).2.2 = 0 then (if chk (b / 64) (b / 32 % 2 == 1) (hd b r).1 = 0 then (b / 64, (b / 32 % 2 == 1), (hd b r).1, (hd b r).2.1, 0) else (0, false, 0, 0, chk (b / 64) (b / 32 % 2 == 1) (hd b r).1)) else (0, false, 0, 0, (hd b r).2.2)
theorem check_more (k : Nat) (cl : Int) (co : Bool) (nu : Int) : Pr.tags_Check.f (k + 4) cl co nu = some (chk cl co nu) := by
  induction k with
  | zero => exact check_f cl co nu
  | succ k ih => exact Pr.tags_Check.mono _ _ _ (k + 4) _ ih
theorem get_j0 (s e cl nu : Int) (co : Bool) : Pr.tags_Get.j0 12 s e cl co nu = some (if e = 0 then (if chk cl co nu = 0 then (cl, co, nu, s, 0) else (0, false, 0, 0, chk cl co nu)) else (0, false, 0, 0, e)) := by
  simp only [Pr.tags_Get.j0]
  by_cases he : e = 0
  · rw [if_pos he, if_pos he, check_more 7]
    simp only [Option.bind_some]
    by_cases hc : chk cl co nu = 0
    · rw [if_pos hc, if_pos hc]
    · rw [if_neg hc, if_neg hc]
  · rw [if_neg he, if_neg he]
theorem get_f (l : List Int) (hb : Byt l) : Pr.tags_Get.f 12 l = some (getS l) := by
  match l, hb with
  | [], _ => rfl
  | b :: r, hb =>
    have h0 := hb b (by simp)
    have hr : Byt r := fun x hx => hb x (List.mem_cons_of_mem _ hx)
    unfold Pr.tags_Get.f
    rw [if_neg (by simp; omega), if_pos (by simp)]
    rw [show rd (b :: r) 0 = b from rfl, u8_and31 b h0.1 h0.2, and32 b h0.1 h0.2, show b % 32 % 4294967296 = b % 32 by omega]
    simp only [getS]
    by_cases h : b % 32 = 31
    · have hh : hd b r = numR r := by unfold hd; rw [if_pos h]
      rw [if_pos h, hh, number_f b r hr]
      simp only [Option.bind_some]
      exact get_j0 _ _ _ _ _
    · have hh : hd b r = (b % 32, 1, 0) := by unfold hd; rw [if_neg h]
      rw [if_neg h, hh]
      exact get_j0 _ _ _ _ _
/-- Bytes behind a slice, as the printed contracts read them. -/
theorem read_of {w : World} {g : Nat} {l : List Int} (hl : l.length ≤ 1000000) (h : Octs w g l) : Go.Proofs.YtpdomckacfeffaaDoorW.PrintWords.Kd.C (Go.Proofs.YtpdomckacfeffaaDoorW.PrintWords.Kd.int .u8) w (some ⟨g, 0, none⟩) l.length l := by
  refine Go.Proofs.YtpdomckacfeffaaDoorW.PrintWords.Kd.C_of_reads (d := (0 : Int)) ⟨rfl, by omega, fun hn => ⟨⟨g, 0, none⟩, rfl, fun j hj => ?_⟩⟩
  rw [Lib.add_plain, Nat.zero_add]
  exact h j hj
end Go.Proofs.YtpdomckacfeffaaDoor
