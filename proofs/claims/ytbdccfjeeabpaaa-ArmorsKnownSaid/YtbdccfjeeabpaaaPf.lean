/- Chapter 22 (armors): the plain law: what Put writes, Get reads. -/
import Derived.Test.YtbdccfjeeabpaaaPe
import Derived.Test.YtbdccfjeeabpaaaNg
namespace Go.Proofs.Ytbdccfjeeabpaaa
open Go.RowKit Go.Shelf
set_option linter.unusedSimpArgs false
set_option linter.unusedVariables false
set_option maxRecDepth 50000
theorem byt_take' {l : List Int} (h : Byt l) (k : Nat) : Byt (l.take k) := fun x hx => h x (List.mem_of_mem_take hx)
theorem byt_drop' {l : List Int} (h : Byt l) (k : Nat) : Byt (l.drop k) := fun x hx => h x (List.mem_of_mem_drop hx)
/-- The lines of a certificate, 48 bytes by 48. -/
def linR (l : List Int) : List UInt8 := if h : l = [] then [] else encS (l.take 48) ++ 10 :: linR (l.drop 48)
termination_by l.length
decreasing_by
  have := List.length_pos_iff.2 h
  rw [List.length_drop]; omega
theorem linR_nil : linR [] = [] := by rw [linR, dif_pos rfl]
theorem linR_cons {l : List Int} (h : l ≠ []) : linR l = encS (l.take 48) ++ 10 :: linR (l.drop 48) := by rw [linR, dif_neg h]
theorem linR_append : ∀ (n : Nat) (x y : List Int), x.length = 48 * n → linR (x ++ y) = linR x ++ linR y
  | 0, x, y, h => by
    obtain rfl : x = [] := List.length_eq_zero_iff.1 (by omega)
    rw [linR_nil]; rfl
  | n + 1, x, y, h => by
    have hx : x ≠ [] := fun e => by subst e; simp at h
    have hxy : x ++ y ≠ [] := fun e => hx (List.append_eq_nil_iff.1 e).1
    rw [linR_cons hxy, linR_cons hx, List.take_append_of_le_length (by omega), List.drop_append_of_le_length (by omega), linR_append n (x.drop 48) y (by rw [List.length_drop]; omega)]
    simp
theorem linR_short (x : List Int) (h0 : x ≠ []) (h : x.length ≤ 48) : linR x = encS x ++ [10] := by
  rw [linR_cons h0, List.take_of_length_le h, List.drop_of_length_le h, linR_nil]
theorem linK_linR (l : List Int) : ∀ k, linK l (ups 48 l.length k) = linR (l.take (48 * k))
  | 0 => by show _ = linR (l.take 0); rw [List.take_zero, linR_nil]; rfl
  | k + 1 => by
    unfold ups
    by_cases h : 48 * k < l.length
    · rw [dif_pos h]
      have ih := linK_linR l k
      unfold linK at *
      rw [List.flatMap_append, ih]
      rw [show 48 * (k + 1) = 48 * k + 48 by omega, List.take_add, linR_append k _ _ (by rw [List.length_take]; omega)]
      rw [linR_short ((l.drop (48 * k)).take 48) (fun e => by have := congrArg List.length e; rw [List.length_take, List.length_drop] at this; simp at this; omega) (by rw [List.length_take]; omega)]
      simp [piece]
    · rw [dif_neg h, linK_linR l k, List.take_of_length_le (by omega), List.take_of_length_le (by omega)]
theorem linS_linR (l : List Int) : linS l = linR l := by
  unfold linS
  rw [linK_linR, List.take_of_length_le (by omega)]
/-- No line feed, no dash, in base64. -/
theorem al_ne : ∀ v : Fin 64, al (v.val : Int) ≠ 10 ∧ al (v.val : Int) ≠ 45 := by decide +kernel
theorem chr_ne (x : List Int) (j : Nat) : chr x j ≠ 10 ∧ chr x j ≠ 45 := by
  unfold chr
  split
  · decide
  · have h0 : 0 ≤ bts x / 2 ^ (18 - 6 * j) % 64 := Int.emod_nonneg _ (by decide)
    have h1 : bts x / 2 ^ (18 - 6 * j) % 64 < 64 := Int.emod_lt_of_pos _ (by decide)
    generalize bts x / 2 ^ (18 - 6 * j) % 64 = v at *
    obtain ⟨m, rfl⟩ := Int.eq_ofNat_of_zero_le h0
    exact al_ne ⟨m, by omega⟩
theorem e4_ne (x : List Int) : ∀ v ∈ e4 x, (0 ≤ v ∧ v < 256) ∧ v ≠ 10 ∧ v ≠ 45 := by
  intro v hv
  unfold e4 at hv
  simp only [List.mem_cons, List.not_mem_nil, or_false] at hv
  rcases hv with rfl | rfl | rfl | rfl <;> exact ⟨chr_byt _ _, chr_ne _ _⟩
theorem encR_ne : ∀ (l : List Int), ∀ v ∈ encR l, (0 ≤ v ∧ v < 256) ∧ v ≠ 10 ∧ v ≠ 45
  | [], v, hv => by cases hv
  | [a], v, hv => e4_ne _ v hv
  | [a, b], v, hv => e4_ne _ v hv
  | a :: b :: c :: r, v, hv => by
    rcases List.mem_append.1 hv with h | h
    · exact e4_ne _ v h
    · exact encR_ne r v h
theorem u8_ne (v : Int) (h : 0 ≤ v ∧ v < 256) (n : Nat) (hn : n < 256) (hne : v ≠ (n : Int)) : v.toNat.toUInt8 ≠ n.toUInt8 := by
  intro e
  have := congrArg UInt8.toNat e
  simp at this
  omega
theorem encS_ne (l : List Int) : ∀ c ∈ encS l, c ≠ 10 ∧ c ≠ 45 := by
  intro c hc
  unfold encS b8 at hc
  rw [encB_encR] at hc
  obtain ⟨v, hv, rfl⟩ := List.mem_map.1 hc
  obtain ⟨h1, h2, h3⟩ := encR_ne l v hv
  exact ⟨u8_ne v h1 10 (by omega) h2, u8_ne v h1 45 (by omega) h3⟩
theorem encR_len4 : ∀ l : List Int, (encR l).length = 4 * ((l.length + 2) / 3)
  | [] => by simp [encR]
  | [a] => by simp [encR, e4]
  | [a, b] => by simp [encR, e4]
  | a :: b :: c :: r => by
    have := encR_len4 r
    simp only [encR, e4, List.length_append, List.length_cons, List.length_nil]
    omega
theorem encS_len4 (l : List Int) : (encS l).length = 4 * ((l.length + 2) / 3) := by
  unfold encS b8
  rw [List.length_map, encB_encR, encR_len4]
/-- A line and the rest. -/
theorem lns_app (a r : List UInt8) (h : ∀ c ∈ a, c ≠ 10) : lns (a ++ 10 :: r) = a :: lns r := by
  have h' : ∀ c ∈ a, (c != 10) = true := fun c hc => by simpa using h c hc
  have e1 : lineF (a ++ 10 :: r) = a := by
    unfold lineF
    rw [List.takeWhile_append_of_pos h']
    simp
  have e2 : lineR (a ++ 10 :: r) = r := by
    unfold lineR
    rw [List.dropWhile_append_of_pos h']
    simp
  rw [lns_cons (by simp), e1, e2]
theorem gall_go {x y : GS} {k : Nat} {s : List UInt8} {r : List (List UInt8)} (h : gstep x s = (y, 0)) : gall x k (s :: r) = gall y (k + 1) r := by
  rw [gall, h, if_neg (by simp)]
theorem encS_end (l : List Int) : encS l ≠ endS := fun e => by
  have := (encS_ne l 45 (by rw [e]; decide)).2
  exact this rfl
/-- A certificate's lines, up to its end. -/
theorem gall_lin (L : List (List Int)) (r : List UInt8) : ∀ (n : Nat) (l : List Int) (B : List Int) (last : Int) (k : Nat), l.length ≤ n → Byt l → (l ≠ [] → 48 ≤ last) → B.length + l.length ≤ 65536 → B ++ l ≠ [] →
    ∃ last' k', gall ⟨L, true, B, last⟩ k (lns (linR l ++ (endS ++ 10 :: r))) = gall ⟨L ++ [B ++ l], false, B ++ l, last'⟩ k' (lns r) := by
  intro n
  induction n with
  | zero =>
    intro l B last k hn hb hl hs hne
    obtain rfl : l = [] := List.length_eq_zero_iff.1 (by omega)
    rw [linR_nil, List.nil_append, lns_app _ _ (by decide), List.append_nil]
    rw [List.append_nil] at hne
    refine ⟨last, k + 1, gall_go ?_⟩
    unfold gstep
    rw [if_neg (by simp), if_pos rfl, if_neg hne]
  | succ n ih =>
    intro l B last k hn hb hl hs hne
    by_cases h0 : l = []
    · subst h0
      rw [linR_nil, List.nil_append, lns_app _ _ (by decide), List.append_nil]
      rw [List.append_nil] at hne
      refine ⟨last, k + 1, gall_go ?_⟩
      unfold gstep
      rw [if_neg (by simp), if_pos rfl, if_neg hne]
    · have hpos := List.length_pos_iff.2 h0
      have ht : (l.take 48).length = min 48 l.length := List.length_take
      have hd := dec_enc (l.take 48) (byt_take' hb 48)
      rw [linR_cons h0, List.append_assoc, List.cons_append, lns_app _ _ (fun c hc => (encS_ne _ c hc).1)]
      have e : gstep ⟨L, true, B, last⟩ (encS (l.take 48)) = (⟨L, true, B ++ l.take 48, ((l.take 48).length : Int)⟩, 0) := by
        unfold gstep
        have h48 := hl h0
        have h64 := encS_len4 (l.take 48)
        rw [if_neg (by simp), if_neg (encS_end _), if_neg (by
          rintro (h | h | h)
          · have h : last < 48 := h
            omega
          · rw [h] at h64
            simp at h64
            omega
          · omega), hd, if_neg (by simp), if_neg (by show ¬ 65536 < B.length + (l.take 48).length; omega)]
      rw [gall_go e]
      obtain ⟨last', k', h⟩ := ih (l.drop 48) (B ++ l.take 48) ((l.take 48).length : Int) (k + 1) (by rw [List.length_drop]; omega) (byt_drop' hb 48)
        (fun h => by
          have := List.length_pos_iff.2 h
          rw [List.length_drop] at this
          omega) (by rw [List.length_append, List.length_drop]; omega) (by
          rw [List.append_assoc, List.take_append_drop]; exact hne)
      rw [List.append_assoc, List.take_append_drop] at h
      exact ⟨last', k', h⟩
theorem gall_put : ∀ (rows : List Rw) (L : List (List Int)) (B : List Int) (last : Int) (k : Nat), L.length + rows.length ≤ 64 → (∀ r ∈ rows, r.l ≠ [] ∧ r.l.length ≤ 65536 ∧ Byt r.l) →
    gall ⟨L, false, B, last⟩ k (lns (putS rows)) = (L ++ rows.map (·.l), 0, 0)
  | [], L, B, last, k, _, _ => by
    show gall _ k (lns []) = _
    rw [lns_nil, gall, if_neg (by simp)]
    simp
  | x :: t, L, B, last, k, hl, h => by
    obtain ⟨h1, h2, h3⟩ := h x (by simp)
    rw [List.length_cons] at hl
    have e0 : putS (x :: t) = begS ++ 10 :: (linR x.l ++ (endS ++ 10 :: putS t)) := by
      unfold putS
      rw [List.flatMap_cons]
      unfold cerS
      rw [linS_linR]
      simp [begS, endS]
    rw [e0, lns_app _ _ (by decide)]
    have e : gstep ⟨L, false, B, last⟩ begS = (⟨L, true, [], 48⟩, 0) := by
      unfold gstep
      rw [if_pos rfl, if_neg (by decide), if_neg (by simp), if_neg (by show ¬ L.length = 64; omega)]
    rw [gall_go e]
    obtain ⟨last', k', e2⟩ := gall_lin L (putS t) x.l.length x.l [] 48 (k + 1) (Nat.le_refl _) h3 (fun _ => by omega) (by simpa using h2) (by simpa using h1)
    rw [e2, List.nil_append, gall_put t (L ++ [x.l]) x.l last' k' (by rw [List.length_append, List.length_singleton]; omega) (fun r hr => h r (List.mem_cons_of_mem _ hr))]
    simp
/-- WHAT Put WRITES, Get READS. -/
theorem get_put {rows : List Rw} (h64 : rows.length ≤ 64) (h : ∀ r ∈ rows, r.l ≠ [] ∧ r.l.length ≤ 65536 ∧ Byt r.l) (hs : (putS rows).length ≤ 1048576) : getP (putS rows) = (rows.map (·.l), 0, 0) := by
  unfold getP
  rw [if_neg (by omega)]
  have := gall_put rows [] [] 48 0 (by simpa using h64) h
  simp only [List.nil_append] at this
  exact this
end Go.Proofs.Ytbdccfjeeabpaaa
