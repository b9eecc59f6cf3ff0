/- Chapter 22 (armors): the plain law of encoding: the code's base64 and the reference's. -/
import Derived.Test.YtbdccfjeeabpaaaNf
import Derived.Test.YtbdccfjeeabpaaaQb
namespace Go.Proofs.Ytbdccfjeeabpaaa
open Go.RowKit Go.Shelf
open Go.Proofs.YtbdccfjeeabpaaaW.PrintWords (rd bt Ev shr)
set_option linter.unusedSimpArgs false
set_option linter.unusedVariables false
set_option maxRecDepth 50000
/-- The base64 of bytes, three by three. -/
def encR : List Int → List Int
  | [] => []
  | [a] => e4 [a]
  | [a, b] => e4 [a, b]
  | a :: b :: c :: r => e4 [a, b, c] ++ encR r
theorem encR_append : ∀ (x y : List Int), x.length % 3 = 0 → encR (x ++ y) = encR x ++ encR y
  | [], y, _ => rfl
  | [a], y, h => by simp at h
  | [a, b], y, h => by simp at h
  | a :: b :: c :: r, y, h => by
    have ih := encR_append r y (by simp at h; omega)
    show e4 [a, b, c] ++ encR (r ++ y) = _
    rw [ih, ← List.append_assoc]
    rfl
theorem encR_short (x : List Int) (h0 : x ≠ []) (h : x.length ≤ 3) : encR x = e4 x := by
  rcases x with _ | ⟨a, _ | ⟨b, _ | ⟨c, _ | ⟨d, r⟩⟩⟩⟩
  · exact absurd rfl h0
  · rfl
  · rfl
  · show e4 [a, b, c] ++ [] = _; rw [List.append_nil]
  · simp at h
theorem encK_encR (l : List Int) : ∀ k, encK 3 l (ups 3 l.length k) = encR (l.take (3 * k))
  | 0 => rfl
  | k + 1 => by
    unfold ups
    by_cases h : 3 * k < l.length
    · rw [dif_pos h]
      have ih := encK_encR l k
      unfold encK at *
      rw [List.flatMap_append, ih]
      rw [show 3 * (k + 1) = 3 * k + 3 by omega, List.take_add, encR_append _ _ (by rw [List.length_take]; omega)]
      rw [encR_short ((l.drop (3 * k)).take 3) (fun e => by have := congrArg List.length e; rw [List.length_take, List.length_drop] at this; simp at this; omega) (by rw [List.length_take]; omega)]
      simp [piece]
    · rw [dif_neg h, encK_encR l k, List.take_of_length_le (by omega), List.take_of_length_le (by omega)]
theorem encB_encR (l : List Int) : encB l = encR l := by
  unfold encB
  rw [encK_encR, List.take_of_length_le (by omega)]
/-- A bit. -/
def bitN (l : List Int) (i : Nat) : Int := l.getD (i / 8) 0 / 2 ^ (7 - i % 8) % 2
theorem bit_f (l : List Int) (i : Nat) (hl : l.length ≤ 1000000000000) (hi : i ≤ 10000000000000) (hb : Byt l) : Pr.vidimusref22_bit.f l (i : Int) = some (bitN l i) := by
  unfold Pr.vidimusref22_bit.f
  have e1 : wrap64 (Int.tdiv (i : Int) 8) = ((i / 8 : Nat) : Int) := by
    rw [Int.tdiv_eq_ediv_of_nonneg (by omega)]; unfold wrap64; omega
  have e2 : wrap64 (7 - Int.tmod (i : Int) 8) = ((7 - i % 8 : Nat) : Int) := by
    rw [Int.tmod_eq_emod_of_nonneg (by omega)]; unfold wrap64; omega
  rw [e1, e2]
  unfold bitN
  by_cases h : i / 8 < l.length
  · rw [if_neg (by omega), if_pos (by omega), if_pos (by omega), if_pos (by omega)]
    congr 1
    have hg := hb.getD (i / 8)
    unfold rd
    rw [Int.toNat_natCast]
    generalize l.getD (i / 8) 0 = v at *
    have e3 : wrap64 v = v := by unfold wrap64; omega
    rw [e3]
    unfold shr
    rw [Int.toNat_natCast, Nat.min_eq_left (by show _ ≤ 64; omega)]
    rw [Int.tmod_eq_emod_of_nonneg (Int.ediv_nonneg hg.1 (Int.pow_nonneg (by decide)))]
  · rw [if_pos (by omega), List.getD_eq_getElem?_getD, List.getElem?_eq_none (by omega)]
    simp
/-- Six bits. -/
def sx (l : List Int) (j : Nat) : Int := 2 * (2 * (2 * (2 * (2 * bitN l (6 * j) + bitN l (6 * j + 1)) + bitN l (6 * j + 2)) + bitN l (6 * j + 3)) + bitN l (6 * j + 4)) + bitN l (6 * j + 5)
theorem bitN_range (l : List Int) (i : Nat) : 0 ≤ bitN l i ∧ bitN l i < 2 := by
  unfold bitN; omega
theorem sx_range (l : List Int) (j : Nat) : 0 ≤ sx l j ∧ sx l j < 64 := by
  unfold sx
  have h0 := bitN_range l (6 * j)
  have h1 := bitN_range l (6 * j + 1)
  have h2 := bitN_range l (6 * j + 2)
  have h3 := bitN_range l (6 * j + 3)
  have h4 := bitN_range l (6 * j + 4)
  have h5 := bitN_range l (6 * j + 5)
  omega
theorem bt_al (v : Int) (h : 0 ≤ v ∧ v < 64) : bt alphB v = al v := by
  unfold bt
  rw [dif_pos (show v.toNat < alphB.size from (show v.toNat < 64 by omega))]
  exact al_at v (show v.toNat < 64 by omega)
theorem l1_step {l out : List Int} {i n : Int} (q q' : Nat) (t : Int) {iN : Nat} {r : ByteArray} (hq' : q' = q + 1) (ht : bitN l (iN + q) = t) (hq : q < 6) (hi : i = (iN : Int)) (hl : l.length ≤ 1000000000000) (hin : iN ≤ 9000000000000) (hn : 0 ≤ n ∧ n < 64) (hb : Byt l)
    (h : Ev (fun k => Pr.vidimusref22_Encode.l1 k l out i (2 * n + t) (q' : Int)) r) : Ev (fun k => Pr.vidimusref22_Encode.l1 k l out i n (q : Int)) r := by
  subst hq' ht
  refine Ev.step (fun k => ?_) h
  simp only [Pr.vidimusref22_Encode.l1]
  have hbr := bitN_range l (iN + q)
  rw [if_pos (by omega)]
  have e1 : wrap64 (i + (q : Int)) = ((iN + q : Nat) : Int) := by subst hi; unfold wrap64; omega
  rw [e1, bit_f l (iN + q) hl (by omega) hb]
  simp only [Option.bind_some]
  have e2 : wrap64 (wrap64 (2 * n) + bitN l (iN + q)) = 2 * n + bitN l (iN + q) := by unfold wrap64; omega
  have e3 : wrap64 ((q : Int) + 1) = ((q + 1 : Nat) : Int) := by unfold wrap64; omega
  rw [e2, e3]
theorem l0_round {l out : List Int} {j : Nat} {r : ByteArray} (hl : l.length ≤ 1000000000) (hj : 6 * j < 8 * l.length) (hb : Byt l) (ho : out.length ≤ 10000000000)
    (h : Ev (fun k => Pr.vidimusref22_Encode.l0 k l (out ++ [al (sx l j)]) ((6 * (j + 1) : Nat) : Int)) r) : Ev (fun k => Pr.vidimusref22_Encode.l0 k l out ((6 * j : Nat) : Int)) r := by
  refine Ev.step (f := fun k => Pr.vidimusref22_Encode.l1 k l out ((6 * j : Nat) : Int) 0 ((0 : Nat) : Int)) (fun k => ?_) ?_
  · simp only [Pr.vidimusref22_Encode.l0]
    rw [if_pos (by unfold wrap64; omega)]
    rfl
  have r0 := bitN_range l (6 * j)
  have r1 := bitN_range l (6 * j + 1)
  have r2 := bitN_range l (6 * j + 2)
  have r3 := bitN_range l (6 * j + 3)
  have r4 := bitN_range l (6 * j + 4)
  have r5 := bitN_range l (6 * j + 5)
  obtain ⟨t0, ht0⟩ : ∃ t, bitN l (6 * j + 0) = t := ⟨_, rfl⟩
  obtain ⟨t1, ht1⟩ : ∃ t, bitN l (6 * j + 1) = t := ⟨_, rfl⟩
  obtain ⟨t2, ht2⟩ : ∃ t, bitN l (6 * j + 2) = t := ⟨_, rfl⟩
  obtain ⟨t3, ht3⟩ : ∃ t, bitN l (6 * j + 3) = t := ⟨_, rfl⟩
  obtain ⟨t4, ht4⟩ : ∃ t, bitN l (6 * j + 4) = t := ⟨_, rfl⟩
  obtain ⟨t5, ht5⟩ : ∃ t, bitN l (6 * j + 5) = t := ⟨_, rfl⟩
  have hsx : sx l j = 2 * (2 * (2 * (2 * (2 * t0 + t1) + t2) + t3) + t4) + t5 := by
    unfold sx; rw [ht1, ht2, ht3, ht4, ht5, ← ht0, Nat.add_zero]
  rw [show bitN l (6 * j) = t0 from ht0] at r0
  rw [ht1] at r1
  rw [ht2] at r2
  rw [ht3] at r3
  rw [ht4] at r4
  rw [ht5] at r5
  refine l1_step (iN := 6 * j) 0 1 t0 rfl ht0 (by omega) rfl (by omega) (by omega) (by omega) hb ?_
  refine l1_step (iN := 6 * j) 1 2 t1 rfl ht1 (by omega) rfl (by omega) (by omega) (by omega) hb ?_
  refine l1_step (iN := 6 * j) 2 3 t2 rfl ht2 (by omega) rfl (by omega) (by omega) (by omega) hb ?_
  refine l1_step (iN := 6 * j) 3 4 t3 rfl ht3 (by omega) rfl (by omega) (by omega) (by omega) hb ?_
  refine l1_step (iN := 6 * j) 4 5 t4 rfl ht4 (by omega) rfl (by omega) (by omega) (by omega) hb ?_
  refine l1_step (iN := 6 * j) 5 6 t5 rfl ht5 (by omega) rfl (by omega) (by omega) (by omega) hb ?_
  refine Ev.step (fun k => ?_) h
  simp only [Pr.vidimusref22_Encode.l1]
  have hs := sx_range l j
  have e : 2 * (2 * (2 * (2 * (2 * (2 * 0 + t0) + t1) + t2) + t3) + t4) + t5 = sx l j := by rw [hsx]; omega
  rw [e, if_neg (by omega), if_pos hs.1, if_pos hs.2, if_pos (by omega)]
  have e6 : wrap64 (((6 * j : Nat) : Int) + 6) = ((6 * (j + 1) : Nat) : Int) := by unfold wrap64; omega
  rw [e6]
  have := bt_al (sx l j) hs
  rw [show bt _ (sx l j) = al (sx l j) from this]
/-- Characters until their number is a multiple of four. -/
def pad4 (l : List Int) : List Int := if l.length % 4 = 0 then l else if l.length % 4 = 1 then l ++ [61, 61, 61] else if l.length % 4 = 2 then l ++ [61, 61] else l ++ [61]
theorem l2_ev (out : List Int) (ho : out.length ≤ 10000000000) : Ev (fun k => Pr.vidimusref22_Encode.l2 k out) (strOfNums (pad4 out)) := by
  have one : ∀ o : List Int, o.length % 4 = 0 → Ev (fun k => Pr.vidimusref22_Encode.l2 k o) (strOfNums o) := fun o h => by
    refine Ev.step (fun k => ?_) (Ev.now _)
    simp only [Pr.vidimusref22_Encode.l2]
    rw [if_pos (by omega)]
  have stp : ∀ (o : List Int) r, o.length % 4 ≠ 0 → o.length ≤ 20000000000 → Ev (fun k => Pr.vidimusref22_Encode.l2 k (o ++ [61])) r → Ev (fun k => Pr.vidimusref22_Encode.l2 k o) r := fun o r h h2 hh => by
    refine Ev.step (fun k => ?_) hh
    simp only [Pr.vidimusref22_Encode.l2]
    rw [if_neg (by omega), if_pos (by omega)]
  unfold pad4
  rcases (show out.length % 4 = 0 ∨ out.length % 4 = 1 ∨ out.length % 4 = 2 ∨ out.length % 4 = 3 by omega) with h | h | h | h
  · simp only [h, if_pos]; exact one _ h
  · simp only [h]
    refine stp _ _ (by omega) (by omega) (stp _ _ (by simp; omega) (by simp; omega) (stp _ _ (by simp; omega) (by simp; omega) ?_))
    have := one (out ++ [61, 61, 61]) (by simp; omega)
    simpa using this
  · simp only [h]
    refine stp _ _ (by omega) (by omega) (stp _ _ (by simp; omega) (by simp; omega) ?_)
    have := one (out ++ [61, 61]) (by simp; omega)
    simpa using this
  · simp only [h]
    refine stp _ _ (by omega) (by omega) ?_
    have := one (out ++ [61]) (by simp; omega)
    simpa using this
/-- The characters of j sextets. -/
def sxs (l : List Int) (j : Nat) : List Int := (List.range j).map fun i => al (sx l i)
theorem sxs_succ (l : List Int) (j : Nat) : sxs l (j + 1) = sxs l j ++ [al (sx l j)] := by
  unfold sxs; rw [List.range_succ, List.map_append]; rfl
theorem sxs_len (l : List Int) (j : Nat) : (sxs l j).length = j := by unfold sxs; simp
theorem enc_ev (l : List Int) (hl : l.length ≤ 1000000000) (hb : Byt l) : Ev (fun k => Pr.vidimusref22_Encode.f k l) (strOfNums (pad4 (sxs l ((8 * l.length + 5) / 6)))) := by
  have key : ∀ d j, j + d = (8 * l.length + 5) / 6 → Ev (fun k => Pr.vidimusref22_Encode.l0 k l (sxs l j) ((6 * j : Nat) : Int)) (strOfNums (pad4 (sxs l ((8 * l.length + 5) / 6)))) := by
    intro d
    induction d with
    | zero =>
      intro j hj
      obtain rfl : j = (8 * l.length + 5) / 6 := by omega
      refine Ev.step (fun k => ?_) (l2_ev (sxs l ((8 * l.length + 5) / 6)) (by rw [sxs_len]; omega))
      simp only [Pr.vidimusref22_Encode.l0]
      have hw : wrap64 (8 * (l.length : Int)) = 8 * (l.length : Int) := by unfold wrap64; omega
      rw [hw, if_neg (by omega)]
    | succ d ih =>
      intro j hj
      refine l0_round hl (by omega) hb (by rw [sxs_len]; omega) ?_
      rw [← sxs_succ]
      exact ih (j + 1) (by omega)
  have := key ((8 * l.length + 5) / 6) 0 (by omega)
  exact this
theorem bitN_cons3 (a b c : Int) (r : List Int) (i : Nat) : bitN (a :: b :: c :: r) (24 + i) = bitN r i := by
  unfold bitN
  rw [show (24 + i) / 8 = i / 8 + 3 by omega, show (24 + i) % 8 = i % 8 by omega]
  rfl
theorem sx_cons3 (a b c : Int) (r : List Int) (j : Nat) : sx (a :: b :: c :: r) (4 + j) = sx r j := by
  unfold sx
  rw [show 6 * (4 + j) = 24 + 6 * j by omega]
  simp only [Nat.add_assoc, bitN_cons3]
theorem bits8 : ∀ a : Fin 256, (a.val : Int) / 4 = 2 * (2 * (2 * (2 * (2 * ((a.val : Int) / 128 % 2) + (a.val : Int) / 64 % 2) + (a.val : Int) / 32 % 2) + (a.val : Int) / 16 % 2) + (a.val : Int) / 8 % 2) + (a.val : Int) / 4 % 2 ∧
    (a.val : Int) % 4 = 2 * ((a.val : Int) / 2 % 2) + (a.val : Int) / 1 % 2 ∧ (a.val : Int) / 16 = 2 * (2 * (2 * ((a.val : Int) / 128 % 2) + (a.val : Int) / 64 % 2) + (a.val : Int) / 32 % 2) + (a.val : Int) / 16 % 2 ∧
    (a.val : Int) % 16 = 2 * (2 * (2 * ((a.val : Int) / 8 % 2) + (a.val : Int) / 4 % 2) + (a.val : Int) / 2 % 2) + (a.val : Int) / 1 % 2 ∧ (a.val : Int) / 64 = 2 * ((a.val : Int) / 128 % 2) + (a.val : Int) / 64 % 2 ∧
    (a.val : Int) % 64 = 2 * (2 * (2 * (2 * (2 * ((a.val : Int) / 32 % 2) + (a.val : Int) / 16 % 2) + (a.val : Int) / 8 % 2) + (a.val : Int) / 4 % 2) + (a.val : Int) / 2 % 2) + (a.val : Int) / 1 % 2 := by decide +kernel
theorem bits8i (a : Int) (h0 : 0 ≤ a) (h1 : a < 256) : a / 4 = 2 * (2 * (2 * (2 * (2 * (a / 128 % 2) + a / 64 % 2) + a / 32 % 2) + a / 16 % 2) + a / 8 % 2) + a / 4 % 2 ∧
    a % 4 = 2 * (a / 2 % 2) + a / 1 % 2 ∧ a / 16 = 2 * (2 * (2 * (a / 128 % 2) + a / 64 % 2) + a / 32 % 2) + a / 16 % 2 ∧
    a % 16 = 2 * (2 * (2 * (a / 8 % 2) + a / 4 % 2) + a / 2 % 2) + a / 1 % 2 ∧ a / 64 = 2 * (a / 128 % 2) + a / 64 % 2 ∧
    a % 64 = 2 * (2 * (2 * (2 * (2 * (a / 32 % 2) + a / 16 % 2) + a / 8 % 2) + a / 4 % 2) + a / 2 % 2) + a / 1 % 2 := by
  have := bits8 ⟨a.toNat, by omega⟩
  simp only at this
  rwa [show ((a.toNat : Nat) : Int) = a by omega] at this
theorem sx_at (a b c : Int) (r : List Int) (ha : 0 ≤ a ∧ a < 256) (hb : 0 ≤ b ∧ b < 256) (hc : 0 ≤ c ∧ c < 256) :
    sx (a :: b :: c :: r) 0 = a / 4 ∧ sx (a :: b :: c :: r) 1 = a % 4 * 16 + b / 16 ∧ sx (a :: b :: c :: r) 2 = b % 16 * 4 + c / 64 ∧ sx (a :: b :: c :: r) 3 = c % 64 := by
  obtain ⟨a1, a2, a3, a4, a5, a6⟩ := bits8i a ha.1 ha.2
  obtain ⟨b1, b2, b3, b4, b5, b6⟩ := bits8i b hb.1 hb.2
  obtain ⟨c1, c2, c3, c4, c5, c6⟩ := bits8i c hc.1 hc.2
  refine ⟨?_, ?_, ?_, ?_⟩
  · rw [a1]; simp [sx, bitN]
  · rw [a2, b3]; simp [sx, bitN]; omega
  · rw [b4, c5]; simp [sx, bitN]; omega
  · rw [c6]; simp [sx, bitN]
theorem bts_at (a b c : Int) (ha : 0 ≤ a ∧ a < 256) (hb : 0 ≤ b ∧ b < 256) (hc : 0 ≤ c ∧ c < 256) :
    (a * 65536 + b * 256 + c) / 2 ^ 18 % 64 = a / 4 ∧ (a * 65536 + b * 256 + c) / 2 ^ 12 % 64 = a % 4 * 16 + b / 16 ∧ (a * 65536 + b * 256 + c) / 2 ^ 6 % 64 = b % 16 * 4 + c / 64 ∧ (a * 65536 + b * 256 + c) / 2 ^ 0 % 64 = c % 64 := by
  refine ⟨?_, ?_, ?_, ?_⟩ <;> simp <;> omega
theorem sx_pad (a b c : Int) (l : List Int) (h : l = [a] ∧ b = 0 ∧ c = 0 ∨ l = [a, b] ∧ c = 0) (j : Nat) : sx l j = sx [a, b, c] j := by
  have hb : ∀ i, bitN l i = bitN [a, b, c] i := fun i => by
    unfold bitN
    have : l.getD (i / 8) 0 = [a, b, c].getD (i / 8) 0 := by
      rcases h with ⟨rfl, rfl, rfl⟩ | ⟨rfl, rfl⟩
      · rcases i / 8 with _ | _ | _ | n <;> simp
      · rcases i / 8 with _ | _ | _ | n <;> simp
    rw [this]
  unfold sx
  simp only [hb]
theorem pad_encR : ∀ (l : List Int), Byt l → pad4 (sxs l ((8 * l.length + 5) / 6)) = encR l
  | [], _ => rfl
  | [a], h => by
    have ha := h a (by simp)
    obtain ⟨s0, s1, s2, s3⟩ := sx_at a 0 0 [] ha (by omega) (by omega)
    obtain ⟨t0, t1, t2, t3⟩ := bts_at a 0 0 ha (by omega) (by omega)
    have e := sx_pad a 0 0 [a] (.inl ⟨rfl, rfl, rfl⟩)
    have e1 : sxs [a] ((8 * [a].length + 5) / 6) = [al (sx [a] 0), al (sx [a] 1)] := by simp [sxs, List.range_succ]
    rw [e1, e, e, s0, s1]
    show [_, _, 61, 61] = [_, _, _, _]
    have c0 : chr [a] 0 = al (a / 4) := by unfold chr bts; rw [if_neg (by simp)]; simp only [List.getD_cons_zero, List.getD_cons_succ, List.getD_nil]; rw [t0]
    have c1 : chr [a] 1 = al (a % 4 * 16 + 0 / 16) := by unfold chr bts; rw [if_neg (by simp)]; simp only [List.getD_cons_zero, List.getD_cons_succ, List.getD_nil]; rw [t1]
    have c2 : chr [a] 2 = 61 := by unfold chr; rw [if_pos (by simp)]
    have c3 : chr [a] 3 = 61 := by unfold chr; rw [if_pos (by simp)]
    rw [c0, c1, c2, c3]
  | [a, b], h => by
    have ha := h a (by simp)
    have hb := h b (by simp)
    obtain ⟨s0, s1, s2, s3⟩ := sx_at a b 0 [] ha hb (by omega)
    obtain ⟨t0, t1, t2, t3⟩ := bts_at a b 0 ha hb (by omega)
    have e := sx_pad a b 0 [a, b] (.inr ⟨rfl, rfl⟩)
    have e1 : sxs [a, b] ((8 * [a, b].length + 5) / 6) = [al (sx [a, b] 0), al (sx [a, b] 1), al (sx [a, b] 2)] := by simp [sxs, List.range_succ]
    rw [e1, e, e, e, s0, s1, s2]
    show [_, _, _, 61] = [_, _, _, _]
    have c0 : chr [a, b] 0 = al (a / 4) := by unfold chr bts; rw [if_neg (by simp)]; simp only [List.getD_cons_zero, List.getD_cons_succ, List.getD_nil]; rw [t0]
    have c1 : chr [a, b] 1 = al (a % 4 * 16 + b / 16) := by unfold chr bts; rw [if_neg (by simp)]; simp only [List.getD_cons_zero, List.getD_cons_succ, List.getD_nil]; rw [t1]
    have c2 : chr [a, b] 2 = al (b % 16 * 4 + 0 / 64) := by unfold chr bts; rw [if_neg (by simp)]; simp only [List.getD_cons_zero, List.getD_cons_succ, List.getD_nil]; rw [t2]
    have c3 : chr [a, b] 3 = 61 := by unfold chr; rw [if_pos (by simp)]
    rw [c0, c1, c2, c3]
  | a :: b :: c :: r, h => by
    have ha := h a (by simp)
    have hb := h b (by simp)
    have hc := h c (by simp)
    obtain ⟨s0, s1, s2, s3⟩ := sx_at a b c r ha hb hc
    obtain ⟨t0, t1, t2, t3⟩ := bts_at a b c ha hb hc
    have ih := pad_encR r (fun x hx => h x (by simp [hx]))
    have e1 : sxs (a :: b :: c :: r) ((8 * (a :: b :: c :: r).length + 5) / 6) = [al (a / 4), al (a % 4 * 16 + b / 16), al (b % 16 * 4 + c / 64), al (c % 64)] ++ sxs r ((8 * r.length + 5) / 6) := by
      rw [show (8 * (a :: b :: c :: r).length + 5) / 6 = 4 + (8 * r.length + 5) / 6 by simp; omega]
      unfold sxs
      rw [List.range_add, List.map_append, List.map_map]
      congr 1
      · simp [List.range_succ, s0, s1, s2, s3]
      · refine List.map_congr_left fun i _ => ?_
        simp only [Function.comp]; rw [sx_cons3]
    have e2 : e4 [a, b, c] = [al (a / 4), al (a % 4 * 16 + b / 16), al (b % 16 * 4 + c / 64), al (c % 64)] := by
      unfold e4
      have c0 : chr [a, b, c] 0 = al (a / 4) := by unfold chr bts; rw [if_neg (by simp)]; simp only [List.getD_cons_zero, List.getD_cons_succ, List.getD_nil]; rw [t0]
      have c1 : chr [a, b, c] 1 = al (a % 4 * 16 + b / 16) := by unfold chr bts; rw [if_neg (by simp)]; simp only [List.getD_cons_zero, List.getD_cons_succ, List.getD_nil]; rw [t1]
      have c2 : chr [a, b, c] 2 = al (b % 16 * 4 + c / 64) := by unfold chr bts; rw [if_neg (by simp)]; simp only [List.getD_cons_zero, List.getD_cons_succ, List.getD_nil]; rw [t2]
      have c3 : chr [a, b, c] 3 = al (c % 64) := by unfold chr bts; rw [if_neg (by simp)]; simp only [List.getD_cons_zero, List.getD_cons_succ, List.getD_nil]; rw [t3]
      rw [c0, c1, c2, c3]
    show _ = e4 [a, b, c] ++ encR r
    rw [e1, e2, ← ih]
    unfold pad4
    simp only [List.length_append, List.length_cons, List.length_nil, Nat.zero_add, Nat.reduceAdd, sxs_len, show ∀ n, (4 + n) % 4 = n % 4 from fun n => by omega]
    split
    · rfl
    · split
      · simp
      · split <;> simp
/-- The reference's Encode is the code's. -/
theorem refEncode_ev (l : List Int) (hl : l.length ≤ 1000000000) (hb : Byt l) : Ev (fun k => Pr.vidimusref22_Encode.f k l) ⟨(encS l).toArray⟩ := by
  have := enc_ev l hl hb
  rw [pad_encR l hb, ← encB_encR] at this
  exact this
end Go.Proofs.Ytbdccfjeeabpaaa
