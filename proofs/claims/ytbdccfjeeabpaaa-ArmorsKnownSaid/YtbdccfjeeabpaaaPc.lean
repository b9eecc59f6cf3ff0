/- Chapter 22 (armors): the plain law of decoding: the code's and the reference's. -/
import Derived.Test.YtbdccfjeeabpaaaPb
namespace Go.Proofs.Ytbdccfjeeabpaaa
open Go.RowKit Go.Shelf
open Go.Proofs.YtbdccfjeeabpaaaW.PrintWords (rd bt Ev shr)
set_option linter.unusedSimpArgs false
set_option linter.unusedVariables false
set_option maxRecDepth 50000
theorem index_all : ∀ c : Fin 256, Pr.vidimusref22_index.f 70 (c.val : Int) = some ((tabK 64).getD c.val 0 - 1) := by decide +kernel
theorem index_ev (c : UInt8) : Ev (fun k => Pr.vidimusref22_index.f k (c.toNat : Int)) (dig c - 1) :=
  Ev.of (Pr.vidimusref22_index.mono _) (index_all ⟨c.toNat, c.toNat_lt⟩)
theorem bt_at' (s : ByteArray) (i : Nat) (h : i < s.size) : bt s (i : Int) = (s[i].toNat : Int) := by
  unfold bt
  rw [dif_pos (by simpa using h)]
  simp
/-- The end, when '='s at the end are taken off, two at most. -/
def endE (L : List UInt8) : Nat := (trimE L).length
theorem trim1 (L : List UInt8) (c : UInt8) : Lib.trimSuffix (L ++ [c]) [c] = L := by
  unfold Lib.trimSuffix Lib.hasSuffix
  rw [if_pos (by simp [List.isSuffixOf_iff_suffix])]
  simp
theorem trim0 (L : List UInt8) (d c : UInt8) (h : d ≠ c) : Lib.trimSuffix (L ++ [d]) [c] = L ++ [d] := by
  unfold Lib.trimSuffix Lib.hasSuffix
  rw [if_neg]
  intro e
  rw [List.isSuffixOf_iff_suffix] at e
  obtain ⟨x, hx⟩ := e
  have := List.append_inj_right' hx rfl
  simp at this
  exact h this.symm
theorem trimN (c : UInt8) : Lib.trimSuffix [] [c] = [] := by
  unfold Lib.trimSuffix; split <;> simp
theorem snoc_cases {α : Type} (L : List α) : L = [] ∨ ∃ M c, L = M ++ [c] := by
  rcases List.eq_nil_or_concat L with h | ⟨M, c, h⟩
  · exact .inl h
  · exact .inr ⟨M, c, by simpa using h⟩
theorem trimE_take (L : List UInt8) : trimE L = L.take (endE L) := by
  unfold endE trimE
  have one : ∀ (M : List UInt8) (p : List UInt8), ∃ n, Lib.trimSuffix M p = M.take n := fun M p => by
    unfold Lib.trimSuffix
    split
    · exact ⟨_, rfl⟩
    · exact ⟨M.length, by simp⟩
  obtain ⟨n, hn⟩ := one L [61]
  rw [hn]
  obtain ⟨m, hm⟩ := one (L.take n) [61]
  rw [hm, List.take_take]
  rw [List.length_take, List.take_eq_take_iff]
  omega
/-- The reference's way to the end. -/
theorem dec0_ev (s : ByteArray) (hs : s.size ≤ 1000000000) (r : List Int × Int) (h : Ev (fun k => Pr.vidimusref22_Decode.j1 k s (endE s.data.toList : Int)) r) : Ev (fun k => Pr.vidimusref22_Decode.l0 k s (s.size : Int)) r := by
  have hsz : s.data.toList.length = s.size := by rw [Array.length_toList]; rfl
  have stop : ∀ e : Nat, e ≤ s.size → (e = 0 ∨ e + 2 ≤ s.size ∨ ∃ h : e - 1 < s.size, s[e - 1] ≠ 61) → Ev (fun k => Pr.vidimusref22_Decode.j1 k s (e : Int)) r → Ev (fun k => Pr.vidimusref22_Decode.l0 k s (e : Int)) r := by
    intro e he hc hh
    refine Ev.step (fun k => ?_) hh
    simp only [Pr.vidimusref22_Decode.l0]
    have w2 : wrap64 ((s.size : Int) - 2) = (s.size : Int) - 2 := by unfold wrap64; omega
    have w1 : wrap64 ((e : Int) - 1) = (e : Int) - 1 := by unfold wrap64; omega
    rw [w1, w2]
    rcases hc with hc | hc | ⟨h1, h2⟩
    · rw [if_neg (by omega)]
    · by_cases h0 : (e : Int) > 0
      · rw [if_pos h0, if_neg (by omega)]
      · rw [if_neg h0]
    · by_cases h0 : (e : Int) > 0
      · rw [if_pos h0]
        by_cases h3 : (e : Int) > (s.size : Int) - 2
        · rw [if_pos h3, if_pos (by omega), if_pos (by omega), if_neg]
          rw [show (e : Int) - 1 = ((e - 1 : Nat) : Int) by omega, bt_at' s (e - 1) h1]
          intro e2
          exact h2 (UInt8.toNat_inj.1 (by simpa using (by exact_mod_cast e2 : s[e - 1].toNat = 61)))
        · rw [if_neg h3]
      · rw [if_neg h0]
  have go : ∀ e : Nat, e < s.size → e + 1 > s.size - 2 → (h : e < s.size) → s[e] = 61 → Ev (fun k => Pr.vidimusref22_Decode.l0 k s (e : Int)) r → Ev (fun k => Pr.vidimusref22_Decode.l0 k s ((e + 1 : Nat) : Int)) r := by
    intro e he hc h1 h2 hh
    refine Ev.step (fun k => ?_) hh
    simp only [Pr.vidimusref22_Decode.l0]
    have w2 : wrap64 ((s.size : Int) - 2) = (s.size : Int) - 2 := by unfold wrap64; omega
    have w1 : wrap64 (((e + 1 : Nat) : Int) - 1) = (e : Int) := by unfold wrap64; omega
    rw [w1, w2, if_pos (by omega), if_pos (by omega), if_pos (by omega), if_pos (by omega), if_pos]
    rw [bt_at' s e h1, h2]; rfl
  have get : ∀ (M : List UInt8) (c : UInt8) (N : List UInt8), s.data.toList = M ++ c :: N → ∃ h : M.length < s.size, s[M.length] = c := fun M c N e => by
    have hl := congrArg List.length e
    rw [hsz] at hl
    simp at hl
    refine ⟨by omega, ?_⟩
    have h2 : s.data.toList[M.length]? = some c := by rw [e]; simp
    rw [List.getElem?_eq_getElem (by rw [hsz]; omega)] at h2
    exact Option.some.inj h2
  unfold endE trimE at h
  rcases snoc_cases s.data.toList with h0 | ⟨M, c, h0⟩
  · rw [h0, trimN, trimN] at h
    have hz : s.size = 0 := by rw [← hsz, h0]; rfl
    rw [hz]
    exact stop 0 (by omega) (.inl rfl) h
  · have hl : M.length + 1 = s.size := by rw [← hsz, h0]; simp
    obtain ⟨g1, g2⟩ := get M c [] h0
    by_cases hc : c = 61
    · subst hc
      rw [h0, trim1] at h
      rw [← hl]
      refine go M.length (by omega) (by omega) g1 g2 ?_
      rcases snoc_cases M with h1 | ⟨N, d, h1⟩
      · subst h1
        rw [trimN] at h
        exact stop 0 (by omega) (.inl rfl) h
      · subst h1
        have hl2 : N.length + 1 + 1 = s.size := by rw [← hl]; simp
        obtain ⟨k1, k2⟩ := get N d [61] (by rw [h0]; simp)
        rw [show (N ++ [d]).length = N.length + 1 by simp]
        by_cases hd : d = 61
        · subst hd
          rw [trim1] at h
          refine go N.length (by omega) (by omega) k1 k2 ?_
          exact stop N.length (by omega) (.inr (.inl (by omega))) h
        · rw [trim0 N d 61 hd, show (N ++ [d]).length = N.length + 1 by simp] at h
          exact stop (N.length + 1) (by omega) (.inr (.inr ⟨by omega, by simpa [k2] using hd⟩)) h
    · rw [h0, trim0 M c 61 hc, trim0 M c 61 hc, show (M ++ [c]).length = M.length + 1 by simp] at h
      rw [← hl]
      exact stop (M.length + 1) (by omega) (.inr (.inr ⟨by omega, by simpa [g2] using hc⟩)) h
/-- No character is foreign. -/
def okL (L : List UInt8) : Bool := L.all fun c => decide (dig c ≠ 0)
theorem dgo_none : ∀ (L : List UInt8) (k : Nat) (b : Int) (out : List Int), okL L = false → dgo L k b out = none
  | [], k, b, out, h => by simp [okL] at h
  | c :: r, k, b, out, h => by
    rw [dgo]
    by_cases hc : dig c = 0
    · rw [if_pos hc]
    · rw [if_neg hc]
      refine dgo_none r _ _ _ ?_
      simpa [okL, hc] using h
theorem l1_ev (s : ByteArray) (hs : s.size ≤ 1000000000) (E : Nat) (hE : E ≤ s.size) (r : List Int × Int) (hbad : okL (s.data.toList.take E) = false → r = ([], 6))
    (h : okL (s.data.toList.take E) = true → Ev (fun k => Pr.vidimusref22_Decode.l2 k s (E : Int) [] 0 0) r) : ∀ d i, i + d = E → okL (s.data.toList.take i) = true → Ev (fun k => Pr.vidimusref22_Decode.l1 k s (E : Int) (i : Int)) r := by
  have hsz : s.data.toList.length = s.size := by rw [Array.length_toList]; rfl
  intro d
  induction d with
  | zero =>
    intro i hi hok
    obtain rfl : i = E := by omega
    refine Ev.step (fun k => ?_) (h hok)
    simp only [Pr.vidimusref22_Decode.l1]
    rw [if_neg (by omega)]
  | succ d ih =>
    intro i hi hok
    have hlt : i < s.size := by omega
    have ht : s.data.toList.take (i + 1) = s.data.toList.take i ++ [s[i]] := by
      rw [List.take_succ_eq_append_getElem (by rw [hsz]; exact hlt)]; rfl
    have hr := dig_range s[i]
    refine Ev.step (f := fun k => (Pr.vidimusref22_index.f k ((s[i]).toNat : Int)).bind fun t101 => if t101 < 0 then some (([] : List Int), 6) else Pr.vidimusref22_Decode.l1 k s (E : Int) (wrap64 ((i : Int) + 1))) (fun k => ?_) ?_
    · simp only [Pr.vidimusref22_Decode.l1]
      rw [if_pos (by omega), if_pos (by omega), if_pos (by omega), bt_at' s i hlt]
    · refine Ev.bind (index_ev _) ?_
      by_cases hd : dig s[i] = 0
      · have : okL (s.data.toList.take E) = false := by
          unfold okL
          rw [List.all_eq_false]
          refine ⟨s[i], ?_, by simp [hd]⟩
          have e : s.data.toList[i]'(by rw [hsz]; exact hlt) = s[i] := rfl
          rw [← e]
          exact List.mem_take_iff_getElem.2 ⟨i, by omega, rfl⟩
        rw [hbad this]
        refine Ev.congr (fun k => ?_) (Ev.now _)
        rw [if_pos (by omega)]
      · refine Ev.congr (f := fun k => Pr.vidimusref22_Decode.l1 k s (E : Int) ((i + 1 : Nat) : Int)) (fun k => ?_) (ih (i + 1) (by omega) ?_)
        · rw [if_neg (by omega)]
          have w : wrap64 ((i : Int) + 1) = ((i + 1 : Nat) : Int) := by unfold wrap64; omega
          rw [w]
        · rw [ht]
          unfold okL at *
          rw [List.all_append, hok]
          simp [hd]
theorem wr_id (x : Int) (h0 : 0 ≤ x) (h1 : x ≤ 9000000000000000000) : wrap64 x = x := by unfold wrap64; omega
theorem wr_div (i : Nat) (h : i ≤ 9000000000000000000) : wrap64 (Int.tdiv (i : Int) 6) = ((i / 6 : Nat) : Int) := by
  rw [Int.tdiv_eq_ediv_of_nonneg (by omega), wr_id _ (by omega) (by omega)]; omega
theorem wr_mod6 (i : Nat) (h : i ≤ 9000000000000000000) : wrap64 (5 - Int.tmod (i : Int) 6) = ((5 - i % 6 : Nat) : Int) := by
  rw [Int.tmod_eq_emod_of_nonneg (by omega), wr_id _ (by omega) (by omega)]; omega
theorem tmod8 (i : Nat) : Int.tmod (i : Int) 8 = ((i % 8 : Nat) : Int) := by rw [Int.tmod_eq_emod_of_nonneg (by omega)]; omega
theorem l2_step {s : ByteArray} {E i q k : Nat} {out out' : List Int} {n n' t v : Int} {r : List Int × Int} (hs : s.size ≤ 1000000000) (hE : E ≤ s.size) (hk : k < E) (hi : i = 6 * k + q) (hq : q < 6) (hlt : k < s.size) (hv : dig s[k] - 1 = v) (hv0 : 0 ≤ v ∧ v < 64)
    (ht : v / 2 ^ (5 - q) % 2 = t) (hn : 0 ≤ n ∧ n < 128) (ho : out.length ≤ 100000000000) (hout : if i % 8 = 7 then out' = out ++ [2 * n + t] ∧ n' = 0 else out' = out ∧ n' = 2 * n + t)
    (h : Ev (fun z => Pr.vidimusref22_Decode.l2 z s (E : Int) out' n' ((i + 1 : Nat) : Int)) r) : Ev (fun z => Pr.vidimusref22_Decode.l2 z s (E : Int) out n (i : Int)) r := by
  have ht2 : 0 ≤ t ∧ t < 2 := by omega
  have g1 : (i : Int) < 6 * (E : Int) := by omega
  have g2 : (0 : Int) ≤ (k : Int) := by omega
  have g3 : (k : Int) < (s.size : Int) := by omega
  have g4 : (0 : Int) ≤ ((5 - q : Nat) : Int) := by omega
  have g5 : out.length < 140737488355328 := by omega
  have g6 : (2 * n + t) % 256 = 2 * n + t := by omega
  have g7 : i / 6 = k := by omega
  have g8 : 5 - i % 6 = 5 - q := by omega
  refine Ev.step (f := fun z => (Pr.vidimusref22_index.f z ((s[k]).toNat : Int)).bind fun t102 => if 0 ≤ ((5 - q : Nat) : Int) then (if ((i % 8 : Nat) : Int) = 7 then (if out.length < 140737488355328 then Pr.vidimusref22_Decode.l2 z s (E : Int) (out ++ [(wrap64 ((wrap64 (2 * n)) + (Int.tmod (shr .i64 t102 ((5 - q : Nat) : Int)) 2))) % 256]) 0 ((i + 1 : Nat) : Int) else none) else Pr.vidimusref22_Decode.l2 z s (E : Int) out (wrap64 ((wrap64 (2 * n)) + (Int.tmod (shr .i64 t102 ((5 - q : Nat) : Int)) 2))) ((i + 1 : Nat) : Int)) else none) (fun z => ?_) ?_
  · simp only [Pr.vidimusref22_Decode.l2]
    rw [wr_id (6 * (E : Int)) (by omega) (by omega), wr_div i (by omega), wr_mod6 i (by omega), tmod8, wr_id ((i : Int) + 1) (by omega) (by omega), g7, g8, if_pos g1, if_pos g2, if_pos g3, bt_at' s k hlt]
    rfl
  · refine Ev.bind (index_ev _) (Ev.congr (fun z => ?_) h)
    have wt : Int.tmod (shr .i64 v ((5 - q : Nat) : Int)) 2 = t := by
      unfold shr
      rw [Int.toNat_natCast, Nat.min_eq_left (by show _ ≤ 64; omega), Int.tmod_eq_emod_of_nonneg (Int.ediv_nonneg hv0.1 (Int.pow_nonneg (by decide))), ht]
    rw [hv, wt, wr_id (2 * n) (by omega) (by omega), wr_id (2 * n + t) (by omega) (by omega), if_pos g4]
    by_cases h8 : i % 8 = 7
    · rw [if_pos h8] at hout
      rw [if_pos (by omega), if_pos g5, hout.1, hout.2, g6]
    · rw [if_neg h8] at hout
      rw [if_neg (by omega), hout.1, hout.2]
theorem six (v : Int) (h : 0 ≤ v ∧ v < 64) : v = 2 * (2 * (2 * (2 * (2 * (v / 2 ^ 5 % 2) + v / 2 ^ 4 % 2) + v / 2 ^ 3 % 2) + v / 2 ^ 2 % 2) + v / 2 ^ 1 % 2) + v / 2 ^ 0 % 2 := by
  simp; omega
set_option maxHeartbeats 4000000 in
/-- Six bits: a digit. -/
theorem l2_digit {s : ByteArray} {E k : Nat} {out : List Int} {b : Int} {r : List Int × Int} (hs : s.size ≤ 1000000000) (hE : E ≤ s.size) (hk : k < E) (hlt : k < s.size) (hd : dig s[k] ≠ 0) (hb : 0 ≤ b ∧ b < pw k) (ho : out.length ≤ 10000000000)
    (h : Ev (fun z => Pr.vidimusref22_Decode.l2 z s (E : Int) (out ++ em k (b * 64 + (dig s[k] - 1))) (nb k (b * 64 + (dig s[k] - 1))) ((6 * (k + 1) : Nat) : Int)) r) : Ev (fun z => Pr.vidimusref22_Decode.l2 z s (E : Int) out b ((6 * k : Nat) : Int)) r := by
  have hr := dig_range s[k]
  obtain ⟨v, hv⟩ : ∃ v, dig s[k] - 1 = v := ⟨_, rfl⟩
  have hv0 : 0 ≤ v ∧ v < 64 := by omega
  have h6 := six v hv0
  rw [hv] at h
  obtain ⟨t0, h0⟩ : ∃ t, v / 2 ^ 5 % 2 = t := ⟨_, rfl⟩
  obtain ⟨t1, h1⟩ : ∃ t, v / 2 ^ 4 % 2 = t := ⟨_, rfl⟩
  obtain ⟨t2, h2⟩ : ∃ t, v / 2 ^ 3 % 2 = t := ⟨_, rfl⟩
  obtain ⟨t3, h3⟩ : ∃ t, v / 2 ^ 2 % 2 = t := ⟨_, rfl⟩
  obtain ⟨t4, h4⟩ : ∃ t, v / 2 ^ 1 % 2 = t := ⟨_, rfl⟩
  obtain ⟨t5, h5⟩ : ∃ t, v / 2 ^ 0 % 2 = t := ⟨_, rfl⟩
  rw [h0, h1, h2, h3, h4, h5] at h6
  have r0 : 0 ≤ t0 ∧ t0 < 2 := by omega
  have r1 : 0 ≤ t1 ∧ t1 < 2 := by omega
  have r2 : 0 ≤ t2 ∧ t2 < 2 := by omega
  have r3 : 0 ≤ t3 ∧ t3 < 2 := by omega
  have r4 : 0 ≤ t4 ∧ t4 < 2 := by omega
  have r5 : 0 ≤ t5 ∧ t5 < 2 := by omega
  unfold pw at hb
  unfold em nb at h
  rcases (show k % 4 = 0 ∨ k % 4 = 1 ∨ k % 4 = 2 ∨ k % 4 = 3 by omega) with c | c | c | c
  · simp only [c, if_pos] at hb h
    obtain rfl : b = 0 := by omega
    refine l2_step (q := 0) hs hE hk (by omega) (by omega) hlt hv hv0 h0 (by omega) (by omega) (by rw [if_neg (by omega)]; exact ⟨rfl, rfl⟩) ?_
    refine l2_step (q := 1) hs hE hk (by omega) (by omega) hlt hv hv0 h1 (by omega) (by omega) (by rw [if_neg (by omega)]; exact ⟨rfl, rfl⟩) ?_
    refine l2_step (q := 2) hs hE hk (by omega) (by omega) hlt hv hv0 h2 (by omega) (by omega) (by rw [if_neg (by omega)]; exact ⟨rfl, rfl⟩) ?_
    refine l2_step (q := 3) hs hE hk (by omega) (by omega) hlt hv hv0 h3 (by omega) (by omega) (by rw [if_neg (by omega)]; exact ⟨rfl, rfl⟩) ?_
    refine l2_step (q := 4) hs hE hk (by omega) (by omega) hlt hv hv0 h4 (by omega) (by omega) (by rw [if_neg (by omega)]; exact ⟨rfl, rfl⟩) ?_
    refine l2_step (q := 5) hs hE hk (by omega) (by omega) hlt hv hv0 h5 (by omega) (by omega) (by rw [if_neg (by omega)]; exact ⟨rfl, rfl⟩) ?_
    rw [List.append_nil] at h
    rw [show 6 * k + 1 + 1 + 1 + 1 + 1 + 1 = 6 * (k + 1) by omega, show 2 * (2 * (2 * (2 * (2 * (2 * 0 + t0) + t1) + t2) + t3) + t4) + t5 = 0 * 64 + v by omega]
    exact h
  · simp only [c] at hb h
    simp only [show ((1 : Nat) = 0) = False by simp, if_false, if_true] at hb h
    refine l2_step (q := 0) hs hE hk (by omega) (by omega) hlt hv hv0 h0 (by omega) (by omega) (by rw [if_neg (by omega)]; exact ⟨rfl, rfl⟩) ?_
    refine l2_step (q := 1) hs hE hk (by omega) (by omega) hlt hv hv0 h1 (by omega) (by omega) (by rw [if_pos (by omega)]; exact ⟨rfl, rfl⟩) ?_
    refine l2_step (q := 2) hs hE hk (by omega) (by omega) hlt hv hv0 h2 (by omega) (by simp; omega) (by rw [if_neg (by omega)]; exact ⟨rfl, rfl⟩) ?_
    refine l2_step (q := 3) hs hE hk (by omega) (by omega) hlt hv hv0 h3 (by omega) (by simp; omega) (by rw [if_neg (by omega)]; exact ⟨rfl, rfl⟩) ?_
    refine l2_step (q := 4) hs hE hk (by omega) (by omega) hlt hv hv0 h4 (by omega) (by simp; omega) (by rw [if_neg (by omega)]; exact ⟨rfl, rfl⟩) ?_
    refine l2_step (q := 5) hs hE hk (by omega) (by omega) hlt hv hv0 h5 (by omega) (by simp; omega) (by rw [if_neg (by omega)]; exact ⟨rfl, rfl⟩) ?_
    rw [show 6 * k + 1 + 1 + 1 + 1 + 1 + 1 = 6 * (k + 1) by omega, show 2 * (2 * b + t0) + t1 = (b * 64 + v) / 16 by omega, show 2 * (2 * (2 * (2 * 0 + t2) + t3) + t4) + t5 = (b * 64 + v) % 16 by omega]
    exact h
  · simp only [c] at hb h
    simp only [show ((2 : Nat) = 0) = False by simp, show ((2 : Nat) = 1) = False by simp, if_false, if_true] at hb h
    refine l2_step (q := 0) hs hE hk (by omega) (by omega) hlt hv hv0 h0 (by omega) (by omega) (by rw [if_neg (by omega)]; exact ⟨rfl, rfl⟩) ?_
    refine l2_step (q := 1) hs hE hk (by omega) (by omega) hlt hv hv0 h1 (by omega) (by omega) (by rw [if_neg (by omega)]; exact ⟨rfl, rfl⟩) ?_
    refine l2_step (q := 2) hs hE hk (by omega) (by omega) hlt hv hv0 h2 (by omega) (by omega) (by rw [if_neg (by omega)]; exact ⟨rfl, rfl⟩) ?_
    refine l2_step (q := 3) hs hE hk (by omega) (by omega) hlt hv hv0 h3 (by omega) (by omega) (by rw [if_pos (by omega)]; exact ⟨rfl, rfl⟩) ?_
    refine l2_step (q := 4) hs hE hk (by omega) (by omega) hlt hv hv0 h4 (by omega) (by simp; omega) (by rw [if_neg (by omega)]; exact ⟨rfl, rfl⟩) ?_
    refine l2_step (q := 5) hs hE hk (by omega) (by omega) hlt hv hv0 h5 (by omega) (by simp; omega) (by rw [if_neg (by omega)]; exact ⟨rfl, rfl⟩) ?_
    rw [show 6 * k + 1 + 1 + 1 + 1 + 1 + 1 = 6 * (k + 1) by omega, show 2 * (2 * (2 * (2 * b + t0) + t1) + t2) + t3 = (b * 64 + v) / 4 by omega, show 2 * (2 * 0 + t4) + t5 = (b * 64 + v) % 4 by omega]
    exact h
  · simp only [c] at hb h
    simp only [show ((3 : Nat) = 0) = False by simp, show ((3 : Nat) = 1) = False by simp, show ((3 : Nat) = 2) = False by simp, if_false, if_true] at hb h
    refine l2_step (q := 0) hs hE hk (by omega) (by omega) hlt hv hv0 h0 (by omega) (by omega) (by rw [if_neg (by omega)]; exact ⟨rfl, rfl⟩) ?_
    refine l2_step (q := 1) hs hE hk (by omega) (by omega) hlt hv hv0 h1 (by omega) (by omega) (by rw [if_neg (by omega)]; exact ⟨rfl, rfl⟩) ?_
    refine l2_step (q := 2) hs hE hk (by omega) (by omega) hlt hv hv0 h2 (by omega) (by omega) (by rw [if_neg (by omega)]; exact ⟨rfl, rfl⟩) ?_
    refine l2_step (q := 3) hs hE hk (by omega) (by omega) hlt hv hv0 h3 (by omega) (by omega) (by rw [if_neg (by omega)]; exact ⟨rfl, rfl⟩) ?_
    refine l2_step (q := 4) hs hE hk (by omega) (by omega) hlt hv hv0 h4 (by omega) (by omega) (by rw [if_neg (by omega)]; exact ⟨rfl, rfl⟩) ?_
    refine l2_step (q := 5) hs hE hk (by omega) (by omega) hlt hv hv0 h5 (by omega) (by omega) (by rw [if_pos (by omega)]; exact ⟨rfl, rfl⟩) ?_
    rw [show 6 * k + 1 + 1 + 1 + 1 + 1 + 1 = 6 * (k + 1) by omega, show 2 * (2 * (2 * (2 * (2 * (2 * b + t0) + t1) + t2) + t3) + t4) + t5 = b * 64 + v by omega]
    exact h
theorem l2_ev' (s : ByteArray) (hs : s.size ≤ 1000000000) (E : Nat) (hE : E ≤ s.size) (hok : okL (s.data.toList.take E) = true) : ∀ d k b out, k + d = E → 0 ≤ b ∧ b < pw k → out.length = 6 * k / 8 →
    Ev (fun z => Pr.vidimusref22_Decode.l2 z s (E : Int) out b ((6 * k : Nat) : Int)) (finD (dgo ((s.data.toList.take E).drop k) k b out)) := by
  have hsz : s.data.toList.length = s.size := by rw [Array.length_toList]; rfl
  intro d
  induction d with
  | zero =>
    intro k b out hk hb ho
    obtain rfl : k = E := by omega
    rw [List.drop_eq_nil_of_le (by rw [List.length_take]; omega), dgo]
    refine Ev.step (fun z => ?_) (Ev.now _)
    simp only [Pr.vidimusref22_Decode.l2]
    rw [wr_id (6 * (k : Int)) (by omega) (by omega), if_neg (by omega)]
    unfold finD
    simp only
    by_cases h : b = 0
    · rw [if_pos h, if_pos h]
    · rw [if_neg h, if_neg h]
  | succ d ih =>
    intro k b out hk hb ho
    have hlt : k < s.size := by omega
    have hlk : k < (s.data.toList.take E).length := by rw [List.length_take]; omega
    have he : (s.data.toList.take E)[k]'hlk = s[k] := by rw [List.getElem_take]; rfl
    have hd : dig s[k] ≠ 0 := by
      have := List.all_eq_true.1 hok ((s.data.toList.take E)[k]'hlk) (List.getElem_mem hlk)
      rw [he] at this
      simpa using this
    have hdr : (s.data.toList.take E).drop k = s[k] :: (s.data.toList.take E).drop (k + 1) := by
      rw [List.drop_eq_getElem_cons hlk, he]
    rw [hdr, dgo, if_neg hd]
    have hr := dig_range s[k]
    refine l2_digit hs hE (by omega) hlt hd hb (by omega) (ih (k + 1) _ _ (by omega) (nb_range k b _ hb.1 hb.2 (by omega) hr.2) ?_)
    rw [List.length_append, ho]
    exact em_len k _
/-- The reference's Decode is the code's. -/
theorem refDecode_ev (s : ByteArray) (hs : s.size ≤ 1000000000) : Ev (fun k => Pr.vidimusref22_Decode.f k s) (decP s.data.toList) := by
  have hsz : s.data.toList.length = s.size := by rw [Array.length_toList]; rfl
  unfold Pr.vidimusref22_Decode.f decP
  rw [hsz]
  by_cases h4 : s.size % 4 = 0
  · rw [if_pos h4]
    refine Ev.congr (fun k => if_pos (by omega)) ?_
    refine dec0_ev s hs _ (Ev.step (f := fun k => Pr.vidimusref22_Decode.l1 k s (endE s.data.toList : Int) ((0 : Nat) : Int)) (fun k => rfl) ?_)
    have hE : endE s.data.toList ≤ s.size := by have := trimE_len s.data.toList; unfold endE; omega
    refine l1_ev s hs _ hE _ (fun h => ?_) (fun h => ?_) (endE s.data.toList) 0 (by omega) rfl
    · rw [trimE_take, dgo_none _ _ _ _ h]; rfl
    · have := l2_ev' s hs _ hE h (endE s.data.toList) 0 0 [] (by omega) (by simp [pw]) rfl
      rw [List.drop_zero, ← trimE_take] at this
      exact this
  · rw [if_neg h4]
    exact Ev.congr (fun k => if_neg (by omega)) (Ev.now _)
end Go.Proofs.Ytbdccfjeeabpaaa
