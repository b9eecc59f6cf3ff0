/- Chapter 10 (times): the reference's Of, in plain data (no walk here). -/
import Derived.Test.YtbncjjobdipmgaaDoorXg
namespace Go.Proofs.YtbncjjobdipmgaaDoor
open Go.RowKit Pl

theorem five_inv {l0 : List UInt8} (h0 : 0 ≤ vk l0 0) (h1 : 0 ≤ vk l0 1) (h2 : 0 ≤ vk l0 2) (h3 : 0 ≤ vk l0 3) (h4 : 0 ≤ vk l0 4) (hm : mst 90 (lk l0 5) = true) (hl : l0.length = 11) :
    l0 = five5 (vk l0 0) (vk l0 1) (vk l0 2) (vk l0 3) (vk l0 4) := by
  obtain ⟨q0, u0⟩ := rd2_inv (l := lk l0 0) h0
  obtain ⟨q1, u1⟩ := rd2_inv (l := lk l0 1) h1
  obtain ⟨q2, u2⟩ := rd2_inv (l := lk l0 2) h2
  obtain ⟨q3, u3⟩ := rd2_inv (l := lk l0 3) h3
  obtain ⟨q4, u4⟩ := rd2_inv (l := lk l0 4) h4
  have m5 : rdr 2 (lk l0 4) = 90 :: msr 90 (lk l0 5) := mst_inv hm
  have hp : l0 = dg 2 (vk l0 0) ++ (dg 2 (vk l0 1) ++ (dg 2 (vk l0 2) ++ (dg 2 (vk l0 3) ++ (dg 2 (vk l0 4) ++ (90 :: msr 90 (lk l0 5)))))) := by
    show lk l0 0 = _
    have e3 : rdr 2 (lk l0 3) = lk l0 4 := rfl
    have e2 : rdr 2 (lk l0 2) = lk l0 3 := rfl
    have e1 : rdr 2 (lk l0 1) = lk l0 2 := rfl
    have e0 : rdr 2 (lk l0 0) = lk l0 1 := rfl
    rw [m5] at q4; rw [e3, q4] at q3; rw [e2, q3] at q2; rw [e1, q2] at q1; rw [e0, q1] at q0
    exact q0
  have hn : msr 90 (lk l0 5) = [] := by
    have := congrArg List.length hp
    rw [hl] at this
    simp [dg2_len (vk l0 0) h0 u0, dg2_len (vk l0 1) h1 u1, dg2_len (vk l0 2) h2 u2, dg2_len (vk l0 3) h3 u3, dg2_len (vk l0 4) h4 u4] at this
    exact List.eq_nil_of_length_eq_zero (by omega)
  rw [hn] at hp
  exact hp

theorem ofG_or (u : Bool) (l l0 : List UInt8) (Y : Int) : ((l.length = (if u then 13 else 15) ∧ mst 90 (lk l0 5) = true ∧ okB Y (vk l0 0) (vk l0 1) (vk l0 2) (vk l0 3) (vk l0 4) = true ∧ ¬ (u = false ∧ 1950 ≤ Y ∧ Y ≤ 2049)) ∧ ofG u l Y l0 = (⟨Y, vk l0 0, vk l0 1, vk l0 2, vk l0 3, vk l0 4⟩, 0)) ∨ ofG u l Y l0 = (Tm.zero, 11) := by
  by_cases hc : l.length = (if u then 13 else 15) ∧ mst 90 (lk l0 5) = true ∧ okB Y (vk l0 0) (vk l0 1) (vk l0 2) (vk l0 3) (vk l0 4) = true ∧ ¬ (u = false ∧ 1950 ≤ Y ∧ Y ≤ 2049)
  · left; exact ⟨hc, by unfold ofG; rw [if_pos hc]⟩
  · right; unfold ofG; rw [if_neg hc]
theorem zero_no {t : Tm} (h : (Tm.zero, (11 : Int)) = (t, 0)) : False := absurd (Prod.mk.inj h).2 (by decide)
theorem ok_of {y mo d h mi s : Int} (hk : okB y mo d h mi s = true) : Tm.ok ⟨y, mo, d, h, mi, s⟩ = true := hk
theorem adj_bd {v : Int} (h0 : 0 ≤ v) (h1 : v ≤ 99) : 1950 ≤ adj v ∧ adj v ≤ 2049 ∧ adj v % 100 = v := by
  unfold adj
  rw [if_neg (by omega)]
  split <;> omega
theorem adj_neg {v : Int} (h : 0 ≤ adj v) : 0 ≤ v := by
  unfold adj at h
  split at h <;> omega
theorem of_inv {num : Int} (hn : num = 23 ∨ num = 24) {l : List UInt8} {t : Tm} (h : ofF num l = (t, 0)) : t.ok = true ∧ elNum t.y = num ∧ elL t.y t.mo t.d t.h t.mi t.s = l := by
  rcases hn with rfl | rfl
  · have h : ofU l = (t, 0) := h
    unfold ofU at h
    rcases ofG_or true l (rdr 2 l) (adj (rdv 2 l)) with ⟨hc, e⟩ | e
    · rw [e] at h
      obtain ⟨hl, hm, hk, _⟩ := hc
      have hl : l.length = 13 := hl
      obtain rfl := (Prod.mk.inj h).1
      have hb := okB_bounds hk
      have hv : 0 ≤ rdv 2 l := adj_neg hb.1
      obtain ⟨q, u⟩ := rd2_inv hv
      have hlen : (rdr 2 l).length = 11 := by
        have := congrArg List.length q
        rw [List.length_append, dg2_len _ hv u] at this
        omega
      have h5 := five_inv (l0 := rdr 2 l) (by omega) (by omega) (by omega) (by omega) (by omega) hm hlen
      have hy := adj_bd hv u
      refine ⟨ok_of hk, ?_, ?_⟩
      · show elNum (adj (rdv 2 l)) = 23
        unfold elNum
        rw [if_pos ⟨hy.1, hy.2.1⟩]
      · show elL (adj (rdv 2 l)) _ _ _ _ _ = l
        rw [elL_eq, if_pos ⟨hy.1, hy.2.1⟩, drop_dg' _ hb.1 hb.2.1, hy.2.2, ← h5]
        exact q.symm
    · rw [e] at h; exact (zero_no h).elim
  · have h : ofN l = (t, 0) := h
    unfold ofN at h
    rcases ofG_or false l (rdr 4 l) (rdv 4 l) with ⟨hc, e⟩ | e
    · rw [e] at h
      obtain ⟨hl, hm, hk, hg⟩ := hc
      have hl : l.length = 15 := hl
      obtain rfl := (Prod.mk.inj h).1
      have hb := okB_bounds hk
      obtain ⟨q, u⟩ := rd4_inv hb.1
      have hlen : (rdr 4 l).length = 11 := by
        have := congrArg List.length q
        rw [List.length_append, dg4_len _ hb.1 u] at this
        omega
      have h5 := five_inv (l0 := rdr 4 l) (by omega) (by omega) (by omega) (by omega) (by omega) hm hlen
      have hy : ¬ (1950 ≤ rdv 4 l ∧ rdv 4 l ≤ 2049) := fun h => hg ⟨rfl, h⟩
      refine ⟨ok_of hk, ?_, ?_⟩
      · show elNum (rdv 4 l) = 24
        unfold elNum
        rw [if_neg hy]
      · show elL (rdv 4 l) _ _ _ _ _ = l
        rw [elL_eq, if_neg hy, ← h5]
        exact q.symm
    · rw [e] at h; exact (zero_no h).elim
/-- The text with a whole year; the time that stands in its places. -/
def wide (num : Int) (l : List UInt8) : List UInt8 := if num = 23 ∧ l.length = 13 then (if (l.getD 0 0).toNat < 53 then [50, 48] else [49, 57]) ++ l else l
def refE (s : List UInt8) : Tm := ⟨numA (cut s 0 4) 0, numA (cut s 4 2) 0, numA (cut s 6 2) 0, numA (cut s 8 2) 0, numA (cut s 10 2) 0, numA (cut s 12 2) 0⟩
theorem refE_elem (y mo d h mi s : Int) (hk : okB y mo d h mi s = true) : refE (dg 4 y ++ five5 mo d h mi s) = ⟨y, mo, d, h, mi, s⟩ := by
  obtain ⟨b0, b1, b2, b3, b4, _, b5, b6, b7, b8, b9, b10, b11⟩ := okB_bounds hk
  unfold five5 refE
  rw [dg4 y b0 b1, dg2 mo (by omega) (by omega), dg2 d (by omega) (by omega), dg2 h b6 (by omega), dg2 mi b8 (by omega), dg2 s b10 (by omega)]
  have e0 := num_dg4 y b0 b1
  have e1 := num_dg2 mo (by omega) (by omega)
  have e2 := num_dg2 d (by omega) (by omega)
  have e3 := num_dg2 h b6 (by omega)
  have e4 := num_dg2 mi b8 (by omega)
  have e5 := num_dg2 s b10 (by omega)
  refine Tm.mk.injEq .. |>.mpr ⟨e0, e1, e2, e3, e4, e5⟩
theorem wide_elem (y mo d h mi s : Int) (hk : okB y mo d h mi s = true) : wide (elNum y) (elL y mo d h mi s) = dg 4 y ++ five5 mo d h mi s := by
  obtain ⟨b0, b1, b2, b3, b4, _, b5, b6, b7, b8, b9, b10, b11⟩ := okB_bounds hk
  have hl := five_len mo d h mi s (by omega) (by omega) (by omega) (by omega) (by omega) (by omega) (by omega) (by omega) (by omega) (by omega)
  rw [elL_eq]
  unfold wide elNum
  by_cases hy : 1950 ≤ y ∧ y ≤ 2049
  · rw [if_pos hy, if_pos hy, drop_dg' y b0 b1, if_pos ⟨rfl, by rw [List.length_append, hl, dg2_len _ (by omega) (by omega)]⟩, dg2 (y % 100) (by omega) (by omega), dg4 y b0 b1]
    have hc : (ch (y % 100 / 10)).toNat = (48 + y % 100 / 10).toNat := by
      have := ch_nat (k := y % 100 / 10) (by omega) (by omega)
      omega
    show (if (ch (y % 100 / 10)).toNat < 53 then [50, 48] else [49, 57]) ++ _ = _
    rw [hc, show y / 10 % 10 = y % 100 / 10 by omega, show y % 10 = y % 100 % 10 by omega]
    by_cases h5 : y < 2000
    · rw [if_neg (by omega), show y / 1000 = 1 by omega, show y / 100 % 10 = 9 by omega]; rfl
    · rw [if_pos (by omega), show y / 1000 = 2 by omega, show y / 100 % 10 = 0 by omega]; rfl
  · rw [if_neg hy, if_neg hy, if_neg (by simp)]
theorem of_one {num : Int} (hn : num = 23 ∨ num = 24) (l : List UInt8) : (∃ t, ofF num l = (t, 0)) ∨ ofF num l = (Tm.zero, 11) := by
  rcases hn with rfl | rfl
  · show (∃ t, ofU l = (t, 0)) ∨ ofU l = _
    rcases ofG_or true l (rdr 2 l) (adj (rdv 2 l)) with ⟨_, e⟩ | e
    · exact .inl ⟨_, e⟩
    · exact .inr e
  · show (∃ t, ofN l = (t, 0)) ∨ ofN l = _
    rcases ofG_or false l (rdr 4 l) (rdv 4 l) with ⟨_, e⟩ | e
    · exact .inl ⟨_, e⟩
    · exact .inr e
theorem of_ref {num : Int} (hn : num = 23 ∨ num = 24) (l : List UInt8) (t : Tm) (ht : refE (wide num l) = t) :
    ofF num l = if (wide num l).length = 15 ∧ t.ok = true ∧ elNum t.y = num ∧ elL t.y t.mo t.d t.h t.mi t.s = l then (t, 0) else (Tm.zero, 11) := by
  rcases of_one hn l with ⟨u, h⟩ | h
  · obtain ⟨hk, he, hl⟩ := of_inv hn h
    have hw : wide num l = dg 4 u.y ++ five5 u.mo u.d u.h u.mi u.s := by rw [← he, ← hl]; exact wide_elem _ _ _ _ _ _ hk
    have hu : t = u := by rw [← ht, hw]; exact refE_elem _ _ _ _ _ _ hk
    subst hu
    have hb := okB_bounds (show okB t.y t.mo t.d t.h t.mi t.s = true from hk)
    have h5 := five_len t.mo t.d t.h t.mi t.s (by omega) (by omega) (by omega) (by omega) (by omega) (by omega) (by omega) (by omega) (by omega) (by omega)
    rw [if_pos ⟨by rw [hw, List.length_append, h5, dg4_len _ hb.1 hb.2.1], hk, he, hl⟩]
    exact h
  · rw [h]
    split
    · rename_i hc
      obtain ⟨_, hk, he, hl⟩ := hc
      have := (of_elem t.y t.mo t.d t.h t.mi t.s hk).1
      rw [he, hl, h] at this
      exact absurd (Prod.mk.inj this).2 (by decide)
    · rfl
end Go.Proofs.YtbncjjobdipmgaaDoor
