/- Chapter 2 (tags): Parse and the reference's Parse agree; the plain law of TagsText, its walk joined. -/
import Derived.Test.YtpdomckacfeffaaDoorLq
import Derived.Test.YtpdomckacfeffaaDoorLo
namespace Go.Proofs.YtpdomckacfeffaaDoor
open Go.RowKit Go.Shelf
open Go.Proofs.YtpdomckacfeffaaDoorW.PrintWords (rd at_rounds rdOf bt Ev)
set_option linter.unusedSimpArgs false
set_option linter.unusedVariables false

theorem uniq1 : ∀ (a b x y : List UInt8), (∀ c ∈ a, c ≠ 32) → (∀ c ∈ b, c ≠ 32) → a ++ 32 :: x = b ++ 32 :: y → a = b ∧ x = y
  | [], [], x, y, _, _, h => ⟨rfl, by simpa using h⟩
  | [], c :: b, x, y, _, hb, h => by
    injection h with h1 _
    exact absurd h1.symm (hb c (by simp))
  | c :: a, [], x, y, ha, _, h => by
    injection h with h1 _
    exact absurd h1 (ha c (by simp))
  | c :: a, d :: b, x, y, ha, hb, h => by
    injection h with h1 h2
    obtain ⟨e1, e2⟩ := uniq1 a b x y (fun z hz => ha z (by simp [hz])) (fun z hz => hb z (by simp [hz])) h2
    exact ⟨by rw [h1, e1], e2⟩
theorem no32 {a : List UInt8} (h : ∀ c ∈ a, c ≠ 32) {b y : List UInt8} (e : a = b ++ 32 :: y) : False := h 32 (by rw [e]; simp) rfl
theorem uniq2 (a b r s : List UInt8) (ha : ∀ c ∈ a, c ≠ 32) (hb : ∀ c ∈ b, c ≠ 32) (hr : r = [] ∨ ∃ t, r = 32 :: t) (hs : s = [] ∨ ∃ t, s = 32 :: t) (h : a ++ r = b ++ s) : a = b ∧ r = s := by
  rcases hr with rfl | ⟨t, rfl⟩
  · rcases hs with rfl | ⟨u, rfl⟩
    · exact ⟨by simpa using h, rfl⟩
    · exact (no32 ha (by simpa using h)).elim
  · rcases hs with rfl | ⟨u, rfl⟩
    · exact (no32 hb (by simpa using h.symm)).elim
    · obtain ⟨e1, e2⟩ := uniq1 a b t u ha hb h
      exact ⟨e1, by rw [e2]⟩
theorem cname32 (cl : Int) : ∀ c ∈ cname cl, c ≠ 32 := by
  unfold cname
  repeat' split
  all_goals decide
theorem cname_inj (a b : Int) (a0 : 0 ≤ a) (a1 : a ≤ 3) (b0 : 0 ≤ b) (b1 : b ≤ 3) (h : cname a = cname b) : a = b := by
  obtain rfl | rfl | rfl | rfl : a = 0 ∨ a = 1 ∨ a = 2 ∨ a = 3 := by omega
  all_goals (obtain rfl | rfl | rfl | rfl : b = 0 ∨ b = 1 ∨ b = 2 ∨ b = 3 := by omega)
  all_goals first | rfl | (exact absurd h (by decide))
theorem dd32 (u : Nat) : ∀ c ∈ Lib.decDigits u, c ≠ 32 := fun c hc e => by
  have := dd_digit u c hc
  rw [e] at this
  exact absurd this.1 (by decide)
def suf (co : Bool) : List UInt8 := if co then sfx else []
theorem suf_form (co : Bool) : suf co = [] ∨ ∃ t, suf co = 32 :: t := by
  cases co
  · exact .inl rfl
  · exact .inr ⟨_, rfl⟩
theorem txt_form (cl : Int) (co : Bool) (u : Nat) : txt cl co (u : Int) = cname cl ++ 32 :: (Lib.decDigits u ++ suf co) := by
  unfold txt suf
  rw [itoa_nat _ (by omega), Int.toNat_natCast]
  simp
theorem suf_inj {a b : Bool} (h : suf a = suf b) : a = b := by
  cases a <;> cases b <;> first | rfl | (exact absurd h (by decide))
structure Good (l : List UInt8) (cl : Int) (co : Bool) (u : Nat) : Prop where
  c0 : 0 ≤ cl
  c1 : cl ≤ 3
  u1 : u ≤ 268435455
  e : l = cname cl ++ 32 :: (Lib.decDigits u ++ suf co)
theorem cidx_cname (cl : Int) (h0 : 0 ≤ cl) (h1 : cl ≤ 3) : cidx (cname cl) = cl := by
  obtain rfl | rfl | rfl | rfl : cl = 0 ∨ cl = 1 ∨ cl = 2 ∨ cl = 3 := by omega
  all_goals decide
theorem has_suf (x : List UInt8) : Lib.hasSuffix (x ++ sfx) sfx = true := by
  unfold Lib.hasSuffix
  rw [List.isSuffixOf_iff_suffix]
  exact List.suffix_append _ _
theorem has_not (y : List UInt8) (u : Nat) : Lib.hasSuffix (y ++ Lib.decDigits u) sfx = false := by
  rw [Bool.eq_false_iff]
  intro h
  unfold Lib.hasSuffix at h
  rw [List.isSuffixOf_iff_suffix] at h
  obtain ⟨z, hz⟩ := h
  have h1 : (z ++ sfx).getLast? = some 100 := by rw [List.getLast?_append]; rfl
  rw [hz, List.getLast?_append] at h1
  cases hg : (Lib.decDigits u).getLast? with
  | none => exact dd_ne u (List.getLast?_eq_none_iff.mp hg)
  | some c =>
    rw [hg] at h1
    have hc : c = 100 := by simpa using h1
    have := dd_digit u c (List.mem_of_getLast? hg)
    rw [hc] at this
    exact absurd this.2 (by decide)
theorem cut_at (a b : List UInt8) (ha : ∀ c ∈ a, c ≠ 32) : Lib.cut (a ++ 32 :: b) [32] = (a, b, true) := by
  have hi : Lib.index (a ++ 32 :: b) [32] = (a.length : Int) := by
    refine Lib.index_first (i := a.length) (by simp) (by simp [Lib.occAt]) (fun j hj => ?_)
    rw [Bool.eq_false_iff]
    intro h
    have := Lib.occAt_head rfl h
    rw [List.getElem?_append_left hj, List.getElem?_eq_getElem hj] at this
    exact ha _ (List.getElem_mem hj) (by simpa using this)
  unfold Lib.cut
  rw [hi, if_pos (by omega), Int.toNat_natCast]
  simp
theorem cut_was (s : List UInt8) (h : (Lib.cut s [32]).2.1 ≠ []) : s = (Lib.cut s [32]).1 ++ 32 :: (Lib.cut s [32]).2.1 := by
  unfold Lib.cut at h ⊢
  by_cases hi : 0 ≤ Lib.index s [32]
  · rw [if_pos hi]
    rcases Lib.index_spec s [32] with ⟨h1, _⟩ | ⟨i, h1, h2, h3, _⟩
    · omega
    · rw [h1, Int.toNat_natCast]
      have hh := Lib.occAt_head rfl h3
      have hlt : i < s.length := by
        by_cases hlt : i < s.length
        · exact hlt
        · rw [List.getElem?_eq_none (by omega)] at hh; cases hh
      rw [List.getElem?_eq_getElem hlt] at hh
      have hx : s[i] = 32 := by simpa using hh
      have : s = s.take i ++ s.drop i := (List.take_append_drop i s).symm
      conv => lhs; rw [this, List.drop_eq_getElem_cons hlt, hx]
      simp
  · rw [if_neg hi] at h
    exact absurd rfl h
theorem trim_was (s p : List UInt8) : s = Lib.trimSuffix s p ++ (if Lib.hasSuffix s p then p else []) := by
  unfold Lib.trimSuffix
  by_cases h : Lib.hasSuffix s p = true
  · rw [if_pos h, if_pos h]
    unfold Lib.hasSuffix at h
    rw [List.isSuffixOf_iff_suffix] at h
    obtain ⟨z, rfl⟩ := h
    simp
  · rw [if_neg h, if_neg h]; simp
theorem trim_suf (x : List UInt8) (co : Bool) (u : Nat) : Lib.trimSuffix (x ++ Lib.decDigits u ++ suf co) sfx = x ++ Lib.decDigits u ∧ Lib.hasSuffix (x ++ Lib.decDigits u ++ suf co) sfx = co := by
  cases co
  · have := has_not x u
    unfold suf Lib.trimSuffix
    simp only [Bool.false_eq_true, if_false, List.append_nil, this]
    exact ⟨trivial, trivial⟩
  · have := has_suf (x ++ Lib.decDigits u)
    unfold suf Lib.trimSuffix
    simp only [if_true, this]
    refine ⟨?_, trivial⟩
    rw [show (x ++ Lib.decDigits u ++ sfx).length - sfx.length = (x ++ Lib.decDigits u).length by rw [List.length_append]; omega]
    exact List.take_left
theorem prs_good (l : List UInt8) (cl : Int) (co : Bool) (u : Nat) (g : Good l cl co u) : prs l = ((if chk cl co (u : Int) = 0 then ((cl, co, (u : Int)), 0) else ((0, false, 0), chk cl co (u : Int)))) := by
  obtain ⟨c0, c1, u1, rfl⟩ := g
  have e : cname cl ++ 32 :: (Lib.decDigits u ++ suf co) = (cname cl ++ [32]) ++ Lib.decDigits u ++ suf co := by simp
  obtain ⟨h1, h2⟩ := trim_suf (cname cl ++ [32]) co u
  have hcut := cut_at (cname cl) (Lib.decDigits u) (cname32 cl)
  unfold prs pdig pcls pbase
  rw [e, h1, h2, show cname cl ++ [32] ++ Lib.decDigits u = cname cl ++ 32 :: Lib.decDigits u by simp, hcut]
  simp only [atoi_dd u (by omega), cidx_cname cl c0 c1]
  rw [if_neg (by
    rintro (h | h | h | h)
    · omega
    · omega
    · omega
    · exact h (by rw [itoa_nat _ (by omega), Int.toNat_natCast]))]
theorem prs_cases (l : List UInt8) : (∃ cl co u, Good l cl co u) ∨ prs l = ((0, false, 0), 6) := by
  unfold prs
  split
  · rename_i n hn
    split
    · exact .inr rfl
    · rename_i hc
      left
      have hk : ¬ cidx (pcls l) < 0 := fun h => hc (.inl h)
      have n0 : 0 ≤ n := by
        by_cases h : n < 0
        · exact absurd (.inr (.inl h)) hc
        · omega
      have n1 : n ≤ 268435455 := by
        by_cases h : 268435455 < n
        · exact absurd (.inr (.inr (.inl h))) hc
        · omega
      have hi : Lib.itoa n = pdig l := Classical.byContradiction fun h => hc (.inr (.inr (.inr h)))
      rcases cidx_bd (pcls l) with h | ⟨k0, k1, hk2⟩
      · omega
      rw [itoa_nat n n0] at hi
      have hne : pdig l ≠ [] := by rw [← hi]; exact dd_ne _
      have h1 := cut_was (pbase l) hne
      have h2 := trim_was l sfx
      refine ⟨cidx (pcls l), Lib.hasSuffix l sfx, n.toNat, ⟨k0, k1, by omega, ?_⟩⟩
      rw [hk2, hi]
      conv => lhs; rw [h2]
      show pbase l ++ _ = _
      conv => lhs; rw [h1]
      show pcls l ++ 32 :: pdig l ++ suf (Lib.hasSuffix l sfx) = _
      simp
  · exact .inr rfl
def tup (p : (Int × Bool × Int) × Int) : PP := (p.1.1, p.1.2.1, p.1.2.2, p.2)
theorem good_no (l : List UInt8) (hl : ∀ c ∈ l, c ≠ 32) : prs l = ((0, false, 0), 6) := by
  rcases prs_cases l with ⟨cl, co, u, g⟩ | h
  · exact (no32 hl g.e).elim
  · exact h
theorem cand_none (L : List UInt8) (n cl : Int) (co : Bool) (e : PP) (h : ¬ (n ≤ 268435455 ∧ txt cl co n = L)) : cand L n cl co e = e := by unfold cand; rw [if_neg h]
theorem cands_eq (a d r : List UInt8) (ha : ∀ c ∈ a, c ≠ 32) (hd : ∀ c ∈ d, c ≠ 32) (hr : r = [] ∨ ∃ t, r = 32 :: t) :
    (open Classical in if d.length ≤ 9 ∧ ∀ c ∈ d, isD c then cands (a ++ 32 :: (d ++ r)) (val 0 d : Nat) else six) = tup (prs (a ++ 32 :: (d ++ r))) := by
  generalize hL : a ++ 32 :: (d ++ r) = L
  rcases prs_cases L with ⟨cl, co, u, g⟩ | h
  · rw [prs_good L cl co u g]
    obtain ⟨c0, c1, u1, e⟩ := g
    rw [← hL] at e
    obtain ⟨ea, e2⟩ := uniq1 _ _ _ _ ha (cname32 cl) e
    obtain ⟨ed, er⟩ := uniq2 _ _ _ _ hd (dd32 u) hr (suf_form co) e2
    subst ea ed er
    have hlen := dd_len 8 u (by omega)
    rw [if_pos ⟨hlen, fun c hc => dd_digit u c hc⟩, dd_val]
    have key : ∀ (k : Int) (b : Bool), 0 ≤ k → k ≤ 3 → ((u : Int) ≤ 268435455 ∧ txt k b (u : Int) = L) → k = cl ∧ b = co := by
      rintro k b k0 k1 ⟨_, ht⟩
      rw [txt_form, ← hL] at ht
      obtain ⟨e1, e2⟩ := uniq1 _ _ _ _ (cname32 k) (cname32 cl) ht
      obtain ⟨_, e3⟩ := uniq2 _ _ _ _ (dd32 u) (dd32 u) (suf_form b) (suf_form co) e2
      exact ⟨cname_inj k cl k0 k1 c0 c1 e1, suf_inj e3⟩
    have self : ∀ e, cand L (u : Int) cl co e = hit cl co (u : Int) := fun e => by
      unfold cand
      rw [if_pos ⟨by omega, by rw [txt_form, ← hL]⟩]
    have other : ∀ (k : Int) (b : Bool) (e : PP), 0 ≤ k → k ≤ 3 → ¬ (k = cl ∧ b = co) → cand L (u : Int) k b e = e := fun k b e k0 k1 hn => cand_none L _ k b e (fun h => hn (key k b k0 k1 h))
    have fin : cands L (u : Int) = hit cl co (u : Int) := by
      unfold cands
      obtain rfl | rfl | rfl | rfl : cl = 0 ∨ cl = 1 ∨ cl = 2 ∨ cl = 3 := by omega
      all_goals cases co
      all_goals
        repeat (first
          | rw [self]
          | rw [other 0 false _ (by omega) (by omega) (by simp)]
          | rw [other 0 true _ (by omega) (by omega) (by simp)]
          | rw [other 1 false _ (by omega) (by omega) (by simp)]
          | rw [other 1 true _ (by omega) (by omega) (by simp)]
          | rw [other 2 false _ (by omega) (by omega) (by simp)]
          | rw [other 2 true _ (by omega) (by omega) (by simp)]
          | rw [other 3 false _ (by omega) (by omega) (by simp)])
    rw [fin]
    unfold hit tup
    by_cases hc : chk cl co (u : Int) = 0
    · rw [if_pos hc, if_pos hc]
    · rw [if_neg hc, if_neg hc]
  · by_cases hg : ∃ cl co u, Good L cl co u
    · obtain ⟨cl, co, u, g⟩ := hg
      have h2 := prs_good L cl co u g
      rw [h] at h2
      exfalso
      by_cases hc : chk cl co (u : Int) = 0
      · rw [if_pos hc] at h2
        injection h2 with _ h2
        exact absurd h2 (by decide)
      · rw [if_neg hc] at h2
        injection h2 with _ h2
        unfold chk at h2
        split at h2
        · exact absurd h2 (by decide)
        · split at h2
          · exact absurd h2 (by decide)
          · exact absurd h2 (by decide)
    · rw [h]
      split
      · have hn : ∀ (k : Int) (b : Bool), 0 ≤ k → k ≤ 3 → ¬ (((val 0 d : Nat) : Int) ≤ 268435455 ∧ txt k b ((val 0 d : Nat) : Int) = L) := by
          rintro k b k0 k1 ⟨h1, h2⟩
          exact hg ⟨k, b, val 0 d, ⟨k0, k1, by omega, by rw [← h2, txt_form]⟩⟩
        unfold cands
        rw [cand_none _ _ 0 false _ (hn 0 false (by omega) (by omega)), cand_none _ _ 0 true _ (hn 0 true (by omega) (by omega)), cand_none _ _ 1 false _ (hn 1 false (by omega) (by omega)), cand_none _ _ 1 true _ (hn 1 true (by omega) (by omega)),
          cand_none _ _ 2 false _ (hn 2 false (by omega) (by omega)), cand_none _ _ 2 true _ (hn 2 true (by omega) (by omega)), cand_none _ _ 3 false _ (hn 3 false (by omega) (by omega)), cand_none _ _ 3 true _ (hn 3 true (by omega) (by omega))]
        rfl
      · rfl
/-- THE REFERENCE's PARSE IS PARSE. -/
theorem rparse_eq (L : List UInt8) (hl : L.length < 1000) : Ev (fun k => Pr.vidimusref02_Parse.f k ⟨L.toArray⟩) (tup (prs L)) := by
  obtain ⟨a, r, rfl, ha, hr⟩ := split32 L
  rcases hr with rfl | ⟨t, rfl⟩
  · rw [List.append_nil] at hl ⊢
    rw [good_no a ha]
    exact rparse_none a hl ha
  · obtain ⟨d, r2, rfl, hd, hr2⟩ := split32 t
    rw [← cands_eq a d r2 ha hd hr2]
    exact rparse_some a d r2 hl ha hd hr2
theorem lives_ev : Ev (fun _ => (Pr.vidimuslaw02_lives.f).bind fun t => some t) true := ⟨0, fun _ _ => rfl⟩
theorem text_ev (a b c : Int) (s : List UInt8) (ha : 0 ≤ a) (hb : 0 ≤ b) (hc : 0 ≤ c) : Ev (fun k => Pr.vidimuslaw02_TagsText.f k a b c ⟨s.toArray⟩) true := by
  obtain ⟨cl, co, nu, hof, c0, c1, n0, n1, hr⟩ := of_f a b c ha hb hc
  obtain ⟨K1, hrt⟩ := rtext_ev cl co nu c0 c1 n0 (by omega)
  obtain ⟨u, rfl⟩ : ∃ u : Nat, nu = (u : Int) := ⟨nu.toNat, by omega⟩
  have htx : Pr.tags_Text.f cl co u = some ⟨(txt cl co u).toArray⟩ := by unfold Pr.tags_Text.f; rw [if_pos ⟨c0, n0, hr⟩]
  have hp := prs_good (txt cl co u) cl co u ⟨c0, c1, by omega, txt_form cl co u⟩
  rw [if_pos hr] at hp
  have hlen : (txt cl co (u : Int)).length ≤ 1000 := by
    rw [txt_form]
    have h1 := cname_le cl
    have h2 := dd_len 8 u (by omega)
    have h3 : (suf co).length ≤ 12 := by cases co <;> decide
    simp only [List.length_append, List.length_cons]
    omega
  have hpa : Pr.tags_Parse.f ⟨(txt cl co u).toArray⟩ = some (cl, co, (u : Int), 0) := by
    unfold Pr.tags_Parse.f
    rw [show (⟨(txt cl co (u : Int)).toArray⟩ : ByteArray).data.toList = txt cl co u by simp, if_pos (by omega), hp]
  have hz : ((⟨s.toArray⟩ : ByteArray).size : Int) = (s.length : Int) := size_mk s
  have hj : ∃ K2, ∀ k, K2 ≤ k → Pr.vidimuslaw02_TagsText.j0 (k + 1) ⟨s.toArray⟩ false = some true := by
    by_cases h60 : (s.length : Int) > 60
    · refine ⟨0, fun k _ => ?_⟩
      rw [Pr.vidimuslaw02_TagsText.j0, if_neg (by decide), hz, if_pos h60]; rfl
    · obtain ⟨K2, hq⟩ := rparse_eq s (by omega)
      refine ⟨K2, fun k hk => ?_⟩
      have hq := hq k hk
      simp only at hq
      have hps : Pr.tags_Parse.f ⟨s.toArray⟩ = some (tup (prs s)) := by
        unfold Pr.tags_Parse.f tup
        rw [show (⟨s.toArray⟩ : ByteArray).data.toList = s by simp, if_pos (by omega)]
      rw [Pr.vidimuslaw02_TagsText.j0, if_neg (by decide), hz, if_neg h60, hps, Option.bind_some, hq, Option.bind_some, if_pos (by simp), if_pos rfl]; rfl
  obtain ⟨K2, hj⟩ := hj
  refine ⟨K1 + K2 + 10, fun k hk => ?_⟩
  obtain ⟨k, rfl⟩ : ∃ m, k = m + 1 := ⟨k - 1, by omega⟩
  have hrt := hrt (k + 1) (by omega)
  simp only at hrt
  show Pr.vidimuslaw02_TagsText.f (k + 1) a b c ⟨s.toArray⟩ = _
  unfold Pr.vidimuslaw02_TagsText.f
  rw [at_rounds (Pr.vidimuslaw02_T_Of.mono a b c) (show 4 ≤ k + 1 by omega) hof, Option.bind_some, htx, Option.bind_some, hpa, Option.bind_some, hrt, Option.bind_some, if_pos rfl, if_pos rfl]
  rw [show (!(cl == cl) || (!(co == co) || !((u : Int) == (u : Int)))) = false by simp]
  exact hj k (by omega)
theorem tagsText_walk (a b c : Int) (s : ByteArray) (w : World) (hT : Tabs w) (ha : 0 ≤ a) (hb : 0 ≤ b) (hc : 0 ≤ c) :
    Calls Tryd.prog 5 #[.agg #[.int .u8 a, .int .u8 b, .int .u32 c], .string s] w fun e w' => e = .returned (.bool true) ∧ Below w.heap.size w w' := by
  obtain ⟨K, h⟩ := text_ev a b c s.data.toList ha hb hc
  exact Pr.vidimuslaw02_TagsText.calls K a b c s true w (h K (Nat.le_refl _)) hT
end Go.Proofs.YtpdomckacfeffaaDoor
