/- Chapters 6, 7 (oids, oidsets): content octets and dotted forms of OIDs, there and back, in plain data. -/
import Derived.Test.YtacpcagijfacnaaDoorPa
namespace Go.Proofs.YtacpcagijfacnaaDoor
set_option linter.unusedSimpArgs false
set_option linter.unusedVariables false
set_option maxRecDepth 50000
theorem getD_take {l : List Int} {k i : Nat} (h : i < k) : (l.take k).getD i 0 = l.getD i 0 := by
  rw [List.getD_eq_getElem?_getD, List.getD_eq_getElem?_getD, List.getElem?_take, if_pos h]
theorem two_of {l : List Int} (h : 2 ≤ l.length) : l = l.getD 0 0 :: l.getD 1 0 :: l.drop 2 := by
  cases l with
  | nil => simp at h
  | cons a r => cases r with
    | nil => simp at h
    | cons b t => rfl
/-- The arcs of subidentifiers, laid out. -/
theorem getX_is (s : Int) (T : List Int) (h : T.length ≤ 14) : getX (s :: T) = pad (min (s / 40) 2 :: (s - 40 * min (s / 40) 2) :: T) := by
  unfold getX comeX pad
  simp only [List.getD_cons_zero, List.cons_append, List.set_cons_zero, List.set_cons_succ, List.length_cons]
  rw [show 15 - (T.length + 1) = 16 - (T.length + 1 + 1) by omega]
theorem valid_arcs {N : Nat} {xs : List Int} (hx : xs.length = 16) (h : chkO (N : Int) xs = 0) : arcsO N xs = xs.getD 0 0 :: xs.getD 1 0 :: (arcsO N xs).drop 2 := by
  have hn := chkO_n h
  obtain ⟨e, hl, _⟩ := valid_pad hx h
  have := two_of (l := arcsO N xs) (by omega)
  rw [e, getD_take (by omega), getD_take (by omega), ← e] at this
  exact this
theorem u32_arcs {N : Nat} {xs : List Int} (hu : U32 xs) : ∀ t ∈ arcsO N xs, U32n t := fun t ht => by
  have := hu t (List.mem_of_mem_take ht)
  exact ⟨this.1, by omega⟩
/-- THERE AND BACK: the octets of a valid OID are read as the OID. -/
theorem get_enc {N : Nat} {xs : List Int} (hx : xs.length = 16) (hu : U32 xs) (h : chkO (N : Int) xs = 0) : getT (encO N xs) = ((N : Int), xs, 0) := by
  have hn := chkO_n h
  obtain ⟨e, hl, ep⟩ := valid_pad hx h
  have ea := valid_arcs hx h
  obtain ⟨k1, k2, k3⟩ := chkO_ok h
  have u0 := hu.getD 0
  have u1 := hu.getD 1
  have hS : ∀ t ∈ subsO N xs, U32n t := by
    intro t ht
    unfold subsO at ht
    rcases List.mem_cons.mp ht with rfl | ht
    · exact ⟨by omega, by omega⟩
    · exact u32_arcs hu t (List.mem_of_mem_drop ht)
  have hlen : (subsO N xs).length = N - 1 := by unfold subsO; rw [List.length_cons, List.length_drop, hl]; omega
  have hg := getL_all (subsO N xs) [] hS (by rw [hlen]; simp; omega)
  rw [List.nil_append] at hg
  have hne : encO N xs ≠ [] := by
    unfold encO subsO
    rw [List.flatMap_cons]
    intro h2
    have := (gl_len (xs.getD 1 0 + 40 * xs.getD 0 0)).1
    rw [List.append_eq_nil_iff] at h2
    rw [h2.1] at this; simp at this
  rw [getT_ok hne hg, hlen, show (1 : Int) + ((N - 1 : Nat) : Int) = (N : Int) by omega]
  congr 2
  unfold subsO
  rw [getX_is _ _ (by rw [List.length_drop, hl]; omega)]
  rw [ep]
  congr 1
  rw [← ep, ea, List.drop_succ_cons, List.drop_succ_cons, List.drop_zero]
  generalize xs.getD 0 0 = a at *
  generalize xs.getD 1 0 = b at *
  have m : min ((b + 40 * a) / 40) 2 = a := by
    by_cases h2 : a < 2
    · have := k2 h2; omega
    · omega
  rw [m, show b + 40 * a - 40 * a = b by omega]
/-- What is read has these octets, and is valid. -/
theorem get_back {l : List Int} {n : Int} {xs : List Int} (hb : Byt l) (h : getT l = (n, xs, 0)) : ∃ N : Nat, n = (N : Int) ∧ chkO (N : Int) xs = 0 ∧ xs.length = 16 ∧ U32 xs ∧ encO N xs = l := by
  unfold getT at h
  by_cases h0 : l = []
  · rw [if_pos h0] at h; cases h
  rw [if_neg h0] at h
  cases hg : getL l [] 0 true with
  | error e =>
    rw [hg] at h
    injection h with h1 h2; injection h2 with h2 h3
    subst h3
    exfalso
    -- no error is 0
    have : ∀ (l S : List Int) (n : Int) (b : Bool), getL l S n b ≠ .error 0 := by
      intro l
      induction l with
      | nil => intro S n b; cases b <;> simp [getL]
      | cons y r ih =>
        intro S n b
        rw [getL]
        repeat' split
        all_goals first | (intro h; cases h; done) | exact ih _ _ _
    exact this _ _ _ _ hg
  | ok S =>
    rw [hg] at h
    injection h with h1 h2; injection h2 with h2 h3
    obtain ⟨T, e1, e2, e3, e4⟩ := (getL_back S l [] 0 hb (by simp)).1 hg
    rw [List.nil_append] at e1
    subst e1
    cases S with
    | nil => rw [e2] at h0; exact absurd rfl h0
    | cons s T =>
      rw [List.length_cons] at e4
      have hs := e3 s (by simp)
      have hX := getX_is s T (by omega)
      have hm : (min (s / 40) 2 = s / 40 ∧ s < 80) ∨ (min (s / 40) 2 = 2 ∧ 80 ≤ s) := by omega
      have hc0 : 0 ≤ min (s / 40) 2 := by have := hs.1; omega
      have hc1 : 0 ≤ s - 40 * min (s / 40) 2 := by have := hs.1; omega
      have hc2 : s - 40 * min (s / 40) 2 ≤ 4294967215 := by have := hs.2; omega
      have hc3 : min (s / 40) 2 < 2 → s - 40 * min (s / 40) 2 ≤ 39 := by omega
      have hsum : (s - 40 * min (s / 40) 2) + 40 * min (s / 40) 2 = s := by omega
      generalize min (s / 40) 2 = a at *
      generalize s - 40 * a = b at *
      have hl : (getX (s :: T)).length = 16 := getX_len _ (by simp; omega)
      have hN : (1 + ((s :: T).length : Int)) = ((T.length + 2 : Nat) : Int) := by simp; omega
      have hxs : xs = pad (a :: b :: T) := by rw [← h2, hX]
      have hp0 : xs.getD 0 0 = a := by rw [hxs]; rfl
      have hp1 : xs.getD 1 0 = b := by rw [hxs]; rfl
      have hl16 : xs.length = 16 := by rw [← h2]; exact hl
      have hdrop : xs.drop (T.length + 2) = List.replicate (14 - T.length) 0 := by
        rw [hxs]; unfold pad
        rw [List.drop_append_of_le_length (by simp), List.drop_of_length_le (by simp)]
        simp
      have hchk : chkO ((T.length + 2 : Nat) : Int) xs = 0 := by
        refine chkO_mk (by omega) (by omega) (by rw [hp0]; omega) (by rw [hp0, hp1]; exact hc3) (by rw [hp1]; exact hc2) ?_
        rw [Int.toNat_natCast, hdrop]
        intro x hx; exact List.eq_of_mem_replicate hx
      refine ⟨T.length + 2, by rw [← h1, hN], hchk, hl16, ?_, ?_⟩
      · intro x hx
        rw [hxs] at hx
        unfold pad at hx
        rcases List.mem_append.mp hx with hx | hx
        · rcases List.mem_cons.mp hx with rfl | hx
          · exact ⟨hc0, by omega⟩
          · rcases List.mem_cons.mp hx with rfl | hx
            · exact ⟨hc1, by omega⟩
            · have := e3 x (List.mem_cons_of_mem _ hx); unfold U32n at this; omega
        · rw [List.eq_of_mem_replicate hx]; omega
      · have ha : arcsO (T.length + 2) xs = a :: b :: T := by
          obtain ⟨e, _, _⟩ := valid_pad hl16 hchk
          rw [e, hxs]; unfold pad
          rw [List.take_append_of_le_length (by simp), List.take_of_length_le (by simp)]
        unfold encO subsO
        rw [ha, hp0, hp1, hsum, List.drop_succ_cons, List.drop_succ_cons, List.drop_zero, e2]
/-! ### dotted forms -/
theorem join_head (a : List UInt8) (r : List (List UInt8)) (hr : r ≠ []) : Lib.join (a :: r) [46] = a ++ 46 :: Lib.join r [46] := by
  cases r with
  | nil => exact absurd rfl hr
  | cons b t =>
    rw [Lib.join_cons, Lib.join_cons]
    simp [Lib.joinTail]
theorem join_splitP : ∀ l : List UInt8, Lib.join (splitP l) [46] = l
  | [] => rfl
  | b :: r => by
    have ih := join_splitP r
    by_cases h : b = 46
    · subst h
      rw [splitP_dot, join_head _ _ (splitP_ne r), ih]; rfl
    · rw [splitP_cons h]
      obtain ⟨a, t, e⟩ : ∃ a t, splitP r = a :: t := by cases h2 : splitP r with | nil => exact absurd h2 (splitP_ne r) | cons a t => exact ⟨a, t, rfl⟩
      rw [e] at ih ⊢
      rw [List.headD_cons, List.tail_cons, Lib.join_cons, List.cons_append, ← Lib.join_cons, ih]
theorem splitP_app : ∀ (a r : List UInt8), (∀ c ∈ a, c ≠ 46) → splitP (a ++ r) = (a ++ (splitP r).headD []) :: (splitP r).tail
  | [], r, _ => by rw [List.nil_append, List.nil_append, headD_tail (splitP_ne r)]
  | b :: a, r, h => by
    rw [List.cons_append, splitP_cons (h b (by simp)), splitP_app a r (fun c hc => h c (List.mem_cons_of_mem _ hc)), List.headD_cons, List.tail_cons]; rfl
theorem splitP_join : ∀ (P : List (List UInt8)), P ≠ [] → (∀ p ∈ P, ∀ c ∈ p, c ≠ 46) → splitP (Lib.join P [46]) = P
  | [], h, _ => absurd rfl h
  | [a], _, h => by
    rw [Lib.join_one]
    have := splitP_app a [] (h a (by simp))
    rw [List.append_nil] at this
    rw [this]; simp [splitP]
  | a :: b :: t, _, h => by
    rw [join_head _ _ (by simp), splitP_app a _ (h a (by simp)), splitP_dot, List.headD_cons, List.tail_cons, List.append_nil, splitP_join (b :: t) (by simp) (fun p hp => h p (List.mem_cons_of_mem _ hp))]
theorem dig_toNat {d : Nat} (h : d < 10) : (UInt8.ofNat (48 + d)).toNat = 48 + d := by rw [UInt8.toNat_ofNat']; omega
theorem dd_one {u : Nat} (h : u < 10) : Lib.decDigits u = [UInt8.ofNat (48 + u)] := Lib.decDigits_one h
theorem dd_more {u : Nat} (h : ¬ u < 10) : Lib.decDigits u = Lib.decDigits (u / 10) ++ [UInt8.ofNat (48 + u % 10)] := by rw [Lib.decDigits, dif_neg h]
theorem dd_digit (u : Nat) : ∀ c ∈ Lib.decDigits u, 48 ≤ c.toNat ∧ c.toNat ≤ 57 := by
  induction u using Nat.strongRecOn with
  | _ u ih =>
    by_cases h : u < 10
    · rw [dd_one h]
      intro c hc
      obtain rfl := List.mem_singleton.mp hc
      rw [dig_toNat h]; omega
    · rw [dd_more h]
      intro c hc
      rcases List.mem_append.mp hc with hc | hc
      · exact ih (u / 10) (by omega) c hc
      · obtain rfl := List.mem_singleton.mp hc
        rw [dig_toNat (by omega)]; omega
theorem valA_snoc (l : List UInt8) (c : UInt8) (a : Nat) : valA a (l ++ [c]) = valA a l * 10 + (c.toNat - 48) := by unfold valA; rw [List.foldl_append]; rfl
theorem valB_snoc (l : List UInt8) (c : UInt8) : valB (l ++ [c]) = valB l * 10 + (c.toNat - 48) := valA_snoc l c 0
theorem dd_valB (u : Nat) : valB (Lib.decDigits u) = u := by
  induction u using Nat.strongRecOn with
  | _ u ih =>
    by_cases h : u < 10
    · rw [dd_one h]; show 0 * 10 + ((UInt8.ofNat (48 + u)).toNat - 48) = u; rw [dig_toNat h]; omega
    · rw [dd_more h, valB_snoc, ih (u / 10) (by omega), dig_toNat (by omega)]; omega
theorem dd_ne (u : Nat) : Lib.decDigits u ≠ [] := by
  by_cases h : u < 10
  · rw [dd_one h]; simp
  · rw [dd_more h]; simp
theorem dd_head (u : Nat) (h0 : u ≠ 0) : (Lib.decDigits u).headD 0 ≠ 48 := by
  induction u using Nat.strongRecOn with
  | _ u ih =>
    by_cases h : u < 10
    · rw [dd_one h, List.headD_cons]
      intro e
      have := congrArg UInt8.toNat e
      rw [dig_toNat h] at this
      have e48 : (48 : UInt8).toNat = 48 := rfl
      omega
    · rw [dd_more h]
      have hn := dd_ne (u / 10)
      have := ih (u / 10) (by omega) (by omega)
      cases hd : Lib.decDigits (u / 10) with
      | nil => exact absurd hd hn
      | cons a t => rw [hd] at this; exact this
theorem isDig_of {c : UInt8} (h : 48 ≤ c.toNat ∧ c.toNat ≤ 57) : isDig c = true := decide_eq_true h
theorem decB_dd (u : Nat) : decB (Lib.decDigits u) = true := by
  have hd : (Lib.decDigits u).all isDig = true := by rw [List.all_eq_true]; exact fun c hc => isDig_of (dd_digit u c hc)
  rw [decB_cur hd]
  by_cases h : u = 0
  · subst h; rw [dd_one (by omega)]; rfl
  · have h1 := dd_head u h
    have h2 := dd_ne u
    have e1 : ((Lib.decDigits u).headD 0 == 48) = false := by simpa using h1
    have e2 : (Lib.decDigits u).isEmpty = false := by cases hd2 : Lib.decDigits u with | nil => exact absurd hd2 h2 | cons _ _ => rfl
    rw [e1, e2]; rfl
/-- A decimal number without leading zeros is the numeral of its value. -/
theorem dd_back : ∀ (k : Nat) (p : List UInt8), p.length = k → decB p = true → Lib.decDigits (valB p) = p := by
  intro k
  induction k with
  | zero => intro p hp h; obtain rfl := List.length_eq_zero_iff.mp hp; cases h
  | succ k ih =>
    intro p hp h
    obtain ⟨hne, hall⟩ := decB_all h
    have hcur := decB_cur hall
    rw [h] at hcur
    obtain ⟨q, c, rfl⟩ : ∃ q c, p = q ++ [c] := ⟨p.dropLast, p.getLast hne, (List.dropLast_concat_getLast hne).symm⟩
    rw [List.all_append, Bool.and_eq_true] at hall
    have hc : isDig c = true := by simpa using hall.2
    have hc := of_decide_eq_true hc
    have hofn : UInt8.ofNat (48 + (c.toNat - 48)) = c := by rw [show 48 + (c.toNat - 48) = c.toNat by omega, UInt8.ofNat_toNat]
    cases q with
    | nil =>
      show Lib.decDigits (0 * 10 + (c.toNat - 48)) = [c]
      rw [dd_one (by omega), show 0 * 10 + (c.toNat - 48) = c.toNat - 48 by omega, hofn]
    | cons b r =>
      have hb : b ≠ 48 := by
        intro e; subst e
        simp at hcur
      have hq : decB (b :: r) = true := by
        rw [decB_cur hall.1]
        have e1 : (b == 48) = false := by simpa using hb
        simp [e1]
      have hv := ih (b :: r) (by simp at hp ⊢; omega) hq
      rw [valB_snoc]
      have hpos : valB (b :: r) ≠ 0 := by
        intro e
        rw [e, dd_one (by omega)] at hv
        injection hv with h1 h2
        exact hb h1.symm
      rw [dd_more (by omega), show (valB (b :: r) * 10 + (c.toNat - 48)) / 10 = valB (b :: r) by omega, hv, show (valB (b :: r) * 10 + (c.toNat - 48)) % 10 = c.toNat - 48 by omega, hofn]
theorem digO_no46 (x : Int) : ∀ c ∈ digO x, c ≠ 46 := fun c hc e => by
  have := dd_digit x.toNat c hc
  subst e
  have e46 : (46 : UInt8).toNat = 46 := rfl
  omega
theorem valsP_digO {A : List Int} (h : ∀ t ∈ A, U32n t) : valsP (A.map digO) = A ∧ (A.map digO).all decB = true ∧ (A.map digO).all fit = true := by
  refine ⟨?_, ?_, ?_⟩
  · unfold valsP
    rw [List.map_map]
    conv => rhs; rw [← List.map_id A]
    refine List.map_congr_left fun x hx => ?_
    have := h x hx
    unfold U32n at this
    show ((min (valB (digO x)) 4294967295 : Nat) : Int) = x
    unfold digO
    rw [dd_valB]; omega
  · rw [List.all_eq_true]
    intro p hp
    obtain ⟨x, _, rfl⟩ := List.mem_map.mp hp
    exact decB_dd _
  · rw [List.all_eq_true]
    intro p hp
    obtain ⟨x, hx, rfl⟩ := List.mem_map.mp hp
    have := h x hx
    unfold U32n at this
    refine decide_eq_true ?_
    unfold digO
    rw [dd_valB]; omega
/-- THERE AND BACK: the dotted form of a valid OID is read as the OID. -/
theorem parse_txt {N : Nat} {xs : List Int} (hx : xs.length = 16) (hu : U32 xs) (h : chkO (N : Int) xs = 0) : parseL (splitP (txtO N xs)) = ((N : Int), xs, 0) := by
  have hn := chkO_n h
  obtain ⟨e, hl, ep⟩ := valid_pad hx h
  have hne : (arcsO N xs).map digO ≠ [] := by
    intro h2
    rw [List.map_eq_nil_iff] at h2
    rw [h2] at hl; simp at hl; omega
  unfold txtO
  rw [splitP_join _ hne (fun p hp => by obtain ⟨x, _, rfl⟩ := List.mem_map.mp hp; exact digO_no46 x)]
  obtain ⟨v1, v2, v3⟩ := valsP_digO (u32_arcs (N := N) hu)
  unfold parseL
  rw [if_pos v2, List.length_map, hl, if_neg (by omega), v1, ← ep]
  rw [show ((arcsO N xs).map digO).all (fun p => decide (valB p ≤ 4294967295)) = true from v3, if_pos rfl, if_pos h]
/-- What is read has this dotted form, and is valid. -/
theorem parse_back {l : List UInt8} {n : Int} {xs : List Int} (h : parseL (splitP l) = (n, xs, 0)) : ∃ N : Nat, n = (N : Int) ∧ chkO (N : Int) xs = 0 ∧ xs.length = 16 ∧ U32 xs ∧ txtO N xs = l := by
  unfold parseL at h
  by_cases h1 : (splitP l).all decB = true
  case neg => rw [if_neg h1] at h; cases h
  rw [if_pos h1] at h
  by_cases h2 : 16 < (splitP l).length
  · rw [if_pos h2] at h; cases h
  rw [if_neg h2] at h
  by_cases h3 : ((splitP l).all (fun p => decide (valB p ≤ 4294967295))) = true
  case neg => rw [if_neg h3] at h; cases h
  rw [if_pos h3] at h
  by_cases h4 : chkO ((splitP l).length : Int) (pad (valsP (splitP l))) = 0
  case neg => rw [if_neg h4] at h; cases h
  rw [if_pos h4] at h
  injection h with e1 e2; injection e2 with e2 _
  have hpl : (pad (valsP (splitP l))).length = 16 := pad_len _ (by rw [valsP_len]; omega)
  have hu : U32 (valsP (splitP l)) := by
    intro x hx
    obtain ⟨p, _, rfl⟩ := List.mem_map.mp hx
    omega
  subst e1 e2
  refine ⟨(splitP l).length, rfl, h4, hpl, ?_, ?_⟩
  · intro x hx
    unfold pad at hx
    rcases List.mem_append.mp hx with hx | hx
    · exact hu x hx
    · rw [List.eq_of_mem_replicate hx]; omega
  · have ha : arcsO (splitP l).length (pad (valsP (splitP l))) = valsP (splitP l) := by
      obtain ⟨e, _, _⟩ := valid_pad hpl h4
      rw [e]; unfold pad
      rw [List.take_append_of_le_length (by rw [valsP_len]; exact Nat.le_refl _), List.take_of_length_le (by rw [valsP_len]; exact Nat.le_refl _)]
    unfold txtO
    rw [ha]
    have : (valsP (splitP l)).map digO = splitP l := by
      unfold valsP
      rw [List.map_map]
      conv => rhs; rw [← List.map_id (splitP l)]
      refine List.map_congr_left fun p hp => ?_
      rw [List.all_eq_true] at h1 h3
      have h5 := of_decide_eq_true (h3 p hp)
      show digO ((min (valB p) 4294967295 : Nat) : Int) = p
      unfold digO
      rw [Int.toNat_natCast, Nat.min_eq_left h5]
      exact dd_back _ p rfl (h1 p hp)
    rw [this, join_splitP]
end Go.Proofs.YtacpcagijfacnaaDoor
