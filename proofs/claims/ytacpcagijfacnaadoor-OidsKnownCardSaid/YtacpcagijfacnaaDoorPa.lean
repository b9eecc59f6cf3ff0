/- Chapters 6, 7 (oids, oidsets): the order of OIDs, and content octets, in plain data. -/
import Derived.Test.YtacpcagijfacnaaDoorWs
import Derived.Test.YtacpcagijfacnaaDoorWd
namespace Go.Proofs.YtacpcagijfacnaaDoor
set_option linter.unusedSimpArgs false
set_option linter.unusedVariables false
set_option maxRecDepth 50000
theorem cmpL_self : ∀ a : List Int, cmpL a a = 0
  | [] => rfl
  | x :: a => by simp only [cmpL]; rw [if_neg (by omega), if_neg (by omega)]; exact cmpL_self a
theorem cmpL_neg : ∀ a b : List Int, cmpL b a = - cmpL a b
  | [], [] => rfl
  | [], _ :: _ => rfl
  | _ :: _, [] => rfl
  | x :: a, y :: b => by
    simp only [cmpL]
    by_cases h : x < y
    · rw [if_neg (by omega), if_pos h, if_pos h]; rfl
    · by_cases h2 : y < x
      · rw [if_pos h2, if_neg h, if_pos h2]
      · rw [if_neg h2, if_neg h, if_neg h, if_neg h2]; exact cmpL_neg a b
theorem cmpL_eq : ∀ {a b : List Int}, cmpL a b = 0 → a = b
  | [], [], _ => rfl
  | [], _ :: _, h => by simp [cmpL] at h
  | _ :: _, [], h => by simp [cmpL] at h
  | x :: a, y :: b, h => by
    simp only [cmpL] at h
    by_cases h1 : x < y
    · rw [if_pos h1] at h; cases h
    · by_cases h2 : y < x
      · rw [if_neg h1, if_pos h2] at h; cases h
      · rw [if_neg h1, if_neg h2] at h; rw [cmpL_eq h, show x = y by omega]
theorem cmpL_3 : ∀ a b : List Int, cmpL a b = -1 ∨ cmpL a b = 0 ∨ cmpL a b = 1
  | [], [] => .inr (.inl rfl)
  | [], _ :: _ => .inl rfl
  | _ :: _, [] => .inr (.inr rfl)
  | x :: a, y :: b => by
    simp only [cmpL]
    by_cases h1 : x < y
    · rw [if_pos h1]; exact .inl rfl
    · by_cases h2 : y < x
      · rw [if_neg h1, if_pos h2]; exact .inr (.inr rfl)
      · rw [if_neg h1, if_neg h2]; exact cmpL_3 a b
theorem cmpL_trans : ∀ {a b c : List Int}, cmpL a b ≤ 0 → cmpL b c ≤ 0 → cmpL a c ≤ 0
  | [], _, [], _, _ => by simp [cmpL]
  | [], _, _ :: _, _, _ => by simp [cmpL]
  | _ :: _, [], _, h, _ => by simp [cmpL] at h
  | _ :: _, _ :: _, [], _, h => by simp [cmpL] at h
  | x :: a, y :: b, z :: c, h, k => by
    simp only [cmpL] at h k ⊢
    by_cases h1 : x < y
    · by_cases k1 : y < z
      · rw [if_pos (by omega)]; omega
      · by_cases k2 : z < y
        · rw [if_neg k1, if_pos k2] at k; omega
        · rw [if_pos (by omega)]; omega
    · by_cases h2 : y < x
      · rw [if_neg h1, if_pos h2] at h; omega
      · rw [if_neg h1, if_neg h2] at h
        by_cases k1 : y < z
        · rw [if_pos (by omega)]; omega
        · by_cases k2 : z < y
          · rw [if_neg k1, if_pos k2] at k; omega
          · rw [if_neg k1, if_neg k2] at k
            rw [if_neg (by omega), if_neg (by omega)]
            exact cmpL_trans h k
theorem cmpL_pre : ∀ {a b : List Int}, a = b.take a.length → a.length < b.length → cmpL a b = -1
  | [], [], _, h => by simp at h
  | [], _ :: _, _, _ => rfl
  | _ :: _, [], h, _ => by simp at h
  | x :: a, y :: b, h, k => by
    rw [List.length_cons, List.take_succ_cons] at h
    injection h with h1 h2
    simp only [cmpL]
    rw [if_neg (by omega), if_neg (by omega)]
    exact cmpL_pre h2 (by simpa using k)
/-- What stands behind the arcs of a valid OID. -/
theorem chkO_tail {n : Int} {xs : List Int} (h : chkO n xs = 0) : ∀ x ∈ xs.drop n.toNat, x = 0 := by
  unfold chkO at h
  by_cases h1 : n < 2
  · rw [if_pos h1] at h; cases h
  by_cases h2 : 16 < n
  · rw [if_neg h1, if_pos h2] at h; cases h
  rw [if_neg h1, if_neg h2] at h
  by_cases h3 : 2 < xs.getD 0 0
  · rw [if_pos h3] at h; cases h
  rw [if_neg h3] at h
  by_cases h4 : xs.getD 0 0 < 2 ∧ 39 < xs.getD 1 0
  · rw [if_pos h4] at h; cases h
  rw [if_neg h4] at h
  by_cases h5 : 4294967215 < xs.getD 1 0
  · rw [if_pos h5] at h; cases h
  rw [if_neg h5] at h
  by_cases h6 : ∀ x ∈ xs.drop n.toNat, x = 0
  · exact h6
  · rw [if_neg h6] at h; cases h
theorem chkO_mk {n : Int} {xs : List Int} (h1 : 2 ≤ n) (h2 : n ≤ 16) (h3 : xs.getD 0 0 ≤ 2) (h4 : xs.getD 0 0 < 2 → xs.getD 1 0 ≤ 39) (h5 : xs.getD 1 0 ≤ 4294967215) (h6 : ∀ x ∈ xs.drop n.toNat, x = 0) : chkO n xs = 0 := by
  unfold chkO
  rw [if_neg (by omega), if_neg (by omega), if_neg (by omega), if_neg (fun h => by have := h4 h.1; omega), if_neg (by omega), if_pos h6]
theorem zeros_of : ∀ {l : List Int} {k : Nat}, (∀ x ∈ l, x = 0) → l.length = k → l = List.replicate k 0 := fun h hk => List.eq_replicate_iff.mpr ⟨hk, h⟩
/-- A valid OID is its arcs, filled up. -/
theorem valid_pad {N : Nat} {xs : List Int} (hx : xs.length = 16) (h : chkO (N : Int) xs = 0) : arcsO N xs = xs.take N ∧ (arcsO N xs).length = N ∧ xs = pad (arcsO N xs) := by
  have hn := chkO_n h
  have e : arcsO N xs = xs.take N := by unfold arcsO; rw [Nat.min_eq_left hn.2]
  have hl : (arcsO N xs).length = N := by rw [arcsO_len hx]; omega
  refine ⟨e, hl, ?_⟩
  have ht := chkO_tail h
  rw [Int.toNat_natCast] at ht
  unfold pad
  rw [hl, e, ← zeros_of ht (by rw [List.length_drop, hx]), List.take_append_drop]
theorem valid_ext {N M : Nat} {xs ys : List Int} (hx : xs.length = 16) (hy : ys.length = 16) (h : chkO (N : Int) xs = 0) (k : chkO (M : Int) ys = 0) (e : arcsO N xs = arcsO M ys) : N = M ∧ xs = ys := by
  obtain ⟨_, h1, h2⟩ := valid_pad hx h
  obtain ⟨_, k1, k2⟩ := valid_pad hy k
  refine ⟨by rw [← h1, ← k1, e], by rw [h2, k2, e]⟩
/-! ### content octets -/
def U32n (t : Int) : Prop := 0 ≤ t ∧ t ≤ 4294967295
theorem mod128 (x : Int) (h0 : 0 ≤ x) (h1 : x < 128) : x % 128 = x := by omega
theorem mod128b (x : Int) (h0 : 0 ≤ x) (h1 : x < 128) : (128 + x) % 128 = x := by omega
/-- The octets of a subidentifier that is not at its end. -/
def glc (n : Int) : List Int :=
  if n < 128 then [128 + n] else if n < 16384 then [128 + n / 128, 128 + n % 128] else if n < 2097152 then [128 + n / 16384, 128 + n / 128 % 128, 128 + n % 128] else [128 + n / 2097152, 128 + n / 16384 % 128, 128 + n / 128 % 128, 128 + n % 128]
theorem gl_next {n d : Int} (h0 : 1 ≤ n) (hd : 0 ≤ d) (hd2 : d < 128) (h1 : n * 128 + d ≤ 4294967295) : gl (n * 128 + d) = glc n ++ [d] := by
  unfold gl glc
  rw [if_neg (by omega)]
  by_cases a : n < 128
  · rw [if_pos (by omega), if_pos a, show (n * 128 + d) / 128 = n by omega, show (n * 128 + d) % 128 = d by omega]; rfl
  rw [if_neg (by omega), if_neg a]
  by_cases b : n < 16384
  · rw [if_pos (by omega), if_pos b, show (n * 128 + d) / 16384 = n / 128 by omega, show (n * 128 + d) / 128 % 128 = n % 128 by omega, show (n * 128 + d) % 128 = d by omega]; rfl
  rw [if_neg (by omega), if_neg b]
  by_cases c : n < 2097152
  · rw [if_pos (by omega), if_pos c, show (n * 128 + d) / 2097152 = n / 16384 by omega, show (n * 128 + d) / 16384 % 128 = n / 128 % 128 by omega, show (n * 128 + d) / 128 % 128 = n % 128 by omega, show (n * 128 + d) % 128 = d by omega]; rfl
  rw [if_neg (by omega), if_neg c, show (n * 128 + d) / 268435456 = n / 2097152 by omega, show (n * 128 + d) / 2097152 % 128 = n / 16384 % 128 by omega, show (n * 128 + d) / 16384 % 128 = n / 128 % 128 by omega, show (n * 128 + d) / 128 % 128 = n % 128 by omega, show (n * 128 + d) % 128 = d by omega]; rfl
theorem glc_next {n d : Int} (h0 : 1 ≤ n) (hd : 0 ≤ d) (hd2 : d < 128) (h1 : n * 128 + d < 268435456) : glc (n * 128 + d) = glc n ++ [128 + d] := by
  unfold glc
  rw [if_neg (by omega)]
  by_cases a : n < 128
  · rw [if_pos (by omega), if_pos a, show (n * 128 + d) / 128 = n by omega, show (n * 128 + d) % 128 = d by omega]; rfl
  rw [if_neg (by omega), if_neg a]
  by_cases b : n < 16384
  · rw [if_pos (by omega), if_pos b, show (n * 128 + d) / 16384 = n / 128 by omega, show (n * 128 + d) / 128 % 128 = n % 128 by omega, show (n * 128 + d) % 128 = d by omega]; rfl
  rw [if_neg (by omega), if_neg b, if_pos (by omega), show (n * 128 + d) / 2097152 = n / 16384 by omega, show (n * 128 + d) / 16384 % 128 = n / 128 % 128 by omega, show (n * 128 + d) / 128 % 128 = n % 128 by omega, show (n * 128 + d) % 128 = d by omega]; rfl
theorem gl_one {n : Int} (h : n < 128) : gl n = [n] := by unfold gl; rw [if_pos h]
theorem glc_one {n : Int} (h : n < 128) : glc n = [128 + n] := by unfold glc; rw [if_pos h]
theorem getL_more (y : Int) (r S : List Int) (n : Int) : getL (y :: r) S n false = if 4294967295 < n * 128 + y % 128 then .error 3 else if y < 128 then getL r (S ++ [n * 128 + y % 128]) 0 true else getL r S (n * 128 + y % 128) false := by
  rw [getL, if_neg (by simp), if_neg (by simp)]
theorem getL_beg (y : Int) (r S : List Int) : getL (y :: r) S 0 true = if S.length = 15 then .error 3 else if y = 128 then .error 11 else if y < 128 then getL r (S ++ [y % 128]) 0 true else getL r S (y % 128) false := by
  have e : (0 : Int) * 128 + y % 128 = y % 128 := by omega
  rw [getL, e, if_neg (show ¬ 4294967295 < y % 128 by omega)]
  by_cases a : S.length = 15
  · rw [if_pos ⟨rfl, a⟩, if_pos a]
  · rw [if_neg (fun h => a h.2), if_neg a]
    by_cases b : y = 128
    · rw [if_pos ⟨rfl, b⟩, if_pos b]
    · rw [if_neg (fun h => b h.2), if_neg b]
/-- The octets that begin a subidentifier lead to where it stands. -/
theorem getL_glc (r S : List Int) (hS : S.length < 15) : ∀ (k : Nat) (n : Int), n.toNat = k → 1 ≤ n → n < 268435456 → getL (glc n ++ r) S 0 true = getL r S n false := by
  intro k
  induction k using Nat.strongRecOn generalizing r with
  | _ k ih =>
    intro n hk h0 h1
    by_cases a : n < 128
    · rw [glc_one a, List.singleton_append, getL_beg, if_neg (by omega), if_neg (by omega), if_neg (by omega), show (128 + n) % 128 = n by omega]
    · have e : n = (n / 128) * 128 + n % 128 := by omega
      rw [e, glc_next (by omega) (by omega) (by omega) (by omega), List.append_assoc, List.singleton_append, ih (n / 128).toNat (by omega) _ (n / 128) rfl (by omega) (by omega), getL_more, if_neg (by omega), if_neg (by omega), show (128 + n % 128) % 128 = n % 128 by omega]
/-- A subidentifier is read as it was written. -/
theorem getL_gl (r S : List Int) (n : Int) (hS : S.length < 15) (h0 : 0 ≤ n) (h1 : n ≤ 4294967295) : getL (gl n ++ r) S 0 true = getL r (S ++ [n]) 0 true := by
  by_cases a : n < 128
  · rw [gl_one a, List.singleton_append, getL_beg, if_neg (by omega), if_neg (by omega), if_pos a, show n % 128 = n by omega]
  · have e : n = (n / 128) * 128 + n % 128 := by omega
    rw [e, gl_next (by omega) (by omega) (by omega) (by omega), List.append_assoc, List.singleton_append, getL_glc _ _ hS _ (n / 128) rfl (by omega) (by omega), getL_more, if_neg (by omega), if_pos (by omega), show n % 128 % 128 = n % 128 by omega]
theorem getL_all : ∀ (T S : List Int), (∀ t ∈ T, U32n t) → S.length + T.length ≤ 15 → getL (T.flatMap gl) S 0 true = .ok (S ++ T)
  | [], S, _, _ => by simp [getL]
  | t :: T, S, h, hl => by
    have ht := h t (by simp)
    rw [List.length_cons] at hl
    rw [List.flatMap_cons, getL_gl _ _ _ (by omega) ht.1 ht.2, getL_all T (S ++ [t]) (fun x hx => h x (List.mem_cons_of_mem _ hx)) (by rw [List.length_append, List.length_singleton]; omega)]
    simp
/-- What is read has these octets. -/
theorem getL_back (S' : List Int) : ∀ (l S : List Int) (n : Int), Byt l → S.length ≤ 15 →
    (getL l S 0 true = .ok S' → ∃ T, S' = S ++ T ∧ l = T.flatMap gl ∧ (∀ t ∈ T, U32n t) ∧ S'.length ≤ 15) ∧
    (S.length < 15 → 1 ≤ n → n ≤ 4294967295 → getL l S n false = .ok S' → ∃ t T, S' = S ++ t :: T ∧ (n < 268435456 ∧ glc n ++ l = gl t ++ T.flatMap gl) ∧ U32n t ∧ (∀ t ∈ T, U32n t) ∧ S'.length ≤ 15)
  | [], S, n, hb, hS => by
    refine ⟨fun h => ?_, fun _ _ _ h => ?_⟩
    · simp only [getL, if_true] at h
      injection h with h; subst h
      exact ⟨[], by simp, by simp, by simp, hS⟩
    · simp [getL] at h
  | y :: r, S, n, hb, hS => by
    have hy := hb y (by simp)
    have hr : Byt r := fun x hx => hb x (List.mem_cons_of_mem _ hx)
    refine ⟨fun h => ?_, fun hS2 h0 h1 h => ?_⟩
    · rw [getL_beg] at h
      by_cases a : S.length = 15
      · rw [if_pos a] at h; cases h
      rw [if_neg a] at h
      by_cases b : y = 128
      · rw [if_pos b] at h; cases h
      rw [if_neg b] at h
      by_cases c : y < 128
      · rw [if_pos c, mod128 y hy.1 c] at h
        obtain ⟨T, e1, e2, e3, e4⟩ := (getL_back S' r (S ++ [y]) 0 hr (by simp; omega)).1 h
        refine ⟨y :: T, by rw [e1]; simp, by rw [List.flatMap_cons, gl_one c, ← e2]; rfl, ?_, e4⟩
        intro t ht
        rcases List.mem_cons.mp ht with rfl | ht
        · exact ⟨hy.1, by omega⟩
        · exact e3 t ht
      · rw [if_neg c] at h
        obtain ⟨t, T, e1, ⟨_, e2⟩, e3, e4, e5⟩ := (getL_back S' r S (y % 128) hr hS).2 (by omega) (by omega) (by omega) h
        rw [glc_one (by omega), show 128 + y % 128 = y by omega, List.singleton_append] at e2
        refine ⟨t :: T, e1, by rw [List.flatMap_cons]; exact e2, ?_, e5⟩
        intro u hu
        rcases List.mem_cons.mp hu with rfl | hu
        · exact e3
        · exact e4 u hu
    · rw [getL_more] at h
      by_cases a : 4294967295 < n * 128 + y % 128
      · rw [if_pos a] at h; cases h
      rw [if_neg a] at h
      have hn : n < 268435456 := by omega
      by_cases c : y < 128
      · rw [if_pos c, mod128 y hy.1 c] at h
        rw [mod128 y hy.1 c] at a
        obtain ⟨T, e1, e2, e3, e4⟩ := (getL_back S' r (S ++ [n * 128 + y]) 0 hr (by simp; omega)).1 h
        refine ⟨n * 128 + y, T, by rw [e1]; simp, ⟨hn, ?_⟩, ⟨by omega, by omega⟩, e3, e4⟩
        rw [gl_next h0 hy.1 c (by omega), ← e2]; simp
      · rw [if_neg c] at h
        obtain ⟨t, T, e1, ⟨e6, e2⟩, e3, e4, e5⟩ := (getL_back S' r S (n * 128 + y % 128) hr hS).2 hS2 (by omega) (by omega) h
        rw [glc_next h0 (by omega) (by omega) e6, show 128 + y % 128 = y by omega, List.append_assoc, List.singleton_append] at e2
        exact ⟨t, T, e1, ⟨hn, e2⟩, e3, e4, e5⟩
end Go.Proofs.YtacpcagijfacnaaDoor
namespace Go.Proofs.YtacpcagijfacnaaDoor
set_option linter.unusedSimpArgs false
set_option linter.unusedVariables false
set_option maxRecDepth 50000
theorem getD_take {l : List Int} {k i : Nat} (h : i < k) : (l.take k).getD i 0 = l.getD i 0 := by
  rw [List.getD_eq_getElem?_getD, List.getD_eq_getElem?_getD, List.getElem?_take, if_pos h]
theorem two_of {l : List Int} (h : 2 ≤ l.length) : l = l.getD 0 0 :: l.getD 1 0 :: l.drop 2 := by
  cases l with
  | nil => simp at h
  | cons a r => cases r with
    | nil => simp at h
    | cons b t => rfl
/-- The arcs of subidentifiers, laid out. -/
theorem getX_is (s : Int) (T : List Int) (h : T.length ≤ 14) : getX (s :: T) = pad (min (s / 40) 2 :: (s - 40 * min (s / 40) 2) :: T) := by
  unfold getX comeX pad
  simp only [List.getD_cons_zero, List.cons_append, List.set_cons_zero, List.set_cons_succ, List.length_cons]
  rw [show 15 - (T.length + 1) = 16 - (T.length + 1 + 1) by omega]
theorem valid_arcs {N : Nat} {xs : List Int} (hx : xs.length = 16) (h : chkO (N : Int) xs = 0) : arcsO N xs = xs.getD 0 0 :: xs.getD 1 0 :: (arcsO N xs).drop 2 := by
  have hn := chkO_n h
  obtain ⟨e, hl, _⟩ := valid_pad hx h
  have := two_of (l := arcsO N xs) (by omega)
  rw [e, getD_take (by omega), getD_take (by omega), ← e] at this
  exact this
theorem u32_arcs {N : Nat} {xs : List Int} (hu : U32 xs) : ∀ t ∈ arcsO N xs, U32n t := fun t ht => by
  have := hu t (List.mem_of_mem_take ht)
  exact ⟨this.1, by omega⟩
/-- THERE AND BACK: the octets of a valid OID are read as the OID. -/
theorem get_enc {N : Nat} {xs : List Int} (hx : xs.length = 16) (hu : U32 xs) (h : chkO (N : Int) xs = 0) : getT (encO N xs) = ((N : Int), xs, 0) := by
  have hn := chkO_n h
  obtain ⟨e, hl, ep⟩ := valid_pad hx h
  have ea := valid_arcs hx h
  obtain ⟨k1, k2, k3⟩ := chkO_ok h
  have u0 := hu.getD 0
  have u1 := hu.getD 1
  have hS : ∀ t ∈ subsO N xs, U32n t := by
    intro t ht
    unfold subsO at ht
    rcases List.mem_cons.mp ht with rfl | ht
    · exact ⟨by omega, by omega⟩
    · exact u32_arcs hu t (List.mem_of_mem_drop ht)
  have hlen : (subsO N xs).length = N - 1 := by unfold subsO; rw [List.length_cons, List.length_drop, hl]; omega
  have hg := getL_all (subsO N xs) [] hS (by rw [hlen]; simp; omega)
  rw [List.nil_append] at hg
  have hne : encO N xs ≠ [] := by
    unfold encO subsO
    rw [List.flatMap_cons]
    intro h2
    have := (gl_len (xs.getD 1 0 + 40 * xs.getD 0 0)).1
    rw [List.append_eq_nil_iff] at h2
    rw [h2.1] at this; simp at this
  rw [getT_ok hne hg, hlen, show (1 : Int) + ((N - 1 : Nat) : Int) = (N : Int) by omega]
  congr 2
  unfold subsO
  rw [getX_is _ _ (by rw [List.length_drop, hl]; omega)]
  rw [ep]
  congr 1
  rw [← ep, ea, List.drop_succ_cons, List.drop_succ_cons, List.drop_zero]
  generalize xs.getD 0 0 = a at *
  generalize xs.getD 1 0 = b at *
  have m : min ((b + 40 * a) / 40) 2 = a := by
    by_cases h2 : a < 2
    · have := k2 h2; omega
    · omega
  rw [m, show b + 40 * a - 40 * a = b by omega]
/-- What is read has these octets, and is valid. -/
theorem get_back {l : List Int} {n : Int} {xs : List Int} (hb : Byt l) (h : getT l = (n, xs, 0)) : ∃ N : Nat, n = (N : Int) ∧ chkO (N : Int) xs = 0 ∧ xs.length = 16 ∧ U32 xs ∧ encO N xs = l := by
  unfold getT at h
  by_cases h0 : l = []
  · rw [if_pos h0] at h; cases h
  rw [if_neg h0] at h
  cases hg : getL l [] 0 true with
  | error e =>
    rw [hg] at h
    injection h with h1 h2; injection h2 with h2 h3
    subst h3
    exfalso
    -- no error is 0
    have : ∀ (l S : List Int) (n : Int) (b : Bool), getL l S n b ≠ .error 0 := by
      intro l
      induction l with
      | nil => intro S n b; cases b <;> simp [getL]
      | cons y r ih =>
        intro S n b
        rw [getL]
        repeat' split
        all_goals first | (intro h; cases h; done) | exact ih _ _ _
    exact this _ _ _ _ hg
  | ok S =>
    rw [hg] at h
    injection h with h1 h2; injection h2 with h2 h3
    obtain ⟨T, e1, e2, e3, e4⟩ := (getL_back S l [] 0 hb (by simp)).1 hg
    rw [List.nil_append] at e1
    subst e1
    cases S with
    | nil => rw [e2] at h0; exact absurd rfl h0
    | cons s T =>
      rw [List.length_cons] at e4
      have hs := e3 s (by simp)
      have hX := getX_is s T (by omega)
      have hm : (min (s / 40) 2 = s / 40 ∧ s < 80) ∨ (min (s / 40) 2 = 2 ∧ 80 ≤ s) := by omega
      have hc0 : 0 ≤ min (s / 40) 2 := by have := hs.1; omega
      have hc1 : 0 ≤ s - 40 * min (s / 40) 2 := by have := hs.1; omega
      have hc2 : s - 40 * min (s / 40) 2 ≤ 4294967215 := by have := hs.2; omega
      have hc3 : min (s / 40) 2 < 2 → s - 40 * min (s / 40) 2 ≤ 39 := by omega
      have hsum : (s - 40 * min (s / 40) 2) + 40 * min (s / 40) 2 = s := by omega
      generalize min (s / 40) 2 = a at *
      generalize s - 40 * a = b at *
      have hl : (getX (s :: T)).length = 16 := getX_len _ (by simp; omega)
      have hN : (1 + ((s :: T).length : Int)) = ((T.length + 2 : Nat) : Int) := by simp; omega
      have hxs : xs = pad (a :: b :: T) := by rw [← h2, hX]
      have hp0 : xs.getD 0 0 = a := by rw [hxs]; rfl
      have hp1 : xs.getD 1 0 = b := by rw [hxs]; rfl
      have hl16 : xs.length = 16 := by rw [← h2]; exact hl
      have hdrop : xs.drop (T.length + 2) = List.replicate (14 - T.length) 0 := by
        rw [hxs]; unfold pad
        rw [List.drop_append_of_le_length (by simp), List.drop_of_length_le (by simp)]
        simp
      have hchk : chkO ((T.length + 2 : Nat) : Int) xs = 0 := by
        refine chkO_mk (by omega) (by omega) (by rw [hp0]; omega) (by rw [hp0, hp1]; exact hc3) (by rw [hp1]; exact hc2) ?_
        rw [Int.toNat_natCast, hdrop]
        intro x hx; exact List.eq_of_mem_replicate hx
      refine ⟨T.length + 2, by rw [← h1, hN], hchk, hl16, ?_, ?_⟩
      · intro x hx
        rw [hxs] at hx
        unfold pad at hx
        rcases List.mem_append.mp hx with hx | hx
        · rcases List.mem_cons.mp hx with rfl | hx
          · exact ⟨hc0, by omega⟩
          · rcases List.mem_cons.mp hx with rfl | hx
            · exact ⟨hc1, by omega⟩
            · have := e3 x (List.mem_cons_of_mem _ hx); unfold U32n at this; omega
        · rw [List.eq_of_mem_replicate hx]; omega
      · have ha : arcsO (T.length + 2) xs = a :: b :: T := by
          obtain ⟨e, _, _⟩ := valid_pad hl16 hchk
          rw [e, hxs]; unfold pad
          rw [List.take_append_of_le_length (by simp), List.take_of_length_le (by simp)]
        unfold encO subsO
        rw [ha, hp0, hp1, hsum, List.drop_succ_cons, List.drop_succ_cons, List.drop_zero, e2]
/-! ### dotted forms -/
theorem join_head (a : List UInt8) (r : List (List UInt8)) (hr : r ≠ []) : Lib.join (a :: r) [46] = a ++ 46 :: Lib.join r [46] := by
  cases r with
  | nil => exact absurd rfl hr
  | cons b t =>
    rw [Lib.join_cons, Lib.join_cons]
    simp [Lib.joinTail]
theorem join_splitP : ∀ l : List UInt8, Lib.join (splitP l) [46] = l
  | [] => rfl
  | b :: r => by
    have ih := join_splitP r
    by_cases h : b = 46
    · subst h
      rw [splitP_dot, join_head _ _ (splitP_ne r), ih]; rfl
    · rw [splitP_cons h]
      obtain ⟨a, t, e⟩ : ∃ a t, splitP r = a :: t := by cases h2 : splitP r with | nil => exact absurd h2 (splitP_ne r) | cons a t => exact ⟨a, t, rfl⟩
      rw [e] at ih ⊢
      rw [List.headD_cons, List.tail_cons, Lib.join_cons, List.cons_append, ← Lib.join_cons, ih]
theorem splitP_app : ∀ (a r : List UInt8), (∀ c ∈ a, c ≠ 46) → splitP (a ++ r) = (a ++ (splitP r).headD []) :: (splitP r).tail
  | [], r, _ => by rw [List.nil_append, List.nil_append, headD_tail (splitP_ne r)]
  | b :: a, r, h => by
    rw [List.cons_append, splitP_cons (h b (by simp)), splitP_app a r (fun c hc => h c (List.mem_cons_of_mem _ hc)), List.headD_cons, List.tail_cons]; rfl
theorem splitP_join : ∀ (P : List (List UInt8)), P ≠ [] → (∀ p ∈ P, ∀ c ∈ p, c ≠ 46) → splitP (Lib.join P [46]) = P
  | [], h, _ => absurd rfl h
  | [a], _, h => by
    rw [Lib.join_one]
    have := splitP_app a [] (h a (by simp))
    rw [List.append_nil] at this
    rw [this]; simp [splitP]
  | a :: b :: t, _, h => by
    rw [join_head _ _ (by simp), splitP_app a _ (h a (by simp)), splitP_dot, List.headD_cons, List.tail_cons, List.append_nil, splitP_join (b :: t) (by simp) (fun p hp => h p (List.mem_cons_of_mem _ hp))]
theorem dig_toNat {d : Nat} (h : d < 10) : (UInt8.ofNat (48 + d)).toNat = 48 + d := by rw [UInt8.toNat_ofNat']; omega
theorem dd_one {u : Nat} (h : u < 10) : Lib.decDigits u = [UInt8.ofNat (48 + u)] := Lib.decDigits_one h
theorem dd_more {u : Nat} (h : ¬ u < 10) : Lib.decDigits u = Lib.decDigits (u / 10) ++ [UInt8.ofNat (48 + u % 10)] := by rw [Lib.decDigits, dif_neg h]
theorem dd_digit (u : Nat) : ∀ c ∈ Lib.decDigits u, 48 ≤ c.toNat ∧ c.toNat ≤ 57 := by
  induction u using Nat.strongRecOn with
  | _ u ih =>
    by_cases h : u < 10
    · rw [dd_one h]
      intro c hc
      obtain rfl := List.mem_singleton.mp hc
      rw [dig_toNat h]; omega
    · rw [dd_more h]
      intro c hc
      rcases List.mem_append.mp hc with hc | hc
      · exact ih (u / 10) (by omega) c hc
      · obtain rfl := List.mem_singleton.mp hc
        rw [dig_toNat (by omega)]; omega
theorem valA_snoc (l : List UInt8) (c : UInt8) (a : Nat) : valA a (l ++ [c]) = valA a l * 10 + (c.toNat - 48) := by unfold valA; rw [List.foldl_append]; rfl
theorem valB_snoc (l : List UInt8) (c : UInt8) : valB (l ++ [c]) = valB l * 10 + (c.toNat - 48) := valA_snoc l c 0
theorem dd_valB (u : Nat) : valB (Lib.decDigits u) = u := by
  induction u using Nat.strongRecOn with
  | _ u ih =>
    by_cases h : u < 10
    · rw [dd_one h]; show 0 * 10 + ((UInt8.ofNat (48 + u)).toNat - 48) = u; rw [dig_toNat h]; omega
    · rw [dd_more h, valB_snoc, ih (u / 10) (by omega), dig_toNat (by omega)]; omega
theorem dd_ne (u : Nat) : Lib.decDigits u ≠ [] := by
  by_cases h : u < 10
  · rw [dd_one h]; simp
  · rw [dd_more h]; simp
theorem dd_head (u : Nat) (h0 : u ≠ 0) : (Lib.decDigits u).headD 0 ≠ 48 := by
  induction u using Nat.strongRecOn with
  | _ u ih =>
    by_cases h : u < 10
    · rw [dd_one h, List.headD_cons]
      intro e
      have := congrArg UInt8.toNat e
      rw [dig_toNat h] at this
      have e48 : (48 : UInt8).toNat = 48 := rfl
      omega
    · rw [dd_more h]
      have hn := dd_ne (u / 10)
      have := ih (u / 10) (by omega) (by omega)
      cases hd : Lib.decDigits (u / 10) with
      | nil => exact absurd hd hn
      | cons a t => rw [hd] at this; exact this
theorem isDig_of {c : UInt8} (h : 48 ≤ c.toNat ∧ c.toNat ≤ 57) : isDig c = true := decide_eq_true h
theorem decB_dd (u : Nat) : decB (Lib.decDigits u) = true := by
  have hd : (Lib.decDigits u).all isDig = true := by rw [List.all_eq_true]; exact fun c hc => isDig_of (dd_digit u c hc)
  rw [decB_cur hd]
  by_cases h : u = 0
  · subst h; rw [dd_one (by omega)]; rfl
  · have h1 := dd_head u h
    have h2 := dd_ne u
    have e1 : ((Lib.decDigits u).headD 0 == 48) = false := by simpa using h1
    have e2 : (Lib.decDigits u).isEmpty = false := by cases hd2 : Lib.decDigits u with | nil => exact absurd hd2 h2 | cons _ _ => rfl
    rw [e1, e2]; rfl
/-- A decimal number without leading zeros is the numeral of its value. -/
theorem dd_back : ∀ (k : Nat) (p : List UInt8), p.length = k → decB p = true → Lib.decDigits (valB p) = p := by
  intro k
  induction k with
  | zero => intro p hp h; obtain rfl := List.length_eq_zero_iff.mp hp; cases h
  | succ k ih =>
    intro p hp h
    obtain ⟨hne, hall⟩ := decB_all h
    have hcur := decB_cur hall
    rw [h] at hcur
    obtain ⟨q, c, rfl⟩ : ∃ q c, p = q ++ [c] := ⟨p.dropLast, p.getLast hne, (List.dropLast_concat_getLast hne).symm⟩
    rw [List.all_append, Bool.and_eq_true] at hall
    have hc : isDig c = true := by simpa using hall.2
    have hc := of_decide_eq_true hc
    have hofn : UInt8.ofNat (48 + (c.toNat - 48)) = c := by rw [show 48 + (c.toNat - 48) = c.toNat by omega, UInt8.ofNat_toNat]
    cases q with
    | nil =>
      show Lib.decDigits (0 * 10 + (c.toNat - 48)) = [c]
      rw [dd_one (by omega), show 0 * 10 + (c.toNat - 48) = c.toNat - 48 by omega, hofn]
    | cons b r =>
      have hb : b ≠ 48 := by
        intro e; subst e
        simp at hcur
      have hq : decB (b :: r) = true := by
        rw [decB_cur hall.1]
        have e1 : (b == 48) = false := by simpa using hb
        simp [e1]
      have hv := ih (b :: r) (by simp at hp ⊢; omega) hq
      rw [valB_snoc]
      have hpos : valB (b :: r) ≠ 0 := by
        intro e
        rw [e, dd_one (by omega)] at hv
        injection hv with h1 h2
        exact hb h1.symm
      rw [dd_more (by omega), show (valB (b :: r) * 10 + (c.toNat - 48)) / 10 = valB (b :: r) by omega, hv, show (valB (b :: r) * 10 + (c.toNat - 48)) % 10 = c.toNat - 48 by omega, hofn]
theorem digO_no46 (x : Int) : ∀ c ∈ digO x, c ≠ 46 := fun c hc e => by
  have := dd_digit x.toNat c hc
  subst e
  have e46 : (46 : UInt8).toNat = 46 := rfl
  omega
theorem valsP_digO {A : List Int} (h : ∀ t ∈ A, U32n t) : valsP (A.map digO) = A ∧ (A.map digO).all decB = true ∧ (A.map digO).all fit = true := by
  refine ⟨?_, ?_, ?_⟩
  · unfold valsP
    rw [List.map_map]
    conv => rhs; rw [← List.map_id A]
    refine List.map_congr_left fun x hx => ?_
    have := h x hx
    unfold U32n at this
    show ((min (valB (digO x)) 4294967295 : Nat) : Int) = x
    unfold digO
    rw [dd_valB]; omega
  · rw [List.all_eq_true]
    intro p hp
    obtain ⟨x, _, rfl⟩ := List.mem_map.mp hp
    exact decB_dd _
  · rw [List.all_eq_true]
    intro p hp
    obtain ⟨x, hx, rfl⟩ := List.mem_map.mp hp
    have := h x hx
    unfold U32n at this
    refine decide_eq_true ?_
    unfold digO
    rw [dd_valB]; omega
/-- THERE AND BACK: the dotted form of a valid OID is read as the OID. -/
theorem parse_txt {N : Nat} {xs : List Int} (hx : xs.length = 16) (hu : U32 xs) (h : chkO (N : Int) xs = 0) : parseL (splitP (txtO N xs)) = ((N : Int), xs, 0) := by
  have hn := chkO_n h
  obtain ⟨e, hl, ep⟩ := valid_pad hx h
  have hne : (arcsO N xs).map digO ≠ [] := by
    intro h2
    rw [List.map_eq_nil_iff] at h2
    rw [h2] at hl; simp at hl; omega
  unfold txtO
  rw [splitP_join _ hne (fun p hp => by obtain ⟨x, _, rfl⟩ := List.mem_map.mp hp; exact digO_no46 x)]
  obtain ⟨v1, v2, v3⟩ := valsP_digO (u32_arcs (N := N) hu)
  unfold parseL
  rw [if_pos v2, List.length_map, hl, if_neg (by omega), v1, ← ep]
  rw [show ((arcsO N xs).map digO).all (fun p => decide (valB p ≤ 4294967295)) = true from v3, if_pos rfl, if_pos h]
/-- What is read has this dotted form, and is valid. -/
theorem parse_back {l : List UInt8} {n : Int} {xs : List Int} (h : parseL (splitP l) = (n, xs, 0)) : ∃ N : Nat, n = (N : Int) ∧ chkO (N : Int) xs = 0 ∧ xs.length = 16 ∧ U32 xs ∧ txtO N xs = l := by
  unfold parseL at h
  by_cases h1 : (splitP l).all decB = true
  case neg => rw [if_neg h1] at h; cases h
  rw [if_pos h1] at h
  by_cases h2 : 16 < (splitP l).length
  · rw [if_pos h2] at h; cases h
  rw [if_neg h2] at h
  by_cases h3 : ((splitP l).all (fun p => decide (valB p ≤ 4294967295))) = true
  case neg => rw [if_neg h3] at h; cases h
  rw [if_pos h3] at h
  by_cases h4 : chkO ((splitP l).length : Int) (pad (valsP (splitP l))) = 0
  case neg => rw [if_neg h4] at h; cases h
  rw [if_pos h4] at h
  injection h with e1 e2; injection e2 with e2 _
  have hpl : (pad (valsP (splitP l))).length = 16 := pad_len _ (by rw [valsP_len]; omega)
  have hu : U32 (valsP (splitP l)) := by
    intro x hx
    obtain ⟨p, _, rfl⟩ := List.mem_map.mp hx
    omega
  subst e1 e2
  refine ⟨(splitP l).length, rfl, h4, hpl, ?_, ?_⟩
  · intro x hx
    unfold pad at hx
    rcases List.mem_append.mp hx with hx | hx
    · exact hu x hx
    · rw [List.eq_of_mem_replicate hx]; omega
  · have ha : arcsO (splitP l).length (pad (valsP (splitP l))) = valsP (splitP l) := by
      obtain ⟨e, _, _⟩ := valid_pad hpl h4
      rw [e]; unfold pad
      rw [List.take_append_of_le_length (by rw [valsP_len]; exact Nat.le_refl _), List.take_of_length_le (by rw [valsP_len]; exact Nat.le_refl _)]
    unfold txtO
    rw [ha]
    have : (valsP (splitP l)).map digO = splitP l := by
      unfold valsP
      rw [List.map_map]
      conv => rhs; rw [← List.map_id (splitP l)]
      refine List.map_congr_left fun p hp => ?_
      rw [List.all_eq_true] at h1 h3
      have h5 := of_decide_eq_true (h3 p hp)
      show digO ((min (valB p) 4294967295 : Nat) : Int) = p
      unfold digO
      rw [Int.toNat_natCast, Nat.min_eq_left h5]
      exact dd_back _ p rfl (h1 p hp)
    rw [this, join_splitP]
end Go.Proofs.YtacpcagijfacnaaDoor
namespace Go.Proofs.YtacpcagijfacnaaDoor
open Go.RowKit Go.Shelf
open Go.Proofs.YtacpcagijfacnaaDoorW.PrintWords (Kd.C Kd.int)
set_option linter.unusedSimpArgs false
set_option linter.unusedVariables false
set_option maxRecDepth 50000
def nA (f s : Int) (l : List Int) : Nat := (ofA f s l).length
def xA (f s : Int) (l : List Int) : List Int := pad (ofA f s l)
theorem xA_len (f s : Int) (l : List Int) : (xA f s l).length = 16 := pad_len _ (ofA_len f s l)
theorem nA_lt (f s : Int) (l : List Int) : nA f s l < 256 := by have := ofA_len f s l; unfold nA; omega
theorem xA_u32 (f s : Int) (l : List Int) (hf : 0 ≤ f ∧ f < 256) (hs : 0 ≤ s ∧ s < 4294967296) (hu : U32 l) : U32 (xA f s l) := by
  intro x hx
  unfold xA pad at hx
  rcases List.mem_append.mp hx with hx | hx
  · unfold ofA secA at hx
    rcases List.mem_cons.mp hx with rfl | hx
    · omega
    rcases List.mem_cons.mp hx with rfl | hx
    · split <;> omega
    · exact hu x (List.mem_of_mem_take hx)
  · rw [List.eq_of_mem_replicate hx]; omega
theorem xA_chk (f s : Int) (l : List Int) (hf : 0 ≤ f ∧ f < 256) (hs : 0 ≤ s ∧ s < 4294967296) : chkO ((nA f s l : Nat) : Int) (xA f s l) = 0 := by
  have h0 : (xA f s l).getD 0 0 = f % 3 := rfl
  have h1 : (xA f s l).getD 1 0 = secA f s := rfl
  have hl : 2 ≤ nA f s l := by unfold nA ofA; simp
  have hl2 := ofA_len f s l
  refine chkO_mk (by omega) (by unfold nA; omega) (by rw [h0]; omega) (by rw [h0, h1]; intro h; unfold secA; rw [if_pos h]; omega) (by rw [h1]; unfold secA; omega) ?_
  intro x hx
  rw [Int.toNat_natCast] at hx
  unfold xA pad nA at hx
  rw [List.drop_append_of_le_length (Nat.le_refl _), List.drop_length, List.nil_append] at hx
  exact List.eq_of_mem_replicate hx
theorem aof_is (f s : Int) (A : Option Addr) (c : Nat) (l : List Int) (w : World) (hf : 0 ≤ f ∧ f < 256) (hs : 0 ≤ s ∧ s < 4294967296) (hr : Kd.C (Kd.int .u32) w A l.length l) (hc : l.length ≤ c) :
    Calls Tryd.prog 19 #[.agg #[.int .u8 f, .int .u32 s, .slice A l.length c]] w fun e w' => e = .returned (oidV ((nA f s l : Nat) : Int) (xA f s l)) ∧ Below w.heap.size w w' := by
  have e1 : Int.tmod f 3 = f % 3 := Int.tmod_eq_emod_of_nonneg hf.1
  have e2 : Int.tmod s 40 = s % 40 := Int.tmod_eq_emod_of_nonneg hs.1
  have e3 : l.take (min 14 l.length) = l.take 14 := by
    rcases Nat.le_total 14 l.length with h | h
    · rw [Nat.min_eq_left h]
    · rw [Nat.min_eq_right h, List.take_of_length_le (Nat.le_refl _), List.take_of_length_le h]
  have h := aof_gen f s (f % 3) (s % 40) (secA f s) (min 14 l.length) A c l w (by omega) e1 e2 rfl (by omega) (Nat.min_le_right _ _) (Nat.min_le_left _ _) hr hc
  rw [e3] at h
  exact h
end Go.Proofs.YtacpcagijfacnaaDoor
