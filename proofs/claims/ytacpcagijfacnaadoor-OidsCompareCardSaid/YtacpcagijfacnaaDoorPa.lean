/- Chapters 6, 7 (oids, oidsets): the order of OIDs, and content octets, in plain data. -/
import Derived.Test.YtacpcagijfacnaaDoorWu
namespace Go.Proofs.YtacpcagijfacnaaDoor
set_option linter.unusedSimpArgs false
set_option linter.unusedVariables false
set_option maxRecDepth 50000
theorem cmpL_self : ∀ a : List Int, cmpL a a = 0
  | [] => rfl
  | x :: a => by simp only [cmpL]; rw [if_neg (by omega), if_neg (by omega)]; exact cmpL_self a
theorem cmpL_neg : ∀ a b : List Int, cmpL b a = - cmpL a b
  | [], [] => rfl
  | [], _ :: _ => rfl
  | _ :: _, [] => rfl
  | x :: a, y :: b => by
    simp only [cmpL]
    by_cases h : x < y
    · rw [if_neg (by omega), if_pos h, if_pos h]; rfl
    · by_cases h2 : y < x
      · rw [if_pos h2, if_neg h, if_pos h2]
      · rw [if_neg h2, if_neg h, if_neg h, if_neg h2]; exact cmpL_neg a b
theorem cmpL_eq : ∀ {a b : List Int}, cmpL a b = 0 → a = b
  | [], [], _ => rfl
  | [], _ :: _, h => by simp [cmpL] at h
  | _ :: _, [], h => by simp [cmpL] at h
  | x :: a, y :: b, h => by
    simp only [cmpL] at h
    by_cases h1 : x < y
    · rw [if_pos h1] at h; cases h
    · by_cases h2 : y < x
      · rw [if_neg h1, if_pos h2] at h; cases h
      · rw [if_neg h1, if_neg h2] at h; rw [cmpL_eq h, show x = y by omega]
theorem cmpL_3 : ∀ a b : List Int, cmpL a b = -1 ∨ cmpL a b = 0 ∨ cmpL a b = 1
  | [], [] => .inr (.inl rfl)
  | [], _ :: _ => .inl rfl
  | _ :: _, [] => .inr (.inr rfl)
  | x :: a, y :: b => by
    simp only [cmpL]
    by_cases h1 : x < y
    · rw [if_pos h1]; exact .inl rfl
    · by_cases h2 : y < x
      · rw [if_neg h1, if_pos h2]; exact .inr (.inr rfl)
      · rw [if_neg h1, if_neg h2]; exact cmpL_3 a b
theorem cmpL_trans : ∀ {a b c : List Int}, cmpL a b ≤ 0 → cmpL b c ≤ 0 → cmpL a c ≤ 0
  | [], _, [], _, _ => by simp [cmpL]
  | [], _, _ :: _, _, _ => by simp [cmpL]
  | _ :: _, [], _, h, _ => by simp [cmpL] at h
  | _ :: _, _ :: _, [], _, h => by simp [cmpL] at h
  | x :: a, y :: b, z :: c, h, k => by
    simp only [cmpL] at h k ⊢
    by_cases h1 : x < y
    · by_cases k1 : y < z
      · rw [if_pos (by omega)]; omega
      · by_cases k2 : z < y
        · rw [if_neg k1, if_pos k2] at k; omega
        · rw [if_pos (by omega)]; omega
    · by_cases h2 : y < x
      · rw [if_neg h1, if_pos h2] at h; omega
      · rw [if_neg h1, if_neg h2] at h
        by_cases k1 : y < z
        · rw [if_pos (by omega)]; omega
        · by_cases k2 : z < y
          · rw [if_neg k1, if_pos k2] at k; omega
          · rw [if_neg k1, if_neg k2] at k
            rw [if_neg (by omega), if_neg (by omega)]
            exact cmpL_trans h k
theorem cmpL_pre : ∀ {a b : List Int}, a = b.take a.length → a.length < b.length → cmpL a b = -1
  | [], [], _, h => by simp at h
  | [], _ :: _, _, _ => rfl
  | _ :: _, [], h, _ => by simp at h
  | x :: a, y :: b, h, k => by
    rw [List.length_cons, List.take_succ_cons] at h
    injection h with h1 h2
    simp only [cmpL]
    rw [if_neg (by omega), if_neg (by omega)]
    exact cmpL_pre h2 (by simpa using k)
/-- What stands behind the arcs of a valid OID. -/
theorem chkO_tail {n : Int} {xs : List Int} (h : chkO n xs = 0) : ∀ x ∈ xs.drop n.toNat, x = 0 := by
  unfold chkO at h
  by_cases h1 : n < 2
  · rw [if_pos h1] at h; cases h
  by_cases h2 : 16 < n
  · rw [if_neg h1, if_pos h2] at h; cases h
  rw [if_neg h1, if_neg h2] at h
  by_cases h3 : 2 < xs.getD 0 0
  · rw [if_pos h3] at h; cases h
  rw [if_neg h3] at h
  by_cases h4 : xs.getD 0 0 < 2 ∧ 39 < xs.getD 1 0
  · rw [if_pos h4] at h; cases h
  rw [if_neg h4] at h
  by_cases h5 : 4294967215 < xs.getD 1 0
  · rw [if_pos h5] at h; cases h
  rw [if_neg h5] at h
  by_cases h6 : ∀ x ∈ xs.drop n.toNat, x = 0
  · exact h6
  · rw [if_neg h6] at h; cases h
theorem chkO_mk {n : Int} {xs : List Int} (h1 : 2 ≤ n) (h2 : n ≤ 16) (h3 : xs.getD 0 0 ≤ 2) (h4 : xs.getD 0 0 < 2 → xs.getD 1 0 ≤ 39) (h5 : xs.getD 1 0 ≤ 4294967215) (h6 : ∀ x ∈ xs.drop n.toNat, x = 0) : chkO n xs = 0 := by
  unfold chkO
  rw [if_neg (by omega), if_neg (by omega), if_neg (by omega), if_neg (fun h => by have := h4 h.1; omega), if_neg (by omega), if_pos h6]
theorem zeros_of : ∀ {l : List Int} {k : Nat}, (∀ x ∈ l, x = 0) → l.length = k → l = List.replicate k 0 := fun h hk => List.eq_replicate_iff.mpr ⟨hk, h⟩
/-- A valid OID is its arcs, filled up. -/
theorem valid_pad {N : Nat} {xs : List Int} (hx : xs.length = 16) (h : chkO (N : Int) xs = 0) : arcsO N xs = xs.take N ∧ (arcsO N xs).length = N ∧ xs = pad (arcsO N xs) := by
  have hn := chkO_n h
  have e : arcsO N xs = xs.take N := by unfold arcsO; rw [Nat.min_eq_left hn.2]
  have hl : (arcsO N xs).length = N := by rw [arcsO_len hx]; omega
  refine ⟨e, hl, ?_⟩
  have ht := chkO_tail h
  rw [Int.toNat_natCast] at ht
  unfold pad
  rw [hl, e, ← zeros_of ht (by rw [List.length_drop, hx]), List.take_append_drop]
theorem valid_ext {N M : Nat} {xs ys : List Int} (hx : xs.length = 16) (hy : ys.length = 16) (h : chkO (N : Int) xs = 0) (k : chkO (M : Int) ys = 0) (e : arcsO N xs = arcsO M ys) : N = M ∧ xs = ys := by
  obtain ⟨_, h1, h2⟩ := valid_pad hx h
  obtain ⟨_, k1, k2⟩ := valid_pad hy k
  refine ⟨by rw [← h1, ← k1, e], by rw [h2, k2, e]⟩
/-! ### content octets -/
def U32n (t : Int) : Prop := 0 ≤ t ∧ t ≤ 4294967295
theorem mod128 (x : Int) (h0 : 0 ≤ x) (h1 : x < 128) : x % 128 = x := by omega
theorem mod128b (x : Int) (h0 : 0 ≤ x) (h1 : x < 128) : (128 + x) % 128 = x := by omega
/-- The octets of a subidentifier that is not at its end. -/
def glc (n : Int) : List Int :=
  if n < 128 then [128 + n] else if n < 16384 then [128 + n / 128, 128 + n % 128] else if n < 2097152 then [128 + n / 16384, 128 + n / 128 % 128, 128 + n % 128] else [128 + n / 2097152, 128 + n / 16384 % 128, 128 + n / 128 % 128, 128 + n % 128]
theorem gl_next {n d : Int} (h0 : 1 ≤ n) (hd : 0 ≤ d) (hd2 : d < 128) (h1 : n * 128 + d ≤ 4294967295) : gl (n * 128 + d) = glc n ++ [d] := by
  unfold gl glc
  rw [if_neg (by omega)]
  by_cases a : n < 128
  · rw [if_pos (by omega), if_pos a, show (n * 128 + d) / 128 = n by omega, show (n * 128 + d) % 128 = d by omega]; rfl
  rw [if_neg (by omega), if_neg a]
  by_cases b : n < 16384
  · rw [if_pos (by omega), if_pos b, show (n * 128 + d) / 16384 = n / 128 by omega, show (n * 128 + d) / 128 % 128 = n % 128 by omega, show (n * 128 + d) % 128 = d by omega]; rfl
  rw [if_neg (by omega), if_neg b]
  by_cases c : n < 2097152
  · rw [if_pos (by omega), if_pos c, show (n * 128 + d) / 2097152 = n / 16384 by omega, show (n * 128 + d) / 16384 % 128 = n / 128 % 128 by omega, show (n * 128 + d) / 128 % 128 = n % 128 by omega, show (n * 128 + d) % 128 = d by omega]; rfl
  rw [if_neg (by omega), if_neg c, show (n * 128 + d) / 268435456 = n / 2097152 by omega, show (n * 128 + d) / 2097152 % 128 = n / 16384 % 128 by omega, show (n * 128 + d) / 16384 % 128 = n / 128 % 128 by omega, show (n * 128 + d) / 128 % 128 = n % 128 by omega, show (n * 128 + d) % 128 = d by omega]; rfl
theorem glc_next {n d : Int} (h0 : 1 ≤ n) (hd : 0 ≤ d) (hd2 : d < 128) (h1 : n * 128 + d < 268435456) : glc (n * 128 + d) = glc n ++ [128 + d] := by
  unfold glc
  rw [if_neg (by omega)]
  by_cases a : n < 128
  · rw [if_pos (by omega), if_pos a, show (n * 128 + d) / 128 = n by omega, show (n * 128 + d) % 128 = d by omega]; rfl
  rw [if_neg (by omega), if_neg a]
  by_cases b : n < 16384
  · rw [if_pos (by omega), if_pos b, show (n * 128 + d) / 16384 = n / 128 by omega, show (n * 128 + d) / 128 % 128 = n % 128 by omega, show (n * 128 + d) % 128 = d by omega]; rfl
  rw [if_neg (by omega), if_neg b, if_pos (by omega), show (n * 128 + d) / 2097152 = n / 16384 by omega, show (n * 128 + d) / 16384 % 128 = n / 128 % 128 by omega, show (n * 128 + d) / 128 % 128 = n % 128 by omega, show (n * 128 + d) % 128 = d by omega]; rfl
theorem gl_one {n : Int} (h : n < 128) : gl n = [n] := by unfold gl; rw [if_pos h]
theorem glc_one {n : Int} (h : n < 128) : glc n = [128 + n] := by unfold glc; rw [if_pos h]
theorem getL_more (y : Int) (r S : List Int) (n : Int) : getL (y :: r) S n false = if 4294967295 < n * 128 + y % 128 then .error 3 else if y < 128 then getL r (S ++ [n * 128 + y % 128]) 0 true else getL r S (n * 128 + y % 128) false := by
  rw [getL, if_neg (by simp), if_neg (by simp)]
theorem getL_beg (y : Int) (r S : List Int) : getL (y :: r) S 0 true = if S.length = 15 then .error 3 else if y = 128 then .error 11 else if y < 128 then getL r (S ++ [y % 128]) 0 true else getL r S (y % 128) false := by
  have e : (0 : Int) * 128 + y % 128 = y % 128 := by omega
  rw [getL, e, if_neg (show ¬ 4294967295 < y % 128 by omega)]
  by_cases a : S.length = 15
  · rw [if_pos ⟨rfl, a⟩, if_pos a]
  · rw [if_neg (fun h => a h.2), if_neg a]
    by_cases b : y = 128
    · rw [if_pos ⟨rfl, b⟩, if_pos b]
    · rw [if_neg (fun h => b h.2), if_neg b]
/-- The octets that begin a subidentifier lead to where it stands. -/
theorem getL_glc (r S : List Int) (hS : S.length < 15) : ∀ (k : Nat) (n : Int), n.toNat = k → 1 ≤ n → n < 268435456 → getL (glc n ++ r) S 0 true = getL r S n false := by
  intro k
  induction k using Nat.strongRecOn generalizing r with
  | _ k ih =>
    intro n hk h0 h1
    by_cases a : n < 128
    · rw [glc_one a, List.singleton_append, getL_beg, if_neg (by omega), if_neg (by omega), if_neg (by omega), show (128 + n) % 128 = n by omega]
    · have e : n = (n / 128) * 128 + n % 128 := by omega
      rw [e, glc_next (by omega) (by omega) (by omega) (by omega), List.append_assoc, List.singleton_append, ih (n / 128).toNat (by omega) _ (n / 128) rfl (by omega) (by omega), getL_more, if_neg (by omega), if_neg (by omega), show (128 + n % 128) % 128 = n % 128 by omega]
/-- A subidentifier is read as it was written. -/
theorem getL_gl (r S : List Int) (n : Int) (hS : S.length < 15) (h0 : 0 ≤ n) (h1 : n ≤ 4294967295) : getL (gl n ++ r) S 0 true = getL r (S ++ [n]) 0 true := by
  by_cases a : n < 128
  · rw [gl_one a, List.singleton_append, getL_beg, if_neg (by omega), if_neg (by omega), if_pos a, show n % 128 = n by omega]
  · have e : n = (n / 128) * 128 + n % 128 := by omega
    rw [e, gl_next (by omega) (by omega) (by omega) (by omega), List.append_assoc, List.singleton_append, getL_glc _ _ hS _ (n / 128) rfl (by omega) (by omega), getL_more, if_neg (by omega), if_pos (by omega), show n % 128 % 128 = n % 128 by omega]
theorem getL_all : ∀ (T S : List Int), (∀ t ∈ T, U32n t) → S.length + T.length ≤ 15 → getL (T.flatMap gl) S 0 true = .ok (S ++ T)
  | [], S, _, _ => by simp [getL]
  | t :: T, S, h, hl => by
    have ht := h t (by simp)
    rw [List.length_cons] at hl
    rw [List.flatMap_cons, getL_gl _ _ _ (by omega) ht.1 ht.2, getL_all T (S ++ [t]) (fun x hx => h x (List.mem_cons_of_mem _ hx)) (by rw [List.length_append, List.length_singleton]; omega)]
    simp
/-- What is read has these octets. -/
theorem getL_back (S' : List Int) : ∀ (l S : List Int) (n : Int), Byt l → S.length ≤ 15 →
    (getL l S 0 true = .ok S' → ∃ T, S' = S ++ T ∧ l = T.flatMap gl ∧ (∀ t ∈ T, U32n t) ∧ S'.length ≤ 15) ∧
    (S.length < 15 → 1 ≤ n → n ≤ 4294967295 → getL l S n false = .ok S' → ∃ t T, S' = S ++ t :: T ∧ (n < 268435456 ∧ glc n ++ l = gl t ++ T.flatMap gl) ∧ U32n t ∧ (∀ t ∈ T, U32n t) ∧ S'.length ≤ 15)
  | [], S, n, hb, hS => by
    refine ⟨fun h => ?_, fun _ _ _ h => ?_⟩
    · simp only [getL, if_true] at h
      injection h with h; subst h
      exact ⟨[], by simp, by simp, by simp, hS⟩
    · simp [getL] at h
  | y :: r, S, n, hb, hS => by
    have hy := hb y (by simp)
    have hr : Byt r := fun x hx => hb x (List.mem_cons_of_mem _ hx)
    refine ⟨fun h => ?_, fun hS2 h0 h1 h => ?_⟩
    · rw [getL_beg] at h
      by_cases a : S.length = 15
      · rw [if_pos a] at h; cases h
      rw [if_neg a] at h
      by_cases b : y = 128
      · rw [if_pos b] at h; cases h
      rw [if_neg b] at h
      by_cases c : y < 128
      · rw [if_pos c, mod128 y hy.1 c] at h
        obtain ⟨T, e1, e2, e3, e4⟩ := (getL_back S' r (S ++ [y]) 0 hr (by simp; omega)).1 h
        refine ⟨y :: T, by rw [e1]; simp, by rw [List.flatMap_cons, gl_one c, ← e2]; rfl, ?_, e4⟩
        intro t ht
        rcases List.mem_cons.mp ht with rfl | ht
        · exact ⟨hy.1, by omega⟩
        · exact e3 t ht
      · rw [if_neg c] at h
        obtain ⟨t, T, e1, ⟨_, e2⟩, e3, e4, e5⟩ := (getL_back S' r S (y % 128) hr hS).2 (by omega) (by omega) (by omega) h
        rw [glc_one (by omega), show 128 + y % 128 = y by omega, List.singleton_append] at e2
        refine ⟨t :: T, e1, by rw [List.flatMap_cons]; exact e2, ?_, e5⟩
        intro u hu
        rcases List.mem_cons.mp hu with rfl | hu
        · exact e3
        · exact e4 u hu
    · rw [getL_more] at h
      by_cases a : 4294967295 < n * 128 + y % 128
      · rw [if_pos a] at h; cases h
      rw [if_neg a] at h
      have hn : n < 268435456 := by omega
      by_cases c : y < 128
      · rw [if_pos c, mod128 y hy.1 c] at h
        rw [mod128 y hy.1 c] at a
        obtain ⟨T, e1, e2, e3, e4⟩ := (getL_back S' r (S ++ [n * 128 + y]) 0 hr (by simp; omega)).1 h
        refine ⟨n * 128 + y, T, by rw [e1]; simp, ⟨hn, ?_⟩, ⟨by omega, by omega⟩, e3, e4⟩
        rw [gl_next h0 hy.1 c (by omega), ← e2]; simp
      · rw [if_neg c] at h
        obtain ⟨t, T, e1, ⟨e6, e2⟩, e3, e4, e5⟩ := (getL_back S' r S (n * 128 + y % 128) hr hS).2 hS2 (by omega) (by omega) h
        rw [glc_next h0 (by omega) (by omega) e6, show 128 + y % 128 = y by omega, List.append_assoc, List.singleton_append] at e2
        exact ⟨t, T, e1, ⟨hn, e2⟩, e3, e4, e5⟩
end Go.Proofs.YtacpcagijfacnaaDoor
