/- Chapter 22 (armors): decoding inverts encoding, and back. -/
import Derived.Test.YtbdccfjeeabpaaaPc
namespace Go.Proofs.Ytbdccfjeeabpaaa
open Go.RowKit Go.Shelf
set_option linter.unusedSimpArgs false
set_option linter.unusedVariables false
set_option maxRecDepth 50000
def alU (v : Int) : UInt8 := (al v).toNat.toUInt8
theorem dig_al_all : ∀ v : Fin 64, dig (alU (v.val : Int)) = (v.val : Int) + 1 := by decide +kernel
theorem dig_al (v : Int) (h : 0 ≤ v ∧ v < 64) : dig (alU v) = v + 1 := by
  have := dig_al_all ⟨v.toNat, by omega⟩
  simp only at this
  rwa [show ((v.toNat : Nat) : Int) = v by omega] at this
theorem al_dig_all : ∀ c : Fin 256, dig (UInt8.ofNat c.val) ≠ 0 → alU (dig (UInt8.ofNat c.val) - 1) = UInt8.ofNat c.val := by decide +kernel
theorem al_dig (c : UInt8) (h : dig c ≠ 0) : alU (dig c - 1) = c := by
  have := al_dig_all ⟨c.toNat, c.toNat_lt⟩
  simp only [UInt8.ofNat_toNat] at this
  exact this h
theorem dig61 : dig 61 = 0 := by decide +kernel
theorem al_ne61 (v : Int) (h : 0 ≤ v ∧ v < 64) : alU v ≠ 61 := fun e => by
  have := dig_al v h
  rw [e, dig61] at this
  omega
theorem chr3 (a b c : Int) (ha : 0 ≤ a ∧ a < 256) (hb : 0 ≤ b ∧ b < 256) (hc : 0 ≤ c ∧ c < 256) : b8 (e4 [a, b, c]) = [alU (a / 4), alU (a % 4 * 16 + b / 16), alU (b % 16 * 4 + c / 64), alU (c % 64)] := by
  obtain ⟨t0, t1, t2, t3⟩ := bts_at a b c ha hb hc
  have c0 : chr [a, b, c] 0 = al (a / 4) := by unfold chr bts; rw [if_neg (by simp)]; simp only [List.getD_cons_zero, List.getD_cons_succ, List.getD_nil]; rw [t0]
  have c1 : chr [a, b, c] 1 = al (a % 4 * 16 + b / 16) := by unfold chr bts; rw [if_neg (by simp)]; simp only [List.getD_cons_zero, List.getD_cons_succ, List.getD_nil]; rw [t1]
  have c2 : chr [a, b, c] 2 = al (b % 16 * 4 + c / 64) := by unfold chr bts; rw [if_neg (by simp)]; simp only [List.getD_cons_zero, List.getD_cons_succ, List.getD_nil]; rw [t2]
  have c3 : chr [a, b, c] 3 = al (c % 64) := by unfold chr bts; rw [if_neg (by simp)]; simp only [List.getD_cons_zero, List.getD_cons_succ, List.getD_nil]; rw [t3]
  unfold e4 b8
  rw [c0, c1, c2, c3]
  rfl
theorem chr2 (a b : Int) (ha : 0 ≤ a ∧ a < 256) (hb : 0 ≤ b ∧ b < 256) : b8 (e4 [a, b]) = [alU (a / 4), alU (a % 4 * 16 + b / 16), alU (b % 16 * 4), 61] := by
  obtain ⟨t0, t1, t2, t3⟩ := bts_at a b 0 ha hb (by omega)
  have c0 : chr [a, b] 0 = al (a / 4) := by unfold chr bts; rw [if_neg (by simp)]; simp only [List.getD_cons_zero, List.getD_cons_succ, List.getD_nil]; rw [t0]
  have c1 : chr [a, b] 1 = al (a % 4 * 16 + b / 16) := by unfold chr bts; rw [if_neg (by simp)]; simp only [List.getD_cons_zero, List.getD_cons_succ, List.getD_nil]; rw [t1]
  have c2 : chr [a, b] 2 = al (b % 16 * 4) := by unfold chr bts; rw [if_neg (by simp)]; simp only [List.getD_cons_zero, List.getD_cons_succ, List.getD_nil]; rw [t2]; simp
  have c3 : chr [a, b] 3 = 61 := by unfold chr; rw [if_pos (by simp)]
  unfold e4 b8
  rw [c0, c1, c2, c3]
  rfl
theorem chr1 (a : Int) (ha : 0 ≤ a ∧ a < 256) : b8 (e4 [a]) = [alU (a / 4), alU (a % 4 * 16), 61, 61] := by
  obtain ⟨t0, t1, t2, t3⟩ := bts_at a 0 0 ha (by omega) (by omega)
  have c0 : chr [a] 0 = al (a / 4) := by unfold chr bts; rw [if_neg (by simp)]; simp only [List.getD_cons_zero, List.getD_cons_succ, List.getD_nil]; rw [t0]
  have c1 : chr [a] 1 = al (a % 4 * 16) := by unfold chr bts; rw [if_neg (by simp)]; simp only [List.getD_cons_zero, List.getD_cons_succ, List.getD_nil]; rw [t1]; simp
  have c2 : chr [a] 2 = 61 := by unfold chr; rw [if_pos (by simp)]
  have c3 : chr [a] 3 = 61 := by unfold chr; rw [if_pos (by simp)]
  unfold e4 b8
  rw [c0, c1, c2, c3]
  rfl
theorem b8_app (x y : List Int) : b8 (x ++ y) = b8 x ++ b8 y := by simp [b8]
/-- Four characters. -/
theorem dgo4 {c1 c2 c3 c4 : UInt8} {r : List UInt8} {k : Nat} {out : List Int} {v1 v2 v3 v4 : Int} (hk : k % 4 = 0) (h1 : dig c1 = v1 + 1) (h2 : dig c2 = v2 + 1) (h3 : dig c3 = v3 + 1) (h4 : dig c4 = v4 + 1) (r1 : 0 ≤ v1 ∧ v1 < 64) (r2 : 0 ≤ v2 ∧ v2 < 64) (r3 : 0 ≤ v3 ∧ v3 < 64) (r4 : 0 ≤ v4 ∧ v4 < 64) :
    dgo (c1 :: c2 :: c3 :: c4 :: r) k 0 out = dgo r (k + 4) 0 (out ++ [v1 * 4 + v2 / 16, v2 % 16 * 16 + v3 / 4, v3 % 4 * 64 + v4]) := by
  simp only [dgo, h1, h2, h3, h4, show v1 + 1 ≠ 0 by omega, show v2 + 1 ≠ 0 by omega, show v3 + 1 ≠ 0 by omega, show v4 + 1 ≠ 0 by omega, if_false]
  simp only [em, nb, hk, show (k + 1) % 4 = 1 by omega, show (k + 1 + 1) % 4 = 2 by omega, show (k + 1 + 1 + 1) % 4 = 3 by omega, if_true, show ((1 : Nat) = 0) = False by simp, show ((2 : Nat) = 0) = False by simp, show ((2 : Nat) = 1) = False by simp, show ((3 : Nat) = 0) = False by simp, show ((3 : Nat) = 1) = False by simp, show ((3 : Nat) = 2) = False by simp, if_false]
  simp only [List.append_nil, List.append_assoc, List.singleton_append, Nat.add_assoc, Nat.reduceAdd]
  have a1 : ((0 * 64 + (v1 + 1 - 1)) * 64 + (v2 + 1 - 1)) / 16 = v1 * 4 + v2 / 16 := by omega
  have a2 : (((0 * 64 + (v1 + 1 - 1)) * 64 + (v2 + 1 - 1)) % 16 * 64 + (v3 + 1 - 1)) / 4 = v2 % 16 * 16 + v3 / 4 := by omega
  have a3 : (((0 * 64 + (v1 + 1 - 1)) * 64 + (v2 + 1 - 1)) % 16 * 64 + (v3 + 1 - 1)) % 4 * 64 + (v4 + 1 - 1) = v3 % 4 * 64 + v4 := by omega
  rw [a1, a2, a3]
  rfl
theorem dgo2 {c1 c2 : UInt8} {k : Nat} {out : List Int} {v1 v2 : Int} (hk : k % 4 = 0) (h1 : dig c1 = v1 + 1) (h2 : dig c2 = v2 + 1) (r1 : 0 ≤ v1 ∧ v1 < 64) (r2 : 0 ≤ v2 ∧ v2 < 64) :
    dgo [c1, c2] k 0 out = some (v2 % 16, out ++ [v1 * 4 + v2 / 16]) := by
  simp only [dgo, h1, h2, show v1 + 1 ≠ 0 by omega, show v2 + 1 ≠ 0 by omega, if_false]
  simp only [em, nb, hk, show (k + 1) % 4 = 1 by omega, if_true, show ((1 : Nat) = 0) = False by simp, if_false]
  simp only [List.append_nil, List.append_assoc, List.singleton_append]
  have a1 : ((0 * 64 + (v1 + 1 - 1)) * 64 + (v2 + 1 - 1)) / 16 = v1 * 4 + v2 / 16 := by omega
  have a2 : ((0 * 64 + (v1 + 1 - 1)) * 64 + (v2 + 1 - 1)) % 16 = v2 % 16 := by omega
  rw [a1, a2]
theorem dgo3 {c1 c2 c3 : UInt8} {k : Nat} {out : List Int} {v1 v2 v3 : Int} (hk : k % 4 = 0) (h1 : dig c1 = v1 + 1) (h2 : dig c2 = v2 + 1) (h3 : dig c3 = v3 + 1) (r1 : 0 ≤ v1 ∧ v1 < 64) (r2 : 0 ≤ v2 ∧ v2 < 64) (r3 : 0 ≤ v3 ∧ v3 < 64) :
    dgo [c1, c2, c3] k 0 out = some (v3 % 4, out ++ [v1 * 4 + v2 / 16, v2 % 16 * 16 + v3 / 4]) := by
  simp only [dgo, h1, h2, h3, show v1 + 1 ≠ 0 by omega, show v2 + 1 ≠ 0 by omega, show v3 + 1 ≠ 0 by omega, if_false]
  simp only [em, nb, hk, show (k + 1) % 4 = 1 by omega, show (k + 1 + 1) % 4 = 2 by omega, if_true, show ((1 : Nat) = 0) = False by simp, show ((2 : Nat) = 0) = False by simp, show ((2 : Nat) = 1) = False by simp, if_false]
  simp only [List.append_nil, List.append_assoc, List.singleton_append]
  have a1 : ((0 * 64 + (v1 + 1 - 1)) * 64 + (v2 + 1 - 1)) / 16 = v1 * 4 + v2 / 16 := by omega
  have a2 : (((0 * 64 + (v1 + 1 - 1)) * 64 + (v2 + 1 - 1)) % 16 * 64 + (v3 + 1 - 1)) / 4 = v2 % 16 * 16 + v3 / 4 := by omega
  have a3 : (((0 * 64 + (v1 + 1 - 1)) * 64 + (v2 + 1 - 1)) % 16 * 64 + (v3 + 1 - 1)) % 4 = v3 % 4 := by omega
  rw [a1, a2, a3]
theorem dgo1 {c1 : UInt8} {k : Nat} {out : List Int} (hk : k % 4 = 0) : dgo [c1] k 0 out = none ∨ dgo [c1] k 0 out = some (dig c1 - 1, out) := by
  simp only [dgo]
  by_cases h : dig c1 = 0
  · rw [if_pos h]; exact .inl rfl
  · rw [if_neg h]; right; simp [em, nb, hk]
/-- The characters of bytes, without the padding. -/
def bodyE : List Int → List UInt8
  | [] => []
  | [a] => [alU (a / 4), alU (a % 4 * 16)]
  | [a, b] => [alU (a / 4), alU (a % 4 * 16 + b / 16), alU (b % 16 * 4)]
  | a :: b :: c :: r => [alU (a / 4), alU (a % 4 * 16 + b / 16), alU (b % 16 * 4 + c / 64), alU (c % 64)] ++ bodyE r
def padE (n : Nat) : List UInt8 := if n % 3 = 0 then [] else if n % 3 = 1 then [61, 61] else [61]
theorem enc_body : ∀ l : List Int, Byt l → b8 (encR l) = bodyE l ++ padE l.length
  | [], _ => rfl
  | [a], h => by show b8 (e4 [a]) = _; rw [chr1 a (h a (by simp))]; rfl
  | [a, b], h => by show b8 (e4 [a, b]) = _; rw [chr2 a b (h a (by simp)) (h b (by simp))]; rfl
  | a :: b :: c :: r, h => by
    show b8 (e4 [a, b, c] ++ encR r) = _
    rw [b8_app, chr3 a b c (h a (by simp)) (h b (by simp)) (h c (by simp)), enc_body r (fun x hx => h x (by simp [hx]))]
    show _ = _ ++ bodyE r ++ padE (r.length + 3)
    rw [List.append_assoc]
    unfold padE
    rw [show (r.length + 3) % 3 = r.length % 3 by omega]
theorem body_len : ∀ l : List Int, ((bodyE l).length + (padE l.length).length) % 4 = 0
  | [] => rfl
  | [a] => by simp [bodyE, padE]
  | [a, b] => by simp [bodyE, padE]
  | a :: b :: c :: r => by
    have ih := body_len r
    show ((_ ++ bodyE r).length + (padE (r.length + 3)).length) % 4 = 0
    have : padE (r.length + 3) = padE r.length := by unfold padE; rw [show (r.length + 3) % 3 = r.length % 3 by omega]
    rw [this, List.length_append]
    simp only [List.length_cons, List.length_nil]
    omega
theorem body_last : ∀ l : List Int, Byt l → bodyE l = [] ∨ ∃ M v, bodyE l = M ++ [alU v] ∧ 0 ≤ v ∧ v < 64
  | [], _ => .inl rfl
  | [a], h => .inr ⟨[_], a % 4 * 16, rfl, by omega, by omega⟩
  | [a, b], h => .inr ⟨[_, _], b % 16 * 4, rfl, by omega, by omega⟩
  | a :: b :: c :: r, h => by
    rcases body_last r (fun x hx => h x (by simp [hx])) with h0 | ⟨M, v, h0, h1⟩
    · refine .inr ⟨[alU (a / 4), alU (a % 4 * 16 + b / 16), alU (b % 16 * 4 + c / 64)], c % 64, ?_, by omega, by omega⟩
      show _ ++ bodyE r = _
      rw [h0]; rfl
    · refine .inr ⟨[alU (a / 4), alU (a % 4 * 16 + b / 16), alU (b % 16 * 4 + c / 64), alU (c % 64)] ++ M, v, ?_, h1⟩
      show _ ++ bodyE r = _
      rw [h0, List.append_assoc]
theorem trim_body (l : List Int) (h : Byt l) : trimE (bodyE l ++ padE l.length) = bodyE l := by
  have hb : ∀ c, c = (61 : UInt8) → Lib.trimSuffix (bodyE l) [c] = bodyE l := fun c hc => by
    subst hc
    rcases body_last l h with h0 | ⟨M, v, h0, h1⟩
    · rw [h0, trimN]
    · rw [h0, trim0 _ _ _ (al_ne61 v h1)]
  unfold trimE padE
  rcases (show l.length % 3 = 0 ∨ l.length % 3 = 1 ∨ l.length % 3 = 2 by omega) with e | e | e
  · simp only [e, if_true]
    rw [List.append_nil, hb _ rfl, hb _ rfl]
  · simp only [e, show ((1 : Nat) = 0) = False by simp, if_true, if_false]
    rw [show bodyE l ++ [61, 61] = (bodyE l ++ [61]) ++ [61] by simp, trim1, trim1]
  · simp only [e, show ((2 : Nat) = 0) = False by simp, show ((2 : Nat) = 1) = False by simp, if_true, if_false]
    rw [trim1, hb _ rfl]
theorem dgo_body : ∀ (l : List Int) (k : Nat) (out : List Int), Byt l → k % 4 = 0 → dgo (bodyE l) k 0 out = some (0, out ++ l)
  | [], k, out, _, _ => by simp [bodyE, dgo]
  | [a], k, out, h, hk => by
    have ha := h a (by simp)
    show dgo [_, _] k 0 out = _
    rw [dgo2 hk (dig_al _ (by omega)) (dig_al _ (by omega)) (by omega) (by omega)]
    rw [show a % 4 * 16 % 16 = 0 by omega, show a / 4 * 4 + a % 4 * 16 / 16 = a by omega]
  | [a, b], k, out, h, hk => by
    have ha := h a (by simp)
    have hb := h b (by simp)
    show dgo [_, _, _] k 0 out = _
    rw [dgo3 hk (dig_al _ (by omega)) (dig_al _ (by omega)) (dig_al _ (by omega)) (by omega) (by omega) (by omega)]
    rw [show b % 16 * 4 % 4 = 0 by omega, show a / 4 * 4 + (a % 4 * 16 + b / 16) / 16 = a by omega, show (a % 4 * 16 + b / 16) % 16 * 16 + b % 16 * 4 / 4 = b by omega]
  | a :: b :: c :: r, k, out, h, hk => by
    have ha := h a (by simp)
    have hb := h b (by simp)
    have hc := h c (by simp)
    show dgo (_ :: _ :: _ :: _ :: bodyE r) k 0 out = _
    rw [dgo4 hk (dig_al _ (by omega)) (dig_al _ (by omega)) (dig_al _ (by omega)) (dig_al _ (by omega)) (by omega) (by omega) (by omega) (by omega)]
    rw [dgo_body r (k + 4) _ (fun x hx => h x (by simp [hx])) (by omega)]
    rw [show a / 4 * 4 + (a % 4 * 16 + b / 16) / 16 = a by omega, show (a % 4 * 16 + b / 16) % 16 * 16 + (b % 16 * 4 + c / 64) / 4 = b by omega, show (b % 16 * 4 + c / 64) % 4 * 64 + c % 64 = c by omega]
    simp
theorem encS_body (l : List Int) (h : Byt l) : encS l = bodyE l ++ padE l.length := by
  unfold encS; rw [encB_encR, enc_body l h]
/-- Decoding inverts encoding. -/
theorem dec_enc (l : List Int) (h : Byt l) : decP (encS l) = (l, 0) := by
  rw [encS_body l h]
  unfold decP
  rw [List.length_append, if_pos (body_len l), trim_body l h, dgo_body l 0 [] h rfl]
  simp [finD]
theorem rng (c : UInt8) (h : dig c ≠ 0) : ∃ v, dig c = v + 1 ∧ 0 ≤ v ∧ v < 64 ∧ alU v = c := by
  have := dig_range c
  exact ⟨dig c - 1, by omega, by omega, by omega, al_dig c h⟩
theorem dgo_ok {c : UInt8} {r : List UInt8} {k : Nat} {b : Int} {out : List Int} {x : Int × List Int} (h : dgo (c :: r) k b out = some x) : dig c ≠ 0 := by
  intro e; rw [dgo, if_pos e] at h; cases h
/-- What is decoded, is encoded as it was. -/
theorem dgo_back : ∀ (n : Nat) (T : List UInt8) (k : Nat) (out out' : List Int), T.length ≤ n → k % 4 = 0 → T.length % 4 ≠ 1 → dgo T k 0 out = some (0, out') →
    ∃ l, out' = out ++ l ∧ Byt l ∧ bodyE l = T
  | n, [], k, out, out', _, _, _, h => by
    simp only [dgo, Option.some.injEq, Prod.mk.injEq, true_and] at h
    exact ⟨[], by simp [h], (fun x hx => absurd hx List.not_mem_nil), rfl⟩
  | n, [c1], k, out, out', _, _, h1, _ => absurd rfl h1
  | n, [c1, c2], k, out, out', _, hk, _, h => by
    obtain ⟨v1, e1, r1, s1, f1⟩ := rng c1 (dgo_ok h)
    have d2 : dig c2 ≠ 0 := fun e => by
      rw [dgo, if_neg (dgo_ok h), dgo, if_pos e] at h; cases h
    obtain ⟨v2, e2, r2, s2, f2⟩ := rng c2 d2
    rw [dgo2 hk e1 e2 ⟨r1, s1⟩ ⟨r2, s2⟩] at h
    simp only [Option.some.injEq, Prod.mk.injEq] at h
    refine ⟨[v1 * 4 + v2 / 16], h.2.symm, fun x hx => ?_, ?_⟩
    · obtain rfl := List.mem_singleton.1 hx; omega
    · show [_, _] = _
      rw [show (v1 * 4 + v2 / 16) / 4 = v1 by omega, show (v1 * 4 + v2 / 16) % 4 * 16 = v2 by omega, f1, f2]
  | n, [c1, c2, c3], k, out, out', _, hk, _, h => by
    obtain ⟨v1, e1, r1, s1, f1⟩ := rng c1 (dgo_ok h)
    have d2 : dig c2 ≠ 0 := fun e => by
      rw [dgo, if_neg (dgo_ok h), dgo, if_pos e] at h; cases h
    have d3 : dig c3 ≠ 0 := fun e => by
      rw [dgo, if_neg (dgo_ok h), dgo, if_neg d2, dgo, if_pos e] at h; cases h
    obtain ⟨v2, e2, r2, s2, f2⟩ := rng c2 d2
    obtain ⟨v3, e3, r3, s3, f3⟩ := rng c3 d3
    rw [dgo3 hk e1 e2 e3 ⟨r1, s1⟩ ⟨r2, s2⟩ ⟨r3, s3⟩] at h
    simp only [Option.some.injEq, Prod.mk.injEq] at h
    refine ⟨[v1 * 4 + v2 / 16, v2 % 16 * 16 + v3 / 4], h.2.symm, fun x hx => ?_, ?_⟩
    · simp at hx; rcases hx with rfl | rfl <;> omega
    · show [_, _, _] = _
      rw [show (v1 * 4 + v2 / 16) / 4 = v1 by omega, show (v1 * 4 + v2 / 16) % 4 * 16 + (v2 % 16 * 16 + v3 / 4) / 16 = v2 by omega, show (v2 % 16 * 16 + v3 / 4) % 16 * 4 = v3 by omega, f1, f2, f3]
  | 0, c1 :: c2 :: c3 :: c4 :: r, k, out, out', hn, _, _, _ => by simp at hn
  | n + 1, c1 :: c2 :: c3 :: c4 :: r, k, out, out', hn, hk, hl, h => by
    obtain ⟨v1, e1, r1, s1, f1⟩ := rng c1 (dgo_ok h)
    have d2 : dig c2 ≠ 0 := fun e => by
      rw [dgo, if_neg (dgo_ok h), dgo, if_pos e] at h; cases h
    have d3 : dig c3 ≠ 0 := fun e => by
      rw [dgo, if_neg (dgo_ok h), dgo, if_neg d2, dgo, if_pos e] at h; cases h
    have d4 : dig c4 ≠ 0 := fun e => by
      rw [dgo, if_neg (dgo_ok h), dgo, if_neg d2, dgo, if_neg d3, dgo, if_pos e] at h; cases h
    obtain ⟨v2, e2, r2, s2, f2⟩ := rng c2 d2
    obtain ⟨v3, e3, r3, s3, f3⟩ := rng c3 d3
    obtain ⟨v4, e4', r4, s4, f4⟩ := rng c4 d4
    rw [dgo4 hk e1 e2 e3 e4' ⟨r1, s1⟩ ⟨r2, s2⟩ ⟨r3, s3⟩ ⟨r4, s4⟩] at h
    obtain ⟨l, h1, h2, h3⟩ := dgo_back n r (k + 4) _ out' (by simp at hn; omega) (by omega) (by simp at hl; omega) h
    refine ⟨(v1 * 4 + v2 / 16) :: (v2 % 16 * 16 + v3 / 4) :: (v3 % 4 * 64 + v4) :: l, by rw [h1]; simp, fun x hx => ?_, ?_⟩
    · simp at hx
      rcases hx with rfl | rfl | rfl | hx
      · omega
      · omega
      · omega
      · exact h2 x hx
    · show [_, _, _, _] ++ bodyE l = _
      rw [h3, show (v1 * 4 + v2 / 16) / 4 = v1 by omega, show (v1 * 4 + v2 / 16) % 4 * 16 + (v2 % 16 * 16 + v3 / 4) / 16 = v2 by omega, show (v2 % 16 * 16 + v3 / 4) % 16 * 4 + (v3 % 4 * 64 + v4) / 64 = v3 by omega, show (v3 % 4 * 64 + v4) % 64 = v4 by omega, f1, f2, f3, f4]
      rfl
theorem trimE_app (L : List UInt8) : ∃ n, n ≤ 2 ∧ L = trimE L ++ List.replicate n 61 := by
  unfold trimE
  rcases snoc_cases L with h0 | ⟨M, c, h0⟩
  · subst h0; exact ⟨0, by omega, by rw [trimN, trimN]; rfl⟩
  · subst h0
    by_cases hc : c = 61
    · subst hc
      rw [trim1]
      rcases snoc_cases M with h1 | ⟨N, d, h1⟩
      · subst h1; exact ⟨1, by omega, by rw [trimN]; rfl⟩
      · subst h1
        by_cases hd : d = 61
        · subst hd; exact ⟨2, by omega, by rw [trim1]; simp [List.replicate]⟩
        · exact ⟨1, by omega, by rw [trim0 N d 61 hd]; rfl⟩
    · exact ⟨0, by omega, by rw [trim0 M c 61 hc, trim0 M c 61 hc]; simp⟩
theorem enc_dec {L : List UInt8} {b : List Int} (h : decP L = (b, 0)) : Byt b ∧ encS b = L := by
  unfold decP at h
  by_cases h4 : L.length % 4 = 0
  · rw [if_pos h4] at h
    obtain ⟨n, hn, hL⟩ := trimE_app L
    generalize trimE L = T at *
    have hlen : L.length = T.length + n := by rw [hL]; simp
    cases hd : dgo T 0 0 [] with
    | none => rw [hd] at h; cases h
    | some x =>
      obtain ⟨b', out⟩ := x
      rw [hd] at h
      unfold finD at h
      simp only at h
      by_cases hb : b' = 0
      · subst hb
        rw [if_pos rfl] at h
        injection h with h _
        subst h
        obtain ⟨l, h1, h2, h3⟩ := dgo_back T.length T 0 [] out (Nat.le_refl _) rfl (by omega) hd
        rw [List.nil_append] at h1
        subst h1
        refine ⟨h2, ?_⟩
        rw [encS_body out h2, h3]
        have hp := body_len out
        rw [h3] at hp
        conv => rhs; rw [hL]
        congr 1
        unfold padE at *
        rcases (show out.length % 3 = 0 ∨ out.length % 3 = 1 ∨ out.length % 3 = 2 by omega) with e | e | e
        · simp only [e, if_true] at hp ⊢
          simp at hp
          rw [show n = 0 by omega]; rfl
        · simp only [e, show ((1 : Nat) = 0) = False by simp, if_true, if_false] at hp ⊢
          simp at hp
          rw [show n = 2 by omega]; rfl
        · simp only [e, show ((2 : Nat) = 0) = False by simp, show ((2 : Nat) = 1) = False by simp, if_true, if_false] at hp ⊢
          simp at hp
          rw [show n = 1 by omega]; rfl
      · rw [if_neg hb] at h; cases h
  · rw [if_neg h4] at h; cases h
end Go.Proofs.Ytbdccfjeeabpaaa
