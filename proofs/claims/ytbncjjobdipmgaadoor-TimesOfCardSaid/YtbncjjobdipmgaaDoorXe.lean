/- Chapter 10 (times): what is read was written so (no walk here). -/
import Derived.Test.YtbncjjobdipmgaaDoorXd
namespace Go.Proofs.YtbncjjobdipmgaaDoor
open Go.RowKit Pl

theorem ch_of (z : UInt8) (h0 : (48 : Int) ≤ z.toNat) (_h1 : (z.toNat : Int) ≤ 57) : ch ((z.toNat : Int) - 48) = z := by
  unfold ch
  rw [show 48 + ((z.toNat : Int) - 48).toNat = z.toNat by omega]
  exact UInt8.ofNat_toNat
theorem num_step {z : UInt8} {r : List UInt8} {n : Int} (h : 0 ≤ numA (z :: r) n) : ∃ k : Int, 0 ≤ k ∧ k ≤ 9 ∧ z = ch k ∧ numA (z :: r) n = numA r (10 * n + k) := by
  rcases (show (48 ≤ (z.toNat : Int) ∧ (z.toNat : Int) ≤ 57) ∨ ((z.toNat : Int) < 48 ∨ 57 < (z.toNat : Int)) by omega) with ⟨h0, h1⟩ | hb
  · exact ⟨(z.toNat : Int) - 48, by omega, by omega, (ch_of z h0 h1).symm, numA_good h0 h1⟩
  · rw [numA_bad hb] at h; omega
theorem num2_inv {a b : UInt8} (h : 0 ≤ numA [a, b] 0) : [a, b] = dg 2 (numA [a, b] 0) ∧ numA [a, b] 0 ≤ 99 := by
  obtain ⟨k, k0, k1, rfl, e⟩ := num_step h
  rw [e] at h ⊢
  obtain ⟨j, j0, j1, rfl, e⟩ := num_step h
  rw [e]
  have e2 : numA [] (10 * (10 * 0 + k) + j) = 10 * k + j := by show _ = _; simp [numA]
  rw [e2, dg2 _ (by omega) (by omega)]
  refine ⟨?_, by omega⟩
  rw [show (10 * k + j) / 10 = k by omega, show (10 * k + j) % 10 = j by omega]
theorem num4_inv {a b c d : UInt8} (h : 0 ≤ numA [a, b, c, d] 0) : [a, b, c, d] = dg 4 (numA [a, b, c, d] 0) ∧ numA [a, b, c, d] 0 ≤ 9999 := by
  obtain ⟨k, k0, k1, rfl, e⟩ := num_step h
  rw [e] at h ⊢
  obtain ⟨j, j0, j1, rfl, e⟩ := num_step h
  rw [e] at h ⊢
  obtain ⟨i, i0, i1, rfl, e⟩ := num_step h
  rw [e] at h ⊢
  obtain ⟨m, m0, m1, rfl, e⟩ := num_step h
  rw [e]
  have e2 : numA [] (10 * (10 * (10 * (10 * 0 + k) + j) + i) + m) = 1000 * k + 100 * j + 10 * i + m := by show _ = _; simp [numA]; omega
  rw [e2, dg4 _ (by omega) (by omega)]
  refine ⟨?_, by omega⟩
  rw [show (1000 * k + 100 * j + 10 * i + m) / 1000 = k by omega, show (1000 * k + 100 * j + 10 * i + m) / 100 % 10 = j by omega, show (1000 * k + 100 * j + 10 * i + m) / 10 % 10 = i by omega, show (1000 * k + 100 * j + 10 * i + m) % 10 = m by omega]
theorem rd2_inv {l : List UInt8} (h : 0 ≤ rdv 2 l) : l = dg 2 (rdv 2 l) ++ rdr 2 l ∧ rdv 2 l ≤ 99 := by
  match l with
  | [] => exact absurd h (by decide)
  | [_] => exact absurd h (by simp [rdv])
  | a :: b :: r =>
    have e : rdv 2 (a :: b :: r) = numA [a, b] 0 := by unfold rdv; rw [if_neg (by simp)]; rfl
    rw [e] at h
    have hr : rdr 2 (a :: b :: r) = r := by unfold rdr; rw [e, if_neg (by omega)]; rfl
    obtain ⟨i, j⟩ := num2_inv h
    rw [e, hr, ← i]
    exact ⟨rfl, j⟩
theorem rd4_inv {l : List UInt8} (h : 0 ≤ rdv 4 l) : l = dg 4 (rdv 4 l) ++ rdr 4 l ∧ rdv 4 l ≤ 9999 := by
  match l with
  | [] => exact absurd h (by decide)
  | [_] => exact absurd h (by simp [rdv])
  | [_, _] => exact absurd h (by simp [rdv])
  | [_, _, _] => exact absurd h (by simp [rdv])
  | a :: b :: c :: d :: r =>
    have e : rdv 4 (a :: b :: c :: d :: r) = numA [a, b, c, d] 0 := by unfold rdv; rw [if_neg (by simp)]; rfl
    rw [e] at h
    have hr : rdr 4 (a :: b :: c :: d :: r) = r := by unfold rdr; rw [e, if_neg (by omega)]; rfl
    obtain ⟨i, j⟩ := num4_inv h
    rw [e, hr, ← i]
    exact ⟨rfl, j⟩
theorem mst_inv {c : UInt8} {l : List UInt8} (h : mst c l = true) : l = c :: msr c l := by
  match l with
  | [] => exact absurd h (by simp [mst])
  | d :: r =>
    have : (d == c) = true := h
    obtain rfl : d = c := by simpa using this
    rw [(mst_cons d r).2]

theorem parse_inv {l : List UInt8} {t : Tm} (h : parseF l = (t, 0)) : t.ok = true ∧ l = textL t.y t.mo t.d t.h t.mi t.s := by
  unfold parseF parseG at h
  split at h
  · rename_i hc
    obtain ⟨ho, hl, hk⟩ := hc
    obtain rfl := (Prod.mk.inj h).1
    refine ⟨hk, ?_⟩
    have hb := okB_bounds hk
    generalize hP : msr 45 (rdr 4 l) = p0 at *
    have o5 : mst 90 (rdr 2 (pk p0 4)) = true ∧ okk (mst 45 (rdr 4 l)) p0 4 = true := (Bool.and_eq_true _ _).mp ho
    have o4 : mst 58 (rdr 2 (pk p0 3)) = true ∧ okk (mst 45 (rdr 4 l)) p0 3 = true := (Bool.and_eq_true _ _).mp o5.2
    have o3 : mst 58 (rdr 2 (pk p0 2)) = true ∧ okk (mst 45 (rdr 4 l)) p0 2 = true := (Bool.and_eq_true _ _).mp o4.2
    have o2 : mst 84 (rdr 2 (pk p0 1)) = true ∧ okk (mst 45 (rdr 4 l)) p0 1 = true := (Bool.and_eq_true _ _).mp o3.2
    have o1 : mst 45 (rdr 2 (pk p0 0)) = true ∧ mst 45 (rdr 4 l) = true := (Bool.and_eq_true _ _).mp o2.2
    have r4 := (rd4_inv (l := l) hb.1).1
    have s4 := mst_inv o1.2
    have q0 := (rd2_inv (l := pk p0 0) (show 0 ≤ uk p0 0 by omega)).1
    have q1 := (rd2_inv (l := pk p0 1) (show 0 ≤ uk p0 1 by omega)).1
    have q2 := (rd2_inv (l := pk p0 2) (show 0 ≤ uk p0 2 by omega)).1
    have q3 := (rd2_inv (l := pk p0 3) (show 0 ≤ uk p0 3 by omega)).1
    have q4 := (rd2_inv (l := pk p0 4) (show 0 ≤ uk p0 4 by omega)).1
    have m0 : rdr 2 (pk p0 0) = 45 :: pk p0 1 := mst_inv o1.1
    have m1 : rdr 2 (pk p0 1) = 84 :: pk p0 2 := mst_inv o2.1
    have m2 : rdr 2 (pk p0 2) = 58 :: pk p0 3 := mst_inv o3.1
    have m3 : rdr 2 (pk p0 3) = 58 :: pk p0 4 := mst_inv o4.1
    have m4 : rdr 2 (pk p0 4) = 90 :: pk p0 5 := mst_inv o5.1
    have hp0 : p0 = dg 2 (uk p0 0) ++ (45 :: (dg 2 (uk p0 1) ++ (84 :: (dg 2 (uk p0 2) ++ (58 :: (dg 2 (uk p0 3) ++ (58 :: (dg 2 (uk p0 4) ++ (90 :: pk p0 5))))))))) := by
      show pk p0 0 = _
      rw [m4] at q4; rw [m3, q4] at q3; rw [m2, q3] at q2; rw [m1, q2] at q1; rw [m0, q1] at q0
      exact q0
    have hl5 : pk p0 5 = [] := by
      have := congrArg List.length r4
      rw [List.length_append, dg4_len _ hb.1 hb.2.1, s4, hP, hp0] at this
      simp [dg2_len (uk p0 0) (by omega) (by omega), dg2_len (uk p0 1) (by omega) (by omega), dg2_len (uk p0 2) (by omega) (by omega), dg2_len (uk p0 3) (by omega) (by omega), dg2_len (uk p0 4) (by omega) (by omega)] at this
      exact List.eq_nil_of_length_eq_zero (by omega)
    rw [hl5] at hp0
    rw [textL_eq]
    show l = dg 4 (rdv 4 l) ++ (45 :: text5 (uk p0 0) (uk p0 1) (uk p0 2) (uk p0 3) (uk p0 4))
    unfold text5
    rw [← hp0, ← hP, ← s4]
    exact r4
  · exact absurd (Prod.mk.inj h).2 (by decide)
end Go.Proofs.YtbncjjobdipmgaaDoor
