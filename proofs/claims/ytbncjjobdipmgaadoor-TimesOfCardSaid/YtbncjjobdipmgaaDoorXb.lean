/- Chapter 10 (times): the contracts of the reference's number and Digits. -/
import Derived.Test.YtbncjjobdipmgaaDoorWp
namespace Go.Proofs.YtbncjjobdipmgaaDoor
open Go.RowKit Pl

theorem ref_num (s : ByteArray) (w : World) (hs : s.size ≤ 4) : Calls Tryd.prog 38 #[.string s] w fun e w' => e = .returned (.int .i64 (numA s.data.toList 0)) ∧ w' = w := by
  obtain ⟨v, hv⟩ : ∃ v, v = numA s.data.toList 0 := ⟨_, rfl⟩
  rw [← hv]
  have HV := Lib.hid hv
  clear hv
  go_enter Tryd.func38, Tryd.ntmps38
  go_wp2
  go_loop [3, 4] (fun n i => ∃ (k : Nat) (m : Int), k ≤ s.size ∧ i = .int .i64 k ∧ n = .int .i64 m ∧ 0 ≤ m ∧ m ≤ 9999 ∧ Hid (m + 1 ≤ 10 ^ k ∧ numA (s.data.toList.drop k) m = v)) (fun _ i => s.size - (intOf i).toNat)
  case atStart => exact ⟨0, 0, by omega, rfl, rfl, by omega, by omega, ⟨by simp, by simpa using HV.out.symm⟩⟩
  case round =>
    obtain ⟨k, m, hk, rfl, rfl, hm0, hm1, HN⟩ := hrel
    by_cases hkl : k < s.size
    · have hkm : k < s.data.toList.length := by simpa using hkl
      obtain ⟨z, hz, hz0, hz1, HC, HD⟩ : ∃ z : Int, ((s[k]'hkl).toNat : Int) = z ∧ 0 ≤ z ∧ z < 256 ∧ Hid (48 ≤ z → z ≤ 57 → numA (s.data.toList.drop (k + 1)) (10 * m + (z - 48)) = v) ∧ Hid (z < 48 ∨ 57 < z → v = -1) := by
        have hb : s[k] = s.data.toList[k] := by simp [ByteArray.getElem_eq_getElem_data]
        refine ⟨((s[k]'hkl).toNat : Int), rfl, by omega, by have := (s[k]'hkl).toNat_lt; omega, ?_, ?_⟩
        · intro a b; rw [← HN.2, take_drop_cons _ k hkm, ← hb, numA_good a b]
        · intro a; rw [← HN.2, take_drop_cons _ k hkm, ← hb, numA_bad a]
      clear hkm
      by_cases hg : 48 ≤ z ∧ z ≤ 57
      · obtain ⟨g0, g1⟩ := hg
        have hpow : m + 1 ≤ 1000 := Int.le_trans HN.1 (by
          have : (10 : Int) ^ k ≤ 10 ^ 3 := by
            have := Nat.pow_le_pow_right (n := 10) (by omega) (show k ≤ 3 by omega)
            exact_mod_cast this
          omega)
        have hpow' : Hid (10 * m + (z - 48) + 1 ≤ 10 ^ (k + 1)) := by
          have := HN.1
          show _ ≤ _
          rw [Int.pow_succ]; omega
        go_wp2
        go_round
        case rel => exact ⟨k + 1, 10 * m + (z - 48), by omega, by go_num, rfl, by omega, by omega, ⟨hpow', HC.out g0 g1⟩⟩
        case measure => simp [intOf]; omega
      · rcases (show z < 48 ∨ 57 < z by omega) with g0 | g0
        · go_wp2
          go_ret
          exact ⟨ret_int (HD.out (.inl g0)).symm, rfl⟩
        · go_wp2
          go_ret
          exact ⟨ret_int (HD.out (.inr g0)).symm, rfl⟩
    · have hv : Hid (m = v) := by
        rw [← HN.2, List.drop_eq_nil_of_le (by simp; omega)]; rfl
      clear HN HV
      go_wp2
      go_ret
      exact ⟨ret_int hv.out, rfl⟩

/-- A number's last k digits. -/
def ls (n : Int) : Nat → List UInt8
  | 0 => []
  | k + 1 => ch (n / 10 ^ k % 10) :: ls n k
theorem ls_len (n : Int) (k : Nat) : (ls n k).length = k := by
  induction k with
  | zero => rfl
  | succ k ih => simp [ls, ih]
theorem tenth_run (r : Nat) (h : r < 10) (W : World) : (Instr.slice 9 (.string ⟨#[48, 49, 50, 51, 52, 53, 54, 55, 56, 57]⟩) (some (.int .i64 (r : Int))) (some (.int .i64 ((r : Int) + 1))) none).run Tryd.prog W = .ok (.string ⟨[UInt8.ofNat (48 + r)].toArray⟩) W := by
  rcases (show r = 0 ∨ r = 1 ∨ r = 2 ∨ r = 3 ∨ r = 4 ∨ r = 5 ∨ r = 6 ∨ r = 7 ∨ r = 8 ∨ r = 9 by omega) with rfl | rfl | rfl | rfl | rfl | rfl | rfl | rfl | rfl | rfl <;> kernel_rfl
set_option maxRecDepth 100000 in
set_option maxHeartbeats 400000 in
theorem ref_digits (n : Int) (many : Nat) (hm : many ≤ 4) (h0 : 0 ≤ n) (h1 : n ≤ 9999) (w : World) : Calls Tryd.prog 35 #[.int .i64 n, .int .i64 many] w fun e w' => e = .returned (.string ⟨(ls n many).toArray⟩) ∧ w' = w := by
  go_enter Tryd.func35, Tryd.ntmps35
  go_wp2
  go_loop [0, 5, 6] (fun a s i => ∃ (k : Nat) (m : Int), k ≤ many ∧ i = .int .i64 k ∧ a = .int .i64 m ∧ 0 ≤ m ∧ m ≤ 9999 ∧ Hid (m = n / 10 ^ k) ∧ s = .string ⟨(ls n k).toArray⟩) (fun _ _ i => many - (intOf i).toNat)
  case atStart => exact ⟨0, n, by omega, rfl, rfl, h0, h1, by show _ = _; simp, rfl⟩
  case round =>
    obtain ⟨k, m, hk, rfl, rfl, hm0, hm1, HM, rfl⟩ := hrel
    have hl := ls_len n k
    have hl' : (ls n k).length ≤ 4 := by omega
    by_cases hlt : k < many
    · obtain ⟨r, hr⟩ : ∃ r : Nat, m % 10 = (r : Int) := ⟨(m % 10).toNat, by omega⟩
      have hr10 : r < 10 := by omega
      obtain ⟨c, hc⟩ : ∃ c, c = UInt8.ofNat (48 + r) := ⟨_, rfl⟩
      have hx := tenth_run r hr10
      rw [← hc] at hx
      have HS : Hid (ls n (k + 1) = c :: ls n k) := by
        show ch (n / 10 ^ k % 10) :: ls n k = _
        rw [← HM.out, hr, hc]; rfl
      have HM' : Hid (m / 10 = n / 10 ^ (k + 1)) := by
        show _ = _
        rw [HM.out, Int.ediv_ediv_of_nonneg (by exact Int.le_of_lt (Int.pow_pos (by omega))), Int.pow_succ]
      clear hl hc
      go_wp2
      go_round
      case rel => exact ⟨k + 1, m / 10, by omega, by go_num, rfl, by omega, by omega, HM', by rw [HS.out]; exact congrArg Value.string (bytes_cat [_] _)⟩
      case measure => simp [intOf]; omega
    · obtain rfl : k = many := by omega
      clear hl
      go_wp2
      go_ret
      exact ⟨rfl, rfl⟩
theorem ls2 (n : Int) (h0 : 0 ≤ n) (h1 : n ≤ 99) : ls n 2 = dg 2 n := by
  rw [dg2 n h0 h1]
  simp [ls, Int.emod_eq_of_lt (show 0 ≤ n / 10 by omega) (show n / 10 < 10 by omega)]
theorem ls4 (n : Int) (h0 : 0 ≤ n) (h1 : n ≤ 9999) : ls n 4 = dg 4 n := by
  rw [dg4 n h0 h1]
  simp [ls, Int.emod_eq_of_lt (show 0 ≤ n / 1000 by omega) (show n / 1000 < 10 by omega)]
theorem ref_dg (n : Int) (many : Nat) (hm : many = 2 ∨ many = 4) (h0 : 0 ≤ n) (h1 : n ≤ if many = 2 then 99 else 9999) (w : World) : Calls Tryd.prog 35 #[.int .i64 n, .int .i64 many] w fun e w' => e = .returned (.string ⟨(dg many n).toArray⟩) ∧ w' = w := by
  rcases hm with rfl | rfl
  · rw [← ls2 n h0 h1]; exact ref_digits n 2 (by omega) h0 (by simp at h1; omega) w
  · rw [← ls4 n h0 h1]; exact ref_digits n 4 (by omega) h0 h1 w
end Go.Proofs.YtbncjjobdipmgaaDoor
