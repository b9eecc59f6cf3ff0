/- Chapter 10 (times): the contracts of the law's T.Of and of the reference's Seconds. -/
import Derived.Test.YtbncjjobdipmgaaDoorWu
import Derived.Deep.RegionWith
namespace Go.Proofs.YtbncjjobdipmgaaDoor
open Go.RowKit Pl

theorem dim_pos (y mo : Int) (h0 : 1 ≤ mo) (h1 : mo ≤ 12) : 28 ≤ dim y mo := by
  rcases (show mo = 2 ∨ mo ≠ 2 by omega) with rfl | h
  · rw [dim_2]; split <;> omega
  · obtain ⟨k, rfl⟩ : ∃ k : Nat, mo = (k : Int) + 1 := ⟨(mo - 1).toNat, by omega⟩
    rw [dim_k y k (by omega) (by omega)]
    have : ∀ k, k < 12 → 28 ≤ lens.getD k 0 := by decide
    exact this k (by omega)
/-- The time that plain data stand for. -/
def tOf (Y M D H Mi S : Int) : Tm := ⟨Y % 10000, 1 + M % 12, 1 + D % dim (Y % 10000) (1 + M % 12), H % 24, Mi % 60, S % 60⟩
theorem tOf_ok (Y M D H Mi S : Int) : (tOf Y M D H Mi S).ok = true := by
  have h := dim_pos (Y % 10000) (1 + M % 12) (by omega) (by omega)
  have h1 := Int.emod_nonneg D (show dim (Y % 10000) (1 + M % 12) ≠ 0 by omega)
  have h2 := Int.emod_lt_of_pos D (show 0 < dim (Y % 10000) (1 + M % 12) by omega)
  show okB (Y % 10000) (1 + M % 12) (1 + D % dim (Y % 10000) (1 + M % 12)) (H % 24) (Mi % 60) (S % 60) = true
  unfold okB
  exact decide_eq_true (by omega)

theorem ret20 {R : Nat} {a0 a1 a2 a3 a4 a5 : Value} {tmps : Array Value} {w : World} (hp : tmps.getD 2 undef = .pointer (some ⟨R, 0, none⟩))
    (hR : w.heap[R]? = some (.cells #[a0, a1, a2, a3, a4, a5] 23 (0, 0))) : (results Tryd.f20 tmps).run Tryd.prog w = .ok (.agg #[a0, a1, a2, a3, a4, a5]) w := by
  exact results_cell_row Tryd.results20 tmps w R 23 _ (0, 0) _ hp hR Tryd.underlying23 rfl (by kernel_rfl)

theorem tof_start (w : World) (hT : Tabs w) (cx cr cv : Array Value) : St w (((w.alloc (.cells cx 44)).alloc (.cells cr 23)).alloc (.cells cv 23)) ∧
    (((w.alloc (.cells cx 44)).alloc (.cells cr 23)).alloc (.cells cv 23)).heap[w.heap.size + 1]? = some (.cells cr 23 (0, 0)) := by
  refine ⟨(((St.refl hT).alloc _).alloc _).alloc _, blk_alloc ?_ _⟩
  have := blk_new (w.alloc (.cells cx 44)) (.cells cr 23)
  simpa using this

set_option maxHeartbeats 4000000 in
theorem tof_gen (Y M D H Mi S dm : Int) (w : World) (hT : Tabs w) (b0 : 0 ≤ Y) (b1 : Y < 65536) (b2 : 0 ≤ M) (b3 : M < 256) (b4 : 0 ≤ D) (b5 : D < 256) (b6 : 0 ≤ H) (b7 : H < 256) (b8 : 0 ≤ Mi) (b9 : Mi < 256) (b10 : 0 ≤ S) (b11 : S < 256)
    (hd0 : 28 ≤ dm) (hd1 : dm ≤ 31) (_hd2 : (dm == 0) = false) (HD : Hid (∀ W, Calls Tryd.prog 13 #[.int .i64 (Y % 10000), .int .i64 (1 + M % 12)] W fun e w' => e = .returned (.int .i64 dm) ∧ W = w')) :
    Calls Tryd.prog 20 #[.agg #[.int .u16 Y, .int .u8 M, .int .u8 D, .int .u8 H, .int .u8 Mi, .int .u8 S]] w fun e w' => e = .returned (.agg #[.int .i64 (Y % 10000), .int .i64 (1 + M % 12), .int .i64 (1 + D % dm), .int .i64 (H % 24), .int .i64 (Mi % 60), .int .i64 (S % 60)]) ∧ Below w.heap.size w w' := by
  have hm0 : 0 ≤ D % dm := Int.emod_nonneg D (by omega)
  have hm1 : D % dm < dm := Int.emod_lt_of_pos D (by omega)
  have HX := Lib.hid (tof_start w hT #[.int .u16 Y, .int .u8 M, .int .u8 D, .int .u8 H, .int .u8 Mi, .int .u8 S] #[.int .i64 (Y % 10000), .int .i64 (1 + M % 12), .int .i64 (1 + D % dm), .int .i64 (H % 24), .int .i64 (Mi % 60), .int .i64 (S % 60)] #[.int .i64 (Y % 10000), .int .i64 (1 + M % 12), .int .i64 (1 + D % dm), .int .i64 (H % 24), .int .i64 (Mi % 60), .int .i64 (S % 60)])
  go_enter Tryd.func20, Tryd.ntmps20
  go_wp2
  go_region_with (first | (go_at_call 13; refine (HD.out _).mono ?_; rintro e w' ⟨rfl, rfl⟩))
  all_goals rename_i hK _
  all_goals refine hK _ _ ?_
  all_goals clear hK
  all_goals go_wp2
  all_goals exact bodyPost_ret (ret20 rfl (blk_drew HX.out.2)) rfl ⟨rfl, HX.out.1.drew.b⟩

set_option maxHeartbeats 4000000 in
theorem refSecs_gen (y d h mi s : Int) (M N : Nat) (w : World) (hY : y = (N : Int)) (b0 : N ≤ 9999) (b1 : M ≤ 11) (b2 : 1 ≤ d) (b3 : d ≤ 31) (b6 : 0 ≤ h) (b7 : h ≤ 23) (b8 : 0 ≤ mi) (b9 : mi ≤ 59) (b10 : 0 ≤ s) (b11 : s ≤ 59) :
    Calls Tryd.prog 29 #[.agg #[.int .i64 y, .int .i64 ((M : Int) + 1), .int .i64 d, .int .i64 h, .int .i64 mi, .int .i64 s]] w fun e w' => e = .returned (.int .i64 (((24 * (dby y + cumd y M + d - 1) + h) * 60 + mi) * 60 + s)) ∧ Below w.heap.size w w' := by
  subst hY
  go_enter Tryd.func29, Tryd.ntmps29
  go_wp2
  go_loop [3, 4] (fun n i => ∃ k : Nat, k ≤ N ∧ i = .int .i64 k ∧ n = .int .i64 (dby k)) (fun _ i => N - (intOf i).toNat)
  case atStart => exact ⟨0, by omega, rfl, rfl⟩
  case round =>
    obtain ⟨k, hk, rfl, rfl⟩ := hrel
    have hb := dby_bd k (by omega) (by omega)
    by_cases hlt : k < N
    · have hs := dby_succ k (by omega)
      rw [cumd_12] at hs
      have HL := Lib.hid (fun W => refLeap_any (k : Int) W)
      by_cases hl : leapB k = true
      · rw [hl] at HL
        rw [if_pos hl] at hs
        have HS : Hid (dby ((k : Int) + 1) = dby k + 365 + 1) := by show _ = _; omega
        clear hs hl
        go_wp2_with (go_at_call 11; refine (HL.out _).mono ?_; rintro e w' ⟨rfl, rfl⟩)
        go_round
        case rel => exact ⟨k + 1, by omega, by go_num, by rw [show (((k + 1 : Nat) : Int)) = (k : Int) + 1 by omega, HS.out]⟩
        case measure => simp [intOf]; omega
      · have hl' : leapB k = false := by simpa using hl
        rw [hl'] at HL
        rw [if_neg hl] at hs
        have HS : Hid (dby ((k : Int) + 1) = dby k + 365) := by show _ = _; omega
        clear hs hl hl'
        go_wp2_with (go_at_call 11; refine (HL.out _).mono ?_; rintro e w' ⟨rfl, rfl⟩)
        go_round
        case rel => exact ⟨k + 1, by omega, by go_num, by rw [show (((k + 1 : Nat) : Int)) = (k : Int) + 1 by omega, HS.out]⟩
        case measure => simp [intOf]; omega
    · obtain rfl : k = N := by omega
      go_wp2
      go_loop [3, 5] (fun n m => ∃ j : Nat, j ≤ M ∧ m = .int .i64 ((j : Int) + 1) ∧ n = .int .i64 (dby k + cumd k j)) (fun _ m => M + 1 - (intOf m).toNat)
      case atStart => exact ⟨0, by omega, rfl, by simp [cumd]⟩
      case round =>
        obtain ⟨j, hj, rfl, rfl⟩ := hrel
        have hc := cumd_le k j
        by_cases hlt : j < M
        · have hD := dim_le k ((j : Int) + 1)
          have HS : Hid (cumd k (j + 1) = cumd k j + dim k ((j : Int) + 1)) := rfl
          go_wp2_with (go_at_call 13; refine (refDays_any _ _ _).mono ?_; rintro e w' ⟨rfl, rfl⟩)
          go_round
          case rel => exact ⟨j + 1, by omega, by go_num, by rw [HS.out]; go_num⟩
          case measure => simp [intOf]; omega
        · obtain rfl : j = M := by omega
          go_wp2
          go_ret
          exact ⟨rfl, (Below.refl _ _).alloc (Nat.le_refl _) _⟩
end Go.Proofs.YtbncjjobdipmgaaDoor
