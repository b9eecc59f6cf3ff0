/- Chapter 10 (times): Element of any valid time; is; the reference's Days and Check. -/
import Derived.Test.YtbncjjobdipmgaaDoorWq
import Derived.Test.YtbncjjobdipmgaaDoorWr
namespace Go.Proofs.YtbncjjobdipmgaaDoor
open Go.RowKit Pl

def elNum (y : Int) : Int := if 1950 ≤ y ∧ y ≤ 2049 then 23 else 24
def elL (y mo d h mi s : Int) : List UInt8 := ek (if 1950 ≤ y ∧ y ≤ 2049 then (dg 4 y).drop 2 else dg 4 y) mo d h mi s 5 ++ [90]
theorem elem_ok (y mo d h mi s : Int) (w : World) (hT : Tabs w) (hk : okB y mo d h mi s = true) :
    Calls Tryd.prog 17 #[.agg #[.int .i64 y, .int .i64 mo, .int .i64 d, .int .i64 h, .int .i64 mi, .int .i64 s]] w (ElP (elNum y) (elL y mo d h mi s) w) := by
  have hb := okB_bounds hk
  have h4 := dg4 y hb.1 hb.2.1
  have hl : (dg 4 y).length = 4 := by rw [h4]; rfl
  unfold elNum elL
  by_cases hu : 1950 ≤ y ∧ y ≤ 2049
  · rw [if_pos hu, if_pos hu]
    exact elem_utc y mo d h mi s _ w hT hk hu.1 hu.2 rfl (by rw [List.length_drop]; omega) (by omega)
  · rw [if_neg hu, if_neg hu]
    by_cases hg : y < 1950
    · exact elem_gen0 y mo d h mi s _ w hT hk hg rfl (by omega)
    · exact elem_gen1 y mo d h mi s _ w hT hk (by omega) (by omega) rfl (by omega)

theorem is_yes (num : Int) (L : List UInt8) (g : Nat) (w : World) (_hL : L.length ≤ 1000000) (hpos : 0 < L.length) (hc : Hid (∀ i (h : i < L.length), w.cell? ⟨g, i, none⟩ = some (.int .u8 (L[i].toNat : Int)))) :
    Calls Tryd.prog 22 #[.agg #[.int .u8 0, .bool false, .int .u32 num, .slice (some ⟨g, 0, none⟩) L.length L.length, .slice none 0 0], .int .i64 0, .int .u32 num, .string ⟨L.toArray⟩] w fun e w' => e = .returned (.bool true) ∧ Below w.heap.size w w' := by
  have hg : g < w.heap.size := cell_lt (hc.out 0 hpos)
  have hcv : ∀ W : World, Below w.heap.size w W → (convert 34 9 (.slice (some ⟨g, 0, none⟩) L.length L.length)).run Tryd.prog W = .ok (.string ⟨L.toArray⟩) W := by
    intro W hb
    refine run_convert_bytes_back W 34 9 5 ⟨g, 0, none⟩ _ L Tryd.underlying34 Tryd.underlying5 Tryd.underlying9 fun j hj => ?_
    rw [Lib.add_plain, Nat.zero_add, hb.cell (p := ⟨g, j, none⟩) hg]
    exact hc.out j hj
  have h1 := hcv ((w.alloc (.cells #[.int .u8 0, .bool false, .int .u32 num, .slice (some ⟨g, 0, none⟩) L.length L.length, .slice none 0 0] 37)).alloc (.cells #[.int .u8 0, .bool false, .int .u32 num] 33)) (((Below.refl _ _).alloc (Nat.le_refl _) _).alloc (by simp) _)
  clear hcv
  go_enter Tryd.func22, Tryd.ntmps22
  go_wp2
  go_ret
  exact ⟨rfl, ((Below.refl _ _).alloc (Nat.le_refl _) _).alloc (by simp) _⟩

theorem refDays_any (y m : Int) (w : World) : Calls Tryd.prog 13 #[.int .i64 y, .int .i64 m] w fun e w' => e = .returned (.int .i64 (dim y m)) ∧ w' = w := by
  by_cases h : m < 1 ∨ 12 < m
  · have hd : dim y m = 0 := by unfold dim; rw [if_pos h]
    rw [hd]
    have n2 : (m == 2) = false := by simp; omega
    have n4 : (m == 4) = false := by simp; omega
    have n6 : (m == 6) = false := by simp; omega
    have n9 : (m == 9) = false := by simp; omega
    have n11 : (m == 11) = false := by simp; omega
    rcases (show m < 1 ∨ (1 ≤ m ∧ 12 < m) by omega) with h | ⟨h, h'⟩
    all_goals
      go_enter Tryd.func13, Tryd.ntmps13
      go_wp2
      go_ret
      exact ⟨rfl, rfl⟩
  · have H : Hid (∀ w, Calls Tryd.prog 11 #[.int .i64 y] w fun e w' => e = .returned (.bool (leapB y)) ∧ w = w') := fun w => refLeap_any y w
    rcases (show m = 1 ∨ m = 2 ∨ m = 3 ∨ m = 4 ∨ m = 5 ∨ m = 6 ∨ m = 7 ∨ m = 8 ∨ m = 9 ∨ m = 10 ∨ m = 11 ∨ m = 12 by omega) with rfl | rfl | rfl | rfl | rfl | rfl | rfl | rfl | rfl | rfl | rfl | rfl
    case inr.inl =>
      by_cases hl : leapB y = true
      · have hd : dim y 2 = 29 := by unfold dim; rw [if_neg h, if_pos ⟨rfl, hl⟩]
        rw [hd]
        rw [hl] at H
        clear h hl hd
        go_enter Tryd.func13, Tryd.ntmps13
        go_wp2_with (go_at_call 11; refine (H.out _).mono ?_; rintro e w' ⟨rfl, rfl⟩)
        go_ret
        exact ⟨rfl, rfl⟩
      · have hl' : leapB y = false := by simpa using hl
        have hd : dim y 2 = 28 := by unfold dim; rw [if_neg h, if_neg (by intro h'; exact hl h'.2)]; rfl
        rw [hd]
        rw [hl'] at H
        clear h hl hl' hd
        go_enter Tryd.func13, Tryd.ntmps13
        go_wp2_with (go_at_call 11; refine (H.out _).mono ?_; rintro e w' ⟨rfl, rfl⟩)
        go_ret
        exact ⟨rfl, rfl⟩
    all_goals
      first | rw [show dim y 1 = 31 from rfl] | rw [show dim y 3 = 31 from rfl] | rw [show dim y 4 = 30 from rfl] | rw [show dim y 5 = 31 from rfl] | rw [show dim y 6 = 30 from rfl] | rw [show dim y 7 = 31 from rfl] | rw [show dim y 8 = 31 from rfl] | rw [show dim y 9 = 30 from rfl] | rw [show dim y 10 = 31 from rfl] | rw [show dim y 11 = 30 from rfl] | rw [show dim y 12 = 31 from rfl]
      clear h H
      go_enter Tryd.func13, Tryd.ntmps13
      go_wp2
      go_ret
      exact ⟨rfl, rfl⟩
end Go.Proofs.YtbncjjobdipmgaaDoor
