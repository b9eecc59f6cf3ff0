/- Chapter 10 (times): the walk of the law TimesCheck: it answers true. -/
import Derived.Test.YtbncjjobdipmgaaDoorWv
namespace Go.Proofs.YtbncjjobdipmgaaDoor
open Go.RowKit Pl

theorem refDays_same (y m : Int) (w : World) : Calls Tryd.prog 13 #[.int .i64 y, .int .i64 m] w fun e w' => e = .returned (.int .i64 (dim y m)) ∧ w = w' := (refDays_any y m w).mono fun _e _w' ⟨a, b⟩ => ⟨a, b.symm⟩
theorem days_same (y m : Int) (w : World) (hT : Tabs w) : Calls Tryd.prog 12 #[.int .i64 y, .int .i64 m] w fun e w' => e = .returned (.int .i64 (dim y m)) ∧ w = w' := (days_any y m w hT).mono fun _e _w' ⟨a, b⟩ => ⟨a, b.symm⟩
theorem rcheck_ok {y mo d h mi s : Int} (hk : okB y mo d h mi s = true) (w : World) (hT : Tabs w) : Calls Tryd.prog 14 #[.agg #[.int .i64 y, .int .i64 mo, .int .i64 d, .int .i64 h, .int .i64 mi, .int .i64 s]] w fun e w' => e = .returned (.int .i64 0) ∧ Below w.heap.size w w' := by
  have := rcheck_any y mo d h mi s w hT
  unfold chk at this
  rwa [if_pos hk] at this
theorem rcheck_no {y mo d h mi s : Int} (hk : okB y mo d h mi s = false) (w : World) (hT : Tabs w) : Calls Tryd.prog 14 #[.agg #[.int .i64 y, .int .i64 mo, .int .i64 d, .int .i64 h, .int .i64 mi, .int .i64 s]] w fun e w' => e = .returned (.int .i64 1) ∧ Below w.heap.size w w' := by
  have := rcheck_any y mo d h mi s w hT
  unfold chk at this
  rwa [if_neg (by simp [hk])] at this

set_option maxHeartbeats 8000000 in
set_option maxRecDepth 100000 in
theorem timesCheck_walk (y mo d h mi s year month : Int) (w : World) (hT : Tabs w) :
    Calls Tryd.prog 3 #[.agg #[.int .i64 y, .int .i64 mo, .int .i64 d, .int .i64 h, .int .i64 mi, .int .i64 s], .int .i64 year, .int .i64 month] w fun e w' => e = .returned (.bool true) ∧ Below w.heap.size w w' := by
  have S0 := Lib.hid ((St.refl hT).alloc (.cells #[.int .i64 y, .int .i64 mo, .int .i64 d, .int .i64 h, .int .i64 mi, .int .i64 s] 23))
  have B0 := Lib.hid (blk_new w (.cells #[.int .i64 y, .int .i64 mo, .int .i64 d, .int .i64 h, .int .i64 mi, .int .i64 s] 23))
  by_cases hk : okB y mo d h mi s = true
  · have H14 := Lib.hid (fun W hW => rcheck_ok hk W hW)
    have H15 := Lib.hid (fun W hW => check_ok hk W hW)
    clear hk
    go_enter Tryd.func3, Tryd.ntmps3
    go_wp2_with (first
      | (go_at_call 10; refine (leap_any _ _).mono ?_; rintro e w' ⟨rfl, rfl⟩)
      | (go_at_call 11; refine (refLeap_any _ _).mono ?_; rintro e w' ⟨rfl, rfl⟩)
      | (go_at_call 12; refine (days_same _ _ _ S0.out.t).mono ?_; rintro e w' ⟨rfl, rfl⟩)
      | (go_at_call 13; refine (refDays_same _ _ _).mono ?_; rintro e w' ⟨rfl, rfl⟩)
      | (go_at_call 14; refine (H14.out _ S0.out.t).mono ?_; rintro e w1 ⟨rfl, hb⟩; have S1 := Lib.hid (S0.out.next hb); have hB := blk_below B0.out hb; have B1 := Lib.hid hB; obtain ⟨c0, c1, c2, c3, c4, c5⟩ := six hB; clear hb hB)
      | (go_at_call 15; refine (H15.out _ S1.out.t).mono ?_; rintro e w2 ⟨rfl, hb⟩; have S2 := Lib.hid (S1.out.next hb); clear hb)
      | (go_at_call 16; refine (lives_yes _ S2.out.t).mono ?_; rintro e w3 ⟨rfl, hb⟩; have S3 := Lib.hid (S2.out.next hb); clear hb))
    go_ret
    exact ⟨rfl, S3.out.b⟩
  · have hk : okB y mo d h mi s = false := by simpa using hk
    have H14 := Lib.hid (fun W hW => rcheck_no hk W hW)
    have H15 := Lib.hid (fun W hW => check_no hk W hW)
    have H17 := Lib.hid (fun W hW => elem_no y mo d h mi s W hW hk)
    have H18 := Lib.hid (fun W hW => seconds_no y mo d h mi s W hW hk)
    have H19 := Lib.hid (fun W hW => text_no y mo d h mi s W hW hk)
    clear hk
    go_enter Tryd.func3, Tryd.ntmps3
    go_wp2_with (first
      | (go_at_call 10; refine (leap_any _ _).mono ?_; rintro e w' ⟨rfl, rfl⟩)
      | (go_at_call 11; refine (refLeap_any _ _).mono ?_; rintro e w' ⟨rfl, rfl⟩)
      | (go_at_call 12; refine (days_same _ _ _ S0.out.t).mono ?_; rintro e w' ⟨rfl, rfl⟩)
      | (go_at_call 13; refine (refDays_same _ _ _).mono ?_; rintro e w' ⟨rfl, rfl⟩)
      | (go_at_call 14; refine (H14.out _ S0.out.t).mono ?_; rintro e w1 ⟨rfl, hb⟩; have S1 := Lib.hid (S0.out.next hb); have hB := blk_below B0.out hb; have B1 := Lib.hid hB; obtain ⟨c0, c1, c2, c3, c4, c5⟩ := six hB; clear hb hB)
      | (go_at_call 15; refine (H15.out _ S1.out.t).mono ?_; rintro e w2 ⟨rfl, hb⟩; have S2 := Lib.hid (S1.out.next hb); have hB := blk_below B1.out hb; have B2 := Lib.hid hB; obtain ⟨c0, c1, c2, c3, c4, c5⟩ := six hB; clear hb hB)
      | (go_at_call 17; refine (H17.out _ S2.out.t).mono ?_; rintro e w3 ⟨rfl, hb⟩; have S3 := Lib.hid ((S2.out.next hb).alloc (.cells #[.int .u8 0, .bool false, .int .u32 0, .slice none 0 0, .slice none 0 0] 37)); have hB := blk_alloc (blk_below B2.out hb) (.cells #[.int .u8 0, .bool false, .int .u32 0, .slice none 0 0, .slice none 0 0] 37); have B3 := Lib.hid hB; obtain ⟨c0, c1, c2, c3, c4, c5⟩ := six hB; clear hb hB)
      | (go_at_call 18; refine (H18.out _ S3.out.t).mono ?_; rintro e w4 ⟨rfl, hb⟩; have S4 := Lib.hid (S3.out.next hb); have hB := blk_below B3.out hb; obtain ⟨c0, c1, c2, c3, c4, c5⟩ := six hB; clear hb hB)
      | (go_at_call 19; refine (H19.out _ S4.out.t).mono ?_; rintro e w5 ⟨rfl, hb⟩; have S5 := Lib.hid (S4.out.next hb); clear hb)
      | (go_at_call 16; refine (lives_yes _ S5.out.t).mono ?_; rintro e w6 ⟨rfl, hb⟩; have S6 := Lib.hid (S5.out.next hb); clear hb))
    go_ret
    exact ⟨rfl, S6.out.b⟩
end Go.Proofs.YtbncjjobdipmgaaDoor
