/- Chapter 2 (tags): Size; the walks of the laws TagsCheck, TagsPrefix, TagsOrder, TagsGet. -/
import Derived.Test.YtpdomckacfeffaaDoorWh
namespace Go.Proofs.YtpdomckacfeffaaDoor
open Go.RowKit Go.Shelf
open Go.Proofs.YtpdomckacfeffaaDoorW.PrintWords (blk_new blk_below blk_cell blk_alloc blk_lt blk_frozen blk_drew blk_set)

set_option maxHeartbeats 2000000 in
theorem size_err (cl : Int) (co : Bool) (nu r : Int) (w : World) (hr : chk cl co nu = r) (hr0 : (r == 0) = false) :
    Calls Tryd.prog 22 #[.agg #[.int .u8 cl, .bool co, .int .u32 nu]] w fun e w' => e = .returned (.int .i64 0) ∧ Below w.heap.size w w' := by
  have H := Lib.hid (fun w => put_err cl co nu r w hr hr0)
  have B0 := Lib.hid ((Below.refl w.heap.size w).alloc (Nat.le_refl _) (.cells #[.int .u8 cl, .bool co, .int .u32 nu] 27))
  clear hr hr0
  go_enter Tryd.func22, Tryd.ntmps22
  go_wp2_with (go_at_call 13; refine (H.out _).mono ?_; rintro e w1 ⟨rfl, hb⟩; have B1 := Lib.hid (B0.out.trans (hb.mono (by simp))); clear hb)
  go_ret
  exact ⟨rfl, B1.out⟩
set_option maxHeartbeats 2000000 in
theorem size_ok (cl : Int) (co : Bool) (nu : Int) (w : World) (hc0 : 0 ≤ cl) (hc1 : cl ≤ 3) (h0 : 0 ≤ nu) (h1 : nu < 268435456) (hr : chk cl co nu = 0) :
    Calls Tryd.prog 22 #[.agg #[.int .u8 cl, .bool co, .int .u32 nu]] w fun e w' => e = .returned (.int .i64 ((enc cl co nu).length : Int)) ∧ Below w.heap.size w w' := by
  have H := Lib.hid (fun w => put_ok cl co nu w hc0 hc1 h0 h1 hr)
  have B0 := Lib.hid ((Below.refl w.heap.size w).alloc (Nat.le_refl _) (.cells #[.int .u8 cl, .bool co, .int .u32 nu] 27))
  clear hr
  go_enter Tryd.func22, Tryd.ntmps22
  go_wp2_with (go_at_call 13; refine (H.out _).mono ?_; rintro e w1 ⟨g, rfl, _, _, hb⟩; have B1 := Lib.hid (B0.out.trans (hb.mono (by simp))); clear hb)
  go_ret
  exact ⟨rfl, B1.out⟩
theorem same_nil (r : Int) (w : World) : Calls Tryd.prog 14 #[.slice none 0 0, .int .i64 r, .slice none 0 0, .int .i64 r] w fun e w' => e = .returned (.bool true) ∧ w' = w :=
  same_gen _ _ _ _ _ _ r r ⟨#[]⟩ ⟨#[]⟩ true w (fun W _ => run_convert_bytes_nil (P := Tryd.prog) W 22 5 Tryd.underlying22 Tryd.underlying5 0 0 9 Tryd.underlying9) (fun W _ => run_convert_bytes_nil (P := Tryd.prog) W 22 5 Tryd.underlying22 Tryd.underlying5 0 0 9 Tryd.underlying9) (by simp)
/-- One boxed tag in a world that has grown out of w. -/
def Bx (cl : Int) (co : Bool) (nu : Int) (w W : World) : Prop := St w W ∧ W.heap[w.heap.size]? = some (.cells #[.int .u8 cl, .bool co, .int .u32 nu] 27 (0, 0))
theorem Bx.next {cl nu : Int} {co : Bool} {w W W' : World} (h : Bx cl co nu w W) (hb : Below W.heap.size W W') : Bx cl co nu w W' := ⟨h.1.next hb, blk_below h.2 hb⟩
theorem Bx.start (cl nu : Int) (co : Bool) (w : World) (hT : Tabs w) : Bx cl co nu w (w.alloc (.cells #[.int .u8 cl, .bool co, .int .u32 nu] 27)) := ⟨(St.refl hT).alloc _, blk_new _ _⟩
set_option maxHeartbeats 4000000 in
theorem check_walk_ok (cl nu : Int) (co : Bool) (w : World) (hT : Tabs w) (hr : chk cl co nu = 0) :
    Calls Tryd.prog 6 #[.agg #[.int .u8 cl, .bool co, .int .u32 nu]] w fun e w' => e = .returned (.bool true) ∧ Below w.heap.size w w' := by
  have S := Lib.hid (Bx.start cl nu co w hT)
  have H20 := Lib.hid (fun W => rcheck_any cl co nu W)
  have H21 := Lib.hid (fun W => check_any cl co nu W)
  rw [hr] at H20 H21
  clear hr
  go_enter Tryd.func6, Tryd.ntmps6
  go_wp2_with (first
    | (go_at_call 20; refine (H20.out _).mono ?_; rintro e w1 ⟨rfl, hb⟩; have S1 := Lib.hid (S.out.next hb); clear hb; obtain ⟨x0, x1, x2⟩ := three S1.out.2)
    | (go_at_call 21; refine (H21.out _).mono ?_; rintro e w2 ⟨rfl, hb⟩; have S2 := Lib.hid (S1.out.next hb); clear hb)
    | (go_at_call 10; refine (lives_yes _ S2.out.1.t).mono ?_; rintro e w3 ⟨rfl, hb⟩; have S3 := Lib.hid (S2.out.next hb); clear hb))
  go_ret
  exact ⟨rfl, S3.out.1.b⟩
set_option maxHeartbeats 4000000 in
theorem check_walk_no (cl nu r : Int) (co : Bool) (w : World) (hT : Tabs w) (hr : chk cl co nu = r) (hr0 : (r == 0) = false) :
    Calls Tryd.prog 6 #[.agg #[.int .u8 cl, .bool co, .int .u32 nu]] w fun e w' => e = .returned (.bool true) ∧ Below w.heap.size w w' := by
  have S := Lib.hid (Bx.start cl nu co w hT)
  have H20 := Lib.hid (fun W => rcheck_any cl co nu W)
  have H21 := Lib.hid (fun W => check_any cl co nu W)
  have H13 := Lib.hid (fun W => put_err cl co nu r W hr hr0)
  have H22 := Lib.hid (fun W => size_err cl co nu r W hr hr0)
  have H16 := Lib.hid (fun W => text_err cl co nu r W hr hr0)
  rw [hr] at H20 H21
  clear hr
  go_enter Tryd.func6, Tryd.ntmps6
  go_wp2_with (first
    | (go_at_call 20; refine (H20.out _).mono ?_; rintro e w1 ⟨rfl, hb⟩; have S1 := Lib.hid (S.out.next hb); clear hb; obtain ⟨x0, x1, x2⟩ := three S1.out.2)
    | (go_at_call 21; refine (H21.out _).mono ?_; rintro e w2 ⟨rfl, hb⟩; have S2 := Lib.hid (S1.out.next hb); clear hb; obtain ⟨y0, y1, y2⟩ := three S2.out.2)
    | (go_at_call 13; refine (H13.out _).mono ?_; rintro e w3 ⟨rfl, hb⟩; have S3 := Lib.hid (S2.out.next hb); clear hb; obtain ⟨z0, z1, z2⟩ := three S3.out.2)
    | (go_at_call 14; refine (same_nil r _).mono ?_; rintro e w4 ⟨rfl, rfl⟩)
    | (go_at_call 22; refine (H22.out _).mono ?_; rintro e w5 ⟨rfl, hb⟩; have S5 := Lib.hid (S3.out.next hb); clear hb; obtain ⟨u0, u1, u2⟩ := three S5.out.2)
    | (go_at_call 16; refine (H16.out _).mono ?_; rintro e w6 ⟨rfl, hb⟩; have S6 := Lib.hid (S5.out.next hb); clear hb)
    | (go_at_call 10; refine (lives_yes _ S6.out.1.t).mono ?_; rintro e w7 ⟨rfl, hb⟩; have S7 := Lib.hid (S6.out.next hb); clear hb))
  go_ret
  exact ⟨rfl, S7.out.1.b⟩
theorem tagsCheck_walk (cl nu : Int) (co : Bool) (w : World) (hT : Tabs w) : Calls Tryd.prog 6 #[.agg #[.int .u8 cl, .bool co, .int .u32 nu]] w fun e w' => e = .returned (.bool true) ∧ Below w.heap.size w w' := by
  by_cases h : chk cl co nu = 0
  · exact check_walk_ok cl nu co w hT h
  · exact check_walk_no cl nu _ co w hT rfl (by simpa using h)
end Go.Proofs.YtpdomckacfeffaaDoor
