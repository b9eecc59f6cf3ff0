/- Chapter 10 (times): the contract of the reference's Parse. -/
import Derived.Test.YtbncjjobdipmgaaDoorXe
import Derived.Test.YtbncjjobdipmgaaDoorXc
import Derived.Test.YtbncjjobdipmgaaDoorXa
namespace Go.Proofs.YtbncjjobdipmgaaDoor
open Go.RowKit Pl

theorem tof_start0 (w : World) (hT : Tabs w) (cr cv : Array Value) : St w ((w.alloc (.cells cr 23)).alloc (.cells cv 23)) ∧ ((w.alloc (.cells cr 23)).alloc (.cells cv 23)).heap[w.heap.size]? = some (.cells cr 23 (0, 0)) ∧ ((w.alloc (.cells cr 23)).alloc (.cells cv 23)).heap[w.heap.size + 1]? = some (.cells cv 23 (0, 0)) := by
  refine ⟨((St.refl hT).alloc _).alloc _, blk_alloc (blk_new _ _) _, ?_⟩
  have := blk_new (w.alloc (.cells cr 23)) (.cells cv 23)
  simpa using this


theorem ret28 {R : Nat} {a0 a1 a2 a3 a4 a5 : Value} {err : Int} {tmps : Array Value} {w : World} (hp : tmps.getD 2 undef = .pointer (some ⟨R, 0, none⟩)) (he : tmps.getD 3 undef = .int .i64 err)
    (hR : w.heap[R]? = some (.cells #[a0, a1, a2, a3, a4, a5] 23 (0, 0))) : (results Tryd.f28 tmps).run Tryd.prog w = .ok (.tuple #[.agg #[a0, a1, a2, a3, a4, a5], .int .i64 err]) w := by
  obtain ⟨c0, c1, c2, c3, c4, c5⟩ := six hR
  rw [results_cell_tmp (p := 2) (u := 3) (ty := 23) Tryd.results28, hp, he]
  simp [go_sem, c0, c1, c2, c3, c4, c5]

set_option maxHeartbeats 8000000 in
theorem rparse_gen (n0 n1 n2 n3 n4 n5 r err o0 o1 o2 o3 o4 o5 : Int) (sb q0 q1 q2 q3 q4 q5 tx : ByteArray) (w : World) (hT : Tabs w) (hsz : sb.size = 20)
    (L0 : ∀ W : World, (Instr.slice 9 (.string sb) none (some (.int .i64 4)) none).run Tryd.prog W = .ok (.string q0) W)
    (L1 : ∀ W : World, (Instr.slice 9 (.string sb) (some (.int .i64 5)) (some (.int .i64 7)) none).run Tryd.prog W = .ok (.string q1) W)
    (L2 : ∀ W : World, (Instr.slice 9 (.string sb) (some (.int .i64 8)) (some (.int .i64 10)) none).run Tryd.prog W = .ok (.string q2) W)
    (L3 : ∀ W : World, (Instr.slice 9 (.string sb) (some (.int .i64 11)) (some (.int .i64 13)) none).run Tryd.prog W = .ok (.string q3) W)
    (L4 : ∀ W : World, (Instr.slice 9 (.string sb) (some (.int .i64 14)) (some (.int .i64 16)) none).run Tryd.prog W = .ok (.string q4) W)
    (L5 : ∀ W : World, (Instr.slice 9 (.string sb) (some (.int .i64 17)) (some (.int .i64 19)) none).run Tryd.prog W = .ok (.string q5) W)
    (D0 : Hid (∀ W, Calls Tryd.prog 38 #[.string q0] W fun e w' => e = .returned (.int .i64 n0) ∧ w' = W))
    (D1 : Hid (∀ W, Calls Tryd.prog 38 #[.string q1] W fun e w' => e = .returned (.int .i64 n1) ∧ w' = W))
    (D2 : Hid (∀ W, Calls Tryd.prog 38 #[.string q2] W fun e w' => e = .returned (.int .i64 n2) ∧ w' = W))
    (D3 : Hid (∀ W, Calls Tryd.prog 38 #[.string q3] W fun e w' => e = .returned (.int .i64 n3) ∧ w' = W))
    (D4 : Hid (∀ W, Calls Tryd.prog 38 #[.string q4] W fun e w' => e = .returned (.int .i64 n4) ∧ w' = W))
    (D5 : Hid (∀ W, Calls Tryd.prog 38 #[.string q5] W fun e w' => e = .returned (.int .i64 n5) ∧ w' = W))
    (H14 : Hid (∀ w, Tabs w → Calls Tryd.prog 14 #[.agg #[.int .i64 n0, .int .i64 n1, .int .i64 n2, .int .i64 n3, .int .i64 n4, .int .i64 n5]] w fun e w' => e = .returned (.int .i64 r) ∧ Below w.heap.size w w'))
    (HC : Hid ((r = 1 ∧ err = 6 ∧ o0 = 0 ∧ o1 = 0 ∧ o2 = 0 ∧ o3 = 0 ∧ o4 = 0 ∧ o5 = 0) ∨
      (r = 0 ∧ (∀ w, Calls Tryd.prog 24 #[.agg #[.int .i64 n0, .int .i64 n1, .int .i64 n2, .int .i64 n3, .int .i64 n4, .int .i64 n5]] w fun e w' => e = .returned (.string tx) ∧ Below w.heap.size w w') ∧ ((tx.toList == sb.toList) = false ∧ err = 6 ∧ o0 = 0 ∧ o1 = 0 ∧ o2 = 0 ∧ o3 = 0 ∧ o4 = 0 ∧ o5 = 0 ∨ tx = sb ∧ err = 0 ∧ o0 = n0 ∧ o1 = n1 ∧ o2 = n2 ∧ o3 = n3 ∧ o4 = n4 ∧ o5 = n5)))) :
    Calls Tryd.prog 28 #[.string sb] w fun e w' => e = .returned (.tuple #[.agg #[.int .i64 o0, .int .i64 o1, .int .i64 o2, .int .i64 o3, .int .i64 o4, .int .i64 o5], .int .i64 err]) ∧ Below w.heap.size w w' := by
  have HX := Lib.hid (tof_start0 w hT #[.int .i64 0, .int .i64 0, .int .i64 0, .int .i64 0, .int .i64 0, .int .i64 0] #[.int .i64 n0, .int .i64 n1, .int .i64 n2, .int .i64 n3, .int .i64 n4, .int .i64 n5])
  go_enter Tryd.func28, Tryd.ntmps28
  go_wp2
  go_region_with (first
    | (go_at_call_of 38 q0; refine (D0.out _).mono ?_; rintro e w' ⟨rfl, rfl⟩)
    | (go_at_call_of 38 q1; refine (D1.out _).mono ?_; rintro e w' ⟨rfl, rfl⟩)
    | (go_at_call_of 38 q2; refine (D2.out _).mono ?_; rintro e w' ⟨rfl, rfl⟩)
    | (go_at_call_of 38 q3; refine (D3.out _).mono ?_; rintro e w' ⟨rfl, rfl⟩)
    | (go_at_call_of 38 q4; refine (D4.out _).mono ?_; rintro e w' ⟨rfl, rfl⟩)
    | (go_at_call_of 38 q5; refine (D5.out _).mono ?_; rintro e w' ⟨rfl, rfl⟩))
  all_goals rename_i hK
  all_goals refine hK _ _ ?_
  all_goals clear hK
  all_goals
    go_wp2_with fail
    refine (H14.out _ (HX.out.1.drew).t).mono ?_
    rintro e w1 ⟨rfl, hb⟩
    have S1 := Lib.hid (HX.out.1.drew.next hb)
    have hB := blk_below (blk_drew HX.out.2.2) hb
    have B1 := Lib.hid hB
    obtain ⟨c0, c1, c2, c3, c4, c5⟩ := six hB
    have hR := blk_below (blk_drew HX.out.2.1) hb
    have R1 := Lib.hid hR
    obtain ⟨x0, x1, x2, x3, x4, x5⟩ := six hR
    obtain ⟨f0, f1, f2, f3, f4, f5⟩ := free hR
    clear hb hB hR
    rcases HC.out with ⟨rfl, rfl, rfl, rfl, rfl, rfl, rfl, rfl⟩ | ⟨rfl, H24, hc⟩
    · go_wp2
      exact bodyPost_ret (ret28 rfl rfl (set6 R1.out _ _ _ _ _ _)) rfl ⟨rfl, (set6_st S1.out (Nat.le_refl _) hT.two _ _ _ _ _ _).b⟩
    · go_wp2_with fail
      refine (H24 _).mono ?_
      rintro e w2 ⟨rfl, hb⟩
      clear c0 c1 c2 c3 c4 c5 x0 x1 x2 x3 x4 x5 f0 f1 f2 f3 f4 f5
      have S2 := Lib.hid (S1.out.next hb)
      have hB := blk_below B1.out hb
      obtain ⟨c0, c1, c2, c3, c4, c5⟩ := six hB
      have hR := blk_below R1.out hb
      have R2 := Lib.hid hR
      obtain ⟨x0, x1, x2, x3, x4, x5⟩ := six hR
      obtain ⟨f0, f1, f2, f3, f4, f5⟩ := free hR
      clear hb hB hR
      rcases hc with ⟨hx, rfl, rfl, rfl, rfl, rfl, rfl, rfl⟩ | ⟨rfl, rfl, rfl, rfl, rfl, rfl, rfl, rfl⟩
      · go_wp2
        exact bodyPost_ret (ret28 rfl rfl (set6 R2.out _ _ _ _ _ _)) rfl ⟨rfl, (set6_st S2.out (Nat.le_refl _) hT.two _ _ _ _ _ _).b⟩
      · go_wp2
        exact bodyPost_ret (ret28 rfl rfl (set6 R2.out _ _ _ _ _ _)) rfl ⟨rfl, (set6_st S2.out (Nat.le_refl _) hT.two _ _ _ _ _ _).b⟩

end Go.Proofs.YtbncjjobdipmgaaDoor
