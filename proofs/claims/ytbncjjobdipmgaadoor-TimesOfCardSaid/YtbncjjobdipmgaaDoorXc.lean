/- Chapter 10 (times): the contracts of the reference's Text and Element. -/
import Derived.Test.YtbncjjobdipmgaaDoorXb
import Derived.Test.YtbncjjobdipmgaaDoorWs
namespace Go.Proofs.YtbncjjobdipmgaaDoor
open Go.RowKit Pl

set_option maxHeartbeats 2000000 in
theorem rtext_gen (y mo d h mi s : Int) (q0 q1 q2 q3 q4 q5 s1 s2 s3 s4 s5 s6 s7 s8 s9 s10 s11 : ByteArray) (w : World)
    (D0 : Hid (∀ W, Calls Tryd.prog 35 #[.int .i64 y, .int .i64 4] W fun e w' => e = .returned (.string q0) ∧ w' = W))
    (D1 : Hid (∀ W, Calls Tryd.prog 35 #[.int .i64 mo, .int .i64 2] W fun e w' => e = .returned (.string q1) ∧ w' = W))
    (D2 : Hid (∀ W, Calls Tryd.prog 35 #[.int .i64 d, .int .i64 2] W fun e w' => e = .returned (.string q2) ∧ w' = W))
    (D3 : Hid (∀ W, Calls Tryd.prog 35 #[.int .i64 h, .int .i64 2] W fun e w' => e = .returned (.string q3) ∧ w' = W))
    (D4 : Hid (∀ W, Calls Tryd.prog 35 #[.int .i64 mi, .int .i64 2] W fun e w' => e = .returned (.string q4) ∧ w' = W))
    (D5 : Hid (∀ W, Calls Tryd.prog 35 #[.int .i64 s, .int .i64 2] W fun e w' => e = .returned (.string q5) ∧ w' = W))
    (c1 : ∀ W : World, (Op.stringOp .add q0 ⟨#[45]⟩).run Tryd.prog W = .ok (.string s1) W)
    (c2 : ∀ W : World, (Op.stringOp .add s1 q1).run Tryd.prog W = .ok (.string s2) W)
    (c3 : ∀ W : World, (Op.stringOp .add s2 ⟨#[45]⟩).run Tryd.prog W = .ok (.string s3) W)
    (c4 : ∀ W : World, (Op.stringOp .add s3 q2).run Tryd.prog W = .ok (.string s4) W)
    (c5 : ∀ W : World, (Op.stringOp .add s4 ⟨#[84]⟩).run Tryd.prog W = .ok (.string s5) W)
    (c6 : ∀ W : World, (Op.stringOp .add s5 q3).run Tryd.prog W = .ok (.string s6) W)
    (c7 : ∀ W : World, (Op.stringOp .add s6 ⟨#[58]⟩).run Tryd.prog W = .ok (.string s7) W)
    (c8 : ∀ W : World, (Op.stringOp .add s7 q4).run Tryd.prog W = .ok (.string s8) W)
    (c9 : ∀ W : World, (Op.stringOp .add s8 ⟨#[58]⟩).run Tryd.prog W = .ok (.string s9) W)
    (c10 : ∀ W : World, (Op.stringOp .add s9 q5).run Tryd.prog W = .ok (.string s10) W)
    (c11 : ∀ W : World, (Op.stringOp .add s10 ⟨#[90]⟩).run Tryd.prog W = .ok (.string s11) W) :
    Calls Tryd.prog 24 #[.agg #[.int .i64 y, .int .i64 mo, .int .i64 d, .int .i64 h, .int .i64 mi, .int .i64 s]] w fun e w' => e = .returned (.string s11) ∧ Below w.heap.size w w' := by
  go_enter Tryd.func24, Tryd.ntmps24
  go_wp2_with fail
  go_quiet ((first | (go_at_call_of 35 y; exact Calls.quiet_of_same (D0.out _)) | (go_at_call_of 35 mo; exact Calls.quiet_of_same (D1.out _)) | (go_at_call_of 35 d; exact Calls.quiet_of_same (D2.out _)) | (go_at_call_of 35 h; exact Calls.quiet_of_same (D3.out _)) | (go_at_call_of 35 mi; exact Calls.quiet_of_same (D4.out _)) | (go_at_call_of 35 s; exact Calls.quiet_of_same (D5.out _))))
  go_wp2
  go_ret
  exact ⟨rfl, below_drewN ((Below.refl _ _).alloc (Nat.le_refl _) _) _⟩

theorem rtext_ok (y mo d h mi s : Int) (w : World) (hk : okB y mo d h mi s = true) : Calls Tryd.prog 24 #[.agg #[.int .i64 y, .int .i64 mo, .int .i64 d, .int .i64 h, .int .i64 mi, .int .i64 s]] w fun e w' => e = .returned (.string ⟨(textL y mo d h mi s).toArray⟩) ∧ Below w.heap.size w w' := by
  obtain ⟨b0, b1, b2, b3, b4, _, b5, b6, b7, b8, b9, b10, b11⟩ := okB_bounds hk
  have l0 := dg_len 4 y b0 b1
  have l1 := dg_len 2 mo (by omega) (by omega)
  have l2 := dg_len 2 d (by omega) (by omega)
  have l3 := dg_len 2 h b6 (by omega)
  have l4 := dg_len 2 mi b8 (by omega)
  have l5 := dg_len 2 s b10 (by omega)
  refine rtext_gen y mo d h mi s ⟨(dg 4 y).toArray⟩ ⟨(dg 2 mo).toArray⟩ ⟨(dg 2 d).toArray⟩ ⟨(dg 2 h).toArray⟩ ⟨(dg 2 mi).toArray⟩ ⟨(dg 2 s).toArray⟩ ⟨(dg 4 y ++ [45]).toArray⟩ ⟨(dg 4 y ++ [45] ++ dg 2 mo).toArray⟩ ⟨(dg 4 y ++ [45] ++ dg 2 mo ++ [45]).toArray⟩ ⟨(dg 4 y ++ [45] ++ dg 2 mo ++ [45] ++ dg 2 d).toArray⟩ ⟨(dg 4 y ++ [45] ++ dg 2 mo ++ [45] ++ dg 2 d ++ [84]).toArray⟩ ⟨(dg 4 y ++ [45] ++ dg 2 mo ++ [45] ++ dg 2 d ++ [84] ++ dg 2 h).toArray⟩ ⟨(dg 4 y ++ [45] ++ dg 2 mo ++ [45] ++ dg 2 d ++ [84] ++ dg 2 h ++ [58]).toArray⟩ ⟨(dg 4 y ++ [45] ++ dg 2 mo ++ [45] ++ dg 2 d ++ [84] ++ dg 2 h ++ [58] ++ dg 2 mi).toArray⟩ ⟨(dg 4 y ++ [45] ++ dg 2 mo ++ [45] ++ dg 2 d ++ [84] ++ dg 2 h ++ [58] ++ dg 2 mi ++ [58]).toArray⟩ ⟨(dg 4 y ++ [45] ++ dg 2 mo ++ [45] ++ dg 2 d ++ [84] ++ dg 2 h ++ [58] ++ dg 2 mi ++ [58] ++ dg 2 s).toArray⟩ ⟨(textL y mo d h mi s).toArray⟩ w
    (fun W => ref_dg y 4 (by omega) (by omega) (by simp; omega) W) (fun W => ref_dg mo 2 (by omega) (by omega) (by simp; omega) W) (fun W => ref_dg d 2 (by omega) (by omega) (by simp; omega) W) (fun W => ref_dg h 2 (by omega) (by omega) (by simp; omega) W) (fun W => ref_dg mi 2 (by omega) (by omega) (by simp; omega) W) (fun W => ref_dg s 2 (by omega) (by omega) (by simp; omega) W) ?_ ?_ ?_ ?_ ?_ ?_ ?_ ?_ ?_ ?_ ?_
  · exact cat_run _ _ _ (by simp only [bytes_size, List.length_cons, List.length_nil]; simp; omega) (bytes_cat _ [45])
  · exact cat_run _ _ _ (by simp only [bytes_size, List.length_append, List.length_cons, List.length_nil]; omega) (bytes_cat _ _)
  · exact cat_run _ _ _ (by simp only [bytes_size, List.length_append, List.length_cons, List.length_nil]; simp; omega) (bytes_cat _ [45])
  · exact cat_run _ _ _ (by simp only [bytes_size, List.length_append, List.length_cons, List.length_nil]; omega) (bytes_cat _ _)
  · exact cat_run _ _ _ (by simp only [bytes_size, List.length_append, List.length_cons, List.length_nil]; simp; omega) (bytes_cat _ [84])
  · exact cat_run _ _ _ (by simp only [bytes_size, List.length_append, List.length_cons, List.length_nil]; omega) (bytes_cat _ _)
  · exact cat_run _ _ _ (by simp only [bytes_size, List.length_append, List.length_cons, List.length_nil]; simp; omega) (bytes_cat _ [58])
  · exact cat_run _ _ _ (by simp only [bytes_size, List.length_append, List.length_cons, List.length_nil]; omega) (bytes_cat _ _)
  · exact cat_run _ _ _ (by simp only [bytes_size, List.length_append, List.length_cons, List.length_nil]; simp; omega) (bytes_cat _ [58])
  · exact cat_run _ _ _ (by simp only [bytes_size, List.length_append, List.length_cons, List.length_nil]; omega) (bytes_cat _ _)
  · exact cat_run _ _ _ (by simp only [bytes_size, List.length_append, List.length_cons, List.length_nil]; simp; omega) (bytes_cat _ [90])

set_option maxHeartbeats 2000000 in
theorem relem_lo (y mo d h mi s : Int) (hy : y < 1950) (q0 q1 q2 q3 q4 q5 s1 s2 s3 s4 s5 s6 : ByteArray) (w : World)
    (D0 : Hid (∀ W, Calls Tryd.prog 35 #[.int .i64 y, .int .i64 4] W fun e w' => e = .returned (.string q0) ∧ w' = W))
    (D1 : Hid (∀ W, Calls Tryd.prog 35 #[.int .i64 mo, .int .i64 2] W fun e w' => e = .returned (.string q1) ∧ w' = W))
    (D2 : Hid (∀ W, Calls Tryd.prog 35 #[.int .i64 d, .int .i64 2] W fun e w' => e = .returned (.string q2) ∧ w' = W))
    (D3 : Hid (∀ W, Calls Tryd.prog 35 #[.int .i64 h, .int .i64 2] W fun e w' => e = .returned (.string q3) ∧ w' = W))
    (D4 : Hid (∀ W, Calls Tryd.prog 35 #[.int .i64 mi, .int .i64 2] W fun e w' => e = .returned (.string q4) ∧ w' = W))
    (D5 : Hid (∀ W, Calls Tryd.prog 35 #[.int .i64 s, .int .i64 2] W fun e w' => e = .returned (.string q5) ∧ w' = W))
    (c1 : ∀ W : World, (Op.stringOp .add q1 q2).run Tryd.prog W = .ok (.string s1) W)
    (c2 : ∀ W : World, (Op.stringOp .add s1 q3).run Tryd.prog W = .ok (.string s2) W)
    (c3 : ∀ W : World, (Op.stringOp .add s2 q4).run Tryd.prog W = .ok (.string s3) W)
    (c4 : ∀ W : World, (Op.stringOp .add s3 q5).run Tryd.prog W = .ok (.string s4) W)
    (c5 : ∀ W : World, (Op.stringOp .add s4 ⟨#[90]⟩).run Tryd.prog W = .ok (.string s5) W)
    (c6 : ∀ W : World, (Op.stringOp .add q0 s5).run Tryd.prog W = .ok (.string s6) W) :
    Calls Tryd.prog 21 #[.agg #[.int .i64 y, .int .i64 mo, .int .i64 d, .int .i64 h, .int .i64 mi, .int .i64 s]] w fun e w' => e = .returned (.tuple #[.int .u32 24, .string s6]) ∧ Below w.heap.size w w' := by
  have k0 : decide (y < 1950) = true := by simp; omega
  go_enter Tryd.func21, Tryd.ntmps21
  go_wp2_with fail
  go_quiet ((first | (go_at_call_of 35 mo; exact Calls.quiet_of_same (D1.out _)) | (go_at_call_of 35 d; exact Calls.quiet_of_same (D2.out _)) | (go_at_call_of 35 h; exact Calls.quiet_of_same (D3.out _)) | (go_at_call_of 35 mi; exact Calls.quiet_of_same (D4.out _)) | (go_at_call_of 35 s; exact Calls.quiet_of_same (D5.out _))))
  go_wp2_with (go_at_call 35; refine (D0.out _).mono ?_; rintro e w' ⟨rfl, rfl⟩)
  go_ret2
  exact ⟨rfl, below_drewN ((Below.refl _ _).alloc (Nat.le_refl _) _) _⟩

set_option maxHeartbeats 2000000 in
theorem relem_hi (y mo d h mi s : Int) (hy : 2049 < y) (q0 q1 q2 q3 q4 q5 s1 s2 s3 s4 s5 s6 : ByteArray) (w : World)
    (D0 : Hid (∀ W, Calls Tryd.prog 35 #[.int .i64 y, .int .i64 4] W fun e w' => e = .returned (.string q0) ∧ w' = W))
    (D1 : Hid (∀ W, Calls Tryd.prog 35 #[.int .i64 mo, .int .i64 2] W fun e w' => e = .returned (.string q1) ∧ w' = W))
    (D2 : Hid (∀ W, Calls Tryd.prog 35 #[.int .i64 d, .int .i64 2] W fun e w' => e = .returned (.string q2) ∧ w' = W))
    (D3 : Hid (∀ W, Calls Tryd.prog 35 #[.int .i64 h, .int .i64 2] W fun e w' => e = .returned (.string q3) ∧ w' = W))
    (D4 : Hid (∀ W, Calls Tryd.prog 35 #[.int .i64 mi, .int .i64 2] W fun e w' => e = .returned (.string q4) ∧ w' = W))
    (D5 : Hid (∀ W, Calls Tryd.prog 35 #[.int .i64 s, .int .i64 2] W fun e w' => e = .returned (.string q5) ∧ w' = W))
    (c1 : ∀ W : World, (Op.stringOp .add q1 q2).run Tryd.prog W = .ok (.string s1) W)
    (c2 : ∀ W : World, (Op.stringOp .add s1 q3).run Tryd.prog W = .ok (.string s2) W)
    (c3 : ∀ W : World, (Op.stringOp .add s2 q4).run Tryd.prog W = .ok (.string s3) W)
    (c4 : ∀ W : World, (Op.stringOp .add s3 q5).run Tryd.prog W = .ok (.string s4) W)
    (c5 : ∀ W : World, (Op.stringOp .add s4 ⟨#[90]⟩).run Tryd.prog W = .ok (.string s5) W)
    (c6 : ∀ W : World, (Op.stringOp .add q0 s5).run Tryd.prog W = .ok (.string s6) W) :
    Calls Tryd.prog 21 #[.agg #[.int .i64 y, .int .i64 mo, .int .i64 d, .int .i64 h, .int .i64 mi, .int .i64 s]] w fun e w' => e = .returned (.tuple #[.int .u32 24, .string s6]) ∧ Below w.heap.size w w' := by
  have k0 : decide (y < 1950) = false := by simp; omega
  have k1 : decide (2049 < y) = true := by simp; omega
  go_enter Tryd.func21, Tryd.ntmps21
  go_wp2_with fail
  go_quiet ((first | (go_at_call_of 35 mo; exact Calls.quiet_of_same (D1.out _)) | (go_at_call_of 35 d; exact Calls.quiet_of_same (D2.out _)) | (go_at_call_of 35 h; exact Calls.quiet_of_same (D3.out _)) | (go_at_call_of 35 mi; exact Calls.quiet_of_same (D4.out _)) | (go_at_call_of 35 s; exact Calls.quiet_of_same (D5.out _))))
  go_wp2_with (go_at_call 35; refine (D0.out _).mono ?_; rintro e w' ⟨rfl, rfl⟩)
  go_ret2
  exact ⟨rfl, below_drewN ((Below.refl _ _).alloc (Nat.le_refl _) _) _⟩

set_option maxHeartbeats 2000000 in
theorem relem_utc (y mo d h mi s : Int) (hy : 1950 ≤ y) (hy' : y ≤ 2049) (q0 q1 q2 q3 q4 q5 s1 s2 s3 s4 s5 s6 : ByteArray) (w : World)
    (D0 : Hid (∀ W, Calls Tryd.prog 35 #[.int .i64 (y % 100), .int .i64 2] W fun e w' => e = .returned (.string q0) ∧ w' = W))
    (D1 : Hid (∀ W, Calls Tryd.prog 35 #[.int .i64 mo, .int .i64 2] W fun e w' => e = .returned (.string q1) ∧ w' = W))
    (D2 : Hid (∀ W, Calls Tryd.prog 35 #[.int .i64 d, .int .i64 2] W fun e w' => e = .returned (.string q2) ∧ w' = W))
    (D3 : Hid (∀ W, Calls Tryd.prog 35 #[.int .i64 h, .int .i64 2] W fun e w' => e = .returned (.string q3) ∧ w' = W))
    (D4 : Hid (∀ W, Calls Tryd.prog 35 #[.int .i64 mi, .int .i64 2] W fun e w' => e = .returned (.string q4) ∧ w' = W))
    (D5 : Hid (∀ W, Calls Tryd.prog 35 #[.int .i64 s, .int .i64 2] W fun e w' => e = .returned (.string q5) ∧ w' = W))
    (c1 : ∀ W : World, (Op.stringOp .add q1 q2).run Tryd.prog W = .ok (.string s1) W)
    (c2 : ∀ W : World, (Op.stringOp .add s1 q3).run Tryd.prog W = .ok (.string s2) W)
    (c3 : ∀ W : World, (Op.stringOp .add s2 q4).run Tryd.prog W = .ok (.string s3) W)
    (c4 : ∀ W : World, (Op.stringOp .add s3 q5).run Tryd.prog W = .ok (.string s4) W)
    (c5 : ∀ W : World, (Op.stringOp .add s4 ⟨#[90]⟩).run Tryd.prog W = .ok (.string s5) W)
    (c6 : ∀ W : World, (Op.stringOp .add q0 s5).run Tryd.prog W = .ok (.string s6) W) :
    Calls Tryd.prog 21 #[.agg #[.int .i64 y, .int .i64 mo, .int .i64 d, .int .i64 h, .int .i64 mi, .int .i64 s]] w fun e w' => e = .returned (.tuple #[.int .u32 23, .string s6]) ∧ Below w.heap.size w w' := by
  have k0 : decide (y < 1950) = false := by simp; omega
  have k1 : decide (2049 < y) = false := by simp; omega
  go_enter Tryd.func21, Tryd.ntmps21
  go_wp2_with fail
  go_quiet ((first | (go_at_call_of 35 mo; exact Calls.quiet_of_same (D1.out _)) | (go_at_call_of 35 d; exact Calls.quiet_of_same (D2.out _)) | (go_at_call_of 35 h; exact Calls.quiet_of_same (D3.out _)) | (go_at_call_of 35 mi; exact Calls.quiet_of_same (D4.out _)) | (go_at_call_of 35 s; exact Calls.quiet_of_same (D5.out _))))
  go_wp2_with (go_at_call 35; refine (D0.out _).mono ?_; rintro e w' ⟨rfl, rfl⟩)
  go_ret2
  exact ⟨rfl, below_drewN ((Below.refl _ _).alloc (Nat.le_refl _) _) _⟩

theorem drop_dg (y : Int) (h0 : 0 ≤ y) (h1 : y ≤ 9999) : (dg 4 y).drop 2 = dg 2 (y % 100) := by
  rw [dg4 y h0 h1, dg2 (y % 100) (by omega) (by omega)]
  rw [show y % 100 / 10 = y / 10 % 10 by omega, show y % 100 % 10 = y % 10 by omega]; rfl
theorem relem_ok (y mo d h mi s : Int) (w : World) (hk : okB y mo d h mi s = true) : Calls Tryd.prog 21 #[.agg #[.int .i64 y, .int .i64 mo, .int .i64 d, .int .i64 h, .int .i64 mi, .int .i64 s]] w fun e w' => e = .returned (.tuple #[.int .u32 (elNum y), .string ⟨(elL y mo d h mi s).toArray⟩]) ∧ Below w.heap.size w w' := by
  obtain ⟨b0, b1, b2, b3, b4, _, b5, b6, b7, b8, b9, b10, b11⟩ := okB_bounds hk
  have l0 := dg_len 4 y b0 b1
  have l1 := dg_len 2 mo (by omega) (by omega)
  have l2 := dg_len 2 d (by omega) (by omega)
  have l3 := dg_len 2 h b6 (by omega)
  have l4 := dg_len 2 mi b8 (by omega)
  have l5 := dg_len 2 s b10 (by omega)
  have hcs : elL y mo d h mi s = (if 1950 ≤ y ∧ y ≤ 2049 then dg 2 (y % 100) else dg 4 y) ++ (dg 2 mo ++ dg 2 d ++ dg 2 h ++ dg 2 mi ++ dg 2 s ++ [90]) := by
    unfold elL ek
    by_cases hu : 1950 ≤ y ∧ y ≤ 2049
    · rw [if_pos hu, if_pos hu, drop_dg y b0 b1]; simp only [List.append_assoc]
    · rw [if_neg hu, if_neg hu]; simp only [List.append_assoc]
  rw [hcs]
  have l6 := dg_len 2 (y % 100) (by omega) (by omega)
  unfold elNum
  by_cases hu : 1950 ≤ y ∧ y ≤ 2049
  · rw [if_pos hu, if_pos hu]
    refine relem_utc y mo d h mi s hu.1 hu.2 ⟨(dg 2 (y % 100)).toArray⟩ ⟨(dg 2 mo).toArray⟩ ⟨(dg 2 d).toArray⟩ ⟨(dg 2 h).toArray⟩ ⟨(dg 2 mi).toArray⟩ ⟨(dg 2 s).toArray⟩ ⟨(dg 2 mo ++ dg 2 d).toArray⟩ ⟨(dg 2 mo ++ dg 2 d ++ dg 2 h).toArray⟩ ⟨(dg 2 mo ++ dg 2 d ++ dg 2 h ++ dg 2 mi).toArray⟩ ⟨(dg 2 mo ++ dg 2 d ++ dg 2 h ++ dg 2 mi ++ dg 2 s).toArray⟩ ⟨(dg 2 mo ++ dg 2 d ++ dg 2 h ++ dg 2 mi ++ dg 2 s ++ [90]).toArray⟩ ⟨(dg 2 (y % 100) ++ (dg 2 mo ++ dg 2 d ++ dg 2 h ++ dg 2 mi ++ dg 2 s ++ [90])).toArray⟩ w (fun W => ref_dg _ 2 (by omega) (by omega) (by simp; omega) W) (fun W => ref_dg mo 2 (by omega) (by omega) (by simp; omega) W) (fun W => ref_dg d 2 (by omega) (by omega) (by simp; omega) W) (fun W => ref_dg h 2 (by omega) (by omega) (by simp; omega) W) (fun W => ref_dg mi 2 (by omega) (by omega) (by simp; omega) W) (fun W => ref_dg s 2 (by omega) (by omega) (by simp; omega) W) ?_ ?_ ?_ ?_ ?_ ?_
    all_goals first | exact cat_run _ _ _ (by simp only [bytes_size, List.length_append, List.length_cons, List.length_nil]; omega) (bytes_cat _ _) | exact cat_run _ _ _ (by simp only [bytes_size, List.length_append, List.length_cons, List.length_nil]; simp [ByteArray.size]; omega) (bytes_cat _ [90])
  · rw [if_neg hu, if_neg hu]
    by_cases hg : y < 1950
    · refine relem_lo y mo d h mi s hg ⟨(dg 4 y).toArray⟩ ⟨(dg 2 mo).toArray⟩ ⟨(dg 2 d).toArray⟩ ⟨(dg 2 h).toArray⟩ ⟨(dg 2 mi).toArray⟩ ⟨(dg 2 s).toArray⟩ ⟨(dg 2 mo ++ dg 2 d).toArray⟩ ⟨(dg 2 mo ++ dg 2 d ++ dg 2 h).toArray⟩ ⟨(dg 2 mo ++ dg 2 d ++ dg 2 h ++ dg 2 mi).toArray⟩ ⟨(dg 2 mo ++ dg 2 d ++ dg 2 h ++ dg 2 mi ++ dg 2 s).toArray⟩ ⟨(dg 2 mo ++ dg 2 d ++ dg 2 h ++ dg 2 mi ++ dg 2 s ++ [90]).toArray⟩ ⟨(dg 4 y ++ (dg 2 mo ++ dg 2 d ++ dg 2 h ++ dg 2 mi ++ dg 2 s ++ [90])).toArray⟩ w (fun W => ref_dg _ 4 (by omega) (by omega) (by simp; omega) W) (fun W => ref_dg mo 2 (by omega) (by omega) (by simp; omega) W) (fun W => ref_dg d 2 (by omega) (by omega) (by simp; omega) W) (fun W => ref_dg h 2 (by omega) (by omega) (by simp; omega) W) (fun W => ref_dg mi 2 (by omega) (by omega) (by simp; omega) W) (fun W => ref_dg s 2 (by omega) (by omega) (by simp; omega) W) ?_ ?_ ?_ ?_ ?_ ?_
      all_goals first | exact cat_run _ _ _ (by simp only [bytes_size, List.length_append, List.length_cons, List.length_nil]; omega) (bytes_cat _ _) | exact cat_run _ _ _ (by simp only [bytes_size, List.length_append, List.length_cons, List.length_nil]; simp [ByteArray.size]; omega) (bytes_cat _ [90])
    · refine relem_hi y mo d h mi s (by omega) ⟨(dg 4 y).toArray⟩ ⟨(dg 2 mo).toArray⟩ ⟨(dg 2 d).toArray⟩ ⟨(dg 2 h).toArray⟩ ⟨(dg 2 mi).toArray⟩ ⟨(dg 2 s).toArray⟩ ⟨(dg 2 mo ++ dg 2 d).toArray⟩ ⟨(dg 2 mo ++ dg 2 d ++ dg 2 h).toArray⟩ ⟨(dg 2 mo ++ dg 2 d ++ dg 2 h ++ dg 2 mi).toArray⟩ ⟨(dg 2 mo ++ dg 2 d ++ dg 2 h ++ dg 2 mi ++ dg 2 s).toArray⟩ ⟨(dg 2 mo ++ dg 2 d ++ dg 2 h ++ dg 2 mi ++ dg 2 s ++ [90]).toArray⟩ ⟨(dg 4 y ++ (dg 2 mo ++ dg 2 d ++ dg 2 h ++ dg 2 mi ++ dg 2 s ++ [90])).toArray⟩ w (fun W => ref_dg _ 4 (by omega) (by omega) (by simp; omega) W) (fun W => ref_dg mo 2 (by omega) (by omega) (by simp; omega) W) (fun W => ref_dg d 2 (by omega) (by omega) (by simp; omega) W) (fun W => ref_dg h 2 (by omega) (by omega) (by simp; omega) W) (fun W => ref_dg mi 2 (by omega) (by omega) (by simp; omega) W) (fun W => ref_dg s 2 (by omega) (by omega) (by simp; omega) W) ?_ ?_ ?_ ?_ ?_ ?_
      all_goals first | exact cat_run _ _ _ (by simp only [bytes_size, List.length_append, List.length_cons, List.length_nil]; omega) (bytes_cat _ _) | exact cat_run _ _ _ (by simp only [bytes_size, List.length_append, List.length_cons, List.length_nil]; simp [ByteArray.size]; omega) (bytes_cat _ [90])
end Go.Proofs.YtbncjjobdipmgaaDoor
