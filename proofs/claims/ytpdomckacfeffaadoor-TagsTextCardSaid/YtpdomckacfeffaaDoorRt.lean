/- The reference's Text (from the kit's print). -/
import Derived.Test.YtpdomckacfeffaaDoorRs
namespace Go.Proofs.YtpdomckacfeffaaDoor.Pr
open Go.RowKit Go.Proofs.YtpdomckacfeffaaDoorW.PrintWords Go.Proofs.YtpdomckacfeffaaDoorW.PrintLast Go.Proofs.YtpdomckacfeffaaDoorW.PrintMore
attribute [local go_sem] max2_int min2_int max_two min_two max_three min_three max_four min_four   -- for this text's walks alone
set_option linter.unusedVariables false
set_option linter.unusedSimpArgs false

/-! ### vidimusref02_Text: function 18 -/
def vidimusref02_Text.f (k : Nat) (a0_0 : Int) (a0_1 : Bool) (a0_2 : Int) : Option (ByteArray) := (some (([(⟨#[117, 110, 105, 118, 101, 114, 115, 97, 108]⟩ : ByteArray), (⟨#[97, 112, 112, 108, 105, 99, 97, 116, 105, 111, 110]⟩ : ByteArray), (⟨#[99, 111, 110, 116, 101, 120, 116]⟩ : ByteArray), (⟨#[112, 114, 105, 118, 97, 116, 101]⟩ : ByteArray)] : List ByteArray) : List ByteArray)).bind fun y107 => (if 0 ≤ (wrap64 (a0_0)) then (if (wrap64 (a0_0)) < (y107.length : Int) then (if (rdOf ByteArray.empty y107 (wrap64 (a0_0))).size + 1 ≤ 9223372036854775807 then ((vidimusref01_Small.f k (wrap64 (a0_2))).bind fun t111 => ((vidimusref01_D_Text.f k t111).bind fun t114 => (if ((rdOf ByteArray.empty y107 (wrap64 (a0_0))) ++ (⟨#[32]⟩ : ByteArray)).size + t114.size ≤ 9223372036854775807 then (if a0_1 = true then (if (((rdOf ByteArray.empty y107 (wrap64 (a0_0))) ++ (⟨#[32]⟩ : ByteArray)) ++ t114).size + 12 ≤ 9223372036854775807 then (some ((((rdOf ByteArray.empty y107 (wrap64 (a0_0))) ++ (⟨#[32]⟩ : ByteArray)) ++ t114) ++ (⟨#[32, 99, 111, 110, 115, 116, 114, 117, 99, 116, 101, 100]⟩ : ByteArray))) else (none)) else (some (((rdOf ByteArray.empty y107 (wrap64 (a0_0))) ++ (⟨#[32]⟩ : ByteArray)) ++ t114))) else (none)))) else (none)) else (none)) else (none))
theorem vidimusref02_Text.mono : ∀ a0 a1 a2 k, LeO (vidimusref02_Text.f k a0 a1 a2) (vidimusref02_Text.f (k + 1) a0 a1 a2) := by
  intro a0 a1 a2 k
  unfold vidimusref02_Text.f
  repeat' first
      | (with_reducible exact vidimusref01_D_Text.mono _ _)
      | (with_reducible exact vidimusref01_Small.mono _ _)
      | (with_reducible exact LeO.refl _)
      | (with_reducible exact LeO.none _)
      | (with_reducible refine LeO.ite ?_ ?_)
      | (with_reducible refine LeO.bind ?_ (fun _ => ?_))
      | exact vidimusref01_D_Text.mono _ _
      | exact vidimusref01_Small.mono _ _
      | exact LeO.none _
      | refine LeO.ite ?_ ?_
      | refine LeO.bind ?_ (fun _ => ?_)
def vidimusref02_Text.T1 : Bool × List (List Nat × List Nat) := (true, [([], []), ([], []), ([1], [1]), ([2], [2]), ([0, 3], [0, 3]), ([4], [4]), ([5], [5]), ([], []), ([7], [7]), ([8], [8]), ([9], [9]), ([10, 10], [10]), ([6, 11], [6, 11]), ([12, 11, 0, 1, 2, 3, 4, 5, 6, 7, 8, 9, 10, 11, 12], [12])])
def vidimusref02_Text.B1 : List Nat := [0, 0, 2, 6, 15, 31, 63, 0, 128, 384, 896, 1920, 4095, 8191]
theorem vidimusref02_Text.tab1 : rtab .any (opsOf Tryd.f18 1) = vidimusref02_Text.T1 := by kernel_rfl
theorem vidimusref02_Text.bits1 : waitsOk vidimusref02_Text.T1.2 vidimusref02_Text.B1 = true := by kernel_rfl
set_option maxHeartbeats 8000000 in
set_option maxRecDepth 100000 in
theorem vidimusref02_Text.calls (k : Nat) (a0_0 : Int) (a0_1 : Bool) (a0_2 : Int) (r : ByteArray) (w : World) (h : vidimusref02_Text.f k a0_0 a0_1 a0_2 = some r) :
    Calls Tryd.prog 18 #[.agg #[.int .u8 a0_0, .bool a0_1, .int .u32 a0_2]] w fun e w' => e = .returned (.string r) ∧ Below w.heap.size w w' := by
  have hu27 := Tryd.underlying27
  have HB := Aside0.mk (Below.refl w.heap.size w)
  have H : ((some (([(⟨#[117, 110, 105, 118, 101, 114, 115, 97, 108]⟩ : ByteArray), (⟨#[97, 112, 112, 108, 105, 99, 97, 116, 105, 111, 110]⟩ : ByteArray), (⟨#[99, 111, 110, 116, 101, 120, 116]⟩ : ByteArray), (⟨#[112, 114, 105, 118, 97, 116, 101]⟩ : ByteArray)] : List ByteArray) : List ByteArray)).bind fun y107 => (if 0 ≤ (wrap64 (a0_0)) then (if (wrap64 (a0_0)) < (y107.length : Int) then (if (rdOf ByteArray.empty y107 (wrap64 (a0_0))).size + 1 ≤ 9223372036854775807 then ((vidimusref01_Small.f k (wrap64 (a0_2))).bind fun t111 => ((vidimusref01_D_Text.f k t111).bind fun t114 => (if ((rdOf ByteArray.empty y107 (wrap64 (a0_0))) ++ (⟨#[32]⟩ : ByteArray)).size + t114.size ≤ 9223372036854775807 then (if a0_1 = true then (if (((rdOf ByteArray.empty y107 (wrap64 (a0_0))) ++ (⟨#[32]⟩ : ByteArray)) ++ t114).size + 12 ≤ 9223372036854775807 then (some ((((rdOf ByteArray.empty y107 (wrap64 (a0_0))) ++ (⟨#[32]⟩ : ByteArray)) ++ t114) ++ (⟨#[32, 99, 111, 110, 115, 116, 114, 117, 99, 116, 101, 100]⟩ : ByteArray))) else (none)) else (some (((rdOf ByteArray.empty y107 (wrap64 (a0_0))) ++ (⟨#[32]⟩ : ByteArray)) ++ t114))) else (none)))) else (none)) else (none)) else (none))) = some r := h
  clear h
  obtain ⟨y107, hy107⟩ : ∃ y_ : List ByteArray, y_ = (([(⟨#[117, 110, 105, 118, 101, 114, 115, 97, 108]⟩ : ByteArray), (⟨#[97, 112, 112, 108, 105, 99, 97, 116, 105, 111, 110]⟩ : ByteArray), (⟨#[99, 111, 110, 116, 101, 120, 116]⟩ : ByteArray), (⟨#[112, 114, 105, 118, 97, 116, 101]⟩ : ByteArray)] : List ByteArray)) := ⟨_, rfl⟩
  replace H : (if 0 ≤ (wrap64 (a0_0)) then (if (wrap64 (a0_0)) < (y107.length : Int) then (if (rdOf ByteArray.empty y107 (wrap64 (a0_0))).size + 1 ≤ 9223372036854775807 then ((vidimusref01_Small.f k (wrap64 (a0_2))).bind fun t111 => ((vidimusref01_D_Text.f k t111).bind fun t114 => (if ((rdOf ByteArray.empty y107 (wrap64 (a0_0))) ++ (⟨#[32]⟩ : ByteArray)).size + t114.size ≤ 9223372036854775807 then (if a0_1 = true then (if (((rdOf ByteArray.empty y107 (wrap64 (a0_0))) ++ (⟨#[32]⟩ : ByteArray)) ++ t114).size + 12 ≤ 9223372036854775807 then (some ((((rdOf ByteArray.empty y107 (wrap64 (a0_0))) ++ (⟨#[32]⟩ : ByteArray)) ++ t114) ++ (⟨#[32, 99, 111, 110, 115, 116, 114, 117, 99, 116, 101, 100]⟩ : ByteArray))) else (none)) else (some (((rdOf ByteArray.empty y107 (wrap64 (a0_0))) ++ (⟨#[32]⟩ : ByteArray)) ++ t114))) else (none)))) else (none)) else (none)) else (none)) = some r := by first | (rw [hy107]; with_reducible exact H) | (have H2_ := (Option.bind_some _ _).symm.trans H; rw [hy107]; with_reducible exact H2_) | (have H2_ := (Option.bind_some _ _).symm.trans H; with_reducible exact H2_) | with_reducible exact H | (rw [hy107]; exact H) | exact H
  have Ny107 := Aside0.mk hy107
  clear hy107
  obtain ⟨ji2, hji2⟩ : ∃ j_ : Int, (wrap64 (a0_0)) = j_ := ⟨_, rfl⟩
  replace H : (if 0 ≤ (ji2) then (if (ji2) < (y107.length : Int) then (if (rdOf ByteArray.empty y107 (ji2)).size + 1 ≤ 9223372036854775807 then ((vidimusref01_Small.f k (wrap64 (a0_2))).bind fun t111 => ((vidimusref01_D_Text.f k t111).bind fun t114 => (if ((rdOf ByteArray.empty y107 (ji2)) ++ (⟨#[32]⟩ : ByteArray)).size + t114.size ≤ 9223372036854775807 then (if a0_1 = true then (if (((rdOf ByteArray.empty y107 (ji2)) ++ (⟨#[32]⟩ : ByteArray)) ++ t114).size + 12 ≤ 9223372036854775807 then (some ((((rdOf ByteArray.empty y107 (ji2)) ++ (⟨#[32]⟩ : ByteArray)) ++ t114) ++ (⟨#[32, 99, 111, 110, 115, 116, 114, 117, 99, 116, 101, 100]⟩ : ByteArray))) else (none)) else (some (((rdOf ByteArray.empty y107 (ji2)) ++ (⟨#[32]⟩ : ByteArray)) ++ t114))) else (none)))) else (none)) else (none)) else (none)) = some r := by first | (rw [hji2] at H; exact H) | (simp only [hji2] at H ⊢; exact H)
  have hji2w : (IntKind.i64.wrap (a0_0)) = ji2 := (i64_w _).trans hji2
  by_cases c3 : 0 ≤ (ji2)
  · rw [if_pos c3] at H
    have c3b0 : decide (0 ≤ (ji2)) = true := decide_eq_true c3
    clear c3
    by_cases c4 : (ji2) < (y107.length : Int)
    · rw [if_pos c4] at H
      have c4b0 : decide ((ji2) < (y107.length : Int)) = true := decide_eq_true c4
      clear c4
      by_cases c5 : (rdOf ByteArray.empty y107 (ji2)).size + 1 ≤ 9223372036854775807
      · rw [if_pos c5] at H
        have c5b0 := eq_true c5
        have c5b1 : decide ((rdOf ByteArray.empty y107 (ji2)).size + 1 ≤ 9223372036854775807) = true := decide_eq_true c5
        try have c5b2 : (9223372036854775807 < (rdOf ByteArray.empty y107 (ji2)).size + 1) = False := eq_false (Nat.not_lt.2 c5)
        have c5b9 := c5b2; try simp only [ByteArray.size_append, show (⟨#[32]⟩ : ByteArray).size = 1 from rfl] at c5b9
        replace H := Option.bind_eq_some_iff.mp H
        obtain ⟨t111, A60, H⟩ := H
        replace H : ((vidimusref01_D_Text.f k t111).bind fun t114 => (if ((rdOf ByteArray.empty y107 (ji2)) ++ (⟨#[32]⟩ : ByteArray)).size + t114.size ≤ 9223372036854775807 then (if a0_1 = true then (if (((rdOf ByteArray.empty y107 (ji2)) ++ (⟨#[32]⟩ : ByteArray)) ++ t114).size + 12 ≤ 9223372036854775807 then (some ((((rdOf ByteArray.empty y107 (ji2)) ++ (⟨#[32]⟩ : ByteArray)) ++ t114) ++ (⟨#[32, 99, 111, 110, 115, 116, 114, 117, 99, 116, 101, 100]⟩ : ByteArray))) else (none)) else (some (((rdOf ByteArray.empty y107 (ji2)) ++ (⟨#[32]⟩ : ByteArray)) ++ t114))) else (none))) = some r := H
        have A6 := Aside0.mk A60
        clear A60
        replace H := Option.bind_eq_some_iff.mp H
        obtain ⟨t114, A70, H⟩ := H
        replace H : (if ((rdOf ByteArray.empty y107 (ji2)) ++ (⟨#[32]⟩ : ByteArray)).size + t114.size ≤ 9223372036854775807 then (if a0_1 = true then (if (((rdOf ByteArray.empty y107 (ji2)) ++ (⟨#[32]⟩ : ByteArray)) ++ t114).size + 12 ≤ 9223372036854775807 then (some ((((rdOf ByteArray.empty y107 (ji2)) ++ (⟨#[32]⟩ : ByteArray)) ++ t114) ++ (⟨#[32, 99, 111, 110, 115, 116, 114, 117, 99, 116, 101, 100]⟩ : ByteArray))) else (none)) else (some (((rdOf ByteArray.empty y107 (ji2)) ++ (⟨#[32]⟩ : ByteArray)) ++ t114))) else (none)) = some r := H
        have A7 := Aside0.mk A70
        clear A70
        by_cases c8 : ((rdOf ByteArray.empty y107 (ji2)) ++ (⟨#[32]⟩ : ByteArray)).size + t114.size ≤ 9223372036854775807
        · rw [if_pos c8] at H
          have c8b0 := eq_true c8
          have c8b1 : decide (((rdOf ByteArray.empty y107 (ji2)) ++ (⟨#[32]⟩ : ByteArray)).size + t114.size ≤ 9223372036854775807) = true := decide_eq_true c8
          try have c8b2 : (9223372036854775807 < ((rdOf ByteArray.empty y107 (ji2)) ++ (⟨#[32]⟩ : ByteArray)).size + t114.size) = False := eq_false (Nat.not_lt.2 c8)
          have c8b9 := c8b2; try simp only [ByteArray.size_append, show (⟨#[32]⟩ : ByteArray).size = 1 from rfl] at c8b9
          by_cases c9 : a0_1 = true
          · subst c9
            have H1 : (if (((rdOf ByteArray.empty y107 (ji2)) ++ (⟨#[32]⟩ : ByteArray)) ++ t114).size + 12 ≤ 9223372036854775807 then (some ((((rdOf ByteArray.empty y107 (ji2)) ++ (⟨#[32]⟩ : ByteArray)) ++ t114) ++ (⟨#[32, 99, 111, 110, 115, 116, 114, 117, 99, 116, 101, 100]⟩ : ByteArray))) else (none)) = some r := by rw [if_pos rfl] at H; exact H
            clear H
            have H := H1
            clear H1
            by_cases c10 : (((rdOf ByteArray.empty y107 (ji2)) ++ (⟨#[32]⟩ : ByteArray)) ++ t114).size + 12 ≤ 9223372036854775807
            · rw [if_pos c10] at H
              have c10b0 := eq_true c10
              have c10b1 : decide ((((rdOf ByteArray.empty y107 (ji2)) ++ (⟨#[32]⟩ : ByteArray)) ++ t114).size + 12 ≤ 9223372036854775807) = true := decide_eq_true c10
              try have c10b2 : (9223372036854775807 < (((rdOf ByteArray.empty y107 (ji2)) ++ (⟨#[32]⟩ : ByteArray)) ++ t114).size + 12) = False := eq_false (Nat.not_lt.2 c10)
              have c10b9 := c10b2; try simp only [ByteArray.size_append, show (⟨#[32]⟩ : ByteArray).size = 1 from rfl] at c10b9
              obtain rfl := Option.some.inj H
              go_enter Tryd.func18, Tryd.ntmps18
              try go_wp2_with (first | ((with_reducible refine gate_dst (N := 1) rfl ?_); refine box_event ?hg (N := 1) ?hd (cs := #[.int .u8 a0_0, .bool true, .int .u32 a0_2]) (t := 27) ?hr ?_; (case hd => rfl); (case hg => rfl); (case hr => first | (go_simp; done) | (go_simp; rfl)); intro gb106 hg w11 hbox hb; have n0_ := Aside0.mk (below_step (by repeat (first | (with_reducible first | exact HB.out | apply below_alloc | apply pw_below_drewN | apply below_drew1) | exact HB.out)) hb); have n1_ := Aside0.mk (hbox); have n2_ := Aside0.mk ((by rw [hg]; exact (below_size (by repeat (first | (with_reducible first | exact HB.out | apply below_alloc | apply pw_below_drewN | apply below_drew1) | exact HB.out))) : w.heap.size ≤ gb106)); have n3_ := Aside0.mk ((by rw [hg]; exact (below_size (by repeat (first | (with_reducible first | exact HB.out | apply below_alloc | apply pw_below_drewN | apply below_drew1) | exact HB.out))) : w.heap.size ≤ gb106)); clear HB; have HB := n0_; have BK106 := n1_; have GW106 := n2_; have GE106 := n3_; clear n0_ n1_ n2_ n3_; clear hb hbox hg))
              have pi110 : (0 ≤ ((ji2) : Int)) = True := eq_true (of_decide_eq_true (by first | (with_reducible assumption) | assumption))
              have qi110 : ((ji2) < (y107.length : Int)) = True := eq_true (of_decide_eq_true (by first | (with_reducible assumption) | assumption))
              have n0_ := Aside0.mk (blk_drew BK106.out)
              have n1_ := Aside0.mk (below_drew1 HB.out)
              clear BK106
              clear HB
              have BK106 := n0_
              have HB := n1_
              clear n0_ n1_
              refine start_ (n := 14) (S := fun w' => w'.cell? ⟨gb106, 0, none⟩ = some (.int .u8 a0_0) ∧ w'.cell? ⟨gb106, 1, none⟩ = some (.bool true) ∧ w'.cell? ⟨gb106, 2, none⟩ = some (.int .u32 a0_2)) (ds := []) #[false, false, false, false, false, false, false, false, false, false, false, false, false, false] (by kernel_rfl) rfl rfl ⟨(blk_cell BK106.out 0).trans rfl, (blk_cell BK106.out 1).trans rfl, (blk_cell BK106.out 2).trans rfl⟩ (fun hHeld => ?_); refine with_tabW vidimusref02_Text.tab1 vidimusref02_Text.bits1 (fun HT_ HW_ => ?_)
              generalize w11.drew = w12 at BK106 HB hHeld ⊢
              refine pure_ (i := 1) (N := some 5) (v := ?_) (a' := ?_) #[false, true, false, false, false, false, false, false, false, false, false, false, false, false] rfl rfl (any_of HT_.out (by kernel_rfl)) (fun _ _ _ h => h) (Or.inl ⟨by rfl, ?_⟩) ?_ ?_
              rotate_left
              · intro w'
                go_simp
                with_reducible rfl
              rotate_left
              · simp only [Act.put, List.setIfInBounds_toArray, List.set_cons_zero, List.set_cons_succ, i64_w, i32_w]
                rfl
              refine pure_ (i := 7) (N := some 11) (v := ?_) (a' := ?_) #[false, true, false, false, false, false, false, true, false, false, false, false, false, false] rfl rfl (any_of HT_.out (by kernel_rfl)) (fun _ _ _ h => h) (Or.inl ⟨by rfl, ?_⟩) ?_ ?_
              rotate_left
              · intro w'
                go_simp
                with_reducible rfl
              rotate_left
              · simp only [Act.put, List.setIfInBounds_toArray, List.set_cons_zero, List.set_cons_succ, i64_w, i32_w]
                rfl
              refine take_ (i := 2) (N := some 6) (v := ?_) (a' := ?_) #[false, true, true, false, false, false, false, true, false, false, false, false, false, false] rfl rfl (take_ofW HT_.out HW_.out (by kernel_rfl)) (fun _ _ _ h => h) (Or.inl ⟨by rfl, ?_⟩) hHeld ?_ ?_
              rotate_left
              · rintro w' ⟨s0, s1, s2⟩
                go_simp
                with_reducible rfl
              rotate_left
              · simp only [Act.put, List.setIfInBounds_toArray, List.set_cons_zero, List.set_cons_succ, i64_w, i32_w]
                rfl
              refine pure_ (i := 3) (N := some 7) (v := ?_) (a' := ?_) #[false, true, true, true, false, false, false, true, false, false, false, false, false, false] rfl rfl (any_of HT_.out (by kernel_rfl)) (fun _ _ _ h => h) (Or.inl ⟨by rfl, ?_⟩) ?_ ?_
              rotate_left
              · intro w'
                go_simp
                with_reducible rfl
              rotate_left
              · simp only [Act.put, List.setIfInBounds_toArray, List.set_cons_zero, List.set_cons_succ, i64_w, i32_w]
                rfl
              refine take_ (i := 8) (N := some 12) (v := ?_) (a' := ?_) #[false, true, true, true, false, false, false, true, true, false, false, false, false, false] rfl rfl (take_ofW HT_.out HW_.out (by kernel_rfl)) (fun _ _ _ h => h) (Or.inl ⟨by rfl, ?_⟩) hHeld ?_ ?_
              rotate_left
              · rintro w' ⟨s0, s1, s2⟩
                go_simp
                with_reducible rfl
              rotate_left
              · simp only [Act.put, List.setIfInBounds_toArray, List.set_cons_zero, List.set_cons_succ, i64_w, i32_w]
                rfl
              refine pure_ (i := 9) (N := some 13) (v := ?_) (a' := ?_) #[false, true, true, true, false, false, false, true, true, true, false, false, false, false] rfl rfl (any_of HT_.out (by kernel_rfl)) (fun _ _ _ h => h) (Or.inl ⟨by rfl, ?_⟩) ?_ ?_
              rotate_left
              · intro w'
                go_simp
                with_reducible rfl
              rotate_left
              · simp only [Act.put, List.setIfInBounds_toArray, List.set_cons_zero, List.set_cons_succ, i64_w, i32_w]
                rfl
              refine join_ (σ := Value × Addr × Value) 2 #[true, true, true, true, true, true, true, true, true, true, true, true, false, false] (fun s_ => [(4, s_.1), (9, .string (rdOf ByteArray.empty y107 (ji2))), (14, s_.2.2), (15, .string t114), (8, .pointer (some (s_.2.1.add ((ji2)).toNat))), (10, .string ((rdOf ByteArray.empty y107 (ji2)) ++ (⟨#[32]⟩ : ByteArray)))]) (fun s_ w' => (w'.cell? ⟨gb106, 0, none⟩ = some (.int .u8 a0_0) ∧ w'.cell? ⟨gb106, 1, none⟩ = some (.bool true) ∧ w'.cell? ⟨gb106, 2, none⟩ = some (.int .u32 a0_2)) ∧ (Kd.R Kd.string 9 w' w.heap.size (fun _ => True) s_.1 y107) ∧ (Kd.R (Kd.int .i64) 3 w' w.heap.size (fun _ => True) s_.2.2 t111) ∧ (∃ c_, (s_.1 : Value) = .slice (some s_.2.1) y107.length c_) ∧ (w'.heap[gb106]? = some (.cells #[.int .u8 a0_0, .bool true, .int .u32 a0_2] 27 (0, 0))) ∧ (Below w.heap.size w w')) ?_ ?_
              rotate_left
              · intro hJ0_5_10_11
                refine join_ (σ := Value × Addr × Value) 3 #[true, true, true, true, true, true, true, true, true, true, true, false, false, false] (fun s_ => [(4, s_.1), (9, .string (rdOf ByteArray.empty y107 (ji2))), (14, s_.2.2), (8, .pointer (some (s_.2.1.add ((ji2)).toNat))), (10, .string ((rdOf ByteArray.empty y107 (ji2)) ++ (⟨#[32]⟩ : ByteArray)))]) (fun s_ w' => (w'.cell? ⟨gb106, 0, none⟩ = some (.int .u8 a0_0) ∧ w'.cell? ⟨gb106, 1, none⟩ = some (.bool true) ∧ w'.cell? ⟨gb106, 2, none⟩ = some (.int .u32 a0_2)) ∧ (Kd.R Kd.string 9 w' w.heap.size (fun _ => True) s_.1 y107) ∧ (Kd.R (Kd.int .i64) 3 w' w.heap.size (fun _ => True) s_.2.2 t111) ∧ (∃ c_, (s_.1 : Value) = .slice (some s_.2.1) y107.length c_) ∧ (w'.heap[gb106]? = some (.cells #[.int .u8 a0_0, .bool true, .int .u32 a0_2] 27 (0, 0))) ∧ (Below w.heap.size w w')) ?_ ?_
                rotate_left
                · intro hJ0_5_10
                  refine join_ (σ := Value × Addr × Value) 4 #[true, true, true, true, true, false, false, true, true, true, true, true, false, false] (fun s_ => [(4, s_.1), (14, s_.2.2), (15, .string t114), (8, .pointer (some (s_.2.1.add ((ji2)).toNat)))]) (fun s_ w' => (w'.cell? ⟨gb106, 0, none⟩ = some (.int .u8 a0_0) ∧ w'.cell? ⟨gb106, 1, none⟩ = some (.bool true) ∧ w'.cell? ⟨gb106, 2, none⟩ = some (.int .u32 a0_2)) ∧ (Kd.R Kd.string 9 w' w.heap.size (fun _ => True) s_.1 y107) ∧ (Kd.R (Kd.int .i64) 3 w' w.heap.size (fun _ => True) s_.2.2 t111) ∧ (∃ c_, (s_.1 : Value) = .slice (some s_.2.1) y107.length c_) ∧ (w'.heap[gb106]? = some (.cells #[.int .u8 a0_0, .bool true, .int .u32 a0_2] 27 (0, 0))) ∧ (Below w.heap.size w w')) ?_ ?_
                  rotate_left
                  · intro hJ0_10_11
                    refine join_ (σ := Value × Addr) 4 #[true, true, true, true, true, true, true, true, true, true, false, false, false, false] (fun s_ => [(4, s_.1), (9, .string (rdOf ByteArray.empty y107 (ji2))), (8, .pointer (some (s_.2.add ((ji2)).toNat))), (10, .string ((rdOf ByteArray.empty y107 (ji2)) ++ (⟨#[32]⟩ : ByteArray)))]) (fun s_ w' => (w'.cell? ⟨gb106, 0, none⟩ = some (.int .u8 a0_0) ∧ w'.cell? ⟨gb106, 1, none⟩ = some (.bool true) ∧ w'.cell? ⟨gb106, 2, none⟩ = some (.int .u32 a0_2)) ∧ (Kd.R Kd.string 9 w' w.heap.size (fun _ => True) s_.1 y107) ∧ (∃ c_, (s_.1 : Value) = .slice (some s_.2) y107.length c_) ∧ (w'.heap[gb106]? = some (.cells #[.int .u8 a0_0, .bool true, .int .u32 a0_2] 27 (0, 0))) ∧ (Below w.heap.size w w')) ?_ ?_
                    rotate_left
                    · intro hJ0_5
                      refine join_ (σ := Value × Addr × Value) 5 #[true, true, true, true, true, false, false, true, true, true, true, false, false, false] (fun s_ => [(4, s_.1), (14, s_.2.2), (8, .pointer (some (s_.2.1.add ((ji2)).toNat)))]) (fun s_ w' => (w'.cell? ⟨gb106, 0, none⟩ = some (.int .u8 a0_0) ∧ w'.cell? ⟨gb106, 1, none⟩ = some (.bool true) ∧ w'.cell? ⟨gb106, 2, none⟩ = some (.int .u32 a0_2)) ∧ (Kd.R Kd.string 9 w' w.heap.size (fun _ => True) s_.1 y107) ∧ (Kd.R (Kd.int .i64) 3 w' w.heap.size (fun _ => True) s_.2.2 t111) ∧ (∃ c_, (s_.1 : Value) = .slice (some s_.2.1) y107.length c_) ∧ (w'.heap[gb106]? = some (.cells #[.int .u8 a0_0, .bool true, .int .u32 a0_2] 27 (0, 0))) ∧ (Below w.heap.size w w')) ?_ ?_
                      rotate_left
                      · intro hJ0_10
                        refine join_ (σ := Value) 6 #[false, true, true, true, false, false, false, true, true, true, true, true, false, false] (fun s_ => [(14, s_), (15, .string t114)]) (fun s_ w' => (w'.cell? ⟨gb106, 0, none⟩ = some (.int .u8 a0_0) ∧ w'.cell? ⟨gb106, 1, none⟩ = some (.bool true) ∧ w'.cell? ⟨gb106, 2, none⟩ = some (.int .u32 a0_2)) ∧ (Kd.R (Kd.int .i64) 3 w' w.heap.size (fun _ => True) s_ t111) ∧ (w'.heap[gb106]? = some (.cells #[.int .u8 a0_0, .bool true, .int .u32 a0_2] 27 (0, 0))) ∧ (Below w.heap.size w w')) ?_ ?_
                        rotate_left
                        · intro hJ10_11
                          refine join_ (σ := Value × Addr) 6 #[true, true, true, true, true, false, false, true, true, true, false, false, false, false] (fun s_ => [(4, s_.1), (8, .pointer (some (s_.2.add ((ji2)).toNat)))]) (fun s_ w' => (w'.cell? ⟨gb106, 0, none⟩ = some (.int .u8 a0_0) ∧ w'.cell? ⟨gb106, 1, none⟩ = some (.bool true) ∧ w'.cell? ⟨gb106, 2, none⟩ = some (.int .u32 a0_2)) ∧ (Kd.R Kd.string 9 w' w.heap.size (fun _ => True) s_.1 y107) ∧ (∃ c_, (s_.1 : Value) = .slice (some s_.2) y107.length c_) ∧ (w'.heap[gb106]? = some (.cells #[.int .u8 a0_0, .bool true, .int .u32 a0_2] 27 (0, 0))) ∧ (Below w.heap.size w w')) ?_ ?_
                          rotate_left
                          · intro hJ0
                            refine join_ (σ := Value) 7 #[false, true, true, true, false, false, false, true, true, true, true, false, false, false] (fun s_ => [(14, s_)]) (fun s_ w' => (w'.cell? ⟨gb106, 0, none⟩ = some (.int .u8 a0_0) ∧ w'.cell? ⟨gb106, 1, none⟩ = some (.bool true) ∧ w'.cell? ⟨gb106, 2, none⟩ = some (.int .u32 a0_2)) ∧ (Kd.R (Kd.int .i64) 3 w' w.heap.size (fun _ => True) s_ t111) ∧ (w'.heap[gb106]? = some (.cells #[.int .u8 a0_0, .bool true, .int .u32 a0_2] 27 (0, 0))) ∧ (Below w.heap.size w w')) ?_ ?_
                            rotate_left
                            · intro hJ10
                              refine two_ (i := 0) (j := 10) (Ni := some 4) (Nj := some 14) #[true, true, true, true, false, false, false, true, true, true, false, false, false, false] #[false, true, true, true, false, false, false, true, true, true, true, false, false, false] rfl rfl rfl rfl (two_of HT_.out (by kernel_rfl)) (by decide) (by decide) (fun K hK => ?_) (fun K hK => ?_)
                              · skip
                                refine Kd.R_lit_step Kd.string _ 9 ?hg (N := 4) ?hd (xs := ([(⟨#[117, 110, 105, 118, 101, 114, 115, 97, 108]⟩ : ByteArray), (⟨#[97, 112, 112, 108, 105, 99, 97, 116, 105, 111, 110]⟩ : ByteArray), (⟨#[99, 111, 110, 116, 101, 120, 116]⟩ : ByteArray), (⟨#[112, 114, 105, 118, 97, 116, 101]⟩ : ByteArray)] : List ByteArray)) (inner := [.string (⟨#[117, 110, 105, 118, 101, 114, 115, 97, 108]⟩ : ByteArray), .string (⟨#[97, 112, 112, 108, 105, 99, 97, 116, 105, 111, 110]⟩ : ByteArray), .string (⟨#[99, 111, 110, 116, 101, 120, 116]⟩ : ByteArray), .string (⟨#[112, 114, 105, 118, 97, 116, 101]⟩ : ByteArray)]) (ok := fun _ => True) (okp := fun _ => True) ?hr ?hp (fun _ hk => hk) trivial (Below.refl _ _) (Nat.le_refl _) (by simp) ?_; (case hd => rfl); (case hg => rfl); (case hr => first | (go_simp; done) | (go_simp; rfl)); (case hp => exact (Reps.one (show Kd.M Kd.string _ _ _ (⟨#[117, 110, 105, 118, 101, 114, 115, 97, 108]⟩ : ByteArray) [.string (⟨#[117, 110, 105, 118, 101, 114, 115, 97, 108]⟩ : ByteArray)] from rfl) (Reps.one (show Kd.M Kd.string _ _ _ (⟨#[97, 112, 112, 108, 105, 99, 97, 116, 105, 111, 110]⟩ : ByteArray) [.string (⟨#[97, 112, 112, 108, 105, 99, 97, 116, 105, 111, 110]⟩ : ByteArray)] from rfl) (Reps.one (show Kd.M Kd.string _ _ _ (⟨#[99, 111, 110, 116, 101, 120, 116]⟩ : ByteArray) [.string (⟨#[99, 111, 110, 116, 101, 120, 116]⟩ : ByteArray)] from rfl) (Reps.one (show Kd.M Kd.string _ _ _ (⟨#[112, 114, 105, 118, 97, 116, 101]⟩ : ByteArray) [.string (⟨#[112, 114, 105, 118, 97, 116, 101]⟩ : ByteArray)] from rfl) (Reps.none _ _))))))
                                intro v108 w13 ho14 hb hg_ hnew_
                                clear hg_ hnew_
                                (first | rw [← Ny107.out] at ho14 | (simp only [Int.reduceToNat] at ho14; rw [← Ny107.out] at ho14))
                                have n0_ := Aside0.mk (Kd.R_lower ho14 (below_size (by repeat (first | (with_reducible first | exact HB.out | apply below_alloc | apply pw_below_drewN | apply below_drew1 | refine below_set ?_ GE106.out) | exact HB.out))))
                                have n1_ := Aside0.mk (blk_below (g := gb106) (o := .cells #[.int .u8 a0_0, .bool true, .int .u32 a0_2] 27 (0, 0)) (by (with_reducible repeat (first | refine blk_drewN ?_ _ | refine blk_drew ?_ | refine blk_alloc ?_ _)); exact BK106.out) hb)
                                have n2_ := Aside0.mk (below_step (by repeat (first | (with_reducible first | exact HB.out | apply below_alloc | apply pw_below_drewN | apply below_drew1 | refine below_set ?_ GE106.out) | exact HB.out)) hb)
                                clear BK106
                                clear HB
                                have HO109 := n0_
                                have BK106 := n1_
                                have HB := n2_
                                clear n0_ n1_ n2_
                                clear hb ho14
                                obtain ⟨Ao15, co15, eo15⟩ := Kd.R_slice HO109.out
                                subst eo15
                                obtain ⟨ado15, fo15, _⟩ := Kd.at_string (Kd.R_reads' HO109.out).2.2 0 (by decide) (by rw [Ny107.out]; simp)
                                cases fo15
                                refine hK.out _ _ ⟨(blk_cell BK106.out 0).trans rfl, (blk_cell BK106.out 1).trans rfl, (blk_cell BK106.out 2).trans rfl⟩ (fun hHeld => ?_)
                                clear hK K
                                refine norm_ (a' := ?_) ?_ ?_
                                rotate_left
                                · show Act.put _ (some 4) _ = _
                                  simp only [Act.put, List.setIfInBounds_toArray, List.set_cons_zero, List.set_cons_succ, i64_w, i32_w]
                                  rfl
                                refine pure_ (i := 4) (N := some 8) (v := ?_) (a' := ?_) #[true, true, true, true, true, false, false, true, true, true, false, false, false, false] rfl rfl (any_of HT_.out (by kernel_rfl)) (fun _ _ _ h => h) (Or.inl ⟨by rfl, ?_⟩) ?_ ?_
                                rotate_left
                                · intro w'
                                  go_simp
                                  with_reducible rfl
                                rotate_left
                                · simp only [Act.put, List.setIfInBounds_toArray, List.set_cons_zero, List.set_cons_succ, i64_w, i32_w]
                                  rfl
                                exact norm_ (by first | (simp only [putAll, Act.put, List.setIfInBounds_toArray, List.set_cons_zero, List.set_cons_succ]; done) | (simp only [putAll, Act.put, List.setIfInBounds_toArray, List.set_cons_zero, List.set_cons_succ]; rfl)) (hJ0 (.slice (some ado15) y107.length co15, ado15) _ ⟨hHeld, (by (with_reducible repeat (first | apply Kd.R_alloc | apply Kd.R_drewN | apply Kd.R_drew)); exact HO109.out), ⟨_, rfl⟩, (by (with_reducible repeat (first | refine blk_drewN ?_ _ | refine blk_drew ?_ | refine blk_alloc ?_ _)); exact BK106.out), (by repeat (first | (with_reducible first | exact HB.out | apply below_alloc | apply pw_below_drewN | apply below_drew1 | refine below_set ?_ GE106.out) | exact HB.out))⟩)
                              · skip
                                refine goes_ Tryd.func33 (by kernel_rfl) rfl #[.int .i64 (wrap64 (a0_2))] (by rfl) rfl rfl (by (try simp only [List.map_toArray, List.map_cons, List.map_nil]); first | done | rfl | (simp only [List.length_drop, List.length_take]; rfl)) ?_
                                with_reducible refine (vidimusref01_Small.calls k (wrap64 (a0_2)) t111 _ A6.out).mono ?_
                                rintro e w13 ⟨v112, rfl, ho0, hb⟩
                                refine ⟨_, rfl, ?_⟩
                                have n0_ := Aside0.mk (Kd.R_lower ho0 (below_size (by repeat (first | (with_reducible first | exact HB.out | apply below_alloc | apply pw_below_drewN | apply below_drew1 | refine below_set ?_ GE106.out) | exact HB.out))))
                                have n1_ := Aside0.mk (blk_below (g := gb106) (o := .cells #[.int .u8 a0_0, .bool true, .int .u32 a0_2] 27 (0, 0)) (by (with_reducible repeat (first | refine blk_drewN ?_ _ | refine blk_drew ?_ | refine blk_alloc ?_ _)); exact BK106.out) hb)
                                have n2_ := Aside0.mk (below_step (by repeat (first | (with_reducible first | exact HB.out | apply below_alloc | apply pw_below_drewN | apply below_drew1 | refine below_set ?_ GE106.out) | exact HB.out)) hb)
                                clear BK106
                                clear HB
                                have HO113 := n0_
                                have BK106 := n1_
                                have HB := n2_
                                clear n0_ n1_ n2_
                                (try clear hb)
                                (try clear hb2)
                                (try clear hk)
                                (try clear hi)
                                (try clear ho0)
                                refine hK.out _ _ ⟨(blk_cell BK106.out 0).trans rfl, (blk_cell BK106.out 1).trans rfl, (blk_cell BK106.out 2).trans rfl⟩ (fun hHeld => ?_)
                                clear hK K
                                refine norm_ (a' := ?_) ?_ ?_
                                rotate_left
                                · show Act.put _ (some 14) _ = _
                                  simp only [Act.put, List.setIfInBounds_toArray, List.set_cons_zero, List.set_cons_succ, i64_w, i32_w]
                                  rfl
                                exact norm_ (by first | (simp only [putAll, Act.put, List.setIfInBounds_toArray, List.set_cons_zero, List.set_cons_succ]; done) | (simp only [putAll, Act.put, List.setIfInBounds_toArray, List.set_cons_zero, List.set_cons_succ]; rfl)) (hJ10 (v112) _ ⟨hHeld, (by (with_reducible repeat (first | apply Kd.R_alloc | apply Kd.R_drewN | apply Kd.R_drew)); exact HO113.out), (by (with_reducible repeat (first | refine blk_drewN ?_ _ | refine blk_drew ?_ | refine blk_alloc ?_ _)); exact BK106.out), (by repeat (first | (with_reducible first | exact HB.out | apply below_alloc | apply pw_below_drewN | apply below_drew1 | refine below_set ?_ GE106.out) | exact HB.out))⟩)
                            · skip
                              rintro v112 w14 ⟨hS_, h0_, h1_, h2_⟩
                              have n0_ : Aside0 (Kd.R (Kd.int .i64) 3 w14 w.heap.size (fun _ => True) v112 t111) := ⟨h0_⟩
                              have n1_ : Aside0 (w14.heap[gb106]? = some (.cells #[.int .u8 a0_0, .bool true, .int .u32 a0_2] 27 (0, 0))) := ⟨h1_⟩
                              have n2_ : Aside0 (Below w.heap.size w w14) := ⟨h2_⟩
                              clear BK106
                              clear HB
                              clear h0_ h1_ h2_
                              have HO113 := n0_
                              have BK106 := n1_
                              have HB := n2_
                              clear n0_ n1_ n2_
                              have hHeld : w14.cell? ⟨gb106, 0, none⟩ = some (.int .u8 a0_0) ∧ w14.cell? ⟨gb106, 1, none⟩ = some (.bool true) ∧ w14.cell? ⟨gb106, 2, none⟩ = some (.int .u32 a0_2) := hS_
                              refine norm_ (a' := ?_) ?_ ?_
                              rotate_left
                              · simp only [putAll, Act.put, List.setIfInBounds_toArray, List.set_cons_zero, List.set_cons_succ]
                                rfl
                              refine two_ (i := 0) (j := 11) (Ni := some 4) (Nj := some 15) #[true, true, true, true, false, false, false, true, true, true, true, false, false, false] #[false, true, true, true, false, false, false, true, true, true, true, true, false, false] rfl rfl rfl rfl (two_of HT_.out (by kernel_rfl)) (by decide) (by decide) (fun K hK => ?_) (fun K hK => ?_)
                              · skip
                                refine Kd.R_lit_step Kd.string _ 9 ?hg (N := 4) ?hd (xs := ([(⟨#[117, 110, 105, 118, 101, 114, 115, 97, 108]⟩ : ByteArray), (⟨#[97, 112, 112, 108, 105, 99, 97, 116, 105, 111, 110]⟩ : ByteArray), (⟨#[99, 111, 110, 116, 101, 120, 116]⟩ : ByteArray), (⟨#[112, 114, 105, 118, 97, 116, 101]⟩ : ByteArray)] : List ByteArray)) (inner := [.string (⟨#[117, 110, 105, 118, 101, 114, 115, 97, 108]⟩ : ByteArray), .string (⟨#[97, 112, 112, 108, 105, 99, 97, 116, 105, 111, 110]⟩ : ByteArray), .string (⟨#[99, 111, 110, 116, 101, 120, 116]⟩ : ByteArray), .string (⟨#[112, 114, 105, 118, 97, 116, 101]⟩ : ByteArray)]) (ok := fun _ => True) (okp := fun _ => True) ?hr ?hp (fun _ hk => hk) trivial (Below.refl _ _) (Nat.le_refl _) (by simp) ?_; (case hd => rfl); (case hg => rfl); (case hr => first | (go_simp; done) | (go_simp; rfl)); (case hp => exact (Reps.one (show Kd.M Kd.string _ _ _ (⟨#[117, 110, 105, 118, 101, 114, 115, 97, 108]⟩ : ByteArray) [.string (⟨#[117, 110, 105, 118, 101, 114, 115, 97, 108]⟩ : ByteArray)] from rfl) (Reps.one (show Kd.M Kd.string _ _ _ (⟨#[97, 112, 112, 108, 105, 99, 97, 116, 105, 111, 110]⟩ : ByteArray) [.string (⟨#[97, 112, 112, 108, 105, 99, 97, 116, 105, 111, 110]⟩ : ByteArray)] from rfl) (Reps.one (show Kd.M Kd.string _ _ _ (⟨#[99, 111, 110, 116, 101, 120, 116]⟩ : ByteArray) [.string (⟨#[99, 111, 110, 116, 101, 120, 116]⟩ : ByteArray)] from rfl) (Reps.one (show Kd.M Kd.string _ _ _ (⟨#[112, 114, 105, 118, 97, 116, 101]⟩ : ByteArray) [.string (⟨#[112, 114, 105, 118, 97, 116, 101]⟩ : ByteArray)] from rfl) (Reps.none _ _))))))
                                intro v108 w15 ho16 hb hg_ hnew_
                                clear hg_ hnew_
                                (first | rw [← Ny107.out] at ho16 | (simp only [Int.reduceToNat] at ho16; rw [← Ny107.out] at ho16))
                                have n0_ := Aside0.mk (Kd.R_below (by (with_reducible repeat (first | apply Kd.R_alloc | apply Kd.R_drewN | apply Kd.R_drew)); exact HO113.out) hb)
                                have n1_ := Aside0.mk (Kd.R_lower ho16 (below_size (by repeat (first | (with_reducible first | exact HB.out | apply below_alloc | apply pw_below_drewN | apply below_drew1 | refine below_set ?_ GE106.out) | exact HB.out))))
                                have n2_ := Aside0.mk (blk_below (g := gb106) (o := .cells #[.int .u8 a0_0, .bool true, .int .u32 a0_2] 27 (0, 0)) (by (with_reducible repeat (first | refine blk_drewN ?_ _ | refine blk_drew ?_ | refine blk_alloc ?_ _)); exact BK106.out) hb)
                                have n3_ := Aside0.mk (below_step (by repeat (first | (with_reducible first | exact HB.out | apply below_alloc | apply pw_below_drewN | apply below_drew1 | refine below_set ?_ GE106.out) | exact HB.out)) hb)
                                clear HO113
                                clear BK106
                                clear HB
                                have HO113 := n0_
                                have HO109 := n1_
                                have BK106 := n2_
                                have HB := n3_
                                clear n0_ n1_ n2_ n3_
                                clear hb ho16
                                obtain ⟨Ao17, co17, eo17⟩ := Kd.R_slice HO109.out
                                subst eo17
                                obtain ⟨ado17, fo17, _⟩ := Kd.at_string (Kd.R_reads' HO109.out).2.2 0 (by decide) (by rw [Ny107.out]; simp)
                                cases fo17
                                refine hK.out _ _ ⟨(blk_cell BK106.out 0).trans rfl, (blk_cell BK106.out 1).trans rfl, (blk_cell BK106.out 2).trans rfl⟩ (fun hHeld => ?_)
                                clear hK K
                                refine norm_ (a' := ?_) ?_ ?_
                                rotate_left
                                · show Act.put _ (some 4) _ = _
                                  simp only [Act.put, List.setIfInBounds_toArray, List.set_cons_zero, List.set_cons_succ, i64_w, i32_w]
                                  rfl
                                refine pure_ (i := 4) (N := some 8) (v := ?_) (a' := ?_) #[true, true, true, true, true, false, false, true, true, true, true, false, false, false] rfl rfl (any_of HT_.out (by kernel_rfl)) (fun _ _ _ h => h) (Or.inl ⟨by rfl, ?_⟩) ?_ ?_
                                rotate_left
                                · intro w'
                                  go_simp
                                  with_reducible rfl
                                rotate_left
                                · simp only [Act.put, List.setIfInBounds_toArray, List.set_cons_zero, List.set_cons_succ, i64_w, i32_w]
                                  rfl
                                exact norm_ (by first | (simp only [putAll, Act.put, List.setIfInBounds_toArray, List.set_cons_zero, List.set_cons_succ]; done) | (simp only [putAll, Act.put, List.setIfInBounds_toArray, List.set_cons_zero, List.set_cons_succ]; rfl)) (hJ0_10 (.slice (some ado17) y107.length co17, ado17, v112) _ ⟨hHeld, (by (with_reducible repeat (first | apply Kd.R_alloc | apply Kd.R_drewN | apply Kd.R_drew)); exact HO109.out), (by (with_reducible repeat (first | apply Kd.R_alloc | apply Kd.R_drewN | apply Kd.R_drew)); exact HO113.out), ⟨_, rfl⟩, (by (with_reducible repeat (first | refine blk_drewN ?_ _ | refine blk_drew ?_ | refine blk_alloc ?_ _)); exact BK106.out), (by repeat (first | (with_reducible first | exact HB.out | apply below_alloc | apply pw_below_drewN | apply below_drew1 | refine below_set ?_ GE106.out) | exact HB.out))⟩)
                              · skip
                                obtain ⟨Ao15, co15, eo15⟩ := Kd.R_slice HO113.out
                                (first | subst eo15 | (injection eo15 with f1_ f2_ f3_; have f4_ := f1_.symm; have f5_ := f3_.symm; clear f1_ f2_ f3_; subst f4_; subst f5_))
                                refine goes_ Tryd.func34 (by kernel_rfl) rfl #[.slice Ao15 t111.length co15] (by rfl) rfl rfl (by (try simp only [List.map_toArray, List.map_cons, List.map_nil]); first | done | rfl | (simp only [List.length_drop, List.length_take]; rfl)) ?_
                                with_reducible refine (vidimusref01_D_Text.calls k _ _ t111 t114 _ ?side1 ?side2 A7.out).mono ?_
                                (case side1 => repeat (first | exact (Kd.R_reads' HO113.out).2.2 | (with_reducible refine Kd.C_alloc ?_ _) | (with_reducible refine Kd.C_drewN ?_ _) | (with_reducible refine Kd.C_drew ?_)))
                                (case side2 => exact (Kd.R_reads' HO113.out).2.1)
                                rintro e w' ⟨rfl, ⟨nd, rfl⟩⟩
                                refine ⟨_, rfl, ?_⟩
                                refine hK.out _ _ ⟨(blk_cell BK106.out 0).trans rfl, (blk_cell BK106.out 1).trans rfl, (blk_cell BK106.out 2).trans rfl⟩ (fun hHeld => ?_)
                                clear hK K
                                refine norm_ (a' := ?_) ?_ ?_
                                rotate_left
                                · show Act.put _ (some 15) _ = _
                                  simp only [Act.put, List.setIfInBounds_toArray, List.set_cons_zero, List.set_cons_succ, i64_w, i32_w]
                                  rfl
                                exact norm_ (by first | (simp only [putAll, Act.put, List.setIfInBounds_toArray, List.set_cons_zero, List.set_cons_succ]; done) | (simp only [putAll, Act.put, List.setIfInBounds_toArray, List.set_cons_zero, List.set_cons_succ]; rfl)) (hJ10_11 (.slice Ao15 t111.length co15) _ ⟨hHeld, (by (with_reducible repeat (first | apply Kd.R_alloc | apply Kd.R_drewN | apply Kd.R_drew)); exact HO113.out), (by (with_reducible repeat (first | refine blk_drewN ?_ _ | refine blk_drew ?_ | refine blk_alloc ?_ _)); exact BK106.out), (by repeat (first | (with_reducible first | exact HB.out | apply below_alloc | apply pw_below_drewN | apply below_drew1 | refine below_set ?_ GE106.out) | exact HB.out))⟩)
                          · skip
                            rintro ⟨v108, adz_v108⟩ w16 ⟨hS_, h0_, h1_, h2_, h3_⟩
                            have n0_ : Aside0 (Kd.R Kd.string 9 w16 w.heap.size (fun _ => True) v108 y107) := ⟨h0_⟩
                            have n1_ : Aside0 (∃ c_, (v108 : Value) = .slice (some adz_v108) y107.length c_) := ⟨h1_⟩
                            have n2_ : Aside0 (w16.heap[gb106]? = some (.cells #[.int .u8 a0_0, .bool true, .int .u32 a0_2] 27 (0, 0))) := ⟨h2_⟩
                            have n3_ : Aside0 (Below w.heap.size w w16) := ⟨h3_⟩
                            clear BK106
                            clear HB
                            clear h0_ h1_ h2_ h3_
                            have HO109 := n0_
                            have HA_HO109 := n1_
                            have BK106 := n2_
                            have HB := n3_
                            clear n0_ n1_ n2_ n3_
                            have hHeld : w16.cell? ⟨gb106, 0, none⟩ = some (.int .u8 a0_0) ∧ w16.cell? ⟨gb106, 1, none⟩ = some (.bool true) ∧ w16.cell? ⟨gb106, 2, none⟩ = some (.int .u32 a0_2) := hS_
                            obtain ⟨co17, eo17⟩ := HA_HO109.out
                            clear HA_HO109
                            subst eo17
                            refine norm_ (a' := ?_) ?_ ?_
                            rotate_left
                            · simp only [putAll, Act.put, List.setIfInBounds_toArray, List.set_cons_zero, List.set_cons_succ]
                              rfl
                            refine two_ (i := 5) (j := 10) (Ni := some 9) (Nj := some 14) #[true, true, true, true, true, true, false, true, true, true, false, false, false, false] #[true, true, true, true, true, false, false, true, true, true, true, false, false, false] rfl rfl rfl rfl (two_of HT_.out (by kernel_rfl)) (by decide) (by decide) (fun K hK => ?_) (fun K hK => ?_)
                            · skip
                              (have p110 : 0 ≤ ((ji2) : Int) := of_decide_eq_true (by first | (with_reducible assumption) | assumption); have q110 : (ji2) < (y107.length : Int) := of_decide_eq_true (by first | (with_reducible assumption) | assumption); obtain ⟨ad110, e110, hx110_0⟩ := Kd.at_string (Kd.R_reads' HO109.out).2.2 (ji2) p110 q110; obtain rfl : adz_v108 = ad110 := (by injection e110))
                              refine value_ (w1 := ?_) (v := ?_) (by rfl) rfl ?_ ?_
                              rotate_left 2
                              · go_simp
                                constructor
                                · rfl
                                · rfl
                              clear hx110_0
                              refine hK.out _ _ ⟨(blk_cell BK106.out 0).trans rfl, (blk_cell BK106.out 1).trans rfl, (blk_cell BK106.out 2).trans rfl⟩ (fun hHeld => ?_)
                              clear hK K
                              refine norm_ (a' := ?_) ?_ ?_
                              rotate_left
                              · show Act.put _ (some 9) _ = _
                                simp only [Act.put, List.setIfInBounds_toArray, List.set_cons_zero, List.set_cons_succ, i64_w, i32_w]
                                rfl
                              refine pure_ (i := 6) (N := some 10) (v := ?_) (a' := ?_) #[true, true, true, true, true, true, true, true, true, true, false, false, false, false] rfl rfl (any_of HT_.out (by kernel_rfl)) (fun _ _ _ h => h) (Or.inl ⟨by rfl, ?_⟩) ?_ ?_
                              rotate_left
                              · intro w'
                                go_simp
                                with_reducible rfl
                              rotate_left
                              · simp only [Act.put, List.setIfInBounds_toArray, List.set_cons_zero, List.set_cons_succ, i64_w, i32_w]
                                rfl
                              exact norm_ (by first | (simp only [putAll, Act.put, List.setIfInBounds_toArray, List.set_cons_zero, List.set_cons_succ]; done) | (simp only [putAll, Act.put, List.setIfInBounds_toArray, List.set_cons_zero, List.set_cons_succ]; rfl)) (hJ0_5 (.slice (some adz_v108) y107.length co17, adz_v108) _ ⟨hHeld, (by (with_reducible repeat (first | apply Kd.R_alloc | apply Kd.R_drewN | apply Kd.R_drew)); exact HO109.out), ⟨_, rfl⟩, (by (with_reducible repeat (first | refine blk_drewN ?_ _ | refine blk_drew ?_ | refine blk_alloc ?_ _)); exact BK106.out), (by repeat (first | (with_reducible first | exact HB.out | apply below_alloc | apply pw_below_drewN | apply below_drew1 | refine below_set ?_ GE106.out) | exact HB.out))⟩)
                            · skip
                              refine goes_ Tryd.func33 (by kernel_rfl) rfl #[.int .i64 (wrap64 (a0_2))] (by rfl) rfl rfl (by (try simp only [List.map_toArray, List.map_cons, List.map_nil]); first | done | rfl | (simp only [List.length_drop, List.length_take]; rfl)) ?_
                              with_reducible refine (vidimusref01_Small.calls k (wrap64 (a0_2)) t111 _ A6.out).mono ?_
                              rintro e w18 ⟨v112, rfl, ho0, hb⟩
                              refine ⟨_, rfl, ?_⟩
                              have n0_ := Aside0.mk (Kd.R_below (by (with_reducible repeat (first | apply Kd.R_alloc | apply Kd.R_drewN | apply Kd.R_drew)); exact HO109.out) hb)
                              have n1_ := Aside0.mk (Kd.R_lower ho0 (below_size (by repeat (first | (with_reducible first | exact HB.out | apply below_alloc | apply pw_below_drewN | apply below_drew1 | refine below_set ?_ GE106.out) | exact HB.out))))
                              have n2_ := Aside0.mk (blk_below (g := gb106) (o := .cells #[.int .u8 a0_0, .bool true, .int .u32 a0_2] 27 (0, 0)) (by (with_reducible repeat (first | refine blk_drewN ?_ _ | refine blk_drew ?_ | refine blk_alloc ?_ _)); exact BK106.out) hb)
                              have n3_ := Aside0.mk (below_step (by repeat (first | (with_reducible first | exact HB.out | apply below_alloc | apply pw_below_drewN | apply below_drew1 | refine below_set ?_ GE106.out) | exact HB.out)) hb)
                              clear HO109
                              clear BK106
                              clear HB
                              have HO109 := n0_
                              have HO113 := n1_
                              have BK106 := n2_
                              have HB := n3_
                              clear n0_ n1_ n2_ n3_
                              (try clear hb)
                              (try clear hb2)
                              (try clear hk)
                              (try clear hi)
                              (try clear ho0)
                              refine hK.out _ _ ⟨(blk_cell BK106.out 0).trans rfl, (blk_cell BK106.out 1).trans rfl, (blk_cell BK106.out 2).trans rfl⟩ (fun hHeld => ?_)
                              clear hK K
                              refine norm_ (a' := ?_) ?_ ?_
                              rotate_left
                              · show Act.put _ (some 14) _ = _
                                simp only [Act.put, List.setIfInBounds_toArray, List.set_cons_zero, List.set_cons_succ, i64_w, i32_w]
                                rfl
                              exact norm_ (by first | (simp only [putAll, Act.put, List.setIfInBounds_toArray, List.set_cons_zero, List.set_cons_succ]; done) | (simp only [putAll, Act.put, List.setIfInBounds_toArray, List.set_cons_zero, List.set_cons_succ]; rfl)) (hJ0_10 (.slice (some adz_v108) y107.length co17, adz_v108, v112) _ ⟨hHeld, (by (with_reducible repeat (first | apply Kd.R_alloc | apply Kd.R_drewN | apply Kd.R_drew)); exact HO109.out), (by (with_reducible repeat (first | apply Kd.R_alloc | apply Kd.R_drewN | apply Kd.R_drew)); exact HO113.out), ⟨_, rfl⟩, (by (with_reducible repeat (first | refine blk_drewN ?_ _ | refine blk_drew ?_ | refine blk_alloc ?_ _)); exact BK106.out), (by repeat (first | (with_reducible first | exact HB.out | apply below_alloc | apply pw_below_drewN | apply below_drew1 | refine below_set ?_ GE106.out) | exact HB.out))⟩)
                        · skip
                          rintro v112 w15 ⟨hS_, h0_, h1_, h2_⟩
                          have n0_ : Aside0 (Kd.R (Kd.int .i64) 3 w15 w.heap.size (fun _ => True) v112 t111) := ⟨h0_⟩
                          have n1_ : Aside0 (w15.heap[gb106]? = some (.cells #[.int .u8 a0_0, .bool true, .int .u32 a0_2] 27 (0, 0))) := ⟨h1_⟩
                          have n2_ : Aside0 (Below w.heap.size w w15) := ⟨h2_⟩
                          clear BK106
                          clear HB
                          clear h0_ h1_ h2_
                          have HO113 := n0_
                          have BK106 := n1_
                          have HB := n2_
                          clear n0_ n1_ n2_
                          have hHeld : w15.cell? ⟨gb106, 0, none⟩ = some (.int .u8 a0_0) ∧ w15.cell? ⟨gb106, 1, none⟩ = some (.bool true) ∧ w15.cell? ⟨gb106, 2, none⟩ = some (.int .u32 a0_2) := hS_
                          refine norm_ (a' := ?_) ?_ ?_
                          rotate_left
                          · simp only [putAll, Act.put, List.setIfInBounds_toArray, List.set_cons_zero, List.set_cons_succ]
                            rfl
                          refine one_ (i := 0) (N := some 4) #[true, true, true, true, false, false, false, true, true, true, true, true, false, false] rfl rfl (one_of HT_.out (by kernel_rfl)) (by decide) (fun K hK => ?_)
                          refine Kd.R_lit_step Kd.string _ 9 ?hg (N := 4) ?hd (xs := ([(⟨#[117, 110, 105, 118, 101, 114, 115, 97, 108]⟩ : ByteArray), (⟨#[97, 112, 112, 108, 105, 99, 97, 116, 105, 111, 110]⟩ : ByteArray), (⟨#[99, 111, 110, 116, 101, 120, 116]⟩ : ByteArray), (⟨#[112, 114, 105, 118, 97, 116, 101]⟩ : ByteArray)] : List ByteArray)) (inner := [.string (⟨#[117, 110, 105, 118, 101, 114, 115, 97, 108]⟩ : ByteArray), .string (⟨#[97, 112, 112, 108, 105, 99, 97, 116, 105, 111, 110]⟩ : ByteArray), .string (⟨#[99, 111, 110, 116, 101, 120, 116]⟩ : ByteArray), .string (⟨#[112, 114, 105, 118, 97, 116, 101]⟩ : ByteArray)]) (ok := fun _ => True) (okp := fun _ => True) ?hr ?hp (fun _ hk => hk) trivial (Below.refl _ _) (Nat.le_refl _) (by simp) ?_; (case hd => rfl); (case hg => rfl); (case hr => first | (go_simp; done) | (go_simp; rfl)); (case hp => exact (Reps.one (show Kd.M Kd.string _ _ _ (⟨#[117, 110, 105, 118, 101, 114, 115, 97, 108]⟩ : ByteArray) [.string (⟨#[117, 110, 105, 118, 101, 114, 115, 97, 108]⟩ : ByteArray)] from rfl) (Reps.one (show Kd.M Kd.string _ _ _ (⟨#[97, 112, 112, 108, 105, 99, 97, 116, 105, 111, 110]⟩ : ByteArray) [.string (⟨#[97, 112, 112, 108, 105, 99, 97, 116, 105, 111, 110]⟩ : ByteArray)] from rfl) (Reps.one (show Kd.M Kd.string _ _ _ (⟨#[99, 111, 110, 116, 101, 120, 116]⟩ : ByteArray) [.string (⟨#[99, 111, 110, 116, 101, 120, 116]⟩ : ByteArray)] from rfl) (Reps.one (show Kd.M Kd.string _ _ _ (⟨#[112, 114, 105, 118, 97, 116, 101]⟩ : ByteArray) [.string (⟨#[112, 114, 105, 118, 97, 116, 101]⟩ : ByteArray)] from rfl) (Reps.none _ _))))))
                          intro v108 w16 ho17 hb hg_ hnew_
                          clear hg_ hnew_
                          (first | rw [← Ny107.out] at ho17 | (simp only [Int.reduceToNat] at ho17; rw [← Ny107.out] at ho17))
                          have n0_ := Aside0.mk (Kd.R_below (by (with_reducible repeat (first | apply Kd.R_alloc | apply Kd.R_drewN | apply Kd.R_drew)); exact HO113.out) hb)
                          have n1_ := Aside0.mk (Kd.R_lower ho17 (below_size (by repeat (first | (with_reducible first | exact HB.out | apply below_alloc | apply pw_below_drewN | apply below_drew1 | refine below_set ?_ GE106.out) | exact HB.out))))
                          have n2_ := Aside0.mk (blk_below (g := gb106) (o := .cells #[.int .u8 a0_0, .bool true, .int .u32 a0_2] 27 (0, 0)) (by (with_reducible repeat (first | refine blk_drewN ?_ _ | refine blk_drew ?_ | refine blk_alloc ?_ _)); exact BK106.out) hb)
                          have n3_ := Aside0.mk (below_step (by repeat (first | (with_reducible first | exact HB.out | apply below_alloc | apply pw_below_drewN | apply below_drew1 | refine below_set ?_ GE106.out) | exact HB.out)) hb)
                          clear HO113
                          clear BK106
                          clear HB
                          have HO113 := n0_
                          have HO109 := n1_
                          have BK106 := n2_
                          have HB := n3_
                          clear n0_ n1_ n2_ n3_
                          clear hb ho17
                          obtain ⟨Ao18, co18, eo18⟩ := Kd.R_slice HO109.out
                          subst eo18
                          obtain ⟨ado18, fo18, _⟩ := Kd.at_string (Kd.R_reads' HO109.out).2.2 0 (by decide) (by rw [Ny107.out]; simp)
                          cases fo18
                          refine hK.out _ _ ⟨(blk_cell BK106.out 0).trans rfl, (blk_cell BK106.out 1).trans rfl, (blk_cell BK106.out 2).trans rfl⟩ (fun hHeld => ?_)
                          clear hK K
                          refine norm_ (a' := ?_) ?_ ?_
                          rotate_left
                          · show Act.put _ (some 4) _ = _
                            simp only [Act.put, List.setIfInBounds_toArray, List.set_cons_zero, List.set_cons_succ, i64_w, i32_w]
                            rfl
                          refine pure_ (i := 4) (N := some 8) (v := ?_) (a' := ?_) #[true, true, true, true, true, false, false, true, true, true, true, true, false, false] rfl rfl (any_of HT_.out (by kernel_rfl)) (fun _ _ _ h => h) (Or.inl ⟨by rfl, ?_⟩) ?_ ?_
                          rotate_left
                          · intro w'
                            go_simp
                            with_reducible rfl
                          rotate_left
                          · simp only [Act.put, List.setIfInBounds_toArray, List.set_cons_zero, List.set_cons_succ, i64_w, i32_w]
                            rfl
                          exact norm_ (by first | (simp only [putAll, Act.put, List.setIfInBounds_toArray, List.set_cons_zero, List.set_cons_succ]; done) | (simp only [putAll, Act.put, List.setIfInBounds_toArray, List.set_cons_zero, List.set_cons_succ]; rfl)) (hJ0_10_11 (.slice (some ado18) y107.length co18, ado18, v112) _ ⟨hHeld, (by (with_reducible repeat (first | apply Kd.R_alloc | apply Kd.R_drewN | apply Kd.R_drew)); exact HO109.out), (by (with_reducible repeat (first | apply Kd.R_alloc | apply Kd.R_drewN | apply Kd.R_drew)); exact HO113.out), ⟨_, rfl⟩, (by (with_reducible repeat (first | refine blk_drewN ?_ _ | refine blk_drew ?_ | refine blk_alloc ?_ _)); exact BK106.out), (by repeat (first | (with_reducible first | exact HB.out | apply below_alloc | apply pw_below_drewN | apply below_drew1 | refine below_set ?_ GE106.out) | exact HB.out))⟩)
                      · skip
                        rintro ⟨v108, adz_v108, v112⟩ w17 ⟨hS_, h0_, h1_, h2_, h3_, h4_⟩
                        have n0_ : Aside0 (Kd.R Kd.string 9 w17 w.heap.size (fun _ => True) v108 y107) := ⟨h0_⟩
                        have n1_ : Aside0 (Kd.R (Kd.int .i64) 3 w17 w.heap.size (fun _ => True) v112 t111) := ⟨h1_⟩
                        have n2_ : Aside0 (∃ c_, (v108 : Value) = .slice (some adz_v108) y107.length c_) := ⟨h2_⟩
                        have n3_ : Aside0 (w17.heap[gb106]? = some (.cells #[.int .u8 a0_0, .bool true, .int .u32 a0_2] 27 (0, 0))) := ⟨h3_⟩
                        have n4_ : Aside0 (Below w.heap.size w w17) := ⟨h4_⟩
                        clear BK106
                        clear HB
                        clear h0_ h1_ h2_ h3_ h4_
                        have HO109 := n0_
                        have HO113 := n1_
                        have HA_HO109 := n2_
                        have BK106 := n3_
                        have HB := n4_
                        clear n0_ n1_ n2_ n3_ n4_
                        have hHeld : w17.cell? ⟨gb106, 0, none⟩ = some (.int .u8 a0_0) ∧ w17.cell? ⟨gb106, 1, none⟩ = some (.bool true) ∧ w17.cell? ⟨gb106, 2, none⟩ = some (.int .u32 a0_2) := hS_
                        obtain ⟨co18, eo18⟩ := HA_HO109.out
                        clear HA_HO109
                        subst eo18
                        obtain ⟨Ao19, co19, eo19⟩ := Kd.R_slice HO113.out
                        (first | subst eo19 | (injection eo19 with f1_ f2_ f3_; have f4_ := f1_.symm; have f5_ := f3_.symm; clear f1_ f2_ f3_; subst f4_; subst f5_))
                        refine norm_ (a' := ?_) ?_ ?_
                        rotate_left
                        · simp only [putAll, Act.put, List.setIfInBounds_toArray, List.set_cons_zero, List.set_cons_succ]
                          rfl
                        refine two_ (i := 5) (j := 11) (Ni := some 9) (Nj := some 15) #[true, true, true, true, true, true, false, true, true, true, true, false, false, false] #[true, true, true, true, true, false, false, true, true, true, true, true, false, false] rfl rfl rfl rfl (two_of HT_.out (by kernel_rfl)) (by decide) (by decide) (fun K hK => ?_) (fun K hK => ?_)
                        · skip
                          (have p110 : 0 ≤ ((ji2) : Int) := of_decide_eq_true (by first | (with_reducible assumption) | assumption); have q110 : (ji2) < (y107.length : Int) := of_decide_eq_true (by first | (with_reducible assumption) | assumption); obtain ⟨ad110, e110, hx110_0⟩ := Kd.at_string (Kd.R_reads' HO109.out).2.2 (ji2) p110 q110; obtain rfl : adz_v108 = ad110 := (by injection e110))
                          refine value_ (w1 := ?_) (v := ?_) (by rfl) rfl ?_ ?_
                          rotate_left 2
                          · go_simp
                            constructor
                            · rfl
                            · rfl
                          clear hx110_0
                          refine hK.out _ _ ⟨(blk_cell BK106.out 0).trans rfl, (blk_cell BK106.out 1).trans rfl, (blk_cell BK106.out 2).trans rfl⟩ (fun hHeld => ?_)
                          clear hK K
                          refine norm_ (a' := ?_) ?_ ?_
                          rotate_left
                          · show Act.put _ (some 9) _ = _
                            simp only [Act.put, List.setIfInBounds_toArray, List.set_cons_zero, List.set_cons_succ, i64_w, i32_w]
                            rfl
                          refine pure_ (i := 6) (N := some 10) (v := ?_) (a' := ?_) #[true, true, true, true, true, true, true, true, true, true, true, false, false, false] rfl rfl (any_of HT_.out (by kernel_rfl)) (fun _ _ _ h => h) (Or.inl ⟨by rfl, ?_⟩) ?_ ?_
                          rotate_left
                          · intro w'
                            go_simp
                            with_reducible rfl
                          rotate_left
                          · simp only [Act.put, List.setIfInBounds_toArray, List.set_cons_zero, List.set_cons_succ, i64_w, i32_w]
                            rfl
                          exact norm_ (by first | (simp only [putAll, Act.put, List.setIfInBounds_toArray, List.set_cons_zero, List.set_cons_succ]; done) | (simp only [putAll, Act.put, List.setIfInBounds_toArray, List.set_cons_zero, List.set_cons_succ]; rfl)) (hJ0_5_10 (.slice (some adz_v108) y107.length co18, adz_v108, .slice Ao19 t111.length co19) _ ⟨hHeld, (by (with_reducible repeat (first | apply Kd.R_alloc | apply Kd.R_drewN | apply Kd.R_drew)); exact HO109.out), (by (with_reducible repeat (first | apply Kd.R_alloc | apply Kd.R_drewN | apply Kd.R_drew)); exact HO113.out), ⟨_, rfl⟩, (by (with_reducible repeat (first | refine blk_drewN ?_ _ | refine blk_drew ?_ | refine blk_alloc ?_ _)); exact BK106.out), (by repeat (first | (with_reducible first | exact HB.out | apply below_alloc | apply pw_below_drewN | apply below_drew1 | refine below_set ?_ GE106.out) | exact HB.out))⟩)
                        · skip
                          refine goes_ Tryd.func34 (by kernel_rfl) rfl #[.slice Ao19 t111.length co19] (by rfl) rfl rfl (by (try simp only [List.map_toArray, List.map_cons, List.map_nil]); first | done | rfl | (simp only [List.length_drop, List.length_take]; rfl)) ?_
                          with_reducible refine (vidimusref01_D_Text.calls k _ _ t111 t114 _ ?side1 ?side2 A7.out).mono ?_
                          (case side1 => repeat (first | exact (Kd.R_reads' HO113.out).2.2 | (with_reducible refine Kd.C_alloc ?_ _) | (with_reducible refine Kd.C_drewN ?_ _) | (with_reducible refine Kd.C_drew ?_)))
                          (case side2 => exact (Kd.R_reads' HO113.out).2.1)
                          rintro e w' ⟨rfl, ⟨nd, rfl⟩⟩
                          refine ⟨_, rfl, ?_⟩
                          refine hK.out _ _ ⟨(blk_cell BK106.out 0).trans rfl, (blk_cell BK106.out 1).trans rfl, (blk_cell BK106.out 2).trans rfl⟩ (fun hHeld => ?_)
                          clear hK K
                          refine norm_ (a' := ?_) ?_ ?_
                          rotate_left
                          · show Act.put _ (some 15) _ = _
                            simp only [Act.put, List.setIfInBounds_toArray, List.set_cons_zero, List.set_cons_succ, i64_w, i32_w]
                            rfl
                          exact norm_ (by first | (simp only [putAll, Act.put, List.setIfInBounds_toArray, List.set_cons_zero, List.set_cons_succ]; done) | (simp only [putAll, Act.put, List.setIfInBounds_toArray, List.set_cons_zero, List.set_cons_succ]; rfl)) (hJ0_10_11 (.slice (some adz_v108) y107.length co18, adz_v108, .slice Ao19 t111.length co19) _ ⟨hHeld, (by (with_reducible repeat (first | apply Kd.R_alloc | apply Kd.R_drewN | apply Kd.R_drew)); exact HO109.out), (by (with_reducible repeat (first | apply Kd.R_alloc | apply Kd.R_drewN | apply Kd.R_drew)); exact HO113.out), ⟨_, rfl⟩, (by (with_reducible repeat (first | refine blk_drewN ?_ _ | refine blk_drew ?_ | refine blk_alloc ?_ _)); exact BK106.out), (by repeat (first | (with_reducible first | exact HB.out | apply below_alloc | apply pw_below_drewN | apply below_drew1 | refine below_set ?_ GE106.out) | exact HB.out))⟩)
                    · skip
                      rintro ⟨v108, adz_v108⟩ w16 ⟨hS_, h0_, h1_, h2_, h3_⟩
                      have n0_ : Aside0 (Kd.R Kd.string 9 w16 w.heap.size (fun _ => True) v108 y107) := ⟨h0_⟩
                      have n1_ : Aside0 (∃ c_, (v108 : Value) = .slice (some adz_v108) y107.length c_) := ⟨h1_⟩
                      have n2_ : Aside0 (w16.heap[gb106]? = some (.cells #[.int .u8 a0_0, .bool true, .int .u32 a0_2] 27 (0, 0))) := ⟨h2_⟩
                      have n3_ : Aside0 (Below w.heap.size w w16) := ⟨h3_⟩
                      clear BK106
                      clear HB
                      clear h0_ h1_ h2_ h3_
                      have HO109 := n0_
                      have HA_HO109 := n1_
                      have BK106 := n2_
                      have HB := n3_
                      clear n0_ n1_ n2_ n3_
                      have hHeld : w16.cell? ⟨gb106, 0, none⟩ = some (.int .u8 a0_0) ∧ w16.cell? ⟨gb106, 1, none⟩ = some (.bool true) ∧ w16.cell? ⟨gb106, 2, none⟩ = some (.int .u32 a0_2) := hS_
                      obtain ⟨co17, eo17⟩ := HA_HO109.out
                      clear HA_HO109
                      subst eo17
                      refine norm_ (a' := ?_) ?_ ?_
                      rotate_left
                      · simp only [putAll, Act.put, List.setIfInBounds_toArray, List.set_cons_zero, List.set_cons_succ]
                        rfl
                      refine one_ (i := 10) (N := some 14) #[true, true, true, true, true, true, true, true, true, true, true, false, false, false] rfl rfl (one_of HT_.out (by kernel_rfl)) (by decide) (fun K hK => ?_)
                      refine goes_ Tryd.func33 (by kernel_rfl) rfl #[.int .i64 (wrap64 (a0_2))] (by rfl) rfl rfl (by (try simp only [List.map_toArray, List.map_cons, List.map_nil]); first | done | rfl | (simp only [List.length_drop, List.length_take]; rfl)) ?_
                      with_reducible refine (vidimusref01_Small.calls k (wrap64 (a0_2)) t111 _ A6.out).mono ?_
                      rintro e w18 ⟨v112, rfl, ho0, hb⟩
                      refine ⟨_, rfl, ?_⟩
                      have n0_ := Aside0.mk (Kd.R_below (by (with_reducible repeat (first | apply Kd.R_alloc | apply Kd.R_drewN | apply Kd.R_drew)); exact HO109.out) hb)
                      have n1_ := Aside0.mk (Kd.R_lower ho0 (below_size (by repeat (first | (with_reducible first | exact HB.out | apply below_alloc | apply pw_below_drewN | apply below_drew1 | refine below_set ?_ GE106.out) | exact HB.out))))
                      have n2_ := Aside0.mk (blk_below (g := gb106) (o := .cells #[.int .u8 a0_0, .bool true, .int .u32 a0_2] 27 (0, 0)) (by (with_reducible repeat (first | refine blk_drewN ?_ _ | refine blk_drew ?_ | refine blk_alloc ?_ _)); exact BK106.out) hb)
                      have n3_ := Aside0.mk (below_step (by repeat (first | (with_reducible first | exact HB.out | apply below_alloc | apply pw_below_drewN | apply below_drew1 | refine below_set ?_ GE106.out) | exact HB.out)) hb)
                      clear HO109
                      clear BK106
                      clear HB
                      have HO109 := n0_
                      have HO113 := n1_
                      have BK106 := n2_
                      have HB := n3_
                      clear n0_ n1_ n2_ n3_
                      (try clear hb)
                      (try clear hb2)
                      (try clear hk)
                      (try clear hi)
                      (try clear ho0)
                      refine hK.out _ _ ⟨(blk_cell BK106.out 0).trans rfl, (blk_cell BK106.out 1).trans rfl, (blk_cell BK106.out 2).trans rfl⟩ (fun hHeld => ?_)
                      clear hK K
                      refine norm_ (a' := ?_) ?_ ?_
                      rotate_left
                      · show Act.put _ (some 14) _ = _
                        simp only [Act.put, List.setIfInBounds_toArray, List.set_cons_zero, List.set_cons_succ, i64_w, i32_w]
                        rfl
                      exact norm_ (by first | (simp only [putAll, Act.put, List.setIfInBounds_toArray, List.set_cons_zero, List.set_cons_succ]; done) | (simp only [putAll, Act.put, List.setIfInBounds_toArray, List.set_cons_zero, List.set_cons_succ]; rfl)) (hJ0_5_10 (.slice (some adz_v108) y107.length co17, adz_v108, v112) _ ⟨hHeld, (by (with_reducible repeat (first | apply Kd.R_alloc | apply Kd.R_drewN | apply Kd.R_drew)); exact HO109.out), (by (with_reducible repeat (first | apply Kd.R_alloc | apply Kd.R_drewN | apply Kd.R_drew)); exact HO113.out), ⟨_, rfl⟩, (by (with_reducible repeat (first | refine blk_drewN ?_ _ | refine blk_drew ?_ | refine blk_alloc ?_ _)); exact BK106.out), (by repeat (first | (with_reducible first | exact HB.out | apply below_alloc | apply pw_below_drewN | apply below_drew1 | refine below_set ?_ GE106.out) | exact HB.out))⟩)
                  · skip
                    rintro ⟨v108, adz_v108, v112⟩ w18 ⟨hS_, h0_, h1_, h2_, h3_, h4_⟩
                    have n0_ : Aside0 (Kd.R Kd.string 9 w18 w.heap.size (fun _ => True) v108 y107) := ⟨h0_⟩
                    have n1_ : Aside0 (Kd.R (Kd.int .i64) 3 w18 w.heap.size (fun _ => True) v112 t111) := ⟨h1_⟩
                    have n2_ : Aside0 (∃ c_, (v108 : Value) = .slice (some adz_v108) y107.length c_) := ⟨h2_⟩
                    have n3_ : Aside0 (w18.heap[gb106]? = some (.cells #[.int .u8 a0_0, .bool true, .int .u32 a0_2] 27 (0, 0))) := ⟨h3_⟩
                    have n4_ : Aside0 (Below w.heap.size w w18) := ⟨h4_⟩
                    clear BK106
                    clear HB
                    clear h0_ h1_ h2_ h3_ h4_
                    have HO109 := n0_
                    have HO113 := n1_
                    have HA_HO109 := n2_
                    have BK106 := n3_
                    have HB := n4_
                    clear n0_ n1_ n2_ n3_ n4_
                    have hHeld : w18.cell? ⟨gb106, 0, none⟩ = some (.int .u8 a0_0) ∧ w18.cell? ⟨gb106, 1, none⟩ = some (.bool true) ∧ w18.cell? ⟨gb106, 2, none⟩ = some (.int .u32 a0_2) := hS_
                    obtain ⟨co19, eo19⟩ := HA_HO109.out
                    clear HA_HO109
                    subst eo19
                    refine norm_ (a' := ?_) ?_ ?_
                    rotate_left
                    · simp only [putAll, Act.put, List.setIfInBounds_toArray, List.set_cons_zero, List.set_cons_succ]
                      rfl
                    refine one_ (i := 5) (N := some 9) #[true, true, true, true, true, true, false, true, true, true, true, true, false, false] rfl rfl (one_of HT_.out (by kernel_rfl)) (by decide) (fun K hK => ?_)
                    (have p110 : 0 ≤ ((ji2) : Int) := of_decide_eq_true (by first | (with_reducible assumption) | assumption); have q110 : (ji2) < (y107.length : Int) := of_decide_eq_true (by first | (with_reducible assumption) | assumption); obtain ⟨ad110, e110, hx110_0⟩ := Kd.at_string (Kd.R_reads' HO109.out).2.2 (ji2) p110 q110; obtain rfl : adz_v108 = ad110 := (by injection e110))
                    refine value_ (w1 := ?_) (v := ?_) (by rfl) rfl ?_ ?_
                    rotate_left 2
                    · go_simp
                      constructor
                      · rfl
                      · rfl
                    clear hx110_0
                    refine hK.out _ _ ⟨(blk_cell BK106.out 0).trans rfl, (blk_cell BK106.out 1).trans rfl, (blk_cell BK106.out 2).trans rfl⟩ (fun hHeld => ?_)
                    clear hK K
                    refine norm_ (a' := ?_) ?_ ?_
                    rotate_left
                    · show Act.put _ (some 9) _ = _
                      simp only [Act.put, List.setIfInBounds_toArray, List.set_cons_zero, List.set_cons_succ, i64_w, i32_w]
                      rfl
                    refine pure_ (i := 6) (N := some 10) (v := ?_) (a' := ?_) #[true, true, true, true, true, true, true, true, true, true, true, true, false, false] rfl rfl (any_of HT_.out (by kernel_rfl)) (fun _ _ _ h => h) (Or.inl ⟨by rfl, ?_⟩) ?_ ?_
                    rotate_left
                    · intro w'
                      go_simp
                      with_reducible rfl
                    rotate_left
                    · simp only [Act.put, List.setIfInBounds_toArray, List.set_cons_zero, List.set_cons_succ, i64_w, i32_w]
                      rfl
                    exact norm_ (by first | (simp only [putAll, Act.put, List.setIfInBounds_toArray, List.set_cons_zero, List.set_cons_succ]; done) | (simp only [putAll, Act.put, List.setIfInBounds_toArray, List.set_cons_zero, List.set_cons_succ]; rfl)) (hJ0_5_10_11 (.slice (some adz_v108) y107.length co19, adz_v108, v112) _ ⟨hHeld, (by (with_reducible repeat (first | apply Kd.R_alloc | apply Kd.R_drewN | apply Kd.R_drew)); exact HO109.out), (by (with_reducible repeat (first | apply Kd.R_alloc | apply Kd.R_drewN | apply Kd.R_drew)); exact HO113.out), ⟨_, rfl⟩, (by (with_reducible repeat (first | refine blk_drewN ?_ _ | refine blk_drew ?_ | refine blk_alloc ?_ _)); exact BK106.out), (by repeat (first | (with_reducible first | exact HB.out | apply below_alloc | apply pw_below_drewN | apply below_drew1 | refine below_set ?_ GE106.out) | exact HB.out))⟩)
                · skip
                  rintro ⟨v108, adz_v108, v112⟩ w17 ⟨hS_, h0_, h1_, h2_, h3_, h4_⟩
                  have n0_ : Aside0 (Kd.R Kd.string 9 w17 w.heap.size (fun _ => True) v108 y107) := ⟨h0_⟩
                  have n1_ : Aside0 (Kd.R (Kd.int .i64) 3 w17 w.heap.size (fun _ => True) v112 t111) := ⟨h1_⟩
                  have n2_ : Aside0 (∃ c_, (v108 : Value) = .slice (some adz_v108) y107.length c_) := ⟨h2_⟩
                  have n3_ : Aside0 (w17.heap[gb106]? = some (.cells #[.int .u8 a0_0, .bool true, .int .u32 a0_2] 27 (0, 0))) := ⟨h3_⟩
                  have n4_ : Aside0 (Below w.heap.size w w17) := ⟨h4_⟩
                  clear BK106
                  clear HB
                  clear h0_ h1_ h2_ h3_ h4_
                  have HO109 := n0_
                  have HO113 := n1_
                  have HA_HO109 := n2_
                  have BK106 := n3_
                  have HB := n4_
                  clear n0_ n1_ n2_ n3_ n4_
                  have hHeld : w17.cell? ⟨gb106, 0, none⟩ = some (.int .u8 a0_0) ∧ w17.cell? ⟨gb106, 1, none⟩ = some (.bool true) ∧ w17.cell? ⟨gb106, 2, none⟩ = some (.int .u32 a0_2) := hS_
                  obtain ⟨co18, eo18⟩ := HA_HO109.out
                  clear HA_HO109
                  subst eo18
                  obtain ⟨Ao19, co19, eo19⟩ := Kd.R_slice HO113.out
                  (first | subst eo19 | (injection eo19 with f1_ f2_ f3_; have f4_ := f1_.symm; have f5_ := f3_.symm; clear f1_ f2_ f3_; subst f4_; subst f5_))
                  refine norm_ (a' := ?_) ?_ ?_
                  rotate_left
                  · simp only [putAll, Act.put, List.setIfInBounds_toArray, List.set_cons_zero, List.set_cons_succ]
                    rfl
                  refine one_ (i := 11) (N := some 15) #[true, true, true, true, true, true, true, true, true, true, true, true, false, false] rfl rfl (one_of HT_.out (by kernel_rfl)) (by decide) (fun K hK => ?_)
                  refine goes_ Tryd.func34 (by kernel_rfl) rfl #[.slice Ao19 t111.length co19] (by rfl) rfl rfl (by (try simp only [List.map_toArray, List.map_cons, List.map_nil]); first | done | rfl | (simp only [List.length_drop, List.length_take]; rfl)) ?_
                  with_reducible refine (vidimusref01_D_Text.calls k _ _ t111 t114 _ ?side1 ?side2 A7.out).mono ?_
                  (case side1 => repeat (first | exact (Kd.R_reads' HO113.out).2.2 | (with_reducible refine Kd.C_alloc ?_ _) | (with_reducible refine Kd.C_drewN ?_ _) | (with_reducible refine Kd.C_drew ?_)))
                  (case side2 => exact (Kd.R_reads' HO113.out).2.1)
                  rintro e w' ⟨rfl, ⟨nd, rfl⟩⟩
                  refine ⟨_, rfl, ?_⟩
                  refine hK.out _ _ ⟨(blk_cell BK106.out 0).trans rfl, (blk_cell BK106.out 1).trans rfl, (blk_cell BK106.out 2).trans rfl⟩ (fun hHeld => ?_)
                  clear hK K
                  refine norm_ (a' := ?_) ?_ ?_
                  rotate_left
                  · show Act.put _ (some 15) _ = _
                    simp only [Act.put, List.setIfInBounds_toArray, List.set_cons_zero, List.set_cons_succ, i64_w, i32_w]
                    rfl
                  exact norm_ (by first | (simp only [putAll, Act.put, List.setIfInBounds_toArray, List.set_cons_zero, List.set_cons_succ]; done) | (simp only [putAll, Act.put, List.setIfInBounds_toArray, List.set_cons_zero, List.set_cons_succ]; rfl)) (hJ0_5_10_11 (.slice (some adz_v108) y107.length co18, adz_v108, .slice Ao19 t111.length co19) _ ⟨hHeld, (by (with_reducible repeat (first | apply Kd.R_alloc | apply Kd.R_drewN | apply Kd.R_drew)); exact HO109.out), (by (with_reducible repeat (first | apply Kd.R_alloc | apply Kd.R_drewN | apply Kd.R_drew)); exact HO113.out), ⟨_, rfl⟩, (by (with_reducible repeat (first | refine blk_drewN ?_ _ | refine blk_drew ?_ | refine blk_alloc ?_ _)); exact BK106.out), (by repeat (first | (with_reducible first | exact HB.out | apply below_alloc | apply pw_below_drewN | apply below_drew1 | refine below_set ?_ GE106.out) | exact HB.out))⟩)
              rintro ⟨v108, adz_v108, v112⟩ w18 ⟨hS_, h0_, h1_, h2_, h3_, h4_⟩
              have n0_ : Aside0 (Kd.R Kd.string 9 w18 w.heap.size (fun _ => True) v108 y107) := ⟨h0_⟩
              have n1_ : Aside0 (Kd.R (Kd.int .i64) 3 w18 w.heap.size (fun _ => True) v112 t111) := ⟨h1_⟩
              have n2_ : Aside0 (∃ c_, (v108 : Value) = .slice (some adz_v108) y107.length c_) := ⟨h2_⟩
              have n3_ : Aside0 (w18.heap[gb106]? = some (.cells #[.int .u8 a0_0, .bool true, .int .u32 a0_2] 27 (0, 0))) := ⟨h3_⟩
              have n4_ : Aside0 (Below w.heap.size w w18) := ⟨h4_⟩
              clear BK106
              clear HB
              clear h0_ h1_ h2_ h3_ h4_
              have HO109 := n0_
              have HO113 := n1_
              have HA_HO109 := n2_
              have BK106 := n3_
              have HB := n4_
              clear n0_ n1_ n2_ n3_ n4_
              have hHeld : w18.cell? ⟨gb106, 0, none⟩ = some (.int .u8 a0_0) ∧ w18.cell? ⟨gb106, 1, none⟩ = some (.bool true) ∧ w18.cell? ⟨gb106, 2, none⟩ = some (.int .u32 a0_2) := hS_
              obtain ⟨co19, eo19⟩ := HA_HO109.out
              clear HA_HO109
              subst eo19
              refine norm_ (a' := ?_) ?_ ?_
              rotate_left
              · simp only [putAll, Act.put, List.setIfInBounds_toArray, List.set_cons_zero, List.set_cons_succ]
                rfl
              refine pure_ (i := 12) (N := some 16) (v := ?_) (a' := ?_) #[true, true, true, true, true, true, true, true, true, true, true, true, true, false] rfl rfl (any_of HT_.out (by kernel_rfl)) (fun _ _ _ h => h) (Or.inl ⟨by rfl, ?_⟩) ?_ ?_
              rotate_left
              · intro w'
                go_simp
                with_reducible rfl
              rotate_left
              · simp only [Act.put, List.setIfInBounds_toArray, List.set_cons_zero, List.set_cons_succ, i64_w, i32_w]
                rfl
              refine pure_ (i := 13) (N := some 3) (v := ?_) (a' := ?_) #[true, true, true, true, true, true, true, true, true, true, true, true, true, true] rfl rfl (any_of HT_.out (by kernel_rfl)) (fun _ _ _ h => h) (Or.inl ⟨by rfl, ?_⟩) ?_ ?_
              rotate_left
              · intro w'
                go_simp
                with_reducible rfl
              rotate_left
              · simp only [Act.put, List.setIfInBounds_toArray, List.set_cons_zero, List.set_cons_succ, i64_w, i32_w]
                rfl
              refine done_ (done_of HT_.out (by kernel_rfl)) ?_
              have hcz20_0 : w18.cell? ⟨gb106, 0, none⟩ = some (.int .u8 a0_0) := (blk_cell BK106.out 0).trans rfl
              have hcz20_1 : w18.cell? ⟨gb106, 1, none⟩ = some (.bool true) := (blk_cell BK106.out 1).trans rfl
              have hcz20_2 : w18.cell? ⟨gb106, 2, none⟩ = some (.int .u32 a0_2) := (blk_cell BK106.out 2).trans rfl
              have hfz20_0 := blk_frozen BK106.out 0
              have hfz20_1 := blk_frozen BK106.out 1
              have hfz20_2 := blk_frozen BK106.out 2
              try go_wp2
              go_ret
              exact ⟨by first | rfl | (simp [errW_none, errW_some] <;> rfl) | (simp only [← hji2]; first | rfl | (simp [errW_none, errW_some] <;> rfl)) | (simp [*, errW_none, errW_some] <;> rfl), by repeat (first | (with_reducible first | exact HB.out | apply below_alloc | apply pw_below_drewN | apply below_drew1 | refine below_set ?_ GE106.out) | exact HB.out)⟩
            · rw [if_neg c10] at H
              exact absurd H (by simp)
          · replace c9 := Bool.eq_false_iff.mpr c9
            subst c9
            have H1 : (some (((rdOf ByteArray.empty y107 (ji2)) ++ (⟨#[32]⟩ : ByteArray)) ++ t114)) = some r := by rw [if_neg (show ¬ (false = true) by decide)] at H; exact H
            clear H
            have H := H1
            clear H1
            obtain rfl := Option.some.inj H
            go_enter Tryd.func18, Tryd.ntmps18
            try go_wp2_with (first | ((with_reducible refine gate_dst (N := 1) rfl ?_); refine box_event ?hg (N := 1) ?hd (cs := #[.int .u8 a0_0, .bool false, .int .u32 a0_2]) (t := 27) ?hr ?_; (case hd => rfl); (case hg => rfl); (case hr => first | (go_simp; done) | (go_simp; rfl)); intro gb106 hg w21 hbox hb; have n0_ := Aside0.mk (below_step (by repeat (first | (with_reducible first | exact HB.out | apply below_alloc | apply pw_below_drewN | apply below_drew1) | exact HB.out)) hb); have n1_ := Aside0.mk (hbox); have n2_ := Aside0.mk ((by rw [hg]; exact (below_size (by repeat (first | (with_reducible first | exact HB.out | apply below_alloc | apply pw_below_drewN | apply below_drew1) | exact HB.out))) : w.heap.size ≤ gb106)); have n3_ := Aside0.mk ((by rw [hg]; exact (below_size (by repeat (first | (with_reducible first | exact HB.out | apply below_alloc | apply pw_below_drewN | apply below_drew1) | exact HB.out))) : w.heap.size ≤ gb106)); clear HB; have HB := n0_; have BK106 := n1_; have GW106 := n2_; have GE106 := n3_; clear n0_ n1_ n2_ n3_; clear hb hbox hg))
            have pi110 : (0 ≤ ((ji2) : Int)) = True := eq_true (of_decide_eq_true (by first | (with_reducible assumption) | assumption))
            have qi110 : ((ji2) < (y107.length : Int)) = True := eq_true (of_decide_eq_true (by first | (with_reducible assumption) | assumption))
            have n0_ := Aside0.mk (blk_drew BK106.out)
            have n1_ := Aside0.mk (below_drew1 HB.out)
            clear BK106
            clear HB
            have BK106 := n0_
            have HB := n1_
            clear n0_ n1_
            refine start_ (n := 14) (S := fun w' => w'.cell? ⟨gb106, 0, none⟩ = some (.int .u8 a0_0) ∧ w'.cell? ⟨gb106, 1, none⟩ = some (.bool false) ∧ w'.cell? ⟨gb106, 2, none⟩ = some (.int .u32 a0_2)) (ds := []) #[false, false, false, false, false, false, false, false, false, false, false, false, false, false] (by kernel_rfl) rfl rfl ⟨(blk_cell BK106.out 0).trans rfl, (blk_cell BK106.out 1).trans rfl, (blk_cell BK106.out 2).trans rfl⟩ (fun hHeld => ?_); refine with_tabW vidimusref02_Text.tab1 vidimusref02_Text.bits1 (fun HT_ HW_ => ?_)
            generalize w21.drew = w22 at BK106 HB hHeld ⊢
            refine pure_ (i := 1) (N := some 5) (v := ?_) (a' := ?_) #[false, true, false, false, false, false, false, false, false, false, false, false, false, false] rfl rfl (any_of HT_.out (by kernel_rfl)) (fun _ _ _ h => h) (Or.inl ⟨by rfl, ?_⟩) ?_ ?_
            rotate_left
            · intro w'
              go_simp
              with_reducible rfl
            rotate_left
            · simp only [Act.put, List.setIfInBounds_toArray, List.set_cons_zero, List.set_cons_succ, i64_w, i32_w]
              rfl
            refine pure_ (i := 7) (N := some 11) (v := ?_) (a' := ?_) #[false, true, false, false, false, false, false, true, false, false, false, false, false, false] rfl rfl (any_of HT_.out (by kernel_rfl)) (fun _ _ _ h => h) (Or.inl ⟨by rfl, ?_⟩) ?_ ?_
            rotate_left
            · intro w'
              go_simp
              with_reducible rfl
            rotate_left
            · simp only [Act.put, List.setIfInBounds_toArray, List.set_cons_zero, List.set_cons_succ, i64_w, i32_w]
              rfl
            refine take_ (i := 2) (N := some 6) (v := ?_) (a' := ?_) #[false, true, true, false, false, false, false, true, false, false, false, false, false, false] rfl rfl (take_ofW HT_.out HW_.out (by kernel_rfl)) (fun _ _ _ h => h) (Or.inl ⟨by rfl, ?_⟩) hHeld ?_ ?_
            rotate_left
            · rintro w' ⟨s0, s1, s2⟩
              go_simp
              with_reducible rfl
            rotate_left
            · simp only [Act.put, List.setIfInBounds_toArray, List.set_cons_zero, List.set_cons_succ, i64_w, i32_w]
              rfl
            refine pure_ (i := 3) (N := some 7) (v := ?_) (a' := ?_) #[false, true, true, true, false, false, false, true, false, false, false, false, false, false] rfl rfl (any_of HT_.out (by kernel_rfl)) (fun _ _ _ h => h) (Or.inl ⟨by rfl, ?_⟩) ?_ ?_
            rotate_left
            · intro w'
              go_simp
              with_reducible rfl
            rotate_left
            · simp only [Act.put, List.setIfInBounds_toArray, List.set_cons_zero, List.set_cons_succ, i64_w, i32_w]
              rfl
            refine take_ (i := 8) (N := some 12) (v := ?_) (a' := ?_) #[false, true, true, true, false, false, false, true, true, false, false, false, false, false] rfl rfl (take_ofW HT_.out HW_.out (by kernel_rfl)) (fun _ _ _ h => h) (Or.inl ⟨by rfl, ?_⟩) hHeld ?_ ?_
            rotate_left
            · rintro w' ⟨s0, s1, s2⟩
              go_simp
              with_reducible rfl
            rotate_left
            · simp only [Act.put, List.setIfInBounds_toArray, List.set_cons_zero, List.set_cons_succ, i64_w, i32_w]
              rfl
            refine pure_ (i := 9) (N := some 13) (v := ?_) (a' := ?_) #[false, true, true, true, false, false, false, true, true, true, false, false, false, false] rfl rfl (any_of HT_.out (by kernel_rfl)) (fun _ _ _ h => h) (Or.inl ⟨by rfl, ?_⟩) ?_ ?_
            rotate_left
            · intro w'
              go_simp
              with_reducible rfl
            rotate_left
            · simp only [Act.put, List.setIfInBounds_toArray, List.set_cons_zero, List.set_cons_succ, i64_w, i32_w]
              rfl
            refine join_ (σ := Value × Addr × Value) 2 #[true, true, true, true, true, true, true, true, true, true, true, true, false, false] (fun s_ => [(4, s_.1), (9, .string (rdOf ByteArray.empty y107 (ji2))), (14, s_.2.2), (15, .string t114), (8, .pointer (some (s_.2.1.add ((ji2)).toNat))), (10, .string ((rdOf ByteArray.empty y107 (ji2)) ++ (⟨#[32]⟩ : ByteArray)))]) (fun s_ w' => (w'.cell? ⟨gb106, 0, none⟩ = some (.int .u8 a0_0) ∧ w'.cell? ⟨gb106, 1, none⟩ = some (.bool false) ∧ w'.cell? ⟨gb106, 2, none⟩ = some (.int .u32 a0_2)) ∧ (Kd.R Kd.string 9 w' w.heap.size (fun _ => True) s_.1 y107) ∧ (Kd.R (Kd.int .i64) 3 w' w.heap.size (fun _ => True) s_.2.2 t111) ∧ (∃ c_, (s_.1 : Value) = .slice (some s_.2.1) y107.length c_) ∧ (w'.heap[gb106]? = some (.cells #[.int .u8 a0_0, .bool false, .int .u32 a0_2] 27 (0, 0))) ∧ (Below w.heap.size w w')) ?_ ?_
            rotate_left
            · intro hJ0_5_10_11
              refine join_ (σ := Value × Addr × Value) 3 #[true, true, true, true, true, true, true, true, true, true, true, false, false, false] (fun s_ => [(4, s_.1), (9, .string (rdOf ByteArray.empty y107 (ji2))), (14, s_.2.2), (8, .pointer (some (s_.2.1.add ((ji2)).toNat))), (10, .string ((rdOf ByteArray.empty y107 (ji2)) ++ (⟨#[32]⟩ : ByteArray)))]) (fun s_ w' => (w'.cell? ⟨gb106, 0, none⟩ = some (.int .u8 a0_0) ∧ w'.cell? ⟨gb106, 1, none⟩ = some (.bool false) ∧ w'.cell? ⟨gb106, 2, none⟩ = some (.int .u32 a0_2)) ∧ (Kd.R Kd.string 9 w' w.heap.size (fun _ => True) s_.1 y107) ∧ (Kd.R (Kd.int .i64) 3 w' w.heap.size (fun _ => True) s_.2.2 t111) ∧ (∃ c_, (s_.1 : Value) = .slice (some s_.2.1) y107.length c_) ∧ (w'.heap[gb106]? = some (.cells #[.int .u8 a0_0, .bool false, .int .u32 a0_2] 27 (0, 0))) ∧ (Below w.heap.size w w')) ?_ ?_
              rotate_left
              · intro hJ0_5_10
                refine join_ (σ := Value × Addr × Value) 4 #[true, true, true, true, true, false, false, true, true, true, true, true, false, false] (fun s_ => [(4, s_.1), (14, s_.2.2), (15, .string t114), (8, .pointer (some (s_.2.1.add ((ji2)).toNat)))]) (fun s_ w' => (w'.cell? ⟨gb106, 0, none⟩ = some (.int .u8 a0_0) ∧ w'.cell? ⟨gb106, 1, none⟩ = some (.bool false) ∧ w'.cell? ⟨gb106, 2, none⟩ = some (.int .u32 a0_2)) ∧ (Kd.R Kd.string 9 w' w.heap.size (fun _ => True) s_.1 y107) ∧ (Kd.R (Kd.int .i64) 3 w' w.heap.size (fun _ => True) s_.2.2 t111) ∧ (∃ c_, (s_.1 : Value) = .slice (some s_.2.1) y107.length c_) ∧ (w'.heap[gb106]? = some (.cells #[.int .u8 a0_0, .bool false, .int .u32 a0_2] 27 (0, 0))) ∧ (Below w.heap.size w w')) ?_ ?_
                rotate_left
                · intro hJ0_10_11
                  refine join_ (σ := Value × Addr) 4 #[true, true, true, true, true, true, true, true, true, true, false, false, false, false] (fun s_ => [(4, s_.1), (9, .string (rdOf ByteArray.empty y107 (ji2))), (8, .pointer (some (s_.2.add ((ji2)).toNat))), (10, .string ((rdOf ByteArray.empty y107 (ji2)) ++ (⟨#[32]⟩ : ByteArray)))]) (fun s_ w' => (w'.cell? ⟨gb106, 0, none⟩ = some (.int .u8 a0_0) ∧ w'.cell? ⟨gb106, 1, none⟩ = some (.bool false) ∧ w'.cell? ⟨gb106, 2, none⟩ = some (.int .u32 a0_2)) ∧ (Kd.R Kd.string 9 w' w.heap.size (fun _ => True) s_.1 y107) ∧ (∃ c_, (s_.1 : Value) = .slice (some s_.2) y107.length c_) ∧ (w'.heap[gb106]? = some (.cells #[.int .u8 a0_0, .bool false, .int .u32 a0_2] 27 (0, 0))) ∧ (Below w.heap.size w w')) ?_ ?_
                  rotate_left
                  · intro hJ0_5
                    refine join_ (σ := Value × Addr × Value) 5 #[true, true, true, true, true, false, false, true, true, true, true, false, false, false] (fun s_ => [(4, s_.1), (14, s_.2.2), (8, .pointer (some (s_.2.1.add ((ji2)).toNat)))]) (fun s_ w' => (w'.cell? ⟨gb106, 0, none⟩ = some (.int .u8 a0_0) ∧ w'.cell? ⟨gb106, 1, none⟩ = some (.bool false) ∧ w'.cell? ⟨gb106, 2, none⟩ = some (.int .u32 a0_2)) ∧ (Kd.R Kd.string 9 w' w.heap.size (fun _ => True) s_.1 y107) ∧ (Kd.R (Kd.int .i64) 3 w' w.heap.size (fun _ => True) s_.2.2 t111) ∧ (∃ c_, (s_.1 : Value) = .slice (some s_.2.1) y107.length c_) ∧ (w'.heap[gb106]? = some (.cells #[.int .u8 a0_0, .bool false, .int .u32 a0_2] 27 (0, 0))) ∧ (Below w.heap.size w w')) ?_ ?_
                    rotate_left
                    · intro hJ0_10
                      refine join_ (σ := Value) 6 #[false, true, true, true, false, false, false, true, true, true, true, true, false, false] (fun s_ => [(14, s_), (15, .string t114)]) (fun s_ w' => (w'.cell? ⟨gb106, 0, none⟩ = some (.int .u8 a0_0) ∧ w'.cell? ⟨gb106, 1, none⟩ = some (.bool false) ∧ w'.cell? ⟨gb106, 2, none⟩ = some (.int .u32 a0_2)) ∧ (Kd.R (Kd.int .i64) 3 w' w.heap.size (fun _ => True) s_ t111) ∧ (w'.heap[gb106]? = some (.cells #[.int .u8 a0_0, .bool false, .int .u32 a0_2] 27 (0, 0))) ∧ (Below w.heap.size w w')) ?_ ?_
                      rotate_left
                      · intro hJ10_11
                        refine join_ (σ := Value × Addr) 6 #[true, true, true, true, true, false, false, true, true, true, false, false, false, false] (fun s_ => [(4, s_.1), (8, .pointer (some (s_.2.add ((ji2)).toNat)))]) (fun s_ w' => (w'.cell? ⟨gb106, 0, none⟩ = some (.int .u8 a0_0) ∧ w'.cell? ⟨gb106, 1, none⟩ = some (.bool false) ∧ w'.cell? ⟨gb106, 2, none⟩ = some (.int .u32 a0_2)) ∧ (Kd.R Kd.string 9 w' w.heap.size (fun _ => True) s_.1 y107) ∧ (∃ c_, (s_.1 : Value) = .slice (some s_.2) y107.length c_) ∧ (w'.heap[gb106]? = some (.cells #[.int .u8 a0_0, .bool false, .int .u32 a0_2] 27 (0, 0))) ∧ (Below w.heap.size w w')) ?_ ?_
                        rotate_left
                        · intro hJ0
                          refine join_ (σ := Value) 7 #[false, true, true, true, false, false, false, true, true, true, true, false, false, false] (fun s_ => [(14, s_)]) (fun s_ w' => (w'.cell? ⟨gb106, 0, none⟩ = some (.int .u8 a0_0) ∧ w'.cell? ⟨gb106, 1, none⟩ = some (.bool false) ∧ w'.cell? ⟨gb106, 2, none⟩ = some (.int .u32 a0_2)) ∧ (Kd.R (Kd.int .i64) 3 w' w.heap.size (fun _ => True) s_ t111) ∧ (w'.heap[gb106]? = some (.cells #[.int .u8 a0_0, .bool false, .int .u32 a0_2] 27 (0, 0))) ∧ (Below w.heap.size w w')) ?_ ?_
                          rotate_left
                          · intro hJ10
                            refine two_ (i := 0) (j := 10) (Ni := some 4) (Nj := some 14) #[true, true, true, true, false, false, false, true, true, true, false, false, false, false] #[false, true, true, true, false, false, false, true, true, true, true, false, false, false] rfl rfl rfl rfl (two_of HT_.out (by kernel_rfl)) (by decide) (by decide) (fun K hK => ?_) (fun K hK => ?_)
                            · skip
                              refine Kd.R_lit_step Kd.string _ 9 ?hg (N := 4) ?hd (xs := ([(⟨#[117, 110, 105, 118, 101, 114, 115, 97, 108]⟩ : ByteArray), (⟨#[97, 112, 112, 108, 105, 99, 97, 116, 105, 111, 110]⟩ : ByteArray), (⟨#[99, 111, 110, 116, 101, 120, 116]⟩ : ByteArray), (⟨#[112, 114, 105, 118, 97, 116, 101]⟩ : ByteArray)] : List ByteArray)) (inner := [.string (⟨#[117, 110, 105, 118, 101, 114, 115, 97, 108]⟩ : ByteArray), .string (⟨#[97, 112, 112, 108, 105, 99, 97, 116, 105, 111, 110]⟩ : ByteArray), .string (⟨#[99, 111, 110, 116, 101, 120, 116]⟩ : ByteArray), .string (⟨#[112, 114, 105, 118, 97, 116, 101]⟩ : ByteArray)]) (ok := fun _ => True) (okp := fun _ => True) ?hr ?hp (fun _ hk => hk) trivial (Below.refl _ _) (Nat.le_refl _) (by simp) ?_; (case hd => rfl); (case hg => rfl); (case hr => first | (go_simp; done) | (go_simp; rfl)); (case hp => exact (Reps.one (show Kd.M Kd.string _ _ _ (⟨#[117, 110, 105, 118, 101, 114, 115, 97, 108]⟩ : ByteArray) [.string (⟨#[117, 110, 105, 118, 101, 114, 115, 97, 108]⟩ : ByteArray)] from rfl) (Reps.one (show Kd.M Kd.string _ _ _ (⟨#[97, 112, 112, 108, 105, 99, 97, 116, 105, 111, 110]⟩ : ByteArray) [.string (⟨#[97, 112, 112, 108, 105, 99, 97, 116, 105, 111, 110]⟩ : ByteArray)] from rfl) (Reps.one (show Kd.M Kd.string _ _ _ (⟨#[99, 111, 110, 116, 101, 120, 116]⟩ : ByteArray) [.string (⟨#[99, 111, 110, 116, 101, 120, 116]⟩ : ByteArray)] from rfl) (Reps.one (show Kd.M Kd.string _ _ _ (⟨#[112, 114, 105, 118, 97, 116, 101]⟩ : ByteArray) [.string (⟨#[112, 114, 105, 118, 97, 116, 101]⟩ : ByteArray)] from rfl) (Reps.none _ _))))))
                              intro v108 w23 ho24 hb hg_ hnew_
                              clear hg_ hnew_
                              (first | rw [← Ny107.out] at ho24 | (simp only [Int.reduceToNat] at ho24; rw [← Ny107.out] at ho24))
                              have n0_ := Aside0.mk (Kd.R_lower ho24 (below_size (by repeat (first | (with_reducible first | exact HB.out | apply below_alloc | apply pw_below_drewN | apply below_drew1 | refine below_set ?_ GE106.out) | exact HB.out))))
                              have n1_ := Aside0.mk (blk_below (g := gb106) (o := .cells #[.int .u8 a0_0, .bool false, .int .u32 a0_2] 27 (0, 0)) (by (with_reducible repeat (first | refine blk_drewN ?_ _ | refine blk_drew ?_ | refine blk_alloc ?_ _)); exact BK106.out) hb)
                              have n2_ := Aside0.mk (below_step (by repeat (first | (with_reducible first | exact HB.out | apply below_alloc | apply pw_below_drewN | apply below_drew1 | refine below_set ?_ GE106.out) | exact HB.out)) hb)
                              clear BK106
                              clear HB
                              have HO109 := n0_
                              have BK106 := n1_
                              have HB := n2_
                              clear n0_ n1_ n2_
                              clear hb ho24
                              obtain ⟨Ao25, co25, eo25⟩ := Kd.R_slice HO109.out
                              subst eo25
                              obtain ⟨ado25, fo25, _⟩ := Kd.at_string (Kd.R_reads' HO109.out).2.2 0 (by decide) (by rw [Ny107.out]; simp)
                              cases fo25
                              refine hK.out _ _ ⟨(blk_cell BK106.out 0).trans rfl, (blk_cell BK106.out 1).trans rfl, (blk_cell BK106.out 2).trans rfl⟩ (fun hHeld => ?_)
                              clear hK K
                              refine norm_ (a' := ?_) ?_ ?_
                              rotate_left
                              · show Act.put _ (some 4) _ = _
                                simp only [Act.put, List.setIfInBounds_toArray, List.set_cons_zero, List.set_cons_succ, i64_w, i32_w]
                                rfl
                              refine pure_ (i := 4) (N := some 8) (v := ?_) (a' := ?_) #[true, true, true, true, true, false, false, true, true, true, false, false, false, false] rfl rfl (any_of HT_.out (by kernel_rfl)) (fun _ _ _ h => h) (Or.inl ⟨by rfl, ?_⟩) ?_ ?_
                              rotate_left
                              · intro w'
                                go_simp
                                with_reducible rfl
                              rotate_left
                              · simp only [Act.put, List.setIfInBounds_toArray, List.set_cons_zero, List.set_cons_succ, i64_w, i32_w]
                                rfl
                              exact norm_ (by first | (simp only [putAll, Act.put, List.setIfInBounds_toArray, List.set_cons_zero, List.set_cons_succ]; done) | (simp only [putAll, Act.put, List.setIfInBounds_toArray, List.set_cons_zero, List.set_cons_succ]; rfl)) (hJ0 (.slice (some ado25) y107.length co25, ado25) _ ⟨hHeld, (by (with_reducible repeat (first | apply Kd.R_alloc | apply Kd.R_drewN | apply Kd.R_drew)); exact HO109.out), ⟨_, rfl⟩, (by (with_reducible repeat (first | refine blk_drewN ?_ _ | refine blk_drew ?_ | refine blk_alloc ?_ _)); exact BK106.out), (by repeat (first | (with_reducible first | exact HB.out | apply below_alloc | apply pw_below_drewN | apply below_drew1 | refine below_set ?_ GE106.out) | exact HB.out))⟩)
                            · skip
                              refine goes_ Tryd.func33 (by kernel_rfl) rfl #[.int .i64 (wrap64 (a0_2))] (by rfl) rfl rfl (by (try simp only [List.map_toArray, List.map_cons, List.map_nil]); first | done | rfl | (simp only [List.length_drop, List.length_take]; rfl)) ?_
                              with_reducible refine (vidimusref01_Small.calls k (wrap64 (a0_2)) t111 _ A6.out).mono ?_
                              rintro e w23 ⟨v112, rfl, ho0, hb⟩
                              refine ⟨_, rfl, ?_⟩
                              have n0_ := Aside0.mk (Kd.R_lower ho0 (below_size (by repeat (first | (with_reducible first | exact HB.out | apply below_alloc | apply pw_below_drewN | apply below_drew1 | refine below_set ?_ GE106.out) | exact HB.out))))
                              have n1_ := Aside0.mk (blk_below (g := gb106) (o := .cells #[.int .u8 a0_0, .bool false, .int .u32 a0_2] 27 (0, 0)) (by (with_reducible repeat (first | refine blk_drewN ?_ _ | refine blk_drew ?_ | refine blk_alloc ?_ _)); exact BK106.out) hb)
                              have n2_ := Aside0.mk (below_step (by repeat (first | (with_reducible first | exact HB.out | apply below_alloc | apply pw_below_drewN | apply below_drew1 | refine below_set ?_ GE106.out) | exact HB.out)) hb)
                              clear BK106
                              clear HB
                              have HO113 := n0_
                              have BK106 := n1_
                              have HB := n2_
                              clear n0_ n1_ n2_
                              (try clear hb)
                              (try clear hb2)
                              (try clear hk)
                              (try clear hi)
                              (try clear ho0)
                              refine hK.out _ _ ⟨(blk_cell BK106.out 0).trans rfl, (blk_cell BK106.out 1).trans rfl, (blk_cell BK106.out 2).trans rfl⟩ (fun hHeld => ?_)
                              clear hK K
                              refine norm_ (a' := ?_) ?_ ?_
                              rotate_left
                              · show Act.put _ (some 14) _ = _
                                simp only [Act.put, List.setIfInBounds_toArray, List.set_cons_zero, List.set_cons_succ, i64_w, i32_w]
                                rfl
                              exact norm_ (by first | (simp only [putAll, Act.put, List.setIfInBounds_toArray, List.set_cons_zero, List.set_cons_succ]; done) | (simp only [putAll, Act.put, List.setIfInBounds_toArray, List.set_cons_zero, List.set_cons_succ]; rfl)) (hJ10 (v112) _ ⟨hHeld, (by (with_reducible repeat (first | apply Kd.R_alloc | apply Kd.R_drewN | apply Kd.R_drew)); exact HO113.out), (by (with_reducible repeat (first | refine blk_drewN ?_ _ | refine blk_drew ?_ | refine blk_alloc ?_ _)); exact BK106.out), (by repeat (first | (with_reducible first | exact HB.out | apply below_alloc | apply pw_below_drewN | apply below_drew1 | refine below_set ?_ GE106.out) | exact HB.out))⟩)
                          · skip
                            rintro v112 w24 ⟨hS_, h0_, h1_, h2_⟩
                            have n0_ : Aside0 (Kd.R (Kd.int .i64) 3 w24 w.heap.size (fun _ => True) v112 t111) := ⟨h0_⟩
                            have n1_ : Aside0 (w24.heap[gb106]? = some (.cells #[.int .u8 a0_0, .bool false, .int .u32 a0_2] 27 (0, 0))) := ⟨h1_⟩
                            have n2_ : Aside0 (Below w.heap.size w w24) := ⟨h2_⟩
                            clear BK106
                            clear HB
                            clear h0_ h1_ h2_
                            have HO113 := n0_
                            have BK106 := n1_
                            have HB := n2_
                            clear n0_ n1_ n2_
                            have hHeld : w24.cell? ⟨gb106, 0, none⟩ = some (.int .u8 a0_0) ∧ w24.cell? ⟨gb106, 1, none⟩ = some (.bool false) ∧ w24.cell? ⟨gb106, 2, none⟩ = some (.int .u32 a0_2) := hS_
                            refine norm_ (a' := ?_) ?_ ?_
                            rotate_left
                            · simp only [putAll, Act.put, List.setIfInBounds_toArray, List.set_cons_zero, List.set_cons_succ]
                              rfl
                            refine two_ (i := 0) (j := 11) (Ni := some 4) (Nj := some 15) #[true, true, true, true, false, false, false, true, true, true, true, false, false, false] #[false, true, true, true, false, false, false, true, true, true, true, true, false, false] rfl rfl rfl rfl (two_of HT_.out (by kernel_rfl)) (by decide) (by decide) (fun K hK => ?_) (fun K hK => ?_)
                            · skip
                              refine Kd.R_lit_step Kd.string _ 9 ?hg (N := 4) ?hd (xs := ([(⟨#[117, 110, 105, 118, 101, 114, 115, 97, 108]⟩ : ByteArray), (⟨#[97, 112, 112, 108, 105, 99, 97, 116, 105, 111, 110]⟩ : ByteArray), (⟨#[99, 111, 110, 116, 101, 120, 116]⟩ : ByteArray), (⟨#[112, 114, 105, 118, 97, 116, 101]⟩ : ByteArray)] : List ByteArray)) (inner := [.string (⟨#[117, 110, 105, 118, 101, 114, 115, 97, 108]⟩ : ByteArray), .string (⟨#[97, 112, 112, 108, 105, 99, 97, 116, 105, 111, 110]⟩ : ByteArray), .string (⟨#[99, 111, 110, 116, 101, 120, 116]⟩ : ByteArray), .string (⟨#[112, 114, 105, 118, 97, 116, 101]⟩ : ByteArray)]) (ok := fun _ => True) (okp := fun _ => True) ?hr ?hp (fun _ hk => hk) trivial (Below.refl _ _) (Nat.le_refl _) (by simp) ?_; (case hd => rfl); (case hg => rfl); (case hr => first | (go_simp; done) | (go_simp; rfl)); (case hp => exact (Reps.one (show Kd.M Kd.string _ _ _ (⟨#[117, 110, 105, 118, 101, 114, 115, 97, 108]⟩ : ByteArray) [.string (⟨#[117, 110, 105, 118, 101, 114, 115, 97, 108]⟩ : ByteArray)] from rfl) (Reps.one (show Kd.M Kd.string _ _ _ (⟨#[97, 112, 112, 108, 105, 99, 97, 116, 105, 111, 110]⟩ : ByteArray) [.string (⟨#[97, 112, 112, 108, 105, 99, 97, 116, 105, 111, 110]⟩ : ByteArray)] from rfl) (Reps.one (show Kd.M Kd.string _ _ _ (⟨#[99, 111, 110, 116, 101, 120, 116]⟩ : ByteArray) [.string (⟨#[99, 111, 110, 116, 101, 120, 116]⟩ : ByteArray)] from rfl) (Reps.one (show Kd.M Kd.string _ _ _ (⟨#[112, 114, 105, 118, 97, 116, 101]⟩ : ByteArray) [.string (⟨#[112, 114, 105, 118, 97, 116, 101]⟩ : ByteArray)] from rfl) (Reps.none _ _))))))
                              intro v108 w25 ho26 hb hg_ hnew_
                              clear hg_ hnew_
                              (first | rw [← Ny107.out] at ho26 | (simp only [Int.reduceToNat] at ho26; rw [← Ny107.out] at ho26))
                              have n0_ := Aside0.mk (Kd.R_below (by (with_reducible repeat (first | apply Kd.R_alloc | apply Kd.R_drewN | apply Kd.R_drew)); exact HO113.out) hb)
                              have n1_ := Aside0.mk (Kd.R_lower ho26 (below_size (by repeat (first | (with_reducible first | exact HB.out | apply below_alloc | apply pw_below_drewN | apply below_drew1 | refine below_set ?_ GE106.out) | exact HB.out))))
                              have n2_ := Aside0.mk (blk_below (g := gb106) (o := .cells #[.int .u8 a0_0, .bool false, .int .u32 a0_2] 27 (0, 0)) (by (with_reducible repeat (first | refine blk_drewN ?_ _ | refine blk_drew ?_ | refine blk_alloc ?_ _)); exact BK106.out) hb)
                              have n3_ := Aside0.mk (below_step (by repeat (first | (with_reducible first | exact HB.out | apply below_alloc | apply pw_below_drewN | apply below_drew1 | refine below_set ?_ GE106.out) | exact HB.out)) hb)
                              clear HO113
                              clear BK106
                              clear HB
                              have HO113 := n0_
                              have HO109 := n1_
                              have BK106 := n2_
                              have HB := n3_
                              clear n0_ n1_ n2_ n3_
                              clear hb ho26
                              obtain ⟨Ao27, co27, eo27⟩ := Kd.R_slice HO109.out
                              subst eo27
                              obtain ⟨ado27, fo27, _⟩ := Kd.at_string (Kd.R_reads' HO109.out).2.2 0 (by decide) (by rw [Ny107.out]; simp)
                              cases fo27
                              refine hK.out _ _ ⟨(blk_cell BK106.out 0).trans rfl, (blk_cell BK106.out 1).trans rfl, (blk_cell BK106.out 2).trans rfl⟩ (fun hHeld => ?_)
                              clear hK K
                              refine norm_ (a' := ?_) ?_ ?_
                              rotate_left
                              · show Act.put _ (some 4) _ = _
                                simp only [Act.put, List.setIfInBounds_toArray, List.set_cons_zero, List.set_cons_succ, i64_w, i32_w]
                                rfl
                              refine pure_ (i := 4) (N := some 8) (v := ?_) (a' := ?_) #[true, true, true, true, true, false, false, true, true, true, true, false, false, false] rfl rfl (any_of HT_.out (by kernel_rfl)) (fun _ _ _ h => h) (Or.inl ⟨by rfl, ?_⟩) ?_ ?_
                              rotate_left
                              · intro w'
                                go_simp
                                with_reducible rfl
                              rotate_left
                              · simp only [Act.put, List.setIfInBounds_toArray, List.set_cons_zero, List.set_cons_succ, i64_w, i32_w]
                                rfl
                              exact norm_ (by first | (simp only [putAll, Act.put, List.setIfInBounds_toArray, List.set_cons_zero, List.set_cons_succ]; done) | (simp only [putAll, Act.put, List.setIfInBounds_toArray, List.set_cons_zero, List.set_cons_succ]; rfl)) (hJ0_10 (.slice (some ado27) y107.length co27, ado27, v112) _ ⟨hHeld, (by (with_reducible repeat (first | apply Kd.R_alloc | apply Kd.R_drewN | apply Kd.R_drew)); exact HO109.out), (by (with_reducible repeat (first | apply Kd.R_alloc | apply Kd.R_drewN | apply Kd.R_drew)); exact HO113.out), ⟨_, rfl⟩, (by (with_reducible repeat (first | refine blk_drewN ?_ _ | refine blk_drew ?_ | refine blk_alloc ?_ _)); exact BK106.out), (by repeat (first | (with_reducible first | exact HB.out | apply below_alloc | apply pw_below_drewN | apply below_drew1 | refine below_set ?_ GE106.out) | exact HB.out))⟩)
                            · skip
                              obtain ⟨Ao25, co25, eo25⟩ := Kd.R_slice HO113.out
                              (first | subst eo25 | (injection eo25 with f1_ f2_ f3_; have f4_ := f1_.symm; have f5_ := f3_.symm; clear f1_ f2_ f3_; subst f4_; subst f5_))
                              refine goes_ Tryd.func34 (by kernel_rfl) rfl #[.slice Ao25 t111.length co25] (by rfl) rfl rfl (by (try simp only [List.map_toArray, List.map_cons, List.map_nil]); first | done | rfl | (simp only [List.length_drop, List.length_take]; rfl)) ?_
                              with_reducible refine (vidimusref01_D_Text.calls k _ _ t111 t114 _ ?side1 ?side2 A7.out).mono ?_
                              (case side1 => repeat (first | exact (Kd.R_reads' HO113.out).2.2 | (with_reducible refine Kd.C_alloc ?_ _) | (with_reducible refine Kd.C_drewN ?_ _) | (with_reducible refine Kd.C_drew ?_)))
                              (case side2 => exact (Kd.R_reads' HO113.out).2.1)
                              rintro e w' ⟨rfl, ⟨nd, rfl⟩⟩
                              refine ⟨_, rfl, ?_⟩
                              refine hK.out _ _ ⟨(blk_cell BK106.out 0).trans rfl, (blk_cell BK106.out 1).trans rfl, (blk_cell BK106.out 2).trans rfl⟩ (fun hHeld => ?_)
                              clear hK K
                              refine norm_ (a' := ?_) ?_ ?_
                              rotate_left
                              · show Act.put _ (some 15) _ = _
                                simp only [Act.put, List.setIfInBounds_toArray, List.set_cons_zero, List.set_cons_succ, i64_w, i32_w]
                                rfl
                              exact norm_ (by first | (simp only [putAll, Act.put, List.setIfInBounds_toArray, List.set_cons_zero, List.set_cons_succ]; done) | (simp only [putAll, Act.put, List.setIfInBounds_toArray, List.set_cons_zero, List.set_cons_succ]; rfl)) (hJ10_11 (.slice Ao25 t111.length co25) _ ⟨hHeld, (by (with_reducible repeat (first | apply Kd.R_alloc | apply Kd.R_drewN | apply Kd.R_drew)); exact HO113.out), (by (with_reducible repeat (first | refine blk_drewN ?_ _ | refine blk_drew ?_ | refine blk_alloc ?_ _)); exact BK106.out), (by repeat (first | (with_reducible first | exact HB.out | apply below_alloc | apply pw_below_drewN | apply below_drew1 | refine below_set ?_ GE106.out) | exact HB.out))⟩)
                        · skip
                          rintro ⟨v108, adz_v108⟩ w26 ⟨hS_, h0_, h1_, h2_, h3_⟩
                          have n0_ : Aside0 (Kd.R Kd.string 9 w26 w.heap.size (fun _ => True) v108 y107) := ⟨h0_⟩
                          have n1_ : Aside0 (∃ c_, (v108 : Value) = .slice (some adz_v108) y107.length c_) := ⟨h1_⟩
                          have n2_ : Aside0 (w26.heap[gb106]? = some (.cells #[.int .u8 a0_0, .bool false, .int .u32 a0_2] 27 (0, 0))) := ⟨h2_⟩
                          have n3_ : Aside0 (Below w.heap.size w w26) := ⟨h3_⟩
                          clear BK106
                          clear HB
                          clear h0_ h1_ h2_ h3_
                          have HO109 := n0_
                          have HA_HO109 := n1_
                          have BK106 := n2_
                          have HB := n3_
                          clear n0_ n1_ n2_ n3_
                          have hHeld : w26.cell? ⟨gb106, 0, none⟩ = some (.int .u8 a0_0) ∧ w26.cell? ⟨gb106, 1, none⟩ = some (.bool false) ∧ w26.cell? ⟨gb106, 2, none⟩ = some (.int .u32 a0_2) := hS_
                          obtain ⟨co27, eo27⟩ := HA_HO109.out
                          clear HA_HO109
                          subst eo27
                          refine norm_ (a' := ?_) ?_ ?_
                          rotate_left
                          · simp only [putAll, Act.put, List.setIfInBounds_toArray, List.set_cons_zero, List.set_cons_succ]
                            rfl
                          refine two_ (i := 5) (j := 10) (Ni := some 9) (Nj := some 14) #[true, true, true, true, true, true, false, true, true, true, false, false, false, false] #[true, true, true, true, true, false, false, true, true, true, true, false, false, false] rfl rfl rfl rfl (two_of HT_.out (by kernel_rfl)) (by decide) (by decide) (fun K hK => ?_) (fun K hK => ?_)
                          · skip
                            (have p110 : 0 ≤ ((ji2) : Int) := of_decide_eq_true (by first | (with_reducible assumption) | assumption); have q110 : (ji2) < (y107.length : Int) := of_decide_eq_true (by first | (with_reducible assumption) | assumption); obtain ⟨ad110, e110, hx110_0⟩ := Kd.at_string (Kd.R_reads' HO109.out).2.2 (ji2) p110 q110; obtain rfl : adz_v108 = ad110 := (by injection e110))
                            refine value_ (w1 := ?_) (v := ?_) (by rfl) rfl ?_ ?_
                            rotate_left 2
                            · go_simp
                              constructor
                              · rfl
                              · rfl
                            clear hx110_0
                            refine hK.out _ _ ⟨(blk_cell BK106.out 0).trans rfl, (blk_cell BK106.out 1).trans rfl, (blk_cell BK106.out 2).trans rfl⟩ (fun hHeld => ?_)
                            clear hK K
                            refine norm_ (a' := ?_) ?_ ?_
                            rotate_left
                            · show Act.put _ (some 9) _ = _
                              simp only [Act.put, List.setIfInBounds_toArray, List.set_cons_zero, List.set_cons_succ, i64_w, i32_w]
                              rfl
                            refine pure_ (i := 6) (N := some 10) (v := ?_) (a' := ?_) #[true, true, true, true, true, true, true, true, true, true, false, false, false, false] rfl rfl (any_of HT_.out (by kernel_rfl)) (fun _ _ _ h => h) (Or.inl ⟨by rfl, ?_⟩) ?_ ?_
                            rotate_left
                            · intro w'
                              go_simp
                              with_reducible rfl
                            rotate_left
                            · simp only [Act.put, List.setIfInBounds_toArray, List.set_cons_zero, List.set_cons_succ, i64_w, i32_w]
                              rfl
                            exact norm_ (by first | (simp only [putAll, Act.put, List.setIfInBounds_toArray, List.set_cons_zero, List.set_cons_succ]; done) | (simp only [putAll, Act.put, List.setIfInBounds_toArray, List.set_cons_zero, List.set_cons_succ]; rfl)) (hJ0_5 (.slice (some adz_v108) y107.length co27, adz_v108) _ ⟨hHeld, (by (with_reducible repeat (first | apply Kd.R_alloc | apply Kd.R_drewN | apply Kd.R_drew)); exact HO109.out), ⟨_, rfl⟩, (by (with_reducible repeat (first | refine blk_drewN ?_ _ | refine blk_drew ?_ | refine blk_alloc ?_ _)); exact BK106.out), (by repeat (first | (with_reducible first | exact HB.out | apply below_alloc | apply pw_below_drewN | apply below_drew1 | refine below_set ?_ GE106.out) | exact HB.out))⟩)
                          · skip
                            refine goes_ Tryd.func33 (by kernel_rfl) rfl #[.int .i64 (wrap64 (a0_2))] (by rfl) rfl rfl (by (try simp only [List.map_toArray, List.map_cons, List.map_nil]); first | done | rfl | (simp only [List.length_drop, List.length_take]; rfl)) ?_
                            with_reducible refine (vidimusref01_Small.calls k (wrap64 (a0_2)) t111 _ A6.out).mono ?_
                            rintro e w28 ⟨v112, rfl, ho0, hb⟩
                            refine ⟨_, rfl, ?_⟩
                            have n0_ := Aside0.mk (Kd.R_below (by (with_reducible repeat (first | apply Kd.R_alloc | apply Kd.R_drewN | apply Kd.R_drew)); exact HO109.out) hb)
                            have n1_ := Aside0.mk (Kd.R_lower ho0 (below_size (by repeat (first | (with_reducible first | exact HB.out | apply below_alloc | apply pw_below_drewN | apply below_drew1 | refine below_set ?_ GE106.out) | exact HB.out))))
                            have n2_ := Aside0.mk (blk_below (g := gb106) (o := .cells #[.int .u8 a0_0, .bool false, .int .u32 a0_2] 27 (0, 0)) (by (with_reducible repeat (first | refine blk_drewN ?_ _ | refine blk_drew ?_ | refine blk_alloc ?_ _)); exact BK106.out) hb)
                            have n3_ := Aside0.mk (below_step (by repeat (first | (with_reducible first | exact HB.out | apply below_alloc | apply pw_below_drewN | apply below_drew1 | refine below_set ?_ GE106.out) | exact HB.out)) hb)
                            clear HO109
                            clear BK106
                            clear HB
                            have HO109 := n0_
                            have HO113 := n1_
                            have BK106 := n2_
                            have HB := n3_
                            clear n0_ n1_ n2_ n3_
                            (try clear hb)
                            (try clear hb2)
                            (try clear hk)
                            (try clear hi)
                            (try clear ho0)
                            refine hK.out _ _ ⟨(blk_cell BK106.out 0).trans rfl, (blk_cell BK106.out 1).trans rfl, (blk_cell BK106.out 2).trans rfl⟩ (fun hHeld => ?_)
                            clear hK K
                            refine norm_ (a' := ?_) ?_ ?_
                            rotate_left
                            · show Act.put _ (some 14) _ = _
                              simp only [Act.put, List.setIfInBounds_toArray, List.set_cons_zero, List.set_cons_succ, i64_w, i32_w]
                              rfl
                            exact norm_ (by first | (simp only [putAll, Act.put, List.setIfInBounds_toArray, List.set_cons_zero, List.set_cons_succ]; done) | (simp only [putAll, Act.put, List.setIfInBounds_toArray, List.set_cons_zero, List.set_cons_succ]; rfl)) (hJ0_10 (.slice (some adz_v108) y107.length co27, adz_v108, v112) _ ⟨hHeld, (by (with_reducible repeat (first | apply Kd.R_alloc | apply Kd.R_drewN | apply Kd.R_drew)); exact HO109.out), (by (with_reducible repeat (first | apply Kd.R_alloc | apply Kd.R_drewN | apply Kd.R_drew)); exact HO113.out), ⟨_, rfl⟩, (by (with_reducible repeat (first | refine blk_drewN ?_ _ | refine blk_drew ?_ | refine blk_alloc ?_ _)); exact BK106.out), (by repeat (first | (with_reducible first | exact HB.out | apply below_alloc | apply pw_below_drewN | apply below_drew1 | refine below_set ?_ GE106.out) | exact HB.out))⟩)
                      · skip
                        rintro v112 w25 ⟨hS_, h0_, h1_, h2_⟩
                        have n0_ : Aside0 (Kd.R (Kd.int .i64) 3 w25 w.heap.size (fun _ => True) v112 t111) := ⟨h0_⟩
                        have n1_ : Aside0 (w25.heap[gb106]? = some (.cells #[.int .u8 a0_0, .bool false, .int .u32 a0_2] 27 (0, 0))) := ⟨h1_⟩
                        have n2_ : Aside0 (Below w.heap.size w w25) := ⟨h2_⟩
                        clear BK106
                        clear HB
                        clear h0_ h1_ h2_
                        have HO113 := n0_
                        have BK106 := n1_
                        have HB := n2_
                        clear n0_ n1_ n2_
                        have hHeld : w25.cell? ⟨gb106, 0, none⟩ = some (.int .u8 a0_0) ∧ w25.cell? ⟨gb106, 1, none⟩ = some (.bool false) ∧ w25.cell? ⟨gb106, 2, none⟩ = some (.int .u32 a0_2) := hS_
                        refine norm_ (a' := ?_) ?_ ?_
                        rotate_left
                        · simp only [putAll, Act.put, List.setIfInBounds_toArray, List.set_cons_zero, List.set_cons_succ]
                          rfl
                        refine one_ (i := 0) (N := some 4) #[true, true, true, true, false, false, false, true, true, true, true, true, false, false] rfl rfl (one_of HT_.out (by kernel_rfl)) (by decide) (fun K hK => ?_)
                        refine Kd.R_lit_step Kd.string _ 9 ?hg (N := 4) ?hd (xs := ([(⟨#[117, 110, 105, 118, 101, 114, 115, 97, 108]⟩ : ByteArray), (⟨#[97, 112, 112, 108, 105, 99, 97, 116, 105, 111, 110]⟩ : ByteArray), (⟨#[99, 111, 110, 116, 101, 120, 116]⟩ : ByteArray), (⟨#[112, 114, 105, 118, 97, 116, 101]⟩ : ByteArray)] : List ByteArray)) (inner := [.string (⟨#[117, 110, 105, 118, 101, 114, 115, 97, 108]⟩ : ByteArray), .string (⟨#[97, 112, 112, 108, 105, 99, 97, 116, 105, 111, 110]⟩ : ByteArray), .string (⟨#[99, 111, 110, 116, 101, 120, 116]⟩ : ByteArray), .string (⟨#[112, 114, 105, 118, 97, 116, 101]⟩ : ByteArray)]) (ok := fun _ => True) (okp := fun _ => True) ?hr ?hp (fun _ hk => hk) trivial (Below.refl _ _) (Nat.le_refl _) (by simp) ?_; (case hd => rfl); (case hg => rfl); (case hr => first | (go_simp; done) | (go_simp; rfl)); (case hp => exact (Reps.one (show Kd.M Kd.string _ _ _ (⟨#[117, 110, 105, 118, 101, 114, 115, 97, 108]⟩ : ByteArray) [.string (⟨#[117, 110, 105, 118, 101, 114, 115, 97, 108]⟩ : ByteArray)] from rfl) (Reps.one (show Kd.M Kd.string _ _ _ (⟨#[97, 112, 112, 108, 105, 99, 97, 116, 105, 111, 110]⟩ : ByteArray) [.string (⟨#[97, 112, 112, 108, 105, 99, 97, 116, 105, 111, 110]⟩ : ByteArray)] from rfl) (Reps.one (show Kd.M Kd.string _ _ _ (⟨#[99, 111, 110, 116, 101, 120, 116]⟩ : ByteArray) [.string (⟨#[99, 111, 110, 116, 101, 120, 116]⟩ : ByteArray)] from rfl) (Reps.one (show Kd.M Kd.string _ _ _ (⟨#[112, 114, 105, 118, 97, 116, 101]⟩ : ByteArray) [.string (⟨#[112, 114, 105, 118, 97, 116, 101]⟩ : ByteArray)] from rfl) (Reps.none _ _))))))
                        intro v108 w26 ho27 hb hg_ hnew_
                        clear hg_ hnew_
                        (first | rw [← Ny107.out] at ho27 | (simp only [Int.reduceToNat] at ho27; rw [← Ny107.out] at ho27))
                        have n0_ := Aside0.mk (Kd.R_below (by (with_reducible repeat (first | apply Kd.R_alloc | apply Kd.R_drewN | apply Kd.R_drew)); exact HO113.out) hb)
                        have n1_ := Aside0.mk (Kd.R_lower ho27 (below_size (by repeat (first | (with_reducible first | exact HB.out | apply below_alloc | apply pw_below_drewN | apply below_drew1 | refine below_set ?_ GE106.out) | exact HB.out))))
                        have n2_ := Aside0.mk (blk_below (g := gb106) (o := .cells #[.int .u8 a0_0, .bool false, .int .u32 a0_2] 27 (0, 0)) (by (with_reducible repeat (first | refine blk_drewN ?_ _ | refine blk_drew ?_ | refine blk_alloc ?_ _)); exact BK106.out) hb)
                        have n3_ := Aside0.mk (below_step (by repeat (first | (with_reducible first | exact HB.out | apply below_alloc | apply pw_below_drewN | apply below_drew1 | refine below_set ?_ GE106.out) | exact HB.out)) hb)
                        clear HO113
                        clear BK106
                        clear HB
                        have HO113 := n0_
                        have HO109 := n1_
                        have BK106 := n2_
                        have HB := n3_
                        clear n0_ n1_ n2_ n3_
                        clear hb ho27
                        obtain ⟨Ao28, co28, eo28⟩ := Kd.R_slice HO109.out
                        subst eo28
                        obtain ⟨ado28, fo28, _⟩ := Kd.at_string (Kd.R_reads' HO109.out).2.2 0 (by decide) (by rw [Ny107.out]; simp)
                        cases fo28
                        refine hK.out _ _ ⟨(blk_cell BK106.out 0).trans rfl, (blk_cell BK106.out 1).trans rfl, (blk_cell BK106.out 2).trans rfl⟩ (fun hHeld => ?_)
                        clear hK K
                        refine norm_ (a' := ?_) ?_ ?_
                        rotate_left
                        · show Act.put _ (some 4) _ = _
                          simp only [Act.put, List.setIfInBounds_toArray, List.set_cons_zero, List.set_cons_succ, i64_w, i32_w]
                          rfl
                        refine pure_ (i := 4) (N := some 8) (v := ?_) (a' := ?_) #[true, true, true, true, true, false, false, true, true, true, true, true, false, false] rfl rfl (any_of HT_.out (by kernel_rfl)) (fun _ _ _ h => h) (Or.inl ⟨by rfl, ?_⟩) ?_ ?_
                        rotate_left
                        · intro w'
                          go_simp
                          with_reducible rfl
                        rotate_left
                        · simp only [Act.put, List.setIfInBounds_toArray, List.set_cons_zero, List.set_cons_succ, i64_w, i32_w]
                          rfl
                        exact norm_ (by first | (simp only [putAll, Act.put, List.setIfInBounds_toArray, List.set_cons_zero, List.set_cons_succ]; done) | (simp only [putAll, Act.put, List.setIfInBounds_toArray, List.set_cons_zero, List.set_cons_succ]; rfl)) (hJ0_10_11 (.slice (some ado28) y107.length co28, ado28, v112) _ ⟨hHeld, (by (with_reducible repeat (first | apply Kd.R_alloc | apply Kd.R_drewN | apply Kd.R_drew)); exact HO109.out), (by (with_reducible repeat (first | apply Kd.R_alloc | apply Kd.R_drewN | apply Kd.R_drew)); exact HO113.out), ⟨_, rfl⟩, (by (with_reducible repeat (first | refine blk_drewN ?_ _ | refine blk_drew ?_ | refine blk_alloc ?_ _)); exact BK106.out), (by repeat (first | (with_reducible first | exact HB.out | apply below_alloc | apply pw_below_drewN | apply below_drew1 | refine below_set ?_ GE106.out) | exact HB.out))⟩)
                    · skip
                      rintro ⟨v108, adz_v108, v112⟩ w27 ⟨hS_, h0_, h1_, h2_, h3_, h4_⟩
                      have n0_ : Aside0 (Kd.R Kd.string 9 w27 w.heap.size (fun _ => True) v108 y107) := ⟨h0_⟩
                      have n1_ : Aside0 (Kd.R (Kd.int .i64) 3 w27 w.heap.size (fun _ => True) v112 t111) := ⟨h1_⟩
                      have n2_ : Aside0 (∃ c_, (v108 : Value) = .slice (some adz_v108) y107.length c_) := ⟨h2_⟩
                      have n3_ : Aside0 (w27.heap[gb106]? = some (.cells #[.int .u8 a0_0, .bool false, .int .u32 a0_2] 27 (0, 0))) := ⟨h3_⟩
                      have n4_ : Aside0 (Below w.heap.size w w27) := ⟨h4_⟩
                      clear BK106
                      clear HB
                      clear h0_ h1_ h2_ h3_ h4_
                      have HO109 := n0_
                      have HO113 := n1_
                      have HA_HO109 := n2_
                      have BK106 := n3_
                      have HB := n4_
                      clear n0_ n1_ n2_ n3_ n4_
                      have hHeld : w27.cell? ⟨gb106, 0, none⟩ = some (.int .u8 a0_0) ∧ w27.cell? ⟨gb106, 1, none⟩ = some (.bool false) ∧ w27.cell? ⟨gb106, 2, none⟩ = some (.int .u32 a0_2) := hS_
                      obtain ⟨co28, eo28⟩ := HA_HO109.out
                      clear HA_HO109
                      subst eo28
                      obtain ⟨Ao29, co29, eo29⟩ := Kd.R_slice HO113.out
                      (first | subst eo29 | (injection eo29 with f1_ f2_ f3_; have f4_ := f1_.symm; have f5_ := f3_.symm; clear f1_ f2_ f3_; subst f4_; subst f5_))
                      refine norm_ (a' := ?_) ?_ ?_
                      rotate_left
                      · simp only [putAll, Act.put, List.setIfInBounds_toArray, List.set_cons_zero, List.set_cons_succ]
                        rfl
                      refine two_ (i := 5) (j := 11) (Ni := some 9) (Nj := some 15) #[true, true, true, true, true, true, false, true, true, true, true, false, false, false] #[true, true, true, true, true, false, false, true, true, true, true, true, false, false] rfl rfl rfl rfl (two_of HT_.out (by kernel_rfl)) (by decide) (by decide) (fun K hK => ?_) (fun K hK => ?_)
                      · skip
                        (have p110 : 0 ≤ ((ji2) : Int) := of_decide_eq_true (by first | (with_reducible assumption) | assumption); have q110 : (ji2) < (y107.length : Int) := of_decide_eq_true (by first | (with_reducible assumption) | assumption); obtain ⟨ad110, e110, hx110_0⟩ := Kd.at_string (Kd.R_reads' HO109.out).2.2 (ji2) p110 q110; obtain rfl : adz_v108 = ad110 := (by injection e110))
                        refine value_ (w1 := ?_) (v := ?_) (by rfl) rfl ?_ ?_
                        rotate_left 2
                        · go_simp
                          constructor
                          · rfl
                          · rfl
                        clear hx110_0
                        refine hK.out _ _ ⟨(blk_cell BK106.out 0).trans rfl, (blk_cell BK106.out 1).trans rfl, (blk_cell BK106.out 2).trans rfl⟩ (fun hHeld => ?_)
                        clear hK K
                        refine norm_ (a' := ?_) ?_ ?_
                        rotate_left
                        · show Act.put _ (some 9) _ = _
                          simp only [Act.put, List.setIfInBounds_toArray, List.set_cons_zero, List.set_cons_succ, i64_w, i32_w]
                          rfl
                        refine pure_ (i := 6) (N := some 10) (v := ?_) (a' := ?_) #[true, true, true, true, true, true, true, true, true, true, true, false, false, false] rfl rfl (any_of HT_.out (by kernel_rfl)) (fun _ _ _ h => h) (Or.inl ⟨by rfl, ?_⟩) ?_ ?_
                        rotate_left
                        · intro w'
                          go_simp
                          with_reducible rfl
                        rotate_left
                        · simp only [Act.put, List.setIfInBounds_toArray, List.set_cons_zero, List.set_cons_succ, i64_w, i32_w]
                          rfl
                        exact norm_ (by first | (simp only [putAll, Act.put, List.setIfInBounds_toArray, List.set_cons_zero, List.set_cons_succ]; done) | (simp only [putAll, Act.put, List.setIfInBounds_toArray, List.set_cons_zero, List.set_cons_succ]; rfl)) (hJ0_5_10 (.slice (some adz_v108) y107.length co28, adz_v108, .slice Ao29 t111.length co29) _ ⟨hHeld, (by (with_reducible repeat (first | apply Kd.R_alloc | apply Kd.R_drewN | apply Kd.R_drew)); exact HO109.out), (by (with_reducible repeat (first | apply Kd.R_alloc | apply Kd.R_drewN | apply Kd.R_drew)); exact HO113.out), ⟨_, rfl⟩, (by (with_reducible repeat (first | refine blk_drewN ?_ _ | refine blk_drew ?_ | refine blk_alloc ?_ _)); exact BK106.out), (by repeat (first | (with_reducible first | exact HB.out | apply below_alloc | apply pw_below_drewN | apply below_drew1 | refine below_set ?_ GE106.out) | exact HB.out))⟩)
                      · skip
                        refine goes_ Tryd.func34 (by kernel_rfl) rfl #[.slice Ao29 t111.length co29] (by rfl) rfl rfl (by (try simp only [List.map_toArray, List.map_cons, List.map_nil]); first | done | rfl | (simp only [List.length_drop, List.length_take]; rfl)) ?_
                        with_reducible refine (vidimusref01_D_Text.calls k _ _ t111 t114 _ ?side1 ?side2 A7.out).mono ?_
                        (case side1 => repeat (first | exact (Kd.R_reads' HO113.out).2.2 | (with_reducible refine Kd.C_alloc ?_ _) | (with_reducible refine Kd.C_drewN ?_ _) | (with_reducible refine Kd.C_drew ?_)))
                        (case side2 => exact (Kd.R_reads' HO113.out).2.1)
                        rintro e w' ⟨rfl, ⟨nd, rfl⟩⟩
                        refine ⟨_, rfl, ?_⟩
                        refine hK.out _ _ ⟨(blk_cell BK106.out 0).trans rfl, (blk_cell BK106.out 1).trans rfl, (blk_cell BK106.out 2).trans rfl⟩ (fun hHeld => ?_)
                        clear hK K
                        refine norm_ (a' := ?_) ?_ ?_
                        rotate_left
                        · show Act.put _ (some 15) _ = _
                          simp only [Act.put, List.setIfInBounds_toArray, List.set_cons_zero, List.set_cons_succ, i64_w, i32_w]
                          rfl
                        exact norm_ (by first | (simp only [putAll, Act.put, List.setIfInBounds_toArray, List.set_cons_zero, List.set_cons_succ]; done) | (simp only [putAll, Act.put, List.setIfInBounds_toArray, List.set_cons_zero, List.set_cons_succ]; rfl)) (hJ0_10_11 (.slice (some adz_v108) y107.length co28, adz_v108, .slice Ao29 t111.length co29) _ ⟨hHeld, (by (with_reducible repeat (first | apply Kd.R_alloc | apply Kd.R_drewN | apply Kd.R_drew)); exact HO109.out), (by (with_reducible repeat (first | apply Kd.R_alloc | apply Kd.R_drewN | apply Kd.R_drew)); exact HO113.out), ⟨_, rfl⟩, (by (with_reducible repeat (first | refine blk_drewN ?_ _ | refine blk_drew ?_ | refine blk_alloc ?_ _)); exact BK106.out), (by repeat (first | (with_reducible first | exact HB.out | apply below_alloc | apply pw_below_drewN | apply below_drew1 | refine below_set ?_ GE106.out) | exact HB.out))⟩)
                  · skip
                    rintro ⟨v108, adz_v108⟩ w26 ⟨hS_, h0_, h1_, h2_, h3_⟩
                    have n0_ : Aside0 (Kd.R Kd.string 9 w26 w.heap.size (fun _ => True) v108 y107) := ⟨h0_⟩
                    have n1_ : Aside0 (∃ c_, (v108 : Value) = .slice (some adz_v108) y107.length c_) := ⟨h1_⟩
                    have n2_ : Aside0 (w26.heap[gb106]? = some (.cells #[.int .u8 a0_0, .bool false, .int .u32 a0_2] 27 (0, 0))) := ⟨h2_⟩
                    have n3_ : Aside0 (Below w.heap.size w w26) := ⟨h3_⟩
                    clear BK106
                    clear HB
                    clear h0_ h1_ h2_ h3_
                    have HO109 := n0_
                    have HA_HO109 := n1_
                    have BK106 := n2_
                    have HB := n3_
                    clear n0_ n1_ n2_ n3_
                    have hHeld : w26.cell? ⟨gb106, 0, none⟩ = some (.int .u8 a0_0) ∧ w26.cell? ⟨gb106, 1, none⟩ = some (.bool false) ∧ w26.cell? ⟨gb106, 2, none⟩ = some (.int .u32 a0_2) := hS_
                    obtain ⟨co27, eo27⟩ := HA_HO109.out
                    clear HA_HO109
                    subst eo27
                    refine norm_ (a' := ?_) ?_ ?_
                    rotate_left
                    · simp only [putAll, Act.put, List.setIfInBounds_toArray, List.set_cons_zero, List.set_cons_succ]
                      rfl
                    refine one_ (i := 10) (N := some 14) #[true, true, true, true, true, true, true, true, true, true, true, false, false, false] rfl rfl (one_of HT_.out (by kernel_rfl)) (by decide) (fun K hK => ?_)
                    refine goes_ Tryd.func33 (by kernel_rfl) rfl #[.int .i64 (wrap64 (a0_2))] (by rfl) rfl rfl (by (try simp only [List.map_toArray, List.map_cons, List.map_nil]); first | done | rfl | (simp only [List.length_drop, List.length_take]; rfl)) ?_
                    with_reducible refine (vidimusref01_Small.calls k (wrap64 (a0_2)) t111 _ A6.out).mono ?_
                    rintro e w28 ⟨v112, rfl, ho0, hb⟩
                    refine ⟨_, rfl, ?_⟩
                    have n0_ := Aside0.mk (Kd.R_below (by (with_reducible repeat (first | apply Kd.R_alloc | apply Kd.R_drewN | apply Kd.R_drew)); exact HO109.out) hb)
                    have n1_ := Aside0.mk (Kd.R_lower ho0 (below_size (by repeat (first | (with_reducible first | exact HB.out | apply below_alloc | apply pw_below_drewN | apply below_drew1 | refine below_set ?_ GE106.out) | exact HB.out))))
                    have n2_ := Aside0.mk (blk_below (g := gb106) (o := .cells #[.int .u8 a0_0, .bool false, .int .u32 a0_2] 27 (0, 0)) (by (with_reducible repeat (first | refine blk_drewN ?_ _ | refine blk_drew ?_ | refine blk_alloc ?_ _)); exact BK106.out) hb)
                    have n3_ := Aside0.mk (below_step (by repeat (first | (with_reducible first | exact HB.out | apply below_alloc | apply pw_below_drewN | apply below_drew1 | refine below_set ?_ GE106.out) | exact HB.out)) hb)
                    clear HO109
                    clear BK106
                    clear HB
                    have HO109 := n0_
                    have HO113 := n1_
                    have BK106 := n2_
                    have HB := n3_
                    clear n0_ n1_ n2_ n3_
                    (try clear hb)
                    (try clear hb2)
                    (try clear hk)
                    (try clear hi)
                    (try clear ho0)
                    refine hK.out _ _ ⟨(blk_cell BK106.out 0).trans rfl, (blk_cell BK106.out 1).trans rfl, (blk_cell BK106.out 2).trans rfl⟩ (fun hHeld => ?_)
                    clear hK K
                    refine norm_ (a' := ?_) ?_ ?_
                    rotate_left
                    · show Act.put _ (some 14) _ = _
                      simp only [Act.put, List.setIfInBounds_toArray, List.set_cons_zero, List.set_cons_succ, i64_w, i32_w]
                      rfl
                    exact norm_ (by first | (simp only [putAll, Act.put, List.setIfInBounds_toArray, List.set_cons_zero, List.set_cons_succ]; done) | (simp only [putAll, Act.put, List.setIfInBounds_toArray, List.set_cons_zero, List.set_cons_succ]; rfl)) (hJ0_5_10 (.slice (some adz_v108) y107.length co27, adz_v108, v112) _ ⟨hHeld, (by (with_reducible repeat (first | apply Kd.R_alloc | apply Kd.R_drewN | apply Kd.R_drew)); exact HO109.out), (by (with_reducible repeat (first | apply Kd.R_alloc | apply Kd.R_drewN | apply Kd.R_drew)); exact HO113.out), ⟨_, rfl⟩, (by (with_reducible repeat (first | refine blk_drewN ?_ _ | refine blk_drew ?_ | refine blk_alloc ?_ _)); exact BK106.out), (by repeat (first | (with_reducible first | exact HB.out | apply below_alloc | apply pw_below_drewN | apply below_drew1 | refine below_set ?_ GE106.out) | exact HB.out))⟩)
                · skip
                  rintro ⟨v108, adz_v108, v112⟩ w28 ⟨hS_, h0_, h1_, h2_, h3_, h4_⟩
                  have n0_ : Aside0 (Kd.R Kd.string 9 w28 w.heap.size (fun _ => True) v108 y107) := ⟨h0_⟩
                  have n1_ : Aside0 (Kd.R (Kd.int .i64) 3 w28 w.heap.size (fun _ => True) v112 t111) := ⟨h1_⟩
                  have n2_ : Aside0 (∃ c_, (v108 : Value) = .slice (some adz_v108) y107.length c_) := ⟨h2_⟩
                  have n3_ : Aside0 (w28.heap[gb106]? = some (.cells #[.int .u8 a0_0, .bool false, .int .u32 a0_2] 27 (0, 0))) := ⟨h3_⟩
                  have n4_ : Aside0 (Below w.heap.size w w28) := ⟨h4_⟩
                  clear BK106
                  clear HB
                  clear h0_ h1_ h2_ h3_ h4_
                  have HO109 := n0_
                  have HO113 := n1_
                  have HA_HO109 := n2_
                  have BK106 := n3_
                  have HB := n4_
                  clear n0_ n1_ n2_ n3_ n4_
                  have hHeld : w28.cell? ⟨gb106, 0, none⟩ = some (.int .u8 a0_0) ∧ w28.cell? ⟨gb106, 1, none⟩ = some (.bool false) ∧ w28.cell? ⟨gb106, 2, none⟩ = some (.int .u32 a0_2) := hS_
                  obtain ⟨co29, eo29⟩ := HA_HO109.out
                  clear HA_HO109
                  subst eo29
                  refine norm_ (a' := ?_) ?_ ?_
                  rotate_left
                  · simp only [putAll, Act.put, List.setIfInBounds_toArray, List.set_cons_zero, List.set_cons_succ]
                    rfl
                  refine one_ (i := 5) (N := some 9) #[true, true, true, true, true, true, false, true, true, true, true, true, false, false] rfl rfl (one_of HT_.out (by kernel_rfl)) (by decide) (fun K hK => ?_)
                  (have p110 : 0 ≤ ((ji2) : Int) := of_decide_eq_true (by first | (with_reducible assumption) | assumption); have q110 : (ji2) < (y107.length : Int) := of_decide_eq_true (by first | (with_reducible assumption) | assumption); obtain ⟨ad110, e110, hx110_0⟩ := Kd.at_string (Kd.R_reads' HO109.out).2.2 (ji2) p110 q110; obtain rfl : adz_v108 = ad110 := (by injection e110))
                  refine value_ (w1 := ?_) (v := ?_) (by rfl) rfl ?_ ?_
                  rotate_left 2
                  · go_simp
                    constructor
                    · rfl
                    · rfl
                  clear hx110_0
                  refine hK.out _ _ ⟨(blk_cell BK106.out 0).trans rfl, (blk_cell BK106.out 1).trans rfl, (blk_cell BK106.out 2).trans rfl⟩ (fun hHeld => ?_)
                  clear hK K
                  refine norm_ (a' := ?_) ?_ ?_
                  rotate_left
                  · show Act.put _ (some 9) _ = _
                    simp only [Act.put, List.setIfInBounds_toArray, List.set_cons_zero, List.set_cons_succ, i64_w, i32_w]
                    rfl
                  refine pure_ (i := 6) (N := some 10) (v := ?_) (a' := ?_) #[true, true, true, true, true, true, true, true, true, true, true, true, false, false] rfl rfl (any_of HT_.out (by kernel_rfl)) (fun _ _ _ h => h) (Or.inl ⟨by rfl, ?_⟩) ?_ ?_
                  rotate_left
                  · intro w'
                    go_simp
                    with_reducible rfl
                  rotate_left
                  · simp only [Act.put, List.setIfInBounds_toArray, List.set_cons_zero, List.set_cons_succ, i64_w, i32_w]
                    rfl
                  exact norm_ (by first | (simp only [putAll, Act.put, List.setIfInBounds_toArray, List.set_cons_zero, List.set_cons_succ]; done) | (simp only [putAll, Act.put, List.setIfInBounds_toArray, List.set_cons_zero, List.set_cons_succ]; rfl)) (hJ0_5_10_11 (.slice (some adz_v108) y107.length co29, adz_v108, v112) _ ⟨hHeld, (by (with_reducible repeat (first | apply Kd.R_alloc | apply Kd.R_drewN | apply Kd.R_drew)); exact HO109.out), (by (with_reducible repeat (first | apply Kd.R_alloc | apply Kd.R_drewN | apply Kd.R_drew)); exact HO113.out), ⟨_, rfl⟩, (by (with_reducible repeat (first | refine blk_drewN ?_ _ | refine blk_drew ?_ | refine blk_alloc ?_ _)); exact BK106.out), (by repeat (first | (with_reducible first | exact HB.out | apply below_alloc | apply pw_below_drewN | apply below_drew1 | refine below_set ?_ GE106.out) | exact HB.out))⟩)
              · skip
                rintro ⟨v108, adz_v108, v112⟩ w27 ⟨hS_, h0_, h1_, h2_, h3_, h4_⟩
                have n0_ : Aside0 (Kd.R Kd.string 9 w27 w.heap.size (fun _ => True) v108 y107) := ⟨h0_⟩
                have n1_ : Aside0 (Kd.R (Kd.int .i64) 3 w27 w.heap.size (fun _ => True) v112 t111) := ⟨h1_⟩
                have n2_ : Aside0 (∃ c_, (v108 : Value) = .slice (some adz_v108) y107.length c_) := ⟨h2_⟩
                have n3_ : Aside0 (w27.heap[gb106]? = some (.cells #[.int .u8 a0_0, .bool false, .int .u32 a0_2] 27 (0, 0))) := ⟨h3_⟩
                have n4_ : Aside0 (Below w.heap.size w w27) := ⟨h4_⟩
                clear BK106
                clear HB
                clear h0_ h1_ h2_ h3_ h4_
                have HO109 := n0_
                have HO113 := n1_
                have HA_HO109 := n2_
                have BK106 := n3_
                have HB := n4_
                clear n0_ n1_ n2_ n3_ n4_
                have hHeld : w27.cell? ⟨gb106, 0, none⟩ = some (.int .u8 a0_0) ∧ w27.cell? ⟨gb106, 1, none⟩ = some (.bool false) ∧ w27.cell? ⟨gb106, 2, none⟩ = some (.int .u32 a0_2) := hS_
                obtain ⟨co28, eo28⟩ := HA_HO109.out
                clear HA_HO109
                subst eo28
                obtain ⟨Ao29, co29, eo29⟩ := Kd.R_slice HO113.out
                (first | subst eo29 | (injection eo29 with f1_ f2_ f3_; have f4_ := f1_.symm; have f5_ := f3_.symm; clear f1_ f2_ f3_; subst f4_; subst f5_))
                refine norm_ (a' := ?_) ?_ ?_
                rotate_left
                · simp only [putAll, Act.put, List.setIfInBounds_toArray, List.set_cons_zero, List.set_cons_succ]
                  rfl
                refine one_ (i := 11) (N := some 15) #[true, true, true, true, true, true, true, true, true, true, true, true, false, false] rfl rfl (one_of HT_.out (by kernel_rfl)) (by decide) (fun K hK => ?_)
                refine goes_ Tryd.func34 (by kernel_rfl) rfl #[.slice Ao29 t111.length co29] (by rfl) rfl rfl (by (try simp only [List.map_toArray, List.map_cons, List.map_nil]); first | done | rfl | (simp only [List.length_drop, List.length_take]; rfl)) ?_
                with_reducible refine (vidimusref01_D_Text.calls k _ _ t111 t114 _ ?side1 ?side2 A7.out).mono ?_
                (case side1 => repeat (first | exact (Kd.R_reads' HO113.out).2.2 | (with_reducible refine Kd.C_alloc ?_ _) | (with_reducible refine Kd.C_drewN ?_ _) | (with_reducible refine Kd.C_drew ?_)))
                (case side2 => exact (Kd.R_reads' HO113.out).2.1)
                rintro e w' ⟨rfl, ⟨nd, rfl⟩⟩
                refine ⟨_, rfl, ?_⟩
                refine hK.out _ _ ⟨(blk_cell BK106.out 0).trans rfl, (blk_cell BK106.out 1).trans rfl, (blk_cell BK106.out 2).trans rfl⟩ (fun hHeld => ?_)
                clear hK K
                refine norm_ (a' := ?_) ?_ ?_
                rotate_left
                · show Act.put _ (some 15) _ = _
                  simp only [Act.put, List.setIfInBounds_toArray, List.set_cons_zero, List.set_cons_succ, i64_w, i32_w]
                  rfl
                exact norm_ (by first | (simp only [putAll, Act.put, List.setIfInBounds_toArray, List.set_cons_zero, List.set_cons_succ]; done) | (simp only [putAll, Act.put, List.setIfInBounds_toArray, List.set_cons_zero, List.set_cons_succ]; rfl)) (hJ0_5_10_11 (.slice (some adz_v108) y107.length co28, adz_v108, .slice Ao29 t111.length co29) _ ⟨hHeld, (by (with_reducible repeat (first | apply Kd.R_alloc | apply Kd.R_drewN | apply Kd.R_drew)); exact HO109.out), (by (with_reducible repeat (first | apply Kd.R_alloc | apply Kd.R_drewN | apply Kd.R_drew)); exact HO113.out), ⟨_, rfl⟩, (by (with_reducible repeat (first | refine blk_drewN ?_ _ | refine blk_drew ?_ | refine blk_alloc ?_ _)); exact BK106.out), (by repeat (first | (with_reducible first | exact HB.out | apply below_alloc | apply pw_below_drewN | apply below_drew1 | refine below_set ?_ GE106.out) | exact HB.out))⟩)
            rintro ⟨v108, adz_v108, v112⟩ w28 ⟨hS_, h0_, h1_, h2_, h3_, h4_⟩
            have n0_ : Aside0 (Kd.R Kd.string 9 w28 w.heap.size (fun _ => True) v108 y107) := ⟨h0_⟩
            have n1_ : Aside0 (Kd.R (Kd.int .i64) 3 w28 w.heap.size (fun _ => True) v112 t111) := ⟨h1_⟩
            have n2_ : Aside0 (∃ c_, (v108 : Value) = .slice (some adz_v108) y107.length c_) := ⟨h2_⟩
            have n3_ : Aside0 (w28.heap[gb106]? = some (.cells #[.int .u8 a0_0, .bool false, .int .u32 a0_2] 27 (0, 0))) := ⟨h3_⟩
            have n4_ : Aside0 (Below w.heap.size w w28) := ⟨h4_⟩
            clear BK106
            clear HB
            clear h0_ h1_ h2_ h3_ h4_
            have HO109 := n0_
            have HO113 := n1_
            have HA_HO109 := n2_
            have BK106 := n3_
            have HB := n4_
            clear n0_ n1_ n2_ n3_ n4_
            have hHeld : w28.cell? ⟨gb106, 0, none⟩ = some (.int .u8 a0_0) ∧ w28.cell? ⟨gb106, 1, none⟩ = some (.bool false) ∧ w28.cell? ⟨gb106, 2, none⟩ = some (.int .u32 a0_2) := hS_
            obtain ⟨co29, eo29⟩ := HA_HO109.out
            clear HA_HO109
            subst eo29
            refine norm_ (a' := ?_) ?_ ?_
            rotate_left
            · simp only [putAll, Act.put, List.setIfInBounds_toArray, List.set_cons_zero, List.set_cons_succ]
              rfl
            refine pure_ (i := 12) (N := some 16) (v := ?_) (a' := ?_) #[true, true, true, true, true, true, true, true, true, true, true, true, true, false] rfl rfl (any_of HT_.out (by kernel_rfl)) (fun _ _ _ h => h) (Or.inl ⟨by rfl, ?_⟩) ?_ ?_
            rotate_left
            · intro w'
              go_simp
              with_reducible rfl
            rotate_left
            · simp only [Act.put, List.setIfInBounds_toArray, List.set_cons_zero, List.set_cons_succ, i64_w, i32_w]
              rfl
            refine pure_ (i := 13) (N := some 3) (v := ?_) (a' := ?_) #[true, true, true, true, true, true, true, true, true, true, true, true, true, true] rfl rfl (any_of HT_.out (by kernel_rfl)) (fun _ _ _ h => h) (Or.inl ⟨by rfl, ?_⟩) ?_ ?_
            rotate_left
            · intro w'
              go_simp
              with_reducible rfl
            rotate_left
            · simp only [Act.put, List.setIfInBounds_toArray, List.set_cons_zero, List.set_cons_succ, i64_w, i32_w]
              rfl
            refine done_ (done_of HT_.out (by kernel_rfl)) ?_
            have hcz30_0 : w28.cell? ⟨gb106, 0, none⟩ = some (.int .u8 a0_0) := (blk_cell BK106.out 0).trans rfl
            have hcz30_1 : w28.cell? ⟨gb106, 1, none⟩ = some (.bool false) := (blk_cell BK106.out 1).trans rfl
            have hcz30_2 : w28.cell? ⟨gb106, 2, none⟩ = some (.int .u32 a0_2) := (blk_cell BK106.out 2).trans rfl
            have hfz30_0 := blk_frozen BK106.out 0
            have hfz30_1 := blk_frozen BK106.out 1
            have hfz30_2 := blk_frozen BK106.out 2
            try go_wp2
            go_ret
            exact ⟨by first | rfl | (simp [errW_none, errW_some] <;> rfl) | (simp only [← hji2]; first | rfl | (simp [errW_none, errW_some] <;> rfl)) | (simp [*, errW_none, errW_some] <;> rfl), by repeat (first | (with_reducible first | exact HB.out | apply below_alloc | apply pw_below_drewN | apply below_drew1 | refine below_set ?_ GE106.out) | exact HB.out)⟩
        · rw [if_neg c8] at H
          exact absurd H (by simp)
      · rw [if_neg c5] at H
        exact absurd H (by simp)
    · rw [if_neg c4] at H
      exact absurd H (by simp)
  · rw [if_neg c3] at H
    exact absurd H (by simp)

end Go.Proofs.YtpdomckacfeffaaDoor.Pr
