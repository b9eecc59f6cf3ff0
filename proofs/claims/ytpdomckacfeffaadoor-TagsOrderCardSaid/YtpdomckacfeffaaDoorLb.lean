/- Chapter 2 (tags): Compare's plain law; the walk of the law TagsOrder, case by case. -/
import Derived.Test.YtpdomckacfeffaaDoorLa
import Derived.Test.YtpdomckacfeffaaDoorQc
namespace Go.Proofs.YtpdomckacfeffaaDoor
open Go.RowKit Go.Shelf
open Go.Proofs.YtpdomckacfeffaaDoorW.PrintWords (blk_at blk_new blk_below blk_cell blk_alloc blk_lt blk_frozen blk_drew blk_set)
set_option linter.unusedVariables false
set_option maxRecDepth 50000
set_option linter.unusedSimpArgs false

/-- The order of the definition. -/
def cmpT (cl : Int) (co : Bool) (nu dl : Int) (do' : Bool) (du : Int) : Int :=
  if cl < dl then -1 else if dl < cl then 1 else if nu < du then -1 else if du < nu then 1 else if co = true ∧ do' = false then 1 else if do' = true ∧ co = false then -1 else 0
theorem or3 (k : Nat) (a b c : Int) : Pr.cmp_Or_int.f (k + 4) [a, b, c] = some (if a = 0 then (if b = 0 then c else b) else a) := by
  by_cases ha : a = 0 <;> by_cases hb : b = 0 <;> by_cases hc : c = 0 <;> simp [Pr.cmp_Or_int.f, Pr.cmp_Or_int.l0, ha, hb, hc, Go.Proofs.YtpdomckacfeffaaDoorW.PrintWords.rd, wrap64]
theorem cmp_f (cl : Int) (co : Bool) (nu dl : Int) (do' : Bool) (du : Int) : Pr.tags_Compare.f 8 cl co nu dl do' du = some (cmpT cl co nu dl do' du) := by
  unfold Pr.tags_Compare.f cmpT
  cases co <;> cases do' <;> simp only [Pr.tags_Compare.j0, Pr.tags_Compare.j1, Pr.api_Class_37.f, Pr.api_Class_46.f, Pr.cmp_isNaN_uint32.f, Pr.cmp_Compare_uint32.f, Option.bind_some, or3] <;>
    (by_cases h1 : cl < dl <;> by_cases h2 : dl < cl <;> by_cases h3 : nu < du <;> by_cases h4 : du < nu <;> first | (exfalso; omega) | simp [h1, h2, h3, h4, or3, GT.gt])
theorem cmp_any (cl : Int) (co : Bool) (nu dl : Int) (do' : Bool) (du : Int) (w : World) :
    Calls Tryd.prog 24 #[.agg #[.int .u8 cl, .bool co, .int .u32 nu], .agg #[.int .u8 dl, .bool do', .int .u32 du]] w fun e w' => e = .returned (.int .i64 (cmpT cl co nu dl do' du)) ∧ Below w.heap.size w w' :=
  Pr.tags_Compare.calls 8 cl co nu dl do' du _ w (cmp_f cl co nu dl do' du)
attribute [local go_sem high] Pr.eqA27
def Bx2 (cl : Int) (co : Bool) (nu dl : Int) (do' : Bool) (du : Int) (w W : World) : Prop := St w W ∧ W.heap[w.heap.size]? = some (.cells #[.int .u8 cl, .bool co, .int .u32 nu] 27 (0, 0)) ∧ W.heap[w.heap.size + 1]? = some (.cells #[.int .u8 dl, .bool do', .int .u32 du] 27 (0, 0))
theorem Bx2.next {cl nu dl du : Int} {co do' : Bool} {w W W' : World} (h : Bx2 cl co nu dl do' du w W) (hb : Below W.heap.size W W') : Bx2 cl co nu dl do' du w W' := ⟨h.1.next hb, blk_below h.2.1 hb, blk_below h.2.2 hb⟩
theorem Bx2.start (cl : Int) (co : Bool) (nu dl : Int) (do' : Bool) (du : Int) (w : World) (hT : Tabs w) : Bx2 cl co nu dl do' du w ((w.alloc (.cells #[.int .u8 cl, .bool co, .int .u32 nu] 27)).alloc (.cells #[.int .u8 dl, .bool do', .int .u32 du] 27)) :=
  ⟨((St.refl hT).alloc _).alloc _, blk_below (blk_new w _) ((Below.refl _ _).alloc (Nat.le_refl _) _), blk_at _ _ _ (by first | rfl | simp)⟩
theorem six {cl nu dl du : Int} {co do' : Bool} {w W : World} (h : Bx2 cl co nu dl do' du w W) :
    (W.cell? ⟨w.heap.size, 0, none⟩ = some (.int .u8 cl) ∧ W.cell? ⟨w.heap.size, 1, none⟩ = some (.bool co) ∧ W.cell? ⟨w.heap.size, 2, none⟩ = some (.int .u32 nu)) ∧
    (W.cell? ⟨w.heap.size + 1, 0, none⟩ = some (.int .u8 dl) ∧ W.cell? ⟨w.heap.size + 1, 1, none⟩ = some (.bool do') ∧ W.cell? ⟨w.heap.size + 1, 2, none⟩ = some (.int .u32 du)) := ⟨three h.2.1, three h.2.2⟩
set_option maxHeartbeats 4000000 in
theorem order_lo (cl dl nu du : Int) (co do' : Bool) (w : World) (hT : Tabs w) (h : cl < dl) (h2 : ¬ dl < cl) (h3 : ¬ cl = dl) (h4 : ¬ dl = cl) :
    Calls Tryd.prog 9 #[.agg #[.int .u8 cl, .bool co, .int .u32 nu], .agg #[.int .u8 dl, .bool do', .int .u32 du]] w fun e w' => e = .returned (.bool true) ∧ Below w.heap.size w w' := by
  have S := Lib.hid (Bx2.start cl co nu dl do' du w hT)
  have Hab := Lib.hid (fun W => cmp_any cl co nu dl do' du W)
  have Hba := Lib.hid (fun W => cmp_any dl do' du cl co nu W)
  rw [show cmpT cl co nu dl do' du = (-1) by simp [cmpT, h, h2, h3, h4]] at Hab
  rw [show cmpT dl do' du cl co nu = 1 by simp [cmpT, h, h2, h3, h4]] at Hba
  obtain ⟨⟨x0, x1, x2⟩, ⟨x3, x4, x5⟩⟩ := six S.out
  go_enter Tryd.func9, Tryd.ntmps9
  go_wp2_with (first
    | (go_at_call 24; first
        | (with_reducible refine (Hab.out _).mono ?_; rintro e w1 ⟨rfl, hb⟩; have S1 := Lib.hid (S.out.next hb); clear hb; obtain ⟨⟨y0, y1, y2⟩, ⟨y3, y4, y5⟩⟩ := six S1.out)
        | (with_reducible refine (Hba.out _).mono ?_; rintro e w2 ⟨rfl, hb⟩; have S2 := Lib.hid (S1.out.next hb); clear hb; obtain ⟨⟨z0, z1, z2⟩, ⟨z3, z4, z5⟩⟩ := six S2.out))
    | (go_at_call 10; refine (lives_yes _ S2.out.1.t).mono ?_; rintro e w3 ⟨rfl, hb⟩; have S3 := Lib.hid (S2.out.next hb); clear hb))
  go_ret
  exact ⟨by first | rfl | simp [h, h2, h3, h4], S3.out.1.b⟩
set_option maxHeartbeats 4000000 in
theorem order_hi (cl dl nu du : Int) (co do' : Bool) (w : World) (hT : Tabs w) (h : dl < cl) (h2 : ¬ cl < dl) (h3 : ¬ cl = dl) (h4 : ¬ dl = cl) :
    Calls Tryd.prog 9 #[.agg #[.int .u8 cl, .bool co, .int .u32 nu], .agg #[.int .u8 dl, .bool do', .int .u32 du]] w fun e w' => e = .returned (.bool true) ∧ Below w.heap.size w w' := by
  have S := Lib.hid (Bx2.start cl co nu dl do' du w hT)
  have Hab := Lib.hid (fun W => cmp_any cl co nu dl do' du W)
  have Hba := Lib.hid (fun W => cmp_any dl do' du cl co nu W)
  rw [show cmpT cl co nu dl do' du = 1 by simp [cmpT, h, h2, h3, h4]] at Hab
  rw [show cmpT dl do' du cl co nu = (-1) by simp [cmpT, h, h2, h3, h4]] at Hba
  obtain ⟨⟨x0, x1, x2⟩, ⟨x3, x4, x5⟩⟩ := six S.out
  go_enter Tryd.func9, Tryd.ntmps9
  go_wp2_with (first
    | (go_at_call 24; first
        | (with_reducible refine (Hab.out _).mono ?_; rintro e w1 ⟨rfl, hb⟩; have S1 := Lib.hid (S.out.next hb); clear hb; obtain ⟨⟨y0, y1, y2⟩, ⟨y3, y4, y5⟩⟩ := six S1.out)
        | (with_reducible refine (Hba.out _).mono ?_; rintro e w2 ⟨rfl, hb⟩; have S2 := Lib.hid (S1.out.next hb); clear hb; obtain ⟨⟨z0, z1, z2⟩, ⟨z3, z4, z5⟩⟩ := six S2.out))
    | (go_at_call 10; refine (lives_yes _ S2.out.1.t).mono ?_; rintro e w3 ⟨rfl, hb⟩; have S3 := Lib.hid (S2.out.next hb); clear hb))
  go_ret
  exact ⟨by first | rfl | simp [h, h2, h3, h4], S3.out.1.b⟩
set_option maxHeartbeats 4000000 in
theorem order_nlo (cl nu du : Int) (co do' : Bool) (w : World) (hT : Tabs w) (h : nu < du) (h2 : ¬ du < nu) (h3 : ¬ nu = du) (h4 : ¬ du = nu) :
    Calls Tryd.prog 9 #[.agg #[.int .u8 cl, .bool co, .int .u32 nu], .agg #[.int .u8 cl, .bool do', .int .u32 du]] w fun e w' => e = .returned (.bool true) ∧ Below w.heap.size w w' := by
  have S := Lib.hid (Bx2.start cl co nu cl do' du w hT)
  have Hab := Lib.hid (fun W => cmp_any cl co nu cl do' du W)
  have Hba := Lib.hid (fun W => cmp_any cl do' du cl co nu W)
  rw [show cmpT cl co nu cl do' du = (-1) by simp [cmpT, h, h2, h3, h4]] at Hab
  rw [show cmpT cl do' du cl co nu = 1 by simp [cmpT, h, h2, h3, h4]] at Hba
  obtain ⟨⟨x0, x1, x2⟩, ⟨x3, x4, x5⟩⟩ := six S.out
  go_enter Tryd.func9, Tryd.ntmps9
  go_wp2_with (first
    | (go_at_call 24; first
        | (with_reducible refine (Hab.out _).mono ?_; rintro e w1 ⟨rfl, hb⟩; have S1 := Lib.hid (S.out.next hb); clear hb; obtain ⟨⟨y0, y1, y2⟩, ⟨y3, y4, y5⟩⟩ := six S1.out)
        | (with_reducible refine (Hba.out _).mono ?_; rintro e w2 ⟨rfl, hb⟩; have S2 := Lib.hid (S1.out.next hb); clear hb; obtain ⟨⟨z0, z1, z2⟩, ⟨z3, z4, z5⟩⟩ := six S2.out))
    | (go_at_call 10; refine (lives_yes _ S2.out.1.t).mono ?_; rintro e w3 ⟨rfl, hb⟩; have S3 := Lib.hid (S2.out.next hb); clear hb))
  go_ret
  exact ⟨by first | rfl | simp [h, h2, h3, h4], S3.out.1.b⟩
set_option maxHeartbeats 4000000 in
theorem order_nhi (cl nu du : Int) (co do' : Bool) (w : World) (hT : Tabs w) (h : du < nu) (h2 : ¬ nu < du) (h3 : ¬ nu = du) (h4 : ¬ du = nu) :
    Calls Tryd.prog 9 #[.agg #[.int .u8 cl, .bool co, .int .u32 nu], .agg #[.int .u8 cl, .bool do', .int .u32 du]] w fun e w' => e = .returned (.bool true) ∧ Below w.heap.size w w' := by
  have S := Lib.hid (Bx2.start cl co nu cl do' du w hT)
  have Hab := Lib.hid (fun W => cmp_any cl co nu cl do' du W)
  have Hba := Lib.hid (fun W => cmp_any cl do' du cl co nu W)
  rw [show cmpT cl co nu cl do' du = 1 by simp [cmpT, h, h2, h3, h4]] at Hab
  rw [show cmpT cl do' du cl co nu = (-1) by simp [cmpT, h, h2, h3, h4]] at Hba
  obtain ⟨⟨x0, x1, x2⟩, ⟨x3, x4, x5⟩⟩ := six S.out
  go_enter Tryd.func9, Tryd.ntmps9
  go_wp2_with (first
    | (go_at_call 24; first
        | (with_reducible refine (Hab.out _).mono ?_; rintro e w1 ⟨rfl, hb⟩; have S1 := Lib.hid (S.out.next hb); clear hb; obtain ⟨⟨y0, y1, y2⟩, ⟨y3, y4, y5⟩⟩ := six S1.out)
        | (with_reducible refine (Hba.out _).mono ?_; rintro e w2 ⟨rfl, hb⟩; have S2 := Lib.hid (S1.out.next hb); clear hb; obtain ⟨⟨z0, z1, z2⟩, ⟨z3, z4, z5⟩⟩ := six S2.out))
    | (go_at_call 10; refine (lives_yes _ S2.out.1.t).mono ?_; rintro e w3 ⟨rfl, hb⟩; have S3 := Lib.hid (S2.out.next hb); clear hb))
  go_ret
  exact ⟨by first | rfl | simp [h, h2, h3, h4], S3.out.1.b⟩
set_option maxHeartbeats 4000000 in
theorem order_tf (cl nu : Int) (w : World) (hT : Tabs w)  :
    Calls Tryd.prog 9 #[.agg #[.int .u8 cl, .bool true, .int .u32 nu], .agg #[.int .u8 cl, .bool false, .int .u32 nu]] w fun e w' => e = .returned (.bool true) ∧ Below w.heap.size w w' := by
  have S := Lib.hid (Bx2.start cl true nu cl false nu w hT)
  have Hab := Lib.hid (fun W => cmp_any cl true nu cl false nu W)
  have Hba := Lib.hid (fun W => cmp_any cl false nu cl true nu W)
  rw [show cmpT cl true nu cl false nu = 1 by simp [cmpT, cmpT]] at Hab
  rw [show cmpT cl false nu cl true nu = (-1) by simp [cmpT, cmpT]] at Hba
  obtain ⟨⟨x0, x1, x2⟩, ⟨x3, x4, x5⟩⟩ := six S.out
  go_enter Tryd.func9, Tryd.ntmps9
  go_wp2_with (first
    | (go_at_call 24; first
        | (with_reducible refine (Hab.out _).mono ?_; rintro e w1 ⟨rfl, hb⟩; have S1 := Lib.hid (S.out.next hb); clear hb; obtain ⟨⟨y0, y1, y2⟩, ⟨y3, y4, y5⟩⟩ := six S1.out)
        | (with_reducible refine (Hba.out _).mono ?_; rintro e w2 ⟨rfl, hb⟩; have S2 := Lib.hid (S1.out.next hb); clear hb; obtain ⟨⟨z0, z1, z2⟩, ⟨z3, z4, z5⟩⟩ := six S2.out))
    | (go_at_call 10; refine (lives_yes _ S2.out.1.t).mono ?_; rintro e w3 ⟨rfl, hb⟩; have S3 := Lib.hid (S2.out.next hb); clear hb))
  go_ret
  exact ⟨by first | rfl | simp [cmpT], S3.out.1.b⟩
set_option maxHeartbeats 4000000 in
theorem order_ft (cl nu : Int) (w : World) (hT : Tabs w)  :
    Calls Tryd.prog 9 #[.agg #[.int .u8 cl, .bool false, .int .u32 nu], .agg #[.int .u8 cl, .bool true, .int .u32 nu]] w fun e w' => e = .returned (.bool true) ∧ Below w.heap.size w w' := by
  have S := Lib.hid (Bx2.start cl false nu cl true nu w hT)
  have Hab := Lib.hid (fun W => cmp_any cl false nu cl true nu W)
  have Hba := Lib.hid (fun W => cmp_any cl true nu cl false nu W)
  rw [show cmpT cl false nu cl true nu = (-1) by simp [cmpT, cmpT]] at Hab
  rw [show cmpT cl true nu cl false nu = 1 by simp [cmpT, cmpT]] at Hba
  obtain ⟨⟨x0, x1, x2⟩, ⟨x3, x4, x5⟩⟩ := six S.out
  go_enter Tryd.func9, Tryd.ntmps9
  go_wp2_with (first
    | (go_at_call 24; first
        | (with_reducible refine (Hab.out _).mono ?_; rintro e w1 ⟨rfl, hb⟩; have S1 := Lib.hid (S.out.next hb); clear hb; obtain ⟨⟨y0, y1, y2⟩, ⟨y3, y4, y5⟩⟩ := six S1.out)
        | (with_reducible refine (Hba.out _).mono ?_; rintro e w2 ⟨rfl, hb⟩; have S2 := Lib.hid (S1.out.next hb); clear hb; obtain ⟨⟨z0, z1, z2⟩, ⟨z3, z4, z5⟩⟩ := six S2.out))
    | (go_at_call 10; refine (lives_yes _ S2.out.1.t).mono ?_; rintro e w3 ⟨rfl, hb⟩; have S3 := Lib.hid (S2.out.next hb); clear hb))
  go_ret
  exact ⟨by first | rfl | simp [cmpT], S3.out.1.b⟩
set_option maxHeartbeats 4000000 in
theorem order_ee (cl nu : Int) (w : World) (hT : Tabs w)  :
    Calls Tryd.prog 9 #[.agg #[.int .u8 cl, .bool true, .int .u32 nu], .agg #[.int .u8 cl, .bool true, .int .u32 nu]] w fun e w' => e = .returned (.bool true) ∧ Below w.heap.size w w' := by
  have S := Lib.hid (Bx2.start cl true nu cl true nu w hT)
  have Hab := Lib.hid (fun W => cmp_any cl true nu cl true nu W)
  have Hba := Lib.hid (fun W => cmp_any cl true nu cl true nu W)
  rw [show cmpT cl true nu cl true nu = 0 by simp [cmpT, cmpT]] at Hab
  rw [show cmpT cl true nu cl true nu = 0 by simp [cmpT, cmpT]] at Hba
  obtain ⟨⟨x0, x1, x2⟩, ⟨x3, x4, x5⟩⟩ := six S.out
  go_enter Tryd.func9, Tryd.ntmps9
  go_wp2_with (first
    | (go_at_call 24; first
        | (with_reducible refine (Hab.out _).mono ?_; rintro e w1 ⟨rfl, hb⟩; have S1 := Lib.hid (S.out.next hb); clear hb; obtain ⟨⟨y0, y1, y2⟩, ⟨y3, y4, y5⟩⟩ := six S1.out)
        | (with_reducible refine (Hba.out _).mono ?_; rintro e w2 ⟨rfl, hb⟩; have S2 := Lib.hid (S1.out.next hb); clear hb; obtain ⟨⟨z0, z1, z2⟩, ⟨z3, z4, z5⟩⟩ := six S2.out))
    | (go_at_call 10; refine (lives_yes _ S2.out.1.t).mono ?_; rintro e w3 ⟨rfl, hb⟩; have S3 := Lib.hid (S2.out.next hb); clear hb))
  go_ret
  exact ⟨by first | rfl | simp [cmpT], S3.out.1.b⟩
set_option maxHeartbeats 4000000 in
theorem order_ef (cl nu : Int) (w : World) (hT : Tabs w)  :
    Calls Tryd.prog 9 #[.agg #[.int .u8 cl, .bool false, .int .u32 nu], .agg #[.int .u8 cl, .bool false, .int .u32 nu]] w fun e w' => e = .returned (.bool true) ∧ Below w.heap.size w w' := by
  have S := Lib.hid (Bx2.start cl false nu cl false nu w hT)
  have Hab := Lib.hid (fun W => cmp_any cl false nu cl false nu W)
  have Hba := Lib.hid (fun W => cmp_any cl false nu cl false nu W)
  rw [show cmpT cl false nu cl false nu = 0 by simp [cmpT, cmpT]] at Hab
  rw [show cmpT cl false nu cl false nu = 0 by simp [cmpT, cmpT]] at Hba
  obtain ⟨⟨x0, x1, x2⟩, ⟨x3, x4, x5⟩⟩ := six S.out
  go_enter Tryd.func9, Tryd.ntmps9
  go_wp2_with (first
    | (go_at_call 24; first
        | (with_reducible refine (Hab.out _).mono ?_; rintro e w1 ⟨rfl, hb⟩; have S1 := Lib.hid (S.out.next hb); clear hb; obtain ⟨⟨y0, y1, y2⟩, ⟨y3, y4, y5⟩⟩ := six S1.out)
        | (with_reducible refine (Hba.out _).mono ?_; rintro e w2 ⟨rfl, hb⟩; have S2 := Lib.hid (S1.out.next hb); clear hb; obtain ⟨⟨z0, z1, z2⟩, ⟨z3, z4, z5⟩⟩ := six S2.out))
    | (go_at_call 10; refine (lives_yes _ S2.out.1.t).mono ?_; rintro e w3 ⟨rfl, hb⟩; have S3 := Lib.hid (S2.out.next hb); clear hb))
  go_ret
  exact ⟨by first | rfl | simp [cmpT], S3.out.1.b⟩
theorem tagsOrder_walk (cl nu dl du : Int) (co do' : Bool) (w : World) (hT : Tabs w) :
    Calls Tryd.prog 9 #[.agg #[.int .u8 cl, .bool co, .int .u32 nu], .agg #[.int .u8 dl, .bool do', .int .u32 du]] w fun e w' => e = .returned (.bool true) ∧ Below w.heap.size w w' := by
  rcases Int.lt_trichotomy cl dl with h | rfl | h
  · exact order_lo cl dl nu du co do' w hT h (by omega) (by omega) (by omega)
  · rcases Int.lt_trichotomy nu du with g | rfl | g
    · exact order_nlo cl nu du co do' w hT g (by omega) (by omega) (by omega)
    · cases co <;> cases do'
      · exact order_ef cl nu w hT
      · exact order_ft cl nu w hT
      · exact order_tf cl nu w hT
      · exact order_ee cl nu w hT
    · exact order_nhi cl nu du co do' w hT g (by omega) (by omega) (by omega)
  · exact order_hi cl dl nu du co do' w hT h (by omega) (by omega) (by omega)
end Go.Proofs.YtpdomckacfeffaaDoor
