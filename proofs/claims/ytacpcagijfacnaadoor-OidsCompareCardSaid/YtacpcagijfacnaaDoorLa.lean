/- Chapter 6 (oids): the walk of the law OidsCompare. -/
import Derived.Test.YtacpcagijfacnaaDoorWv
import Derived.Test.YtacpcagijfacnaaDoorWd
namespace Go.Proofs.YtacpcagijfacnaaDoor
open Go.RowKit Go.Shelf
open Go.Proofs.YtacpcagijfacnaaDoorW.PrintWords (gate_guard gate_dst gate_store Kd.C_below Kd.C_of_reads Kd.reads_of_C ReadsOf.at_ rdOf blk_new blk_below blk_cell blk_alloc blk_lt blk_frozen blk_drew blk_set Kd.C Kd.int)
set_option linter.unusedSimpArgs false
set_option linter.unusedVariables false
set_option maxRecDepth 50000
/-- Two boxed OIDs, and the tables. -/
structure Q2 (N : Nat) (xs : List Int) (M : Nat) (ys : List Int) (w W : World) : Prop where
  st : St w W
  x : W.heap[w.heap.size]? = some (.cells (oidC (N : Int) xs) 27 (0, 0))
  y : W.heap[w.heap.size + 1]? = some (.cells (oidC (M : Int) ys) 27 (0, 0))
theorem Q2.next {N M : Nat} {xs ys : List Int} {w W W' : World} (h : Q2 N xs M ys w W) (hb : Below W.heap.size W W') : Q2 N xs M ys w W' := ⟨h.st.next hb, blk_below h.x hb, blk_below h.y hb⟩
theorem Q2.start (N : Nat) (xs : List Int) (M : Nat) (ys : List Int) (w : World) (hT : Tabs w) : Q2 N xs M ys w ((w.alloc (.cells (oidC (N : Int) xs) 27)).alloc (.cells (oidC (M : Int) ys) 27)) := by
  have h := Bx2.start N xs M ys w
  exact ⟨((St.refl hT).alloc _).alloc _, h.x, h.y⟩
set_option maxHeartbeats 16000000 in
theorem oidsCompare_walk (N M : Nat) (xs ys : List Int) (w : World) (hT : Tabs w) (hN : N < 256) (hM : M < 256) (hx : xs.length = 16) (hy : ys.length = 16) :
    Calls Tryd.prog 5 #[oidV (N : Int) xs, oidV (M : Int) ys] w fun e w' => e = .returned (.bool true) ∧ Below w.heap.size w w' := by
  have S := Q2.start N xs M ys w hT
  have HX := Lib.hid hx
  have HY := Lib.hid hy
  have HR := Lib.hid (fun W => rcompare_any N xs M ys W hN hM hx hy)
  have HAB := Lib.hid (fun W => compare_any N xs M ys W hN hM hx hy)
  have HBA := Lib.hid (fun W => compare_any M ys N xs W hM hN hy hx)
  have HAA := Lib.hid (fun W => compare_any N xs N xs W hN hN hx hx)
  have CX := Lib.hid (fun W => rcheck_any N xs W hx hN)
  have CY := Lib.hid (fun W => rcheck_any M ys W hy hM)
  have hE : ∀ w, (binOp .eql 27 (.agg (oidC (N : Int) xs)) (.agg (oidC (M : Int) ys))).run Tryd.prog w = .ok (.bool (decide ((N : Int) = (M : Int) ∧ xs = ys))) w := eqlO N xs M ys hx hy
  rw [cmpL_neg (arcsO N xs) (arcsO M ys)] at HBA
  rw [cmpL_self] at HAA
  have hk : chkO (N : Int) xs = 0 → chkO (M : Int) ys = 0 → decide ((N : Int) = (M : Int) ∧ xs = ys) = decide (cmpL (arcsO N xs) (arcsO M ys) = 0) := fun h1 h2 => by
    rw [Bool.eq_iff_iff, decide_eq_true_eq, decide_eq_true_eq]
    constructor
    · rintro ⟨e1, rfl⟩
      obtain rfl : N = M := by omega
      exact cmpL_self _
    · intro h
      obtain ⟨e1, e2⟩ := valid_ext hx hy h1 h2 (cmpL_eq h)
      exact ⟨by rw [e1], e2⟩
  generalize decide ((N : Int) = (M : Int) ∧ xs = ys) = d at *
  have hr3 := cmpL_3 (arcsO N xs) (arcsO M ys)
  generalize cmpL (arcsO N xs) (arcsO M ys) = r at *
  have h1 := chkO_01 (N : Int) xs
  have h2 := chkO_01 (M : Int) ys
  generalize chkO (N : Int) xs = va at *
  generalize chkO (M : Int) ys = vb at *
  clear hx hy
  rcases h1 with rfl | rfl
  · rcases h2 with rfl | rfl
    · have hk2 := hk rfl rfl
      clear hk
      rcases hr3 with rfl | rfl | rfl
      all_goals
        simp at hk2
        subst hk2
        go_enter Tryd.func5, Tryd.ntmps5
        go_wp2_with (first
          | ((with_reducible refine gate_dst (N := 7) rfl ?_); (try (refine gate_guard (by rfl) ?_; dsimp only)); refine wpList_load_row rfl 27 _ rfl (w.heap.size) rfl 27 (oidC (N : Int) xs) (0, 0) _ (Q2.x (by assumption)) Tryd.underlying27 rfl (oid_info _ _ HX.out) ?_)
          | ((with_reducible refine gate_dst (N := 10) rfl ?_); (try (refine gate_guard (by rfl) ?_; dsimp only)); refine wpList_load_row rfl 27 _ rfl (w.heap.size) rfl 27 (oidC (N : Int) xs) (0, 0) _ (Q2.x (by assumption)) Tryd.underlying27 rfl (oid_info _ _ HX.out) ?_)
          | ((with_reducible refine gate_dst (N := 17) rfl ?_); (try (refine gate_guard (by rfl) ?_; dsimp only)); refine wpList_load_row rfl 27 _ rfl (w.heap.size) rfl 27 (oidC (N : Int) xs) (0, 0) _ (Q2.x (by assumption)) Tryd.underlying27 rfl (oid_info _ _ HX.out) ?_)
          | ((with_reducible refine gate_dst (N := 24) rfl ?_); (try (refine gate_guard (by rfl) ?_; dsimp only)); refine wpList_load_row rfl 27 _ rfl (w.heap.size) rfl 27 (oidC (N : Int) xs) (0, 0) _ (Q2.x (by assumption)) Tryd.underlying27 rfl (oid_info _ _ HX.out) ?_)
          | ((with_reducible refine gate_dst (N := 25) rfl ?_); (try (refine gate_guard (by rfl) ?_; dsimp only)); refine wpList_load_row rfl 27 _ rfl (w.heap.size) rfl 27 (oidC (N : Int) xs) (0, 0) _ (Q2.x (by assumption)) Tryd.underlying27 rfl (oid_info _ _ HX.out) ?_)
          | ((with_reducible refine gate_dst (N := 29) rfl ?_); (try (refine gate_guard (by rfl) ?_; dsimp only)); refine wpList_load_row rfl 27 _ rfl (w.heap.size) rfl 27 (oidC (N : Int) xs) (0, 0) _ (Q2.x (by assumption)) Tryd.underlying27 rfl (oid_info _ _ HX.out) ?_)
          | ((with_reducible refine gate_dst (N := 42) rfl ?_); (try (refine gate_guard (by rfl) ?_; dsimp only)); refine wpList_load_row rfl 27 _ rfl (w.heap.size) rfl 27 (oidC (N : Int) xs) (0, 0) _ (Q2.x (by assumption)) Tryd.underlying27 rfl (oid_info _ _ HX.out) ?_)
          | ((with_reducible refine gate_dst (N := 8) rfl ?_); (try (refine gate_guard (by rfl) ?_; dsimp only)); refine wpList_load_row rfl 27 _ rfl (w.heap.size + 1) rfl 27 (oidC (M : Int) ys) (0, 0) _ (Q2.y (by assumption)) Tryd.underlying27 rfl (oid_info _ _ HY.out) ?_)
          | ((with_reducible refine gate_dst (N := 11) rfl ?_); (try (refine gate_guard (by rfl) ?_; dsimp only)); refine wpList_load_row rfl 27 _ rfl (w.heap.size + 1) rfl 27 (oidC (M : Int) ys) (0, 0) _ (Q2.y (by assumption)) Tryd.underlying27 rfl (oid_info _ _ HY.out) ?_)
          | ((with_reducible refine gate_dst (N := 16) rfl ?_); (try (refine gate_guard (by rfl) ?_; dsimp only)); refine wpList_load_row rfl 27 _ rfl (w.heap.size + 1) rfl 27 (oidC (M : Int) ys) (0, 0) _ (Q2.y (by assumption)) Tryd.underlying27 rfl (oid_info _ _ HY.out) ?_)
          | ((with_reducible refine gate_dst (N := 33) rfl ?_); (try (refine gate_guard (by rfl) ?_; dsimp only)); refine wpList_load_row rfl 27 _ rfl (w.heap.size + 1) rfl 27 (oidC (M : Int) ys) (0, 0) _ (Q2.y (by assumption)) Tryd.underlying27 rfl (oid_info _ _ HY.out) ?_)
          | ((with_reducible refine gate_dst (N := 43) rfl ?_); (try (refine gate_guard (by rfl) ?_; dsimp only)); refine wpList_load_row rfl 27 _ rfl (w.heap.size + 1) rfl 27 (oidC (M : Int) ys) (0, 0) _ (Q2.y (by assumption)) Tryd.underlying27 rfl (oid_info _ _ HY.out) ?_)
          | (go_at_call 16; first
        | ((with_reducible refine (HR.out _).mono ?_); rintro e w' ⟨rfl, hb⟩; have S := Q2.next (by assumption) hb; clear hb))
          | (go_at_call 17; first
        | ((with_reducible refine (HAB.out _).mono ?_); rintro e w' ⟨rfl, hb⟩; have S := Q2.next (by assumption) hb; clear hb)
        | ((with_reducible refine (HBA.out _).mono ?_); rintro e w' ⟨rfl, hb⟩; have S := Q2.next (by assumption) hb; clear hb)
        | ((with_reducible refine (HAA.out _).mono ?_); rintro e w' ⟨rfl, hb⟩; have S := Q2.next (by assumption) hb; clear hb))
          | (go_at_call 18; first
        | ((with_reducible refine (CX.out _).mono ?_); rintro e w' ⟨rfl, hb⟩; have S := Q2.next (by assumption) hb; clear hb)
        | ((with_reducible refine (CY.out _).mono ?_); rintro e w' ⟨rfl, hb⟩; have S := Q2.next (by assumption) hb; clear hb))
          | (go_at_call 8; first
        | ((with_reducible refine (lives_yes _ (Q2.st (by assumption)).t).mono ?_); rintro e w' ⟨rfl, hb⟩; have S := Q2.next (by assumption) hb; clear hb)))
        go_ret
        exact ⟨rfl, (Q2.st (by assumption)).b⟩
    · clear hk hE
      rcases hr3 with rfl | rfl | rfl
      all_goals
        go_enter Tryd.func5, Tryd.ntmps5
        go_wp2_with (first
          | ((with_reducible refine gate_dst (N := 7) rfl ?_); (try (refine gate_guard (by rfl) ?_; dsimp only)); refine wpList_load_row rfl 27 _ rfl (w.heap.size) rfl 27 (oidC (N : Int) xs) (0, 0) _ (Q2.x (by assumption)) Tryd.underlying27 rfl (oid_info _ _ HX.out) ?_)
          | ((with_reducible refine gate_dst (N := 10) rfl ?_); (try (refine gate_guard (by rfl) ?_; dsimp only)); refine wpList_load_row rfl 27 _ rfl (w.heap.size) rfl 27 (oidC (N : Int) xs) (0, 0) _ (Q2.x (by assumption)) Tryd.underlying27 rfl (oid_info _ _ HX.out) ?_)
          | ((with_reducible refine gate_dst (N := 17) rfl ?_); (try (refine gate_guard (by rfl) ?_; dsimp only)); refine wpList_load_row rfl 27 _ rfl (w.heap.size) rfl 27 (oidC (N : Int) xs) (0, 0) _ (Q2.x (by assumption)) Tryd.underlying27 rfl (oid_info _ _ HX.out) ?_)
          | ((with_reducible refine gate_dst (N := 24) rfl ?_); (try (refine gate_guard (by rfl) ?_; dsimp only)); refine wpList_load_row rfl 27 _ rfl (w.heap.size) rfl 27 (oidC (N : Int) xs) (0, 0) _ (Q2.x (by assumption)) Tryd.underlying27 rfl (oid_info _ _ HX.out) ?_)
          | ((with_reducible refine gate_dst (N := 25) rfl ?_); (try (refine gate_guard (by rfl) ?_; dsimp only)); refine wpList_load_row rfl 27 _ rfl (w.heap.size) rfl 27 (oidC (N : Int) xs) (0, 0) _ (Q2.x (by assumption)) Tryd.underlying27 rfl (oid_info _ _ HX.out) ?_)
          | ((with_reducible refine gate_dst (N := 29) rfl ?_); (try (refine gate_guard (by rfl) ?_; dsimp only)); refine wpList_load_row rfl 27 _ rfl (w.heap.size) rfl 27 (oidC (N : Int) xs) (0, 0) _ (Q2.x (by assumption)) Tryd.underlying27 rfl (oid_info _ _ HX.out) ?_)
          | ((with_reducible refine gate_dst (N := 42) rfl ?_); (try (refine gate_guard (by rfl) ?_; dsimp only)); refine wpList_load_row rfl 27 _ rfl (w.heap.size) rfl 27 (oidC (N : Int) xs) (0, 0) _ (Q2.x (by assumption)) Tryd.underlying27 rfl (oid_info _ _ HX.out) ?_)
          | ((with_reducible refine gate_dst (N := 8) rfl ?_); (try (refine gate_guard (by rfl) ?_; dsimp only)); refine wpList_load_row rfl 27 _ rfl (w.heap.size + 1) rfl 27 (oidC (M : Int) ys) (0, 0) _ (Q2.y (by assumption)) Tryd.underlying27 rfl (oid_info _ _ HY.out) ?_)
          | ((with_reducible refine gate_dst (N := 11) rfl ?_); (try (refine gate_guard (by rfl) ?_; dsimp only)); refine wpList_load_row rfl 27 _ rfl (w.heap.size + 1) rfl 27 (oidC (M : Int) ys) (0, 0) _ (Q2.y (by assumption)) Tryd.underlying27 rfl (oid_info _ _ HY.out) ?_)
          | ((with_reducible refine gate_dst (N := 16) rfl ?_); (try (refine gate_guard (by rfl) ?_; dsimp only)); refine wpList_load_row rfl 27 _ rfl (w.heap.size + 1) rfl 27 (oidC (M : Int) ys) (0, 0) _ (Q2.y (by assumption)) Tryd.underlying27 rfl (oid_info _ _ HY.out) ?_)
          | ((with_reducible refine gate_dst (N := 33) rfl ?_); (try (refine gate_guard (by rfl) ?_; dsimp only)); refine wpList_load_row rfl 27 _ rfl (w.heap.size + 1) rfl 27 (oidC (M : Int) ys) (0, 0) _ (Q2.y (by assumption)) Tryd.underlying27 rfl (oid_info _ _ HY.out) ?_)
          | ((with_reducible refine gate_dst (N := 43) rfl ?_); (try (refine gate_guard (by rfl) ?_; dsimp only)); refine wpList_load_row rfl 27 _ rfl (w.heap.size + 1) rfl 27 (oidC (M : Int) ys) (0, 0) _ (Q2.y (by assumption)) Tryd.underlying27 rfl (oid_info _ _ HY.out) ?_)
          | (go_at_call 16; first
        | ((with_reducible refine (HR.out _).mono ?_); rintro e w' ⟨rfl, hb⟩; have S := Q2.next (by assumption) hb; clear hb))
          | (go_at_call 17; first
        | ((with_reducible refine (HAB.out _).mono ?_); rintro e w' ⟨rfl, hb⟩; have S := Q2.next (by assumption) hb; clear hb)
        | ((with_reducible refine (HBA.out _).mono ?_); rintro e w' ⟨rfl, hb⟩; have S := Q2.next (by assumption) hb; clear hb)
        | ((with_reducible refine (HAA.out _).mono ?_); rintro e w' ⟨rfl, hb⟩; have S := Q2.next (by assumption) hb; clear hb))
          | (go_at_call 18; first
        | ((with_reducible refine (CX.out _).mono ?_); rintro e w' ⟨rfl, hb⟩; have S := Q2.next (by assumption) hb; clear hb)
        | ((with_reducible refine (CY.out _).mono ?_); rintro e w' ⟨rfl, hb⟩; have S := Q2.next (by assumption) hb; clear hb))
          | (go_at_call 8; first
        | ((with_reducible refine (lives_yes _ (Q2.st (by assumption)).t).mono ?_); rintro e w' ⟨rfl, hb⟩; have S := Q2.next (by assumption) hb; clear hb)))
        go_ret
        exact ⟨rfl, (Q2.st (by assumption)).b⟩
  · clear hk hE
    rcases hr3 with rfl | rfl | rfl
    all_goals
      go_enter Tryd.func5, Tryd.ntmps5
      go_wp2_with (first
        | ((with_reducible refine gate_dst (N := 7) rfl ?_); (try (refine gate_guard (by rfl) ?_; dsimp only)); refine wpList_load_row rfl 27 _ rfl (w.heap.size) rfl 27 (oidC (N : Int) xs) (0, 0) _ (Q2.x (by assumption)) Tryd.underlying27 rfl (oid_info _ _ HX.out) ?_)
        | ((with_reducible refine gate_dst (N := 10) rfl ?_); (try (refine gate_guard (by rfl) ?_; dsimp only)); refine wpList_load_row rfl 27 _ rfl (w.heap.size) rfl 27 (oidC (N : Int) xs) (0, 0) _ (Q2.x (by assumption)) Tryd.underlying27 rfl (oid_info _ _ HX.out) ?_)
        | ((with_reducible refine gate_dst (N := 17) rfl ?_); (try (refine gate_guard (by rfl) ?_; dsimp only)); refine wpList_load_row rfl 27 _ rfl (w.heap.size) rfl 27 (oidC (N : Int) xs) (0, 0) _ (Q2.x (by assumption)) Tryd.underlying27 rfl (oid_info _ _ HX.out) ?_)
        | ((with_reducible refine gate_dst (N := 24) rfl ?_); (try (refine gate_guard (by rfl) ?_; dsimp only)); refine wpList_load_row rfl 27 _ rfl (w.heap.size) rfl 27 (oidC (N : Int) xs) (0, 0) _ (Q2.x (by assumption)) Tryd.underlying27 rfl (oid_info _ _ HX.out) ?_)
        | ((with_reducible refine gate_dst (N := 25) rfl ?_); (try (refine gate_guard (by rfl) ?_; dsimp only)); refine wpList_load_row rfl 27 _ rfl (w.heap.size) rfl 27 (oidC (N : Int) xs) (0, 0) _ (Q2.x (by assumption)) Tryd.underlying27 rfl (oid_info _ _ HX.out) ?_)
        | ((with_reducible refine gate_dst (N := 29) rfl ?_); (try (refine gate_guard (by rfl) ?_; dsimp only)); refine wpList_load_row rfl 27 _ rfl (w.heap.size) rfl 27 (oidC (N : Int) xs) (0, 0) _ (Q2.x (by assumption)) Tryd.underlying27 rfl (oid_info _ _ HX.out) ?_)
        | ((with_reducible refine gate_dst (N := 42) rfl ?_); (try (refine gate_guard (by rfl) ?_; dsimp only)); refine wpList_load_row rfl 27 _ rfl (w.heap.size) rfl 27 (oidC (N : Int) xs) (0, 0) _ (Q2.x (by assumption)) Tryd.underlying27 rfl (oid_info _ _ HX.out) ?_)
        | ((with_reducible refine gate_dst (N := 8) rfl ?_); (try (refine gate_guard (by rfl) ?_; dsimp only)); refine wpList_load_row rfl 27 _ rfl (w.heap.size + 1) rfl 27 (oidC (M : Int) ys) (0, 0) _ (Q2.y (by assumption)) Tryd.underlying27 rfl (oid_info _ _ HY.out) ?_)
        | ((with_reducible refine gate_dst (N := 11) rfl ?_); (try (refine gate_guard (by rfl) ?_; dsimp only)); refine wpList_load_row rfl 27 _ rfl (w.heap.size + 1) rfl 27 (oidC (M : Int) ys) (0, 0) _ (Q2.y (by assumption)) Tryd.underlying27 rfl (oid_info _ _ HY.out) ?_)
        | ((with_reducible refine gate_dst (N := 16) rfl ?_); (try (refine gate_guard (by rfl) ?_; dsimp only)); refine wpList_load_row rfl 27 _ rfl (w.heap.size + 1) rfl 27 (oidC (M : Int) ys) (0, 0) _ (Q2.y (by assumption)) Tryd.underlying27 rfl (oid_info _ _ HY.out) ?_)
        | ((with_reducible refine gate_dst (N := 33) rfl ?_); (try (refine gate_guard (by rfl) ?_; dsimp only)); refine wpList_load_row rfl 27 _ rfl (w.heap.size + 1) rfl 27 (oidC (M : Int) ys) (0, 0) _ (Q2.y (by assumption)) Tryd.underlying27 rfl (oid_info _ _ HY.out) ?_)
        | ((with_reducible refine gate_dst (N := 43) rfl ?_); (try (refine gate_guard (by rfl) ?_; dsimp only)); refine wpList_load_row rfl 27 _ rfl (w.heap.size + 1) rfl 27 (oidC (M : Int) ys) (0, 0) _ (Q2.y (by assumption)) Tryd.underlying27 rfl (oid_info _ _ HY.out) ?_)
        | (go_at_call 16; first
        | ((with_reducible refine (HR.out _).mono ?_); rintro e w' ⟨rfl, hb⟩; have S := Q2.next (by assumption) hb; clear hb))
        | (go_at_call 17; first
        | ((with_reducible refine (HAB.out _).mono ?_); rintro e w' ⟨rfl, hb⟩; have S := Q2.next (by assumption) hb; clear hb)
        | ((with_reducible refine (HBA.out _).mono ?_); rintro e w' ⟨rfl, hb⟩; have S := Q2.next (by assumption) hb; clear hb)
        | ((with_reducible refine (HAA.out _).mono ?_); rintro e w' ⟨rfl, hb⟩; have S := Q2.next (by assumption) hb; clear hb))
        | (go_at_call 18; first
        | ((with_reducible refine (CX.out _).mono ?_); rintro e w' ⟨rfl, hb⟩; have S := Q2.next (by assumption) hb; clear hb)
        | ((with_reducible refine (CY.out _).mono ?_); rintro e w' ⟨rfl, hb⟩; have S := Q2.next (by assumption) hb; clear hb))
        | (go_at_call 8; first
        | ((with_reducible refine (lives_yes _ (Q2.st (by assumption)).t).mono ?_); rintro e w' ⟨rfl, hb⟩; have S := Q2.next (by assumption) hb; clear hb)))
      go_ret
      exact ⟨rfl, (Q2.st (by assumption)).b⟩
end Go.Proofs.YtacpcagijfacnaaDoor
