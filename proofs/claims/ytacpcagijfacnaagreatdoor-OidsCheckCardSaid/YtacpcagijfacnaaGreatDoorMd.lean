/- Chapter 6 (oids): the walk of the law OidsCheck. -/
import Derived.Test.YtacpcagijfacnaaGreatDoorMc
namespace Go.Proofs.YtacpcagijfacnaaGreatDoor
open Go.RowKit Go.Shelf
open Go.Proofs.YtacpcagijfacnaaGreatDoorW.PrintLast
open Go.Proofs.YtacpcagijfacnaaGreatDoorW.PrintWords (gate_guard gate_dst gate_store Kd.C_below Kd.C_of_reads Kd.reads_of_C ReadsOf.at_ rdOf blk_new blk_below blk_cell blk_alloc blk_lt blk_frozen blk_drew blk_set Kd.C Kd.int)
set_option linter.unusedSimpArgs false
set_option linter.unusedVariables false
set_option maxRecDepth 50000
theorem eq_yieldsB (S : World → Prop) {oi : Oper} {a : Act} (x y : Operand) (ho : oi.op = .binOp .eql 28 x y 28) (n : Int) (xs : List Int) (m : Int) (ys : List Int) (hx : a.eval x = .agg (oidC n xs)) (hy : a.eval y = .agg (oidC m ys)) (lx : xs.length = 16) (ly : ys.length = 16) {b : Bool} (h : decide (n = m ∧ xs = ys) = b) : ∀ W, S W → (execOp a.eval oi).run Tryz.prog W = .ok (.value (.bool b)) W := by
  intro W hS
  have hq := eqlO n xs m ys lx ly W
  rw [h] at hq
  unfold execOp
  simp only [ho, hx, hy, Sem.run_bind, run_eqGuard_agg W .eql 28 x y _ _ guardO, hq, Result.andThen_ok, Sem.run_pure]
theorem neq_yieldsB (S : World → Prop) {oi : Oper} {a : Act} (x y : Operand) (ho : oi.op = .binOp .neq 28 x y 28) (n : Int) (xs : List Int) (m : Int) (ys : List Int) (hx : a.eval x = .agg (oidC n xs)) (hy : a.eval y = .agg (oidC m ys)) (lx : xs.length = 16) (ly : ys.length = 16) {b : Bool} (h : decide (n = m ∧ xs = ys) = b) : ∀ W, S W → (execOp a.eval oi).run Tryz.prog W = .ok (.value (.bool (!b))) W := by
  intro W hS
  have hq := neqO n xs m ys lx ly W
  rw [h] at hq
  unfold execOp
  simp only [ho, hx, hy, Sem.run_bind, run_eqGuard_agg W .neq 28 x y _ _ guardO, hq, Result.andThen_ok, Sem.run_pure]
/-- One boxed OID. -/
structure Q1 (n : Int) (xs : List Int) (w W : World) : Prop where
  b : Below w.heap.size w W
  x : W.heap[w.heap.size]? = some (.cells (oidC n xs) 28 (0, 0))
theorem Q1.next {n : Int} {xs : List Int} {w W W' : World} (h : Q1 n xs w W) (hb : Below W.heap.size W W') : Q1 n xs w W' := ⟨h.b.trans (hb.mono h.b.size), blk_below h.x hb⟩
set_option maxHeartbeats 4000000 in
/-- IsAny: is it anyPolicy? -/
theorem isany_any (n : Int) (xs : List Int) (b : Bool) (w : World) (hx : xs.length = 16) (hb : decide (n = 5 ∧ xs = anyX) = b) :
    Calls Tryz.prog 21 #[oidV n xs] w fun e w' => e = .returned (.bool b) ∧ Below w.heap.size w w' := by
  have HX0 : Q1 n xs w (w.alloc (.cells (oidC n xs) 28)) := ⟨(Below.refl _ _).alloc (Nat.le_refl _) _, blk_new w _⟩
  go_enter Tryz.func21, Tryz.ntmps21
  go_upto_region 1 with fail
  generalize w.alloc (.cells (oidC n xs) 28) = W0 at *
  have HX := HX0.next (Below.refl _ _).drew
  refine start_ (n := 4) (S := fun W => Q1 n xs w W) (ds := []) #[false, false, false, false] (by kernel_rfl) rfl rfl HX (fun HS => ?_)
  refine take_ (i := 0) (N := some 3) (v := ?_) (a' := ?_) #[true, false, false, false] rfl rfl (by kernel_rfl) (fun _ _ _ h => h) (Or.inl ⟨by rfl, ?_⟩) (by assumption) ?_ ?_
  rotate_left
  · refine load_yields (fun W => Q1 n xs w W) 28 (.tmp 1) ?_ (w.heap.size) ?_ 28 (oidC n xs) _ (fun W h => Q1.x h) Tryz.underlying28 rfl (oid_info _ _ hx)
    · rfl
    · rfl
  rotate_left
  · simp only [Act.put, List.setIfInBounds_toArray, List.set_cons_zero, List.set_cons_succ, i64_w, i32_w]
    rfl
  refine one_ (i := 1) (N := some 4) #[true, true, false, false] rfl rfl (by kernel_rfl) (by decide) (fun K hK => ?_)
  refine goes_ Tryz.func61 (by kernel_rfl) rfl #[] (by rfl) rfl rfl (by (try simp only [List.map_toArray, List.map_cons, List.map_nil]); first | done | rfl) ?_
  refine (any_is _).mono ?_
  rintro e w' ⟨rfl, hb1⟩
  refine ⟨_, rfl, ?_⟩
  replace HX := HX.next hb1
  clear hb1
  refine hK.out _ _ HX (fun HS => ?_)
  clear hK K
  refine norm_ (a' := ?_) ?_ ?_
  rotate_left
  · show Act.put _ (some 4) _ = _
    simp only [Act.put, List.setIfInBounds_toArray, List.set_cons_zero, List.set_cons_succ, i64_w, i32_w]
    rfl
  refine take_ (i := 2) (N := some 5) (v := ?_) (a' := ?_) #[true, true, true, false] rfl rfl (by kernel_rfl) (fun _ _ _ h => h) (Or.inl ⟨by rfl, ?_⟩) (by assumption) ?_ ?_
  rotate_left
  · refine eq_yieldsB (fun W => Q1 n xs w W) (.tmp 3) (.tmp 4) ?_ n xs 5 anyX ?_ ?_ hx rfl hb
    · rfl
    · rfl
    · rfl
  rotate_left
  · simp only [Act.put, List.setIfInBounds_toArray, List.set_cons_zero, List.set_cons_succ, i64_w, i32_w]
    rfl
  refine take_ (i := 3) (N := some 2) (v := ?_) (a' := ?_) #[true, true, true, true] rfl rfl (by kernel_rfl) (fun _ _ _ h => h) (Or.inl ⟨by rfl, ?_⟩) (by assumption) ?_ ?_
  rotate_left
  · rintro W' hS'
    go_simp
    with_reducible rfl
  rotate_left
  · simp only [Act.put, List.setIfInBounds_toArray, List.set_cons_zero, List.set_cons_succ, i64_w, i32_w]
    rfl
  refine done_ (by kernel_rfl) ?_
  go_wp2
  go_ret
  exact ⟨rfl, HX.b⟩
/-- Two boxed OIDs, and the tables. -/
structure Q2 (N : Nat) (xs : List Int) (M : Nat) (ys : List Int) (w W : World) : Prop where
  st : St w W
  x : W.heap[w.heap.size]? = some (.cells (oidC (N : Int) xs) 28 (0, 0))
  y : W.heap[w.heap.size + 1]? = some (.cells (oidC (M : Int) ys) 28 (0, 0))
theorem Q2.next {N M : Nat} {xs ys : List Int} {w W W' : World} (h : Q2 N xs M ys w W) (hb : Below W.heap.size W W') : Q2 N xs M ys w W' := ⟨h.st.next hb, blk_below h.x hb, blk_below h.y hb⟩
theorem Q2.start (N : Nat) (xs : List Int) (M : Nat) (ys : List Int) (w : World) (hT : Tabs w) : Q2 N xs M ys w ((w.alloc (.cells (oidC (N : Int) xs) 28)).alloc (.cells (oidC (M : Int) ys) 28)) := by
  have h := Bx2.start N xs M ys w
  exact ⟨((St.refl hT).alloc _).alloc _, h.x, h.y⟩
theorem Q1.start (n : Int) (xs : List Int) (w : World) : Q1 n xs w (w.alloc (.cells (oidC n xs) 28)) := ⟨(Below.refl _ _).alloc (Nat.le_refl _) _, blk_new w _⟩
theorem Q1.put {n : Int} {xs : List Int} {w W : World} (h : Q1 n xs w W) (rn : Int) (rx : List Int) : Q1 rn rx w (W.setRow w.heap.size (oidC rn rx)) := ⟨below_setRow h.b (Nat.le_refl _) _, setRow_heap _ _ _ _ _ _ h.x⟩
theorem same_nil (f : Int) (w : World) : Calls Tryz.prog 13 #[.slice none 0 0, .int .i64 f, .slice none 0 0, .int .i64 f] w fun e w' => e = .returned (.bool true) ∧ Below w.heap.size w w' :=
  (same_gen _ _ _ _ _ _ f f _ _ true w (fun W hW => conv_arg (l := []) (fun x hx => by cases hx) (Kd.C_of_reads (d := (0 : Int)) (h1 := fun _ => rfl) ⟨rfl, by simp, fun hn => absurd hn (by simp)⟩)) (fun W hW => conv_arg (l := []) (fun x hx => by cases hx) (Kd.C_of_reads (d := (0 : Int)) (h1 := fun _ => rfl) ⟨rfl, by simp, fun hn => absurd hn (by simp)⟩)) (by simp)).mono fun e w' ⟨h, hw⟩ => ⟨h, by subst hw; exact Below.refl _ _⟩
set_option maxHeartbeats 8000000 in
theorem ocheck_0long (N : Nat) (xs : List Int) (M : Nat) (ys : List Int) (A : Option Addr) (l : List Int) (c : Nat) (w : World) (hT : Tabs w) (hN : N < 256) (hM : M < 256) (hx : xs.length = 16) (hy : ys.length = 16) (hr : Kd.C (Kd.int .u32) w A l.length l) (hc : l.length ≤ c) (h20 : l.length ≤ 20) (hwr : chkO (N : Int) xs = 0) (hlen : 16 < l.length) :
    Calls Tryz.prog 4 #[oidV (N : Int) xs, oidV (M : Int) ys, .slice A l.length c] w fun e w' => e = .returned (.bool true) ∧ Below w.heap.size w w' := by
  have S := Q2.start N xs M ys w hT
  have HX := Lib.hid hx
  have HY := Lib.hid hy
  have h20' : ¬ (20 : Int) < (l.length : Int) := by omega
  have HCR := Lib.hid (fun W => rcheck_any N xs W hx hN)
  have HCK := Lib.hid (fun W => check_any (N : Int) xs W hx (by omega))
  obtain ⟨b, hb⟩ : ∃ b, decide ((N : Int) = 5 ∧ xs = anyX) = b := ⟨_, rfl⟩
  have HIA := Lib.hid (fun W => isany_any (N : Int) xs b W hx hb)
  have HB := Lib.hid hb
  rw [hwr] at HCR HCK
  have h17 : ¬ (l.length : Int) < 17 := by omega
  have HOF := Lib.hid (fun W (_ : Below w.heap.size w W) => of_long A c l W (by omega))
  clear hx hy hwr hT hN hM hr hc hb h20 hlen
  go_enter Tryz.func4, Tryz.ntmps4
  go_upto_region 4 with (first
    | ((with_reducible refine gate_dst (N := 15) rfl ?_); (try (refine gate_guard (by rfl) ?_; dsimp only)); refine wpList_load_row rfl 28 _ rfl (w.heap.size) rfl 28 (oidC (N : Int) xs) (0, 0) _ (Q2.x (by assumption)) Tryz.underlying28 rfl (oid_info _ _ HX.out) ?_)
    | (go_at_call 20; refine (HCR.out _).mono ?_; rintro e w3 ⟨rfl, hq⟩; have HS4 := Q2.next S hq; clear hq))
  replace HS4 := HS4.next (Below.refl _ _).drew
  clear S
  refine start_ (n := 12) (S := fun W => Q2 N xs M ys w W) (ds := []) #[false, false, false, false, false, false, false, false, false, false, false, false] (by kernel_rfl) rfl rfl HS4 (fun HS => ?_)
  refine take_ (i := 0) (N := some 17) (v := ?_) (a' := ?_) #[true, false, false, false, false, false, false, false, false, false, false, false] rfl rfl (by kernel_rfl) (fun _ _ _ h => h) (Or.inl ⟨by rfl, ?_⟩) (by assumption) ?_ ?_
  rotate_left
  · refine load_yields (fun W => Q2 N xs M ys w W) 28 (.tmp 3) ?_ (w.heap.size) ?_ 28 (oidC (N : Int) xs) _ (fun W h => Q2.x h) Tryz.underlying28 rfl (oid_info _ _ HX.out)
    · rfl
    · rfl
  rotate_left
  · simp only [Act.put, List.setIfInBounds_toArray, List.set_cons_zero, List.set_cons_succ, i64_w, i32_w]
    rfl
  refine take_ (i := 2) (N := some 19) (v := ?_) (a' := ?_) #[true, false, true, false, false, false, false, false, false, false, false, false] rfl rfl (by kernel_rfl) (fun _ _ _ h => h) (Or.inl ⟨by rfl, ?_⟩) (by assumption) ?_ ?_
  rotate_left
  · rintro W' hS'
    go_simp
    with_reducible rfl
  rotate_left
  · simp only [Act.put, List.setIfInBounds_toArray, List.set_cons_zero, List.set_cons_succ, i64_w, i32_w]
    rfl
  refine one_ (i := 1) (N := some 18) #[true, true, true, false, false, false, false, false, false, false, false, false] rfl rfl (by kernel_rfl) (by decide) (fun K hK => ?_)
  refine goes_ Tryz.func18 (by kernel_rfl) rfl #[oidV (N : Int) xs] (by rfl) rfl rfl (by (try simp only [List.map_toArray, List.map_cons, List.map_nil]); first | done | rfl) ?_
  refine (HCK.out _).mono ?_
  rintro e w4 ⟨rfl, hq⟩
  refine ⟨_, rfl, ?_⟩
  replace HS4 := HS4.next hq
  clear hq
  refine hK.out _ _ HS4 (fun HS => ?_)
  clear hK K
  refine norm_ (a' := ?_) ?_ ?_
  rotate_left
  · show Act.put _ (some 18) _ = _
    simp only [Act.put, List.setIfInBounds_toArray, List.set_cons_zero, List.set_cons_succ, i64_w, i32_w]
    rfl
  refine take_ (i := 3) (N := some 20) (v := ?_) (a' := ?_) #[true, true, true, true, false, false, false, false, false, false, false, false] rfl rfl (by kernel_rfl) (fun _ _ _ h => h) (Or.inl ⟨by rfl, ?_⟩) (by assumption) ?_ ?_
  rotate_left
  · rintro W' hS'
    go_simp
    with_reducible rfl
  rotate_left
  · simp only [Act.put, List.setIfInBounds_toArray, List.set_cons_zero, List.set_cons_succ, i64_w, i32_w]
    rfl
  refine take_ (i := 4) (N := some 21) (v := ?_) (a' := ?_) #[true, true, true, true, true, false, false, false, false, false, false, false] rfl rfl (by kernel_rfl) (fun _ _ _ h => h) (Or.inl ⟨by rfl, ?_⟩) (by assumption) ?_ ?_
  rotate_left
  · rintro W' hS'
    go_simp
    with_reducible rfl
  rotate_left
  · simp only [Act.put, List.setIfInBounds_toArray, List.set_cons_zero, List.set_cons_succ, i64_w, i32_w]
    rfl
  refine take_ (i := 5) (N := some 22) (v := ?_) (a' := ?_) #[true, true, true, true, true, true, false, false, false, false, false, false] rfl rfl (by kernel_rfl) (fun _ _ _ h => h) (Or.inl ⟨by rfl, ?_⟩) (by assumption) ?_ ?_
  rotate_left
  · refine load_yields (fun W => Q2 N xs M ys w W) 28 (.tmp 3) ?_ (w.heap.size) ?_ 28 (oidC (N : Int) xs) _ (fun W h => Q2.x h) Tryz.underlying28 rfl (oid_info _ _ HX.out)
    · rfl
    · rfl
  rotate_left
  · simp only [Act.put, List.setIfInBounds_toArray, List.set_cons_zero, List.set_cons_succ, i64_w, i32_w]
    rfl
  refine take_ (i := 7) (N := some 24) (v := ?_) (a' := ?_) #[true, true, true, true, true, true, false, true, false, false, false, false] rfl rfl (by kernel_rfl) (fun _ _ _ h => h) (Or.inl ⟨by rfl, ?_⟩) (by assumption) ?_ ?_
  rotate_left
  · refine load_yields (fun W => Q2 N xs M ys w W) 28 (.tmp 3) ?_ (w.heap.size) ?_ 28 (oidC (N : Int) xs) _ (fun W h => Q2.x h) Tryz.underlying28 rfl (oid_info _ _ HX.out)
    · rfl
    · rfl
  rotate_left
  · simp only [Act.put, List.setIfInBounds_toArray, List.set_cons_zero, List.set_cons_succ, i64_w, i32_w]
    rfl
  refine one_ (i := 6) (N := some 23) #[true, true, true, true, true, true, true, true, false, false, false, false] rfl rfl (by kernel_rfl) (by decide) (fun K hK => ?_)
  refine goes_ Tryz.func21 (by kernel_rfl) rfl #[oidV (N : Int) xs] (by rfl) rfl rfl (by (try simp only [List.map_toArray, List.map_cons, List.map_nil]); first | done | rfl) ?_
  refine (HIA.out _).mono ?_
  rintro e w4 ⟨rfl, hq⟩
  refine ⟨_, rfl, ?_⟩
  replace HS4 := HS4.next hq
  clear hq
  refine hK.out _ _ HS4 (fun HS => ?_)
  clear hK K
  refine norm_ (a' := ?_) ?_ ?_
  rotate_left
  · show Act.put _ (some 23) _ = _
    simp only [Act.put, List.setIfInBounds_toArray, List.set_cons_zero, List.set_cons_succ, i64_w, i32_w]
    rfl
  refine one_ (i := 8) (N := some 25) #[true, true, true, true, true, true, true, true, true, false, false, false] rfl rfl (by kernel_rfl) (by decide) (fun K hK => ?_)
  refine goes_ Tryz.func22 (by kernel_rfl) rfl #[] (by rfl) rfl rfl (by (try simp only [List.map_toArray, List.map_cons, List.map_nil]); first | done | rfl) ?_
  refine (rany_is _).mono ?_
  rintro e w4 ⟨rfl, hq⟩
  refine ⟨_, rfl, ?_⟩
  replace HS4 := HS4.next hq
  clear hq
  refine hK.out _ _ HS4 (fun HS => ?_)
  clear hK K
  refine norm_ (a' := ?_) ?_ ?_
  rotate_left
  · show Act.put _ (some 25) _ = _
    simp only [Act.put, List.setIfInBounds_toArray, List.set_cons_zero, List.set_cons_succ, i64_w, i32_w]
    rfl
  refine take_ (i := 9) (N := some 26) (v := ?_) (a' := ?_) #[true, true, true, true, true, true, true, true, true, true, false, false] rfl rfl (by kernel_rfl) (fun _ _ _ h => h) (Or.inl ⟨by rfl, ?_⟩) (by assumption) ?_ ?_
  rotate_left
  · refine eq_yieldsB (fun W => Q2 N xs M ys w W) (.tmp 24) (.tmp 25) ?_ (N : Int) xs 5 anyX ?_ ?_ HX.out rfl HB.out
    · rfl
    · rfl
    · rfl
  rotate_left
  · simp only [Act.put, List.setIfInBounds_toArray, List.set_cons_zero, List.set_cons_succ, i64_w, i32_w]
    rfl
  refine take_ (i := 10) (N := some 27) (v := ?_) (a' := ?_) #[true, true, true, true, true, true, true, true, true, true, true, false] rfl rfl (by kernel_rfl) (fun _ _ _ h => h) (Or.inl ⟨by rfl, ?_⟩) (by assumption) ?_ ?_
  rotate_left
  · rintro W' hS'
    go_simp
    with_reducible rfl
  rotate_left
  · simp only [Act.put, List.setIfInBounds_toArray, List.set_cons_zero, List.set_cons_succ, i64_w, i32_w]
    rfl
  refine take_ (i := 11) (N := some 28) (v := ?_) (a' := ?_) #[true, true, true, true, true, true, true, true, true, true, true, true] rfl rfl (by kernel_rfl) (fun _ _ _ h => h) (Or.inl ⟨by rfl, ?_⟩) (by assumption) ?_ ?_
  rotate_left
  · rintro W' hS'
    go_simp
    with_reducible rfl
  rotate_left
  · simp only [Act.put, List.setIfInBounds_toArray, List.set_cons_zero, List.set_cons_succ, i64_w, i32_w]
    rfl
  refine done_ (by kernel_rfl) ?_
  clear HS
  go_upto_region 7 with fail
  rw [zrow]
  have HQ := Q1.start 0 Z16 w4
  change Code.wp _ _ _ _ (w4.alloc (.cells (oidC 0 Z16) 28))
  generalize w4.alloc (.cells (oidC 0 Z16) 28) = W7 at *
  go_upto_region 9 with fail
  replace HQ := HQ.next (Below.refl _ _).drew
  refine start_ (n := 4) (S := fun W => Q1 0 Z16 w4 W) (ds := []) #[false, false, false, false] (by kernel_rfl) rfl rfl HQ (fun HS => ?_)
  refine take_ (i := 0) (N := some 40) (v := ?_) (a' := ?_) #[true, false, false, false] rfl rfl (by kernel_rfl) (fun _ _ _ h => h) (Or.inl ⟨by rfl, ?_⟩) (by assumption) ?_ ?_
  rotate_left
  · rintro W' hS'
    go_simp
    with_reducible rfl
  rotate_left
  · simp only [Act.put, List.setIfInBounds_toArray, List.set_cons_zero, List.set_cons_succ, i64_w, i32_w]
    rfl
  refine take_ (i := 2) (N := some 42) (v := ?_) (a' := ?_) #[true, false, true, false] rfl rfl (by kernel_rfl) (fun _ _ _ h => h) (Or.inl ⟨by rfl, ?_⟩) (by assumption) ?_ ?_
  rotate_left
  · refine load_yields (fun W => Q1 0 Z16 w4 W) 28 (.tmp 8) ?_ (w4.heap.size) ?_ 28 (oidC 0 Z16) _ (fun W h => Q1.x h) Tryz.underlying28 rfl (oid_info _ _ rfl)
    · rfl
    · rfl
  rotate_left
  · simp only [Act.put, List.setIfInBounds_toArray, List.set_cons_zero, List.set_cons_succ, i64_w, i32_w]
    rfl
  refine one_ (i := 1) (N := some 41) #[true, true, true, false] rfl rfl (by kernel_rfl) (by decide) (fun K hK => ?_)
  refine goes_ Tryz.func24 (by kernel_rfl) rfl #[.slice A l.length c] (by rfl) rfl rfl (by (try simp only [List.map_toArray, List.map_cons, List.map_nil]); first | done | rfl) ?_
  refine (HOF.out _ (HS4.next HQ.b).st.b).mono ?_
  rintro e w9 ⟨rfl, hq⟩
  refine ⟨_, rfl, ?_⟩
  replace HQ := HQ.next hq
  clear hq
  refine hK.out _ _ HQ (fun HS => ?_)
  clear hK K
  refine norm_ (a' := ?_) ?_ ?_
  rotate_left
  · show Act.put _ (some 41) _ = _
    simp only [Act.put, List.setIfInBounds_toArray, List.set_cons_zero, List.set_cons_succ, i64_w, i32_w]
    rfl
  refine take_ (i := 3) (N := some 43) (v := ?_) (a' := ?_) #[true, true, true, true] rfl rfl (by kernel_rfl) (fun _ _ _ h => h) (Or.inl ⟨by rfl, ?_⟩) (by assumption) ?_ ?_
  rotate_left
  · refine neq_yieldsB (fun W => Q1 0 Z16 w4 W) (.tmp 41) (.tmp 42) ?_ 0 Z16 0 Z16 ?_ ?_ rfl rfl (b := true) (decide_eq_true (show (0 : Int) = 0 ∧ Z16 = Z16 from ⟨rfl, rfl⟩))
    · rfl
    · rfl
    · rfl
  rotate_left
  · simp only [Act.put, List.setIfInBounds_toArray, List.set_cons_zero, List.set_cons_succ, i64_w, i32_w]
    rfl
  refine done_ (by kernel_rfl) ?_
  have S := HS4.next HQ.b
  clear HS4 HQ HS
  go_wp2_with (go_at_call 19; refine (lives_yes _ (Q2.st (by assumption)).t).mono ?_; rintro e w' ⟨rfl, hq⟩; replace S := Q2.next (by assumption) hq; clear hq)
  go_ret
  exact ⟨rfl, (Q2.st (by assumption)).b⟩
set_option maxHeartbeats 8000000 in
theorem ocheck_0ok (N : Nat) (xs : List Int) (M : Nat) (ys : List Int) (A : Option Addr) (l : List Int) (c : Nat) (w : World) (hT : Tabs w) (hN : N < 256) (hM : M < 256) (hx : xs.length = 16) (hy : ys.length = 16) (hr : Kd.C (Kd.int .u32) w A l.length l) (hc : l.length ≤ c) (h20 : l.length ≤ 20) (hwr : chkO (N : Int) xs = 0) (hlen : l.length ≤ 16) (hwk : chkO (l.length : Int) (pad l) = 0) :
    Calls Tryz.prog 4 #[oidV (N : Int) xs, oidV (M : Int) ys, .slice A l.length c] w fun e w' => e = .returned (.bool true) ∧ Below w.heap.size w w' := by
  have S := Q2.start N xs M ys w hT
  have HX := Lib.hid hx
  have HY := Lib.hid hy
  have h20' : ¬ (20 : Int) < (l.length : Int) := by omega
  have HCR := Lib.hid (fun W => rcheck_any N xs W hx hN)
  have HCK := Lib.hid (fun W => check_any (N : Int) xs W hx (by omega))
  obtain ⟨b, hb⟩ : ∃ b, decide ((N : Int) = 5 ∧ xs = anyX) = b := ⟨_, rfl⟩
  have HIA := Lib.hid (fun W => isany_any (N : Int) xs b W hx hb)
  have HB := Lib.hid hb
  rw [hwr] at HCR HCK
  have h17 : (l.length : Int) < 17 := by omega
  have hl : l.length ≤ 16 := by omega
  have HM := Lib.hid (fun W (hW : Below w.heap.size w W) => made_is A c l W hl (Kd.C_below hr hW))
  have HPL := Lib.hid (pad_len l hl)
  have HMC := Lib.hid (fun W => rcheck_any l.length (pad l) W (pad_len l hl) (by omega))
  rw [hwk] at HMC
  have HOF := Lib.hid (fun W (hW : Below w.heap.size w W) => of_short A c l W hl (Kd.C_below hr hW) hc)
  rw [show ofN l = (l.length : Int) from if_pos hwk, show ofX l = pad l from if_pos hwk] at HOF
  clear hl hwk
  clear hx hy hwr hT hN hM hr hc hb h20 hlen
  go_enter Tryz.func4, Tryz.ntmps4
  go_upto_region 4 with (first
    | ((with_reducible refine gate_dst (N := 15) rfl ?_); (try (refine gate_guard (by rfl) ?_; dsimp only)); refine wpList_load_row rfl 28 _ rfl (w.heap.size) rfl 28 (oidC (N : Int) xs) (0, 0) _ (Q2.x (by assumption)) Tryz.underlying28 rfl (oid_info _ _ HX.out) ?_)
    | (go_at_call 20; refine (HCR.out _).mono ?_; rintro e w3 ⟨rfl, hq⟩; have HS4 := Q2.next S hq; clear hq))
  replace HS4 := HS4.next (Below.refl _ _).drew
  clear S
  refine start_ (n := 12) (S := fun W => Q2 N xs M ys w W) (ds := []) #[false, false, false, false, false, false, false, false, false, false, false, false] (by kernel_rfl) rfl rfl HS4 (fun HS => ?_)
  refine take_ (i := 0) (N := some 17) (v := ?_) (a' := ?_) #[true, false, false, false, false, false, false, false, false, false, false, false] rfl rfl (by kernel_rfl) (fun _ _ _ h => h) (Or.inl ⟨by rfl, ?_⟩) (by assumption) ?_ ?_
  rotate_left
  · refine load_yields (fun W => Q2 N xs M ys w W) 28 (.tmp 3) ?_ (w.heap.size) ?_ 28 (oidC (N : Int) xs) _ (fun W h => Q2.x h) Tryz.underlying28 rfl (oid_info _ _ HX.out)
    · rfl
    · rfl
  rotate_left
  · simp only [Act.put, List.setIfInBounds_toArray, List.set_cons_zero, List.set_cons_succ, i64_w, i32_w]
    rfl
  refine take_ (i := 2) (N := some 19) (v := ?_) (a' := ?_) #[true, false, true, false, false, false, false, false, false, false, false, false] rfl rfl (by kernel_rfl) (fun _ _ _ h => h) (Or.inl ⟨by rfl, ?_⟩) (by assumption) ?_ ?_
  rotate_left
  · rintro W' hS'
    go_simp
    with_reducible rfl
  rotate_left
  · simp only [Act.put, List.setIfInBounds_toArray, List.set_cons_zero, List.set_cons_succ, i64_w, i32_w]
    rfl
  refine one_ (i := 1) (N := some 18) #[true, true, true, false, false, false, false, false, false, false, false, false] rfl rfl (by kernel_rfl) (by decide) (fun K hK => ?_)
  refine goes_ Tryz.func18 (by kernel_rfl) rfl #[oidV (N : Int) xs] (by rfl) rfl rfl (by (try simp only [List.map_toArray, List.map_cons, List.map_nil]); first | done | rfl) ?_
  refine (HCK.out _).mono ?_
  rintro e w4 ⟨rfl, hq⟩
  refine ⟨_, rfl, ?_⟩
  replace HS4 := HS4.next hq
  clear hq
  refine hK.out _ _ HS4 (fun HS => ?_)
  clear hK K
  refine norm_ (a' := ?_) ?_ ?_
  rotate_left
  · show Act.put _ (some 18) _ = _
    simp only [Act.put, List.setIfInBounds_toArray, List.set_cons_zero, List.set_cons_succ, i64_w, i32_w]
    rfl
  refine take_ (i := 3) (N := some 20) (v := ?_) (a' := ?_) #[true, true, true, true, false, false, false, false, false, false, false, false] rfl rfl (by kernel_rfl) (fun _ _ _ h => h) (Or.inl ⟨by rfl, ?_⟩) (by assumption) ?_ ?_
  rotate_left
  · rintro W' hS'
    go_simp
    with_reducible rfl
  rotate_left
  · simp only [Act.put, List.setIfInBounds_toArray, List.set_cons_zero, List.set_cons_succ, i64_w, i32_w]
    rfl
  refine take_ (i := 4) (N := some 21) (v := ?_) (a' := ?_) #[true, true, true, true, true, false, false, false, false, false, false, false] rfl rfl (by kernel_rfl) (fun _ _ _ h => h) (Or.inl ⟨by rfl, ?_⟩) (by assumption) ?_ ?_
  rotate_left
  · rintro W' hS'
    go_simp
    with_reducible rfl
  rotate_left
  · simp only [Act.put, List.setIfInBounds_toArray, List.set_cons_zero, List.set_cons_succ, i64_w, i32_w]
    rfl
  refine take_ (i := 5) (N := some 22) (v := ?_) (a' := ?_) #[true, true, true, true, true, true, false, false, false, false, false, false] rfl rfl (by kernel_rfl) (fun _ _ _ h => h) (Or.inl ⟨by rfl, ?_⟩) (by assumption) ?_ ?_
  rotate_left
  · refine load_yields (fun W => Q2 N xs M ys w W) 28 (.tmp 3) ?_ (w.heap.size) ?_ 28 (oidC (N : Int) xs) _ (fun W h => Q2.x h) Tryz.underlying28 rfl (oid_info _ _ HX.out)
    · rfl
    · rfl
  rotate_left
  · simp only [Act.put, List.setIfInBounds_toArray, List.set_cons_zero, List.set_cons_succ, i64_w, i32_w]
    rfl
  refine take_ (i := 7) (N := some 24) (v := ?_) (a' := ?_) #[true, true, true, true, true, true, false, true, false, false, false, false] rfl rfl (by kernel_rfl) (fun _ _ _ h => h) (Or.inl ⟨by rfl, ?_⟩) (by assumption) ?_ ?_
  rotate_left
  · refine load_yields (fun W => Q2 N xs M ys w W) 28 (.tmp 3) ?_ (w.heap.size) ?_ 28 (oidC (N : Int) xs) _ (fun W h => Q2.x h) Tryz.underlying28 rfl (oid_info _ _ HX.out)
    · rfl
    · rfl
  rotate_left
  · simp only [Act.put, List.setIfInBounds_toArray, List.set_cons_zero, List.set_cons_succ, i64_w, i32_w]
    rfl
  refine one_ (i := 6) (N := some 23) #[true, true, true, true, true, true, true, true, false, false, false, false] rfl rfl (by kernel_rfl) (by decide) (fun K hK => ?_)
  refine goes_ Tryz.func21 (by kernel_rfl) rfl #[oidV (N : Int) xs] (by rfl) rfl rfl (by (try simp only [List.map_toArray, List.map_cons, List.map_nil]); first | done | rfl) ?_
  refine (HIA.out _).mono ?_
  rintro e w4 ⟨rfl, hq⟩
  refine ⟨_, rfl, ?_⟩
  replace HS4 := HS4.next hq
  clear hq
  refine hK.out _ _ HS4 (fun HS => ?_)
  clear hK K
  refine norm_ (a' := ?_) ?_ ?_
  rotate_left
  · show Act.put _ (some 23) _ = _
    simp only [Act.put, List.setIfInBounds_toArray, List.set_cons_zero, List.set_cons_succ, i64_w, i32_w]
    rfl
  refine one_ (i := 8) (N := some 25) #[true, true, true, true, true, true, true, true, true, false, false, false] rfl rfl (by kernel_rfl) (by decide) (fun K hK => ?_)
  refine goes_ Tryz.func22 (by kernel_rfl) rfl #[] (by rfl) rfl rfl (by (try simp only [List.map_toArray, List.map_cons, List.map_nil]); first | done | rfl) ?_
  refine (rany_is _).mono ?_
  rintro e w4 ⟨rfl, hq⟩
  refine ⟨_, rfl, ?_⟩
  replace HS4 := HS4.next hq
  clear hq
  refine hK.out _ _ HS4 (fun HS => ?_)
  clear hK K
  refine norm_ (a' := ?_) ?_ ?_
  rotate_left
  · show Act.put _ (some 25) _ = _
    simp only [Act.put, List.setIfInBounds_toArray, List.set_cons_zero, List.set_cons_succ, i64_w, i32_w]
    rfl
  refine take_ (i := 9) (N := some 26) (v := ?_) (a' := ?_) #[true, true, true, true, true, true, true, true, true, true, false, false] rfl rfl (by kernel_rfl) (fun _ _ _ h => h) (Or.inl ⟨by rfl, ?_⟩) (by assumption) ?_ ?_
  rotate_left
  · refine eq_yieldsB (fun W => Q2 N xs M ys w W) (.tmp 24) (.tmp 25) ?_ (N : Int) xs 5 anyX ?_ ?_ HX.out rfl HB.out
    · rfl
    · rfl
    · rfl
  rotate_left
  · simp only [Act.put, List.setIfInBounds_toArray, List.set_cons_zero, List.set_cons_succ, i64_w, i32_w]
    rfl
  refine take_ (i := 10) (N := some 27) (v := ?_) (a' := ?_) #[true, true, true, true, true, true, true, true, true, true, true, false] rfl rfl (by kernel_rfl) (fun _ _ _ h => h) (Or.inl ⟨by rfl, ?_⟩) (by assumption) ?_ ?_
  rotate_left
  · rintro W' hS'
    go_simp
    with_reducible rfl
  rotate_left
  · simp only [Act.put, List.setIfInBounds_toArray, List.set_cons_zero, List.set_cons_succ, i64_w, i32_w]
    rfl
  refine take_ (i := 11) (N := some 28) (v := ?_) (a' := ?_) #[true, true, true, true, true, true, true, true, true, true, true, true] rfl rfl (by kernel_rfl) (fun _ _ _ h => h) (Or.inl ⟨by rfl, ?_⟩) (by assumption) ?_ ?_
  rotate_left
  · rintro W' hS'
    go_simp
    with_reducible rfl
  rotate_left
  · simp only [Act.put, List.setIfInBounds_toArray, List.set_cons_zero, List.set_cons_succ, i64_w, i32_w]
    rfl
  refine done_ (by kernel_rfl) ?_
  clear HS
  go_upto_region 7 with fail
  rw [zrow]
  have HQ := Q1.start 0 Z16 w4
  change Code.wp _ _ _ _ (w4.alloc (.cells (oidC 0 Z16) 28))
  generalize w4.alloc (.cells (oidC 0 Z16) 28) = W7 at *
  go_upto_region 9 with (first
    | (go_at_call 23; refine (HM.out _ (HS4.next (Q1.b (by assumption))).st.b).mono ?_; rintro e w7 ⟨rfl, hq⟩; replace HQ := Q1.next (by assumption) hq; clear hq)
    | (go_at_call 20; refine (HMC.out _).mono ?_; rintro e w7 ⟨rfl, hq⟩; replace HQ := Q1.next (by assumption) hq; clear hq)
    | ((with_reducible refine gate_store rfl ?_); refine wpList_plain rfl fun K hK => ?_; refine wp_store_row 28 _ _ rfl w4.heap.size (oidC (l.length : Int) (pad l)) rfl rfl 28 (oidC 0 Z16) (Q1.x (by assumption)) (oid_info _ _ HPL.out) (by simp [HPL.out]) (oid_one _ _) ?_; refine hK _ _ ?_))
  replace HQ := Q1.put HQ (l.length : Int) (pad l)
  replace HQ := HQ.next (Below.refl _ _).drew
  refine start_ (n := 4) (S := fun W => Q1 (l.length : Int) (pad l) w4 W) (ds := []) #[false, false, false, false] (by kernel_rfl) rfl rfl HQ (fun HS => ?_)
  refine take_ (i := 0) (N := some 40) (v := ?_) (a' := ?_) #[true, false, false, false] rfl rfl (by kernel_rfl) (fun _ _ _ h => h) (Or.inl ⟨by rfl, ?_⟩) (by assumption) ?_ ?_
  rotate_left
  · rintro W' hS'
    go_simp
    with_reducible rfl
  rotate_left
  · simp only [Act.put, List.setIfInBounds_toArray, List.set_cons_zero, List.set_cons_succ, i64_w, i32_w]
    rfl
  refine take_ (i := 2) (N := some 42) (v := ?_) (a' := ?_) #[true, false, true, false] rfl rfl (by kernel_rfl) (fun _ _ _ h => h) (Or.inl ⟨by rfl, ?_⟩) (by assumption) ?_ ?_
  rotate_left
  · refine load_yields (fun W => Q1 (l.length : Int) (pad l) w4 W) 28 (.tmp 8) ?_ (w4.heap.size) ?_ 28 (oidC (l.length : Int) (pad l)) _ (fun W h => Q1.x h) Tryz.underlying28 rfl (oid_info _ _ HPL.out)
    · rfl
    · rfl
  rotate_left
  · simp only [Act.put, List.setIfInBounds_toArray, List.set_cons_zero, List.set_cons_succ, i64_w, i32_w]
    rfl
  refine one_ (i := 1) (N := some 41) #[true, true, true, false] rfl rfl (by kernel_rfl) (by decide) (fun K hK => ?_)
  refine goes_ Tryz.func24 (by kernel_rfl) rfl #[.slice A l.length c] (by rfl) rfl rfl (by (try simp only [List.map_toArray, List.map_cons, List.map_nil]); first | done | rfl) ?_
  refine (HOF.out _ (HS4.next HQ.b).st.b).mono ?_
  rintro e w9 ⟨rfl, hq⟩
  refine ⟨_, rfl, ?_⟩
  replace HQ := HQ.next hq
  clear hq
  refine hK.out _ _ HQ (fun HS => ?_)
  clear hK K
  refine norm_ (a' := ?_) ?_ ?_
  rotate_left
  · show Act.put _ (some 41) _ = _
    simp only [Act.put, List.setIfInBounds_toArray, List.set_cons_zero, List.set_cons_succ, i64_w, i32_w]
    rfl
  refine take_ (i := 3) (N := some 43) (v := ?_) (a' := ?_) #[true, true, true, true] rfl rfl (by kernel_rfl) (fun _ _ _ h => h) (Or.inl ⟨by rfl, ?_⟩) (by assumption) ?_ ?_
  rotate_left
  · refine neq_yieldsB (fun W => Q1 (l.length : Int) (pad l) w4 W) (.tmp 41) (.tmp 42) ?_ (l.length : Int) (pad l) (l.length : Int) (pad l) ?_ ?_ HPL.out HPL.out (b := true) (decide_eq_true (show ((l.length : Int) : Int) = (l.length : Int) ∧ (pad l) = (pad l) from ⟨rfl, rfl⟩))
    · rfl
    · rfl
    · rfl
  rotate_left
  · simp only [Act.put, List.setIfInBounds_toArray, List.set_cons_zero, List.set_cons_succ, i64_w, i32_w]
    rfl
  refine done_ (by kernel_rfl) ?_
  have S := HS4.next HQ.b
  clear HS4 HQ HS
  go_wp2_with (go_at_call 19; refine (lives_yes _ (Q2.st (by assumption)).t).mono ?_; rintro e w' ⟨rfl, hq⟩; replace S := Q2.next (by assumption) hq; clear hq)
  go_ret
  exact ⟨rfl, (Q2.st (by assumption)).b⟩
set_option maxHeartbeats 8000000 in
theorem ocheck_0bad (N : Nat) (xs : List Int) (M : Nat) (ys : List Int) (A : Option Addr) (l : List Int) (c : Nat) (w : World) (hT : Tabs w) (hN : N < 256) (hM : M < 256) (hx : xs.length = 16) (hy : ys.length = 16) (hr : Kd.C (Kd.int .u32) w A l.length l) (hc : l.length ≤ c) (h20 : l.length ≤ 20) (hwr : chkO (N : Int) xs = 0) (hlen : l.length ≤ 16) (hwk : chkO (l.length : Int) (pad l) = 1) :
    Calls Tryz.prog 4 #[oidV (N : Int) xs, oidV (M : Int) ys, .slice A l.length c] w fun e w' => e = .returned (.bool true) ∧ Below w.heap.size w w' := by
  have S := Q2.start N xs M ys w hT
  have HX := Lib.hid hx
  have HY := Lib.hid hy
  have h20' : ¬ (20 : Int) < (l.length : Int) := by omega
  have HCR := Lib.hid (fun W => rcheck_any N xs W hx hN)
  have HCK := Lib.hid (fun W => check_any (N : Int) xs W hx (by omega))
  obtain ⟨b, hb⟩ : ∃ b, decide ((N : Int) = 5 ∧ xs = anyX) = b := ⟨_, rfl⟩
  have HIA := Lib.hid (fun W => isany_any (N : Int) xs b W hx hb)
  have HB := Lib.hid hb
  rw [hwr] at HCR HCK
  have h17 : (l.length : Int) < 17 := by omega
  have hl : l.length ≤ 16 := by omega
  have HM := Lib.hid (fun W (hW : Below w.heap.size w W) => made_is A c l W hl (Kd.C_below hr hW))
  have HPL := Lib.hid (pad_len l hl)
  have HMC := Lib.hid (fun W => rcheck_any l.length (pad l) W (pad_len l hl) (by omega))
  rw [hwk] at HMC
  have HOF := Lib.hid (fun W (hW : Below w.heap.size w W) => of_short A c l W hl (Kd.C_below hr hW) hc)
  rw [show ofN l = 0 from if_neg (by rw [hwk]; decide), show ofX l = Z16 from if_neg (by rw [hwk]; decide)] at HOF
  clear hl hwk
  clear hx hy hwr hT hN hM hr hc hb h20 hlen
  go_enter Tryz.func4, Tryz.ntmps4
  go_upto_region 4 with (first
    | ((with_reducible refine gate_dst (N := 15) rfl ?_); (try (refine gate_guard (by rfl) ?_; dsimp only)); refine wpList_load_row rfl 28 _ rfl (w.heap.size) rfl 28 (oidC (N : Int) xs) (0, 0) _ (Q2.x (by assumption)) Tryz.underlying28 rfl (oid_info _ _ HX.out) ?_)
    | (go_at_call 20; refine (HCR.out _).mono ?_; rintro e w3 ⟨rfl, hq⟩; have HS4 := Q2.next S hq; clear hq))
  replace HS4 := HS4.next (Below.refl _ _).drew
  clear S
  refine start_ (n := 12) (S := fun W => Q2 N xs M ys w W) (ds := []) #[false, false, false, false, false, false, false, false, false, false, false, false] (by kernel_rfl) rfl rfl HS4 (fun HS => ?_)
  refine take_ (i := 0) (N := some 17) (v := ?_) (a' := ?_) #[true, false, false, false, false, false, false, false, false, false, false, false] rfl rfl (by kernel_rfl) (fun _ _ _ h => h) (Or.inl ⟨by rfl, ?_⟩) (by assumption) ?_ ?_
  rotate_left
  · refine load_yields (fun W => Q2 N xs M ys w W) 28 (.tmp 3) ?_ (w.heap.size) ?_ 28 (oidC (N : Int) xs) _ (fun W h => Q2.x h) Tryz.underlying28 rfl (oid_info _ _ HX.out)
    · rfl
    · rfl
  rotate_left
  · simp only [Act.put, List.setIfInBounds_toArray, List.set_cons_zero, List.set_cons_succ, i64_w, i32_w]
    rfl
  refine take_ (i := 2) (N := some 19) (v := ?_) (a' := ?_) #[true, false, true, false, false, false, false, false, false, false, false, false] rfl rfl (by kernel_rfl) (fun _ _ _ h => h) (Or.inl ⟨by rfl, ?_⟩) (by assumption) ?_ ?_
  rotate_left
  · rintro W' hS'
    go_simp
    with_reducible rfl
  rotate_left
  · simp only [Act.put, List.setIfInBounds_toArray, List.set_cons_zero, List.set_cons_succ, i64_w, i32_w]
    rfl
  refine one_ (i := 1) (N := some 18) #[true, true, true, false, false, false, false, false, false, false, false, false] rfl rfl (by kernel_rfl) (by decide) (fun K hK => ?_)
  refine goes_ Tryz.func18 (by kernel_rfl) rfl #[oidV (N : Int) xs] (by rfl) rfl rfl (by (try simp only [List.map_toArray, List.map_cons, List.map_nil]); first | done | rfl) ?_
  refine (HCK.out _).mono ?_
  rintro e w4 ⟨rfl, hq⟩
  refine ⟨_, rfl, ?_⟩
  replace HS4 := HS4.next hq
  clear hq
  refine hK.out _ _ HS4 (fun HS => ?_)
  clear hK K
  refine norm_ (a' := ?_) ?_ ?_
  rotate_left
  · show Act.put _ (some 18) _ = _
    simp only [Act.put, List.setIfInBounds_toArray, List.set_cons_zero, List.set_cons_succ, i64_w, i32_w]
    rfl
  refine take_ (i := 3) (N := some 20) (v := ?_) (a' := ?_) #[true, true, true, true, false, false, false, false, false, false, false, false] rfl rfl (by kernel_rfl) (fun _ _ _ h => h) (Or.inl ⟨by rfl, ?_⟩) (by assumption) ?_ ?_
  rotate_left
  · rintro W' hS'
    go_simp
    with_reducible rfl
  rotate_left
  · simp only [Act.put, List.setIfInBounds_toArray, List.set_cons_zero, List.set_cons_succ, i64_w, i32_w]
    rfl
  refine take_ (i := 4) (N := some 21) (v := ?_) (a' := ?_) #[true, true, true, true, true, false, false, false, false, false, false, false] rfl rfl (by kernel_rfl) (fun _ _ _ h => h) (Or.inl ⟨by rfl, ?_⟩) (by assumption) ?_ ?_
  rotate_left
  · rintro W' hS'
    go_simp
    with_reducible rfl
  rotate_left
  · simp only [Act.put, List.setIfInBounds_toArray, List.set_cons_zero, List.set_cons_succ, i64_w, i32_w]
    rfl
  refine take_ (i := 5) (N := some 22) (v := ?_) (a' := ?_) #[true, true, true, true, true, true, false, false, false, false, false, false] rfl rfl (by kernel_rfl) (fun _ _ _ h => h) (Or.inl ⟨by rfl, ?_⟩) (by assumption) ?_ ?_
  rotate_left
  · refine load_yields (fun W => Q2 N xs M ys w W) 28 (.tmp 3) ?_ (w.heap.size) ?_ 28 (oidC (N : Int) xs) _ (fun W h => Q2.x h) Tryz.underlying28 rfl (oid_info _ _ HX.out)
    · rfl
    · rfl
  rotate_left
  · simp only [Act.put, List.setIfInBounds_toArray, List.set_cons_zero, List.set_cons_succ, i64_w, i32_w]
    rfl
  refine take_ (i := 7) (N := some 24) (v := ?_) (a' := ?_) #[true, true, true, true, true, true, false, true, false, false, false, false] rfl rfl (by kernel_rfl) (fun _ _ _ h => h) (Or.inl ⟨by rfl, ?_⟩) (by assumption) ?_ ?_
  rotate_left
  · refine load_yields (fun W => Q2 N xs M ys w W) 28 (.tmp 3) ?_ (w.heap.size) ?_ 28 (oidC (N : Int) xs) _ (fun W h => Q2.x h) Tryz.underlying28 rfl (oid_info _ _ HX.out)
    · rfl
    · rfl
  rotate_left
  · simp only [Act.put, List.setIfInBounds_toArray, List.set_cons_zero, List.set_cons_succ, i64_w, i32_w]
    rfl
  refine one_ (i := 6) (N := some 23) #[true, true, true, true, true, true, true, true, false, false, false, false] rfl rfl (by kernel_rfl) (by decide) (fun K hK => ?_)
  refine goes_ Tryz.func21 (by kernel_rfl) rfl #[oidV (N : Int) xs] (by rfl) rfl rfl (by (try simp only [List.map_toArray, List.map_cons, List.map_nil]); first | done | rfl) ?_
  refine (HIA.out _).mono ?_
  rintro e w4 ⟨rfl, hq⟩
  refine ⟨_, rfl, ?_⟩
  replace HS4 := HS4.next hq
  clear hq
  refine hK.out _ _ HS4 (fun HS => ?_)
  clear hK K
  refine norm_ (a' := ?_) ?_ ?_
  rotate_left
  · show Act.put _ (some 23) _ = _
    simp only [Act.put, List.setIfInBounds_toArray, List.set_cons_zero, List.set_cons_succ, i64_w, i32_w]
    rfl
  refine one_ (i := 8) (N := some 25) #[true, true, true, true, true, true, true, true, true, false, false, false] rfl rfl (by kernel_rfl) (by decide) (fun K hK => ?_)
  refine goes_ Tryz.func22 (by kernel_rfl) rfl #[] (by rfl) rfl rfl (by (try simp only [List.map_toArray, List.map_cons, List.map_nil]); first | done | rfl) ?_
  refine (rany_is _).mono ?_
  rintro e w4 ⟨rfl, hq⟩
  refine ⟨_, rfl, ?_⟩
  replace HS4 := HS4.next hq
  clear hq
  refine hK.out _ _ HS4 (fun HS => ?_)
  clear hK K
  refine norm_ (a' := ?_) ?_ ?_
  rotate_left
  · show Act.put _ (some 25) _ = _
    simp only [Act.put, List.setIfInBounds_toArray, List.set_cons_zero, List.set_cons_succ, i64_w, i32_w]
    rfl
  refine take_ (i := 9) (N := some 26) (v := ?_) (a' := ?_) #[true, true, true, true, true, true, true, true, true, true, false, false] rfl rfl (by kernel_rfl) (fun _ _ _ h => h) (Or.inl ⟨by rfl, ?_⟩) (by assumption) ?_ ?_
  rotate_left
  · refine eq_yieldsB (fun W => Q2 N xs M ys w W) (.tmp 24) (.tmp 25) ?_ (N : Int) xs 5 anyX ?_ ?_ HX.out rfl HB.out
    · rfl
    · rfl
    · rfl
  rotate_left
  · simp only [Act.put, List.setIfInBounds_toArray, List.set_cons_zero, List.set_cons_succ, i64_w, i32_w]
    rfl
  refine take_ (i := 10) (N := some 27) (v := ?_) (a' := ?_) #[true, true, true, true, true, true, true, true, true, true, true, false] rfl rfl (by kernel_rfl) (fun _ _ _ h => h) (Or.inl ⟨by rfl, ?_⟩) (by assumption) ?_ ?_
  rotate_left
  · rintro W' hS'
    go_simp
    with_reducible rfl
  rotate_left
  · simp only [Act.put, List.setIfInBounds_toArray, List.set_cons_zero, List.set_cons_succ, i64_w, i32_w]
    rfl
  refine take_ (i := 11) (N := some 28) (v := ?_) (a' := ?_) #[true, true, true, true, true, true, true, true, true, true, true, true] rfl rfl (by kernel_rfl) (fun _ _ _ h => h) (Or.inl ⟨by rfl, ?_⟩) (by assumption) ?_ ?_
  rotate_left
  · rintro W' hS'
    go_simp
    with_reducible rfl
  rotate_left
  · simp only [Act.put, List.setIfInBounds_toArray, List.set_cons_zero, List.set_cons_succ, i64_w, i32_w]
    rfl
  refine done_ (by kernel_rfl) ?_
  clear HS
  go_upto_region 7 with fail
  rw [zrow]
  have HQ := Q1.start 0 Z16 w4
  change Code.wp _ _ _ _ (w4.alloc (.cells (oidC 0 Z16) 28))
  generalize w4.alloc (.cells (oidC 0 Z16) 28) = W7 at *
  go_upto_region 9 with (first
    | (go_at_call 23; refine (HM.out _ (HS4.next (Q1.b (by assumption))).st.b).mono ?_; rintro e w7 ⟨rfl, hq⟩; replace HQ := Q1.next (by assumption) hq; clear hq)
    | (go_at_call 20; refine (HMC.out _).mono ?_; rintro e w7 ⟨rfl, hq⟩; replace HQ := Q1.next (by assumption) hq; clear hq))
  replace HQ := HQ.next (Below.refl _ _).drew
  refine start_ (n := 4) (S := fun W => Q1 0 Z16 w4 W) (ds := []) #[false, false, false, false] (by kernel_rfl) rfl rfl HQ (fun HS => ?_)
  refine take_ (i := 0) (N := some 40) (v := ?_) (a' := ?_) #[true, false, false, false] rfl rfl (by kernel_rfl) (fun _ _ _ h => h) (Or.inl ⟨by rfl, ?_⟩) (by assumption) ?_ ?_
  rotate_left
  · rintro W' hS'
    go_simp
    with_reducible rfl
  rotate_left
  · simp only [Act.put, List.setIfInBounds_toArray, List.set_cons_zero, List.set_cons_succ, i64_w, i32_w]
    rfl
  refine take_ (i := 2) (N := some 42) (v := ?_) (a' := ?_) #[true, false, true, false] rfl rfl (by kernel_rfl) (fun _ _ _ h => h) (Or.inl ⟨by rfl, ?_⟩) (by assumption) ?_ ?_
  rotate_left
  · refine load_yields (fun W => Q1 0 Z16 w4 W) 28 (.tmp 8) ?_ (w4.heap.size) ?_ 28 (oidC 0 Z16) _ (fun W h => Q1.x h) Tryz.underlying28 rfl (oid_info _ _ rfl)
    · rfl
    · rfl
  rotate_left
  · simp only [Act.put, List.setIfInBounds_toArray, List.set_cons_zero, List.set_cons_succ, i64_w, i32_w]
    rfl
  refine one_ (i := 1) (N := some 41) #[true, true, true, false] rfl rfl (by kernel_rfl) (by decide) (fun K hK => ?_)
  refine goes_ Tryz.func24 (by kernel_rfl) rfl #[.slice A l.length c] (by rfl) rfl rfl (by (try simp only [List.map_toArray, List.map_cons, List.map_nil]); first | done | rfl) ?_
  refine (HOF.out _ (HS4.next HQ.b).st.b).mono ?_
  rintro e w9 ⟨rfl, hq⟩
  refine ⟨_, rfl, ?_⟩
  replace HQ := HQ.next hq
  clear hq
  refine hK.out _ _ HQ (fun HS => ?_)
  clear hK K
  refine norm_ (a' := ?_) ?_ ?_
  rotate_left
  · show Act.put _ (some 41) _ = _
    simp only [Act.put, List.setIfInBounds_toArray, List.set_cons_zero, List.set_cons_succ, i64_w, i32_w]
    rfl
  refine take_ (i := 3) (N := some 43) (v := ?_) (a' := ?_) #[true, true, true, true] rfl rfl (by kernel_rfl) (fun _ _ _ h => h) (Or.inl ⟨by rfl, ?_⟩) (by assumption) ?_ ?_
  rotate_left
  · refine neq_yieldsB (fun W => Q1 0 Z16 w4 W) (.tmp 41) (.tmp 42) ?_ 0 Z16 0 Z16 ?_ ?_ rfl rfl (b := true) (decide_eq_true (show (0 : Int) = 0 ∧ Z16 = Z16 from ⟨rfl, rfl⟩))
    · rfl
    · rfl
    · rfl
  rotate_left
  · simp only [Act.put, List.setIfInBounds_toArray, List.set_cons_zero, List.set_cons_succ, i64_w, i32_w]
    rfl
  refine done_ (by kernel_rfl) ?_
  have S := HS4.next HQ.b
  clear HS4 HQ HS
  go_wp2_with (go_at_call 19; refine (lives_yes _ (Q2.st (by assumption)).t).mono ?_; rintro e w' ⟨rfl, hq⟩; replace S := Q2.next (by assumption) hq; clear hq)
  go_ret
  exact ⟨rfl, (Q2.st (by assumption)).b⟩
set_option maxHeartbeats 8000000 in
theorem ocheck_1long (N : Nat) (xs : List Int) (M : Nat) (ys : List Int) (A : Option Addr) (l : List Int) (c : Nat) (w : World) (hT : Tabs w) (hN : N < 256) (hM : M < 256) (hx : xs.length = 16) (hy : ys.length = 16) (hr : Kd.C (Kd.int .u32) w A l.length l) (hc : l.length ≤ c) (h20 : l.length ≤ 20) (hwr : chkO (N : Int) xs = 1) (hlen : 16 < l.length) :
    Calls Tryz.prog 4 #[oidV (N : Int) xs, oidV (M : Int) ys, .slice A l.length c] w fun e w' => e = .returned (.bool true) ∧ Below w.heap.size w w' := by
  have S := Q2.start N xs M ys w hT
  have HX := Lib.hid hx
  have HY := Lib.hid hy
  have h20' : ¬ (20 : Int) < (l.length : Int) := by omega
  have HCR := Lib.hid (fun W => rcheck_any N xs W hx hN)
  have HCK := Lib.hid (fun W => check_any (N : Int) xs W hx (by omega))
  obtain ⟨b, hb⟩ : ∃ b, decide ((N : Int) = 5 ∧ xs = anyX) = b := ⟨_, rfl⟩
  have HIA := Lib.hid (fun W => isany_any (N : Int) xs b W hx hb)
  have HB := Lib.hid hb
  have HPE := Lib.hid (fun W => put_err N xs W hx hwr)
  have HTE := Lib.hid (fun W => text_err N xs W hx hwr)
  have HHA := Lib.hid (fun W => has_is N M (N : Int) (M : Int) xs ys false W rfl rfl hN hM hx hy (by unfold hasO; rw [hwr]; simp))
  have HHB := Lib.hid (fun W => has_is M N (M : Int) (N : Int) ys xs false W rfl rfl hM hN hy hx (by unfold hasO; rw [hwr]; simp))
  rw [hwr] at HCR HCK
  have h17 : ¬ (l.length : Int) < 17 := by omega
  have HOF := Lib.hid (fun W (_ : Below w.heap.size w W) => of_long A c l W (by omega))
  clear hx hy hwr hT hN hM hr hc hb h20 hlen
  go_enter Tryz.func4, Tryz.ntmps4
  go_upto_region 4 with (first
    | ((with_reducible refine gate_dst (N := 15) rfl ?_); (try (refine gate_guard (by rfl) ?_; dsimp only)); refine wpList_load_row rfl 28 _ rfl (w.heap.size) rfl 28 (oidC (N : Int) xs) (0, 0) _ (Q2.x (by assumption)) Tryz.underlying28 rfl (oid_info _ _ HX.out) ?_)
    | (go_at_call 20; refine (HCR.out _).mono ?_; rintro e w3 ⟨rfl, hq⟩; have HS4 := Q2.next S hq; clear hq))
  replace HS4 := HS4.next (Below.refl _ _).drew
  clear S
  refine start_ (n := 12) (S := fun W => Q2 N xs M ys w W) (ds := []) #[false, false, false, false, false, false, false, false, false, false, false, false] (by kernel_rfl) rfl rfl HS4 (fun HS => ?_)
  refine take_ (i := 0) (N := some 17) (v := ?_) (a' := ?_) #[true, false, false, false, false, false, false, false, false, false, false, false] rfl rfl (by kernel_rfl) (fun _ _ _ h => h) (Or.inl ⟨by rfl, ?_⟩) (by assumption) ?_ ?_
  rotate_left
  · refine load_yields (fun W => Q2 N xs M ys w W) 28 (.tmp 3) ?_ (w.heap.size) ?_ 28 (oidC (N : Int) xs) _ (fun W h => Q2.x h) Tryz.underlying28 rfl (oid_info _ _ HX.out)
    · rfl
    · rfl
  rotate_left
  · simp only [Act.put, List.setIfInBounds_toArray, List.set_cons_zero, List.set_cons_succ, i64_w, i32_w]
    rfl
  refine take_ (i := 2) (N := some 19) (v := ?_) (a' := ?_) #[true, false, true, false, false, false, false, false, false, false, false, false] rfl rfl (by kernel_rfl) (fun _ _ _ h => h) (Or.inl ⟨by rfl, ?_⟩) (by assumption) ?_ ?_
  rotate_left
  · rintro W' hS'
    go_simp
    with_reducible rfl
  rotate_left
  · simp only [Act.put, List.setIfInBounds_toArray, List.set_cons_zero, List.set_cons_succ, i64_w, i32_w]
    rfl
  refine one_ (i := 1) (N := some 18) #[true, true, true, false, false, false, false, false, false, false, false, false] rfl rfl (by kernel_rfl) (by decide) (fun K hK => ?_)
  refine goes_ Tryz.func18 (by kernel_rfl) rfl #[oidV (N : Int) xs] (by rfl) rfl rfl (by (try simp only [List.map_toArray, List.map_cons, List.map_nil]); first | done | rfl) ?_
  refine (HCK.out _).mono ?_
  rintro e w4 ⟨rfl, hq⟩
  refine ⟨_, rfl, ?_⟩
  replace HS4 := HS4.next hq
  clear hq
  refine hK.out _ _ HS4 (fun HS => ?_)
  clear hK K
  refine norm_ (a' := ?_) ?_ ?_
  rotate_left
  · show Act.put _ (some 18) _ = _
    simp only [Act.put, List.setIfInBounds_toArray, List.set_cons_zero, List.set_cons_succ, i64_w, i32_w]
    rfl
  refine take_ (i := 3) (N := some 20) (v := ?_) (a' := ?_) #[true, true, true, true, false, false, false, false, false, false, false, false] rfl rfl (by kernel_rfl) (fun _ _ _ h => h) (Or.inl ⟨by rfl, ?_⟩) (by assumption) ?_ ?_
  rotate_left
  · rintro W' hS'
    go_simp
    with_reducible rfl
  rotate_left
  · simp only [Act.put, List.setIfInBounds_toArray, List.set_cons_zero, List.set_cons_succ, i64_w, i32_w]
    rfl
  refine take_ (i := 4) (N := some 21) (v := ?_) (a' := ?_) #[true, true, true, true, true, false, false, false, false, false, false, false] rfl rfl (by kernel_rfl) (fun _ _ _ h => h) (Or.inl ⟨by rfl, ?_⟩) (by assumption) ?_ ?_
  rotate_left
  · rintro W' hS'
    go_simp
    with_reducible rfl
  rotate_left
  · simp only [Act.put, List.setIfInBounds_toArray, List.set_cons_zero, List.set_cons_succ, i64_w, i32_w]
    rfl
  refine take_ (i := 5) (N := some 22) (v := ?_) (a' := ?_) #[true, true, true, true, true, true, false, false, false, false, false, false] rfl rfl (by kernel_rfl) (fun _ _ _ h => h) (Or.inl ⟨by rfl, ?_⟩) (by assumption) ?_ ?_
  rotate_left
  · refine load_yields (fun W => Q2 N xs M ys w W) 28 (.tmp 3) ?_ (w.heap.size) ?_ 28 (oidC (N : Int) xs) _ (fun W h => Q2.x h) Tryz.underlying28 rfl (oid_info _ _ HX.out)
    · rfl
    · rfl
  rotate_left
  · simp only [Act.put, List.setIfInBounds_toArray, List.set_cons_zero, List.set_cons_succ, i64_w, i32_w]
    rfl
  refine take_ (i := 7) (N := some 24) (v := ?_) (a' := ?_) #[true, true, true, true, true, true, false, true, false, false, false, false] rfl rfl (by kernel_rfl) (fun _ _ _ h => h) (Or.inl ⟨by rfl, ?_⟩) (by assumption) ?_ ?_
  rotate_left
  · refine load_yields (fun W => Q2 N xs M ys w W) 28 (.tmp 3) ?_ (w.heap.size) ?_ 28 (oidC (N : Int) xs) _ (fun W h => Q2.x h) Tryz.underlying28 rfl (oid_info _ _ HX.out)
    · rfl
    · rfl
  rotate_left
  · simp only [Act.put, List.setIfInBounds_toArray, List.set_cons_zero, List.set_cons_succ, i64_w, i32_w]
    rfl
  refine one_ (i := 6) (N := some 23) #[true, true, true, true, true, true, true, true, false, false, false, false] rfl rfl (by kernel_rfl) (by decide) (fun K hK => ?_)
  refine goes_ Tryz.func21 (by kernel_rfl) rfl #[oidV (N : Int) xs] (by rfl) rfl rfl (by (try simp only [List.map_toArray, List.map_cons, List.map_nil]); first | done | rfl) ?_
  refine (HIA.out _).mono ?_
  rintro e w4 ⟨rfl, hq⟩
  refine ⟨_, rfl, ?_⟩
  replace HS4 := HS4.next hq
  clear hq
  refine hK.out _ _ HS4 (fun HS => ?_)
  clear hK K
  refine norm_ (a' := ?_) ?_ ?_
  rotate_left
  · show Act.put _ (some 23) _ = _
    simp only [Act.put, List.setIfInBounds_toArray, List.set_cons_zero, List.set_cons_succ, i64_w, i32_w]
    rfl
  refine one_ (i := 8) (N := some 25) #[true, true, true, true, true, true, true, true, true, false, false, false] rfl rfl (by kernel_rfl) (by decide) (fun K hK => ?_)
  refine goes_ Tryz.func22 (by kernel_rfl) rfl #[] (by rfl) rfl rfl (by (try simp only [List.map_toArray, List.map_cons, List.map_nil]); first | done | rfl) ?_
  refine (rany_is _).mono ?_
  rintro e w4 ⟨rfl, hq⟩
  refine ⟨_, rfl, ?_⟩
  replace HS4 := HS4.next hq
  clear hq
  refine hK.out _ _ HS4 (fun HS => ?_)
  clear hK K
  refine norm_ (a' := ?_) ?_ ?_
  rotate_left
  · show Act.put _ (some 25) _ = _
    simp only [Act.put, List.setIfInBounds_toArray, List.set_cons_zero, List.set_cons_succ, i64_w, i32_w]
    rfl
  refine take_ (i := 9) (N := some 26) (v := ?_) (a' := ?_) #[true, true, true, true, true, true, true, true, true, true, false, false] rfl rfl (by kernel_rfl) (fun _ _ _ h => h) (Or.inl ⟨by rfl, ?_⟩) (by assumption) ?_ ?_
  rotate_left
  · refine eq_yieldsB (fun W => Q2 N xs M ys w W) (.tmp 24) (.tmp 25) ?_ (N : Int) xs 5 anyX ?_ ?_ HX.out rfl HB.out
    · rfl
    · rfl
    · rfl
  rotate_left
  · simp only [Act.put, List.setIfInBounds_toArray, List.set_cons_zero, List.set_cons_succ, i64_w, i32_w]
    rfl
  refine take_ (i := 10) (N := some 27) (v := ?_) (a' := ?_) #[true, true, true, true, true, true, true, true, true, true, true, false] rfl rfl (by kernel_rfl) (fun _ _ _ h => h) (Or.inl ⟨by rfl, ?_⟩) (by assumption) ?_ ?_
  rotate_left
  · rintro W' hS'
    go_simp
    with_reducible rfl
  rotate_left
  · simp only [Act.put, List.setIfInBounds_toArray, List.set_cons_zero, List.set_cons_succ, i64_w, i32_w]
    rfl
  refine take_ (i := 11) (N := some 28) (v := ?_) (a' := ?_) #[true, true, true, true, true, true, true, true, true, true, true, true] rfl rfl (by kernel_rfl) (fun _ _ _ h => h) (Or.inl ⟨by rfl, ?_⟩) (by assumption) ?_ ?_
  rotate_left
  · rintro W' hS'
    go_simp
    with_reducible rfl
  rotate_left
  · simp only [Act.put, List.setIfInBounds_toArray, List.set_cons_zero, List.set_cons_succ, i64_w, i32_w]
    rfl
  refine done_ (by kernel_rfl) ?_
  clear HS
  go_upto_region 7 with fail
  rw [zrow]
  have HQ := Q1.start 0 Z16 w4
  change Code.wp _ _ _ _ (w4.alloc (.cells (oidC 0 Z16) 28))
  generalize w4.alloc (.cells (oidC 0 Z16) 28) = W7 at *
  go_upto_region 9 with fail
  replace HQ := HQ.next (Below.refl _ _).drew
  refine start_ (n := 4) (S := fun W => Q1 0 Z16 w4 W) (ds := []) #[false, false, false, false] (by kernel_rfl) rfl rfl HQ (fun HS => ?_)
  refine take_ (i := 0) (N := some 40) (v := ?_) (a' := ?_) #[true, false, false, false] rfl rfl (by kernel_rfl) (fun _ _ _ h => h) (Or.inl ⟨by rfl, ?_⟩) (by assumption) ?_ ?_
  rotate_left
  · rintro W' hS'
    go_simp
    with_reducible rfl
  rotate_left
  · simp only [Act.put, List.setIfInBounds_toArray, List.set_cons_zero, List.set_cons_succ, i64_w, i32_w]
    rfl
  refine take_ (i := 2) (N := some 42) (v := ?_) (a' := ?_) #[true, false, true, false] rfl rfl (by kernel_rfl) (fun _ _ _ h => h) (Or.inl ⟨by rfl, ?_⟩) (by assumption) ?_ ?_
  rotate_left
  · refine load_yields (fun W => Q1 0 Z16 w4 W) 28 (.tmp 8) ?_ (w4.heap.size) ?_ 28 (oidC 0 Z16) _ (fun W h => Q1.x h) Tryz.underlying28 rfl (oid_info _ _ rfl)
    · rfl
    · rfl
  rotate_left
  · simp only [Act.put, List.setIfInBounds_toArray, List.set_cons_zero, List.set_cons_succ, i64_w, i32_w]
    rfl
  refine one_ (i := 1) (N := some 41) #[true, true, true, false] rfl rfl (by kernel_rfl) (by decide) (fun K hK => ?_)
  refine goes_ Tryz.func24 (by kernel_rfl) rfl #[.slice A l.length c] (by rfl) rfl rfl (by (try simp only [List.map_toArray, List.map_cons, List.map_nil]); first | done | rfl) ?_
  refine (HOF.out _ (HS4.next HQ.b).st.b).mono ?_
  rintro e w9 ⟨rfl, hq⟩
  refine ⟨_, rfl, ?_⟩
  replace HQ := HQ.next hq
  clear hq
  refine hK.out _ _ HQ (fun HS => ?_)
  clear hK K
  refine norm_ (a' := ?_) ?_ ?_
  rotate_left
  · show Act.put _ (some 41) _ = _
    simp only [Act.put, List.setIfInBounds_toArray, List.set_cons_zero, List.set_cons_succ, i64_w, i32_w]
    rfl
  refine take_ (i := 3) (N := some 43) (v := ?_) (a' := ?_) #[true, true, true, true] rfl rfl (by kernel_rfl) (fun _ _ _ h => h) (Or.inl ⟨by rfl, ?_⟩) (by assumption) ?_ ?_
  rotate_left
  · refine neq_yieldsB (fun W => Q1 0 Z16 w4 W) (.tmp 41) (.tmp 42) ?_ 0 Z16 0 Z16 ?_ ?_ rfl rfl (b := true) (decide_eq_true (show (0 : Int) = 0 ∧ Z16 = Z16 from ⟨rfl, rfl⟩))
    · rfl
    · rfl
    · rfl
  rotate_left
  · simp only [Act.put, List.setIfInBounds_toArray, List.set_cons_zero, List.set_cons_succ, i64_w, i32_w]
    rfl
  refine done_ (by kernel_rfl) ?_
  have S := HS4.next HQ.b
  clear HS4 HQ HS
  go_wp2_with (first
    | ((with_reducible refine gate_dst (N := 48) rfl ?_); (try (refine gate_guard (by rfl) ?_; dsimp only)); refine wpList_load_row rfl 28 _ rfl (w.heap.size) rfl 28 (oidC (N : Int) xs) (0, 0) _ (Q2.x (by assumption)) Tryz.underlying28 rfl (oid_info _ _ HX.out) ?_)
    | ((with_reducible refine gate_dst (N := 56) rfl ?_); (try (refine gate_guard (by rfl) ?_; dsimp only)); refine wpList_load_row rfl 28 _ rfl (w.heap.size) rfl 28 (oidC (N : Int) xs) (0, 0) _ (Q2.x (by assumption)) Tryz.underlying28 rfl (oid_info _ _ HX.out) ?_)
    | ((with_reducible refine gate_dst (N := 61) rfl ?_); (try (refine gate_guard (by rfl) ?_; dsimp only)); refine wpList_load_row rfl 28 _ rfl (w.heap.size) rfl 28 (oidC (N : Int) xs) (0, 0) _ (Q2.x (by assumption)) Tryz.underlying28 rfl (oid_info _ _ HX.out) ?_)
    | ((with_reducible refine gate_dst (N := 68) rfl ?_); (try (refine gate_guard (by rfl) ?_; dsimp only)); refine wpList_load_row rfl 28 _ rfl (w.heap.size) rfl 28 (oidC (N : Int) xs) (0, 0) _ (Q2.x (by assumption)) Tryz.underlying28 rfl (oid_info _ _ HX.out) ?_)
    | ((with_reducible refine gate_dst (N := 62) rfl ?_); (try (refine gate_guard (by rfl) ?_; dsimp only)); refine wpList_load_row rfl 28 _ rfl (w.heap.size + 1) rfl 28 (oidC (M : Int) ys) (0, 0) _ (Q2.y (by assumption)) Tryz.underlying28 rfl (oid_info _ _ HY.out) ?_)
    | ((with_reducible refine gate_dst (N := 67) rfl ?_); (try (refine gate_guard (by rfl) ?_; dsimp only)); refine wpList_load_row rfl 28 _ rfl (w.heap.size + 1) rfl 28 (oidC (M : Int) ys) (0, 0) _ (Q2.y (by assumption)) Tryz.underlying28 rfl (oid_info _ _ HY.out) ?_)
    | (go_at_call 11; with_reducible refine (HPE.out _).mono ?_; rintro e w' ⟨rfl, hq⟩; replace S := Q2.next (by assumption) hq; clear hq)
    | (go_at_call 13; with_reducible refine (same_nil 1 _).mono ?_; rintro e w' ⟨rfl, hq⟩; replace S := Q2.next (by assumption) hq; clear hq)
    | (go_at_call 12; with_reducible refine (HTE.out _).mono ?_; rintro e w' ⟨rfl, hq⟩; replace S := Q2.next (by assumption) hq; clear hq)
    | (go_at_call 25; with_reducible refine (HHA.out _).mono ?_; rintro e w' ⟨rfl, hq⟩; replace S := Q2.next (by assumption) hq; clear hq)
    | (go_at_call 25; with_reducible refine (HHB.out _).mono ?_; rintro e w' ⟨rfl, hq⟩; replace S := Q2.next (by assumption) hq; clear hq)
    | (go_at_call 19; refine (lives_yes _ (Q2.st (by assumption)).t).mono ?_; rintro e w' ⟨rfl, hq⟩; replace S := Q2.next (by assumption) hq; clear hq))
  go_ret
  exact ⟨rfl, (Q2.st (by assumption)).b⟩
set_option maxHeartbeats 8000000 in
theorem ocheck_1ok (N : Nat) (xs : List Int) (M : Nat) (ys : List Int) (A : Option Addr) (l : List Int) (c : Nat) (w : World) (hT : Tabs w) (hN : N < 256) (hM : M < 256) (hx : xs.length = 16) (hy : ys.length = 16) (hr : Kd.C (Kd.int .u32) w A l.length l) (hc : l.length ≤ c) (h20 : l.length ≤ 20) (hwr : chkO (N : Int) xs = 1) (hlen : l.length ≤ 16) (hwk : chkO (l.length : Int) (pad l) = 0) :
    Calls Tryz.prog 4 #[oidV (N : Int) xs, oidV (M : Int) ys, .slice A l.length c] w fun e w' => e = .returned (.bool true) ∧ Below w.heap.size w w' := by
  have S := Q2.start N xs M ys w hT
  have HX := Lib.hid hx
  have HY := Lib.hid hy
  have h20' : ¬ (20 : Int) < (l.length : Int) := by omega
  have HCR := Lib.hid (fun W => rcheck_any N xs W hx hN)
  have HCK := Lib.hid (fun W => check_any (N : Int) xs W hx (by omega))
  obtain ⟨b, hb⟩ : ∃ b, decide ((N : Int) = 5 ∧ xs = anyX) = b := ⟨_, rfl⟩
  have HIA := Lib.hid (fun W => isany_any (N : Int) xs b W hx hb)
  have HB := Lib.hid hb
  have HPE := Lib.hid (fun W => put_err N xs W hx hwr)
  have HTE := Lib.hid (fun W => text_err N xs W hx hwr)
  have HHA := Lib.hid (fun W => has_is N M (N : Int) (M : Int) xs ys false W rfl rfl hN hM hx hy (by unfold hasO; rw [hwr]; simp))
  have HHB := Lib.hid (fun W => has_is M N (M : Int) (N : Int) ys xs false W rfl rfl hM hN hy hx (by unfold hasO; rw [hwr]; simp))
  rw [hwr] at HCR HCK
  have h17 : (l.length : Int) < 17 := by omega
  have hl : l.length ≤ 16 := by omega
  have HM := Lib.hid (fun W (hW : Below w.heap.size w W) => made_is A c l W hl (Kd.C_below hr hW))
  have HPL := Lib.hid (pad_len l hl)
  have HMC := Lib.hid (fun W => rcheck_any l.length (pad l) W (pad_len l hl) (by omega))
  rw [hwk] at HMC
  have HOF := Lib.hid (fun W (hW : Below w.heap.size w W) => of_short A c l W hl (Kd.C_below hr hW) hc)
  rw [show ofN l = (l.length : Int) from if_pos hwk, show ofX l = pad l from if_pos hwk] at HOF
  clear hl hwk
  clear hx hy hwr hT hN hM hr hc hb h20 hlen
  go_enter Tryz.func4, Tryz.ntmps4
  go_upto_region 4 with (first
    | ((with_reducible refine gate_dst (N := 15) rfl ?_); (try (refine gate_guard (by rfl) ?_; dsimp only)); refine wpList_load_row rfl 28 _ rfl (w.heap.size) rfl 28 (oidC (N : Int) xs) (0, 0) _ (Q2.x (by assumption)) Tryz.underlying28 rfl (oid_info _ _ HX.out) ?_)
    | (go_at_call 20; refine (HCR.out _).mono ?_; rintro e w3 ⟨rfl, hq⟩; have HS4 := Q2.next S hq; clear hq))
  replace HS4 := HS4.next (Below.refl _ _).drew
  clear S
  refine start_ (n := 12) (S := fun W => Q2 N xs M ys w W) (ds := []) #[false, false, false, false, false, false, false, false, false, false, false, false] (by kernel_rfl) rfl rfl HS4 (fun HS => ?_)
  refine take_ (i := 0) (N := some 17) (v := ?_) (a' := ?_) #[true, false, false, false, false, false, false, false, false, false, false, false] rfl rfl (by kernel_rfl) (fun _ _ _ h => h) (Or.inl ⟨by rfl, ?_⟩) (by assumption) ?_ ?_
  rotate_left
  · refine load_yields (fun W => Q2 N xs M ys w W) 28 (.tmp 3) ?_ (w.heap.size) ?_ 28 (oidC (N : Int) xs) _ (fun W h => Q2.x h) Tryz.underlying28 rfl (oid_info _ _ HX.out)
    · rfl
    · rfl
  rotate_left
  · simp only [Act.put, List.setIfInBounds_toArray, List.set_cons_zero, List.set_cons_succ, i64_w, i32_w]
    rfl
  refine take_ (i := 2) (N := some 19) (v := ?_) (a' := ?_) #[true, false, true, false, false, false, false, false, false, false, false, false] rfl rfl (by kernel_rfl) (fun _ _ _ h => h) (Or.inl ⟨by rfl, ?_⟩) (by assumption) ?_ ?_
  rotate_left
  · rintro W' hS'
    go_simp
    with_reducible rfl
  rotate_left
  · simp only [Act.put, List.setIfInBounds_toArray, List.set_cons_zero, List.set_cons_succ, i64_w, i32_w]
    rfl
  refine one_ (i := 1) (N := some 18) #[true, true, true, false, false, false, false, false, false, false, false, false] rfl rfl (by kernel_rfl) (by decide) (fun K hK => ?_)
  refine goes_ Tryz.func18 (by kernel_rfl) rfl #[oidV (N : Int) xs] (by rfl) rfl rfl (by (try simp only [List.map_toArray, List.map_cons, List.map_nil]); first | done | rfl) ?_
  refine (HCK.out _).mono ?_
  rintro e w4 ⟨rfl, hq⟩
  refine ⟨_, rfl, ?_⟩
  replace HS4 := HS4.next hq
  clear hq
  refine hK.out _ _ HS4 (fun HS => ?_)
  clear hK K
  refine norm_ (a' := ?_) ?_ ?_
  rotate_left
  · show Act.put _ (some 18) _ = _
    simp only [Act.put, List.setIfInBounds_toArray, List.set_cons_zero, List.set_cons_succ, i64_w, i32_w]
    rfl
  refine take_ (i := 3) (N := some 20) (v := ?_) (a' := ?_) #[true, true, true, true, false, false, false, false, false, false, false, false] rfl rfl (by kernel_rfl) (fun _ _ _ h => h) (Or.inl ⟨by rfl, ?_⟩) (by assumption) ?_ ?_
  rotate_left
  · rintro W' hS'
    go_simp
    with_reducible rfl
  rotate_left
  · simp only [Act.put, List.setIfInBounds_toArray, List.set_cons_zero, List.set_cons_succ, i64_w, i32_w]
    rfl
  refine take_ (i := 4) (N := some 21) (v := ?_) (a' := ?_) #[true, true, true, true, true, false, false, false, false, false, false, false] rfl rfl (by kernel_rfl) (fun _ _ _ h => h) (Or.inl ⟨by rfl, ?_⟩) (by assumption) ?_ ?_
  rotate_left
  · rintro W' hS'
    go_simp
    with_reducible rfl
  rotate_left
  · simp only [Act.put, List.setIfInBounds_toArray, List.set_cons_zero, List.set_cons_succ, i64_w, i32_w]
    rfl
  refine take_ (i := 5) (N := some 22) (v := ?_) (a' := ?_) #[true, true, true, true, true, true, false, false, false, false, false, false] rfl rfl (by kernel_rfl) (fun _ _ _ h => h) (Or.inl ⟨by rfl, ?_⟩) (by assumption) ?_ ?_
  rotate_left
  · refine load_yields (fun W => Q2 N xs M ys w W) 28 (.tmp 3) ?_ (w.heap.size) ?_ 28 (oidC (N : Int) xs) _ (fun W h => Q2.x h) Tryz.underlying28 rfl (oid_info _ _ HX.out)
    · rfl
    · rfl
  rotate_left
  · simp only [Act.put, List.setIfInBounds_toArray, List.set_cons_zero, List.set_cons_succ, i64_w, i32_w]
    rfl
  refine take_ (i := 7) (N := some 24) (v := ?_) (a' := ?_) #[true, true, true, true, true, true, false, true, false, false, false, false] rfl rfl (by kernel_rfl) (fun _ _ _ h => h) (Or.inl ⟨by rfl, ?_⟩) (by assumption) ?_ ?_
  rotate_left
  · refine load_yields (fun W => Q2 N xs M ys w W) 28 (.tmp 3) ?_ (w.heap.size) ?_ 28 (oidC (N : Int) xs) _ (fun W h => Q2.x h) Tryz.underlying28 rfl (oid_info _ _ HX.out)
    · rfl
    · rfl
  rotate_left
  · simp only [Act.put, List.setIfInBounds_toArray, List.set_cons_zero, List.set_cons_succ, i64_w, i32_w]
    rfl
  refine one_ (i := 6) (N := some 23) #[true, true, true, true, true, true, true, true, false, false, false, false] rfl rfl (by kernel_rfl) (by decide) (fun K hK => ?_)
  refine goes_ Tryz.func21 (by kernel_rfl) rfl #[oidV (N : Int) xs] (by rfl) rfl rfl (by (try simp only [List.map_toArray, List.map_cons, List.map_nil]); first | done | rfl) ?_
  refine (HIA.out _).mono ?_
  rintro e w4 ⟨rfl, hq⟩
  refine ⟨_, rfl, ?_⟩
  replace HS4 := HS4.next hq
  clear hq
  refine hK.out _ _ HS4 (fun HS => ?_)
  clear hK K
  refine norm_ (a' := ?_) ?_ ?_
  rotate_left
  · show Act.put _ (some 23) _ = _
    simp only [Act.put, List.setIfInBounds_toArray, List.set_cons_zero, List.set_cons_succ, i64_w, i32_w]
    rfl
  refine one_ (i := 8) (N := some 25) #[true, true, true, true, true, true, true, true, true, false, false, false] rfl rfl (by kernel_rfl) (by decide) (fun K hK => ?_)
  refine goes_ Tryz.func22 (by kernel_rfl) rfl #[] (by rfl) rfl rfl (by (try simp only [List.map_toArray, List.map_cons, List.map_nil]); first | done | rfl) ?_
  refine (rany_is _).mono ?_
  rintro e w4 ⟨rfl, hq⟩
  refine ⟨_, rfl, ?_⟩
  replace HS4 := HS4.next hq
  clear hq
  refine hK.out _ _ HS4 (fun HS => ?_)
  clear hK K
  refine norm_ (a' := ?_) ?_ ?_
  rotate_left
  · show Act.put _ (some 25) _ = _
    simp only [Act.put, List.setIfInBounds_toArray, List.set_cons_zero, List.set_cons_succ, i64_w, i32_w]
    rfl
  refine take_ (i := 9) (N := some 26) (v := ?_) (a' := ?_) #[true, true, true, true, true, true, true, true, true, true, false, false] rfl rfl (by kernel_rfl) (fun _ _ _ h => h) (Or.inl ⟨by rfl, ?_⟩) (by assumption) ?_ ?_
  rotate_left
  · refine eq_yieldsB (fun W => Q2 N xs M ys w W) (.tmp 24) (.tmp 25) ?_ (N : Int) xs 5 anyX ?_ ?_ HX.out rfl HB.out
    · rfl
    · rfl
    · rfl
  rotate_left
  · simp only [Act.put, List.setIfInBounds_toArray, List.set_cons_zero, List.set_cons_succ, i64_w, i32_w]
    rfl
  refine take_ (i := 10) (N := some 27) (v := ?_) (a' := ?_) #[true, true, true, true, true, true, true, true, true, true, true, false] rfl rfl (by kernel_rfl) (fun _ _ _ h => h) (Or.inl ⟨by rfl, ?_⟩) (by assumption) ?_ ?_
  rotate_left
  · rintro W' hS'
    go_simp
    with_reducible rfl
  rotate_left
  · simp only [Act.put, List.setIfInBounds_toArray, List.set_cons_zero, List.set_cons_succ, i64_w, i32_w]
    rfl
  refine take_ (i := 11) (N := some 28) (v := ?_) (a' := ?_) #[true, true, true, true, true, true, true, true, true, true, true, true] rfl rfl (by kernel_rfl) (fun _ _ _ h => h) (Or.inl ⟨by rfl, ?_⟩) (by assumption) ?_ ?_
  rotate_left
  · rintro W' hS'
    go_simp
    with_reducible rfl
  rotate_left
  · simp only [Act.put, List.setIfInBounds_toArray, List.set_cons_zero, List.set_cons_succ, i64_w, i32_w]
    rfl
  refine done_ (by kernel_rfl) ?_
  clear HS
  go_upto_region 7 with fail
  rw [zrow]
  have HQ := Q1.start 0 Z16 w4
  change Code.wp _ _ _ _ (w4.alloc (.cells (oidC 0 Z16) 28))
  generalize w4.alloc (.cells (oidC 0 Z16) 28) = W7 at *
  go_upto_region 9 with (first
    | (go_at_call 23; refine (HM.out _ (HS4.next (Q1.b (by assumption))).st.b).mono ?_; rintro e w7 ⟨rfl, hq⟩; replace HQ := Q1.next (by assumption) hq; clear hq)
    | (go_at_call 20; refine (HMC.out _).mono ?_; rintro e w7 ⟨rfl, hq⟩; replace HQ := Q1.next (by assumption) hq; clear hq)
    | ((with_reducible refine gate_store rfl ?_); refine wpList_plain rfl fun K hK => ?_; refine wp_store_row 28 _ _ rfl w4.heap.size (oidC (l.length : Int) (pad l)) rfl rfl 28 (oidC 0 Z16) (Q1.x (by assumption)) (oid_info _ _ HPL.out) (by simp [HPL.out]) (oid_one _ _) ?_; refine hK _ _ ?_))
  replace HQ := Q1.put HQ (l.length : Int) (pad l)
  replace HQ := HQ.next (Below.refl _ _).drew
  refine start_ (n := 4) (S := fun W => Q1 (l.length : Int) (pad l) w4 W) (ds := []) #[false, false, false, false] (by kernel_rfl) rfl rfl HQ (fun HS => ?_)
  refine take_ (i := 0) (N := some 40) (v := ?_) (a' := ?_) #[true, false, false, false] rfl rfl (by kernel_rfl) (fun _ _ _ h => h) (Or.inl ⟨by rfl, ?_⟩) (by assumption) ?_ ?_
  rotate_left
  · rintro W' hS'
    go_simp
    with_reducible rfl
  rotate_left
  · simp only [Act.put, List.setIfInBounds_toArray, List.set_cons_zero, List.set_cons_succ, i64_w, i32_w]
    rfl
  refine take_ (i := 2) (N := some 42) (v := ?_) (a' := ?_) #[true, false, true, false] rfl rfl (by kernel_rfl) (fun _ _ _ h => h) (Or.inl ⟨by rfl, ?_⟩) (by assumption) ?_ ?_
  rotate_left
  · refine load_yields (fun W => Q1 (l.length : Int) (pad l) w4 W) 28 (.tmp 8) ?_ (w4.heap.size) ?_ 28 (oidC (l.length : Int) (pad l)) _ (fun W h => Q1.x h) Tryz.underlying28 rfl (oid_info _ _ HPL.out)
    · rfl
    · rfl
  rotate_left
  · simp only [Act.put, List.setIfInBounds_toArray, List.set_cons_zero, List.set_cons_succ, i64_w, i32_w]
    rfl
  refine one_ (i := 1) (N := some 41) #[true, true, true, false] rfl rfl (by kernel_rfl) (by decide) (fun K hK => ?_)
  refine goes_ Tryz.func24 (by kernel_rfl) rfl #[.slice A l.length c] (by rfl) rfl rfl (by (try simp only [List.map_toArray, List.map_cons, List.map_nil]); first | done | rfl) ?_
  refine (HOF.out _ (HS4.next HQ.b).st.b).mono ?_
  rintro e w9 ⟨rfl, hq⟩
  refine ⟨_, rfl, ?_⟩
  replace HQ := HQ.next hq
  clear hq
  refine hK.out _ _ HQ (fun HS => ?_)
  clear hK K
  refine norm_ (a' := ?_) ?_ ?_
  rotate_left
  · show Act.put _ (some 41) _ = _
    simp only [Act.put, List.setIfInBounds_toArray, List.set_cons_zero, List.set_cons_succ, i64_w, i32_w]
    rfl
  refine take_ (i := 3) (N := some 43) (v := ?_) (a' := ?_) #[true, true, true, true] rfl rfl (by kernel_rfl) (fun _ _ _ h => h) (Or.inl ⟨by rfl, ?_⟩) (by assumption) ?_ ?_
  rotate_left
  · refine neq_yieldsB (fun W => Q1 (l.length : Int) (pad l) w4 W) (.tmp 41) (.tmp 42) ?_ (l.length : Int) (pad l) (l.length : Int) (pad l) ?_ ?_ HPL.out HPL.out (b := true) (decide_eq_true (show ((l.length : Int) : Int) = (l.length : Int) ∧ (pad l) = (pad l) from ⟨rfl, rfl⟩))
    · rfl
    · rfl
    · rfl
  rotate_left
  · simp only [Act.put, List.setIfInBounds_toArray, List.set_cons_zero, List.set_cons_succ, i64_w, i32_w]
    rfl
  refine done_ (by kernel_rfl) ?_
  have S := HS4.next HQ.b
  clear HS4 HQ HS
  go_wp2_with (first
    | ((with_reducible refine gate_dst (N := 48) rfl ?_); (try (refine gate_guard (by rfl) ?_; dsimp only)); refine wpList_load_row rfl 28 _ rfl (w.heap.size) rfl 28 (oidC (N : Int) xs) (0, 0) _ (Q2.x (by assumption)) Tryz.underlying28 rfl (oid_info _ _ HX.out) ?_)
    | ((with_reducible refine gate_dst (N := 56) rfl ?_); (try (refine gate_guard (by rfl) ?_; dsimp only)); refine wpList_load_row rfl 28 _ rfl (w.heap.size) rfl 28 (oidC (N : Int) xs) (0, 0) _ (Q2.x (by assumption)) Tryz.underlying28 rfl (oid_info _ _ HX.out) ?_)
    | ((with_reducible refine gate_dst (N := 61) rfl ?_); (try (refine gate_guard (by rfl) ?_; dsimp only)); refine wpList_load_row rfl 28 _ rfl (w.heap.size) rfl 28 (oidC (N : Int) xs) (0, 0) _ (Q2.x (by assumption)) Tryz.underlying28 rfl (oid_info _ _ HX.out) ?_)
    | ((with_reducible refine gate_dst (N := 68) rfl ?_); (try (refine gate_guard (by rfl) ?_; dsimp only)); refine wpList_load_row rfl 28 _ rfl (w.heap.size) rfl 28 (oidC (N : Int) xs) (0, 0) _ (Q2.x (by assumption)) Tryz.underlying28 rfl (oid_info _ _ HX.out) ?_)
    | ((with_reducible refine gate_dst (N := 62) rfl ?_); (try (refine gate_guard (by rfl) ?_; dsimp only)); refine wpList_load_row rfl 28 _ rfl (w.heap.size + 1) rfl 28 (oidC (M : Int) ys) (0, 0) _ (Q2.y (by assumption)) Tryz.underlying28 rfl (oid_info _ _ HY.out) ?_)
    | ((with_reducible refine gate_dst (N := 67) rfl ?_); (try (refine gate_guard (by rfl) ?_; dsimp only)); refine wpList_load_row rfl 28 _ rfl (w.heap.size + 1) rfl 28 (oidC (M : Int) ys) (0, 0) _ (Q2.y (by assumption)) Tryz.underlying28 rfl (oid_info _ _ HY.out) ?_)
    | (go_at_call 11; with_reducible refine (HPE.out _).mono ?_; rintro e w' ⟨rfl, hq⟩; replace S := Q2.next (by assumption) hq; clear hq)
    | (go_at_call 13; with_reducible refine (same_nil 1 _).mono ?_; rintro e w' ⟨rfl, hq⟩; replace S := Q2.next (by assumption) hq; clear hq)
    | (go_at_call 12; with_reducible refine (HTE.out _).mono ?_; rintro e w' ⟨rfl, hq⟩; replace S := Q2.next (by assumption) hq; clear hq)
    | (go_at_call 25; with_reducible refine (HHA.out _).mono ?_; rintro e w' ⟨rfl, hq⟩; replace S := Q2.next (by assumption) hq; clear hq)
    | (go_at_call 25; with_reducible refine (HHB.out _).mono ?_; rintro e w' ⟨rfl, hq⟩; replace S := Q2.next (by assumption) hq; clear hq)
    | (go_at_call 19; refine (lives_yes _ (Q2.st (by assumption)).t).mono ?_; rintro e w' ⟨rfl, hq⟩; replace S := Q2.next (by assumption) hq; clear hq))
  go_ret
  exact ⟨rfl, (Q2.st (by assumption)).b⟩
set_option maxHeartbeats 8000000 in
theorem ocheck_1bad (N : Nat) (xs : List Int) (M : Nat) (ys : List Int) (A : Option Addr) (l : List Int) (c : Nat) (w : World) (hT : Tabs w) (hN : N < 256) (hM : M < 256) (hx : xs.length = 16) (hy : ys.length = 16) (hr : Kd.C (Kd.int .u32) w A l.length l) (hc : l.length ≤ c) (h20 : l.length ≤ 20) (hwr : chkO (N : Int) xs = 1) (hlen : l.length ≤ 16) (hwk : chkO (l.length : Int) (pad l) = 1) :
    Calls Tryz.prog 4 #[oidV (N : Int) xs, oidV (M : Int) ys, .slice A l.length c] w fun e w' => e = .returned (.bool true) ∧ Below w.heap.size w w' := by
  have S := Q2.start N xs M ys w hT
  have HX := Lib.hid hx
  have HY := Lib.hid hy
  have h20' : ¬ (20 : Int) < (l.length : Int) := by omega
  have HCR := Lib.hid (fun W => rcheck_any N xs W hx hN)
  have HCK := Lib.hid (fun W => check_any (N : Int) xs W hx (by omega))
  obtain ⟨b, hb⟩ : ∃ b, decide ((N : Int) = 5 ∧ xs = anyX) = b := ⟨_, rfl⟩
  have HIA := Lib.hid (fun W => isany_any (N : Int) xs b W hx hb)
  have HB := Lib.hid hb
  have HPE := Lib.hid (fun W => put_err N xs W hx hwr)
  have HTE := Lib.hid (fun W => text_err N xs W hx hwr)
  have HHA := Lib.hid (fun W => has_is N M (N : Int) (M : Int) xs ys false W rfl rfl hN hM hx hy (by unfold hasO; rw [hwr]; simp))
  have HHB := Lib.hid (fun W => has_is M N (M : Int) (N : Int) ys xs false W rfl rfl hM hN hy hx (by unfold hasO; rw [hwr]; simp))
  rw [hwr] at HCR HCK
  have h17 : (l.length : Int) < 17 := by omega
  have hl : l.length ≤ 16 := by omega
  have HM := Lib.hid (fun W (hW : Below w.heap.size w W) => made_is A c l W hl (Kd.C_below hr hW))
  have HPL := Lib.hid (pad_len l hl)
  have HMC := Lib.hid (fun W => rcheck_any l.length (pad l) W (pad_len l hl) (by omega))
  rw [hwk] at HMC
  have HOF := Lib.hid (fun W (hW : Below w.heap.size w W) => of_short A c l W hl (Kd.C_below hr hW) hc)
  rw [show ofN l = 0 from if_neg (by rw [hwk]; decide), show ofX l = Z16 from if_neg (by rw [hwk]; decide)] at HOF
  clear hl hwk
  clear hx hy hwr hT hN hM hr hc hb h20 hlen
  go_enter Tryz.func4, Tryz.ntmps4
  go_upto_region 4 with (first
    | ((with_reducible refine gate_dst (N := 15) rfl ?_); (try (refine gate_guard (by rfl) ?_; dsimp only)); refine wpList_load_row rfl 28 _ rfl (w.heap.size) rfl 28 (oidC (N : Int) xs) (0, 0) _ (Q2.x (by assumption)) Tryz.underlying28 rfl (oid_info _ _ HX.out) ?_)
    | (go_at_call 20; refine (HCR.out _).mono ?_; rintro e w3 ⟨rfl, hq⟩; have HS4 := Q2.next S hq; clear hq))
  replace HS4 := HS4.next (Below.refl _ _).drew
  clear S
  refine start_ (n := 12) (S := fun W => Q2 N xs M ys w W) (ds := []) #[false, false, false, false, false, false, false, false, false, false, false, false] (by kernel_rfl) rfl rfl HS4 (fun HS => ?_)
  refine take_ (i := 0) (N := some 17) (v := ?_) (a' := ?_) #[true, false, false, false, false, false, false, false, false, false, false, false] rfl rfl (by kernel_rfl) (fun _ _ _ h => h) (Or.inl ⟨by rfl, ?_⟩) (by assumption) ?_ ?_
  rotate_left
  · refine load_yields (fun W => Q2 N xs M ys w W) 28 (.tmp 3) ?_ (w.heap.size) ?_ 28 (oidC (N : Int) xs) _ (fun W h => Q2.x h) Tryz.underlying28 rfl (oid_info _ _ HX.out)
    · rfl
    · rfl
  rotate_left
  · simp only [Act.put, List.setIfInBounds_toArray, List.set_cons_zero, List.set_cons_succ, i64_w, i32_w]
    rfl
  refine take_ (i := 2) (N := some 19) (v := ?_) (a' := ?_) #[true, false, true, false, false, false, false, false, false, false, false, false] rfl rfl (by kernel_rfl) (fun _ _ _ h => h) (Or.inl ⟨by rfl, ?_⟩) (by assumption) ?_ ?_
  rotate_left
  · rintro W' hS'
    go_simp
    with_reducible rfl
  rotate_left
  · simp only [Act.put, List.setIfInBounds_toArray, List.set_cons_zero, List.set_cons_succ, i64_w, i32_w]
    rfl
  refine one_ (i := 1) (N := some 18) #[true, true, true, false, false, false, false, false, false, false, false, false] rfl rfl (by kernel_rfl) (by decide) (fun K hK => ?_)
  refine goes_ Tryz.func18 (by kernel_rfl) rfl #[oidV (N : Int) xs] (by rfl) rfl rfl (by (try simp only [List.map_toArray, List.map_cons, List.map_nil]); first | done | rfl) ?_
  refine (HCK.out _).mono ?_
  rintro e w4 ⟨rfl, hq⟩
  refine ⟨_, rfl, ?_⟩
  replace HS4 := HS4.next hq
  clear hq
  refine hK.out _ _ HS4 (fun HS => ?_)
  clear hK K
  refine norm_ (a' := ?_) ?_ ?_
  rotate_left
  · show Act.put _ (some 18) _ = _
    simp only [Act.put, List.setIfInBounds_toArray, List.set_cons_zero, List.set_cons_succ, i64_w, i32_w]
    rfl
  refine take_ (i := 3) (N := some 20) (v := ?_) (a' := ?_) #[true, true, true, true, false, false, false, false, false, false, false, false] rfl rfl (by kernel_rfl) (fun _ _ _ h => h) (Or.inl ⟨by rfl, ?_⟩) (by assumption) ?_ ?_
  rotate_left
  · rintro W' hS'
    go_simp
    with_reducible rfl
  rotate_left
  · simp only [Act.put, List.setIfInBounds_toArray, List.set_cons_zero, List.set_cons_succ, i64_w, i32_w]
    rfl
  refine take_ (i := 4) (N := some 21) (v := ?_) (a' := ?_) #[true, true, true, true, true, false, false, false, false, false, false, false] rfl rfl (by kernel_rfl) (fun _ _ _ h => h) (Or.inl ⟨by rfl, ?_⟩) (by assumption) ?_ ?_
  rotate_left
  · rintro W' hS'
    go_simp
    with_reducible rfl
  rotate_left
  · simp only [Act.put, List.setIfInBounds_toArray, List.set_cons_zero, List.set_cons_succ, i64_w, i32_w]
    rfl
  refine take_ (i := 5) (N := some 22) (v := ?_) (a' := ?_) #[true, true, true, true, true, true, false, false, false, false, false, false] rfl rfl (by kernel_rfl) (fun _ _ _ h => h) (Or.inl ⟨by rfl, ?_⟩) (by assumption) ?_ ?_
  rotate_left
  · refine load_yields (fun W => Q2 N xs M ys w W) 28 (.tmp 3) ?_ (w.heap.size) ?_ 28 (oidC (N : Int) xs) _ (fun W h => Q2.x h) Tryz.underlying28 rfl (oid_info _ _ HX.out)
    · rfl
    · rfl
  rotate_left
  · simp only [Act.put, List.setIfInBounds_toArray, List.set_cons_zero, List.set_cons_succ, i64_w, i32_w]
    rfl
  refine take_ (i := 7) (N := some 24) (v := ?_) (a' := ?_) #[true, true, true, true, true, true, false, true, false, false, false, false] rfl rfl (by kernel_rfl) (fun _ _ _ h => h) (Or.inl ⟨by rfl, ?_⟩) (by assumption) ?_ ?_
  rotate_left
  · refine load_yields (fun W => Q2 N xs M ys w W) 28 (.tmp 3) ?_ (w.heap.size) ?_ 28 (oidC (N : Int) xs) _ (fun W h => Q2.x h) Tryz.underlying28 rfl (oid_info _ _ HX.out)
    · rfl
    · rfl
  rotate_left
  · simp only [Act.put, List.setIfInBounds_toArray, List.set_cons_zero, List.set_cons_succ, i64_w, i32_w]
    rfl
  refine one_ (i := 6) (N := some 23) #[true, true, true, true, true, true, true, true, false, false, false, false] rfl rfl (by kernel_rfl) (by decide) (fun K hK => ?_)
  refine goes_ Tryz.func21 (by kernel_rfl) rfl #[oidV (N : Int) xs] (by rfl) rfl rfl (by (try simp only [List.map_toArray, List.map_cons, List.map_nil]); first | done | rfl) ?_
  refine (HIA.out _).mono ?_
  rintro e w4 ⟨rfl, hq⟩
  refine ⟨_, rfl, ?_⟩
  replace HS4 := HS4.next hq
  clear hq
  refine hK.out _ _ HS4 (fun HS => ?_)
  clear hK K
  refine norm_ (a' := ?_) ?_ ?_
  rotate_left
  · show Act.put _ (some 23) _ = _
    simp only [Act.put, List.setIfInBounds_toArray, List.set_cons_zero, List.set_cons_succ, i64_w, i32_w]
    rfl
  refine one_ (i := 8) (N := some 25) #[true, true, true, true, true, true, true, true, true, false, false, false] rfl rfl (by kernel_rfl) (by decide) (fun K hK => ?_)
  refine goes_ Tryz.func22 (by kernel_rfl) rfl #[] (by rfl) rfl rfl (by (try simp only [List.map_toArray, List.map_cons, List.map_nil]); first | done | rfl) ?_
  refine (rany_is _).mono ?_
  rintro e w4 ⟨rfl, hq⟩
  refine ⟨_, rfl, ?_⟩
  replace HS4 := HS4.next hq
  clear hq
  refine hK.out _ _ HS4 (fun HS => ?_)
  clear hK K
  refine norm_ (a' := ?_) ?_ ?_
  rotate_left
  · show Act.put _ (some 25) _ = _
    simp only [Act.put, List.setIfInBounds_toArray, List.set_cons_zero, List.set_cons_succ, i64_w, i32_w]
    rfl
  refine take_ (i := 9) (N := some 26) (v := ?_) (a' := ?_) #[true, true, true, true, true, true, true, true, true, true, false, false] rfl rfl (by kernel_rfl) (fun _ _ _ h => h) (Or.inl ⟨by rfl, ?_⟩) (by assumption) ?_ ?_
  rotate_left
  · refine eq_yieldsB (fun W => Q2 N xs M ys w W) (.tmp 24) (.tmp 25) ?_ (N : Int) xs 5 anyX ?_ ?_ HX.out rfl HB.out
    · rfl
    · rfl
    · rfl
  rotate_left
  · simp only [Act.put, List.setIfInBounds_toArray, List.set_cons_zero, List.set_cons_succ, i64_w, i32_w]
    rfl
  refine take_ (i := 10) (N := some 27) (v := ?_) (a' := ?_) #[true, true, true, true, true, true, true, true, true, true, true, false] rfl rfl (by kernel_rfl) (fun _ _ _ h => h) (Or.inl ⟨by rfl, ?_⟩) (by assumption) ?_ ?_
  rotate_left
  · rintro W' hS'
    go_simp
    with_reducible rfl
  rotate_left
  · simp only [Act.put, List.setIfInBounds_toArray, List.set_cons_zero, List.set_cons_succ, i64_w, i32_w]
    rfl
  refine take_ (i := 11) (N := some 28) (v := ?_) (a' := ?_) #[true, true, true, true, true, true, true, true, true, true, true, true] rfl rfl (by kernel_rfl) (fun _ _ _ h => h) (Or.inl ⟨by rfl, ?_⟩) (by assumption) ?_ ?_
  rotate_left
  · rintro W' hS'
    go_simp
    with_reducible rfl
  rotate_left
  · simp only [Act.put, List.setIfInBounds_toArray, List.set_cons_zero, List.set_cons_succ, i64_w, i32_w]
    rfl
  refine done_ (by kernel_rfl) ?_
  clear HS
  go_upto_region 7 with fail
  rw [zrow]
  have HQ := Q1.start 0 Z16 w4
  change Code.wp _ _ _ _ (w4.alloc (.cells (oidC 0 Z16) 28))
  generalize w4.alloc (.cells (oidC 0 Z16) 28) = W7 at *
  go_upto_region 9 with (first
    | (go_at_call 23; refine (HM.out _ (HS4.next (Q1.b (by assumption))).st.b).mono ?_; rintro e w7 ⟨rfl, hq⟩; replace HQ := Q1.next (by assumption) hq; clear hq)
    | (go_at_call 20; refine (HMC.out _).mono ?_; rintro e w7 ⟨rfl, hq⟩; replace HQ := Q1.next (by assumption) hq; clear hq))
  replace HQ := HQ.next (Below.refl _ _).drew
  refine start_ (n := 4) (S := fun W => Q1 0 Z16 w4 W) (ds := []) #[false, false, false, false] (by kernel_rfl) rfl rfl HQ (fun HS => ?_)
  refine take_ (i := 0) (N := some 40) (v := ?_) (a' := ?_) #[true, false, false, false] rfl rfl (by kernel_rfl) (fun _ _ _ h => h) (Or.inl ⟨by rfl, ?_⟩) (by assumption) ?_ ?_
  rotate_left
  · rintro W' hS'
    go_simp
    with_reducible rfl
  rotate_left
  · simp only [Act.put, List.setIfInBounds_toArray, List.set_cons_zero, List.set_cons_succ, i64_w, i32_w]
    rfl
  refine take_ (i := 2) (N := some 42) (v := ?_) (a' := ?_) #[true, false, true, false] rfl rfl (by kernel_rfl) (fun _ _ _ h => h) (Or.inl ⟨by rfl, ?_⟩) (by assumption) ?_ ?_
  rotate_left
  · refine load_yields (fun W => Q1 0 Z16 w4 W) 28 (.tmp 8) ?_ (w4.heap.size) ?_ 28 (oidC 0 Z16) _ (fun W h => Q1.x h) Tryz.underlying28 rfl (oid_info _ _ rfl)
    · rfl
    · rfl
  rotate_left
  · simp only [Act.put, List.setIfInBounds_toArray, List.set_cons_zero, List.set_cons_succ, i64_w, i32_w]
    rfl
  refine one_ (i := 1) (N := some 41) #[true, true, true, false] rfl rfl (by kernel_rfl) (by decide) (fun K hK => ?_)
  refine goes_ Tryz.func24 (by kernel_rfl) rfl #[.slice A l.length c] (by rfl) rfl rfl (by (try simp only [List.map_toArray, List.map_cons, List.map_nil]); first | done | rfl) ?_
  refine (HOF.out _ (HS4.next HQ.b).st.b).mono ?_
  rintro e w9 ⟨rfl, hq⟩
  refine ⟨_, rfl, ?_⟩
  replace HQ := HQ.next hq
  clear hq
  refine hK.out _ _ HQ (fun HS => ?_)
  clear hK K
  refine norm_ (a' := ?_) ?_ ?_
  rotate_left
  · show Act.put _ (some 41) _ = _
    simp only [Act.put, List.setIfInBounds_toArray, List.set_cons_zero, List.set_cons_succ, i64_w, i32_w]
    rfl
  refine take_ (i := 3) (N := some 43) (v := ?_) (a' := ?_) #[true, true, true, true] rfl rfl (by kernel_rfl) (fun _ _ _ h => h) (Or.inl ⟨by rfl, ?_⟩) (by assumption) ?_ ?_
  rotate_left
  · refine neq_yieldsB (fun W => Q1 0 Z16 w4 W) (.tmp 41) (.tmp 42) ?_ 0 Z16 0 Z16 ?_ ?_ rfl rfl (b := true) (decide_eq_true (show (0 : Int) = 0 ∧ Z16 = Z16 from ⟨rfl, rfl⟩))
    · rfl
    · rfl
    · rfl
  rotate_left
  · simp only [Act.put, List.setIfInBounds_toArray, List.set_cons_zero, List.set_cons_succ, i64_w, i32_w]
    rfl
  refine done_ (by kernel_rfl) ?_
  have S := HS4.next HQ.b
  clear HS4 HQ HS
  go_wp2_with (first
    | ((with_reducible refine gate_dst (N := 48) rfl ?_); (try (refine gate_guard (by rfl) ?_; dsimp only)); refine wpList_load_row rfl 28 _ rfl (w.heap.size) rfl 28 (oidC (N : Int) xs) (0, 0) _ (Q2.x (by assumption)) Tryz.underlying28 rfl (oid_info _ _ HX.out) ?_)
    | ((with_reducible refine gate_dst (N := 56) rfl ?_); (try (refine gate_guard (by rfl) ?_; dsimp only)); refine wpList_load_row rfl 28 _ rfl (w.heap.size) rfl 28 (oidC (N : Int) xs) (0, 0) _ (Q2.x (by assumption)) Tryz.underlying28 rfl (oid_info _ _ HX.out) ?_)
    | ((with_reducible refine gate_dst (N := 61) rfl ?_); (try (refine gate_guard (by rfl) ?_; dsimp only)); refine wpList_load_row rfl 28 _ rfl (w.heap.size) rfl 28 (oidC (N : Int) xs) (0, 0) _ (Q2.x (by assumption)) Tryz.underlying28 rfl (oid_info _ _ HX.out) ?_)
    | ((with_reducible refine gate_dst (N := 68) rfl ?_); (try (refine gate_guard (by rfl) ?_; dsimp only)); refine wpList_load_row rfl 28 _ rfl (w.heap.size) rfl 28 (oidC (N : Int) xs) (0, 0) _ (Q2.x (by assumption)) Tryz.underlying28 rfl (oid_info _ _ HX.out) ?_)
    | ((with_reducible refine gate_dst (N := 62) rfl ?_); (try (refine gate_guard (by rfl) ?_; dsimp only)); refine wpList_load_row rfl 28 _ rfl (w.heap.size + 1) rfl 28 (oidC (M : Int) ys) (0, 0) _ (Q2.y (by assumption)) Tryz.underlying28 rfl (oid_info _ _ HY.out) ?_)
    | ((with_reducible refine gate_dst (N := 67) rfl ?_); (try (refine gate_guard (by rfl) ?_; dsimp only)); refine wpList_load_row rfl 28 _ rfl (w.heap.size + 1) rfl 28 (oidC (M : Int) ys) (0, 0) _ (Q2.y (by assumption)) Tryz.underlying28 rfl (oid_info _ _ HY.out) ?_)
    | (go_at_call 11; with_reducible refine (HPE.out _).mono ?_; rintro e w' ⟨rfl, hq⟩; replace S := Q2.next (by assumption) hq; clear hq)
    | (go_at_call 13; with_reducible refine (same_nil 1 _).mono ?_; rintro e w' ⟨rfl, hq⟩; replace S := Q2.next (by assumption) hq; clear hq)
    | (go_at_call 12; with_reducible refine (HTE.out _).mono ?_; rintro e w' ⟨rfl, hq⟩; replace S := Q2.next (by assumption) hq; clear hq)
    | (go_at_call 25; with_reducible refine (HHA.out _).mono ?_; rintro e w' ⟨rfl, hq⟩; replace S := Q2.next (by assumption) hq; clear hq)
    | (go_at_call 25; with_reducible refine (HHB.out _).mono ?_; rintro e w' ⟨rfl, hq⟩; replace S := Q2.next (by assumption) hq; clear hq)
    | (go_at_call 19; refine (lives_yes _ (Q2.st (by assumption)).t).mono ?_; rintro e w' ⟨rfl, hq⟩; replace S := Q2.next (by assumption) hq; clear hq))
  go_ret
  exact ⟨rfl, (Q2.st (by assumption)).b⟩
set_option maxHeartbeats 4000000 in
theorem oidsCheck_walk (N : Nat) (xs : List Int) (M : Nat) (ys : List Int) (A : Option Addr) (l : List Int) (c : Nat) (w : World) (hT : Tabs w) (hN : N < 256) (hM : M < 256) (hx : xs.length = 16) (hy : ys.length = 16) (hr : Kd.C (Kd.int .u32) w A l.length l) (hc : l.length ≤ c) :
    Calls Tryz.prog 4 #[oidV (N : Int) xs, oidV (M : Int) ys, .slice A l.length c] w fun e w' => e = .returned (.bool true) ∧ Below w.heap.size w w' := by
  by_cases h20 : 20 < l.length
  · have h1 : (20 : Int) < (l.length : Int) := by omega
    have S := Q2.start N xs M ys w hT
    clear hx hy hr hc h20
    go_enter Tryz.func4, Tryz.ntmps4
    go_wp2_with (go_at_call 19; refine (lives_yes _ (Q2.st (by assumption)).t).mono ?_; rintro e w' ⟨rfl, hq⟩; replace S := Q2.next (by assumption) hq; clear hq)
    go_ret
    exact ⟨rfl, (Q2.st (by assumption)).b⟩
  have h20' : l.length ≤ 20 := by omega
  have h1 := chkO_01 (N : Int) xs
  have h2 := chkO_01 (l.length : Int) (pad l)
  by_cases hl : 16 < l.length
  · rcases h1 with h1 | h1
    · exact ocheck_0long N xs M ys A l c w hT hN hM hx hy hr hc h20' h1 hl
    · exact ocheck_1long N xs M ys A l c w hT hN hM hx hy hr hc h20' h1 hl
  have hl' : l.length ≤ 16 := by omega
  rcases h1 with h1 | h1
  · rcases h2 with h2 | h2
    · exact ocheck_0ok N xs M ys A l c w hT hN hM hx hy hr hc h20' h1 hl' h2
    · exact ocheck_0bad N xs M ys A l c w hT hN hM hx hy hr hc h20' h1 hl' h2
  · rcases h2 with h2 | h2
    · exact ocheck_1ok N xs M ys A l c w hT hN hM hx hy hr hc h20' h1 hl' h2
    · exact ocheck_1bad N xs M ys A l c w hT hN hM hx hy hr hc h20' h1 hl' h2
end Go.Proofs.YtacpcagijfacnaaGreatDoor
