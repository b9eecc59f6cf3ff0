/- Chapters 6, 7 (oids, oidsets): the equality of OIDs; the law's own helpers read, parsed, same. -/
import Derived.Test.YtacpcagijfacnaaDoorPa
import Derived.ChangeKeysEq
import Derived.Test.YtacpcagijfacnaaDoorWEqStruct
import Derived.Laws.BytesString
import Derived.Laws.IdiomStrings
import Derived.Test.YtacpcagijfacnaaDoorWLast
import Derived.Deep.RegionHeld3
import Derived.Deep.DeepCutAuto
namespace Go.Proofs.YtacpcagijfacnaaDoor
open Go.RowKit Go.Shelf
open Go.Proofs.YtacpcagijfacnaaDoorW.PrintWords (eqA_of eqf_cons eqf_last gate_dst gate_store Kd.C_below Kd.C_of_reads Kd.reads_of_C ReadsOf.at_ rdOf blk_new blk_below blk_cell blk_alloc blk_lt blk_frozen blk_drew blk_set Kd.C Kd.int)
set_option linter.unusedSimpArgs false
set_option linter.unusedVariables false
set_option maxRecDepth 50000
theorem list16 {xs : List Int} (h : xs.length = 16) : ∃ a b c d e f g i j k l m n o p q : Int, xs = [a, b, c, d, e, f, g, i, j, k, l, m, n, o, p, q] := by
  match xs, h with
  | [a, b, c, d, e, f, g, i, j, k, l, m, n, o, p, q], _ => exact ⟨a, b, c, d, e, f, g, i, j, k, l, m, n, o, p, q, rfl⟩
theorem eqItems_step {P : Program} {w : World} {d : Nat} {e : TypeId} {k : Nat} {xs ys : Array Value} {i : Nat} {is : List Nat} {a b : Int} {s : Bool}
    (ha : (part e xs (i * k)).run P w = .ok (.int .u32 a) w) (hb : (part e ys (i * k)).run P w = .ok (.int .u32 b) w) (he : (Op.equalIn d e (.int .u32 a) (.int .u32 b)).run P w = .ok (a == b) w)
    (h : (Op.eqItems d e k xs ys is).run P w = .ok s w) : (Op.eqItems d e k xs ys (i :: is)).run P w = .ok ((a == b) && s) w := by
  simp only [Op.eqItems, Sem.run_bind, ha, hb, he, Result.andThen_ok]
  cases hab : (a == b)
  · simp
  · simpa using h
theorem infoU : ∃ i, Tryd.prog.info? 24 = some i := by
  cases h : Tryd.prog.info? 24 with
  | none => exact absurd (show (Tryd.prog.info? 24).isSome = true by kernel_rfl) (by rw [h]; decide)
  | some i => exact ⟨i, rfl⟩
theorem cellsU : Tryd.prog.cellsOf 24 = 1 := by kernel_rfl
theorem und26 : Tryd.prog.underlying 25 = some (.array 16 24) := Tryd.underlying25
set_option maxHeartbeats 1000000 in
theorem eqA16 (w : World) (a b c d e f g i j k l m n o p q a' b' c' d' e' f' g' i' j' k' l' m' n' o' p' q' : Int) :
    (Op.equalIn 9999 25 (.agg (([a, b, c, d, e, f, g, i, j, k, l, m, n, o, p, q] : List Int).map (Value.int .u32)).toArray) (.agg (([a', b', c', d', e', f', g', i', j', k', l', m', n', o', p', q'] : List Int).map (Value.int .u32)).toArray)).run Tryd.prog w = .ok (decide (([a, b, c, d, e, f, g, i, j, k, l, m, n, o, p, q] : List Int) = [a', b', c', d', e', f', g', i', j', k', l', m', n', o', p', q'])) w := by
  obtain ⟨i0, hi⟩ := infoU
  have key : (decide (([a, b, c, d, e, f, g, i, j, k, l, m, n, o, p, q] : List Int) = [a', b', c', d', e', f', g', i', j', k', l', m', n', o', p', q'])) = ((a == a') && ((b == b') && ((c == c') && ((d == d') && ((e == e') && ((f == f') && ((g == g') && ((i == i') && ((j == j') && ((k == k') && ((l == l') && ((m == m') && ((n == n') && ((o == o') && ((p == p') && ((q == q') && true)))))))))))))))) := by
    rw [Bool.eq_iff_iff]; simp
  rw [run_equalIn_array (w := w) 9998 (i := i0) _ _ und26 hi, key, cellsU]
  show (Op.eqItems _ _ _ _ _ [0, 1, 2, 3, 4, 5, 6, 7, 8, 9, 10, 11, 12, 13, 14, 15]).run _ _ = _
  refine eqItems_step (a := a) (b := a') (by go_simp) (by go_simp) (by go_simp) ?_
  refine eqItems_step (a := b) (b := b') (by go_simp) (by go_simp) (by go_simp) ?_
  refine eqItems_step (a := c) (b := c') (by go_simp) (by go_simp) (by go_simp) ?_
  refine eqItems_step (a := d) (b := d') (by go_simp) (by go_simp) (by go_simp) ?_
  refine eqItems_step (a := e) (b := e') (by go_simp) (by go_simp) (by go_simp) ?_
  refine eqItems_step (a := f) (b := f') (by go_simp) (by go_simp) (by go_simp) ?_
  refine eqItems_step (a := g) (b := g') (by go_simp) (by go_simp) (by go_simp) ?_
  refine eqItems_step (a := i) (b := i') (by go_simp) (by go_simp) (by go_simp) ?_
  refine eqItems_step (a := j) (b := j') (by go_simp) (by go_simp) (by go_simp) ?_
  refine eqItems_step (a := k) (b := k') (by go_simp) (by go_simp) (by go_simp) ?_
  refine eqItems_step (a := l) (b := l') (by go_simp) (by go_simp) (by go_simp) ?_
  refine eqItems_step (a := m) (b := m') (by go_simp) (by go_simp) (by go_simp) ?_
  refine eqItems_step (a := n) (b := n') (by go_simp) (by go_simp) (by go_simp) ?_
  refine eqItems_step (a := o) (b := o') (by go_simp) (by go_simp) (by go_simp) ?_
  refine eqItems_step (a := p) (b := p') (by go_simp) (by go_simp) (by go_simp) ?_
  refine eqItems_step (a := q) (b := q') (by go_simp) (by go_simp) (by go_simp) ?_
  simp [Op.eqItems]
set_option maxHeartbeats 1000000 in
/-- Two OIDs are compared cell by cell. -/
theorem eqO (n : Int) (xs : List Int) (m : Int) (ys : List Int) (hx : xs.length = 16) (hy : ys.length = 16) (w : World) :
    (Op.equalIn 10000 27 (.agg (oidC n xs)) (.agg (oidC m ys))).run Tryd.prog w = .ok (decide (n = m ∧ xs = ys)) w := by
  obtain ⟨a, b, c, d, e, f, g, i, j, k, l, o, p, q, r, s, rfl⟩ := list16 hx
  obtain ⟨a', b', c', d', e', f', g', i', j', k', l', o', p', q', r', s', rfl⟩ := list16 hy
  have key : ∀ (u v : List Int), decide (n = m ∧ u = v) = ((n == m) && decide (u = v)) := fun u v => by rw [Bool.eq_iff_iff]; simp
  rw [key]
  refine eqA_of Tryd.underlying27 (by kernel_rfl) ?_
  refine eqf_cons (by rfl) (by go_simp; rfl) (by go_simp; rfl) (by go_simp) ?_
  exact eqf_last (by rfl) (by go_simp) (by go_simp) (eqA16 w _ _ _ _ _ _ _ _ _ _ _ _ _ _ _ _ _ _ _ _ _ _ _ _ _ _ _ _ _ _ _ _)
theorem eqE (x0 x1 x2 x3 x4 x5 x6 x7 x8 x9 x10 x11 x12 x13 x14 x15 x16 y0 y1 y2 y3 y4 y5 y6 y7 y8 y9 y10 y11 y12 y13 y14 y15 y16 : Int) (w : World) : (Op.equalIn 10000 27 (.agg #[.int .u8 x0, .int .u32 x1, .int .u32 x2, .int .u32 x3, .int .u32 x4, .int .u32 x5, .int .u32 x6, .int .u32 x7, .int .u32 x8, .int .u32 x9, .int .u32 x10, .int .u32 x11, .int .u32 x12, .int .u32 x13, .int .u32 x14, .int .u32 x15, .int .u32 x16]) (.agg #[.int .u8 y0, .int .u32 y1, .int .u32 y2, .int .u32 y3, .int .u32 y4, .int .u32 y5, .int .u32 y6, .int .u32 y7, .int .u32 y8, .int .u32 y9, .int .u32 y10, .int .u32 y11, .int .u32 y12, .int .u32 y13, .int .u32 y14, .int .u32 y15, .int .u32 y16])).run Tryd.prog w = .ok (decide (x0 = y0 ∧ ([x1, x2, x3, x4, x5, x6, x7, x8, x9, x10, x11, x12, x13, x14, x15, x16] : List Int) = ([y1, y2, y3, y4, y5, y6, y7, y8, y9, y10, y11, y12, y13, y14, y15, y16] : List Int))) w := eqO x0 ([x1, x2, x3, x4, x5, x6, x7, x8, x9, x10, x11, x12, x13, x14, x15, x16] : List Int) y0 ([y1, y2, y3, y4, y5, y6, y7, y8, y9, y10, y11, y12, y13, y14, y15, y16] : List Int) rfl rfl w
theorem eqlO (n : Int) (xs : List Int) (m : Int) (ys : List Int) (hx : xs.length = 16) (hy : ys.length = 16) (w : World) :
    (binOp .eql 27 (.agg (oidC n xs)) (.agg (oidC m ys))).run Tryd.prog w = .ok (.bool (decide (n = m ∧ xs = ys))) w := by
  rw [run_eql_struct, eqO n xs m ys hx hy]; rfl
theorem neqO (n : Int) (xs : List Int) (m : Int) (ys : List Int) (hx : xs.length = 16) (hy : ys.length = 16) (w : World) :
    (binOp .neq 27 (.agg (oidC n xs)) (.agg (oidC m ys))).run Tryd.prog w = .ok (.bool (!decide (n = m ∧ xs = ys))) w := by
  rw [run_neq_struct, eqO n xs m ys hx hy]; rfl
theorem getL_len {S' : List Int} : ∀ (l S : List Int) (n : Int) (b : Bool), S.length ≤ 15 → (b = false → S.length < 15) → getL l S n b = .ok S' → S'.length ≤ 15
  | [], S, n, b, h1, h2, h => by
    cases b
    · simp [getL] at h
    · simp only [getL, if_true] at h
      injection h with h; subst h; exact h1
  | x :: r, S, n, b, h1, h2, h => by
    rw [getL] at h
    by_cases a1 : b = true ∧ S.length = 15
    · rw [if_pos a1] at h; cases h
    rw [if_neg a1] at h
    have hS : S.length < 15 := by
      cases b
      · exact h2 rfl
      · have : ¬ S.length = 15 := fun e => a1 ⟨rfl, e⟩
        omega
    by_cases a2 : b = true ∧ x = 128
    · rw [if_pos a2] at h; cases h
    rw [if_neg a2] at h
    by_cases a3 : 4294967295 < n * 128 + x % 128
    · rw [if_pos a3] at h; cases h
    rw [if_neg a3] at h
    by_cases a4 : x < 128
    · rw [if_pos a4] at h
      exact getL_len r _ _ _ (by simp; omega) (fun e => by cases e) h
    · rw [if_neg a4] at h
      exact getL_len r _ _ _ h1 (fun _ => hS) h
theorem getT_len {l : List Int} : (getT l).2.1.length = 16 := by
  unfold getT
  by_cases h : l = []
  · rw [if_pos h]; rfl
  rw [if_neg h]
  cases hg : getL l [] 0 true with
  | error e => rfl
  | ok S => exact getX_len S (getL_len l [] 0 true (by simp) (fun e => by cases e) hg)
/-- A box that has just been made and filled. -/
def boxed (W : World) (n : Int) (xs : List Int) : World := (W.alloc (.cells (oidC 0 Z16) 27)).setRow W.heap.size (oidC n xs)
theorem boxed_below (W : World) (n : Int) (xs : List Int) : Below W.heap.size W (boxed W n xs) := below_setRow ((Below.refl _ _).alloc (Nat.le_refl _) _) (Nat.le_refl _) _
theorem boxed_at (W : World) (n : Int) (xs : List Int) : (boxed W n xs).heap[W.heap.size]? = some (.cells (oidC n xs) 27 (0, 0)) := setRow_heap _ _ _ _ _ _ (blk_new W _)
theorem boxed_size (W : World) (n : Int) (xs : List Int) : (boxed W n xs).heap.size = W.heap.size + 1 := by unfold boxed World.setRow; simp
set_option maxHeartbeats 4000000 in
theorem read_gen (A : Option Addr) (n c : Nat) (m : Int) (ys : List Int) (f : Int) (w : World) (hy : ys.length = 16) (rn er : Int) (rx : List Int) (hx : rx.length = 16) (res : Bool) (hres : (decide (rn = m ∧ rx = ys) && (er == f)) = res)
    (HC : ∀ W, Below w.heap.size w W → Calls Tryd.prog 24 #[.slice A n c] W fun e w' => e = .returned (.tuple #[oidV rn rx, .int .i64 er]) ∧ Below W.heap.size W w') :
    Calls Tryd.prog 10 #[.slice A n c, oidV m ys, .int .i64 f] w fun e w' => e = .returned (.bool res) ∧ Below w.heap.size w w' := by
  have HC2 := Lib.hid HC
  clear HC
  have HX := Lib.hid hx
  have HY := Lib.hid hy
  have HB := Lib.hid ((Below.refl w.heap.size w).alloc (Nat.le_refl _) (.cells (oidC m ys) 27))
  have Y0 := Lib.hid (blk_new w (.cells (oidC m ys) 27))
  have hE : ∀ w, (binOp .eql 27 (.agg (oidC rn rx)) (.agg (oidC m ys))).run Tryd.prog w = .ok (.bool (decide (rn = m ∧ rx = ys))) w := eqlO rn rx m ys hx hy
  generalize hd : decide (rn = m ∧ rx = ys) = d at *
  clear hx hy hd
  cases d
  · obtain rfl : res = false := by rw [← hres]; rfl
    clear hres
    go_enter Tryd.func10, Tryd.ntmps10
    go_upto_region 1 with fail
    generalize w.alloc (.cells (oidC m ys) 27) = W0 at *
    go_upto_region 2 with (first
      | (go_at_call 24; refine (HC2.out _ HB.out).mono ?_; rintro e W1 ⟨rfl, hb1⟩; have HB1 := Lib.hid (HB.out.trans (hb1.mono HB.out.size)); have Y1 := Lib.hid (blk_below Y0.out hb1); clear hb1)
      | ((with_reducible refine gate_store rfl ?_); refine wpList_plain rfl fun K hK => ?_; refine wp_store_row 27 _ _ rfl W1.heap.size (oidC rn rx) rfl rfl 27 (oidC 0 Z16) (blk_new W1 _) (oid_info _ _ HX.out) (by simp [HX.out]) (oid_one _ _) ?_; refine hK _ _ ?_))
    have X2 := Lib.hid (boxed_at W1 rn rx)
    have Y2 := Lib.hid (blk_below Y1.out (boxed_below W1 rn rx))
    have HB2 := Lib.hid (HB1.out.trans ((boxed_below W1 rn rx).mono HB1.out.size))
    rw [zrow]
    change Code.wp _ _ _ _ (boxed W1 rn rx)
    generalize boxed W1 rn rx = W2 at *
    go_wp2_with (first
      | ((with_reducible refine gate_dst (N := 14) rfl ?_); refine wpList_load_row rfl 27 _ rfl W1.heap.size rfl 27 (oidC rn rx) (0, 0) _ X2.out Tryd.underlying27 rfl (oid_info _ _ HX.out) ?_)
      | ((with_reducible refine gate_dst (N := 15) rfl ?_); refine wpList_load_row rfl 27 _ rfl w.heap.size rfl 27 (oidC m ys) (0, 0) _ Y2.out Tryd.underlying27 rfl (oid_info _ _ HY.out) ?_))
    go_ret
    exact ⟨rfl, HB2.out⟩
  · rw [Bool.true_and] at hres
    cases res
    · have hne : ¬ (er = f) := fun h => by simp [h] at hres
      go_enter Tryd.func10, Tryd.ntmps10
      go_upto_region 1 with fail
      generalize w.alloc (.cells (oidC m ys) 27) = W0 at *
      go_upto_region 2 with (first
        | (go_at_call 24; refine (HC2.out _ HB.out).mono ?_; rintro e W1 ⟨rfl, hb1⟩; have HB1 := Lib.hid (HB.out.trans (hb1.mono HB.out.size)); have Y1 := Lib.hid (blk_below Y0.out hb1); clear hb1)
        | ((with_reducible refine gate_store rfl ?_); refine wpList_plain rfl fun K hK => ?_; refine wp_store_row 27 _ _ rfl W1.heap.size (oidC rn rx) rfl rfl 27 (oidC 0 Z16) (blk_new W1 _) (oid_info _ _ HX.out) (by simp [HX.out]) (oid_one _ _) ?_; refine hK _ _ ?_))
      have X2 := Lib.hid (boxed_at W1 rn rx)
      have Y2 := Lib.hid (blk_below Y1.out (boxed_below W1 rn rx))
      have HB2 := Lib.hid (HB1.out.trans ((boxed_below W1 rn rx).mono HB1.out.size))
      rw [zrow]
      change Code.wp _ _ _ _ (boxed W1 rn rx)
      generalize boxed W1 rn rx = W2 at *
      go_wp2_with (first
        | ((with_reducible refine gate_dst (N := 14) rfl ?_); refine wpList_load_row rfl 27 _ rfl W1.heap.size rfl 27 (oidC rn rx) (0, 0) _ X2.out Tryd.underlying27 rfl (oid_info _ _ HX.out) ?_)
        | ((with_reducible refine gate_dst (N := 15) rfl ?_); refine wpList_load_row rfl 27 _ rfl w.heap.size rfl 27 (oidC m ys) (0, 0) _ Y2.out Tryd.underlying27 rfl (oid_info _ _ HY.out) ?_))
      go_ret
      exact ⟨rfl, HB2.out⟩
    · obtain rfl : er = f := by simpa using hres
      clear hres
      go_enter Tryd.func10, Tryd.ntmps10
      go_upto_region 1 with fail
      generalize w.alloc (.cells (oidC m ys) 27) = W0 at *
      go_upto_region 2 with (first
        | (go_at_call 24; refine (HC2.out _ HB.out).mono ?_; rintro e W1 ⟨rfl, hb1⟩; have HB1 := Lib.hid (HB.out.trans (hb1.mono HB.out.size)); have Y1 := Lib.hid (blk_below Y0.out hb1); clear hb1)
        | ((with_reducible refine gate_store rfl ?_); refine wpList_plain rfl fun K hK => ?_; refine wp_store_row 27 _ _ rfl W1.heap.size (oidC rn rx) rfl rfl 27 (oidC 0 Z16) (blk_new W1 _) (oid_info _ _ HX.out) (by simp [HX.out]) (oid_one _ _) ?_; refine hK _ _ ?_))
      have X2 := Lib.hid (boxed_at W1 rn rx)
      have Y2 := Lib.hid (blk_below Y1.out (boxed_below W1 rn rx))
      have HB2 := Lib.hid (HB1.out.trans ((boxed_below W1 rn rx).mono HB1.out.size))
      rw [zrow]
      change Code.wp _ _ _ _ (boxed W1 rn rx)
      generalize boxed W1 rn rx = W2 at *
      go_wp2_with (first
        | ((with_reducible refine gate_dst (N := 14) rfl ?_); refine wpList_load_row rfl 27 _ rfl W1.heap.size rfl 27 (oidC rn rx) (0, 0) _ X2.out Tryd.underlying27 rfl (oid_info _ _ HX.out) ?_)
        | ((with_reducible refine gate_dst (N := 15) rfl ?_); refine wpList_load_row rfl 27 _ rfl w.heap.size rfl 27 (oidC m ys) (0, 0) _ Y2.out Tryd.underlying27 rfl (oid_info _ _ HY.out) ?_))
      go_ret
      exact ⟨rfl, HB2.out⟩
set_option maxHeartbeats 4000000 in
theorem parsed_gen (s : ByteArray) (m : Int) (ys : List Int) (f : Int) (w : World) (hy : ys.length = 16) (rn er : Int) (rx : List Int) (hx : rx.length = 16) (res : Bool) (hres : (decide (rn = m ∧ rx = ys) && (er == f)) = res)
    (HC : ∀ W, Below w.heap.size w W → Calls Tryd.prog 30 #[.string s] W fun e w' => e = .returned (.tuple #[oidV rn rx, .int .i64 er]) ∧ Below W.heap.size W w') :
    Calls Tryd.prog 14 #[.string s, oidV m ys, .int .i64 f] w fun e w' => e = .returned (.bool res) ∧ Below w.heap.size w w' := by
  have HC2 := Lib.hid HC
  clear HC
  have HX := Lib.hid hx
  have HY := Lib.hid hy
  have HB := Lib.hid ((Below.refl w.heap.size w).alloc (Nat.le_refl _) (.cells (oidC m ys) 27))
  have Y0 := Lib.hid (blk_new w (.cells (oidC m ys) 27))
  have hE : ∀ w, (binOp .eql 27 (.agg (oidC rn rx)) (.agg (oidC m ys))).run Tryd.prog w = .ok (.bool (decide (rn = m ∧ rx = ys))) w := eqlO rn rx m ys hx hy
  generalize hd : decide (rn = m ∧ rx = ys) = d at *
  clear hx hy hd
  cases d
  · obtain rfl : res = false := by rw [← hres]; rfl
    clear hres
    go_enter Tryd.func14, Tryd.ntmps14
    go_upto_region 1 with fail
    generalize w.alloc (.cells (oidC m ys) 27) = W0 at *
    go_upto_region 2 with (first
      | (go_at_call 30; refine (HC2.out _ HB.out).mono ?_; rintro e W1 ⟨rfl, hb1⟩; have HB1 := Lib.hid (HB.out.trans (hb1.mono HB.out.size)); have Y1 := Lib.hid (blk_below Y0.out hb1); clear hb1)
      | ((with_reducible refine gate_store rfl ?_); refine wpList_plain rfl fun K hK => ?_; refine wp_store_row 27 _ _ rfl W1.heap.size (oidC rn rx) rfl rfl 27 (oidC 0 Z16) (blk_new W1 _) (oid_info _ _ HX.out) (by simp [HX.out]) (oid_one _ _) ?_; refine hK _ _ ?_))
    have X2 := Lib.hid (boxed_at W1 rn rx)
    have Y2 := Lib.hid (blk_below Y1.out (boxed_below W1 rn rx))
    have HB2 := Lib.hid (HB1.out.trans ((boxed_below W1 rn rx).mono HB1.out.size))
    rw [zrow]
    change Code.wp _ _ _ _ (boxed W1 rn rx)
    generalize boxed W1 rn rx = W2 at *
    go_wp2_with (first
      | ((with_reducible refine gate_dst (N := 14) rfl ?_); refine wpList_load_row rfl 27 _ rfl W1.heap.size rfl 27 (oidC rn rx) (0, 0) _ X2.out Tryd.underlying27 rfl (oid_info _ _ HX.out) ?_)
      | ((with_reducible refine gate_dst (N := 15) rfl ?_); refine wpList_load_row rfl 27 _ rfl w.heap.size rfl 27 (oidC m ys) (0, 0) _ Y2.out Tryd.underlying27 rfl (oid_info _ _ HY.out) ?_))
    go_ret
    exact ⟨rfl, HB2.out⟩
  · rw [Bool.true_and] at hres
    cases res
    · have hne : ¬ (er = f) := fun h => by simp [h] at hres
      go_enter Tryd.func14, Tryd.ntmps14
      go_upto_region 1 with fail
      generalize w.alloc (.cells (oidC m ys) 27) = W0 at *
      go_upto_region 2 with (first
        | (go_at_call 30; refine (HC2.out _ HB.out).mono ?_; rintro e W1 ⟨rfl, hb1⟩; have HB1 := Lib.hid (HB.out.trans (hb1.mono HB.out.size)); have Y1 := Lib.hid (blk_below Y0.out hb1); clear hb1)
        | ((with_reducible refine gate_store rfl ?_); refine wpList_plain rfl fun K hK => ?_; refine wp_store_row 27 _ _ rfl W1.heap.size (oidC rn rx) rfl rfl 27 (oidC 0 Z16) (blk_new W1 _) (oid_info _ _ HX.out) (by simp [HX.out]) (oid_one _ _) ?_; refine hK _ _ ?_))
      have X2 := Lib.hid (boxed_at W1 rn rx)
      have Y2 := Lib.hid (blk_below Y1.out (boxed_below W1 rn rx))
      have HB2 := Lib.hid (HB1.out.trans ((boxed_below W1 rn rx).mono HB1.out.size))
      rw [zrow]
      change Code.wp _ _ _ _ (boxed W1 rn rx)
      generalize boxed W1 rn rx = W2 at *
      go_wp2_with (first
        | ((with_reducible refine gate_dst (N := 14) rfl ?_); refine wpList_load_row rfl 27 _ rfl W1.heap.size rfl 27 (oidC rn rx) (0, 0) _ X2.out Tryd.underlying27 rfl (oid_info _ _ HX.out) ?_)
        | ((with_reducible refine gate_dst (N := 15) rfl ?_); refine wpList_load_row rfl 27 _ rfl w.heap.size rfl 27 (oidC m ys) (0, 0) _ Y2.out Tryd.underlying27 rfl (oid_info _ _ HY.out) ?_))
      go_ret
      exact ⟨rfl, HB2.out⟩
    · obtain rfl : er = f := by simpa using hres
      clear hres
      go_enter Tryd.func14, Tryd.ntmps14
      go_upto_region 1 with fail
      generalize w.alloc (.cells (oidC m ys) 27) = W0 at *
      go_upto_region 2 with (first
        | (go_at_call 30; refine (HC2.out _ HB.out).mono ?_; rintro e W1 ⟨rfl, hb1⟩; have HB1 := Lib.hid (HB.out.trans (hb1.mono HB.out.size)); have Y1 := Lib.hid (blk_below Y0.out hb1); clear hb1)
        | ((with_reducible refine gate_store rfl ?_); refine wpList_plain rfl fun K hK => ?_; refine wp_store_row 27 _ _ rfl W1.heap.size (oidC rn rx) rfl rfl 27 (oidC 0 Z16) (blk_new W1 _) (oid_info _ _ HX.out) (by simp [HX.out]) (oid_one _ _) ?_; refine hK _ _ ?_))
      have X2 := Lib.hid (boxed_at W1 rn rx)
      have Y2 := Lib.hid (blk_below Y1.out (boxed_below W1 rn rx))
      have HB2 := Lib.hid (HB1.out.trans ((boxed_below W1 rn rx).mono HB1.out.size))
      rw [zrow]
      change Code.wp _ _ _ _ (boxed W1 rn rx)
      generalize boxed W1 rn rx = W2 at *
      go_wp2_with (first
        | ((with_reducible refine gate_dst (N := 14) rfl ?_); refine wpList_load_row rfl 27 _ rfl W1.heap.size rfl 27 (oidC rn rx) (0, 0) _ X2.out Tryd.underlying27 rfl (oid_info _ _ HX.out) ?_)
        | ((with_reducible refine gate_dst (N := 15) rfl ?_); refine wpList_load_row rfl 27 _ rfl w.heap.size rfl 27 (oidC m ys) (0, 0) _ Y2.out Tryd.underlying27 rfl (oid_info _ _ HY.out) ?_))
      go_ret
      exact ⟨rfl, HB2.out⟩
instance (l : List Int) : Decidable (Byt l) := inferInstanceAs (Decidable (∀ x ∈ l, 0 ≤ x ∧ x < 256))
def u8s (l : List Int) : List UInt8 := l.map fun x => UInt8.ofNat x.toNat
theorem u8s_inj : ∀ {a b : List Int}, Byt a → Byt b → u8s a = u8s b → a = b
  | [], [], _, _, _ => rfl
  | [], _ :: _, _, _, h => by simp [u8s] at h
  | _ :: _, [], _, _, h => by simp [u8s] at h
  | x :: a, y :: b, ha, hb, h => by
    simp only [u8s, List.map_cons, List.cons.injEq] at h
    have hx := ha x (by simp)
    have hy := hb y (by simp)
    have h1 := congrArg UInt8.toNat h.1
    rw [UInt8.toNat_ofNat', UInt8.toNat_ofNat'] at h1
    rw [show x = y by omega, u8s_inj (fun z hz => ha z (List.mem_cons_of_mem _ hz)) (fun z hz => hb z (List.mem_cons_of_mem _ hz)) h.2]
theorem conv_any {w : World} {g c : Nat} {l : List Int} (hb : Byt l) (h : Octs w g l) : (convert 22 9 (.slice (some ⟨g, 0, none⟩) l.length c)).run Tryd.prog w = .ok (.string ⟨(u8s l).toArray⟩) w := by
  have hl : l.length = (u8s l).length := by simp [u8s]
  rw [hl]
  refine run_convert_bytes_back w 22 9 5 ⟨g, 0, none⟩ c (u8s l) Tryd.underlying22 Tryd.underlying5 Tryd.underlying9 fun j hj => ?_
  rw [Lib.add_plain, Nat.zero_add, h j (by omega)]
  have hj' : j < l.length := by omega
  have hx := hb l[j] (List.getElem_mem hj')
  simp only [u8s, List.getElem_map, List.getD, List.getElem?_eq_getElem hj', Option.getD_some]
  rw [UInt8.toNat_ofNat', show ((l[j].toNat % 2 ^ 8 : Nat) : Int) = l[j] by omega]
/-- The bytes of a slice that came in, as a string. -/
theorem conv_arg {w : World} {A : Option Addr} {c : Nat} {l : List Int} (hb : Byt l) (h : Kd.C (Kd.int .u8) w A l.length l) : (convert 22 9 (.slice A l.length c)).run Tryd.prog w = .ok (.string ⟨(u8s l).toArray⟩) w := by
  by_cases hl0 : l = []
  · subst hl0
    show (convert 22 9 (.slice A 0 c)).run Tryd.prog w = .ok (.string ByteArray.empty) w
    rw [run_convert_bytes_string w 22 9 5 A 0 c Tryd.underlying22 Tryd.underlying5 Tryd.underlying9]
    cases A <;> simp [Conv.bytesToString, loadCells]
    all_goals rfl
  · obtain ⟨ad, rfl, _⟩ := (Kd.reads_of_C (enc := Value.int .u8) (d := (0 : Int)) (h1 := fun _ => rfl) h).at_ 0 (by omega) (by have := List.length_pos_iff.mpr hl0; omega)
    have hl : l.length = (u8s l).length := by simp [u8s]
    rw [hl]
    refine run_convert_bytes_back w 22 9 5 ad c (u8s l) Tryd.underlying22 Tryd.underlying5 Tryd.underlying9 fun j hj => ?_
    obtain ⟨ad', ha', hc⟩ := (Kd.reads_of_C (enc := Value.int .u8) (d := (0 : Int)) (h1 := fun _ => rfl) h).at_ (j : Int) (by omega) (by omega)
    injection ha' with ha'
    subst ha'
    simp only [Int.toNat_natCast] at hc
    rw [hc]
    have hj' : j < l.length := by omega
    have hx := hb l[j] (List.getElem_mem hj')
    simp only [rdOf, Int.toNat_natCast, u8s, List.getElem_map, List.getD, List.getElem?_eq_getElem hj', Option.getD_some]
    rw [UInt8.toNat_ofNat', show ((l[j].toNat % 2 ^ 8 : Nat) : Int) = l[j] by omega]
set_option maxHeartbeats 2000000 in
/-- same: the octets wanted, without spare capacity, and no error. -/
theorem same_gen (A1 A2 : Option Addr) (n1 c1 n2 c2 : Nat) (a f : Int) (x y : ByteArray) (r : Bool) (w : World)
    (h1 : ∀ W, W = w → (convert 22 9 (.slice A1 n1 c1)).run Tryd.prog W = .ok (.string x) W) (h2 : ∀ W, W = w → (convert 22 9 (.slice A2 n2 c2)).run Tryd.prog W = .ok (.string y) W)
    (hr : ((a == f) && ((x.toList == y.toList) && ((c1 : Int) == (n1 : Int)))) = r) :
    Calls Tryd.prog 12 #[.slice A1 n1 c1, .int .i64 a, .slice A2 n2 c2, .int .i64 f] w fun e w' => e = .returned (.bool r) ∧ w' = w := by
  have k1 := h1 w rfl
  have k2 := h2 w rfl
  clear h1 h2
  by_cases ha : a = f
  · have hab : (a == f) = true := by simpa using ha
    by_cases hx : (x.toList == y.toList) = true
    · by_cases hc : ((c1 : Int) == (n1 : Int)) = true
      · rw [hab, hx, hc] at hr
        subst hr
        go_enter Tryd.func12, Tryd.ntmps12
        go_wp2
        go_ret
        exact ⟨rfl, rfl⟩
      · have hc' : ((c1 : Int) == (n1 : Int)) = false := by simpa using hc
        rw [hab, hx, hc'] at hr
        subst hr
        go_enter Tryd.func12, Tryd.ntmps12
        go_wp2
        go_ret
        exact ⟨rfl, rfl⟩
    · have hx' : (x.toList == y.toList) = false := by simpa using hx
      rw [hab, hx'] at hr
      subst hr
      go_enter Tryd.func12, Tryd.ntmps12
      go_wp2
      go_ret
      exact ⟨rfl, rfl⟩
  · have hab : (a == f) = false := by simpa using ha
    rw [hab] at hr
    subst hr
    go_enter Tryd.func12, Tryd.ntmps12
    go_wp2
    go_ret
    exact ⟨rfl, rfl⟩
theorem same_yes (l : List Int) (g k c : Nat) (w : World) (hb : Byt l) (h1 : Octs w g l) (h2 : Octs w k l) :
    Calls Tryd.prog 12 #[.slice (some ⟨g, 0, none⟩) l.length l.length, .int .i64 0, .slice (some ⟨k, 0, none⟩) l.length c, .int .i64 0] w fun e w' => e = .returned (.bool true) ∧ Below w.heap.size w w' :=
  (same_gen _ _ _ _ _ _ 0 0 ⟨(u8s l).toArray⟩ ⟨(u8s l).toArray⟩ true w (fun W hW => by subst hW; exact conv_any hb h1) (fun W hW => by subst hW; exact conv_any hb h2) (by simp)).mono fun e w' ⟨h, hw⟩ => ⟨h, by subst hw; exact Below.refl _ _⟩
theorem same_arg (l : List Int) (g : Nat) (A : Option Addr) (c : Nat) (w : World) (hb : Byt l) (h1 : Octs w g l) (h2 : Kd.C (Kd.int .u8) w A l.length l) :
    Calls Tryd.prog 12 #[.slice (some ⟨g, 0, none⟩) l.length l.length, .int .i64 0, .slice A l.length c, .int .i64 0] w fun e w' => e = .returned (.bool true) ∧ Below w.heap.size w w' :=
  (same_gen _ _ _ _ _ _ 0 0 ⟨(u8s l).toArray⟩ ⟨(u8s l).toArray⟩ true w (fun W hW => by subst hW; exact conv_any hb h1) (fun W hW => by subst hW; exact conv_arg hb h2) (by simp)).mono fun e w' ⟨h, hw⟩ => ⟨h, by subst hw; exact Below.refl _ _⟩
end Go.Proofs.YtacpcagijfacnaaDoor
namespace Go.Proofs.YtacpcagijfacnaaDoor
open Go.RowKit Go.Shelf
open Go.Proofs.YtacpcagijfacnaaDoorW.PrintLast
open Go.Proofs.YtacpcagijfacnaaDoorW.PrintWords (gate_guard gate_dst gate_store Kd.C_below Kd.C_of_reads Kd.reads_of_C ReadsOf.at_ rdOf blk_new blk_below blk_cell blk_alloc blk_lt blk_frozen blk_drew blk_set Kd.C Kd.int)
set_option linter.unusedSimpArgs false
set_option linter.unusedVariables false
set_option maxRecDepth 50000
theorem blk_at (w : World) (o : Obj) (k : Nat) (hk : w.heap.size = k) : (w.alloc o).heap[k]? = some o := by subst hk; exact blk_new w o
theorem octs_of {w : World} {g : Nat} {l : List Int} {t : TypeId} (h : w.heap[g]? = some (.cells (l.map (Value.int .u8)).toArray t (0, 0))) : Octs w g l := by
  intro i hi
  rw [blk_cell h i]
  simp [List.getElem?_map, List.getElem?_eq_getElem hi, List.getD]
theorem cell_kept1 {w w1 : World} {a : Addr} {v : Value} (h : w.cell? a = some v) (hb : Below w.heap.size w w1) : w1.cell? a = some v := by
  have hlt : a.block < w.heap.size := by
    by_cases hlt : a.block < w.heap.size
    · exact hlt
    · unfold World.cell? at h
      rw [Array.getElem?_eq_none (by omega)] at h
      cases h
  rw [← h]; exact hb.cell hlt
theorem Octs.next {w W : World} {g : Nat} {l : List Int} (h : Octs w g l) (hb : Below w.heap.size w W) : Octs W g l := fun i hi => cell_kept1 (h i hi) hb
theorem octs_arg {w : World} {g : Nat} {l : List Int} (hl : l.length ≤ 1000000) (h : Octs w g l) : Kd.C (Kd.int .u8) w (some ⟨g, 0, none⟩) l.length l := by
  refine Kd.C_of_reads (d := (0 : Int)) ⟨rfl, by omega, fun hn => ⟨⟨g, 0, none⟩, rfl, fun j hj => ?_⟩⟩
  rw [Lib.add_plain, Nat.zero_add, h j hj]
theorem of_blk (l : List Int) (N g : Nat) (rn : Int) (rx : List Int) (w : World) (hN : l.length = N) (hl : l.length ≤ 16) (h1 : ofN l = rn) (h2 : ofX l = rx) (hB : w.heap[g]? = some (.cells (l.map (Value.int .u32)).toArray 24 (0, 0))) :
    Calls Tryd.prog 21 #[.slice (some ⟨g, 0, none⟩) N N] w fun e w' => e = .returned (oidV rn rx) ∧ Below w.heap.size w w' := by
  subst hN h1 h2
  exact of_short _ _ l w hl (src_block l (by omega) hB) (Nat.le_refl _)
theorem put_is (N : Nat) (nI : Int) (xs L : List Int) (n : Nat) (w : World) (hI : nI = (N : Int)) (hN : N < 256) (hx : xs.length = 16) (hu : U32 xs) (h0 : chkO (N : Int) xs = 0) (hL : encO N xs = L) (hn : L.length = n) :
    Calls Tryd.prog 11 #[oidV nI xs] w fun e w' => ∃ g : Nat, e = .returned (.tuple #[.slice (some ⟨g, 0, none⟩) n n, .int .i64 0]) ∧ w.heap.size ≤ g ∧ Octs w' g L ∧ Below w.heap.size w w' := by
  subst hI hL hn
  exact put_ok N xs w hN hx hu h0
theorem same_is (L : List Int) (N g k c : Nat) (w : World) (hN : L.length = N) (hb : Byt L) (h1 : Octs w g L) (h2 : Octs w k L) :
    Calls Tryd.prog 12 #[.slice (some ⟨g, 0, none⟩) N N, .int .i64 0, .slice (some ⟨k, 0, none⟩) N c, .int .i64 0] w fun e w' => e = .returned (.bool true) ∧ Below w.heap.size w w' := by
  subst hN
  exact same_yes L g k c w hb h1 h2
theorem read_any (A : Option Addr) (N c : Nat) (l : List Int) (m : Int) (ys : List Int) (f rn er : Int) (rx : List Int) (res : Bool) (w : World) (hN : l.length = N) (hl : l.length ≤ 1000000) (hb : Byt l) (hr : Kd.C (Kd.int .u8) w A l.length l) (hy : ys.length = 16)
    (hg : getT l = (rn, rx, er)) (hres : (decide (rn = m ∧ rx = ys) && (er == f)) = res) :
    Calls Tryd.prog 10 #[.slice A N c, oidV m ys, .int .i64 f] w fun e w' => e = .returned (.bool res) ∧ Below w.heap.size w w' := by
  subst hN
  have hx : rx.length = 16 := by have := getT_len (l := l); rw [hg] at this; exact this
  refine read_gen A l.length c m ys f w hy rn er rx hx res hres (fun W hW => ?_)
  have := get_any A c l W hl hb (Kd.C_below hr hW)
  rw [hg] at this
  exact this
theorem read_is (l : List Int) (N g c : Nat) (m : Int) (ys : List Int) (f rn er : Int) (rx : List Int) (res : Bool) (w : World) (hN : l.length = N) (hl : l.length ≤ 1000000) (hb : Byt l) (hy : ys.length = 16)
    (hg : getT l = (rn, rx, er)) (hres : (decide (rn = m ∧ rx = ys) && (er == f)) = res) (h : Octs w g l) :
    Calls Tryd.prog 10 #[.slice (some ⟨g, 0, none⟩) N c, oidV m ys, .int .i64 f] w fun e w' => e = .returned (.bool res) ∧ Below w.heap.size w w' :=
  read_any _ N c l m ys f rn er rx res w hN hl hb (octs_arg hl h) hy hg hres
theorem read_nil (m : Int) (ys : List Int) (f : Int) (res : Bool) (w : World) (hy : ys.length = 16) (hres : (decide ((0 : Int) = m ∧ Z16 = ys) && ((7 : Int) == f)) = res) :
    Calls Tryd.prog 10 #[.slice none 0 0, oidV m ys, .int .i64 f] w fun e w' => e = .returned (.bool res) ∧ Below w.heap.size w w' :=
  read_gen none 0 0 m ys f w hy 0 7 Z16 rfl res hres (fun W hW => get_nil none 0 W)
theorem parse_len {P : List (List UInt8)} {rn er : Int} {rx : List Int} (h : parseL P = (rn, rx, er)) : rx.length = 16 := by
  unfold parseL at h
  repeat' split at h
  all_goals (injection h with h1 h2; injection h2 with h2 h3; subst h2)
  all_goals first | rfl | exact pad_len _ (by rw [valsP_len]; omega)
theorem parsed_is (l : List UInt8) (m : Int) (ys : List Int) (f rn er : Int) (rx : List Int) (res : Bool) (w : World) (hl : l.length ≤ 100000) (hT : Tabs w) (hy : ys.length = 16)
    (hg : parseL (splitP l) = (rn, rx, er)) (hres : (decide (rn = m ∧ rx = ys) && (er == f)) = res) :
    Calls Tryd.prog 14 #[.string ⟨l.toArray⟩, oidV m ys, .int .i64 f] w fun e w' => e = .returned (.bool res) ∧ Below w.heap.size w w' :=
  parsed_gen _ m ys f w hy rn er rx (parse_len hg) res hres (fun W hW => parse_any l W hl (hT.below hT.five hW) rn er rx hg)
theorem compare_is (N M : Nat) (nI mI : Int) (xs ys : List Int) (r : Int) (w : World) (hI : nI = (N : Int)) (hJ : mI = (M : Int)) (hN : N < 256) (hM : M < 256) (hx : xs.length = 16) (hy : ys.length = 16) (hr : cmpL (arcsO N xs) (arcsO M ys) = r) :
    Calls Tryd.prog 17 #[oidV nI xs, oidV mI ys] w fun e w' => e = .returned (.int .i64 r) ∧ Below w.heap.size w w' := by
  subst hI hJ hr
  exact compare_any N xs M ys w hN hM hx hy
theorem has_is (N M : Nat) (nI mI : Int) (xs ys : List Int) (r : Bool) (w : World) (hI : nI = (N : Int)) (hJ : mI = (M : Int)) (hN : N < 256) (hM : M < 256) (hx : xs.length = 16) (hy : ys.length = 16) (hr : hasO N xs M ys = r) :
    Calls Tryd.prog 20 #[oidV nI xs, oidV mI ys] w fun e w' => e = .returned (.bool r) ∧ Below w.heap.size w w' := by
  subst hI hJ hr
  exact has_any N xs M ys w hN hM hx hy
theorem text_is (N : Nat) (nI : Int) (xs : List Int) (l : List UInt8) (w : World) (hI : nI = (N : Int)) (hN : N < 256) (hx : xs.length = 16) (hu : U32 xs) (h0 : chkO (N : Int) xs = 0) (hT : Tabs w) (hl : txtO N xs = l) :
    Calls Tryd.prog 15 #[oidV nI xs] w fun e w' => e = .returned (.string ⟨l.toArray⟩) ∧ Below w.heap.size w w' := by
  subst hI hl
  exact text_ok N xs w hN hx hu h0 hT
instance (xs : List Int) : Decidable (U32 xs) := inferInstanceAs (Decidable (∀ x ∈ xs, 0 ≤ x ∧ x < 4294967296))
/-- What stands while lives works: the zero OID's box; the octets that Put has returned so far. -/
structure LiS (ps : List (Nat × List Int)) (w W : World) : Prop where
  st : St w W
  box : W.heap[w.heap.size]? = some (.cells (oidC 0 Z16) 27 (0, 0))
  os : ∀ p ∈ ps, Octs W p.1 p.2
theorem LiS.next {ps : List (Nat × List Int)} {w W W' : World} (h : LiS ps w W) (hb : Below W.heap.size W W') : LiS ps w W' := ⟨h.st.next hb, blk_below h.box hb, fun p hp => (h.os p hp).next hb⟩
theorem LiS.add {ps : List (Nat × List Int)} {w W W' : World} {g : Nat} {L : List Int} (h : LiS ps w W) (hb : Below W.heap.size W W') (ho : Octs W' g L) : LiS ((g, L) :: ps) w W' :=
  ⟨h.st.next hb, blk_below h.box hb, fun p hp => by rcases List.mem_cons.mp hp with rfl | hp; exact ho; exact (h.os p hp).next hb⟩
theorem LiS.alloc {ps : List (Nat × List Int)} {w W : World} (h : LiS ps w W) (o : Obj) : LiS ps w (W.alloc o) := h.next ((Below.refl _ _).alloc (Nat.le_refl _) o)
theorem LiS.forget {ps : List (Nat × List Int)} {w W : World} (h : LiS ps w W) : LiS [] w W := ⟨h.st, h.box, fun p hp => by cases hp⟩
/-- The zero OID's cells, one by one. -/
theorem liz {w W : World} (h : LiS [] w W) : W.cell? ⟨w.heap.size, 0, none⟩ = some (.int .u8 0) ∧ W.cell? ⟨w.heap.size, 1, none⟩ = some (.int .u32 0) ∧ W.cell? ⟨w.heap.size, 2, none⟩ = some (.int .u32 0) ∧ W.cell? ⟨w.heap.size, 3, none⟩ = some (.int .u32 0) ∧ W.cell? ⟨w.heap.size, 4, none⟩ = some (.int .u32 0) ∧ W.cell? ⟨w.heap.size, 5, none⟩ = some (.int .u32 0) ∧ W.cell? ⟨w.heap.size, 6, none⟩ = some (.int .u32 0) ∧ W.cell? ⟨w.heap.size, 7, none⟩ = some (.int .u32 0) ∧ W.cell? ⟨w.heap.size, 8, none⟩ = some (.int .u32 0) ∧ W.cell? ⟨w.heap.size, 9, none⟩ = some (.int .u32 0) ∧ W.cell? ⟨w.heap.size, 10, none⟩ = some (.int .u32 0) ∧ W.cell? ⟨w.heap.size, 11, none⟩ = some (.int .u32 0) ∧ W.cell? ⟨w.heap.size, 12, none⟩ = some (.int .u32 0) ∧ W.cell? ⟨w.heap.size, 13, none⟩ = some (.int .u32 0) ∧ W.cell? ⟨w.heap.size, 14, none⟩ = some (.int .u32 0) ∧ W.cell? ⟨w.heap.size, 15, none⟩ = some (.int .u32 0) ∧ W.cell? ⟨w.heap.size, 16, none⟩ = some (.int .u32 0) ∧ LiS [] w W := by
  obtain ⟨c0, ca⟩ := oid_cells h.box
  exact ⟨c0, ca 0 (by decide), ca 1 (by decide), ca 2 (by decide), ca 3 (by decide), ca 4 (by decide), ca 5 (by decide), ca 6 (by decide), ca 7 (by decide), ca 8 (by decide), ca 9 (by decide), ca 10 (by decide), ca 11 (by decide), ca 12 (by decide), ca 13 (by decide), ca 14 (by decide), ca 15 (by decide), h⟩
theorem liz_li {w W : World} (h : W.cell? ⟨w.heap.size, 0, none⟩ = some (.int .u8 0) ∧ W.cell? ⟨w.heap.size, 1, none⟩ = some (.int .u32 0) ∧ W.cell? ⟨w.heap.size, 2, none⟩ = some (.int .u32 0) ∧ W.cell? ⟨w.heap.size, 3, none⟩ = some (.int .u32 0) ∧ W.cell? ⟨w.heap.size, 4, none⟩ = some (.int .u32 0) ∧ W.cell? ⟨w.heap.size, 5, none⟩ = some (.int .u32 0) ∧ W.cell? ⟨w.heap.size, 6, none⟩ = some (.int .u32 0) ∧ W.cell? ⟨w.heap.size, 7, none⟩ = some (.int .u32 0) ∧ W.cell? ⟨w.heap.size, 8, none⟩ = some (.int .u32 0) ∧ W.cell? ⟨w.heap.size, 9, none⟩ = some (.int .u32 0) ∧ W.cell? ⟨w.heap.size, 10, none⟩ = some (.int .u32 0) ∧ W.cell? ⟨w.heap.size, 11, none⟩ = some (.int .u32 0) ∧ W.cell? ⟨w.heap.size, 12, none⟩ = some (.int .u32 0) ∧ W.cell? ⟨w.heap.size, 13, none⟩ = some (.int .u32 0) ∧ W.cell? ⟨w.heap.size, 14, none⟩ = some (.int .u32 0) ∧ W.cell? ⟨w.heap.size, 15, none⟩ = some (.int .u32 0) ∧ W.cell? ⟨w.heap.size, 16, none⟩ = some (.int .u32 0) ∧ LiS [] w W) : LiS [] w W := h.2.2.2.2.2.2.2.2.2.2.2.2.2.2.2.2.2
theorem liz_next {w W W' : World} (h : W.cell? ⟨w.heap.size, 0, none⟩ = some (.int .u8 0) ∧ W.cell? ⟨w.heap.size, 1, none⟩ = some (.int .u32 0) ∧ W.cell? ⟨w.heap.size, 2, none⟩ = some (.int .u32 0) ∧ W.cell? ⟨w.heap.size, 3, none⟩ = some (.int .u32 0) ∧ W.cell? ⟨w.heap.size, 4, none⟩ = some (.int .u32 0) ∧ W.cell? ⟨w.heap.size, 5, none⟩ = some (.int .u32 0) ∧ W.cell? ⟨w.heap.size, 6, none⟩ = some (.int .u32 0) ∧ W.cell? ⟨w.heap.size, 7, none⟩ = some (.int .u32 0) ∧ W.cell? ⟨w.heap.size, 8, none⟩ = some (.int .u32 0) ∧ W.cell? ⟨w.heap.size, 9, none⟩ = some (.int .u32 0) ∧ W.cell? ⟨w.heap.size, 10, none⟩ = some (.int .u32 0) ∧ W.cell? ⟨w.heap.size, 11, none⟩ = some (.int .u32 0) ∧ W.cell? ⟨w.heap.size, 12, none⟩ = some (.int .u32 0) ∧ W.cell? ⟨w.heap.size, 13, none⟩ = some (.int .u32 0) ∧ W.cell? ⟨w.heap.size, 14, none⟩ = some (.int .u32 0) ∧ W.cell? ⟨w.heap.size, 15, none⟩ = some (.int .u32 0) ∧ W.cell? ⟨w.heap.size, 16, none⟩ = some (.int .u32 0) ∧ LiS [] w W) (hb : Below W.heap.size W W') : W'.cell? ⟨w.heap.size, 0, none⟩ = some (.int .u8 0) ∧ W'.cell? ⟨w.heap.size, 1, none⟩ = some (.int .u32 0) ∧ W'.cell? ⟨w.heap.size, 2, none⟩ = some (.int .u32 0) ∧ W'.cell? ⟨w.heap.size, 3, none⟩ = some (.int .u32 0) ∧ W'.cell? ⟨w.heap.size, 4, none⟩ = some (.int .u32 0) ∧ W'.cell? ⟨w.heap.size, 5, none⟩ = some (.int .u32 0) ∧ W'.cell? ⟨w.heap.size, 6, none⟩ = some (.int .u32 0) ∧ W'.cell? ⟨w.heap.size, 7, none⟩ = some (.int .u32 0) ∧ W'.cell? ⟨w.heap.size, 8, none⟩ = some (.int .u32 0) ∧ W'.cell? ⟨w.heap.size, 9, none⟩ = some (.int .u32 0) ∧ W'.cell? ⟨w.heap.size, 10, none⟩ = some (.int .u32 0) ∧ W'.cell? ⟨w.heap.size, 11, none⟩ = some (.int .u32 0) ∧ W'.cell? ⟨w.heap.size, 12, none⟩ = some (.int .u32 0) ∧ W'.cell? ⟨w.heap.size, 13, none⟩ = some (.int .u32 0) ∧ W'.cell? ⟨w.heap.size, 14, none⟩ = some (.int .u32 0) ∧ W'.cell? ⟨w.heap.size, 15, none⟩ = some (.int .u32 0) ∧ W'.cell? ⟨w.heap.size, 16, none⟩ = some (.int .u32 0) ∧ LiS [] w W' := liz ((liz_li h).next hb)
theorem liz_alloc {w W : World} (h : W.cell? ⟨w.heap.size, 0, none⟩ = some (.int .u8 0) ∧ W.cell? ⟨w.heap.size, 1, none⟩ = some (.int .u32 0) ∧ W.cell? ⟨w.heap.size, 2, none⟩ = some (.int .u32 0) ∧ W.cell? ⟨w.heap.size, 3, none⟩ = some (.int .u32 0) ∧ W.cell? ⟨w.heap.size, 4, none⟩ = some (.int .u32 0) ∧ W.cell? ⟨w.heap.size, 5, none⟩ = some (.int .u32 0) ∧ W.cell? ⟨w.heap.size, 6, none⟩ = some (.int .u32 0) ∧ W.cell? ⟨w.heap.size, 7, none⟩ = some (.int .u32 0) ∧ W.cell? ⟨w.heap.size, 8, none⟩ = some (.int .u32 0) ∧ W.cell? ⟨w.heap.size, 9, none⟩ = some (.int .u32 0) ∧ W.cell? ⟨w.heap.size, 10, none⟩ = some (.int .u32 0) ∧ W.cell? ⟨w.heap.size, 11, none⟩ = some (.int .u32 0) ∧ W.cell? ⟨w.heap.size, 12, none⟩ = some (.int .u32 0) ∧ W.cell? ⟨w.heap.size, 13, none⟩ = some (.int .u32 0) ∧ W.cell? ⟨w.heap.size, 14, none⟩ = some (.int .u32 0) ∧ W.cell? ⟨w.heap.size, 15, none⟩ = some (.int .u32 0) ∧ W.cell? ⟨w.heap.size, 16, none⟩ = some (.int .u32 0) ∧ LiS [] w W) (ob : Obj) : (W.alloc ob).cell? ⟨w.heap.size, 0, none⟩ = some (.int .u8 0) ∧ (W.alloc ob).cell? ⟨w.heap.size, 1, none⟩ = some (.int .u32 0) ∧ (W.alloc ob).cell? ⟨w.heap.size, 2, none⟩ = some (.int .u32 0) ∧ (W.alloc ob).cell? ⟨w.heap.size, 3, none⟩ = some (.int .u32 0) ∧ (W.alloc ob).cell? ⟨w.heap.size, 4, none⟩ = some (.int .u32 0) ∧ (W.alloc ob).cell? ⟨w.heap.size, 5, none⟩ = some (.int .u32 0) ∧ (W.alloc ob).cell? ⟨w.heap.size, 6, none⟩ = some (.int .u32 0) ∧ (W.alloc ob).cell? ⟨w.heap.size, 7, none⟩ = some (.int .u32 0) ∧ (W.alloc ob).cell? ⟨w.heap.size, 8, none⟩ = some (.int .u32 0) ∧ (W.alloc ob).cell? ⟨w.heap.size, 9, none⟩ = some (.int .u32 0) ∧ (W.alloc ob).cell? ⟨w.heap.size, 10, none⟩ = some (.int .u32 0) ∧ (W.alloc ob).cell? ⟨w.heap.size, 11, none⟩ = some (.int .u32 0) ∧ (W.alloc ob).cell? ⟨w.heap.size, 12, none⟩ = some (.int .u32 0) ∧ (W.alloc ob).cell? ⟨w.heap.size, 13, none⟩ = some (.int .u32 0) ∧ (W.alloc ob).cell? ⟨w.heap.size, 14, none⟩ = some (.int .u32 0) ∧ (W.alloc ob).cell? ⟨w.heap.size, 15, none⟩ = some (.int .u32 0) ∧ (W.alloc ob).cell? ⟨w.heap.size, 16, none⟩ = some (.int .u32 0) ∧ LiS [] w (W.alloc ob) := liz ((liz_li h).alloc ob)
theorem liz_drew {w W : World} (h : W.cell? ⟨w.heap.size, 0, none⟩ = some (.int .u8 0) ∧ W.cell? ⟨w.heap.size, 1, none⟩ = some (.int .u32 0) ∧ W.cell? ⟨w.heap.size, 2, none⟩ = some (.int .u32 0) ∧ W.cell? ⟨w.heap.size, 3, none⟩ = some (.int .u32 0) ∧ W.cell? ⟨w.heap.size, 4, none⟩ = some (.int .u32 0) ∧ W.cell? ⟨w.heap.size, 5, none⟩ = some (.int .u32 0) ∧ W.cell? ⟨w.heap.size, 6, none⟩ = some (.int .u32 0) ∧ W.cell? ⟨w.heap.size, 7, none⟩ = some (.int .u32 0) ∧ W.cell? ⟨w.heap.size, 8, none⟩ = some (.int .u32 0) ∧ W.cell? ⟨w.heap.size, 9, none⟩ = some (.int .u32 0) ∧ W.cell? ⟨w.heap.size, 10, none⟩ = some (.int .u32 0) ∧ W.cell? ⟨w.heap.size, 11, none⟩ = some (.int .u32 0) ∧ W.cell? ⟨w.heap.size, 12, none⟩ = some (.int .u32 0) ∧ W.cell? ⟨w.heap.size, 13, none⟩ = some (.int .u32 0) ∧ W.cell? ⟨w.heap.size, 14, none⟩ = some (.int .u32 0) ∧ W.cell? ⟨w.heap.size, 15, none⟩ = some (.int .u32 0) ∧ W.cell? ⟨w.heap.size, 16, none⟩ = some (.int .u32 0) ∧ LiS [] w W) : W.drew.cell? ⟨w.heap.size, 0, none⟩ = some (.int .u8 0) ∧ W.drew.cell? ⟨w.heap.size, 1, none⟩ = some (.int .u32 0) ∧ W.drew.cell? ⟨w.heap.size, 2, none⟩ = some (.int .u32 0) ∧ W.drew.cell? ⟨w.heap.size, 3, none⟩ = some (.int .u32 0) ∧ W.drew.cell? ⟨w.heap.size, 4, none⟩ = some (.int .u32 0) ∧ W.drew.cell? ⟨w.heap.size, 5, none⟩ = some (.int .u32 0) ∧ W.drew.cell? ⟨w.heap.size, 6, none⟩ = some (.int .u32 0) ∧ W.drew.cell? ⟨w.heap.size, 7, none⟩ = some (.int .u32 0) ∧ W.drew.cell? ⟨w.heap.size, 8, none⟩ = some (.int .u32 0) ∧ W.drew.cell? ⟨w.heap.size, 9, none⟩ = some (.int .u32 0) ∧ W.drew.cell? ⟨w.heap.size, 10, none⟩ = some (.int .u32 0) ∧ W.drew.cell? ⟨w.heap.size, 11, none⟩ = some (.int .u32 0) ∧ W.drew.cell? ⟨w.heap.size, 12, none⟩ = some (.int .u32 0) ∧ W.drew.cell? ⟨w.heap.size, 13, none⟩ = some (.int .u32 0) ∧ W.drew.cell? ⟨w.heap.size, 14, none⟩ = some (.int .u32 0) ∧ W.drew.cell? ⟨w.heap.size, 15, none⟩ = some (.int .u32 0) ∧ W.drew.cell? ⟨w.heap.size, 16, none⟩ = some (.int .u32 0) ∧ LiS [] w W.drew := liz ((liz_li h).next (Below.refl _ _).drew)
theorem lv_p0 : parseL (splitP [49, 46, 50, 46, 48, 51]) = (0, Z16, 6) := by decide +kernel
theorem lv_q0 (w : World) (W : World) (h : LiS [] w W) : Calls Tryd.prog 14 #[.string ⟨#[49, 46, 50, 46, 48, 51]⟩, .agg #[.int .u8 0, .int .u32 0, .int .u32 0, .int .u32 0, .int .u32 0, .int .u32 0, .int .u32 0, .int .u32 0, .int .u32 0, .int .u32 0, .int .u32 0, .int .u32 0, .int .u32 0, .int .u32 0, .int .u32 0, .int .u32 0, .int .u32 0], .int .i64 6] W fun e w' => e = .returned (.bool true) ∧ Below W.heap.size W w' := parsed_is [49, 46, 50, 46, 48, 51] 0 Z16 6 0 6 Z16 true W (by decide) h.st.t rfl lv_p0 (by decide)
theorem lv_p1 : parseL (splitP [49]) = (0, Z16, 1) := by decide +kernel
theorem lv_q1 (w : World) (W : World) (h : LiS [] w W) : Calls Tryd.prog 14 #[.string ⟨#[49]⟩, .agg #[.int .u8 0, .int .u32 0, .int .u32 0, .int .u32 0, .int .u32 0, .int .u32 0, .int .u32 0, .int .u32 0, .int .u32 0, .int .u32 0, .int .u32 0, .int .u32 0, .int .u32 0, .int .u32 0, .int .u32 0, .int .u32 0, .int .u32 0], .int .i64 1] W fun e w' => e = .returned (.bool true) ∧ Below W.heap.size W w' := parsed_is [49] 0 Z16 1 0 1 Z16 true W (by decide) h.st.t rfl lv_p1 (by decide)
theorem lv_p2 : parseL (splitP [51, 46, 49]) = (0, Z16, 1) := by decide +kernel
theorem lv_q2 (w : World) (W : World) (h : LiS [] w W) : Calls Tryd.prog 14 #[.string ⟨#[51, 46, 49]⟩, .agg #[.int .u8 0, .int .u32 0, .int .u32 0, .int .u32 0, .int .u32 0, .int .u32 0, .int .u32 0, .int .u32 0, .int .u32 0, .int .u32 0, .int .u32 0, .int .u32 0, .int .u32 0, .int .u32 0, .int .u32 0, .int .u32 0, .int .u32 0], .int .i64 1] W fun e w' => e = .returned (.bool true) ∧ Below W.heap.size W w' := parsed_is [51, 46, 49] 0 Z16 1 0 1 Z16 true W (by decide) h.st.t rfl lv_p2 (by decide)
theorem lv_p3 : parseL (splitP [49, 46, 50, 46, 52, 50, 57, 52, 57, 54, 55, 50, 57, 54]) = (0, Z16, 3) := by decide +kernel
theorem lv_q3 (w : World) (W : World) (h : LiS [] w W) : Calls Tryd.prog 14 #[.string ⟨#[49, 46, 50, 46, 52, 50, 57, 52, 57, 54, 55, 50, 57, 54]⟩, .agg #[.int .u8 0, .int .u32 0, .int .u32 0, .int .u32 0, .int .u32 0, .int .u32 0, .int .u32 0, .int .u32 0, .int .u32 0, .int .u32 0, .int .u32 0, .int .u32 0, .int .u32 0, .int .u32 0, .int .u32 0, .int .u32 0, .int .u32 0], .int .i64 3] W fun e w' => e = .returned (.bool true) ∧ Below W.heap.size W w' := parsed_is [49, 46, 50, 46, 52, 50, 57, 52, 57, 54, 55, 50, 57, 54] 0 Z16 3 0 3 Z16 true W (by decide) h.st.t rfl lv_p3 (by decide)
theorem lv_txt : txtO 5 anyX = [50, 46, 53, 46, 50, 57, 46, 51, 50, 46, 48] := by
  show Lib.join ([2, 5, 29, 32, 0].map digO) [46] = _
  simp only [List.map_cons, List.map_nil, digO]
  rw [show ((2 : Int).toNat) = 2 from rfl, show ((5 : Int).toNat) = 5 from rfl, show ((29 : Int).toNat) = 29 from rfl, show ((32 : Int).toNat) = 32 from rfl, show ((0 : Int).toNat) = 0 from rfl]
  rw [dd_one (show 2 < 10 by decide), dd_one (show 5 < 10 by decide), dd_more (show ¬ 29 < 10 by decide), dd_more (show ¬ 32 < 10 by decide), dd_one (show 29 / 10 < 10 by decide), dd_one (show 32 / 10 < 10 by decide), dd_one (show 0 < 10 by decide)]
  decide
theorem lv_text (w : World) (W : World) (h : LiS [] w W) : Calls Tryd.prog 15 #[oidV 5 anyX] W fun e w' => e = .returned (.string ⟨#[50, 46, 53, 46, 50, 57, 46, 51, 50, 46, 48]⟩) ∧ Below W.heap.size W w' := text_is 5 5 anyX _ W rfl (by decide) rfl (by decide) (by decide) h.st.t lv_txt
theorem guardO : Tryd.prog.eqGuardType Tryd.prog.depth 27 = false := by kernel_rfl
theorem eq_yields (S : World → Prop) {oi : Oper} {a : Act} (x y : Operand) (ho : oi.op = .binOp .eql 27 x y 27) (n : Int) (xs : List Int) (m : Int) (ys : List Int) (hx : a.eval x = .agg (oidC n xs)) (hy : a.eval y = .agg (oidC m ys)) (lx : xs.length = 16) (ly : ys.length = 16) (h : n = m ∧ xs = ys) : ∀ W, S W → (execOp a.eval oi).run Tryd.prog W = .ok (.value (.bool true)) W := by
  intro W hS
  have hq := eqlO n xs m ys lx ly W
  rw [decide_eq_true h] at hq
  unfold execOp
  simp only [ho, hx, hy, Sem.run_bind, run_eqGuard_agg W .eql 27 x y _ _ guardO, hq, Result.andThen_ok, Sem.run_pure]
theorem load_yields {P : Program} (S : World → Prop) {oi : Oper} {a : Act} (ty : TypeId) (x : Operand) (ho : oi.op = .load ty x) (g : Nat) (hx : a.eval x = .pointer (some ⟨g, 0, none⟩)) (t : TypeId) (cs : Array Value) (d : TypeDesc) (hg : ∀ W, S W → W.heap[g]? = some (.cells cs t (0, 0)))
    (hu : P.underlying ty = some d) (hd : (match d with | .struct _ | .array _ _ => true | _ => false) = true) (hi : (P.info? ty).map (·.size) = some cs.size) : ∀ W, S W → (execOp a.eval oi).run P W = .ok (.value (.agg cs)) W := by
  intro W hS
  unfold execOp
  simp only [ho, hx, Instr.loadAt, Instr.sureAddr, Sem.run_bind, Sem.run_pure, Result.andThen_ok, run_loadVar_row W g t ty cs (0, 0) d (hg W hS) hu hd hi]
theorem LiS.put {ps : List (Nat × List Int)} {w W : World} {g : Nat} {L : List Int} (h : LiS ps w W) (ho : Octs W g L) : LiS ((g, L) :: ps) w W :=
  ⟨h.st, h.box, fun p hp => by rcases List.mem_cons.mp hp with rfl | hp; exact ho; exact h.os p hp⟩
attribute [local go_sem high] eqE
set_option maxHeartbeats 16000000 in
set_option maxRecDepth 100000 in
/-- LIVES: the chapter's examples hold. -/
theorem lives_yes (w : World) (hT : Tabs w) : Calls Tryd.prog 8 #[] w fun e w' => e = .returned (.bool true) ∧ Below w.heap.size w w' := by
  have S : Hid (LiS [] w (w.alloc (.cells (oidC 0 Z16) 27))) := ⟨(St.refl hT).alloc _, blk_new _ _, fun p hp => by cases hp⟩
  go_enter Tryd.func8, Tryd.ntmps8
  go_upto_region 2 with fail
  rw [zrow]
  generalize w.alloc (.cells (oidC 0 Z16) 27) = w0 at *
  go_wp2_with fail
  refine (any_is _).mono ?_
  rintro e w1 ⟨rfl, hb⟩
  replace S := Lib.hid (S.out.next hb)
  clear hb
  go_wp2_with fail
  refine (put_is 5 5 [2, 5, 29, 32, 0, 0, 0, 0, 0, 0, 0, 0, 0, 0, 0, 0] [85, 29, 32, 0] 4 _ rfl (by decide) rfl (by decide) (by decide) (by decide) rfl).mono ?_
  rintro e w2 ⟨g1, rfl, -, ho, hb⟩
  replace S := Lib.hid (S.out.add hb ho)
  clear ho hb
  go_wp2_with fail
  replace S := Lib.hid (S.out.alloc (.cells #[.int .u32 1, .int .u32 2, .int .u32 840, .int .u32 113549] 24))
  refine (of_blk [1, 2, 840, 113549] 4 _ 4 [1, 2, 840, 113549, 0, 0, 0, 0, 0, 0, 0, 0, 0, 0, 0, 0] _ rfl (by decide) (by decide) (by decide) (blk_at _ _ _ (by first | rfl | simp))).mono ?_
  rintro e w3 ⟨rfl, hb⟩
  replace S := Lib.hid (S.out.next hb)
  clear hb
  go_wp2_with fail
  refine (put_is 4 4 [1, 2, 840, 113549, 0, 0, 0, 0, 0, 0, 0, 0, 0, 0, 0, 0] [42, 134, 72, 134, 247, 13] 6 _ rfl (by decide) rfl (by decide) (by decide) (by decide) rfl).mono ?_
  rintro e w4 ⟨g2, rfl, -, ho, hb⟩
  replace S := Lib.hid (S.out.add hb ho)
  clear ho hb
  go_wp2_with fail
  replace S := Lib.hid (S.out.alloc (.cells #[.int .u32 2, .int .u32 999] 24))
  refine (of_blk [2, 999] 2 _ 2 [2, 999, 0, 0, 0, 0, 0, 0, 0, 0, 0, 0, 0, 0, 0, 0] _ rfl (by decide) (by decide) (by decide) (blk_at _ _ _ (by first | rfl | simp))).mono ?_
  rintro e w5 ⟨rfl, hb⟩
  replace S := Lib.hid (S.out.next hb)
  clear hb
  go_wp2_with fail
  refine (put_is 2 2 [2, 999, 0, 0, 0, 0, 0, 0, 0, 0, 0, 0, 0, 0, 0, 0] [136, 55] 2 _ rfl (by decide) rfl (by decide) (by decide) (by decide) rfl).mono ?_
  rintro e w6 ⟨g3, rfl, -, ho, hb⟩
  replace S := Lib.hid (S.out.add hb ho)
  clear ho hb
  go_wp2_with fail
  replace S := Lib.hid (S.out.alloc (.cells #[.int .u8 85, .int .u8 29, .int .u8 32, .int .u8 0] 5))
  refine (same_is [85, 29, 32, 0] 4 g1 _ _ _ rfl (by decide) (S.out.os (g1, [85, 29, 32, 0]) (by simp)) (octs_of (l := [85, 29, 32, 0]) (t := 5) (blk_at _ _ _ (by first | rfl | simp)))).mono ?_
  rintro e w7 ⟨rfl, hb⟩
  replace S := Lib.hid (S.out.next hb)
  clear hb
  go_wp2_with fail
  replace S := Lib.hid (S.out.alloc (.cells #[.int .u8 42, .int .u8 134, .int .u8 72, .int .u8 134, .int .u8 247, .int .u8 13] 5))
  refine (same_is [42, 134, 72, 134, 247, 13] 6 g2 _ _ _ rfl (by decide) (S.out.os (g2, [42, 134, 72, 134, 247, 13]) (by simp)) (octs_of (l := [42, 134, 72, 134, 247, 13]) (t := 5) (blk_at _ _ _ (by first | rfl | simp)))).mono ?_
  rintro e w8 ⟨rfl, hb⟩
  replace S := Lib.hid (S.out.next hb)
  clear hb
  go_wp2_with fail
  replace S := Lib.hid (S.out.alloc (.cells #[.int .u8 136, .int .u8 55] 5))
  refine (same_is [136, 55] 2 g3 _ _ _ rfl (by decide) (S.out.os (g3, [136, 55]) (by simp)) (octs_of (l := [136, 55]) (t := 5) (blk_at _ _ _ (by first | rfl | simp)))).mono ?_
  rintro e w9 ⟨rfl, hb⟩
  replace S := Lib.hid (S.out.next hb)
  clear hb
  go_wp2_with fail
  replace S := Lib.hid ((S.out.alloc (.cells #[.int .u8 85, .int .u8 29, .int .u8 32, .int .u8 0] 5)).put (octs_of (l := [85, 29, 32, 0]) (t := 5) (blk_new w9 _)))
  refine (rany_is _).mono ?_
  rintro e w10 ⟨rfl, hb⟩
  replace S := Lib.hid (S.out.next hb)
  clear hb
  go_wp2_with fail
  refine (read_is [85, 29, 32, 0] 4 (w9.heap.size) _ 5 [2, 5, 29, 32, 0, 0, 0, 0, 0, 0, 0, 0, 0, 0, 0, 0] 0 5 0 [2, 5, 29, 32, 0, 0, 0, 0, 0, 0, 0, 0, 0, 0, 0, 0] true _ rfl (by decide) (by decide) rfl (by decide) (by decide) (S.out.os (w9.heap.size, [85, 29, 32, 0]) (by simp))).mono ?_
  rintro e w11 ⟨rfl, hb⟩
  replace S := Lib.hid (S.out.next hb)
  clear hb
  go_wp2_with (((with_reducible refine gate_dst (N := 50) rfl ?_); (try (refine gate_guard (by rfl) ?_; dsimp only)); refine wpList_load_row rfl 27 _ rfl w.heap.size rfl 27 (oidC 0 Z16) (0, 0) _ (blk_alloc S.out.box _) Tryd.underlying27 rfl (oid_info _ _ rfl) ?_))
  replace S := Lib.hid ((S.out.alloc (.cells #[.int .u8 42, .int .u8 134] 5)).put (octs_of (l := [42, 134]) (t := 5) (blk_new w11 _)))
  refine (read_is [42, 134] 2 (w11.heap.size) _ 0 [0, 0, 0, 0, 0, 0, 0, 0, 0, 0, 0, 0, 0, 0, 0, 0] 7 0 7 [0, 0, 0, 0, 0, 0, 0, 0, 0, 0, 0, 0, 0, 0, 0, 0] true _ rfl (by decide) (by decide) rfl (by decide) (by decide) (S.out.os (w11.heap.size, [42, 134]) (by simp))).mono ?_
  rintro e w12 ⟨rfl, hb⟩
  replace S := Lib.hid (S.out.next hb)
  clear hb
  go_wp2_with (((with_reducible refine gate_dst (N := 56) rfl ?_); (try (refine gate_guard (by rfl) ?_; dsimp only)); refine wpList_load_row rfl 27 _ rfl w.heap.size rfl 27 (oidC 0 Z16) (0, 0) _ (blk_alloc S.out.box _) Tryd.underlying27 rfl (oid_info _ _ rfl) ?_))
  replace S := Lib.hid ((S.out.alloc (.cells #[.int .u8 42, .int .u8 128, .int .u8 1] 5)).put (octs_of (l := [42, 128, 1]) (t := 5) (blk_new w12 _)))
  refine (read_is [42, 128, 1] 3 (w12.heap.size) _ 0 [0, 0, 0, 0, 0, 0, 0, 0, 0, 0, 0, 0, 0, 0, 0, 0] 11 0 11 [0, 0, 0, 0, 0, 0, 0, 0, 0, 0, 0, 0, 0, 0, 0, 0] true _ rfl (by decide) (by decide) rfl (by decide) (by decide) (S.out.os (w12.heap.size, [42, 128, 1]) (by simp))).mono ?_
  rintro e w13 ⟨rfl, hb⟩
  replace S := Lib.hid (S.out.next hb)
  clear hb
  go_wp2_with (((with_reducible refine gate_dst (N := 61) rfl ?_); (try (refine gate_guard (by rfl) ?_; dsimp only)); refine wpList_load_row rfl 27 _ rfl w.heap.size rfl 27 (oidC 0 Z16) (0, 0) _ (S.out.box) Tryd.underlying27 rfl (oid_info _ _ rfl) ?_))
  refine (read_nil 0 [0, 0, 0, 0, 0, 0, 0, 0, 0, 0, 0, 0, 0, 0, 0, 0] 7 true _ rfl (by decide)).mono ?_
  rintro e w14 ⟨rfl, hb⟩
  replace S := Lib.hid (S.out.next hb)
  clear hb
  go_wp2_with fail
  replace S := Lib.hid ((S.out.alloc (.cells #[.int .u8 143, .int .u8 255, .int .u8 255, .int .u8 255, .int .u8 127] 5)).put (octs_of (l := [143, 255, 255, 255, 127]) (t := 5) (blk_new w14 _)))
  replace S := Lib.hid (S.out.alloc (.cells #[.int .u32 2, .int .u32 4294967215] 24))
  refine (of_blk [2, 4294967215] 2 _ 2 [2, 4294967215, 0, 0, 0, 0, 0, 0, 0, 0, 0, 0, 0, 0, 0, 0] _ rfl (by decide) (by decide) (by decide) (blk_at _ _ _ (by first | rfl | simp))).mono ?_
  rintro e w15 ⟨rfl, hb⟩
  replace S := Lib.hid (S.out.next hb)
  clear hb
  go_wp2_with fail
  refine (read_is [143, 255, 255, 255, 127] 5 (w14.heap.size) _ 2 [2, 4294967215, 0, 0, 0, 0, 0, 0, 0, 0, 0, 0, 0, 0, 0, 0] 0 2 0 [2, 4294967215, 0, 0, 0, 0, 0, 0, 0, 0, 0, 0, 0, 0, 0, 0] true _ rfl (by decide) (by decide) rfl (by decide) (by decide) (S.out.os (w14.heap.size, [143, 255, 255, 255, 127]) (by simp))).mono ?_
  rintro e w16 ⟨rfl, hb⟩
  replace S := Lib.hid (S.out.next hb)
  clear hb
  go_wp2_with (((with_reducible refine gate_dst (N := 74) rfl ?_); (try (refine gate_guard (by rfl) ?_; dsimp only)); refine wpList_load_row rfl 27 _ rfl w.heap.size rfl 27 (oidC 0 Z16) (0, 0) _ (blk_alloc S.out.box _) Tryd.underlying27 rfl (oid_info _ _ rfl) ?_))
  replace S := Lib.hid ((S.out.alloc (.cells #[.int .u8 144, .int .u8 128, .int .u8 128, .int .u8 128, .int .u8 0] 5)).put (octs_of (l := [144, 128, 128, 128, 0]) (t := 5) (blk_new w16 _)))
  refine (read_is [144, 128, 128, 128, 0] 5 (w16.heap.size) _ 0 [0, 0, 0, 0, 0, 0, 0, 0, 0, 0, 0, 0, 0, 0, 0, 0] 3 0 3 [0, 0, 0, 0, 0, 0, 0, 0, 0, 0, 0, 0, 0, 0, 0, 0] true _ rfl (by decide) (by decide) rfl (by decide) (by decide) (S.out.os (w16.heap.size, [144, 128, 128, 128, 0]) (by simp))).mono ?_
  rintro e w17 ⟨rfl, hb⟩
  replace S := Lib.hid (S.out.next hb)
  clear hb
  go_wp2_with (((with_reducible refine gate_dst (N := 80) rfl ?_); (try (refine gate_guard (by rfl) ?_; dsimp only)); refine wpList_load_row rfl 27 _ rfl w.heap.size rfl 27 (oidC 0 Z16) (0, 0) _ (blk_alloc S.out.box _) Tryd.underlying27 rfl (oid_info _ _ rfl) ?_))
  replace S := Lib.hid ((S.out.alloc (.cells #[.int .u8 1, .int .u8 1, .int .u8 1, .int .u8 1, .int .u8 1, .int .u8 1, .int .u8 1, .int .u8 1, .int .u8 1, .int .u8 1, .int .u8 1, .int .u8 1, .int .u8 1, .int .u8 1, .int .u8 1, .int .u8 1, .int .u8 1] 5)).put (octs_of (l := [1, 1, 1, 1, 1, 1, 1, 1, 1, 1, 1, 1, 1, 1, 1, 1, 1]) (t := 5) (blk_new w17 _)))
  refine (read_is [1, 1, 1, 1, 1, 1, 1, 1, 1, 1, 1, 1, 1, 1, 1, 1, 1] 17 (w17.heap.size) _ 0 [0, 0, 0, 0, 0, 0, 0, 0, 0, 0, 0, 0, 0, 0, 0, 0] 3 0 3 [0, 0, 0, 0, 0, 0, 0, 0, 0, 0, 0, 0, 0, 0, 0, 0] true _ rfl (by decide) (by decide) rfl (by decide) (by decide) (S.out.os (w17.heap.size, [1, 1, 1, 1, 1, 1, 1, 1, 1, 1, 1, 1, 1, 1, 1, 1, 1]) (by simp))).mono ?_
  rintro e w18 ⟨rfl, hb⟩
  replace S := Lib.hid (S.out.next hb)
  clear hb
  go_upto_region 9 with fail
  go_cut [1, 112] (fun v1 v112 wc => v1 = .pointer (some ⟨w.heap.size, 0, none⟩) ∧ v112 = .bool false ∧ Hid (LiS [] w wc))
  case first =>
    go_wp2_with fail
    replace S := Lib.hid (S.out.alloc (.cells #[.int .u32 1, .int .u32 2, .int .u32 3] 24))
    refine (of_blk [1, 2, 3] 3 _ 3 [1, 2, 3, 0, 0, 0, 0, 0, 0, 0, 0, 0, 0, 0, 0, 0] _ rfl (by decide) (by decide) (by decide) (blk_at _ _ _ (by first | rfl | simp))).mono ?_
    rintro e w19 ⟨rfl, hb⟩
    replace S := Lib.hid (S.out.next hb)
    clear hb
    go_wp2_with fail
    replace S := Lib.hid (S.out.alloc (.cells #[.int .u32 1, .int .u32 2, .int .u32 3, .int .u32 4] 24))
    refine (of_blk [1, 2, 3, 4] 4 _ 4 [1, 2, 3, 4, 0, 0, 0, 0, 0, 0, 0, 0, 0, 0, 0, 0] _ rfl (by decide) (by decide) (by decide) (blk_at _ _ _ (by first | rfl | simp))).mono ?_
    rintro e w20 ⟨rfl, hb⟩
    replace S := Lib.hid (S.out.next hb)
    clear hb
    go_wp2_with fail
    refine (compare_is 3 4 3 4 [1, 2, 3, 0, 0, 0, 0, 0, 0, 0, 0, 0, 0, 0, 0, 0] [1, 2, 3, 4, 0, 0, 0, 0, 0, 0, 0, 0, 0, 0, 0, 0] (-1) _ rfl rfl (by decide) (by decide) rfl rfl (by decide)).mono ?_
    rintro e w21 ⟨rfl, hb⟩
    replace S := Lib.hid (S.out.next hb)
    clear hb
    go_wp2_with fail
    replace S := Lib.hid (S.out.alloc (.cells #[.int .u32 1, .int .u32 3] 24))
    refine (of_blk [1, 3] 2 _ 2 [1, 3, 0, 0, 0, 0, 0, 0, 0, 0, 0, 0, 0, 0, 0, 0] _ rfl (by decide) (by decide) (by decide) (blk_at _ _ _ (by first | rfl | simp))).mono ?_
    rintro e w22 ⟨rfl, hb⟩
    replace S := Lib.hid (S.out.next hb)
    clear hb
    go_wp2_with fail
    replace S := Lib.hid (S.out.alloc (.cells #[.int .u32 1, .int .u32 2, .int .u32 9] 24))
    refine (of_blk [1, 2, 9] 3 _ 3 [1, 2, 9, 0, 0, 0, 0, 0, 0, 0, 0, 0, 0, 0, 0, 0] _ rfl (by decide) (by decide) (by decide) (blk_at _ _ _ (by first | rfl | simp))).mono ?_
    rintro e w23 ⟨rfl, hb⟩
    replace S := Lib.hid (S.out.next hb)
    clear hb
    go_wp2_with fail
    refine (compare_is 2 3 2 3 [1, 3, 0, 0, 0, 0, 0, 0, 0, 0, 0, 0, 0, 0, 0, 0] [1, 2, 9, 0, 0, 0, 0, 0, 0, 0, 0, 0, 0, 0, 0, 0] (1) _ rfl rfl (by decide) (by decide) rfl rfl (by decide)).mono ?_
    rintro e w24 ⟨rfl, hb⟩
    replace S := Lib.hid (S.out.next hb)
    clear hb
    go_wp2_with fail
    replace S := Lib.hid (S.out.alloc (.cells #[.int .u32 1, .int .u32 2, .int .u32 3] 24))
    refine (of_blk [1, 2, 3] 3 _ 3 [1, 2, 3, 0, 0, 0, 0, 0, 0, 0, 0, 0, 0, 0, 0, 0] _ rfl (by decide) (by decide) (by decide) (blk_at _ _ _ (by first | rfl | simp))).mono ?_
    rintro e w25 ⟨rfl, hb⟩
    replace S := Lib.hid (S.out.next hb)
    clear hb
    go_wp2_with fail
    replace S := Lib.hid (S.out.alloc (.cells #[.int .u32 1, .int .u32 2, .int .u32 3, .int .u32 4] 24))
    refine (of_blk [1, 2, 3, 4] 4 _ 4 [1, 2, 3, 4, 0, 0, 0, 0, 0, 0, 0, 0, 0, 0, 0, 0] _ rfl (by decide) (by decide) (by decide) (blk_at _ _ _ (by first | rfl | simp))).mono ?_
    rintro e w26 ⟨rfl, hb⟩
    replace S := Lib.hid (S.out.next hb)
    clear hb
    go_wp2_with fail
    refine (has_is 3 4 3 4 [1, 2, 3, 0, 0, 0, 0, 0, 0, 0, 0, 0, 0, 0, 0, 0] [1, 2, 3, 4, 0, 0, 0, 0, 0, 0, 0, 0, 0, 0, 0, 0] true _ rfl rfl (by decide) (by decide) rfl rfl (by decide)).mono ?_
    rintro e w27 ⟨rfl, hb⟩
    replace S := Lib.hid (S.out.next hb)
    clear hb
    go_wp2_with fail
    replace S := Lib.hid (S.out.alloc (.cells #[.int .u32 1, .int .u32 2, .int .u32 3] 24))
    refine (of_blk [1, 2, 3] 3 _ 3 [1, 2, 3, 0, 0, 0, 0, 0, 0, 0, 0, 0, 0, 0, 0, 0] _ rfl (by decide) (by decide) (by decide) (blk_at _ _ _ (by first | rfl | simp))).mono ?_
    rintro e w28 ⟨rfl, hb⟩
    replace S := Lib.hid (S.out.next hb)
    clear hb
    go_wp2_with fail
    replace S := Lib.hid (S.out.alloc (.cells #[.int .u32 1, .int .u32 2, .int .u32 3] 24))
    refine (of_blk [1, 2, 3] 3 _ 3 [1, 2, 3, 0, 0, 0, 0, 0, 0, 0, 0, 0, 0, 0, 0, 0] _ rfl (by decide) (by decide) (by decide) (blk_at _ _ _ (by first | rfl | simp))).mono ?_
    rintro e w29 ⟨rfl, hb⟩
    replace S := Lib.hid (S.out.next hb)
    clear hb
    go_wp2_with fail
    refine (has_is 3 3 3 3 [1, 2, 3, 0, 0, 0, 0, 0, 0, 0, 0, 0, 0, 0, 0, 0] [1, 2, 3, 0, 0, 0, 0, 0, 0, 0, 0, 0, 0, 0, 0, 0] false _ rfl rfl (by decide) (by decide) rfl rfl (by decide)).mono ?_
    rintro e w30 ⟨rfl, hb⟩
    replace S := Lib.hid (S.out.next hb)
    clear hb
    go_wp2
    go_meet
    exact ⟨rfl, rfl, Lib.hid S.out.forget⟩
  case rest =>
  obtain ⟨rfl, rfl, hL⟩ := hcut
  clear S
  go_upto_region 11 with fail
  have HX := hL.out
  clear hL
  refine start_ (n := 26) (S := fun W => LiS [] w W) (ds := []) #[false, false, false, false, false, false, false, false, false, false, false, false, false, false, false, false, false, false, false, false, false, false, false, false, false, false] (by kernel_rfl) rfl rfl (HX.next (Below.refl _ _).drew) (fun HS => ?_)
  replace HX := HX.next (Below.refl _ _).drew
  generalize wc.drew = wd at HX HS ⊢
  refine take_ (i := 2) (N := some 115) (v := ?_) (a' := ?_) #[false, false, true, false, false, false, false, false, false, false, false, false, false, false, false, false, false, false, false, false, false, false, false, false, false, false] rfl rfl (by kernel_rfl) (fun _ _ _ h => h) (Or.inl ⟨by rfl, ?_⟩) (by assumption) ?_ ?_
  rotate_left
  · refine load_yields (fun W => LiS [] w W) 27 (.tmp 1) ?_ w.heap.size ?_ 27 (oidC 0 Z16) _ (fun W h => LiS.box h) Tryd.underlying27 rfl (oid_info _ _ rfl)
    · rfl
    · rfl
  rotate_left
  · simp only [Act.put, List.setIfInBounds_toArray, List.set_cons_zero, List.set_cons_succ, i64_w, i32_w]
    rfl
  refine one_ (i := 0) (N := some 113) #[true, false, true, false, false, false, false, false, false, false, false, false, false, false, false, false, false, false, false, false, false, false, false, false, false, false] rfl rfl (by kernel_rfl) (by decide) (fun K hK => ?_)
  refine value_ (by rfl) (N := some 113) rfl (v := .slice (some ⟨wd.heap.size, 0, none⟩) 2 2) (w1 := World.alloc wd (.cells #[.int .u32 1, .int .u32 40] 24)) (by go_simp) ?_
  replace HX := HX.alloc (.cells #[.int .u32 1, .int .u32 40] 24)
  refine hK.out _ _ HX (fun HS => ?_)
  clear hK K
  refine norm_ (a' := ?_) ?_ ?_
  rotate_left
  · show Act.put _ (some 113) _ = _
    simp only [Act.put, List.setIfInBounds_toArray, List.set_cons_zero, List.set_cons_succ, i64_w, i32_w]
    rfl
  refine one_ (i := 1) (N := some 114) #[true, true, true, false, false, false, false, false, false, false, false, false, false, false, false, false, false, false, false, false, false, false, false, false, false, false] rfl rfl (by kernel_rfl) (by decide) (fun K hK => ?_)
  refine goes_ Tryd.func21 (by kernel_rfl) rfl #[.slice (some ⟨wd.heap.size, 0, none⟩) 2 2] (by rfl) rfl rfl (by (try simp only [List.map_toArray, List.map_cons, List.map_nil]); first | done | rfl) ?_
  refine (of_blk [1, 40] 2 _ 0 Z16 _ rfl (by decide) (by decide) (by decide) (blk_at _ _ _ (by first | rfl | simp))).mono ?_
  rintro e w' ⟨rfl, hb⟩
  refine ⟨_, rfl, ?_⟩
  replace HX := HX.next hb
  clear hb
  refine hK.out _ _ HX (fun HS => ?_)
  clear hK K
  refine norm_ (a' := ?_) ?_ ?_
  rotate_left
  · show Act.put _ (some 114) _ = _
    simp only [Act.put, List.setIfInBounds_toArray, List.set_cons_zero, List.set_cons_succ, i64_w, i32_w]
    rfl
  refine take_ (i := 3) (N := some 116) (v := ?_) (a' := ?_) #[true, true, true, true, false, false, false, false, false, false, false, false, false, false, false, false, false, false, false, false, false, false, false, false, false, false] rfl rfl (by kernel_rfl) (fun _ _ _ h => h) (Or.inl ⟨by rfl, ?_⟩) (by assumption) ?_ ?_
  rotate_left
  · refine eq_yields (fun W => LiS [] w W) (.tmp 114) (.tmp 115) ?_ 0 Z16 0 Z16 ?_ ?_ rfl rfl (show (0 : Int) = 0 ∧ Z16 = Z16 from ⟨rfl, rfl⟩)
    · rfl
    · rfl
    · rfl
  rotate_left
  · simp only [Act.put, List.setIfInBounds_toArray, List.set_cons_zero, List.set_cons_succ, i64_w, i32_w]
    rfl
  refine take_ (i := 4) (N := some 117) (v := ?_) (a' := ?_) #[true, true, true, true, true, false, false, false, false, false, false, false, false, false, false, false, false, false, false, false, false, false, false, false, false, false] rfl rfl (by kernel_rfl) (fun _ _ _ h => h) (Or.inl ⟨by rfl, ?_⟩) (by assumption) ?_ ?_
  rotate_left
  · rintro W' hS'
    go_simp
    with_reducible rfl
  rotate_left
  · simp only [Act.put, List.setIfInBounds_toArray, List.set_cons_zero, List.set_cons_succ, i64_w, i32_w]
    rfl
  refine take_ (i := 5) (N := some 118) (v := ?_) (a' := ?_) #[true, true, true, true, true, true, false, false, false, false, false, false, false, false, false, false, false, false, false, false, false, false, false, false, false, false] rfl rfl (by kernel_rfl) (fun _ _ _ h => h) (Or.inl ⟨by rfl, ?_⟩) (by assumption) ?_ ?_
  rotate_left
  · refine load_yields (fun W => LiS [] w W) 27 (.tmp 1) ?_ w.heap.size ?_ 27 (oidC 0 Z16) _ (fun W h => LiS.box h) Tryd.underlying27 rfl (oid_info _ _ rfl)
    · rfl
    · rfl
  rotate_left
  · simp only [Act.put, List.setIfInBounds_toArray, List.set_cons_zero, List.set_cons_succ, i64_w, i32_w]
    rfl
  refine one_ (i := 6) (N := some 119) #[true, true, true, true, true, true, true, false, false, false, false, false, false, false, false, false, false, false, false, false, false, false, false, false, false, false] rfl rfl (by kernel_rfl) (by decide) (fun K hK => ?_)
  refine goes_ Tryd.func14 (by kernel_rfl) rfl #[.string ⟨#[49, 46, 50, 46, 48, 51]⟩, oidV 0 Z16, .int .i64 6] (by rfl) rfl rfl (by (try simp only [List.map_toArray, List.map_cons, List.map_nil]); first | done | rfl) ?_
  refine (lv_q0 w _ HX).mono ?_
  rintro e w' ⟨rfl, hb⟩
  refine ⟨_, rfl, ?_⟩
  replace HX := HX.next hb
  clear hb
  refine hK.out _ _ HX (fun HS => ?_)
  clear hK K
  refine norm_ (a' := ?_) ?_ ?_
  rotate_left
  · show Act.put _ (some 119) _ = _
    simp only [Act.put, List.setIfInBounds_toArray, List.set_cons_zero, List.set_cons_succ, i64_w, i32_w]
    rfl
  refine take_ (i := 7) (N := some 120) (v := ?_) (a' := ?_) #[true, true, true, true, true, true, true, true, false, false, false, false, false, false, false, false, false, false, false, false, false, false, false, false, false, false] rfl rfl (by kernel_rfl) (fun _ _ _ h => h) (Or.inl ⟨by rfl, ?_⟩) (by assumption) ?_ ?_
  rotate_left
  · rintro W' hS'
    go_simp
    with_reducible rfl
  rotate_left
  · simp only [Act.put, List.setIfInBounds_toArray, List.set_cons_zero, List.set_cons_succ, i64_w, i32_w]
    rfl
  refine take_ (i := 8) (N := some 121) (v := ?_) (a' := ?_) #[true, true, true, true, true, true, true, true, true, false, false, false, false, false, false, false, false, false, false, false, false, false, false, false, false, false] rfl rfl (by kernel_rfl) (fun _ _ _ h => h) (Or.inl ⟨by rfl, ?_⟩) (by assumption) ?_ ?_
  rotate_left
  · rintro W' hS'
    go_simp
    with_reducible rfl
  rotate_left
  · simp only [Act.put, List.setIfInBounds_toArray, List.set_cons_zero, List.set_cons_succ, i64_w, i32_w]
    rfl
  refine take_ (i := 9) (N := some 122) (v := ?_) (a' := ?_) #[true, true, true, true, true, true, true, true, true, true, false, false, false, false, false, false, false, false, false, false, false, false, false, false, false, false] rfl rfl (by kernel_rfl) (fun _ _ _ h => h) (Or.inl ⟨by rfl, ?_⟩) (by assumption) ?_ ?_
  rotate_left
  · refine load_yields (fun W => LiS [] w W) 27 (.tmp 1) ?_ w.heap.size ?_ 27 (oidC 0 Z16) _ (fun W h => LiS.box h) Tryd.underlying27 rfl (oid_info _ _ rfl)
    · rfl
    · rfl
  rotate_left
  · simp only [Act.put, List.setIfInBounds_toArray, List.set_cons_zero, List.set_cons_succ, i64_w, i32_w]
    rfl
  refine one_ (i := 10) (N := some 123) #[true, true, true, true, true, true, true, true, true, true, true, false, false, false, false, false, false, false, false, false, false, false, false, false, false, false] rfl rfl (by kernel_rfl) (by decide) (fun K hK => ?_)
  refine goes_ Tryd.func14 (by kernel_rfl) rfl #[.string ⟨#[49]⟩, oidV 0 Z16, .int .i64 1] (by rfl) rfl rfl (by (try simp only [List.map_toArray, List.map_cons, List.map_nil]); first | done | rfl) ?_
  refine (lv_q1 w _ HX).mono ?_
  rintro e w' ⟨rfl, hb⟩
  refine ⟨_, rfl, ?_⟩
  replace HX := HX.next hb
  clear hb
  refine hK.out _ _ HX (fun HS => ?_)
  clear hK K
  refine norm_ (a' := ?_) ?_ ?_
  rotate_left
  · show Act.put _ (some 123) _ = _
    simp only [Act.put, List.setIfInBounds_toArray, List.set_cons_zero, List.set_cons_succ, i64_w, i32_w]
    rfl
  refine take_ (i := 11) (N := some 124) (v := ?_) (a' := ?_) #[true, true, true, true, true, true, true, true, true, true, true, true, false, false, false, false, false, false, false, false, false, false, false, false, false, false] rfl rfl (by kernel_rfl) (fun _ _ _ h => h) (Or.inl ⟨by rfl, ?_⟩) (by assumption) ?_ ?_
  rotate_left
  · rintro W' hS'
    go_simp
    with_reducible rfl
  rotate_left
  · simp only [Act.put, List.setIfInBounds_toArray, List.set_cons_zero, List.set_cons_succ, i64_w, i32_w]
    rfl
  refine take_ (i := 12) (N := some 125) (v := ?_) (a' := ?_) #[true, true, true, true, true, true, true, true, true, true, true, true, true, false, false, false, false, false, false, false, false, false, false, false, false, false] rfl rfl (by kernel_rfl) (fun _ _ _ h => h) (Or.inl ⟨by rfl, ?_⟩) (by assumption) ?_ ?_
  rotate_left
  · rintro W' hS'
    go_simp
    with_reducible rfl
  rotate_left
  · simp only [Act.put, List.setIfInBounds_toArray, List.set_cons_zero, List.set_cons_succ, i64_w, i32_w]
    rfl
  refine take_ (i := 13) (N := some 126) (v := ?_) (a' := ?_) #[true, true, true, true, true, true, true, true, true, true, true, true, true, true, false, false, false, false, false, false, false, false, false, false, false, false] rfl rfl (by kernel_rfl) (fun _ _ _ h => h) (Or.inl ⟨by rfl, ?_⟩) (by assumption) ?_ ?_
  rotate_left
  · refine load_yields (fun W => LiS [] w W) 27 (.tmp 1) ?_ w.heap.size ?_ 27 (oidC 0 Z16) _ (fun W h => LiS.box h) Tryd.underlying27 rfl (oid_info _ _ rfl)
    · rfl
    · rfl
  rotate_left
  · simp only [Act.put, List.setIfInBounds_toArray, List.set_cons_zero, List.set_cons_succ, i64_w, i32_w]
    rfl
  refine one_ (i := 14) (N := some 127) #[true, true, true, true, true, true, true, true, true, true, true, true, true, true, true, false, false, false, false, false, false, false, false, false, false, false] rfl rfl (by kernel_rfl) (by decide) (fun K hK => ?_)
  refine goes_ Tryd.func14 (by kernel_rfl) rfl #[.string ⟨#[51, 46, 49]⟩, oidV 0 Z16, .int .i64 1] (by rfl) rfl rfl (by (try simp only [List.map_toArray, List.map_cons, List.map_nil]); first | done | rfl) ?_
  refine (lv_q2 w _ HX).mono ?_
  rintro e w' ⟨rfl, hb⟩
  refine ⟨_, rfl, ?_⟩
  replace HX := HX.next hb
  clear hb
  refine hK.out _ _ HX (fun HS => ?_)
  clear hK K
  refine norm_ (a' := ?_) ?_ ?_
  rotate_left
  · show Act.put _ (some 127) _ = _
    simp only [Act.put, List.setIfInBounds_toArray, List.set_cons_zero, List.set_cons_succ, i64_w, i32_w]
    rfl
  refine take_ (i := 15) (N := some 128) (v := ?_) (a' := ?_) #[true, true, true, true, true, true, true, true, true, true, true, true, true, true, true, true, false, false, false, false, false, false, false, false, false, false] rfl rfl (by kernel_rfl) (fun _ _ _ h => h) (Or.inl ⟨by rfl, ?_⟩) (by assumption) ?_ ?_
  rotate_left
  · rintro W' hS'
    go_simp
    with_reducible rfl
  rotate_left
  · simp only [Act.put, List.setIfInBounds_toArray, List.set_cons_zero, List.set_cons_succ, i64_w, i32_w]
    rfl
  refine take_ (i := 16) (N := some 129) (v := ?_) (a' := ?_) #[true, true, true, true, true, true, true, true, true, true, true, true, true, true, true, true, true, false, false, false, false, false, false, false, false, false] rfl rfl (by kernel_rfl) (fun _ _ _ h => h) (Or.inl ⟨by rfl, ?_⟩) (by assumption) ?_ ?_
  rotate_left
  · rintro W' hS'
    go_simp
    with_reducible rfl
  rotate_left
  · simp only [Act.put, List.setIfInBounds_toArray, List.set_cons_zero, List.set_cons_succ, i64_w, i32_w]
    rfl
  refine take_ (i := 17) (N := some 130) (v := ?_) (a' := ?_) #[true, true, true, true, true, true, true, true, true, true, true, true, true, true, true, true, true, true, false, false, false, false, false, false, false, false] rfl rfl (by kernel_rfl) (fun _ _ _ h => h) (Or.inl ⟨by rfl, ?_⟩) (by assumption) ?_ ?_
  rotate_left
  · refine load_yields (fun W => LiS [] w W) 27 (.tmp 1) ?_ w.heap.size ?_ 27 (oidC 0 Z16) _ (fun W h => LiS.box h) Tryd.underlying27 rfl (oid_info _ _ rfl)
    · rfl
    · rfl
  rotate_left
  · simp only [Act.put, List.setIfInBounds_toArray, List.set_cons_zero, List.set_cons_succ, i64_w, i32_w]
    rfl
  refine one_ (i := 18) (N := some 131) #[true, true, true, true, true, true, true, true, true, true, true, true, true, true, true, true, true, true, true, false, false, false, false, false, false, false] rfl rfl (by kernel_rfl) (by decide) (fun K hK => ?_)
  refine goes_ Tryd.func14 (by kernel_rfl) rfl #[.string ⟨#[49, 46, 50, 46, 52, 50, 57, 52, 57, 54, 55, 50, 57, 54]⟩, oidV 0 Z16, .int .i64 3] (by rfl) rfl rfl (by (try simp only [List.map_toArray, List.map_cons, List.map_nil]); first | done | rfl) ?_
  refine (lv_q3 w _ HX).mono ?_
  rintro e w' ⟨rfl, hb⟩
  refine ⟨_, rfl, ?_⟩
  replace HX := HX.next hb
  clear hb
  refine hK.out _ _ HX (fun HS => ?_)
  clear hK K
  refine norm_ (a' := ?_) ?_ ?_
  rotate_left
  · show Act.put _ (some 131) _ = _
    simp only [Act.put, List.setIfInBounds_toArray, List.set_cons_zero, List.set_cons_succ, i64_w, i32_w]
    rfl
  refine take_ (i := 19) (N := some 132) (v := ?_) (a' := ?_) #[true, true, true, true, true, true, true, true, true, true, true, true, true, true, true, true, true, true, true, true, false, false, false, false, false, false] rfl rfl (by kernel_rfl) (fun _ _ _ h => h) (Or.inl ⟨by rfl, ?_⟩) (by assumption) ?_ ?_
  rotate_left
  · rintro W' hS'
    go_simp
    with_reducible rfl
  rotate_left
  · simp only [Act.put, List.setIfInBounds_toArray, List.set_cons_zero, List.set_cons_succ, i64_w, i32_w]
    rfl
  refine take_ (i := 20) (N := some 133) (v := ?_) (a' := ?_) #[true, true, true, true, true, true, true, true, true, true, true, true, true, true, true, true, true, true, true, true, true, false, false, false, false, false] rfl rfl (by kernel_rfl) (fun _ _ _ h => h) (Or.inl ⟨by rfl, ?_⟩) (by assumption) ?_ ?_
  rotate_left
  · rintro W' hS'
    go_simp
    with_reducible rfl
  rotate_left
  · simp only [Act.put, List.setIfInBounds_toArray, List.set_cons_zero, List.set_cons_succ, i64_w, i32_w]
    rfl
  refine one_ (i := 21) (N := some 134) #[true, true, true, true, true, true, true, true, true, true, true, true, true, true, true, true, true, true, true, true, true, true, false, false, false, false] rfl rfl (by kernel_rfl) (by decide) (fun K hK => ?_)
  refine goes_ Tryd.func22 (by kernel_rfl) rfl #[] (by rfl) rfl rfl (by (try simp only [List.map_toArray, List.map_cons, List.map_nil]); first | done | rfl) ?_
  refine (any_is _).mono ?_
  rintro e w' ⟨rfl, hb⟩
  refine ⟨_, rfl, ?_⟩
  replace HX := HX.next hb
  clear hb
  refine hK.out _ _ HX (fun HS => ?_)
  clear hK K
  refine norm_ (a' := ?_) ?_ ?_
  rotate_left
  · show Act.put _ (some 134) _ = _
    simp only [Act.put, List.setIfInBounds_toArray, List.set_cons_zero, List.set_cons_succ, i64_w, i32_w]
    rfl
  refine one_ (i := 22) (N := some 135) #[true, true, true, true, true, true, true, true, true, true, true, true, true, true, true, true, true, true, true, true, true, true, true, false, false, false] rfl rfl (by kernel_rfl) (by decide) (fun K hK => ?_)
  refine goes_ Tryd.func15 (by kernel_rfl) rfl #[oidV 5 anyX] (by rfl) rfl rfl (by (try simp only [List.map_toArray, List.map_cons, List.map_nil]); first | done | rfl) ?_
  refine (lv_text w _ HX).mono ?_
  rintro e w' ⟨rfl, hb⟩
  refine ⟨_, rfl, ?_⟩
  replace HX := HX.next hb
  clear hb
  refine hK.out _ _ HX (fun HS => ?_)
  clear hK K
  refine norm_ (a' := ?_) ?_ ?_
  rotate_left
  · show Act.put _ (some 135) _ = _
    simp only [Act.put, List.setIfInBounds_toArray, List.set_cons_zero, List.set_cons_succ, i64_w, i32_w]
    rfl
  refine take_ (i := 23) (N := some 136) (v := ?_) (a' := ?_) #[true, true, true, true, true, true, true, true, true, true, true, true, true, true, true, true, true, true, true, true, true, true, true, true, false, false] rfl rfl (by kernel_rfl) (fun _ _ _ h => h) (Or.inl ⟨by rfl, ?_⟩) (by assumption) ?_ ?_
  rotate_left
  · rintro W' hS'
    go_simp
    with_reducible rfl
  rotate_left
  · simp only [Act.put, List.setIfInBounds_toArray, List.set_cons_zero, List.set_cons_succ, i64_w, i32_w]
    rfl
  refine take_ (i := 24) (N := some 137) (v := ?_) (a' := ?_) #[true, true, true, true, true, true, true, true, true, true, true, true, true, true, true, true, true, true, true, true, true, true, true, true, true, false] rfl rfl (by kernel_rfl) (fun _ _ _ h => h) (Or.inl ⟨by rfl, ?_⟩) (by assumption) ?_ ?_
  rotate_left
  · rintro W' hS'
    go_simp
    with_reducible rfl
  rotate_left
  · simp only [Act.put, List.setIfInBounds_toArray, List.set_cons_zero, List.set_cons_succ, i64_w, i32_w]
    rfl
  refine take_ (i := 25) (N := some 0) (v := ?_) (a' := ?_) #[true, true, true, true, true, true, true, true, true, true, true, true, true, true, true, true, true, true, true, true, true, true, true, true, true, true] rfl rfl (by kernel_rfl) (fun _ _ _ h => h) (Or.inl ⟨by rfl, ?_⟩) (by assumption) ?_ ?_
  rotate_left
  · rintro W' hS'
    go_simp
    with_reducible rfl
  rotate_left
  · simp only [Act.put, List.setIfInBounds_toArray, List.set_cons_zero, List.set_cons_succ, i64_w, i32_w]
    rfl
  refine done_ (by kernel_rfl) ?_
  go_wp2
  go_ret
  exact ⟨rfl, HX.st.b⟩
end Go.Proofs.YtacpcagijfacnaaDoor
