/- Chapters 6, 7 (oids, oidsets): the equality of OIDs; the law's own helpers read, parsed, same. -/
import Derived.Test.YtacpcagijfacnaaDoorPb
import Derived.ChangeKeysEq
import Derived.Test.YtacpcagijfacnaaDoorWEqStruct
import Derived.Laws.BytesString
import Derived.Laws.IdiomStrings
namespace Go.Proofs.YtacpcagijfacnaaDoor
open Go.RowKit Go.Shelf
open Go.Proofs.YtacpcagijfacnaaDoorW.PrintWords (eqA_of eqf_cons eqf_last gate_dst gate_store Kd.C_below Kd.C_of_reads Kd.reads_of_C ReadsOf.at_ rdOf blk_new blk_below blk_cell blk_alloc blk_lt blk_frozen blk_drew blk_set Kd.C Kd.int)
set_option linter.unusedSimpArgs false
set_option linter.unusedVariables false
set_option maxRecDepth 50000
theorem list16 {xs : List Int} (h : xs.length = 16) : ∃ a b c d e f g i j k l m n o p q : Int, xs = [a, b, c, d, e, f, g, i, j, k, l, m, n, o, p, q] := by
  match xs, h with
  | [a, b, c, d, e, f, g, i, j, k, l, m, n, o, p, q], _ => exact ⟨a, b, c, d, e, f, g, i, j, k, l, m, n, o, p, q, rfl⟩
theorem eqItems_step {P : Program} {w : World} {d : Nat} {e : TypeId} {k : Nat} {xs ys : Array Value} {i : Nat} {is : List Nat} {a b : Int} {s : Bool}
    (ha : (part e xs (i * k)).run P w = .ok (.int .u32 a) w) (hb : (part e ys (i * k)).run P w = .ok (.int .u32 b) w) (he : (Op.equalIn d e (.int .u32 a) (.int .u32 b)).run P w = .ok (a == b) w)
    (h : (Op.eqItems d e k xs ys is).run P w = .ok s w) : (Op.eqItems d e k xs ys (i :: is)).run P w = .ok ((a == b) && s) w := by
  simp only [Op.eqItems, Sem.run_bind, ha, hb, he, Result.andThen_ok]
  cases hab : (a == b)
  · simp
  · simpa using h
theorem infoU : ∃ i, Tryd.prog.info? 24 = some i := by
  cases h : Tryd.prog.info? 24 with
  | none => exact absurd (show (Tryd.prog.info? 24).isSome = true by kernel_rfl) (by rw [h]; decide)
  | some i => exact ⟨i, rfl⟩
theorem cellsU : Tryd.prog.cellsOf 24 = 1 := by kernel_rfl
theorem und26 : Tryd.prog.underlying 25 = some (.array 16 24) := Tryd.underlying25
set_option maxHeartbeats 1000000 in
theorem eqA16 (w : World) (a b c d e f g i j k l m n o p q a' b' c' d' e' f' g' i' j' k' l' m' n' o' p' q' : Int) :
    (Op.equalIn 9999 25 (.agg (([a, b, c, d, e, f, g, i, j, k, l, m, n, o, p, q] : List Int).map (Value.int .u32)).toArray) (.agg (([a', b', c', d', e', f', g', i', j', k', l', m', n', o', p', q'] : List Int).map (Value.int .u32)).toArray)).run Tryd.prog w = .ok (decide (([a, b, c, d, e, f, g, i, j, k, l, m, n, o, p, q] : List Int) = [a', b', c', d', e', f', g', i', j', k', l', m', n', o', p', q'])) w := by
  obtain ⟨i0, hi⟩ := infoU
  have key : (decide (([a, b, c, d, e, f, g, i, j, k, l, m, n, o, p, q] : List Int) = [a', b', c', d', e', f', g', i', j', k', l', m', n', o', p', q'])) = ((a == a') && ((b == b') && ((c == c') && ((d == d') && ((e == e') && ((f == f') && ((g == g') && ((i == i') && ((j == j') && ((k == k') && ((l == l') && ((m == m') && ((n == n') && ((o == o') && ((p == p') && ((q == q') && true)))))))))))))))) := by
    rw [Bool.eq_iff_iff]; simp
  rw [run_equalIn_array (w := w) 9998 (i := i0) _ _ und26 hi, key, cellsU]
  show (Op.eqItems _ _ _ _ _ [0, 1, 2, 3, 4, 5, 6, 7, 8, 9, 10, 11, 12, 13, 14, 15]).run _ _ = _
  refine eqItems_step (a := a) (b := a') (by go_simp) (by go_simp) (by go_simp) ?_
  refine eqItems_step (a := b) (b := b') (by go_simp) (by go_simp) (by go_simp) ?_
  refine eqItems_step (a := c) (b := c') (by go_simp) (by go_simp) (by go_simp) ?_
  refine eqItems_step (a := d) (b := d') (by go_simp) (by go_simp) (by go_simp) ?_
  refine eqItems_step (a := e) (b := e') (by go_simp) (by go_simp) (by go_simp) ?_
  refine eqItems_step (a := f) (b := f') (by go_simp) (by go_simp) (by go_simp) ?_
  refine eqItems_step (a := g) (b := g') (by go_simp) (by go_simp) (by go_simp) ?_
  refine eqItems_step (a := i) (b := i') (by go_simp) (by go_simp) (by go_simp) ?_
  refine eqItems_step (a := j) (b := j') (by go_simp) (by go_simp) (by go_simp) ?_
  refine eqItems_step (a := k) (b := k') (by go_simp) (by go_simp) (by go_simp) ?_
  refine eqItems_step (a := l) (b := l') (by go_simp) (by go_simp) (by go_simp) ?_
  refine eqItems_step (a := m) (b := m') (by go_simp) (by go_simp) (by go_simp) ?_
  refine eqItems_step (a := n) (b := n') (by go_simp) (by go_simp) (by go_simp) ?_
  refine eqItems_step (a := o) (b := o') (by go_simp) (by go_simp) (by go_simp) ?_
  refine eqItems_step (a := p) (b := p') (by go_simp) (by go_simp) (by go_simp) ?_
  refine eqItems_step (a := q) (b := q') (by go_simp) (by go_simp) (by go_simp) ?_
  simp [Op.eqItems]
set_option maxHeartbeats 1000000 in
/-- Two OIDs are compared cell by cell. -/
theorem eqO (n : Int) (xs : List Int) (m : Int) (ys : List Int) (hx : xs.length = 16) (hy : ys.length = 16) (w : World) :
    (Op.equalIn 10000 27 (.agg (oidC n xs)) (.agg (oidC m ys))).run Tryd.prog w = .ok (decide (n = m ∧ xs = ys)) w := by
  obtain ⟨a, b, c, d, e, f, g, i, j, k, l, o, p, q, r, s, rfl⟩ := list16 hx
  obtain ⟨a', b', c', d', e', f', g', i', j', k', l', o', p', q', r', s', rfl⟩ := list16 hy
  have key : ∀ (u v : List Int), decide (n = m ∧ u = v) = ((n == m) && decide (u = v)) := fun u v => by rw [Bool.eq_iff_iff]; simp
  rw [key]
  refine eqA_of Tryd.underlying27 (by kernel_rfl) ?_
  refine eqf_cons (by rfl) (by go_simp; rfl) (by go_simp; rfl) (by go_simp) ?_
  exact eqf_last (by rfl) (by go_simp) (by go_simp) (eqA16 w _ _ _ _ _ _ _ _ _ _ _ _ _ _ _ _ _ _ _ _ _ _ _ _ _ _ _ _ _ _ _ _)
theorem eqE (x0 x1 x2 x3 x4 x5 x6 x7 x8 x9 x10 x11 x12 x13 x14 x15 x16 y0 y1 y2 y3 y4 y5 y6 y7 y8 y9 y10 y11 y12 y13 y14 y15 y16 : Int) (w : World) : (Op.equalIn 10000 27 (.agg #[.int .u8 x0, .int .u32 x1, .int .u32 x2, .int .u32 x3, .int .u32 x4, .int .u32 x5, .int .u32 x6, .int .u32 x7, .int .u32 x8, .int .u32 x9, .int .u32 x10, .int .u32 x11, .int .u32 x12, .int .u32 x13, .int .u32 x14, .int .u32 x15, .int .u32 x16]) (.agg #[.int .u8 y0, .int .u32 y1, .int .u32 y2, .int .u32 y3, .int .u32 y4, .int .u32 y5, .int .u32 y6, .int .u32 y7, .int .u32 y8, .int .u32 y9, .int .u32 y10, .int .u32 y11, .int .u32 y12, .int .u32 y13, .int .u32 y14, .int .u32 y15, .int .u32 y16])).run Tryd.prog w = .ok (decide (x0 = y0 ∧ ([x1, x2, x3, x4, x5, x6, x7, x8, x9, x10, x11, x12, x13, x14, x15, x16] : List Int) = ([y1, y2, y3, y4, y5, y6, y7, y8, y9, y10, y11, y12, y13, y14, y15, y16] : List Int))) w := eqO x0 ([x1, x2, x3, x4, x5, x6, x7, x8, x9, x10, x11, x12, x13, x14, x15, x16] : List Int) y0 ([y1, y2, y3, y4, y5, y6, y7, y8, y9, y10, y11, y12, y13, y14, y15, y16] : List Int) rfl rfl w
theorem eqlO (n : Int) (xs : List Int) (m : Int) (ys : List Int) (hx : xs.length = 16) (hy : ys.length = 16) (w : World) :
    (binOp .eql 27 (.agg (oidC n xs)) (.agg (oidC m ys))).run Tryd.prog w = .ok (.bool (decide (n = m ∧ xs = ys))) w := by
  rw [run_eql_struct, eqO n xs m ys hx hy]; rfl
theorem neqO (n : Int) (xs : List Int) (m : Int) (ys : List Int) (hx : xs.length = 16) (hy : ys.length = 16) (w : World) :
    (binOp .neq 27 (.agg (oidC n xs)) (.agg (oidC m ys))).run Tryd.prog w = .ok (.bool (!decide (n = m ∧ xs = ys))) w := by
  rw [run_neq_struct, eqO n xs m ys hx hy]; rfl
theorem getL_len {S' : List Int} : ∀ (l S : List Int) (n : Int) (b : Bool), S.length ≤ 15 → (b = false → S.length < 15) → getL l S n b = .ok S' → S'.length ≤ 15
  | [], S, n, b, h1, h2, h => by
    cases b
    · simp [getL] at h
    · simp only [getL, if_true] at h
      injection h with h; subst h; exact h1
  | x :: r, S, n, b, h1, h2, h => by
    rw [getL] at h
    by_cases a1 : b = true ∧ S.length = 15
    · rw [if_pos a1] at h; cases h
    rw [if_neg a1] at h
    have hS : S.length < 15 := by
      cases b
      · exact h2 rfl
      · have : ¬ S.length = 15 := fun e => a1 ⟨rfl, e⟩
        omega
    by_cases a2 : b = true ∧ x = 128
    · rw [if_pos a2] at h; cases h
    rw [if_neg a2] at h
    by_cases a3 : 4294967295 < n * 128 + x % 128
    · rw [if_pos a3] at h; cases h
    rw [if_neg a3] at h
    by_cases a4 : x < 128
    · rw [if_pos a4] at h
      exact getL_len r _ _ _ (by simp; omega) (fun e => by cases e) h
    · rw [if_neg a4] at h
      exact getL_len r _ _ _ h1 (fun _ => hS) h
theorem getT_len {l : List Int} : (getT l).2.1.length = 16 := by
  unfold getT
  by_cases h : l = []
  · rw [if_pos h]; rfl
  rw [if_neg h]
  cases hg : getL l [] 0 true with
  | error e => rfl
  | ok S => exact getX_len S (getL_len l [] 0 true (by simp) (fun e => by cases e) hg)
/-- A box that has just been made and filled. -/
def boxed (W : World) (n : Int) (xs : List Int) : World := (W.alloc (.cells (oidC 0 Z16) 27)).setRow W.heap.size (oidC n xs)
theorem boxed_below (W : World) (n : Int) (xs : List Int) : Below W.heap.size W (boxed W n xs) := below_setRow ((Below.refl _ _).alloc (Nat.le_refl _) _) (Nat.le_refl _) _
theorem boxed_at (W : World) (n : Int) (xs : List Int) : (boxed W n xs).heap[W.heap.size]? = some (.cells (oidC n xs) 27 (0, 0)) := setRow_heap _ _ _ _ _ _ (blk_new W _)
theorem boxed_size (W : World) (n : Int) (xs : List Int) : (boxed W n xs).heap.size = W.heap.size + 1 := by unfold boxed World.setRow; simp
set_option maxHeartbeats 4000000 in
theorem read_gen (A : Option Addr) (n c : Nat) (m : Int) (ys : List Int) (f : Int) (w : World) (hy : ys.length = 16) (rn er : Int) (rx : List Int) (hx : rx.length = 16) (res : Bool) (hres : (decide (rn = m ∧ rx = ys) && (er == f)) = res)
    (HC : ∀ W, Below w.heap.size w W → Calls Tryd.prog 24 #[.slice A n c] W fun e w' => e = .returned (.tuple #[oidV rn rx, .int .i64 er]) ∧ Below W.heap.size W w') :
    Calls Tryd.prog 10 #[.slice A n c, oidV m ys, .int .i64 f] w fun e w' => e = .returned (.bool res) ∧ Below w.heap.size w w' := by
  have HC2 := Lib.hid HC
  clear HC
  have HX := Lib.hid hx
  have HY := Lib.hid hy
  have HB := Lib.hid ((Below.refl w.heap.size w).alloc (Nat.le_refl _) (.cells (oidC m ys) 27))
  have Y0 := Lib.hid (blk_new w (.cells (oidC m ys) 27))
  have hE : ∀ w, (binOp .eql 27 (.agg (oidC rn rx)) (.agg (oidC m ys))).run Tryd.prog w = .ok (.bool (decide (rn = m ∧ rx = ys))) w := eqlO rn rx m ys hx hy
  generalize hd : decide (rn = m ∧ rx = ys) = d at *
  clear hx hy hd
  cases d
  · obtain rfl : res = false := by rw [← hres]; rfl
    clear hres
    go_enter Tryd.func10, Tryd.ntmps10
    go_upto_region 1 with fail
    generalize w.alloc (.cells (oidC m ys) 27) = W0 at *
    go_upto_region 2 with (first
      | (go_at_call 24; refine (HC2.out _ HB.out).mono ?_; rintro e W1 ⟨rfl, hb1⟩; have HB1 := Lib.hid (HB.out.trans (hb1.mono HB.out.size)); have Y1 := Lib.hid (blk_below Y0.out hb1); clear hb1)
      | ((with_reducible refine gate_store rfl ?_); refine wpList_plain rfl fun K hK => ?_; refine wp_store_row 27 _ _ rfl W1.heap.size (oidC rn rx) rfl rfl 27 (oidC 0 Z16) (blk_new W1 _) (oid_info _ _ HX.out) (by simp [HX.out]) (oid_one _ _) ?_; refine hK _ _ ?_))
    have X2 := Lib.hid (boxed_at W1 rn rx)
    have Y2 := Lib.hid (blk_below Y1.out (boxed_below W1 rn rx))
    have HB2 := Lib.hid (HB1.out.trans ((boxed_below W1 rn rx).mono HB1.out.size))
    rw [zrow]
    change Code.wp _ _ _ _ (boxed W1 rn rx)
    generalize boxed W1 rn rx = W2 at *
    go_wp2_with (first
      | ((with_reducible refine gate_dst (N := 14) rfl ?_); refine wpList_load_row rfl 27 _ rfl W1.heap.size rfl 27 (oidC rn rx) (0, 0) _ X2.out Tryd.underlying27 rfl (oid_info _ _ HX.out) ?_)
      | ((with_reducible refine gate_dst (N := 15) rfl ?_); refine wpList_load_row rfl 27 _ rfl w.heap.size rfl 27 (oidC m ys) (0, 0) _ Y2.out Tryd.underlying27 rfl (oid_info _ _ HY.out) ?_))
    go_ret
    exact ⟨rfl, HB2.out⟩
  · rw [Bool.true_and] at hres
    cases res
    · have hne : ¬ (er = f) := fun h => by simp [h] at hres
      go_enter Tryd.func10, Tryd.ntmps10
      go_upto_region 1 with fail
      generalize w.alloc (.cells (oidC m ys) 27) = W0 at *
      go_upto_region 2 with (first
        | (go_at_call 24; refine (HC2.out _ HB.out).mono ?_; rintro e W1 ⟨rfl, hb1⟩; have HB1 := Lib.hid (HB.out.trans (hb1.mono HB.out.size)); have Y1 := Lib.hid (blk_below Y0.out hb1); clear hb1)
        | ((with_reducible refine gate_store rfl ?_); refine wpList_plain rfl fun K hK => ?_; refine wp_store_row 27 _ _ rfl W1.heap.size (oidC rn rx) rfl rfl 27 (oidC 0 Z16) (blk_new W1 _) (oid_info _ _ HX.out) (by simp [HX.out]) (oid_one _ _) ?_; refine hK _ _ ?_))
      have X2 := Lib.hid (boxed_at W1 rn rx)
      have Y2 := Lib.hid (blk_below Y1.out (boxed_below W1 rn rx))
      have HB2 := Lib.hid (HB1.out.trans ((boxed_below W1 rn rx).mono HB1.out.size))
      rw [zrow]
      change Code.wp _ _ _ _ (boxed W1 rn rx)
      generalize boxed W1 rn rx = W2 at *
      go_wp2_with (first
        | ((with_reducible refine gate_dst (N := 14) rfl ?_); refine wpList_load_row rfl 27 _ rfl W1.heap.size rfl 27 (oidC rn rx) (0, 0) _ X2.out Tryd.underlying27 rfl (oid_info _ _ HX.out) ?_)
        | ((with_reducible refine gate_dst (N := 15) rfl ?_); refine wpList_load_row rfl 27 _ rfl w.heap.size rfl 27 (oidC m ys) (0, 0) _ Y2.out Tryd.underlying27 rfl (oid_info _ _ HY.out) ?_))
      go_ret
      exact ⟨rfl, HB2.out⟩
    · obtain rfl : er = f := by simpa using hres
      clear hres
      go_enter Tryd.func10, Tryd.ntmps10
      go_upto_region 1 with fail
      generalize w.alloc (.cells (oidC m ys) 27) = W0 at *
      go_upto_region 2 with (first
        | (go_at_call 24; refine (HC2.out _ HB.out).mono ?_; rintro e W1 ⟨rfl, hb1⟩; have HB1 := Lib.hid (HB.out.trans (hb1.mono HB.out.size)); have Y1 := Lib.hid (blk_below Y0.out hb1); clear hb1)
        | ((with_reducible refine gate_store rfl ?_); refine wpList_plain rfl fun K hK => ?_; refine wp_store_row 27 _ _ rfl W1.heap.size (oidC rn rx) rfl rfl 27 (oidC 0 Z16) (blk_new W1 _) (oid_info _ _ HX.out) (by simp [HX.out]) (oid_one _ _) ?_; refine hK _ _ ?_))
      have X2 := Lib.hid (boxed_at W1 rn rx)
      have Y2 := Lib.hid (blk_below Y1.out (boxed_below W1 rn rx))
      have HB2 := Lib.hid (HB1.out.trans ((boxed_below W1 rn rx).mono HB1.out.size))
      rw [zrow]
      change Code.wp _ _ _ _ (boxed W1 rn rx)
      generalize boxed W1 rn rx = W2 at *
      go_wp2_with (first
        | ((with_reducible refine gate_dst (N := 14) rfl ?_); refine wpList_load_row rfl 27 _ rfl W1.heap.size rfl 27 (oidC rn rx) (0, 0) _ X2.out Tryd.underlying27 rfl (oid_info _ _ HX.out) ?_)
        | ((with_reducible refine gate_dst (N := 15) rfl ?_); refine wpList_load_row rfl 27 _ rfl w.heap.size rfl 27 (oidC m ys) (0, 0) _ Y2.out Tryd.underlying27 rfl (oid_info _ _ HY.out) ?_))
      go_ret
      exact ⟨rfl, HB2.out⟩
set_option maxHeartbeats 4000000 in
theorem parsed_gen (s : ByteArray) (m : Int) (ys : List Int) (f : Int) (w : World) (hy : ys.length = 16) (rn er : Int) (rx : List Int) (hx : rx.length = 16) (res : Bool) (hres : (decide (rn = m ∧ rx = ys) && (er == f)) = res)
    (HC : ∀ W, Below w.heap.size w W → Calls Tryd.prog 30 #[.string s] W fun e w' => e = .returned (.tuple #[oidV rn rx, .int .i64 er]) ∧ Below W.heap.size W w') :
    Calls Tryd.prog 14 #[.string s, oidV m ys, .int .i64 f] w fun e w' => e = .returned (.bool res) ∧ Below w.heap.size w w' := by
  have HC2 := Lib.hid HC
  clear HC
  have HX := Lib.hid hx
  have HY := Lib.hid hy
  have HB := Lib.hid ((Below.refl w.heap.size w).alloc (Nat.le_refl _) (.cells (oidC m ys) 27))
  have Y0 := Lib.hid (blk_new w (.cells (oidC m ys) 27))
  have hE : ∀ w, (binOp .eql 27 (.agg (oidC rn rx)) (.agg (oidC m ys))).run Tryd.prog w = .ok (.bool (decide (rn = m ∧ rx = ys))) w := eqlO rn rx m ys hx hy
  generalize hd : decide (rn = m ∧ rx = ys) = d at *
  clear hx hy hd
  cases d
  · obtain rfl : res = false := by rw [← hres]; rfl
    clear hres
    go_enter Tryd.func14, Tryd.ntmps14
    go_upto_region 1 with fail
    generalize w.alloc (.cells (oidC m ys) 27) = W0 at *
    go_upto_region 2 with (first
      | (go_at_call 30; refine (HC2.out _ HB.out).mono ?_; rintro e W1 ⟨rfl, hb1⟩; have HB1 := Lib.hid (HB.out.trans (hb1.mono HB.out.size)); have Y1 := Lib.hid (blk_below Y0.out hb1); clear hb1)
      | ((with_reducible refine gate_store rfl ?_); refine wpList_plain rfl fun K hK => ?_; refine wp_store_row 27 _ _ rfl W1.heap.size (oidC rn rx) rfl rfl 27 (oidC 0 Z16) (blk_new W1 _) (oid_info _ _ HX.out) (by simp [HX.out]) (oid_one _ _) ?_; refine hK _ _ ?_))
    have X2 := Lib.hid (boxed_at W1 rn rx)
    have Y2 := Lib.hid (blk_below Y1.out (boxed_below W1 rn rx))
    have HB2 := Lib.hid (HB1.out.trans ((boxed_below W1 rn rx).mono HB1.out.size))
    rw [zrow]
    change Code.wp _ _ _ _ (boxed W1 rn rx)
    generalize boxed W1 rn rx = W2 at *
    go_wp2_with (first
      | ((with_reducible refine gate_dst (N := 14) rfl ?_); refine wpList_load_row rfl 27 _ rfl W1.heap.size rfl 27 (oidC rn rx) (0, 0) _ X2.out Tryd.underlying27 rfl (oid_info _ _ HX.out) ?_)
      | ((with_reducible refine gate_dst (N := 15) rfl ?_); refine wpList_load_row rfl 27 _ rfl w.heap.size rfl 27 (oidC m ys) (0, 0) _ Y2.out Tryd.underlying27 rfl (oid_info _ _ HY.out) ?_))
    go_ret
    exact ⟨rfl, HB2.out⟩
  · rw [Bool.true_and] at hres
    cases res
    · have hne : ¬ (er = f) := fun h => by simp [h] at hres
      go_enter Tryd.func14, Tryd.ntmps14
      go_upto_region 1 with fail
      generalize w.alloc (.cells (oidC m ys) 27) = W0 at *
      go_upto_region 2 with (first
        | (go_at_call 30; refine (HC2.out _ HB.out).mono ?_; rintro e W1 ⟨rfl, hb1⟩; have HB1 := Lib.hid (HB.out.trans (hb1.mono HB.out.size)); have Y1 := Lib.hid (blk_below Y0.out hb1); clear hb1)
        | ((with_reducible refine gate_store rfl ?_); refine wpList_plain rfl fun K hK => ?_; refine wp_store_row 27 _ _ rfl W1.heap.size (oidC rn rx) rfl rfl 27 (oidC 0 Z16) (blk_new W1 _) (oid_info _ _ HX.out) (by simp [HX.out]) (oid_one _ _) ?_; refine hK _ _ ?_))
      have X2 := Lib.hid (boxed_at W1 rn rx)
      have Y2 := Lib.hid (blk_below Y1.out (boxed_below W1 rn rx))
      have HB2 := Lib.hid (HB1.out.trans ((boxed_below W1 rn rx).mono HB1.out.size))
      rw [zrow]
      change Code.wp _ _ _ _ (boxed W1 rn rx)
      generalize boxed W1 rn rx = W2 at *
      go_wp2_with (first
        | ((with_reducible refine gate_dst (N := 14) rfl ?_); refine wpList_load_row rfl 27 _ rfl W1.heap.size rfl 27 (oidC rn rx) (0, 0) _ X2.out Tryd.underlying27 rfl (oid_info _ _ HX.out) ?_)
        | ((with_reducible refine gate_dst (N := 15) rfl ?_); refine wpList_load_row rfl 27 _ rfl w.heap.size rfl 27 (oidC m ys) (0, 0) _ Y2.out Tryd.underlying27 rfl (oid_info _ _ HY.out) ?_))
      go_ret
      exact ⟨rfl, HB2.out⟩
    · obtain rfl : er = f := by simpa using hres
      clear hres
      go_enter Tryd.func14, Tryd.ntmps14
      go_upto_region 1 with fail
      generalize w.alloc (.cells (oidC m ys) 27) = W0 at *
      go_upto_region 2 with (first
        | (go_at_call 30; refine (HC2.out _ HB.out).mono ?_; rintro e W1 ⟨rfl, hb1⟩; have HB1 := Lib.hid (HB.out.trans (hb1.mono HB.out.size)); have Y1 := Lib.hid (blk_below Y0.out hb1); clear hb1)
        | ((with_reducible refine gate_store rfl ?_); refine wpList_plain rfl fun K hK => ?_; refine wp_store_row 27 _ _ rfl W1.heap.size (oidC rn rx) rfl rfl 27 (oidC 0 Z16) (blk_new W1 _) (oid_info _ _ HX.out) (by simp [HX.out]) (oid_one _ _) ?_; refine hK _ _ ?_))
      have X2 := Lib.hid (boxed_at W1 rn rx)
      have Y2 := Lib.hid (blk_below Y1.out (boxed_below W1 rn rx))
      have HB2 := Lib.hid (HB1.out.trans ((boxed_below W1 rn rx).mono HB1.out.size))
      rw [zrow]
      change Code.wp _ _ _ _ (boxed W1 rn rx)
      generalize boxed W1 rn rx = W2 at *
      go_wp2_with (first
        | ((with_reducible refine gate_dst (N := 14) rfl ?_); refine wpList_load_row rfl 27 _ rfl W1.heap.size rfl 27 (oidC rn rx) (0, 0) _ X2.out Tryd.underlying27 rfl (oid_info _ _ HX.out) ?_)
        | ((with_reducible refine gate_dst (N := 15) rfl ?_); refine wpList_load_row rfl 27 _ rfl w.heap.size rfl 27 (oidC m ys) (0, 0) _ Y2.out Tryd.underlying27 rfl (oid_info _ _ HY.out) ?_))
      go_ret
      exact ⟨rfl, HB2.out⟩
instance (l : List Int) : Decidable (Byt l) := inferInstanceAs (Decidable (∀ x ∈ l, 0 ≤ x ∧ x < 256))
def u8s (l : List Int) : List UInt8 := l.map fun x => UInt8.ofNat x.toNat
theorem u8s_inj : ∀ {a b : List Int}, Byt a → Byt b → u8s a = u8s b → a = b
  | [], [], _, _, _ => rfl
  | [], _ :: _, _, _, h => by simp [u8s] at h
  | _ :: _, [], _, _, h => by simp [u8s] at h
  | x :: a, y :: b, ha, hb, h => by
    simp only [u8s, List.map_cons, List.cons.injEq] at h
    have hx := ha x (by simp)
    have hy := hb y (by simp)
    have h1 := congrArg UInt8.toNat h.1
    rw [UInt8.toNat_ofNat', UInt8.toNat_ofNat'] at h1
    rw [show x = y by omega, u8s_inj (fun z hz => ha z (List.mem_cons_of_mem _ hz)) (fun z hz => hb z (List.mem_cons_of_mem _ hz)) h.2]
theorem conv_any {w : World} {g c : Nat} {l : List Int} (hb : Byt l) (h : Octs w g l) : (convert 22 9 (.slice (some ⟨g, 0, none⟩) l.length c)).run Tryd.prog w = .ok (.string ⟨(u8s l).toArray⟩) w := by
  have hl : l.length = (u8s l).length := by simp [u8s]
  rw [hl]
  refine run_convert_bytes_back w 22 9 5 ⟨g, 0, none⟩ c (u8s l) Tryd.underlying22 Tryd.underlying5 Tryd.underlying9 fun j hj => ?_
  rw [Lib.add_plain, Nat.zero_add, h j (by omega)]
  have hj' : j < l.length := by omega
  have hx := hb l[j] (List.getElem_mem hj')
  simp only [u8s, List.getElem_map, List.getD, List.getElem?_eq_getElem hj', Option.getD_some]
  rw [UInt8.toNat_ofNat', show ((l[j].toNat % 2 ^ 8 : Nat) : Int) = l[j] by omega]
/-- The bytes of a slice that came in, as a string. -/
theorem conv_arg {w : World} {A : Option Addr} {c : Nat} {l : List Int} (hb : Byt l) (h : Kd.C (Kd.int .u8) w A l.length l) : (convert 22 9 (.slice A l.length c)).run Tryd.prog w = .ok (.string ⟨(u8s l).toArray⟩) w := by
  by_cases hl0 : l = []
  · subst hl0
    show (convert 22 9 (.slice A 0 c)).run Tryd.prog w = .ok (.string ByteArray.empty) w
    rw [run_convert_bytes_string w 22 9 5 A 0 c Tryd.underlying22 Tryd.underlying5 Tryd.underlying9]
    cases A <;> simp [Conv.bytesToString, loadCells]
    all_goals rfl
  · obtain ⟨ad, rfl, _⟩ := (Kd.reads_of_C (enc := Value.int .u8) (d := (0 : Int)) (h1 := fun _ => rfl) h).at_ 0 (by omega) (by have := List.length_pos_iff.mpr hl0; omega)
    have hl : l.length = (u8s l).length := by simp [u8s]
    rw [hl]
    refine run_convert_bytes_back w 22 9 5 ad c (u8s l) Tryd.underlying22 Tryd.underlying5 Tryd.underlying9 fun j hj => ?_
    obtain ⟨ad', ha', hc⟩ := (Kd.reads_of_C (enc := Value.int .u8) (d := (0 : Int)) (h1 := fun _ => rfl) h).at_ (j : Int) (by omega) (by omega)
    injection ha' with ha'
    subst ha'
    simp only [Int.toNat_natCast] at hc
    rw [hc]
    have hj' : j < l.length := by omega
    have hx := hb l[j] (List.getElem_mem hj')
    simp only [rdOf, Int.toNat_natCast, u8s, List.getElem_map, List.getD, List.getElem?_eq_getElem hj', Option.getD_some]
    rw [UInt8.toNat_ofNat', show ((l[j].toNat % 2 ^ 8 : Nat) : Int) = l[j] by omega]
set_option maxHeartbeats 2000000 in
/-- same: the octets wanted, without spare capacity, and no error. -/
theorem same_gen (A1 A2 : Option Addr) (n1 c1 n2 c2 : Nat) (a f : Int) (x y : ByteArray) (r : Bool) (w : World)
    (h1 : ∀ W, W = w → (convert 22 9 (.slice A1 n1 c1)).run Tryd.prog W = .ok (.string x) W) (h2 : ∀ W, W = w → (convert 22 9 (.slice A2 n2 c2)).run Tryd.prog W = .ok (.string y) W)
    (hr : ((a == f) && ((x.toList == y.toList) && ((c1 : Int) == (n1 : Int)))) = r) :
    Calls Tryd.prog 12 #[.slice A1 n1 c1, .int .i64 a, .slice A2 n2 c2, .int .i64 f] w fun e w' => e = .returned (.bool r) ∧ w' = w := by
  have k1 := h1 w rfl
  have k2 := h2 w rfl
  clear h1 h2
  by_cases ha : a = f
  · have hab : (a == f) = true := by simpa using ha
    by_cases hx : (x.toList == y.toList) = true
    · by_cases hc : ((c1 : Int) == (n1 : Int)) = true
      · rw [hab, hx, hc] at hr
        subst hr
        go_enter Tryd.func12, Tryd.ntmps12
        go_wp2
        go_ret
        exact ⟨rfl, rfl⟩
      · have hc' : ((c1 : Int) == (n1 : Int)) = false := by simpa using hc
        rw [hab, hx, hc'] at hr
        subst hr
        go_enter Tryd.func12, Tryd.ntmps12
        go_wp2
        go_ret
        exact ⟨rfl, rfl⟩
    · have hx' : (x.toList == y.toList) = false := by simpa using hx
      rw [hab, hx'] at hr
      subst hr
      go_enter Tryd.func12, Tryd.ntmps12
      go_wp2
      go_ret
      exact ⟨rfl, rfl⟩
  · have hab : (a == f) = false := by simpa using ha
    rw [hab] at hr
    subst hr
    go_enter Tryd.func12, Tryd.ntmps12
    go_wp2
    go_ret
    exact ⟨rfl, rfl⟩
theorem same_yes (l : List Int) (g k c : Nat) (w : World) (hb : Byt l) (h1 : Octs w g l) (h2 : Octs w k l) :
    Calls Tryd.prog 12 #[.slice (some ⟨g, 0, none⟩) l.length l.length, .int .i64 0, .slice (some ⟨k, 0, none⟩) l.length c, .int .i64 0] w fun e w' => e = .returned (.bool true) ∧ Below w.heap.size w w' :=
  (same_gen _ _ _ _ _ _ 0 0 ⟨(u8s l).toArray⟩ ⟨(u8s l).toArray⟩ true w (fun W hW => by subst hW; exact conv_any hb h1) (fun W hW => by subst hW; exact conv_any hb h2) (by simp)).mono fun e w' ⟨h, hw⟩ => ⟨h, by subst hw; exact Below.refl _ _⟩
theorem same_arg (l : List Int) (g : Nat) (A : Option Addr) (c : Nat) (w : World) (hb : Byt l) (h1 : Octs w g l) (h2 : Kd.C (Kd.int .u8) w A l.length l) :
    Calls Tryd.prog 12 #[.slice (some ⟨g, 0, none⟩) l.length l.length, .int .i64 0, .slice A l.length c, .int .i64 0] w fun e w' => e = .returned (.bool true) ∧ Below w.heap.size w w' :=
  (same_gen _ _ _ _ _ _ 0 0 ⟨(u8s l).toArray⟩ ⟨(u8s l).toArray⟩ true w (fun W hW => by subst hW; exact conv_any hb h1) (fun W hW => by subst hW; exact conv_arg hb h2) (by simp)).mono fun e w' ⟨h, hw⟩ => ⟨h, by subst hw; exact Below.refl _ _⟩
end Go.Proofs.YtacpcagijfacnaaDoor
