/- Chapter 10 (times): the contracts of Text, before, Seconds. -/
import Derived.Test.YtbncjjobdipmgaaDoorWd
import Derived.Deep.RegionHeld3
namespace Go.Proofs.YtbncjjobdipmgaaDoor
open Go.RowKit Pl

/-- What a walk carries: since w nothing that was there has turned; the tables stand. -/
structure St (w w1 : World) : Prop where
  b : Below w.heap.size w w1
  t : Tabs w1
theorem St.refl {w : World} (h : Tabs w) : St w w := ⟨Below.refl _ _, h⟩
theorem St.next {w w1 w2 : World} (h : St w w1) (hb : Below w1.heap.size w1 w2) : St w w2 := ⟨h.b.trans (hb.mono h.b.size), h.t.below hb⟩
theorem St.alloc {w w1 : World} (h : St w w1) (o : Obj) : St w (w1.alloc o) := h.next ((Below.refl _ _).alloc (Nat.le_refl _) o)
theorem St.drew {w w1 : World} (h : St w w1) : St w w1.drew := h.next ((Below.refl _ _).drew)
theorem St.drewN {w w1 : World} (h : St w w1) (n : Nat) : St w (w1.drewN n) := h.next (below_drewN (Below.refl _ _) n)
theorem St.setCell {w w1 : World} (h : St w w1) {p : Addr} (hp : w.heap.size ≤ p.block) (hp' : 1 < w.heap.size) (u : Value) : St w (w1.setCell p u) := by
  have hb : Below w.heap.size w1 (w1.setCell p u) := (Below.refl _ _).setCell hp u
  refine ⟨h.b.trans hb, ?_⟩
  refine ⟨fun k hk => ?_, ?_⟩
  · rw [← h.t.lens k hk]; exact hb.cell (p := ⟨0, k, none⟩) (by show 0 < _; omega)
  · have hp := h.t.pow
    unfold Lib.TabIs World.var? at *
    rw [gPow] at *
    simpa [hb.block 1 hp'] using hp
theorem Tabs.two {w : World} (h : Tabs w) : 1 < w.heap.size := by
  have hp := h.pow
  unfold Lib.TabIs World.var? at hp
  rw [gPow] at hp
  rcases Nat.lt_or_ge 1 w.heap.size with h0 | h1
  · exact h0
  · simp [h1] at hp

/-- A number in digits. -/
def dg (many : Nat) (n : Int) : List UInt8 := pad many (Lib.itoa n)
theorem dg_any (n : Int) (many : Nat) (hm : many ≤ 20) (h0 : 0 ≤ n) (h1 : n ≤ 9999) (w : World) (hT : Tabs w) :
    Calls Tryd.prog 32 #[.int .i64 n, .int .i64 many] w fun e w' => e = .returned (.string ⟨(dg many n).toArray⟩) ∧ Below w.heap.size w w' := digits_any n many hm h0 h1 w hT
theorem dg_len (many : Nat) (n : Int) (h0 : 0 ≤ n) (h1 : n ≤ 9999) : (dg many n).length ≤ many + 21 := by
  have := Lib.itoa_length_le n (by omega) (by omega)
  unfold dg pad
  simp; omega

/-- A time's six cells at block g. -/
theorem six_next {g : Nat} {y mo d h mi s : Int} {w w1 w2 : World} (hg : g < w1.heap.size)
    (H : w1.cell? ⟨g, 0, none⟩ = some (.int .i64 y) ∧ w1.cell? ⟨g, 1, none⟩ = some (.int .i64 mo) ∧ w1.cell? ⟨g, 2, none⟩ = some (.int .i64 d) ∧ w1.cell? ⟨g, 3, none⟩ = some (.int .i64 h) ∧ w1.cell? ⟨g, 4, none⟩ = some (.int .i64 mi) ∧ w1.cell? ⟨g, 5, none⟩ = some (.int .i64 s) ∧ St w w1)
    (hb : Below w1.heap.size w1 w2) :
    w2.cell? ⟨g, 0, none⟩ = some (.int .i64 y) ∧ w2.cell? ⟨g, 1, none⟩ = some (.int .i64 mo) ∧ w2.cell? ⟨g, 2, none⟩ = some (.int .i64 d) ∧ w2.cell? ⟨g, 3, none⟩ = some (.int .i64 h) ∧ w2.cell? ⟨g, 4, none⟩ = some (.int .i64 mi) ∧ w2.cell? ⟨g, 5, none⟩ = some (.int .i64 s) ∧ St w w2 := by
  obtain ⟨a0, a1, a2, a3, a4, a5, a6⟩ := H
  refine ⟨?_, ?_, ?_, ?_, ?_, ?_, a6.next hb⟩
  · rw [← a0]; exact hb.cell (p := ⟨g, 0, none⟩) hg
  · rw [← a1]; exact hb.cell (p := ⟨g, 1, none⟩) hg
  · rw [← a2]; exact hb.cell (p := ⟨g, 2, none⟩) hg
  · rw [← a3]; exact hb.cell (p := ⟨g, 3, none⟩) hg
  · rw [← a4]; exact hb.cell (p := ⟨g, 4, none⟩) hg
  · rw [← a5]; exact hb.cell (p := ⟨g, 5, none⟩) hg
theorem cell_lt {w : World} {g o : Nat} {v : Value} (h : w.cell? ⟨g, o, none⟩ = some v) : g < w.heap.size := World.block_lt_of_cell? w _ h
theorem six_new {y mo d h mi s : Int} {w w1 : World} (hb : Below (w.alloc (.cells #[.int .i64 y, .int .i64 mo, .int .i64 d, .int .i64 h, .int .i64 mi, .int .i64 s] 23)).heap.size (w.alloc (.cells #[.int .i64 y, .int .i64 mo, .int .i64 d, .int .i64 h, .int .i64 mi, .int .i64 s] 23)) w1) (hT : Tabs w) :
    w1.cell? ⟨w.heap.size, 0, none⟩ = some (.int .i64 y) ∧ w1.cell? ⟨w.heap.size, 1, none⟩ = some (.int .i64 mo) ∧ w1.cell? ⟨w.heap.size, 2, none⟩ = some (.int .i64 d) ∧ w1.cell? ⟨w.heap.size, 3, none⟩ = some (.int .i64 h) ∧ w1.cell? ⟨w.heap.size, 4, none⟩ = some (.int .i64 mi) ∧ w1.cell? ⟨w.heap.size, 5, none⟩ = some (.int .i64 s) ∧ St w w1 :=
  six_next (by simp) ⟨by simp, by simp, by simp, by simp, by simp, by simp, (St.refl hT).alloc _⟩ hb

set_option maxHeartbeats 1000000 in
theorem text_gen (y mo d h mi s : Int) (q0 q1 q2 q3 q4 q5 s1 s2 s3 s4 s5 s6 s7 s8 s9 s10 s11 : ByteArray) (w : World) (hT : Tabs w)
    (H : Hid (∀ w, Tabs w → Calls Tryd.prog 15 #[.agg #[.int .i64 y, .int .i64 mo, .int .i64 d, .int .i64 h, .int .i64 mi, .int .i64 s]] w fun e w' => e = .returned (.int .i64 0) ∧ Below w.heap.size w w'))
    (D0 : Hid (∀ w, Tabs w → Calls Tryd.prog 32 #[.int .i64 y, .int .i64 4] w fun e w' => e = .returned (.string q0) ∧ Below w.heap.size w w'))
    (D1 : Hid (∀ w, Tabs w → Calls Tryd.prog 32 #[.int .i64 mo, .int .i64 2] w fun e w' => e = .returned (.string q1) ∧ Below w.heap.size w w'))
    (D2 : Hid (∀ w, Tabs w → Calls Tryd.prog 32 #[.int .i64 d, .int .i64 2] w fun e w' => e = .returned (.string q2) ∧ Below w.heap.size w w'))
    (D3 : Hid (∀ w, Tabs w → Calls Tryd.prog 32 #[.int .i64 h, .int .i64 2] w fun e w' => e = .returned (.string q3) ∧ Below w.heap.size w w'))
    (D4 : Hid (∀ w, Tabs w → Calls Tryd.prog 32 #[.int .i64 mi, .int .i64 2] w fun e w' => e = .returned (.string q4) ∧ Below w.heap.size w w'))
    (D5 : Hid (∀ w, Tabs w → Calls Tryd.prog 32 #[.int .i64 s, .int .i64 2] w fun e w' => e = .returned (.string q5) ∧ Below w.heap.size w w'))
    (c1 : ∀ W : World, (Op.stringOp .add q0 ⟨#[45]⟩).run Tryd.prog W = .ok (.string s1) W)
    (c2 : ∀ W : World, (Op.stringOp .add s1 q1).run Tryd.prog W = .ok (.string s2) W)
    (c3 : ∀ W : World, (Op.stringOp .add s2 ⟨#[45]⟩).run Tryd.prog W = .ok (.string s3) W)
    (c4 : ∀ W : World, (Op.stringOp .add s3 q2).run Tryd.prog W = .ok (.string s4) W)
    (c5 : ∀ W : World, (Op.stringOp .add s4 ⟨#[84]⟩).run Tryd.prog W = .ok (.string s5) W)
    (c6 : ∀ W : World, (Op.stringOp .add s5 q3).run Tryd.prog W = .ok (.string s6) W)
    (c7 : ∀ W : World, (Op.stringOp .add s6 ⟨#[58]⟩).run Tryd.prog W = .ok (.string s7) W)
    (c8 : ∀ W : World, (Op.stringOp .add s7 q4).run Tryd.prog W = .ok (.string s8) W)
    (c9 : ∀ W : World, (Op.stringOp .add s8 ⟨#[58]⟩).run Tryd.prog W = .ok (.string s9) W)
    (c10 : ∀ W : World, (Op.stringOp .add s9 q5).run Tryd.prog W = .ok (.string s10) W)
    (c11 : ∀ W : World, (Op.stringOp .add s10 ⟨#[90]⟩).run Tryd.prog W = .ok (.string s11) W) :
    Calls Tryd.prog 19 #[.agg #[.int .i64 y, .int .i64 mo, .int .i64 d, .int .i64 h, .int .i64 mi, .int .i64 s]] w fun e w' => e = .returned (.string s11) ∧ Below w.heap.size w w' := by
  go_enter Tryd.func19, Tryd.ntmps19
  go_wp2_with (go_at_call 15; refine (H.out _ (hT.alloc _)).mono ?_; rintro e w' ⟨rfl, hb⟩; have h6 := six_new hb hT)
  go_region_held3 (fun W => W.cell? ⟨w.heap.size, 0, none⟩ = some (.int .i64 y) ∧ W.cell? ⟨w.heap.size, 1, none⟩ = some (.int .i64 mo) ∧ W.cell? ⟨w.heap.size, 2, none⟩ = some (.int .i64 d) ∧ W.cell? ⟨w.heap.size, 3, none⟩ = some (.int .i64 h) ∧ W.cell? ⟨w.heap.size, 4, none⟩ = some (.int .i64 mi) ∧ W.cell? ⟨w.heap.size, 5, none⟩ = some (.int .i64 s) ∧ St w W)
    (first | assumption | exact six_next (cell_lt (And.left (by assumption))) (by assumption) (by assumption) | exact six_next (cell_lt h6.1) h6 ((Below.refl _ _).drew))
    (first | (go_at_call 32; ((with_reducible refine (D0.out _ (St.t (w := w) (And.right (And.right (And.right (And.right (And.right (And.right (by assumption))))))))).mono ?_); rintro e w' ⟨rfl, hb⟩)) | (go_at_call 32; ((with_reducible refine (D1.out _ (St.t (w := w) (And.right (And.right (And.right (And.right (And.right (And.right (by assumption))))))))).mono ?_); rintro e w' ⟨rfl, hb⟩)) | (go_at_call 32; ((with_reducible refine (D2.out _ (St.t (w := w) (And.right (And.right (And.right (And.right (And.right (And.right (by assumption))))))))).mono ?_); rintro e w' ⟨rfl, hb⟩)) | (go_at_call 32; ((with_reducible refine (D3.out _ (St.t (w := w) (And.right (And.right (And.right (And.right (And.right (And.right (by assumption))))))))).mono ?_); rintro e w' ⟨rfl, hb⟩)) | (go_at_call 32; ((with_reducible refine (D4.out _ (St.t (w := w) (And.right (And.right (And.right (And.right (And.right (And.right (by assumption))))))))).mono ?_); rintro e w' ⟨rfl, hb⟩)) | (go_at_call 32; ((with_reducible refine (D5.out _ (St.t (w := w) (And.right (And.right (And.right (And.right (And.right (And.right (by assumption))))))))).mono ?_); rintro e w' ⟨rfl, hb⟩)))
  go_wp2
  go_ret
  exact ⟨rfl, St.b (w := w) (And.right (And.right (And.right (And.right (And.right (And.right (by assumption)))))))⟩

theorem cat_run (a b c : ByteArray) (h : a.size + b.size ≤ 1000000) (hc : a ++ b = c) (W : World) : (Op.stringOp .add a b).run Tryd.prog W = .ok (.string c) W := by
  rw [← hc]; exact run_string_add_sum W a b (by omega)

def textL (y mo d h mi s : Int) : List UInt8 := dg 4 y ++ [45] ++ dg 2 mo ++ [45] ++ dg 2 d ++ [84] ++ dg 2 h ++ [58] ++ dg 2 mi ++ [58] ++ dg 2 s ++ [90]

theorem okB_bounds {y mo d h mi s : Int} (hk : okB y mo d h mi s = true) : 0 ≤ y ∧ y ≤ 9999 ∧ 1 ≤ mo ∧ mo ≤ 12 ∧ 1 ≤ d ∧ d ≤ dim y mo ∧ d ≤ 31 ∧ 0 ≤ h ∧ h ≤ 23 ∧ 0 ≤ mi ∧ mi ≤ 59 ∧ 0 ≤ s ∧ s ≤ 59 := by
  unfold okB at hk
  have hk := of_decide_eq_true hk
  have := dim_le y mo
  have hm : 1 ≤ mo ∧ mo ≤ 12 := by
    by_cases hc : mo < 1 ∨ 12 < mo
    · have : dim y mo = 0 := by unfold dim; rw [if_pos hc]
      omega
    · omega
  omega
theorem check_ok {y mo d h mi s : Int} (hk : okB y mo d h mi s = true) (w : World) (hT : Tabs w) : Calls Tryd.prog 15 #[.agg #[.int .i64 y, .int .i64 mo, .int .i64 d, .int .i64 h, .int .i64 mi, .int .i64 s]] w fun e w' => e = .returned (.int .i64 0) ∧ Below w.heap.size w w' := by
  have := check_any y mo d h mi s w hT
  unfold chk at this
  rwa [if_pos hk] at this
theorem check_no {y mo d h mi s : Int} (hk : okB y mo d h mi s = false) (w : World) (hT : Tabs w) : Calls Tryd.prog 15 #[.agg #[.int .i64 y, .int .i64 mo, .int .i64 d, .int .i64 h, .int .i64 mi, .int .i64 s]] w fun e w' => e = .returned (.int .i64 1) ∧ Below w.heap.size w w' := by
  have := check_any y mo d h mi s w hT
  unfold chk at this
  rwa [if_neg (by simp [hk])] at this

theorem text_ok (y mo d h mi s : Int) (w : World) (hT : Tabs w) (hk : okB y mo d h mi s = true) :
    Calls Tryd.prog 19 #[.agg #[.int .i64 y, .int .i64 mo, .int .i64 d, .int .i64 h, .int .i64 mi, .int .i64 s]] w fun e w' => e = .returned (.string ⟨(textL y mo d h mi s).toArray⟩) ∧ Below w.heap.size w w' := by
  obtain ⟨b0, b1, b2, b3, b4, _, b5, b6, b7, b8, b9, b10, b11⟩ := okB_bounds hk
  have l0 := dg_len 4 y b0 b1
  have l1 := dg_len 2 mo (by omega) (by omega)
  have l2 := dg_len 2 d (by omega) (by omega)
  have l3 := dg_len 2 h b6 (by omega)
  have l4 := dg_len 2 mi b8 (by omega)
  have l5 := dg_len 2 s b10 (by omega)
  refine text_gen y mo d h mi s ⟨(dg 4 y).toArray⟩ ⟨(dg 2 mo).toArray⟩ ⟨(dg 2 d).toArray⟩ ⟨(dg 2 h).toArray⟩ ⟨(dg 2 mi).toArray⟩ ⟨(dg 2 s).toArray⟩
    ⟨(dg 4 y ++ [45]).toArray⟩ ⟨(dg 4 y ++ [45] ++ dg 2 mo).toArray⟩ ⟨(dg 4 y ++ [45] ++ dg 2 mo ++ [45]).toArray⟩ ⟨(dg 4 y ++ [45] ++ dg 2 mo ++ [45] ++ dg 2 d).toArray⟩ ⟨(dg 4 y ++ [45] ++ dg 2 mo ++ [45] ++ dg 2 d ++ [84]).toArray⟩
    ⟨(dg 4 y ++ [45] ++ dg 2 mo ++ [45] ++ dg 2 d ++ [84] ++ dg 2 h).toArray⟩ ⟨(dg 4 y ++ [45] ++ dg 2 mo ++ [45] ++ dg 2 d ++ [84] ++ dg 2 h ++ [58]).toArray⟩ ⟨(dg 4 y ++ [45] ++ dg 2 mo ++ [45] ++ dg 2 d ++ [84] ++ dg 2 h ++ [58] ++ dg 2 mi).toArray⟩
    ⟨(dg 4 y ++ [45] ++ dg 2 mo ++ [45] ++ dg 2 d ++ [84] ++ dg 2 h ++ [58] ++ dg 2 mi ++ [58]).toArray⟩ ⟨(dg 4 y ++ [45] ++ dg 2 mo ++ [45] ++ dg 2 d ++ [84] ++ dg 2 h ++ [58] ++ dg 2 mi ++ [58] ++ dg 2 s).toArray⟩ ⟨(textL y mo d h mi s).toArray⟩ w hT
    (fun w hT => check_ok hk w hT) (fun w hT => dg_any y 4 (by omega) b0 b1 w hT) (fun w hT => dg_any mo 2 (by omega) (by omega) (by omega) w hT) (fun w hT => dg_any d 2 (by omega) (by omega) (by omega) w hT)
    (fun w hT => dg_any h 2 (by omega) (by omega) (by omega) w hT) (fun w hT => dg_any mi 2 (by omega) (by omega) (by omega) w hT) (fun w hT => dg_any s 2 (by omega) (by omega) (by omega) w hT) ?_ ?_ ?_ ?_ ?_ ?_ ?_ ?_ ?_ ?_ ?_
  · exact cat_run _ _ _ (by simp only [bytes_size]; simp; omega) (bytes_cat (dg 4 y) [45])
  · exact cat_run _ _ _ (by simp only [bytes_size, List.length_append, List.length_cons, List.length_nil]; omega) (bytes_cat _ _)
  · exact cat_run _ _ _ (by simp only [bytes_size, List.length_append, List.length_cons, List.length_nil]; simp; omega) (bytes_cat _ [45])
  · exact cat_run _ _ _ (by simp only [bytes_size, List.length_append, List.length_cons, List.length_nil]; omega) (bytes_cat _ _)
  · exact cat_run _ _ _ (by simp only [bytes_size, List.length_append, List.length_cons, List.length_nil]; simp; omega) (bytes_cat _ [84])
  · exact cat_run _ _ _ (by simp only [bytes_size, List.length_append, List.length_cons, List.length_nil]; omega) (bytes_cat _ _)
  · exact cat_run _ _ _ (by simp only [bytes_size, List.length_append, List.length_cons, List.length_nil]; simp; omega) (bytes_cat _ [58])
  · exact cat_run _ _ _ (by simp only [bytes_size, List.length_append, List.length_cons, List.length_nil]; omega) (bytes_cat _ _)
  · exact cat_run _ _ _ (by simp only [bytes_size, List.length_append, List.length_cons, List.length_nil]; simp; omega) (bytes_cat _ [58])
  · exact cat_run _ _ _ (by simp only [bytes_size, List.length_append, List.length_cons, List.length_nil]; omega) (bytes_cat _ _)
  · exact cat_run _ _ _ (by simp only [bytes_size, List.length_append, List.length_cons, List.length_nil]; simp; omega) (bytes_cat _ [90])

theorem text_no (y mo d h mi s : Int) (w : World) (hT : Tabs w) (hk : okB y mo d h mi s = false) :
    Calls Tryd.prog 19 #[.agg #[.int .i64 y, .int .i64 mo, .int .i64 d, .int .i64 h, .int .i64 mi, .int .i64 s]] w fun e w' => e = .returned (.string ⟨#[63]⟩) ∧ Below w.heap.size w w' := by
  have H : Hid (∀ w, Tabs w → Calls Tryd.prog 15 #[.agg #[.int .i64 y, .int .i64 mo, .int .i64 d, .int .i64 h, .int .i64 mi, .int .i64 s]] w fun e w' => e = .returned (.int .i64 1) ∧ Below w.heap.size w w') := fun w hT => check_no hk w hT
  clear hk
  have hS := (St.refl hT).alloc (.cells #[.int .i64 y, .int .i64 mo, .int .i64 d, .int .i64 h, .int .i64 mi, .int .i64 s] 23)
  go_enter Tryd.func19, Tryd.ntmps19
  go_wp2_with (go_at_call 15; refine (H.out _ (hT.alloc _)).mono ?_; rintro e w' ⟨rfl, hb⟩; have hS' := hS.next hb)
  go_ret
  exact ⟨rfl, St.b (w := w) (by assumption)⟩

/-- before: the days before a year. -/
theorem before_any (y : Int) (h0 : 0 ≤ y) (h1 : y ≤ 10000) (w : World) : Calls Tryd.prog 34 #[.int .i64 y] w fun e w' => e = .returned (.int .i64 (dby y)) ∧ w' = w := by
  by_cases hz : y = 0
  · subst hz
    go_enter Tryd.func34, Tryd.ntmps34
    go_wp2
    go_ret
    exact ⟨rfl, rfl⟩
  · have hy : (y == 0) = false := by simpa using hz
    have hd : dby y = 365 * y + (y - 1) / 4 - (y - 1) / 100 + (y - 1) / 400 + 1 := by unfold dby; rw [if_neg hz]
    have HD := Lib.hid hd
    clear hd hz
    have h2 : 1 ≤ y := by simp at hy; omega
    go_enter Tryd.func34, Tryd.ntmps34
    go_wp2
    go_ret
    exact ⟨ret_int (by rw [HD.out]), rfl⟩
end Go.Proofs.YtbncjjobdipmgaaDoor
