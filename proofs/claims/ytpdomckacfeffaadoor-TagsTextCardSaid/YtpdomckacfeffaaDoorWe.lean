/- Chapter 2 (tags): the contract of Parse. -/
import Derived.Test.YtpdomckacfeffaaDoorWd
import Derived.WalkSpells
namespace Go.Proofs.YtpdomckacfeffaaDoor
open Go.RowKit Go.Shelf
open Go.Proofs.YtpdomckacfeffaaDoorW.PrintWords (blk_new blk_below blk_cell blk_alloc blk_lt blk_frozen blk_drew blk_set)

theorem ret17 {R : Nat} {a0 a1 a2 : Value} {err : Int} {tmps : Array Value} {w : World} (hp : tmps.getD 2 undef = .pointer (some ⟨R, 0, none⟩)) (he : tmps.getD 3 undef = .int .i64 err)
    (hR : w.heap[R]? = some (.cells #[a0, a1, a2] 27 (0, 0))) : (results Tryd.f17 tmps).run Tryd.prog w = .ok (.tuple #[.agg #[a0, a1, a2], .int .i64 err]) w := by
  obtain ⟨c0, c1, c2⟩ := three hR
  rw [results_cell_tmp (p := 2) (u := 3) (ty := 27) Tryd.results17, hp, he]
  simp [go_sem, c0, c1, c2]
def TagV (cl : Int) (co : Bool) (nu : Int) : Value := .agg #[.int .u8 cl, .bool co, .int .u32 nu]
/-- The result's block in a world that has grown out of w. -/
def PrS (w W : World) : Prop := St w W ∧ W.heap[w.heap.size]? = some (.cells #[.int .u8 0, .bool false, .int .u32 0] 27 (0, 0))
theorem PrS.next {w W W' : World} (h : PrS w W) (hb : Below W.heap.size W W') : PrS w W' := ⟨h.1.next hb, blk_below h.2 hb⟩
theorem PrS.drewN {w W : World} (h : PrS w W) (n : Nat) : PrS w (W.drewN n) := h.next (below_drewN (Below.refl _ _) n)
theorem set3 {w : World} {g : Nat} {b0 b1 b2 : Value} {t : TypeId} (h : w.heap[g]? = some (.cells #[b0, b1, b2] t (0, 0))) (a0 a1 a2 : Value) :
    (((w.setCell ⟨g, 0, none⟩ a0).setCell ⟨g, 1, none⟩ a1).setCell ⟨g, 2, none⟩ a2).heap[g]? = some (.cells #[a0, a1, a2] t (0, 0)) := blk_set (blk_set (blk_set h 0 a0) 1 a1) 2 a2
theorem set3_st {w wr : World} (h : St w wr) (h5 : 4 < w.heap.size) (a0 a1 a2 : Value) :
    St w (((wr.setCell ⟨w.heap.size, 0, none⟩ a0).setCell ⟨w.heap.size, 1, none⟩ a1).setCell ⟨w.heap.size, 2, none⟩ a2) :=
  ((h.set h5 (p := ⟨w.heap.size, 0, none⟩) (Nat.le_refl _) a0).set h5 (p := ⟨w.heap.size, 1, none⟩) (Nat.le_refl _) a1).set h5 (p := ⟨w.heap.size, 2, none⟩) (Nat.le_refl _) a2

set_option maxHeartbeats 8000000 in
theorem parse_gen (sb s1 cs dg it : ByteArray) (con fnd : Bool) (k n r o0 o2 err : Int) (o1 : Bool) (w : World) (hT : Tabs w)
    (H29 : Hid (∀ w, Calls Tryd.prog 29 #[.string sb, .string ⟨#[32, 99, 111, 110, 115, 116, 114, 117, 99, 116, 101, 100]⟩] w fun e w' => e = .returned (.tuple #[.string s1, .bool con]) ∧ w' = w))
    (H30 : Hid (∀ w, Tabs w → Calls Tryd.prog 30 #[.string s1, .string ⟨#[32]⟩] w fun e w' => e = .returned (.tuple #[.string cs, .string dg, .bool fnd]) ∧ ∃ m, w' = w.drewN m))
    (H31 : Hid (∀ w, Tabs w → Calls Tryd.prog 31 #[.slice (some ⟨0, 0, none⟩) 4 4, .string cs] w fun e w' => e = .returned (.int .i64 k) ∧ w' = w))
    (HC : Hid ((k < 0 ∧ err = 6 ∧ o0 = 0 ∧ o1 = false ∧ o2 = 0 ∧ (∀ w, Tabs w → Calls Tryd.prog 32 #[.string dg] w fun e w' => ∃ ev, e = .returned (.tuple #[.int .i64 n, ev]) ∧ Below w.heap.size w w')) ∨
      (0 ≤ k ∧ err = 6 ∧ o0 = 0 ∧ o1 = false ∧ o2 = 0 ∧ (∀ w, Tabs w → Calls Tryd.prog 32 #[.string dg] w fun e w' => ∃ N, e = .returned (.tuple #[.int .i64 n, .iface 93 (.pointer (some ⟨N, 0, none⟩))]) ∧ Below w.heap.size w w')) ∨
      (0 ≤ k ∧ k < 4 ∧ (∀ w, Tabs w → Calls Tryd.prog 32 #[.string dg] w fun e w' => e = .returned (.tuple #[.int .i64 n, .nilIface]) ∧ Below w.heap.size w w') ∧
        ((n < 0 ∧ err = 6 ∧ o0 = 0 ∧ o1 = false ∧ o2 = 0) ∨ (268435455 < n ∧ err = 6 ∧ o0 = 0 ∧ o1 = false ∧ o2 = 0) ∨
          (0 ≤ n ∧ n ≤ 268435455 ∧ (∀ w, Tabs w → Calls Tryd.prog 28 #[.int .i64 n] w fun e w' => e = .returned (.string it) ∧ Below w.heap.size w w') ∧
            (((it.toList == dg.toList) = false ∧ err = 6 ∧ o0 = 0 ∧ o1 = false ∧ o2 = 0) ∨
              (it = dg ∧ (∀ w, Calls Tryd.prog 21 #[.agg #[.int .u8 k, .bool con, .int .u32 n]] w fun e w' => e = .returned (.int .i64 r) ∧ Below w.heap.size w w') ∧
                (((r == 0) = false ∧ (r != 0) = true ∧ err = r ∧ o0 = 0 ∧ o1 = false ∧ o2 = 0) ∨ (r = 0 ∧ err = 0 ∧ o0 = k ∧ o1 = con ∧ o2 = n))))))))) :
    Calls Tryd.prog 17 #[.string sb] w fun e w' => e = .returned (.tuple #[.agg #[.int .u8 o0, .bool o1, .int .u32 o2], .int .i64 err]) ∧ Below w.heap.size w w' := by
  have P0 : Hid (PrS w (w.alloc (.cells #[.int .u8 0, .bool false, .int .u32 0] 27))) := ⟨(St.refl hT).alloc _, blk_new _ _⟩
  go_enter Tryd.func17, Tryd.ntmps17
  go_wp2_with (first
    | (go_at_call 29; refine (H29.out _).mono ?_; rintro e w1 ⟨rfl, rfl⟩)
    | (go_at_call 30; refine (H30.out _ P0.out.1.t).mono ?_; rintro e w1 ⟨rfl, dn, rfl⟩; have P1 := Lib.hid (P0.out.drewN dn); clear P0)
    | (go_at_call 31; refine (H31.out _ P1.out.1.t).mono ?_; rintro e w1 ⟨rfl, rfl⟩))
  rcases HC.out with ⟨hk, rfl, rfl, rfl, rfl, H32⟩ | ⟨hk, rfl, rfl, rfl, rfl, H32⟩ | ⟨hk, hk4, H32, hC⟩
  · refine (H32 _ P1.out.1.t).mono ?_
    rintro e w1 ⟨ev, rfl, hb⟩
    have P2 := Lib.hid (P1.out.next hb)
    clear hb H32
    obtain ⟨x0, x1, x2⟩ := three P2.out.2
    obtain ⟨f0, f1, f2⟩ := free3 P2.out.2
    go_wp2
    exact bodyPost_ret (ret17 rfl rfl (set3 P2.out.2 _ _ _)) rfl ⟨rfl, (set3_st P2.out.1 hT.five _ _ _).b⟩
  · refine (H32 _ P1.out.1.t).mono ?_
    rintro e w1 ⟨N, rfl, hb⟩
    have P2 := Lib.hid (P1.out.next hb)
    clear hb H32
    obtain ⟨x0, x1, x2⟩ := three P2.out.2
    obtain ⟨f0, f1, f2⟩ := free3 P2.out.2
    have hk' : ¬ k < 0 := by omega
    go_wp2
    exact bodyPost_ret (ret17 rfl rfl (set3 P2.out.2 _ _ _)) rfl ⟨rfl, (set3_st P2.out.1 hT.five _ _ _).b⟩
  · refine (H32 _ P1.out.1.t).mono ?_
    rintro e w1 ⟨rfl, hb⟩
    have P2 := Lib.hid (P1.out.next hb)
    clear hb H32
    have hk' : ¬ k < 0 := by omega
    rcases hC with ⟨hn, rfl, rfl, rfl, rfl⟩ | ⟨hn, rfl, rfl, rfl, rfl⟩ | ⟨hn, hn', H28, hC⟩
    · obtain ⟨x0, x1, x2⟩ := three P2.out.2
      obtain ⟨f0, f1, f2⟩ := free3 P2.out.2
      go_wp2
      exact bodyPost_ret (ret17 rfl rfl (set3 P2.out.2 _ _ _)) rfl ⟨rfl, (set3_st P2.out.1 hT.five _ _ _).b⟩
    · obtain ⟨x0, x1, x2⟩ := three P2.out.2
      obtain ⟨f0, f1, f2⟩ := free3 P2.out.2
      have hn' : ¬ n < 0 := by omega
      go_wp2
      exact bodyPost_ret (ret17 rfl rfl (set3 P2.out.2 _ _ _)) rfl ⟨rfl, (set3_st P2.out.1 hT.five _ _ _).b⟩
    · have H28' := Lib.hid H28
      have hC' := Lib.hid hC
      clear H28 hC
      have hn1 : ¬ n < 0 := by omega
      have hn2 : ¬ 268435455 < n := by omega
      go_wp2_with fail
      refine (H28'.out _ P2.out.1.t).mono ?_
      rintro e w2 ⟨rfl, hb⟩
      have P3 := Lib.hid (P2.out.next hb)
      clear hb
      rcases hC'.out with ⟨hne, rfl, rfl, rfl, rfl⟩ | ⟨rfl, H21, hr⟩
      · obtain ⟨x0, x1, x2⟩ := three P3.out.2
        obtain ⟨f0, f1, f2⟩ := free3 P3.out.2
        go_wp2
        exact bodyPost_ret (ret17 rfl rfl (set3 P3.out.2 _ _ _)) rfl ⟨rfl, (set3_st P3.out.1 hT.five _ _ _).b⟩
      · have N3 := Lib.hid (blk_new w2 (.cells #[.int .u8 k, .bool con, .int .u32 n] 27))
        have P4 : Hid (PrS w (w2.alloc (.cells #[.int .u8 k, .bool con, .int .u32 n] 27))) := P3.out.next ((Below.refl _ _).alloc (Nat.le_refl _) _)
        go_wp2_with fail
        refine (H21 _).mono ?_
        rintro e w3 ⟨rfl, hb⟩
        have P5 := Lib.hid (P4.out.next hb)
        have hN := blk_below N3.out hb
        obtain ⟨y0, y1, y2⟩ := three hN
        obtain ⟨x0, x1, x2⟩ := three P5.out.2
        obtain ⟨f0, f1, f2⟩ := free3 P5.out.2
        clear hb hN H21
        rcases hr with ⟨hr0, hr1, rfl, rfl, rfl, rfl⟩ | ⟨rfl, rfl, rfl, rfl, rfl⟩
        all_goals
          go_wp2
          exact bodyPost_ret (ret17 rfl rfl (set3 P5.out.2 _ _ _)) rfl ⟨rfl, (set3_st P5.out.1 hT.five _ _ _).b⟩
end Go.Proofs.YtpdomckacfeffaaDoor
