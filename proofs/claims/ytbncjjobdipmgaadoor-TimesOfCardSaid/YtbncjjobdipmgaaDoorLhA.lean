/- Chapter 10 (times): Of and the reference's Of at elements that are no times by their shape. -/
import Derived.Test.YtbncjjobdipmgaaDoorLdA
import Derived.Deep.DeepCutAuto
namespace Go.Proofs.YtbncjjobdipmgaaDoor
open Go.RowKit Pl

def OddTag (cl : Int) (co : Bool) (nu : Int) : Prop := cl ≠ 0 ∨ (cl = 0 ∧ co = true) ∨ (cl = 0 ∧ co = false ∧ nu ≠ 23 ∧ nu ≠ 24)
theorem two_new (w : World) (o1 o2 : Obj) : ((w.alloc o1).alloc o2).heap[w.heap.size + 1]? = some o2 := by
  have := blk_new (w.alloc o1) o2
  simpa using this
set_option maxHeartbeats 4000000 in
theorem of_tag (cl nu : Int) (co : Bool) (n c sn sc : Nat) (a sa : Option Addr) (w : World) (h : Hid (OddTag cl co nu)) :
    Calls Tryd.prog 26 #[.agg #[.int .u8 cl, .bool co, .int .u32 nu, .slice a n c, .slice sa sn sc]] w (TmP Tm.zero 9 w) := by
  rcases h.out with h | ⟨rfl, rfl⟩ | ⟨rfl, rfl, h, h'⟩
  all_goals
    go_enter Tryd.func26, Tryd.ntmps26
    go_wp2
    exact bodyPost_ret (ret26 rfl rfl (two_new _ _ _)) rfl ⟨rfl, ((Below.refl _ _).alloc (Nat.le_refl _) _).alloc (by simp) _⟩
set_option maxHeartbeats 4000000 in
theorem of_sub (nu : Int) (hnu : nu = 23 ∨ nu = 24) (n c sn sc : Nat) (a sa : Option Addr) (w : World) (h : 0 < (sn : Int)) :
    Calls Tryd.prog 26 #[.agg #[.int .u8 0, .bool false, .int .u32 nu, .slice a n c, .slice sa sn sc]] w (TmP Tm.zero 1 w) := by
  rcases hnu with rfl | rfl
  all_goals
    go_enter Tryd.func26, Tryd.ntmps26
    go_wp2
    exact bodyPost_ret (ret26 rfl rfl (two_new _ _ _)) rfl ⟨rfl, ((Below.refl _ _).alloc (Nat.le_refl _) _).alloc (by simp) _⟩

theorem ret27 {R : Nat} {a0 a1 a2 a3 a4 a5 : Value} {err : Int} {tmps : Array Value} {w : World} (hp : tmps.getD 2 undef = .pointer (some ⟨R, 0, none⟩)) (he : tmps.getD 3 undef = .int .i64 err)
    (hR : w.heap[R]? = some (.cells #[a0, a1, a2, a3, a4, a5] 23 (0, 0))) : (results Tryd.f27 tmps).run Tryd.prog w = .ok (.tuple #[.agg #[a0, a1, a2, a3, a4, a5], .int .i64 err]) w := by
  obtain ⟨c0, c1, c2, c3, c4, c5⟩ := six hR
  rw [results_cell_tmp (p := 2) (u := 3) (ty := 23) Tryd.results27, hp, he]
  simp [go_sem, c0, c1, c2, c3, c4, c5]
/-- The element's and the result's block in a world that has grown out of w. -/
def RofS (ce : Array Value) (w W : World) : Prop := St w W ∧ W.heap[w.heap.size]? = some (.cells ce 37 (0, 0)) ∧ W.heap[w.heap.size + 1]? = some (.cells #[.int .i64 0, .int .i64 0, .int .i64 0, .int .i64 0, .int .i64 0, .int .i64 0] 23 (0, 0))
theorem RofS.next {ce : Array Value} {w W W' : World} (h : RofS ce w W) (hb : Below W.heap.size W W') : RofS ce w W' := ⟨h.1.next hb, blk_below h.2.1 hb, blk_below h.2.2 hb⟩
theorem RofS.alloc {ce : Array Value} {w W : World} (h : RofS ce w W) (o : Obj) : RofS ce w (W.alloc o) := h.next ((Below.refl _ _).alloc (Nat.le_refl _) _)
theorem RofS.drew {ce : Array Value} {w W : World} (h : RofS ce w W) : RofS ce w W.drew := h.next ((Below.refl _ _).drew)
theorem RofS.start (w : World) (hT : Tabs w) (ce : Array Value) (o2 o3 : Obj) : RofS ce w ((((w.alloc (.cells ce 37)).alloc (.cells #[.int .i64 0, .int .i64 0, .int .i64 0, .int .i64 0, .int .i64 0, .int .i64 0] 23)).alloc o2).alloc o3) := by
  have h : RofS ce w ((w.alloc (.cells ce 37)).alloc (.cells #[.int .i64 0, .int .i64 0, .int .i64 0, .int .i64 0, .int .i64 0, .int .i64 0] 23)) := ⟨((St.refl hT).alloc _).alloc _, blk_alloc (blk_new _ _) _, two_new _ _ _⟩
  exact (h.alloc _).alloc _
set_option maxHeartbeats 4000000 in
theorem rof_tag (cl nu : Int) (co : Bool) (n c sn sc : Nat) (a sa : Option Addr) (w : World) (hT : Tabs w) (h : Hid (OddTag cl co nu)) :
    Calls Tryd.prog 27 #[.agg #[.int .u8 cl, .bool co, .int .u32 nu, .slice a n c, .slice sa sn sc]] w (TmP Tm.zero 9 w) := by
  have HS := Lib.hid (RofS.start w hT #[.int .u8 cl, .bool co, .int .u32 nu, .slice a n c, .slice sa sn sc] (.cells #[.int .u8 0, .bool false, .int .u32 23] 33) (.cells #[.int .u8 0, .bool false, .int .u32 24] 33))
  rcases h.out with h | ⟨rfl, rfl⟩ | ⟨rfl, rfl, h, h'⟩
  all_goals
    go_enter Tryd.func27, Tryd.ntmps27
    go_wp2
    exact bodyPost_ret (ret27 rfl rfl HS.out.2.2) rfl ⟨rfl, HS.out.1.b⟩
set_option maxHeartbeats 4000000 in
theorem rof_sub (nu : Int) (hnu : nu = 23 ∨ nu = 24) (n c sn sc : Nat) (a sa : Option Addr) (w : World) (hT : Tabs w) (h : 0 < (sn : Int)) :
    Calls Tryd.prog 27 #[.agg #[.int .u8 0, .bool false, .int .u32 nu, .slice a n c, .slice sa sn sc]] w (TmP Tm.zero 1 w) := by
  have HS := Lib.hid (RofS.start w hT #[.int .u8 0, .bool false, .int .u32 nu, .slice a n c, .slice sa sn sc] (.cells #[.int .u8 0, .bool false, .int .u32 23] 33) (.cells #[.int .u8 0, .bool false, .int .u32 24] 33))
  rcases hnu with rfl | rfl
  all_goals
    go_enter Tryd.func27, Tryd.ntmps27
    go_wp2
    exact bodyPost_ret (ret27 rfl rfl HS.out.2.2) rfl ⟨rfl, HS.out.1.b⟩

set_option maxHeartbeats 8000000 in
set_option maxRecDepth 100000 in
theorem rof_gen (B : Bool) (nu n0 n1 n2 n3 n4 n5 r err o0 o1 o2 o3 o4 o5 tg : Int) (L : Nat) (lb sb q0 q1 q2 q3 q4 q5 tx : ByteArray) (a sa : Option Addr) (c sc : Nat) (w : World) (hT : Tabs w) (hlb : lb.size = L) (hL : L ≤ 60)
    (hc : Hid (∀ W : World, Below w.heap.size w W → (convert 34 9 (.slice a L c)).run Tryd.prog W = .ok (.string lb) W))
    (hnu : Hid ((B = false ∧ sb = lb ∧ (nu = 24 ∨ (nu = 23 ∧ ((lb.size : Int) == 13) = false))) ∨
      (B = true ∧ nu = 23 ∧ ((lb.size : Int) == 13) = true ∧ ∃ b0 : UInt8, (∀ W : World, (Instr.index 9 (.string lb) (.int .i64 0)).run Tryd.prog W = .ok (.int .u8 (b0.toNat : Int)) W) ∧ ((decide ((b0.toNat : Int) < 53) = true ∧ sb = (⟨#[50, 48]⟩ : ByteArray) ++ lb) ∨ (decide ((b0.toNat : Int) < 53) = false ∧ sb = (⟨#[49, 57]⟩ : ByteArray) ++ lb)))))
    (HL : Hid (sb.size = 15 → (∀ W : World, (Instr.slice 9 (.string sb) none (some (.int .i64 4)) none).run Tryd.prog W = .ok (.string q0) W) ∧ (∀ W : World, (Instr.slice 9 (.string sb) (some (.int .i64 4)) (some (.int .i64 6)) none).run Tryd.prog W = .ok (.string q1) W) ∧ (∀ W : World, (Instr.slice 9 (.string sb) (some (.int .i64 6)) (some (.int .i64 8)) none).run Tryd.prog W = .ok (.string q2) W) ∧ (∀ W : World, (Instr.slice 9 (.string sb) (some (.int .i64 8)) (some (.int .i64 10)) none).run Tryd.prog W = .ok (.string q3) W) ∧ (∀ W : World, (Instr.slice 9 (.string sb) (some (.int .i64 10)) (some (.int .i64 12)) none).run Tryd.prog W = .ok (.string q4) W) ∧ (∀ W : World, (Instr.slice 9 (.string sb) (some (.int .i64 12)) (some (.int .i64 14)) none).run Tryd.prog W = .ok (.string q5) W)))
    (D0 : Hid (∀ W, Calls Tryd.prog 38 #[.string q0] W fun e w' => e = .returned (.int .i64 n0) ∧ w' = W))
    (D1 : Hid (∀ W, Calls Tryd.prog 38 #[.string q1] W fun e w' => e = .returned (.int .i64 n1) ∧ w' = W))
    (D2 : Hid (∀ W, Calls Tryd.prog 38 #[.string q2] W fun e w' => e = .returned (.int .i64 n2) ∧ w' = W))
    (D3 : Hid (∀ W, Calls Tryd.prog 38 #[.string q3] W fun e w' => e = .returned (.int .i64 n3) ∧ w' = W))
    (D4 : Hid (∀ W, Calls Tryd.prog 38 #[.string q4] W fun e w' => e = .returned (.int .i64 n4) ∧ w' = W))
    (D5 : Hid (∀ W, Calls Tryd.prog 38 #[.string q5] W fun e w' => e = .returned (.int .i64 n5) ∧ w' = W))
    (H14 : Hid (∀ w, Tabs w → Calls Tryd.prog 14 #[.agg #[.int .i64 n0, .int .i64 n1, .int .i64 n2, .int .i64 n3, .int .i64 n4, .int .i64 n5]] w fun e w' => e = .returned (.int .i64 r) ∧ Below w.heap.size w w'))
    (HC : Hid ((((sb.size : Int) == 15) = false ∧ err = 11 ∧ o0 = 0 ∧ o1 = 0 ∧ o2 = 0 ∧ o3 = 0 ∧ o4 = 0 ∧ o5 = 0) ∨ (sb.size = 15 ∧
      ((r = 1 ∧ err = 11 ∧ o0 = 0 ∧ o1 = 0 ∧ o2 = 0 ∧ o3 = 0 ∧ o4 = 0 ∧ o5 = 0) ∨
      (r = 0 ∧ (∀ w, Calls Tryd.prog 21 #[.agg #[.int .i64 n0, .int .i64 n1, .int .i64 n2, .int .i64 n3, .int .i64 n4, .int .i64 n5]] w fun e w' => e = .returned (.tuple #[.int .u32 tg, .string tx]) ∧ Below w.heap.size w w') ∧
        ((tg ≠ nu ∧ err = 11 ∧ o0 = 0 ∧ o1 = 0 ∧ o2 = 0 ∧ o3 = 0 ∧ o4 = 0 ∧ o5 = 0) ∨ (tg = nu ∧ (tx.toList == lb.toList) = false ∧ err = 11 ∧ o0 = 0 ∧ o1 = 0 ∧ o2 = 0 ∧ o3 = 0 ∧ o4 = 0 ∧ o5 = 0) ∨ (tg = nu ∧ tx = lb ∧ err = 0 ∧ o0 = n0 ∧ o1 = n1 ∧ o2 = n2 ∧ o3 = n3 ∧ o4 = n4 ∧ o5 = n5))))))) :
    Calls Tryd.prog 27 #[.agg #[.int .u8 0, .bool false, .int .u32 nu, .slice a L c, .slice sa 0 sc]] w fun e w' => e = .returned (.tuple #[.agg #[.int .i64 o0, .int .i64 o1, .int .i64 o2, .int .i64 o3, .int .i64 o4, .int .i64 o5], .int .i64 err]) ∧ Below w.heap.size w w' := by
  have HS := Lib.hid (RofS.start w hT #[.int .u8 0, .bool false, .int .u32 nu, .slice a L c, .slice sa 0 sc] (.cells #[.int .u8 0, .bool false, .int .u32 23] 33) (.cells #[.int .u8 0, .bool false, .int .u32 24] 33))
  have hcW := hc.out _ HS.out.1.b
  have hlb' := Lib.hid hlb
  clear hlb
  go_enter Tryd.func27, Tryd.ntmps27
  go_upto_region 2 with fail
  go_cut [22] (fun s22 wx => s22 = .bool false ∧ Hid (RofS #[.int .u8 0, .bool false, .int .u32 nu, .slice a L c, .slice sa 0 sc] w wx) ∧ wx.heap[w.heap.size + 1 + 1]? = some (.cells #[.int .u8 0, .bool false, .int .u32 23] 33 (0, 0)))
  case first =>
    have hU : ((((w.alloc (.cells #[.int .u8 0, .bool false, .int .u32 nu, .slice a L c, .slice sa 0 sc] 37)).alloc (.cells #[.int .i64 0, .int .i64 0, .int .i64 0, .int .i64 0, .int .i64 0, .int .i64 0] 23)).alloc (.cells #[.int .u8 0, .bool false, .int .u32 23] 33)).alloc (.cells #[.int .u8 0, .bool false, .int .u32 24] 33)).heap[w.heap.size + 1 + 1]? = some (.cells #[.int .u8 0, .bool false, .int .u32 23] 33 (0, 0)) := by
      refine blk_alloc ?_ _
      have := blk_new ((w.alloc (.cells #[.int .u8 0, .bool false, .int .u32 nu, .slice a L c, .slice sa 0 sc] 37)).alloc (.cells #[.int .i64 0, .int .i64 0, .int .i64 0, .int .i64 0, .int .i64 0, .int .i64 0] 23)) (.cells #[.int .u8 0, .bool false, .int .u32 23] 33)
      simpa using this
    have HU := Lib.hid hU
    clear hU
    rcases hnu.out with ⟨-, -, rfl | ⟨rfl, -⟩⟩ | ⟨-, rfl, -⟩
    all_goals
      go_wp2_with fail
      go_meet
      exact ⟨by first | rfl | (simp; done), HS, HU.out⟩
  case rest =>
    obtain ⟨rfl, HR, hU⟩ := hcut
    obtain ⟨e0, e1, e2, e3, e4⟩ := five HR.out.2.1
    obtain ⟨u0, u1, u2⟩ := three hU
    clear hcW
    have hcW := hc.out _ HR.out.1.b
    go_upto_region 7 with fail
    go_cut [40] (fun s40 wx => s40 = .bool B ∧ wx = wc)
    case first =>
      rcases hnu.out with ⟨rfl, -, rfl | ⟨rfl, hl⟩⟩ | ⟨rfl, rfl, hl, -⟩
      all_goals
        go_wp2_with fail
        go_meet
        exact ⟨by first | rfl | (simp; done), rfl⟩
    case rest =>
      obtain ⟨rfl, rfl⟩ := hcut
      go_upto_if 40 with fail
      go_cut [6] (fun s6 wx => s6 = .string sb ∧ wx = wc)
      case first =>
        have hadd := fun W => run_string_add_sum (P := Tryd.prog) (w := W) ⟨#[50, 48]⟩ lb (by rw [hlb'.out]; show 2 + L ≤ _; omega)
        have hadd' := fun W => run_string_add_sum (P := Tryd.prog) (w := W) ⟨#[49, 57]⟩ lb (by rw [hlb'.out]; show 2 + L ≤ _; omega)
        rcases hnu.out with ⟨rfl, rfl, -⟩ | ⟨rfl, -, hl, b0, hb0, ⟨hlt, rfl⟩ | ⟨hlt, rfl⟩⟩
        all_goals
          go_wp2_with fail
          go_meet
          exact ⟨by first | rfl | (simp; done), rfl⟩
      case rest =>
        obtain ⟨rfl, rfl⟩ := hcut
        obtain ⟨r0, r1, r2, r3, r4, r5⟩ := six HR.out.2.2
        obtain ⟨f0, f1, f2, f3, f4, f5⟩ := free HR.out.2.2
        rcases HC.out with ⟨hne, rfl, rfl, rfl, rfl, rfl, rfl, rfl⟩ | ⟨hsz, hC⟩
        · go_wp2
          exact bodyPost_ret (ret27 rfl rfl (set6 HR.out.2.2 _ _ _ _ _ _)) rfl ⟨rfl, (set6_st HR.out.1 (by omega) hT.two _ _ _ _ _ _).b⟩
        · have h15 : ((sb.size : Int) == 15) = true := by rw [hsz]; rfl
          have HC' := Lib.hid hC
          obtain ⟨L0, L1, L2, L3, L4, L5⟩ := HL.out hsz
          clear hC HC hsz HL
          go_upto_region 14 with fail
          go_cut [8] (fun s8 wx => ∃ g : Nat, s8 = .pointer (some ⟨g, 0, none⟩) ∧ Hid (RofS #[.int .u8 0, .bool false, .int .u32 nu, .slice a L c, .slice sa 0 sc] w wx ∧ wx.heap[g]? = some (.cells #[.int .i64 n0, .int .i64 n1, .int .i64 n2, .int .i64 n3, .int .i64 n4, .int .i64 n5] 23 (0, 0))))
          case first =>
           go_region_with (first
            | (go_at_call_of 38 q0; refine (D0.out _).mono ?_; rintro e w' ⟨rfl, rfl⟩)
            | (go_at_call_of 38 q1; refine (D1.out _).mono ?_; rintro e w' ⟨rfl, rfl⟩)
            | (go_at_call_of 38 q2; refine (D2.out _).mono ?_; rintro e w' ⟨rfl, rfl⟩)
            | (go_at_call_of 38 q3; refine (D3.out _).mono ?_; rintro e w' ⟨rfl, rfl⟩)
            | (go_at_call_of 38 q4; refine (D4.out _).mono ?_; rintro e w' ⟨rfl, rfl⟩)
            | (go_at_call_of 38 q5; refine (D5.out _).mono ?_; rintro e w' ⟨rfl, rfl⟩))
           all_goals (go_wp2_with fail; go_meet; exact ⟨_, rfl, ⟨(RofS.drew HR.out).alloc _, blk_new wc.drew _⟩⟩)
          case rest =>
            obtain ⟨g, rfl, HX⟩ := hcut
            clear L0 L1 L2 L3 L4 L5 D0 D1 D2 D3 D4 D5 hcW HR hU e0 e1 e2 e3 e4 u0 u1 u2 r0 r1 r2 r3 r4 r5 f0 f1 f2 f3 f4 f5
            obtain ⟨c0, c1, c2, c3, c4, c5⟩ := six HX.out.2
            go_wp2_with fail
            refine (H14.out _ HX.out.1.1.t).mono ?_
            rintro e w1 ⟨rfl, hb⟩
            have S1 := Lib.hid (HX.out.1.next hb)
            have hB := blk_below HX.out.2 hb
            have B1 := Lib.hid hB
            clear c0 c1 c2 c3 c4 c5
            obtain ⟨c0, c1, c2, c3, c4, c5⟩ := six hB
            obtain ⟨x0, x1, x2, x3, x4, x5⟩ := six S1.out.2.2
            obtain ⟨f0, f1, f2, f3, f4, f5⟩ := free S1.out.2.2
            clear hb hB
            rcases HC'.out with ⟨rfl, rfl, rfl, rfl, rfl, rfl, rfl, rfl⟩ | ⟨rfl, H21, hc⟩
            · go_wp2
              exact bodyPost_ret (ret27 rfl rfl (set6 S1.out.2.2 _ _ _ _ _ _)) rfl ⟨rfl, (set6_st S1.out.1 (by omega) hT.two _ _ _ _ _ _).b⟩
            · go_wp2_with fail
              refine (H21 _).mono ?_
              rintro e w2 ⟨rfl, hb⟩
              clear c0 c1 c2 c3 c4 c5 x0 x1 x2 x3 x4 x5 f0 f1 f2 f3 f4 f5
              have S2 := Lib.hid (S1.out.next hb)
              have hB := blk_below B1.out hb
              obtain ⟨c0, c1, c2, c3, c4, c5⟩ := six hB
              obtain ⟨x0, x1, x2, x3, x4, x5⟩ := six S2.out.2.2
              obtain ⟨f0, f1, f2, f3, f4, f5⟩ := free S2.out.2.2
              obtain ⟨e0, e1, e2, e3, e4⟩ := five S2.out.2.1
              have hcW := ‹Hid (∀ W : World, Below w.heap.size w W → (convert 34 9 (.slice a L c)).run Tryd.prog W = .ok (.string lb) W)›.out _ S2.out.1.b
              clear hb hB H21
              rcases hc with ⟨hx, rfl, rfl, rfl, rfl, rfl, rfl, rfl⟩ | ⟨rfl, hx, rfl, rfl, rfl, rfl, rfl, rfl, rfl⟩ | ⟨rfl, rfl, rfl, rfl, rfl, rfl, rfl, rfl, rfl⟩
              all_goals
                go_wp2
                exact bodyPost_ret (ret27 rfl rfl (set6 S2.out.2.2 _ _ _ _ _ _)) rfl ⟨rfl, (set6_st S2.out.1 (by omega) hT.two _ _ _ _ _ _).b⟩
end Go.Proofs.YtbncjjobdipmgaaDoor
