/- Chapter 10 (times): the contract of At. -/
import Derived.Test.YtbncjjobdipmgaaDoorWi
import Derived.Test.YtbncjjobdipmgaaDoorPm
import Derived.Deep.CutRange
namespace Go.Proofs.YtbncjjobdipmgaaDoor
open Go.RowKit Pl

def Tm.secs (t : Tm) : Int := Pl.secs t.y t.mo t.d t.h t.mi t.s
/-- At's answer: the time that has this number of seconds. -/
def AtP (n : Int) (w : World) (e : Ending) (w' : World) : Prop := ∃ t : Tm, t.ok = true ∧ t.secs = n ∧ TmP t 0 w e w'

theorem ret30 {R : Nat} {a0 a1 a2 a3 a4 a5 : Value} {err : Int} {tmps : Array Value} {w : World} (hp : tmps.getD 2 undef = .pointer (some ⟨R, 0, none⟩)) (he : tmps.getD 3 undef = .int .i64 err)
    (hR : w.heap[R]? = some (.cells #[a0, a1, a2, a3, a4, a5] 23 (0, 0))) : (results Tryd.f30 tmps).run Tryd.prog w = .ok (.tuple #[.agg #[a0, a1, a2, a3, a4, a5], .int .i64 err]) w := by
  obtain ⟨c0, c1, c2, c3, c4, c5⟩ := six hR
  rw [results_cell_tmp (p := 2) (u := 3) (ty := 23) Tryd.results30, hp, he]
  simp [go_sem, c0, c1, c2, c3, c4, c5]

/-- What stands in memory while At reckons: the result (block n), the time (n+1). -/
structure AtI (w : World) (tv : Array Value) (wr : World) : Prop where
  r : wr.heap[w.heap.size]? = some (.cells #[.int .i64 0, .int .i64 0, .int .i64 0, .int .i64 0, .int .i64 0, .int .i64 0] 23 (0, 0))
  t : wr.heap[w.heap.size + 1]? = some (.cells tv 23 (0, 0))
  st : St w wr
  two : 1 < w.heap.size
theorem AtI.start (w : World) (hT : Tabs w) (tv : Array Value) : AtI w tv ((w.alloc (.cells #[.int .i64 0, .int .i64 0, .int .i64 0, .int .i64 0, .int .i64 0, .int .i64 0] 23)).alloc (.cells tv 23)) := by
  refine ⟨blk_alloc (blk_new _ _) _, ?_, ((St.refl hT).alloc _).alloc _, hT.two⟩
  have := blk_new (w.alloc (.cells #[.int .i64 0, .int .i64 0, .int .i64 0, .int .i64 0, .int .i64 0, .int .i64 0] 23)) (.cells tv 23)
  simpa using this
theorem AtI.setT {w wr : World} {tv : Array Value} (h : AtI w tv wr) (j : Nat) (u : Value) : AtI w (tv.setIfInBounds j u) (wr.setCell ⟨w.heap.size + 1, j, none⟩ u) :=
  ⟨blk_far h.r (by show _ ≠ _ + 1; omega) u, blk_set h.t j u, h.st.setCell (by show _ ≤ _ + 1; omega) h.two u, h.two⟩

set_option maxHeartbeats 4000000 in
theorem at_no (n : Int) (w : World) (hT : Tabs w) (h : n < 0 ∨ 315569520000 ≤ n) : Calls Tryd.prog 30 #[.int .i64 n] w (TmP Tm.zero 1 w) := by
  have hst := (St.refl hT).alloc (.cells #[.int .i64 0, .int .i64 0, .int .i64 0, .int .i64 0, .int .i64 0, .int .i64 0] 23)
  have hbl := blk_new w (.cells #[.int .i64 0, .int .i64 0, .int .i64 0, .int .i64 0, .int .i64 0, .int .i64 0] 23)
  have HS := Lib.hid hst
  have HB := Lib.hid hbl
  have h2 := hT.two
  obtain ⟨r0, r1, r2, r3, r4, r5⟩ := six hbl
  obtain ⟨q0, q1, q2, q3, q4, q5⟩ := free hbl
  clear hst hbl
  rcases h with h | h
  · have g : decide (n < 0) = true := by simp; omega
    go_enter Tryd.func30, Tryd.ntmps30
    go_wp2
    exact bodyPost_ret (ret30 rfl rfl (blk_new w _)) rfl ⟨rfl, (Below.refl _ _).alloc (Nat.le_refl _) _⟩
  · have g : decide (n < 0) = false := by simp; omega
    have g' : decide (315569520000 ≤ n) = true := by simp; omega
    go_enter Tryd.func30, Tryd.ntmps30
    go_wp2_with (go_at_call 34; refine (before_any 10000 (by omega) (by omega) _).mono ?_; rw [dby_max]; rintro e w1 ⟨rfl, rfl⟩)
    exact bodyPost_ret (ret30 rfl rfl (blk_new w _)) rfl ⟨rfl, (Below.refl _ _).alloc (Nat.le_refl _) _⟩

/-- How far the year, or the month, is from 10000. -/
def cellM (o : Nat) (w wr : World) : Nat := match wr.cell? ⟨w.heap.size + 1, o, none⟩ with | some (.int _ y) => (10000 - y).toNat | _ => 0
theorem cellM_of {o : Nat} {w wr : World} {k : IntKind} {y : Int} (h : wr.cell? ⟨w.heap.size + 1, o, none⟩ = some (.int k y)) : cellM o w wr = (10000 - y).toNat := by
  unfold cellM; rw [h]
set_option maxHeartbeats 4000000 in
theorem at_yes (n : Int) (w : World) (hT : Tabs w) (h0 : 0 ≤ n) (h1 : n < 315569520000) (hq0 : 0 ≤ n / 86400) (hq1 : n / 86400 ≤ 3652424) : Calls Tryd.prog 30 #[.int .i64 n] w (AtP n w) := by
  have g : decide (n < 0) = false := by simp; omega
  have gq := dby_guess (n / 86400) hq0 hq1
  have gq0 : 0 ≤ n / 86400 / 366 ∧ n / 86400 / 366 ≤ 9999 := by omega
  obtain ⟨gy0, gy1⟩ := gq0
  have hA := AtI.start w hT #[.int .i64 (n / 86400 / 366), .int .i64 1, .int .i64 0, .int .i64 0, .int .i64 0, .int .i64 0]
  have HA := Lib.hid hA
  have HG := Lib.hid gq
  clear hA gq
  go_enter Tryd.func30, Tryd.ntmps30
  go_wp2_with (go_at_call 34; refine (before_any 10000 (by omega) (by omega) _).mono ?_; rw [dby_max]; rintro e w1 ⟨rfl, rfl⟩)
  go_loopw [] (fun wr => ∃ y : Int, 0 ≤ y ∧ y ≤ 9999 ∧ Hid (dby y ≤ n / 86400) ∧ Hid (AtI w #[.int .i64 y, .int .i64 1, .int .i64 0, .int .i64 0, .int .i64 0, .int .i64 0] wr)) (fun wr => cellM 0 w wr)
  case atStart => exact ⟨_, gy0, gy1, HG, HA⟩
  case round =>
    obtain ⟨y, hy0, hy1, hy2, hI⟩ := hrel
    obtain ⟨t0, t1, t2, t3, t4, t5⟩ := six hI.out.t
    obtain ⟨f0, f1, f2, f3, f4, f5⟩ := free hI.out.t
    have bb := dby_bd (y + 1) (by omega) (by omega)
    by_cases hc : dby (y + 1) ≤ n / 86400
    · have hy9 : y < 9999 := by
        rcases Int.lt_or_le y 9999 with h | h
        · exact h
        · have : y = 9999 := by omega
          subst this
          have := dby_max
          have h3 : dby (9999 + 1) = dby 10000 := rfl
          omega
      have HC := Lib.hid hc
      have hI' := hI.out.setT 0 (.int .i64 (y + 1))
      have HI' := Lib.hid hI'
      clear hI'
      go_wp2_with (go_at_call 34; refine (before_any (y + 1) (by omega) (by omega) _).mono ?_; rintro e w1 ⟨rfl, rfl⟩)
      go_roundw
      case rel => exact ⟨y + 1, by omega, by omega, HC, HI'.out⟩
      case measure =>
        rw [cellM_of (six HI'.out.t).1, cellM_of t0]
        omega
    · have hz : Hid (n / 86400 < dby (y + 1)) := by show _ < _; omega
      have HY := Lib.hid hy2.out
      have bb0 := dby_bd y (by omega) (by omega)
      have hyq : dby y ≤ n / 86400 := hy2.out
      go_wp2_with (go_at_call 34; refine (before_any _ (by omega) (by omega) _).mono ?_; rintro e w1 ⟨rfl, rfl⟩)
      have hsucc := dby_succ y hy0
      have hD12 : n / 86400 - dby y < cumd y 12 := by have := hz.out; omega
      have HD12 := Lib.hid hD12
      clear hsucc hz HY hy2 HG HA bb hc hD12 gy0 gy1 g
      go_loopw [4] (fun m wr => ∃ k : Nat, k ≤ 11 ∧ m = .int .i64 (n / 86400 - dby y - cumd y k) ∧ 0 ≤ n / 86400 - dby y - cumd y k ∧ Hid (AtI w #[.int .i64 y, .int .i64 ((k : Int) + 1), .int .i64 0, .int .i64 0, .int .i64 0, .int .i64 0] wr)) (fun _ wr => cellM 1 w wr)
      case atStart => exact ⟨0, by omega, by simp [cumd], by simp [cumd]; omega, hI⟩
      case round =>
        obtain ⟨k, hk, rfl, hm0, hJ⟩ := hrel
        obtain ⟨t0, t1, t2, t3, t4, t5⟩ := six hJ.out.t
        obtain ⟨f0, f1, f2, f3, f4, f5⟩ := free hJ.out.t
        have hdm := dim_le y ((k : Int) + 1)
        have hcd := cumd_le y k
        by_cases hc : dim y ((k : Int) + 1) ≤ n / 86400 - dby y - cumd y k
        · have hk11 : k < 11 := by
            rcases Nat.lt_or_ge k 11 with h | h
            · exact h
            · have : k = 11 := by omega
              subst this
              have h12 : cumd y 12 = cumd y 11 + dim y (((11 : Nat) : Int) + 1) := rfl
              have := HD12.out
              omega
          have hcs : Hid (cumd y (k + 1) = cumd y k + dim y ((k : Int) + 1)) := rfl
          have hJ' := hJ.out.setT 1 (.int .i64 ((k : Int) + 1 + 1))
          have HJ' := Lib.hid hJ'
          clear hJ'
          go_wp2_with (go_at_call 12; refine (days_any _ _ _ hJ.out.st.t).mono ?_; rintro e w1 ⟨rfl, rfl⟩)
          go_roundw
          case rel => exact ⟨k + 1, by omega, by rw [hcs.out]; go_num, by rw [hcs.out]; omega, HJ'.out⟩
          case measure =>
            rw [cellM_of (six HJ'.out.t).2.1, cellM_of t1]
            omega
        · obtain ⟨r0, r1, r2, r3, r4, r5⟩ := six hJ.out.r
          obtain ⟨q0, q1, q2, q3, q4, q5⟩ := free hJ.out.r
          have hdd : n / 86400 - dby y - cumd y k < dim y ((k : Int) + 1) := by omega
          go_wp2_with fail
          refine (days_any _ _ _ hJ.out.st.t).mono ?_
          rintro e w1 ⟨rfl, rfl⟩
          go_upto_region 12 with (fail)
          have hDn : n / 86400 - dby y - cumd y k + dby y + cumd y k = n / 86400 := by omega
          have hr0 : 0 ≤ n % 86400 := by omega
          have hr1 : n % 86400 < 86400 := by omega
          have hq : n / 86400 * 86400 + n % 86400 = n := by omega
          have HDn := Lib.hid hDn
          have HQ := Lib.hid hq
          clear hDn hq
          generalize n / 86400 - dby y - cumd y k = D at *
          generalize n % 86400 = Q at *
          have hJ' := (((hJ.out.setT 2 (.int .i64 (D + 1))).setT 3 (.int .i64 (Q / 3600))).setT 4 (.int .i64 (Q / 60 % 60))).setT 5 (.int .i64 (Q % 60))
          have HJ' := Lib.hid hJ'
          clear hJ'
          have hD1 : D ≤ 30 := by omega
          clear hc
          go_wp2
          refine bodyPost_ret (ret30 rfl rfl (set6 HJ'.out.r _ _ _ _ _ _)) rfl ⟨⟨y, (k : Int) + 1, D + 1, Q / 3600, Q / 60 % 60, Q % 60⟩, ?_, ?_, rfl, (set6_st HJ'.out.st (Nat.le_refl _) HJ'.out.two _ _ _ _ _ _).b⟩
          · show okB y ((k : Int) + 1) (D + 1) (Q / 3600) (Q / 60 % 60) (Q % 60) = true
            unfold okB
            exact decide_eq_true (by omega)
          · show Pl.secs y ((k : Int) + 1) (D + 1) (Q / 3600) (Q / 60 % 60) (Q % 60) = n
            unfold Pl.secs
            rw [show ((k : Int) + 1 - 1).toNat = k by omega]
            have := HQ.out
            have := HDn.out
            omega
end Go.Proofs.YtbncjjobdipmgaaDoor
