/- Chapter 6 (oids): the walk of the law OidsGet. -/
import Derived.Test.YtacpcagijfacnaaDoorWv
import Derived.Test.YtacpcagijfacnaaDoorWi
namespace Go.Proofs.YtacpcagijfacnaaDoor
open Go.RowKit Go.Shelf
open Go.Proofs.YtacpcagijfacnaaDoorW.PrintWords (gate_guard gate_dst gate_store Kd.C_below Kd.C_of_reads Kd.reads_of_C ReadsOf.at_ rdOf blk_new blk_below blk_cell blk_alloc blk_lt blk_frozen blk_drew blk_set Kd.C Kd.int)
set_option linter.unusedSimpArgs false
set_option linter.unusedVariables false
set_option maxRecDepth 50000
theorem getT_fst {l : List Int} {rn er : Int} {rx : List Int} (h : getT l = (rn, rx, er)) : rx.length = 16 := by have := getT_len (l := l); rw [h] at this; exact this
set_option maxHeartbeats 8000000 in
theorem oidsGet_walk (A : Option Addr) (c : Nat) (l : List Int) (w : World) (hT : Tabs w) (hby : Byt l) (hr : Kd.C (Kd.int .u8) w A l.length l) (hc : l.length ≤ c) :
    Calls Tryd.prog 3 #[.slice A l.length c] w fun e w' => e = .returned (.bool true) ∧ Below w.heap.size w w' := by
  have S0 := St.refl hT
  by_cases h100 : 100 < l.length
  · have h1 : (100 : Int) < (l.length : Int) := by omega
    go_enter Tryd.func3, Tryd.ntmps3
    go_wp2_with (go_at_call 8; refine (lives_yes _ hT).mono ?_; rintro e w' ⟨rfl, hb⟩; have SL := St.next S0 hb; clear hb)
    go_ret
    exact ⟨rfl, SL.b⟩
  have h100' : ¬ (100 : Int) < (l.length : Int) := by omega
  have HL : Hid (l.length ≤ 1000000) := Lib.hid (show l.length ≤ 1000000 by omega)
  have HBY := Lib.hid hby
  obtain ⟨rn, rx, er, hg⟩ : ∃ rn rx er, getT l = (rn, rx, er) := ⟨_, _, _, rfl⟩
  have HX := Lib.hid (getT_fst hg)
  have HG := Lib.hid hg
  clear hg hby
  by_cases he : er = 0
  case neg =>
    go_enter Tryd.func3, Tryd.ntmps3
    go_upto_region 4 with (first
      | (go_at_call 9; refine (rget_any A c l _ HL.out HBY.out hr rn er rx HG.out).mono ?_; rintro e w1 ⟨rfl, hb1⟩; have S1 := S0.next hb1; have R1 := Lib.hid (Kd.C_below hr hb1))
      | ((with_reducible refine gate_store rfl ?_); refine wpList_plain rfl fun K hK => ?_; refine wp_store_row 27 _ _ rfl w1.heap.size (oidC rn rx) rfl rfl 27 (oidC 0 Z16) (blk_new w1 _) (oid_info _ _ HX.out) (by simp [HX.out]) (oid_one _ _) ?_; refine hK _ _ ?_))
    have X2 := Lib.hid (boxed_at w1 rn rx)
    have S2 := S1.next (boxed_below w1 rn rx)
    have R2 := Lib.hid (Kd.C_below R1.out (boxed_below w1 rn rx))
    rw [zrow]
    change Code.wp _ _ _ _ (boxed w1 rn rx)
    generalize boxed w1 rn rx = W2 at *
    go_wp2_with (first
      | ((with_reducible refine gate_dst (N := 17) rfl ?_); (try (refine gate_guard (by rfl) ?_; dsimp only)); refine wpList_load_row rfl 27 _ rfl (w1.heap.size) rfl 27 (oidC rn rx) (0, 0) _ X2.out Tryd.underlying27 rfl (oid_info _ _ HX.out) ?_)
      | (go_at_call 10; refine (read_any A l.length c l rn rx er rn er rx true _ rfl HL.out HBY.out R2.out HX.out HG.out (by simp)).mono ?_; rintro e w3 ⟨rfl, hb3⟩; have S3 := S2.next hb3)
      | (go_at_call 8; refine (lives_yes _ S3.t).mono ?_; rintro e w' ⟨rfl, hb⟩; have SL := St.next S3 hb; clear hb))
    go_ret
    exact ⟨rfl, SL.b⟩
  case pos =>
  subst he
  obtain ⟨N, rfl, hchk, hx16, hu, henc⟩ := get_back HBY.out HG.out
  have hn16 := (chkO_n hchk).2
  have HP := Lib.hid (fun W => put_is N (N : Int) rx l l.length W rfl (by omega) hx16 hu hchk henc rfl)
  clear hchk hx16 hu henc
  go_enter Tryd.func3, Tryd.ntmps3
  go_upto_region 4 with (first
    | (go_at_call 9; refine (rget_any A c l _ HL.out HBY.out hr N 0 rx HG.out).mono ?_; rintro e w1 ⟨rfl, hb1⟩; have S1 := S0.next hb1; have R1 := Lib.hid (Kd.C_below hr hb1))
    | ((with_reducible refine gate_store rfl ?_); refine wpList_plain rfl fun K hK => ?_; refine wp_store_row 27 _ _ rfl w1.heap.size (oidC (N : Int) rx) rfl rfl 27 (oidC 0 Z16) (blk_new w1 _) (oid_info _ _ HX.out) (by simp [HX.out]) (oid_one _ _) ?_; refine hK _ _ ?_))
  have X2 := Lib.hid (boxed_at w1 (N : Int) rx)
  have S2 := S1.next (boxed_below w1 (N : Int) rx)
  have R2 := Lib.hid (Kd.C_below R1.out (boxed_below w1 (N : Int) rx))
  rw [zrow]
  change Code.wp _ _ _ _ (boxed w1 (N : Int) rx)
  generalize boxed w1 (N : Int) rx = W2 at *
  go_wp2_with (first
    | ((with_reducible refine gate_dst (N := 17) rfl ?_); (try (refine gate_guard (by rfl) ?_; dsimp only)); refine wpList_load_row rfl 27 _ rfl (w1.heap.size) rfl 27 (oidC (N : Int) rx) (0, 0) _ X2.out Tryd.underlying27 rfl (oid_info _ _ HX.out) ?_)
    | (go_at_call 10; refine (read_any A l.length c l N rx 0 N 0 rx true _ rfl HL.out HBY.out R2.out HX.out HG.out (by simp)).mono ?_; rintro e w3 ⟨rfl, hb3⟩; have S3 := S2.next hb3; have X3 := Lib.hid (blk_below X2.out hb3); have R3 := Lib.hid (Kd.C_below R2.out hb3))
    | ((with_reducible refine gate_dst (N := 25) rfl ?_); (try (refine gate_guard (by rfl) ?_; dsimp only)); refine wpList_load_row rfl 27 _ rfl (w1.heap.size) rfl 27 (oidC (N : Int) rx) (0, 0) _ X3.out Tryd.underlying27 rfl (oid_info _ _ HX.out) ?_)
    | (go_at_call 11; refine (HP.out _).mono ?_; rintro e w4 ⟨g, rfl, -, ho, hb4⟩; have S4 := S3.next hb4; have R4 := Lib.hid (Kd.C_below R3.out hb4); have O4 := Lib.hid ho; clear ho hb4)
    | (go_at_call 12; refine (same_arg l g A c _ HBY.out O4.out R4.out).mono ?_; rintro e w5 ⟨rfl, hb5⟩; have S5 := S4.next hb5; clear hb5)
    | (go_at_call 8; refine (lives_yes _ S5.t).mono ?_; rintro e w' ⟨rfl, hb⟩; have SL := St.next S5 hb; clear hb))
  go_ret
  exact ⟨rfl, SL.b⟩
end Go.Proofs.YtacpcagijfacnaaDoor
