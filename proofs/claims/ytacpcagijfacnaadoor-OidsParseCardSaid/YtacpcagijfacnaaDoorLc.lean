/- Chapter 6 (oids): the walk of the law OidsParse. -/
import Derived.Test.YtacpcagijfacnaaDoorWv
import Derived.Test.YtacpcagijfacnaaDoorWs
namespace Go.Proofs.YtacpcagijfacnaaDoor
open Go.RowKit Go.Shelf
open Go.Proofs.YtacpcagijfacnaaDoorW.PrintWords (gate_guard gate_dst gate_store Kd.C_below Kd.C_of_reads Kd.reads_of_C ReadsOf.at_ rdOf blk_new blk_below blk_cell blk_alloc blk_lt blk_frozen blk_drew blk_set Kd.C Kd.int)
set_option linter.unusedSimpArgs false
set_option linter.unusedVariables false
set_option maxRecDepth 50000
set_option maxHeartbeats 8000000 in
theorem oidsParse_mk (l : List UInt8) (w : World) (hT : Tabs w) :
    Calls Tryd.prog 4 #[.string ⟨l.toArray⟩] w fun e w' => e = .returned (.bool true) ∧ Below w.heap.size w w' := by
  have S0 := St.refl hT
  have hz : (⟨l.toArray⟩ : ByteArray).size = l.length := by rw [ByteArray.size]; simp
  by_cases h250 : 250 < l.length
  · have h1 : (250 : Int) < ((⟨l.toArray⟩ : ByteArray).size : Int) := by omega
    have h1' : (250 : Int) < (l.length : Int) := by omega
    have HZ := Lib.hid hz
    clear hz h250
    go_enter Tryd.func4, Tryd.ntmps4
    go_wp2_with (go_at_call 8; refine (lives_yes _ hT).mono ?_; rintro e w' ⟨rfl, hb⟩; have SL := St.next S0 hb; clear hb)
    go_ret
    exact ⟨rfl, SL.b⟩
  have h250' : ¬ (250 : Int) < ((⟨l.toArray⟩ : ByteArray).size : Int) := by omega
  have h250'' : ¬ (250 : Int) < (l.length : Int) := by omega
  have HL : Hid (l.length ≤ 100000) := Lib.hid (show l.length ≤ 100000 by omega)
  clear hz h250
  obtain ⟨rn, rx, er, hg⟩ : ∃ rn rx er, parseL (splitP l) = (rn, rx, er) := ⟨_, _, _, rfl⟩
  have HX := Lib.hid (parse_len hg)
  have HG := Lib.hid hg
  clear hg
  by_cases he : er = 0
  case neg =>
    go_enter Tryd.func4, Tryd.ntmps4
    go_upto_region 4 with (first
      | (go_at_call 13; refine (rparse_any l _ HL.out rn er rx HG.out).mono ?_; rintro e w1 ⟨rfl, hb1⟩; have S1 := S0.next hb1)
      | ((with_reducible refine gate_store rfl ?_); refine wpList_plain rfl fun K hK => ?_; refine wp_store_row 27 _ _ rfl w1.heap.size (oidC rn rx) rfl rfl 27 (oidC 0 Z16) (blk_new w1 _) (oid_info _ _ HX.out) (by simp [HX.out]) (oid_one _ _) ?_; refine hK _ _ ?_))
    have X2 := Lib.hid (boxed_at w1 rn rx)
    have S2 := S1.next (boxed_below w1 rn rx)
    rw [zrow]
    change Code.wp _ _ _ _ (boxed w1 rn rx)
    generalize boxed w1 rn rx = W2 at *
    go_wp2_with (first
      | ((with_reducible refine gate_dst (N := 15) rfl ?_); (try (refine gate_guard (by rfl) ?_; dsimp only)); refine wpList_load_row rfl 27 _ rfl (w1.heap.size) rfl 27 (oidC rn rx) (0, 0) _ X2.out Tryd.underlying27 rfl (oid_info _ _ HX.out) ?_)
      | (go_at_call 14; refine (parsed_is l rn rx er rn er rx true _ HL.out S2.t HX.out HG.out (by simp)).mono ?_; rintro e w3 ⟨rfl, hb3⟩; have S3 := S2.next hb3)
      | (go_at_call 8; refine (lives_yes _ S3.t).mono ?_; rintro e w' ⟨rfl, hb⟩; have SL := St.next S3 hb; clear hb))
    go_ret
    exact ⟨rfl, SL.b⟩
  case pos =>
  subst he
  obtain ⟨N, rfl, hchk, hx16, hu, htx⟩ := parse_back HG.out
  have hn16 := (chkO_n hchk).2
  have HP := Lib.hid (fun W hW => text_is N (N : Int) rx l W rfl (by omega) hx16 hu hchk hW htx)
  clear hchk hx16 hu htx
  go_enter Tryd.func4, Tryd.ntmps4
  go_upto_region 4 with (first
    | (go_at_call 13; refine (rparse_any l _ HL.out (N : Int) 0 rx HG.out).mono ?_; rintro e w1 ⟨rfl, hb1⟩; have S1 := S0.next hb1)
    | ((with_reducible refine gate_store rfl ?_); refine wpList_plain rfl fun K hK => ?_; refine wp_store_row 27 _ _ rfl w1.heap.size (oidC (N : Int) rx) rfl rfl 27 (oidC 0 Z16) (blk_new w1 _) (oid_info _ _ HX.out) (by simp [HX.out]) (oid_one _ _) ?_; refine hK _ _ ?_))
  have X2 := Lib.hid (boxed_at w1 (N : Int) rx)
  have S2 := S1.next (boxed_below w1 (N : Int) rx)
  rw [zrow]
  change Code.wp _ _ _ _ (boxed w1 (N : Int) rx)
  generalize boxed w1 (N : Int) rx = W2 at *
  go_wp2_with (first
    | ((with_reducible refine gate_dst (N := 15) rfl ?_); (try (refine gate_guard (by rfl) ?_; dsimp only)); refine wpList_load_row rfl 27 _ rfl (w1.heap.size) rfl 27 (oidC (N : Int) rx) (0, 0) _ X2.out Tryd.underlying27 rfl (oid_info _ _ HX.out) ?_)
    | (go_at_call 14; refine (parsed_is l N rx 0 N 0 rx true _ HL.out S2.t HX.out HG.out (by simp)).mono ?_; rintro e w3 ⟨rfl, hb3⟩; have S3 := S2.next hb3; have X3 := Lib.hid (blk_below X2.out hb3))
    | ((with_reducible refine gate_dst (N := 22) rfl ?_); (try (refine gate_guard (by rfl) ?_; dsimp only)); refine wpList_load_row rfl 27 _ rfl (w1.heap.size) rfl 27 (oidC (N : Int) rx) (0, 0) _ X3.out Tryd.underlying27 rfl (oid_info _ _ HX.out) ?_)
    | (go_at_call 15; refine (HP.out _ S3.t).mono ?_; rintro e w4 ⟨rfl, hb4⟩; have S4 := S3.next hb4; clear hb4)
    | (go_at_call 8; refine (lives_yes _ S4.t).mono ?_; rintro e w' ⟨rfl, hb⟩; have SL := St.next S4 hb; clear hb))
  go_ret
  exact ⟨rfl, SL.b⟩
theorem oidsParse_walk (s : ByteArray) (w : World) (hT : Tabs w) :
    Calls Tryd.prog 4 #[.string s] w fun e w' => e = .returned (.bool true) ∧ Below w.heap.size w w' := by
  obtain ⟨⟨l⟩⟩ := s
  exact oidsParse_mk l w hT
end Go.Proofs.YtacpcagijfacnaaDoor
