/- Chapter 6 (oids): the walk of the law OidsBack. -/
import Derived.Test.YtacpcagijfacnaaGreatDoorMb
import Derived.Test.YtacpcagijfacnaaGreatDoorPa
namespace Go.Proofs.YtacpcagijfacnaaGreatDoor
open Go.RowKit Go.Shelf
open Go.Proofs.YtacpcagijfacnaaGreatDoorW.PrintWords (gate_guard gate_dst gate_store Kd.C_below Kd.C_of_reads Kd.reads_of_C ReadsOf.at_ rdOf blk_new blk_below blk_cell blk_alloc blk_lt blk_frozen blk_drew blk_set Kd.C Kd.int)
set_option linter.unusedSimpArgs false
set_option linter.unusedVariables false
set_option maxRecDepth 50000
theorem infoA : (Tryz.prog.info? 25).map (·.size) = some 3 := by kernel_rfl
/-- The reference's Text and the law's own comparisons see the same string. -/
theorem same_enc (L : List Int) (n g : Nat) (A : Option Addr) (c : Nat) (w : World) (hn : L.length = n) (hb : Byt L) (h1 : Octs w g L) (h2 : Kd.C (Kd.int .u8) w A L.length L) :
    Calls Tryz.prog 13 #[.slice (some ⟨g, 0, none⟩) n n, .int .i64 0, .slice A n c, .int .i64 0] w fun e w' => e = .returned (.bool true) ∧ Below w.heap.size w w' := by
  subst hn
  exact same_arg L g A c w hb h1 h2
theorem gl_byt (n : Int) (h0 : 0 ≤ n) (h1 : n < 4294967296) : Byt (gl n) := by
  intro x hx
  unfold gl at hx
  repeat' split at hx
  all_goals (simp at hx; omega)
theorem enc_byt (N : Nat) (xs : List Int) (hu : U32 xs) (h : chkO (N : Int) xs = 0) : Byt (encO N xs) := by
  obtain ⟨k0, k1, k2⟩ := chkO_ok h
  have u0 := hu.getD 0
  have u1 := hu.getD 1
  intro x hx
  unfold encO at hx
  obtain ⟨t, ht, hx⟩ := List.mem_flatMap.mp hx
  unfold subsO at ht
  rcases List.mem_cons.mp ht with rfl | ht
  · exact gl_byt _ (by omega) (by omega) x hx
  · have := hu t (List.mem_of_mem_take (List.mem_of_mem_drop ht))
    exact gl_byt t this.1 this.2 x hx
theorem enc_len (N : Nat) (xs : List Int) (h16 : N ≤ 16) (hx : xs.length = 16) : (encO N xs).length ≤ 1000000 := by
  have hl : (arcsO N xs).length = N := by rw [arcsO_len hx]; omega
  have := encK_len N xs N
  rw [encK_all N xs hl] at this
  omega
theorem txt_len (N : Nat) (xs : List Int) (h16 : N ≤ 16) (hx : xs.length = 16) (hu : U32 xs) : (txtO N xs).length ≤ 100000 := by
  have hl : (arcsO N xs).length = N := by rw [arcsO_len hx]; omega
  have e : txtK N xs N = txtO N xs := by unfold txtK txtO; rw [List.take_of_length_le (by omega)]
  have := txtK_len N xs hu N
  rw [e] at this
  omega
set_option maxHeartbeats 8000000 in
theorem oidsBack_walk (f s : Int) (A : Option Addr) (l : List Int) (c : Nat) (w : World) (hT : Tabs w) (hf : 0 ≤ f ∧ f < 256) (hs : 0 ≤ s ∧ s < 4294967296) (hr : Kd.C (Kd.int .u32) w A l.length l) (hc : l.length ≤ c) (hu : U32 l) :
    Calls Tryz.prog 3 #[.agg #[.int .u8 f, .int .u32 s, .slice A l.length c]] w fun e w' => e = .returned (.bool true) ∧ Below w.heap.size w w' := by
  have S0 := (St.refl hT).alloc (.cells #[.int .u8 f, .int .u32 s, .slice A l.length c] 25)
  have X0 := Lib.hid (blk_new w (.cells #[.int .u8 f, .int .u32 s, .slice A l.length c] 25))
  have HA := Lib.hid (fun W (hW : Below w.heap.size w W) => aof_is f s A c l W hf hs (Kd.C_below hr hW) hc)
  have hx := xA_len f s l
  have hN := nA_lt f s l
  have hux := xA_u32 f s l hf hs hu
  have hk := xA_chk f s l hf hs
  generalize nA f s l = N at *
  generalize xA f s l = xs at *
  have hn := chkO_n hk
  have HX := Lib.hid hx
  have HP := Lib.hid (fun W => put_is N (N : Int) xs (encO N xs) (encO N xs).length W rfl hN hx hux hk rfl rfl)
  have HTX := Lib.hid (fun W hW => text_is N (N : Int) xs (txtO N xs) W rfl hN hx hux hk hW rfl)
  have HRP := Lib.hid (fun W => rput_any N xs W hx hux hk)
  have HRT := Lib.hid (fun W => rtext_any N xs W hx hux hk)
  have HBY := Lib.hid (enc_byt N xs hux hk)
  have HEL := Lib.hid (enc_len N xs hn.2 hx)
  have HTL := Lib.hid (txt_len N xs hn.2 hx hux)
  have HGE := Lib.hid (get_enc hx hux hk)
  have HPT := Lib.hid (parse_txt hx hux hk)
  have HCK := Lib.hid (fun W => check_any (N : Int) xs W hx (by omega))
  rw [hk] at HCK
  generalize encO N xs = E at *
  generalize txtO N xs = TX at *
  generalize hEl : E.length = EL at *
  have HEQ := Lib.hid hEl
  clear hx hux hk hn hN hu hs hf hr hEl
  go_enter Tryz.func3, Tryz.ntmps3
  go_upto_region 1 with fail
  generalize w.alloc (.cells #[.int .u8 f, .int .u32 s, .slice A l.length c] 25) = W0 at *
  go_upto_region 2 with (first
    | ((with_reducible refine gate_dst (N := 7) rfl ?_); refine wpList_load_row rfl 25 _ rfl w.heap.size rfl 25 #[.int .u8 f, .int .u32 s, .slice A l.length c] (0, 0) _ X0.out Tryz.underlying25 rfl infoA ?_)
    | (go_at_call 10; refine (HA.out _ S0.b).mono ?_; rintro e w1 ⟨rfl, hb1⟩; have S1 := S0.next hb1)
    | ((with_reducible refine gate_store rfl ?_); refine wpList_plain rfl fun K hK => ?_; refine wp_store_row 28 _ _ rfl w1.heap.size (oidC (N : Int) xs) rfl rfl 28 (oidC 0 Z16) (blk_new w1 _) (oid_info _ _ HX.out) (by simp [HX.out]) (oid_one _ _) ?_; refine hK _ _ ?_))
  have X2 := Lib.hid (boxed_at w1 (N : Int) xs)
  have S2 := S1.next (boxed_below w1 (N : Int) xs)
  rw [zrow]
  change Code.wp _ _ _ _ (boxed w1 (N : Int) xs)
  generalize boxed w1 (N : Int) xs = W2 at *
  go_wp2_with (first
    | ((with_reducible refine gate_dst (N := 10) rfl ?_); (try (refine gate_guard (by rfl) ?_; dsimp only)); refine wpList_load_row rfl 28 _ rfl (w1.heap.size) rfl 28 (oidC (N : Int) xs) (0, 0) _ X2.out Tryz.underlying28 rfl (oid_info _ _ HX.out) ?_)
    | (go_at_call 11; refine (HP.out _).mono ?_; rintro e w3 ⟨g, rfl, -, ho, hb⟩; have S3 := S2.next hb; have X3 := Lib.hid (blk_below X2.out hb); have O3 := Lib.hid ho; clear ho hb)
    | ((with_reducible refine gate_dst (N := 14) rfl ?_); (try (refine gate_guard (by rfl) ?_; dsimp only)); refine wpList_load_row rfl 28 _ rfl (w1.heap.size) rfl 28 (oidC (N : Int) xs) (0, 0) _ X3.out Tryz.underlying28 rfl (oid_info _ _ HX.out) ?_)
    | (go_at_call 12; refine (HTX.out _ S3.t).mono ?_; rintro e w4 ⟨rfl, hb⟩; have S4 := S3.next hb; have X4 := Lib.hid (blk_below X3.out hb); have O4 := Lib.hid (O3.out.next hb); clear hb)
    | ((with_reducible refine gate_dst (N := 18) rfl ?_); (try (refine gate_guard (by rfl) ?_; dsimp only)); refine wpList_load_row rfl 28 _ rfl (w1.heap.size) rfl 28 (oidC (N : Int) xs) (0, 0) _ X4.out Tryz.underlying28 rfl (oid_info _ _ HX.out) ?_)
    | (go_at_call 14; refine (HRP.out _).mono ?_; rintro e w5 ⟨A5, c5, rfl, hr5, hb⟩; have S5 := S4.next hb; have X5 := Lib.hid (blk_below X4.out hb); have O5 := Lib.hid (O4.out.next hb); have R5 := Lib.hid hr5; clear hr5 hb)
    | (go_at_call 13; refine (same_enc E EL g A5 c5 _ HEQ.out HBY.out O5.out (by rw [HEQ.out]; exact R5.out)).mono ?_; rintro e w6 ⟨rfl, hb⟩; have S6 := S5.next hb; have X6 := Lib.hid (blk_below X5.out hb); have O6 := Lib.hid (O5.out.next hb); clear hb)
    | ((with_reducible refine gate_dst (N := 23) rfl ?_); (try (refine gate_guard (by rfl) ?_; dsimp only)); refine wpList_load_row rfl 28 _ rfl (w1.heap.size) rfl 28 (oidC (N : Int) xs) (0, 0) _ X6.out Tryz.underlying28 rfl (oid_info _ _ HX.out) ?_)
    | (go_at_call 15; refine (read_is E EL g EL N xs 0 N 0 xs true _ HEQ.out (by rw [HEQ.out]; exact HEL.out) HBY.out HX.out HGE.out (by simp) O6.out).mono ?_; rintro e w7 ⟨rfl, hb⟩; have S7 := S6.next hb; have X7 := Lib.hid (blk_below X6.out hb); clear hb)
    | ((with_reducible refine gate_dst (N := 28) rfl ?_); (try (refine gate_guard (by rfl) ?_; dsimp only)); refine wpList_load_row rfl 28 _ rfl (w1.heap.size) rfl 28 (oidC (N : Int) xs) (0, 0) _ X7.out Tryz.underlying28 rfl (oid_info _ _ HX.out) ?_)
    | (go_at_call 16; refine (HRT.out _).mono ?_; rintro e w8 ⟨rfl, hb⟩; have S8 := S7.next hb; have X8 := Lib.hid (blk_below X7.out hb); clear hb)
    | ((with_reducible refine gate_dst (N := 34) rfl ?_); (try (refine gate_guard (by rfl) ?_; dsimp only)); refine wpList_load_row rfl 28 _ rfl (w1.heap.size) rfl 28 (oidC (N : Int) xs) (0, 0) _ X8.out Tryz.underlying28 rfl (oid_info _ _ HX.out) ?_)
    | (go_at_call 17; refine (parsed_is TX N xs 0 N 0 xs true _ HTL.out S8.t HX.out HPT.out (by simp)).mono ?_; rintro e w9 ⟨rfl, hb⟩; have S9 := S8.next hb; have X9 := Lib.hid (blk_below X8.out hb); clear hb)
    | ((with_reducible refine gate_dst (N := 38) rfl ?_); (try (refine gate_guard (by rfl) ?_; dsimp only)); refine wpList_load_row rfl 28 _ rfl (w1.heap.size) rfl 28 (oidC (N : Int) xs) (0, 0) _ X9.out Tryz.underlying28 rfl (oid_info _ _ HX.out) ?_)
    | (go_at_call 18; refine (HCK.out _).mono ?_; rintro e w10 ⟨rfl, hb⟩; have S10 := S9.next hb; clear hb)
    | (go_at_call 19; refine (lives_yes _ S10.t).mono ?_; rintro e w' ⟨rfl, hb⟩; have SL := St.next S10 hb; clear hb))
  go_ret
  exact ⟨rfl, SL.b⟩
end Go.Proofs.YtacpcagijfacnaaGreatDoor
