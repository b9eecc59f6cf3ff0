/- Chapter 6 (oids): the reference's Put. -/
import Derived.Test.YtacpcagijfacnaaGreatDoorWv
namespace Go.Proofs.YtacpcagijfacnaaGreatDoor
open Go.RowKit Go.Shelf
open Go.Proofs.YtacpcagijfacnaaGreatDoorW.PrintWords (bt rd Ev at_rounds gate_guard gate_dst gate_store Kd.C_below Kd.C_of_reads Kd.reads_of_C ReadsOf.at_ rdOf blk_new blk_below blk_cell blk_alloc blk_lt blk_frozen blk_drew blk_set Kd.C Kd.int Kd.R Kd.R_nil Kd.R_slice Kd.R_reads' Kd.R_below Kd.R_lower Kd.R_append_rows)
set_option linter.unusedSimpArgs false
set_option linter.unusedVariables false
set_option maxRecDepth 50000
theorem w64 (z : Int) (h0 : 0 ≤ z) (h1 : z < 8589934592) : wrap64 z = z := by unfold wrap64; omega
theorem tm (z : Int) (h0 : 0 ≤ z) : Int.tmod z 128 = z % 128 := Int.tmod_eq_emod_of_nonneg h0
theorem td (z : Int) (h0 : 0 ≤ z) : Int.tdiv z 128 = z / 128 := Int.tdiv_eq_ediv_of_nonneg h0
theorem grp_step (k : Nat) (x : Int) (acc : List Int) (h0 : 0 < x) (h1 : x < 4294967296) (ha : acc.length ≤ 10) :
    Pr.vidimusref02_Groups.l0 (k + 1) x acc = Pr.vidimusref02_Groups.l0 k (x / 128) ((128 + x % 128) :: acc) := by
  rw [Pr.vidimusref02_Groups.l0, if_pos (by omega : x > 0), Option.bind_some, if_pos (by simp; omega), td x (by omega), tm x (by omega), w64 _ (by omega) (by omega), w64 _ (by omega) (by omega), Int.emod_eq_of_lt (by omega) (by omega)]
  rfl
theorem grp_done (k : Nat) (acc : List Int) : Pr.vidimusref02_Groups.l0 (k + 1) 0 acc = some acc := by
  rw [Pr.vidimusref02_Groups.l0, if_neg (by decide)]
theorem grp_f (n : Int) (h0 : 0 ≤ n) (h1 : n < 4294967296) : Pr.vidimusref02_Groups.f 6 n = some (gl n) := by
  unfold Pr.vidimusref02_Groups.f gl
  rw [td n h0, tm n h0, w64 _ (by omega) (by omega), Int.emod_eq_of_lt (by omega : 0 ≤ n % 128) (by omega)]
  by_cases a : n < 128
  · rw [if_pos a, show n / 128 = 0 by omega, grp_done, show n % 128 = n by omega]
  · rw [if_neg a, grp_step _ _ _ (by omega) (by omega) (by simp)]
    by_cases b : n < 16384
    · rw [if_pos b, show n / 128 / 128 = 0 by omega, grp_done, show n / 128 % 128 = n / 128 by omega]
    · rw [if_neg b, grp_step _ _ _ (by omega) (by omega) (by simp)]
      by_cases c : n < 2097152
      · rw [if_pos c, show n / 128 / 128 / 128 = 0 by omega, grp_done, show n / 128 / 128 % 128 = n / 16384 by omega]
      · rw [if_neg c, grp_step _ _ _ (by omega) (by omega) (by simp)]
        by_cases d : n < 268435456
        · rw [if_pos d, show n / 128 / 128 / 128 / 128 = 0 by omega, grp_done, show n / 128 / 128 / 128 % 128 = n / 2097152 by omega, show n / 128 / 128 % 128 = n / 16384 % 128 by omega]
        · rw [if_neg d, grp_step _ _ _ (by omega) (by omega) (by simp), show n / 128 / 128 / 128 / 128 / 128 = 0 by omega, grp_done, show n / 128 / 128 / 128 / 128 % 128 = n / 268435456 by omega, show n / 128 / 128 / 128 % 128 = n / 2097152 % 128 by omega, show n / 128 / 128 % 128 = n / 16384 % 128 by omega]
theorem flatgl_len : ∀ l : List Int, (l.flatMap gl).length ≤ 5 * l.length
  | [] => by simp
  | a :: r => by rw [List.flatMap_cons, List.length_append, List.length_cons]; have := (gl_len a).2; have := flatgl_len r; omega
/-- The octets so far. -/
def encK (N : Nat) (xs : List Int) (j : Nat) : List Int := gl (xs.getD 1 0 + 40 * xs.getD 0 0) ++ (((arcsO N xs).drop 2).take (j - 2)).flatMap gl
theorem encK_len (N : Nat) (xs : List Int) (j : Nat) : (encK N xs j).length ≤ 5 + 5 * j := by
  unfold encK
  rw [List.length_append]
  have h1 := (gl_len (xs.getD 1 0 + 40 * xs.getD 0 0)).2
  have h2 := flatgl_len (((arcsO N xs).drop 2).take (j - 2))
  have h3 : (((arcsO N xs).drop 2).take (j - 2)).length ≤ j - 2 := List.length_take_le _ _
  omega
theorem encK_two (N : Nat) (xs : List Int) : encK N xs 2 = gl (xs.getD 1 0 + 40 * xs.getD 0 0) := by unfold encK; simp
theorem encK_all (N : Nat) (xs : List Int) (hl : (arcsO N xs).length = N) : encK N xs N = encO N xs := by
  unfold encK encO subsO
  rw [List.flatMap_cons, List.take_of_length_le (by rw [List.length_drop, hl]; exact Nat.le_refl _)]
theorem encK_next (N : Nat) (xs : List Int) (j : Nat) (h2 : 2 ≤ j) (hj : j < N) (h16 : N ≤ 16) (hx : xs.length = 16) : encK N xs (j + 1) = encK N xs j ++ gl (xs.getD j 0) := by
  have hl : (arcsO N xs).length = N := by rw [arcsO_len hx]; omega
  have e : (arcsO N xs).getD j 0 = xs.getD j 0 := by unfold arcsO; exact getD_take (by omega)
  unfold encK
  rw [show j + 1 - 2 = (j - 2) + 1 by omega, List.take_add_one, List.getElem?_drop, show 2 + (j - 2) = j by omega, List.flatMap_append, List.append_assoc]
  congr 2
  rw [← e, List.getD_eq_getElem?_getD, List.getElem?_eq_getElem (by omega)]
  simp
structure R8 (W0 : World) (B : Nat) (v : Value) (S : List Int) (W : World) : Prop where
  b : Below B W0 W
  o : Kd.R (Kd.int .u8) 5 W B (fun _ => True) v S
theorem info5r : (Tryz.prog.info? 5).map (fun i => (i.zero, i.size, i.bytes)) = some (some (.int .u8 0), 1, 1) := by kernel_rfl
set_option maxHeartbeats 8000000 in
theorem rput_any (N : Nat) (xs : List Int) (w : World) (hx : xs.length = 16) (hu : U32 xs) (h0 : chkO (N : Int) xs = 0) :
    Calls Tryz.prog 14 #[oidV (N : Int) xs] w fun e w' => ∃ A c, e = .returned (.slice A (encO N xs).length c) ∧ Kd.C (Kd.int .u8) w' A (encO N xs).length (encO N xs) ∧ Below w.heap.size w w' := by
  obtain ⟨k0, k1, k2⟩ := chkO_ok h0
  have hn := chkO_n h0
  have hl : (arcsO N xs).length = N := by rw [arcsO_len hx]; omega
  have HE := Lib.hid (encK_all N xs hl)
  have H2 := Lib.hid (encK_two N xs)
  have HNX := Lib.hid (fun j h2 hj => encK_next N xs j h2 hj hn.2 hx)
  have HU := Lib.hid hu
  have HLEN := Lib.hid (encK_len N xs)
  obtain ⟨n2, n16⟩ := hn
  have u0 := (hu.getD 0)
  have u1 := (hu.getD 1)
  have hb := (Below.refl w.heap.size w).alloc (Nat.le_refl _) (.cells (oidC (N : Int) xs) 28)
  have hB := blk_new w (.cells (oidC (N : Int) xs) 28)
  have hsz : (w.alloc (.cells (oidC (N : Int) xs) 28)).heap.size = w.heap.size + 1 := by simp
  have hG := grp_f (40 * xs.getD 0 0 + xs.getD 1 0) (by omega) (by omega)
  rw [show 40 * xs.getD 0 0 + xs.getD 1 0 = xs.getD 1 0 + 40 * xs.getD 0 0 by omega, ← H2.out, show xs.getD 1 0 + 40 * xs.getD 0 0 = 40 * xs.getD 0 0 + xs.getD 1 0 by omega] at hG
  have HG := Lib.hid hG
  clear hG hl hu h0
  go_enter Tryz.func14, Tryz.ntmps14
  go_upto_region 1 with fail
  generalize w.alloc (.cells (oidC (N : Int) xs) 28) = W at *
  have c0 := (oid_cells hB).2 0 (by omega)
  have c1 := (oid_cells hB).2 1 (by omega)
  have CA := Lib.hid (fun (W' : World) (hb' : Below (w.heap.size + 1) W W') => oid_cells ((hb'.block w.heap.size (by omega)).trans hB))
  have HB := Lib.hid hb
  have HS := Lib.hid hsz
  have HX := Lib.hid hx
  obtain ⟨k0a, k0b⟩ := u0
  obtain ⟨k1a, k1b⟩ := u1
  clear k1 hb hB hsz hx
  generalize xs.getD 0 0 = a0 at *
  generalize xs.getD 1 0 = a1 at *
  go_upto_region 3 with (go_at_call 56; refine (Pr.vidimusref02_Groups.calls 6 (40 * a0 + a1) (encK N xs 2) _ HG.out).mono ?_; rintro e w1 ⟨v1, rfl, ho1, hb1⟩; obtain ⟨A1, cc1, rfl⟩ := Kd.R_slice ho1; have T1 : Hid (R8 W (w.heap.size + 1) (.slice A1 (encK N xs 2).length cc1) (encK N xs 2) w1) := ⟨by rw [← HS.out]; exact hb1, by rw [← HS.out]; exact ho1⟩; clear ho1 hb1)
  clear c0 c1
  go_loopw [3, 4] (fun v i wr => ∃ j : Nat, 2 ≤ j ∧ j ≤ N ∧ i = .int .i64 (j : Int) ∧ Hid (R8 W (w.heap.size + 1) v (encK N xs j) wr)) (fun _ i _ => N - (intOf i).toNat)
  case atStart => exact ⟨2, Nat.le_refl _, n2, rfl, T1⟩
  case round =>
    obtain ⟨j, hj2, hjN, rfl, R⟩ := hrel
    obtain ⟨A2, cc2, rfl⟩ := Kd.R_slice R.out.o
    obtain ⟨cn, ca⟩ := CA.out _ R.out.b
    by_cases hlt : j < N
    · have hltI : (j : Int) < (N : Int) := by omega
      have hj16 : j < 16 := by omega
      have cj := ca j (by rw [HX.out]; omega)
      clear ca
      have hxj := HU.out.getD j
      have hgj := grp_f (xs.getD j 0) hxj.1 hxj.2
      have HNJ := Lib.hid (HNX.out j hj2 hlt)
      have hlj := HLEN.out j
      generalize xs.getD j 0 = xj at *
      have HGJ := Lib.hid hgj
      obtain ⟨xj0, xj1⟩ := hxj
      have hgl := (gl_len xj).2
      clear hgj
      generalize gl xj = gx at *
      generalize encK N xs j = E0 at *
      have hln : ¬ j = N := by omega
      go_wp2_with (first
        | (go_at_call 56; refine (Pr.vidimusref02_Groups.calls 6 xj gx _ HGJ.out).mono ?_; rintro e w3 ⟨v3, rfl, ho3, hb3⟩; obtain ⟨A3, cc3, rfl⟩ := Kd.R_slice ho3; have HO3 := Lib.hid (Kd.R_reads' ho3).2.2; have T3 : Hid (R8 W (w.heap.size + 1) (.slice A2 E0.length cc2) E0 w3) := ⟨R.out.b.trans (hb3.mono (by have := R.out.b.size; rw [HS.out] at this; exact this)), Kd.R_below R.out.o hb3⟩; clear ho3 hb3)
        | ((with_reducible refine gate_dst (N := 30) rfl ?_); refine Kd.R_append_rows (Kd.int .u8) (w0 := W) (w.heap.size + 1) rfl (.tmp 23) (.tmp 29) 30 5 (.int .u8 0) 1 rfl Tryz.underlying30 info5r rfl (by decide) (by decide) (.slice A2 E0.length cc2) E0 gx A3 gx.length cc3 (fun _ => True) (fun _ => False) rfl rfl T3.out.o HO3.out (fun _ _ h => h) (fun _ h => h.elim) (fun _ _ => trivial) T3.out.b (by have := T3.out.b.size; rw [HS.out] at this; exact this) (by omega) ?_; intro v4 w4 ho4 hb4 hg4 hat4; have T4 : Hid (R8 W (w.heap.size + 1) v4 (E0 ++ gx) w4) := ⟨hb4, ho4⟩; clear ho4 hb4 hg4 hat4))
      go_round
      case rel => exact ⟨j + 1, by omega, by omega, by go_num, by rw [HNJ.out]; exact T4⟩
      case measure => simp [intOf]; omega
    · obtain rfl : j = N := by omega
      clear ca
      go_wp2
      go_ret
      refine ⟨A2, cc2, ?_, ?_, HB.out.trans (R.out.b.mono (by omega))⟩
      · rw [← HE.out]; rfl
      · rw [← HE.out]; exact (Kd.R_reads' R.out.o).2.2
end Go.Proofs.YtacpcagijfacnaaGreatDoor
