/- Chapter 6 (oids): the reference's Text. -/
import Derived.Test.YtacpcagijfacnaaGreatDoorMa
namespace Go.Proofs.YtacpcagijfacnaaGreatDoor
open Go.RowKit Go.Shelf
open Go.Proofs.YtacpcagijfacnaaGreatDoorW.PrintWords (bt rd Ev at_rounds gate_guard gate_dst gate_store Kd.C_below Kd.C_of_reads Kd.reads_of_C ReadsOf.at_ rdOf blk_new blk_below blk_cell blk_alloc blk_lt blk_frozen blk_drew blk_set Kd.C Kd.int Kd.R Kd.R_nil Kd.R_slice Kd.R_reads' Kd.R_below Kd.R_lower Kd.R_append_rows)
set_option linter.unusedSimpArgs false
set_option linter.unusedVariables false
set_option maxRecDepth 50000
/-- The digits, the last one ahead. -/
def lsd (u : Nat) : List Int := if h : u = 0 then [] else ((u % 10 : Nat) : Int) :: lsd (u / 10)
termination_by u
decreasing_by omega
def chr (d : Int) : UInt8 := UInt8.ofNat (48 + d.toNat)
theorem lsd_dd (u : Nat) (h0 : u ≠ 0) : ((lsd u).reverse.map chr) = Lib.decDigits u := by
  induction u using Nat.strongRecOn with
  | _ u ih =>
    rw [lsd, dif_neg h0]
    by_cases h : u < 10
    · rw [dd_one h, show u / 10 = 0 by omega, lsd, dif_pos rfl]
      simp [chr, Nat.mod_eq_of_lt h]
    · rw [dd_more h, List.reverse_cons, List.map_append, ih (u / 10) (by omega) (by omega)]
      show _ ++ [UInt8.ofNat (48 + ((u % 10 : Nat) : Int).toNat)] = _
      rw [Int.toNat_natCast]
theorem lsd_dig (u : Nat) : ∀ d ∈ lsd u, 0 ≤ d ∧ d < 10 := by
  induction u using Nat.strongRecOn with
  | _ u ih =>
    rw [lsd]
    by_cases h0 : u = 0
    · rw [dif_pos h0]; intro d hd; cases hd
    · rw [dif_neg h0]
      intro d hd
      rcases List.mem_cons.mp hd with rfl | hd
      · omega
      · exact ih (u / 10) (by omega) d hd
theorem lsd_len (k : Nat) : ∀ u : Nat, u < 10 ^ k → (lsd u).length ≤ k := by
  induction k with
  | zero => intro u h; rw [lsd, dif_pos (by simpa using h)]; simp
  | succ k ih =>
    intro u h
    rw [lsd]
    by_cases h0 : u = 0
    · rw [dif_pos h0]; simp
    · rw [dif_neg h0]
      have := ih (u / 10) (by rw [Nat.pow_succ] at h; omega)
      simp only [List.length_cons]; omega
theorem small_l0 (u : Nat) : ∀ (acc : List Int), u < 4294967296 → acc.length + (lsd u).length ≤ 100 → Ev (fun k => Pr.vidimusref01_Small.l0 k (u : Int) acc) (acc ++ lsd u) := by
  induction u using Nat.strongRecOn with
  | _ u ih =>
    intro acc hu hl
    by_cases h0 : u = 0
    · subst h0
      refine Ev.step (f := fun _ => some (acc ++ lsd 0)) (fun k => ?_) (Ev.now _)
      rw [Pr.vidimusref01_Small.l0, if_neg (by simp), lsd, dif_pos rfl, List.append_nil]
    · have e : lsd u = ((u % 10 : Nat) : Int) :: lsd (u / 10) := by rw [lsd, dif_neg h0]
      rw [e] at hl ⊢
      simp only [List.length_cons] at hl
      have := ih (u / 10) (by omega) (acc ++ [((u % 10 : Nat) : Int)]) (by omega) (by simp; omega)
      rw [List.append_assoc, List.singleton_append] at this
      refine Ev.step (fun k => ?_) this
      have t1 : Int.tdiv (u : Int) 10 = ((u / 10 : Nat) : Int) := by rw [Int.tdiv_eq_ediv_of_nonneg (by omega)]; omega
      have t2 : Int.tmod (u : Int) 10 = ((u % 10 : Nat) : Int) := by rw [Int.tmod_eq_emod_of_nonneg (by omega)]; omega
      rw [Pr.vidimusref01_Small.l0, if_pos (by omega), if_pos (by omega), t1, t2, show wrap64 ((u / 10 : Nat) : Int) = ((u / 10 : Nat) : Int) by unfold wrap64; omega]
theorem piece : ∀ d : Nat, d < 10 → ((⟨#[48, 49, 50, 51, 52, 53, 54, 55, 56, 57]⟩ : ByteArray).extract d (d + 1)) = ⟨#[chr d]⟩ := by
  intro d hd
  match d, hd with
  | 0, _ => rfl
  | 1, _ => rfl
  | 2, _ => rfl
  | 3, _ => rfl
  | 4, _ => rfl
  | 5, _ => rfl
  | 6, _ => rfl
  | 7, _ => rfl
  | 8, _ => rfl
  | 9, _ => rfl
theorem text_l0 (L : List Int) (hd : ∀ d ∈ L, 0 ≤ d ∧ d < 10) (hL : L.length ≤ 100) : ∀ (n : Nat) (acc : List UInt8), n ≤ L.length → acc.length + n ≤ 100 →
    Ev (fun k => Pr.vidimusref01_D_Text.l0 k L ⟨acc.toArray⟩ ((n : Int) - 1)) (⟨(acc ++ (L.take n).reverse.map chr).toArray⟩ : ByteArray)
  | 0, acc, _, _ => by
    refine Ev.step (f := fun _ => some (⟨(acc ++ (L.take 0).reverse.map chr).toArray⟩ : ByteArray)) (fun k => ?_) (Ev.now _)
    rw [Pr.vidimusref01_D_Text.l0, if_neg (by omega)]
    simp
  | n + 1, acc, hn, ha => by
    have hx := hd L[n] (List.getElem_mem (by omega))
    obtain ⟨x, hxe⟩ : ∃ x : Nat, L[n] = (x : Int) := ⟨L[n].toNat, by omega⟩
    have hrd : rd L (((n + 1 : Nat) : Int) - 1) = (x : Int) := by
      unfold rd
      rw [show (((n + 1 : Nat) : Int) - 1).toNat = n by omega, List.getD_eq_getElem?_getD, List.getElem?_eq_getElem (by omega), Option.getD_some, hxe]
    have ih := text_l0 L hd hL n (acc ++ [chr x]) (by omega) (by simp; omega)
    have e : acc ++ (L.take (n + 1)).reverse.map chr = (acc ++ [chr x]) ++ (L.take n).reverse.map chr := by
      rw [List.take_add_one, List.getElem?_eq_getElem (by omega)]
      simp [hxe]
    rw [e]
    refine Ev.step (fun k => ?_) ih
    have w1 : wrap64 ((x : Int) + 1) = ((x + 1 : Nat) : Int) := by unfold wrap64; omega
    have w2 : wrap64 (((n + 1 : Nat) : Int) - 1 - 1) = (n : Int) - 1 := by unfold wrap64; omega
    have hp := piece x (by omega)
    rw [Pr.vidimusref01_D_Text.l0, if_pos (by omega), if_pos (by omega), if_pos (by omega), hrd, if_pos (by omega), w1, if_pos (by omega), if_pos (by omega), w2, Int.toNat_natCast, Int.toNat_natCast, hp]
    rw [if_pos (by
      show acc.toArray.size + 1 ≤ _
      simp; omega)]
    have e2 : (⟨acc.toArray⟩ : ByteArray) ++ ⟨#[chr x]⟩ = ⟨(acc ++ [chr x]).toArray⟩ := by
      apply ByteArray.ext
      rw [ByteArray.data_append]
      simp
    rw [e2]
theorem small_f (u : Nat) (hu : u < 4294967296) : Ev (fun k => Pr.vidimusref01_Small.f k (u : Int)) (lsd u) := by
  have hl := lsd_len 10 u (by omega)
  exact small_l0 u [] hu (by simp; omega)
theorem dtext_f (u : Nat) (hu : u < 4294967296) : Ev (fun k => Pr.vidimusref01_D_Text.f k (lsd u)) (⟨(Lib.decDigits u).toArray⟩ : ByteArray) := by
  have hl := lsd_len 10 u (by omega)
  by_cases h0 : u = 0
  · subst h0
    have e : lsd 0 = [] := by rw [lsd, dif_pos rfl]
    rw [e]
    exact ⟨0, fun k _ => by rw [dd_one (by omega)]; rfl⟩
  · have hne : (lsd u).length ≠ 0 := by rw [lsd, dif_neg h0]; simp
    have := text_l0 (lsd u) (lsd_dig u) (by omega) (lsd u).length [] (Nat.le_refl _) (by simp; omega)
    rw [List.take_length, List.nil_append, lsd_dd u h0] at this
    refine Ev.congr (fun k => ?_) this
    unfold Pr.vidimusref01_D_Text.f
    rw [if_neg (by omega), show wrap64 (((lsd u).length : Int) - 1) = ((lsd u).length : Int) - 1 by unfold wrap64; omega]
theorem app (a b : List UInt8) : (⟨a.toArray⟩ : ByteArray) ++ ⟨b.toArray⟩ = ⟨(a ++ b).toArray⟩ := by
  apply ByteArray.ext
  rw [ByteArray.data_append]
  simp
/-- Small and Text: the numeral. -/
theorem small_is (u : Nat) (hu : u < 4294967296) (w : World) : Calls Tryz.prog 58 #[.int .i64 (u : Int)] w fun e w' => ∃ A c, e = .returned (.slice A (lsd u).length c) ∧ Kd.C (Kd.int .i64) w' A (lsd u).length (lsd u) ∧ (lsd u).length ≤ c ∧ Below w.heap.size w w' := by
  obtain ⟨K, h⟩ := small_f u hu
  refine (Pr.vidimusref01_Small.calls K (u : Int) (lsd u) w (h K (Nat.le_refl _))).mono ?_
  rintro e w' ⟨v, rfl, ho, hb⟩
  obtain ⟨A, c, rfl⟩ := Kd.R_slice ho
  exact ⟨A, c, rfl, (Kd.R_reads' ho).2.2, (Kd.R_reads' ho).2.1, hb⟩
theorem dtext_is (u : Nat) (hu : u < 4294967296) (A : Option Addr) (c : Nat) (w : World) (hr : Kd.C (Kd.int .i64) w A (lsd u).length (lsd u)) (hc : (lsd u).length ≤ c) : Calls Tryz.prog 59 #[.slice A (lsd u).length c] w fun e w' => e = .returned (.string ⟨(Lib.decDigits u).toArray⟩) ∧ Below w.heap.size w w' := by
  obtain ⟨K, h⟩ := dtext_f u hu
  exact (Pr.vidimusref01_D_Text.calls K A c (lsd u) _ w hr hc (h K (Nat.le_refl _))).mono fun e w' ⟨he, hd⟩ => ⟨he, drawn_below hd⟩
/-- The text so far. -/
def txtK (N : Nat) (xs : List Int) (j : Nat) : List UInt8 := Lib.join (((arcsO N xs).take j).map digO) [46]
theorem join_snoc : ∀ (l : List (List UInt8)) (d : List UInt8), l ≠ [] → Lib.join (l ++ [d]) [46] = Lib.join l [46] ++ (46 :: d)
  | [], d, h => absurd rfl h
  | [a], d, _ => by rw [Lib.join_one, List.singleton_append, join_head a [d] (by simp), Lib.join_one]
  | a :: b :: r, d, _ => by
    rw [List.cons_append, join_head a (b :: r ++ [d]) (by simp), join_snoc (b :: r) d (by simp), join_head a (b :: r) (by simp)]
    simp
theorem txtK_next (N : Nat) (xs : List Int) (j : Nat) (hj : j < N) (h16 : N ≤ 16) (hx : xs.length = 16) : txtK N xs (j + 1) = (if 0 < j then txtK N xs j ++ [46] else txtK N xs j) ++ digO (xs.getD j 0) := by
  have hl : (arcsO N xs).length = N := by rw [arcsO_len hx]; omega
  have e : (arcsO N xs).getD j 0 = xs.getD j 0 := by unfold arcsO; exact getD_take (by omega)
  unfold txtK
  rw [List.take_add_one, List.getElem?_eq_getElem (by omega), List.map_append]
  have e2 : (arcsO N xs)[j]'(by omega) = xs.getD j 0 := by rw [← e, List.getD_eq_getElem?_getD, List.getElem?_eq_getElem (by omega)]; rfl
  simp only [Option.toList_some, List.map_cons, List.map_nil, e2]
  by_cases h0 : 0 < j
  · rw [if_pos h0, join_snoc _ _ (by intro h; rw [List.map_eq_nil_iff] at h; have h2 := congrArg List.length h; rw [List.length_take, List.length_nil] at h2; omega)]
    simp
  · obtain rfl : j = 0 := by omega
    rw [if_neg h0]
    simp [Lib.join_one, Lib.join_nil]
theorem txtK_len (N : Nat) (xs : List Int) (hu : U32 xs) (j : Nat) : (txtK N xs j).length ≤ 21 * j := by
  unfold txtK
  have h1 := join_len (((arcsO N xs).take j).map digO) (fun x hx => by
    obtain ⟨y, hy, rfl⟩ := List.mem_map.mp hx
    have := hu y (List.mem_of_mem_take (List.mem_of_mem_take hy))
    exact dig_len (by omega))
  rw [List.length_map] at h1
  have : ((arcsO N xs).take j).length ≤ j := List.length_take_le _ _
  omega
theorem rtext_err (N : Nat) (xs : List Int) (w : World) (hx : xs.length = 16) (hN : N < 256) (hr : chkO (N : Int) xs = 1) :
    Calls Tryz.prog 16 #[oidV (N : Int) xs] w fun e w' => e = .returned (.string ⟨#[63]⟩) ∧ Below w.heap.size w w' := by
  have CX := Lib.hid (fun W => rcheck_any N xs W hx hN)
  rw [hr] at CX
  have HX := Lib.hid hx
  have hb := (Below.refl w.heap.size w).alloc (Nat.le_refl _) (.cells (oidC (N : Int) xs) 28)
  have hB := Lib.hid (blk_new w (.cells (oidC (N : Int) xs) 28))
  clear hx hr
  go_enter Tryz.func16, Tryz.ntmps16
  go_wp2_with (first
    | ((with_reducible refine gate_dst (N := 5) rfl ?_); refine wpList_load_row rfl 28 _ rfl w.heap.size rfl 28 (oidC (N : Int) xs) (0, 0) _ hB.out Tryz.underlying28 rfl (oid_info _ _ HX.out) ?_)
    | (go_at_call 20; refine (CX.out _).mono ?_; rintro e w1 ⟨rfl, hb1⟩))
  go_ret
  exact ⟨rfl, hb.trans (hb1.mono hb.size)⟩
set_option maxHeartbeats 8000000 in
theorem rtext_any (N : Nat) (xs : List Int) (w : World) (hx : xs.length = 16) (hu : U32 xs) (h0 : chkO (N : Int) xs = 0) :
    Calls Tryz.prog 16 #[oidV (N : Int) xs] w fun e w' => e = .returned (.string ⟨(txtO N xs).toArray⟩) ∧ Below w.heap.size w w' := by
  have hn := chkO_n h0
  have CX := Lib.hid (fun W => rcheck_any N xs W hx (by omega))
  rw [h0] at CX
  have hl : (arcsO N xs).length = N := by rw [arcsO_len hx]; omega
  have HE : Hid (txtK N xs N = txtO N xs) := by unfold txtK txtO; rw [List.take_of_length_le (by omega)]; rfl
  have HNX := Lib.hid (fun j hj => txtK_next N xs j hj hn.2 hx)
  have HU := Lib.hid hu
  have HLEN := Lib.hid (txtK_len N xs hu)
  have HX := Lib.hid hx
  obtain ⟨n2, n16⟩ := hn
  have hb := (Below.refl w.heap.size w).alloc (Nat.le_refl _) (.cells (oidC (N : Int) xs) 28)
  have hB := Lib.hid (blk_new w (.cells (oidC (N : Int) xs) 28))
  have HB := Lib.hid hb
  clear hx hu h0 hl hb
  go_enter Tryz.func16, Tryz.ntmps16
  go_upto_region 1 with fail
  generalize w.alloc (.cells (oidC (N : Int) xs) 28) = W at *
  go_upto_region 5 with (first
    | ((with_reducible refine gate_dst (N := 5) rfl ?_); refine wpList_load_row rfl 28 _ rfl w.heap.size rfl 28 (oidC (N : Int) xs) (0, 0) _ hB.out Tryz.underlying28 rfl (oid_info _ _ HX.out) ?_)
    | (go_at_call 20; refine (CX.out _).mono ?_; rintro e w1 ⟨rfl, hb1⟩; have B1 := Lib.hid (HB.out.trans (hb1.mono HB.out.size)); have X1 := Lib.hid (blk_below hB.out hb1); clear hb1))
  go_loopw [3, 4] (fun v i wr => ∃ (j : Nat) (X : ByteArray), j ≤ N ∧ i = .int .i64 (j : Int) ∧ v = .string X ∧ X.size ≤ 21 * j ∧ Hid (X = ⟨(txtK N xs j).toArray⟩) ∧ Hid (Below w.heap.size w wr) ∧ Hid (wr.heap[w.heap.size]? = some (.cells (oidC (N : Int) xs) 28 (0, 0)))) (fun _ i _ => N - (intOf i).toNat)
  case atStart => exact ⟨0, ⟨#[]⟩, Nat.zero_le _, rfl, rfl, Nat.le_refl _, Lib.hid rfl, B1, X1⟩
  case round =>
    obtain ⟨j, X, hjN, rfl, rfl, hsz, HXS, HBW, HXW⟩ := hrel
    obtain ⟨cn, ca⟩ := oid_cells HXW.out
    by_cases hlt : j < N
    · have hltI : (j : Int) < (N : Int) := by omega
      have cj := ca j (by rw [HX.out]; omega)
      clear ca
      have hxj := HU.out.getD j
      have HNJ := Lib.hid (HNX.out j hlt)
      have hlj := HLEN.out (j + 1)
      have hdl := dig_len (x := xs.getD j 0) (by omega)
      obtain ⟨u, hu⟩ : ∃ u : Nat, xs.getD j 0 = (u : Int) := ⟨(xs.getD j 0).toNat, by omega⟩
      rw [hu] at hxj cj HNJ hdl
      have hdu : digO (u : Int) = Lib.decDigits u := by unfold digO; rw [Int.toNat_natCast]
      rw [hdu] at HNJ hdl
      have hu32 : u < 4294967296 := by omega
      have huI : (u : Int) < 4294967296 := by omega
      have hu0 : (0 : Int) ≤ (u : Int) := by omega
      clear hu hdu hxj
      obtain ⟨Dg, hD⟩ : ∃ Dg : ByteArray, Dg = ⟨(Lib.decDigits u).toArray⟩ := ⟨_, rfl⟩
      have hDs : Dg.size = (Lib.decDigits u).length := by rw [hD, ByteArray.size]; simp
      have HD := Lib.hid hD
      have HSM := Lib.hid (fun W => small_is u hu32 W)
      have HDT := Lib.hid (fun (A : Option Addr) (c : Nat) (W : World) h1 h2 => dtext_is u hu32 A c W h1 h2)
      rw [← HD.out] at HDT
      clear hD
      by_cases hj0 : 0 < j
      · have hj0I : (0 : Int) < (j : Int) := by omega
        have p1 : X.size + 1 ≤ 9223372036854775807 := by omega
        have q1 := eq_true p1
        have r1 : decide (X.size + 1 ≤ 9223372036854775807) = true := decide_eq_true p1
        have s1 : (9223372036854775807 < X.size + 1) = False := eq_false (by omega)
        have hz2 : (X ++ ⟨#[46]⟩).size = X.size + 1 := by rw [ByteArray.size_append]; rfl
        obtain ⟨Y, hY⟩ : ∃ Y : ByteArray, X ++ ⟨#[46]⟩ = Y := ⟨_, rfl⟩
        rw [hY] at hz2
        have p2 : Y.size + Dg.size ≤ 9223372036854775807 := by omega
        have q2 := eq_true p2
        have r2 : decide (Y.size + Dg.size ≤ 9223372036854775807) = true := decide_eq_true p2
        have s2 : (9223372036854775807 < Y.size + Dg.size) = False := eq_false (by omega)
        have hfin : (Y ++ Dg).size ≤ 21 * (j + 1) := by
          have e := HXS.out
          rw [ByteArray.size_append]; omega
        have HF : Hid (Y ++ Dg = ⟨(txtK N xs (j + 1)).toArray⟩) := by
          show _ = _
          rw [HNJ.out, if_pos hj0, ← hY, HXS.out, HD.out, ← app, ← app]
        have HFS := Lib.hid hfin
        clear hfin hdl hlj p1 p2 hz2 hDs HNJ
        go_wp2_with (first
          | (go_at_call 58; refine (HSM.out _).mono ?_; rintro e w3 ⟨A3, c3, rfl, hr3, hc3, hb3⟩; have B3 := Lib.hid (HBW.out.trans (hb3.mono HBW.out.size)); have X3 := Lib.hid (blk_below HXW.out hb3); have HR3 := Lib.hid hr3; have HC3 := Lib.hid hc3; clear hr3 hc3 hb3)
          | (go_at_call 59; refine (HDT.out A3 c3 _ HR3.out HC3.out).mono ?_; rintro e w4 ⟨rfl, hb4⟩; have B4 := Lib.hid (B3.out.trans (hb4.mono B3.out.size)); have X4 := Lib.hid (blk_below X3.out hb4); clear hb4))
        go_round
        case rel => exact ⟨j + 1, Y ++ Dg, by omega, by go_num, by first | rfl | rw [← hY], HFS.out, HF, B4, X4⟩
        case measure => simp [intOf]; omega
      · obtain rfl : j = 0 := by omega
        have hz0 : X.size = 0 := by omega
        have p2 : X.size + Dg.size ≤ 9223372036854775807 := by omega
        have q2 := eq_true p2
        have r2 : decide (X.size + Dg.size ≤ 9223372036854775807) = true := decide_eq_true p2
        have s2 : (9223372036854775807 < X.size + Dg.size) = False := eq_false (by omega)
        have hfin : (X ++ Dg).size ≤ 21 * (0 + 1) := by rw [ByteArray.size_append]; omega
        have HF : Hid (X ++ Dg = ⟨(txtK N xs (0 + 1)).toArray⟩) := by
          show _ = _
          rw [HNJ.out, if_neg hj0, HXS.out, HD.out, ← app]
        have HFS := Lib.hid hfin
        clear hfin hdl hlj p2 hz0 hDs HNJ
        go_wp2_with (first
          | (go_at_call 58; refine (HSM.out _).mono ?_; rintro e w3 ⟨A3, c3, rfl, hr3, hc3, hb3⟩; have B3 := Lib.hid (HBW.out.trans (hb3.mono HBW.out.size)); have X3 := Lib.hid (blk_below HXW.out hb3); have HR3 := Lib.hid hr3; have HC3 := Lib.hid hc3; clear hr3 hc3 hb3)
          | (go_at_call 59; refine (HDT.out A3 c3 _ HR3.out HC3.out).mono ?_; rintro e w4 ⟨rfl, hb4⟩; have B4 := Lib.hid (B3.out.trans (hb4.mono B3.out.size)); have X4 := Lib.hid (blk_below X3.out hb4); clear hb4))
        go_round
        case rel => exact ⟨0 + 1, X ++ Dg, by omega, by go_num, rfl, HFS.out, HF, B4, X4⟩
        case measure => simp [intOf]; omega
    · obtain rfl : j = N := by omega
      clear ca
      go_wp2
      go_ret
      exact ⟨by rw [← HE.out, ← HXS.out]; rfl, HBW.out⟩
end Go.Proofs.YtacpcagijfacnaaGreatDoor
