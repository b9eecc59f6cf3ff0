/- Chapters 6, 7 (oids, oidsets): Parse. -/
import Derived.Test.YtacpcagijfacnaaDoorWm
namespace Go.Proofs.YtacpcagijfacnaaDoor
open Go.RowKit Go.Shelf
open Go.Proofs.YtacpcagijfacnaaDoorW.PrintWords (results_ct gate_guard gate_dst gate_store blk_new blk_below blk_cell blk_alloc blk_lt blk_frozen blk_drew blk_set)
set_option linter.unusedSimpArgs false
set_option linter.unusedVariables false
set_option maxRecDepth 50000
/-- The arcs that the pieces give. -/
def valsP (P : List (List UInt8)) : List Int := P.map fun p => ((min (valB p) 4294967295 : Nat) : Int)
/-- Parse, in plain data, of the pieces. -/
def parseL (P : List (List UInt8)) : Int × List Int × Int :=
  if P.all decB = true then
    if 16 < P.length then (0, Z16, 3)
    else if P.all (fun p => decide (valB p ≤ 4294967295)) = true then
      if chkO (P.length : Int) (pad (valsP P)) = 0 then ((P.length : Int), pad (valsP P), 0) else (0, Z16, 1)
    else (0, Z16, 3)
  else (0, Z16, 6)
/-- What stands while the pieces are gone through. -/
structure PaS (w : World) (P : List (List UInt8)) (n : Int) (O : Nat) (j : Nat) (W : World) : Prop where
  s : St w W
  r : W.heap[w.heap.size]? = some (.cells (oidC 0 Z16) 27 (0, 0))
  p : W.heap[w.heap.size + 1]? = some (.cells (strC P) 9 (0, 0))
  o : W.heap[O]? = some (.cells (oidC n (padK (valsP P) (min j 16))) 27 (0, 0))
theorem valsP_len (P : List (List UInt8)) : (valsP P).length = P.length := by unfold valsP; rw [List.length_map]
theorem valsP_at {P : List (List UInt8)} {j : Nat} (h : j < P.length) : (valsP P).getD j 0 = ((min (valB (P.getD j [])) 4294967295 : Nat) : Int) := by
  unfold valsP
  simp [List.getD, List.getElem?_eq_getElem h]
theorem PaS.next {w : World} {P : List (List UInt8)} {n : Int} {O j : Nat} {W W' : World} (h : PaS w P n O j W) (hb : Below W.heap.size W W') : PaS w P n O j W' :=
  ⟨h.s.next hb, blk_below h.r hb, blk_below h.p hb, blk_below h.o hb⟩
theorem PaS.skip {w : World} {P : List (List UInt8)} {n : Int} {O j : Nat} {W : World} (h : PaS w P n O j W) (hj : 16 ≤ j) : PaS w P n O (j + 1) W :=
  ⟨h.s, h.r, h.p, by have := h.o; rw [Nat.min_eq_right hj] at this; rw [Nat.min_eq_right (by omega)]; exact this⟩
theorem PaS.set {w : World} {P : List (List UInt8)} {n : Int} {O j : Nat} {W : World} (h : PaS w P n O j W) (hw : 3 < w.heap.size) (hO : w.heap.size + 1 < O) (hj : j < P.length) (h16 : j < 16) {v : Int} (hv : v = ((min (valB (P.getD j [])) 4294967295 : Nat) : Int)) :
    PaS w P n O (j + 1) (W.setCell ⟨O, 1 + j, none⟩ (.int .u32 v)) := by
  refine ⟨h.s.set hw (by show _ ≤ O; omega) _, ?_, ?_, ?_⟩
  · rw [Below.heap_setCell _ _ _ _ (by show w.heap.size ≠ O; omega)]; exact h.r
  · rw [Below.heap_setCell _ _ _ _ (by show w.heap.size + 1 ≠ O; omega)]; exact h.p
  · have h1 := h.o
    rw [Nat.min_eq_left (by omega : j ≤ 16)] at h1
    have h2 := blk_set h1 (1 + j) (.int .u32 v)
    rw [oid_set _ _ _ _ (by rw [padK_len _ j (by rw [valsP_len]; omega) (by omega)]; omega), hv, ← valsP_at hj, padK_set _ j (by rw [valsP_len]; omega) h16] at h2
    rw [hv, ← valsP_at hj, Nat.min_eq_left (by omega : j + 1 ≤ 16)]
    exact h2
theorem PaS.at_ {w : World} {P : List (List UInt8)} {n : Int} {O j : Nat} {W : World} (h : PaS w P n O j W) (hj : j < P.length) (h16 : j < 16) : ∃ v, W.cell? ⟨O, 1 + j, none⟩ = some v ∧ W.frozen? ⟨O, 1 + j, none⟩ = false := by
  have h1 := h.o
  rw [Nat.min_eq_left (by omega : j ≤ 16)] at h1
  exact ⟨_, (oid_cells h1).2 j (by rw [padK_len _ j (by rw [valsP_len]; omega) (by omega)]; omega), blk_frozen h1 _⟩
theorem PaS.zero {w : World} {P : List (List UInt8)} {W : World} (n : Int) (hs : St w W) (hr : W.heap[w.heap.size]? = some (.cells (oidC 0 Z16) 27 (0, 0))) (hp : W.heap[w.heap.size + 1]? = some (.cells (strC P) 9 (0, 0))) :
    PaS w P n W.heap.size 0 (W.alloc (.cells (oidC n Z16) 27)) :=
  ⟨hs.alloc _, blk_alloc hr _, blk_alloc hp _, blk_new _ _⟩
theorem all_take {P : List (List UInt8)} {f : List UInt8 → Bool} {j : Nat} (h : j < P.length) : (P.take (j + 1)).all f = ((P.take j).all f && f (P.getD j [])) := by
  rw [List.take_add_one, List.getElem?_eq_getElem h, Option.toList_some, List.all_append, List.getD_eq_getElem?_getD, List.getElem?_eq_getElem h, Option.getD_some]
  simp
theorem all_false {P : List (List UInt8)} {f : List UInt8 → Bool} {j : Nat} (h : j < P.length) (hf : f (P.getD j []) = false) : P.all f = false := by
  rw [Bool.eq_false_iff]
  intro ha
  rw [List.all_eq_true] at ha
  have := ha (P.getD j []) (by rw [List.getD_eq_getElem?_getD, List.getElem?_eq_getElem h, Option.getD_some]; exact List.getElem_mem h)
  rw [hf] at this; cases this
abbrev fit (p : List UInt8) : Bool := decide (valB p ≤ 4294967295)
set_option maxHeartbeats 8000000 in
theorem parse_any (l : List UInt8) (w : World) (hl : l.length ≤ 100000) (hT : Tabs w) (rn er : Int) (rx : List Int) (hres : parseL (splitP l) = (rn, rx, er)) :
    Calls Tryd.prog 30 #[.string ⟨l.toArray⟩] w fun e w' => e = .returned (.tuple #[oidV rn rx, .int .i64 er]) ∧ Below w.heap.size w w' := by
  have HRES := Lib.hid hres
  have S0 := Lib.hid ((St.refl hT).alloc (.cells (oidC 0 Z16) 27))
  have hB := Lib.hid (blk_new w (.cells (oidC 0 Z16) 27))
  have hsz : (w.alloc (.cells (oidC 0 Z16) 27)).heap.size = w.heap.size + 1 := by simp
  have HSP := Lib.hid (fun W hW => split_call l W (by omega) hW)
  have HP := Lib.hid (fun p hp => Nat.le_trans (splitP_each (l := l) p hp) (Nat.le_trans hl (by omega : 100000 ≤ 1000000)))
  have hPl : (splitP l).length ≤ 100001 := by have := splitP_len l; omega
  have hw3 := hT.five
  clear hres hT
  generalize splitP l = P at *
  have HC := Lib.hid (fun W hW => cf_is P (w.heap.size + 1) P.length W HP.out hW (by omega) (Nat.le_refl _))
  have pick : (P.all decB = true ∧ 16 < P.length) ∨ (P.all decB = true ∧ ¬ 16 < P.length) ∨ P.all decB = false := by
    cases h : P.all decB
    · exact .inr (.inr rfl)
    · by_cases h2 : 16 < P.length
      · exact .inl ⟨rfl, h2⟩
      · exact .inr (.inl ⟨rfl, h2⟩)
  rcases pick with ⟨hAll, h16⟩ | ⟨hAll, h16⟩ | hNot
  · rw [hAll] at HC
    obtain ⟨rfl, rfl, rfl⟩ : rn = 0 ∧ rx = Z16 ∧ er = 3 := by
      have hE := HRES.out
      unfold parseL at hE
      rw [if_pos hAll, if_pos h16] at hE
      injection hE with h1 h2; injection h2 with h2 h3; exact ⟨h1.symm, h2.symm, h3.symm⟩
    have h16i : (16 : Int) < (P.length : Int) := by omega
    go_enter Tryd.func30, Tryd.ntmps30
    go_upto_region 1 with fail
    rw [zrow]
    generalize w.alloc (.cells (oidC 0 (List.replicate 16 0)) 27) = W at *
    go_wp2_with (first
      | (go_at_call 37; refine (HSP.out _ S0.out.t).mono ?_; rintro e w1 ⟨rfl, hw1⟩; have S1 : Hid (St w w1) := (by rw [hw1]; exact S0.out.alloc _); have hB1 : Hid (w1.heap[w.heap.size]? = some (.cells (oidC 0 Z16) 27 (0, 0))) := (by rw [hw1]; exact blk_alloc hB.out _); have hP1 : Hid (w1.heap[w.heap.size + 1]? = some (.cells (strC P) 9 (0, 0))) := (by rw [hw1, ← hsz]; exact blk_new _ _); clear hw1; rw [hsz])
      | (go_at_call 38; refine (HC.out _ hP1.out).mono ?_; rintro e w2 ⟨rfl, hb⟩; have S2 := Lib.hid (S1.out.next hb); have hB2 := Lib.hid (blk_below hB1.out hb); clear hb)
      | ((with_reducible refine gate_store rfl ?_); refine wpList_plain rfl fun K hK => ?_; refine wp_store_row 27 _ _ rfl w.heap.size (oidC 0 Z16) rfl rfl 27 (oidC 0 Z16) hB2.out (oid_info _ _ rfl) rfl (oid_one _ _) ?_; refine hK _ _ ?_))
    refine bodyPost_ret (results_ct rfl _ _ w.heap.size 27 (oidC 0 Z16) (0, 0) _ rfl (setRow_heap _ _ _ _ _ _ hB2.out) Tryd.underlying27 rfl (oid_info _ _ rfl)) rfl ?_
    exact ⟨rfl, below_setRow S2.out.b (Nat.le_refl _) _⟩
  · have h16i : (P.length : Int) ≤ 16 := by omega
    have hx := hAll
    rw [hx] at HC
    have HX := Lib.hid hx
    clear hx
    have hO1 := Lib.hid (fun W hs hr hp => PaS.zero (w := w) (P := P) (W := W) (P.length : Int) hs hr hp)
    go_enter Tryd.func30, Tryd.ntmps30
    go_upto_region 1 with fail
    rw [zrow]
    generalize w.alloc (.cells (oidC 0 (List.replicate 16 0)) 27) = W at *
    go_upto_region 4 with (first
      | (go_at_call 37; refine (HSP.out _ S0.out.t).mono ?_; rintro e w1 ⟨rfl, hw1⟩; have S1 : Hid (St w w1) := (by rw [hw1]; exact S0.out.alloc _); have hB1 : Hid (w1.heap[w.heap.size]? = some (.cells (oidC 0 Z16) 27 (0, 0))) := (by rw [hw1]; exact blk_alloc hB.out _); have hP1 : Hid (w1.heap[w.heap.size + 1]? = some (.cells (strC P) 9 (0, 0))) := (by rw [hw1, ← hsz]; exact blk_new _ _); clear hw1; rw [hsz])
      | (go_at_call 38; refine (HC.out _ hP1.out).mono ?_; rintro e w2 ⟨rfl, hb⟩; have Z2 := Lib.hid (hO1.out w2 (S1.out.next hb) (blk_below hB1.out hb) (blk_below hP1.out hb)); have hPs : w.heap.size + 1 < w2.heap.size := blk_lt (blk_below hP1.out hb); clear hb))
    go_upto_region 5 with fail
    rw [show (#[.int .u8 (P.length : Int), .int .u32 0, .int .u32 0, .int .u32 0, .int .u32 0, .int .u32 0, .int .u32 0, .int .u32 0, .int .u32 0, .int .u32 0, .int .u32 0, .int .u32 0, .int .u32 0, .int .u32 0, .int .u32 0, .int .u32 0, .int .u32 0] : Array Value) = oidC (P.length : Int) Z16 from rfl]
    generalize w2.alloc (.cells (oidC (P.length : Int) Z16) 27) = W2 at *
    generalize w2.heap.size = O at *
    go_upto_region 7 with fail
    go_loopw [6, 29] (fun lg i W => ∃ (j : Nat) (b : Bool), j ≤ P.length ∧ lg = .bool b ∧ i = .int .i64 (j : Int) ∧ Hid (PaS w P (P.length : Int) O j W) ∧ Hid ((P.take j).all decB = true) ∧ Hid ((P.take j).all fit = !b)) (fun _ i _ => P.length - (intOf i).toNat)
    case atStart => exact ⟨0, false, Nat.zero_le _, rfl, rfl, Z2, Lib.hid rfl, Lib.hid rfl⟩
    case round =>
      obtain ⟨j, b, hj, rfl, rfl, T, HA, HL⟩ := hrel
      by_cases hlt : j < P.length
      · have cj := strC_at T.out.p hlt
        have hjn : ¬ j = P.length := by omega
        have hpl := HP.out (P.getD j []) (by rw [List.getD_eq_getElem?_getD, List.getElem?_eq_getElem hlt, Option.getD_some]; exact List.getElem_mem hlt)
        have HT1 := Lib.hid (all_take (f := decB) hlt)
        have HT2 := Lib.hid (all_take (f := fit) hlt)
        rw [HA.out, Bool.true_and] at HT1
        rw [HL.out] at HT2
        have HF := Lib.hid (all_false (f := decB) hlt)
        have HS := Lib.hid (fun W (h : PaS w P (P.length : Int) O j W) h16 v hv => PaS.set (v := v) h hw3 hPs hlt h16 hv)
        have HDC := Lib.hid (fun W => decimal_is (P.getD j []) W hpl)
        have HPO := Lib.hid (fun W hd hv => pu_ok (P.getD j []) W hpl hd hv)
        have HPB := Lib.hid (fun W hd hv hT => pu_big (P.getD j []) W hpl hd hv hT)
        generalize P.getD j [] = p at *
        cases hdec : decB p
        · obtain ⟨rfl, rfl, rfl⟩ : rn = 0 ∧ rx = Z16 ∧ er = 6 := by
            have hE := HRES.out
            unfold parseL at hE
            rw [if_neg (by rw [HF.out hdec]; decide)] at hE
            injection hE with h1 h2; injection h2 with h2 h3; exact ⟨h1.symm, h2.symm, h3.symm⟩
          rw [hdec] at HDC
          go_wp2_with (first | (go_at_call 40; refine (HDC.out _).mono ?_; rintro e w4 ⟨rfl, hb⟩; have T4 := Lib.hid (T.out.next hb); clear hb) | ((with_reducible refine gate_store rfl ?_); refine wpList_plain rfl fun K hK => ?_; refine wp_store_row 27 _ _ rfl w.heap.size (oidC 0 Z16) rfl rfl 27 (oidC 0 Z16) T4.out.r (oid_info _ _ rfl) rfl (oid_one _ _) ?_; refine hK _ _ ?_))
          refine bodyPost_ret (results_ct rfl _ _ w.heap.size 27 (oidC 0 Z16) (0, 0) _ rfl (setRow_heap _ _ _ _ _ _ T4.out.r) Tryd.underlying27 rfl (oid_info _ _ rfl)) rfl ?_
          exact ⟨rfl, below_setRow T4.out.s.b (Nat.le_refl _) _⟩
        · rw [hdec] at HDC HT1
          have hdec1 := Lib.hid hdec
          clear hdec HA HL
          by_cases hv : valB p ≤ 4294967295
          · have hvm : ((valB p : Nat) : Int) % 4294967296 = ((valB p : Nat) : Int) := by omega
            have hfit : fit p = true := decide_eq_true hv
            have hmin : ((valB p : Nat) : Int) = ((min (valB p) 4294967295 : Nat) : Int) := by omega
            have HV := Lib.hid hv
            have HM := Lib.hid hmin
            rw [hfit] at HT2
            clear hv hmin hfit
            by_cases h16 : j < 16
            · have h16j : (j : Int) < 16 := by omega
              cases b
              all_goals
                go_wp2_with (first | (go_at_call 40; refine (HDC.out _).mono ?_; rintro e w4 ⟨rfl, hb⟩; have T4 := Lib.hid (T.out.next hb); clear hb) | (go_at_call 41; refine (HPO.out _ hdec1.out HV.out).mono ?_; rintro e w5 ⟨rfl, hb⟩; have T5 := Lib.hid (T4.out.next hb); clear hb; have hat := T5.out.at_ hlt h16; obtain ⟨vj, cv, fv⟩ := hat))
                go_round
                case rel => exact ⟨j + 1, _, by omega, rfl, by go_num, Lib.hid (HS.out _ T5.out h16 _ HM.out), HT1, HT2⟩
                case measure => first | (simp [intOf]; omega) | (simp [intOf]; done) | omega
            · exfalso; omega
          · have hfit : fit p = false := decide_eq_false hv
            have hmin : (4294967295 : Int) = ((min (valB p) 4294967295 : Nat) : Int) := by omega
            have HV := Lib.hid hv
            have HM := Lib.hid hmin
            rw [hfit] at HT2
            clear hv hmin hfit
            by_cases h16 : j < 16
            · have h16j : (j : Int) < 16 := by omega
              cases b
              all_goals
                go_wp2_with (first | (go_at_call 40; refine (HDC.out _).mono ?_; rintro e w4 ⟨rfl, hb⟩; have T4 := Lib.hid (T.out.next hb); clear hb) | (go_at_call 41; refine (HPB.out _ hdec1.out HV.out T4.out.s.t).mono ?_; rintro e w5 ⟨NB, rfl, hb⟩; have T5 := Lib.hid (T4.out.next hb); clear hb; have hat := T5.out.at_ hlt h16; obtain ⟨vj, cv, fv⟩ := hat))
                go_round
                case rel => exact ⟨j + 1, _, by omega, rfl, by go_num, Lib.hid (HS.out _ T5.out h16 _ HM.out), HT1, HT2⟩
                case measure => first | (simp [intOf]; omega) | (simp [intOf]; done) | omega
            · exfalso; omega
      · obtain rfl : j = P.length := by omega
        have hE := HRES.out
        have hLf := HL.out
        rw [List.take_length] at hLf
        unfold parseL at hE
        rw [if_pos HX.out, if_neg (by omega), hLf] at hE
        have hO := T.out.o
        rw [Nat.min_eq_left (by omega : P.length ≤ 16), show padK (valsP P) P.length = pad (valsP P) by rw [← padK_all, valsP_len]] at hO
        have HO := Lib.hid hO
        have HPL : Hid ((pad (valsP P)).length = 16) := pad_len _ (by rw [valsP_len]; omega)
        clear hO hLf HL HA HRES
        cases b
        · rw [if_pos (by decide : (!false) = true)] at hE
          have HC2 := Lib.hid (fun W => check_any (P.length : Int) (pad (valsP P)) W HPL.out (by omega))
          by_cases hk : chkO (P.length : Int) (pad (valsP P)) = 0
          · rw [if_pos hk] at hE
            rw [hk] at HC2
            obtain ⟨rfl, rfl, rfl⟩ : rn = (P.length : Int) ∧ rx = pad (valsP P) ∧ er = 0 := by injection hE with h1 h2; injection h2 with h2 h3; exact ⟨h1.symm, h2.symm, h3.symm⟩
            clear hE hk
            go_wp2_with (first | ((with_reducible refine gate_dst (N := 58) rfl ?_); refine wpList_load_row rfl 27 _ rfl O rfl 27 (oidC (P.length : Int) (pad (valsP P))) (0, 0) _ HO.out Tryd.underlying27 rfl (oid_info _ _ HPL.out) ?_) | ((with_reducible refine gate_dst (N := 64) rfl ?_); refine wpList_load_row rfl 27 _ rfl O rfl 27 (oidC (P.length : Int) (pad (valsP P))) (0, 0) _ HO4.out Tryd.underlying27 rfl (oid_info _ _ HPL.out) ?_) | (go_at_call 25; refine (HC2.out _).mono ?_; rintro e w4 ⟨rfl, hb⟩; have T4 := Lib.hid (T.out.next hb); have HO4 := Lib.hid (blk_below HO.out hb); clear hb) | ((with_reducible refine gate_store rfl ?_); refine wpList_plain rfl fun K hK => ?_; refine wp_store_row 27 _ _ rfl w.heap.size (oidC (P.length : Int) (pad (valsP P))) rfl rfl 27 (oidC 0 Z16) T4.out.r (oid_info _ _ HPL.out) (by simp [HPL.out]) (oid_one _ _) ?_; refine hK _ _ ?_))
            refine bodyPost_ret (results_ct rfl _ _ w.heap.size 27 (oidC (P.length : Int) (pad (valsP P))) (0, 0) _ rfl (setRow_heap _ _ _ _ _ _ T4.out.r) Tryd.underlying27 rfl (oid_info _ _ HPL.out)) rfl ?_
            exact ⟨rfl, below_setRow T4.out.s.b (Nat.le_refl _) _⟩
          · rw [if_neg hk] at hE
            rw [(chkO_01 _ _).resolve_left hk] at HC2
            obtain ⟨rfl, rfl, rfl⟩ : rn = 0 ∧ rx = Z16 ∧ er = 1 := by injection hE with h1 h2; injection h2 with h2 h3; exact ⟨h1.symm, h2.symm, h3.symm⟩
            clear hE hk
            go_wp2_with (first | ((with_reducible refine gate_dst (N := 58) rfl ?_); refine wpList_load_row rfl 27 _ rfl O rfl 27 (oidC (P.length : Int) (pad (valsP P))) (0, 0) _ HO.out Tryd.underlying27 rfl (oid_info _ _ HPL.out) ?_) | (go_at_call 25; refine (HC2.out _).mono ?_; rintro e w4 ⟨rfl, hb⟩; have T4 := Lib.hid (T.out.next hb); have HO4 := Lib.hid (blk_below HO.out hb); clear hb) | ((with_reducible refine gate_store rfl ?_); refine wpList_plain rfl fun K hK => ?_; refine wp_store_row 27 _ _ rfl w.heap.size (oidC 0 Z16) rfl rfl 27 (oidC 0 Z16) T4.out.r (oid_info _ _ rfl) rfl (oid_one _ _) ?_; refine hK _ _ ?_))
            refine bodyPost_ret (results_ct rfl _ _ w.heap.size 27 (oidC 0 Z16) (0, 0) _ rfl (setRow_heap _ _ _ _ _ _ T4.out.r) Tryd.underlying27 rfl (oid_info _ _ rfl)) rfl ?_
            exact ⟨rfl, below_setRow T4.out.s.b (Nat.le_refl _) _⟩
        · rw [if_neg (by decide : ¬ (!true) = true)] at hE
          obtain ⟨rfl, rfl, rfl⟩ : rn = 0 ∧ rx = Z16 ∧ er = 3 := by injection hE with h1 h2; injection h2 with h2 h3; exact ⟨h1.symm, h2.symm, h3.symm⟩
          clear hE
          go_wp2_with ((with_reducible refine gate_store rfl ?_); refine wpList_plain rfl fun K hK => ?_; refine wp_store_row 27 _ _ rfl w.heap.size (oidC 0 Z16) rfl rfl 27 (oidC 0 Z16) T.out.r (oid_info _ _ rfl) rfl (oid_one _ _) ?_; refine hK _ _ ?_)
          refine bodyPost_ret (results_ct rfl _ _ w.heap.size 27 (oidC 0 Z16) (0, 0) _ rfl (setRow_heap _ _ _ _ _ _ T.out.r) Tryd.underlying27 rfl (oid_info _ _ rfl)) rfl ?_
          exact ⟨rfl, below_setRow T.out.s.b (Nat.le_refl _) _⟩
  · have hx := hNot
    rw [hx] at HC
    have HX := Lib.hid hx
    clear hx
    have hO1 := Lib.hid (fun W hs hr hp => PaS.zero (w := w) (P := P) (W := W) ((P.length : Int) % 256) hs hr hp)
    go_enter Tryd.func30, Tryd.ntmps30
    go_upto_region 1 with fail
    rw [zrow]
    generalize w.alloc (.cells (oidC 0 (List.replicate 16 0)) 27) = W at *
    go_upto_region 4 with (first
      | (go_at_call 37; refine (HSP.out _ S0.out.t).mono ?_; rintro e w1 ⟨rfl, hw1⟩; have S1 : Hid (St w w1) := (by rw [hw1]; exact S0.out.alloc _); have hB1 : Hid (w1.heap[w.heap.size]? = some (.cells (oidC 0 Z16) 27 (0, 0))) := (by rw [hw1]; exact blk_alloc hB.out _); have hP1 : Hid (w1.heap[w.heap.size + 1]? = some (.cells (strC P) 9 (0, 0))) := (by rw [hw1, ← hsz]; exact blk_new _ _); clear hw1; rw [hsz])
      | (go_at_call 38; refine (HC.out _ hP1.out).mono ?_; rintro e w2 ⟨rfl, hb⟩; have Z2 := Lib.hid (hO1.out w2 (S1.out.next hb) (blk_below hB1.out hb) (blk_below hP1.out hb)); have hPs : w.heap.size + 1 < w2.heap.size := blk_lt (blk_below hP1.out hb); clear hb))
    go_upto_region 5 with fail
    rw [show (#[.int .u8 ((P.length : Int) % 256), .int .u32 0, .int .u32 0, .int .u32 0, .int .u32 0, .int .u32 0, .int .u32 0, .int .u32 0, .int .u32 0, .int .u32 0, .int .u32 0, .int .u32 0, .int .u32 0, .int .u32 0, .int .u32 0, .int .u32 0, .int .u32 0] : Array Value) = oidC ((P.length : Int) % 256) Z16 from rfl]
    generalize w2.alloc (.cells (oidC ((P.length : Int) % 256) Z16) 27) = W2 at *
    generalize w2.heap.size = O at *
    go_upto_region 7 with fail
    go_loopw [6, 29] (fun lg i W => ∃ (j : Nat) (b : Bool), j ≤ P.length ∧ lg = .bool b ∧ i = .int .i64 (j : Int) ∧ Hid (PaS w P ((P.length : Int) % 256) O j W) ∧ Hid ((P.take j).all decB = true) ∧ Hid ((P.take j).all fit = !b)) (fun _ i _ => P.length - (intOf i).toNat)
    case atStart => exact ⟨0, false, Nat.zero_le _, rfl, rfl, Z2, Lib.hid rfl, Lib.hid rfl⟩
    case round =>
      obtain ⟨j, b, hj, rfl, rfl, T, HA, HL⟩ := hrel
      by_cases hlt : j < P.length
      · have cj := strC_at T.out.p hlt
        have hjn : ¬ j = P.length := by omega
        have hpl := HP.out (P.getD j []) (by rw [List.getD_eq_getElem?_getD, List.getElem?_eq_getElem hlt, Option.getD_some]; exact List.getElem_mem hlt)
        have HT1 := Lib.hid (all_take (f := decB) hlt)
        have HT2 := Lib.hid (all_take (f := fit) hlt)
        rw [HA.out, Bool.true_and] at HT1
        rw [HL.out] at HT2
        have HF := Lib.hid (all_false (f := decB) hlt)
        have HS := Lib.hid (fun W (h : PaS w P ((P.length : Int) % 256) O j W) h16 v hv => PaS.set (v := v) h hw3 hPs hlt h16 hv)
        have HDC := Lib.hid (fun W => decimal_is (P.getD j []) W hpl)
        have HPO := Lib.hid (fun W hd hv => pu_ok (P.getD j []) W hpl hd hv)
        have HPB := Lib.hid (fun W hd hv hT => pu_big (P.getD j []) W hpl hd hv hT)
        generalize P.getD j [] = p at *
        cases hdec : decB p
        · obtain ⟨rfl, rfl, rfl⟩ : rn = 0 ∧ rx = Z16 ∧ er = 6 := by
            have hE := HRES.out
            unfold parseL at hE
            rw [if_neg (by rw [HF.out hdec]; decide)] at hE
            injection hE with h1 h2; injection h2 with h2 h3; exact ⟨h1.symm, h2.symm, h3.symm⟩
          rw [hdec] at HDC
          go_wp2_with (first | (go_at_call 40; refine (HDC.out _).mono ?_; rintro e w4 ⟨rfl, hb⟩; have T4 := Lib.hid (T.out.next hb); clear hb) | ((with_reducible refine gate_store rfl ?_); refine wpList_plain rfl fun K hK => ?_; refine wp_store_row 27 _ _ rfl w.heap.size (oidC 0 Z16) rfl rfl 27 (oidC 0 Z16) T4.out.r (oid_info _ _ rfl) rfl (oid_one _ _) ?_; refine hK _ _ ?_))
          refine bodyPost_ret (results_ct rfl _ _ w.heap.size 27 (oidC 0 Z16) (0, 0) _ rfl (setRow_heap _ _ _ _ _ _ T4.out.r) Tryd.underlying27 rfl (oid_info _ _ rfl)) rfl ?_
          exact ⟨rfl, below_setRow T4.out.s.b (Nat.le_refl _) _⟩
        · rw [hdec] at HDC HT1
          have hdec1 := Lib.hid hdec
          clear hdec HA HL
          by_cases hv : valB p ≤ 4294967295
          · have hvm : ((valB p : Nat) : Int) % 4294967296 = ((valB p : Nat) : Int) := by omega
            have hfit : fit p = true := decide_eq_true hv
            have hmin : ((valB p : Nat) : Int) = ((min (valB p) 4294967295 : Nat) : Int) := by omega
            have HV := Lib.hid hv
            have HM := Lib.hid hmin
            rw [hfit] at HT2
            clear hv hmin hfit
            by_cases h16 : j < 16
            · have h16j : (j : Int) < 16 := by omega
              cases b
              all_goals
                go_wp2_with (first | (go_at_call 40; refine (HDC.out _).mono ?_; rintro e w4 ⟨rfl, hb⟩; have T4 := Lib.hid (T.out.next hb); clear hb) | (go_at_call 41; refine (HPO.out _ hdec1.out HV.out).mono ?_; rintro e w5 ⟨rfl, hb⟩; have T5 := Lib.hid (T4.out.next hb); clear hb; have hat := T5.out.at_ hlt h16; obtain ⟨vj, cv, fv⟩ := hat))
                go_round
                case rel => exact ⟨j + 1, _, by omega, rfl, by go_num, Lib.hid (HS.out _ T5.out h16 _ HM.out), HT1, HT2⟩
                case measure => first | (simp [intOf]; omega) | (simp [intOf]; done) | omega
            · have h16j : ¬ (j : Int) < 16 := by omega
              cases b
              all_goals
                go_wp2_with (first | (go_at_call 40; refine (HDC.out _).mono ?_; rintro e w4 ⟨rfl, hb⟩; have T4 := Lib.hid (T.out.next hb); clear hb) | (go_at_call 41; refine (HPO.out _ hdec1.out HV.out).mono ?_; rintro e w5 ⟨rfl, hb⟩; have T5 := Lib.hid (T4.out.next hb); clear hb))
                go_round
                case rel => exact ⟨j + 1, _, by omega, rfl, by go_num, Lib.hid (T5.out.skip (by omega)), HT1, HT2⟩
                case measure => first | (simp [intOf]; omega) | (simp [intOf]; done) | omega
          · have hfit : fit p = false := decide_eq_false hv
            have hmin : (4294967295 : Int) = ((min (valB p) 4294967295 : Nat) : Int) := by omega
            have HV := Lib.hid hv
            have HM := Lib.hid hmin
            rw [hfit] at HT2
            clear hv hmin hfit
            by_cases h16 : j < 16
            · have h16j : (j : Int) < 16 := by omega
              cases b
              all_goals
                go_wp2_with (first | (go_at_call 40; refine (HDC.out _).mono ?_; rintro e w4 ⟨rfl, hb⟩; have T4 := Lib.hid (T.out.next hb); clear hb) | (go_at_call 41; refine (HPB.out _ hdec1.out HV.out T4.out.s.t).mono ?_; rintro e w5 ⟨NB, rfl, hb⟩; have T5 := Lib.hid (T4.out.next hb); clear hb; have hat := T5.out.at_ hlt h16; obtain ⟨vj, cv, fv⟩ := hat))
                go_round
                case rel => exact ⟨j + 1, _, by omega, rfl, by go_num, Lib.hid (HS.out _ T5.out h16 _ HM.out), HT1, HT2⟩
                case measure => first | (simp [intOf]; omega) | (simp [intOf]; done) | omega
            · have h16j : ¬ (j : Int) < 16 := by omega
              cases b
              all_goals
                go_wp2_with (first | (go_at_call 40; refine (HDC.out _).mono ?_; rintro e w4 ⟨rfl, hb⟩; have T4 := Lib.hid (T.out.next hb); clear hb) | (go_at_call 41; refine (HPB.out _ hdec1.out HV.out T4.out.s.t).mono ?_; rintro e w5 ⟨NB, rfl, hb⟩; have T5 := Lib.hid (T4.out.next hb); clear hb))
                go_round
                case rel => exact ⟨j + 1, _, by omega, rfl, by go_num, Lib.hid (T5.out.skip (by omega)), HT1, HT2⟩
                case measure => first | (simp [intOf]; omega) | (simp [intOf]; done) | omega
      · obtain rfl : j = P.length := by omega
        have h := HA.out
        rw [List.take_length, HX.out] at h
        cases h
end Go.Proofs.YtacpcagijfacnaaDoor
namespace Go.Proofs.YtacpcagijfacnaaDoor
open Go.RowKit Go.Shelf
set_option linter.unusedSimpArgs false
set_option linter.unusedVariables false
set_option maxRecDepth 50000
/-- A number, at most 2^32. -/
def capV (p : List UInt8) : Int := ((min (valB p) 4294967296 : Nat) : Int)
def curP (l : List UInt8) (f i : Nat) : List UInt8 := (l.drop f).take (i - f)
/-- Where the reference's Parse stands: i places gone through, the piece began at f, S has come. -/
def RpI (l : List UInt8) (i f : Nat) (S : List Int) : Prop :=
  (i ≤ l.length ∧ f ≤ i ∧ S.length ≤ f ∧ ∃ D, splitP l = D ++ (curP l f i ++ (splitP (l.drop i)).headD []) :: (splitP (l.drop i)).tail ∧ (curP l f i).all isDig = true ∧ D.all decB = true ∧ S = D.map capV) ∨
  (i = l.length + 1 ∧ S.length ≤ i ∧ (splitP l).all decB = true ∧ S = (splitP l).map capV)
theorem headD_tail {P : List (List UInt8)} (h : P ≠ []) : P.headD [] :: P.tail = P := by
  cases P with
  | nil => exact absurd rfl h
  | cons a r => rfl
theorem curP_self (l : List UInt8) (f : Nat) : curP l f f = [] := by unfold curP; rw [Nat.sub_self, List.take_zero]
theorem RpI.start (l : List UInt8) : RpI l 0 0 [] :=
  .inl ⟨Nat.zero_le _, Nat.le_refl _, Nat.le_refl _, [], by rw [curP_self, List.nil_append, List.nil_append, List.drop_zero, headD_tail (splitP_ne l)], by rw [curP_self]; rfl, rfl, rfl⟩
theorem curP_next {l : List UInt8} {f i : Nat} (hf : f ≤ i) (hi : i < l.length) : curP l f (i + 1) = curP l f i ++ [l.getD i 0] := by
  unfold curP
  rw [show i + 1 - f = (i - f) + 1 by omega, List.take_add_one, List.getElem?_drop, show f + (i - f) = i by omega, List.getElem?_eq_getElem hi, Option.toList_some, List.getD_eq_getElem?_getD, List.getElem?_eq_getElem hi, Option.getD_some]
theorem dropU_at {l : List UInt8} {k : Nat} (h : k < l.length) : l.drop k = l.getD k 0 :: l.drop (k + 1) := by
  rw [List.drop_eq_getElem_cons h]
  congr 1
  simp [List.getD, List.getElem?_eq_getElem h]
theorem splitP_cons {b : UInt8} {r : List UInt8} (h : b ≠ 46) : splitP (b :: r) = (b :: (splitP r).headD []) :: (splitP r).tail := by
  simp only [splitP, if_neg h]
theorem splitP_dot (r : List UInt8) : splitP (46 :: r) = [] :: splitP r := by
  simp only [splitP, if_true]
theorem dig_46 : isDig 46 = false := by decide
theorem decB_dig {p : List UInt8} {b : UInt8} (hb : b ∈ p) (hd : isDig b = false) : decB p = false := by
  rw [Bool.eq_false_iff]
  intro h
  have := (decB_all h).2
  rw [List.all_eq_true] at this
  rw [this b hb] at hd; cases hd
theorem all_mem {P : List (List UInt8)} {p : List UInt8} (hp : p ∈ P) (hd : decB p = false) : P.all decB = false := by
  rw [Bool.eq_false_iff]
  intro h
  rw [List.all_eq_true] at h
  rw [h p hp] at hd; cases hd
theorem RpI.bad {l : List UInt8} {i f : Nat} {S : List Int} (h : RpI l i f S) (hi : i < l.length) (h46 : l.getD i 0 ≠ 46) (hd : isDig (l.getD i 0) = false) : (splitP l).all decB = false := by
  rcases h with ⟨_, _, _, D, h1, _⟩ | ⟨h1, _⟩
  · rw [dropU_at hi, splitP_cons h46, List.headD_cons, List.tail_cons] at h1
    refine all_mem (p := curP l f i ++ l.getD i 0 :: (splitP (l.drop (i + 1))).headD []) ?_ (decB_dig (b := l.getD i 0) (by simp) hd)
    rw [h1]; simp
  · omega
theorem RpI.digit {l : List UInt8} {i f : Nat} {S : List Int} (h : RpI l i f S) (hi : i < l.length) (h46 : l.getD i 0 ≠ 46) (hd : isDig (l.getD i 0) = true) : RpI l (i + 1) f S := by
  rcases h with ⟨_, h2, h2b, D, h1, h3, h4, h5⟩ | ⟨h1, _⟩
  · rw [dropU_at hi, splitP_cons h46, List.headD_cons, List.tail_cons] at h1
    refine .inl ⟨by omega, by omega, h2b, D, ?_, ?_, h4, h5⟩
    · rw [h1, curP_next h2 hi]; simp
    · rw [curP_next h2 hi, List.all_append, h3, List.all_cons, hd]; rfl
  · omega
theorem RpI.le {l : List UInt8} {i f : Nat} {S : List Int} (h : RpI l i f S) (hi : i ≤ l.length) : f ≤ i ∧ S.length ≤ f ∧ (curP l f i).all isDig = true := by
  rcases h with ⟨_, h2, h2b, D, h1, h3, h4, h5⟩ | ⟨h1, _⟩
  · exact ⟨h2, h2b, h3⟩
  · omega
theorem RpI.ended {l : List UInt8} {i f : Nat} {S : List Int} (h : RpI l i f S) (hi : i ≤ l.length) (hend : i = l.length ∨ l.getD i 0 = 46) (hd : decB (curP l f i) = false) : (splitP l).all decB = false := by
  rcases h with ⟨_, h2, h2b, D, h1, h3, h4, h5⟩ | ⟨h1, _⟩
  · refine all_mem (p := curP l f i) ?_ hd
    rw [h1]
    rcases Nat.lt_or_ge i l.length with hlt | hge
    · have h46 := hend.resolve_left (by omega)
      rw [dropU_at hlt, h46, splitP_dot]; simp
    · rw [List.drop_of_length_le hge]; simp [splitP]
  · omega
theorem RpI.piece {l : List UInt8} {i f : Nat} {S : List Int} (h : RpI l i f S) (hi : i ≤ l.length) (hend : i = l.length ∨ l.getD i 0 = 46) (hd : decB (curP l f i) = true) : RpI l (i + 1) (i + 1) (S ++ [capV (curP l f i)]) := by
  rcases h with ⟨_, h2, h2b, D, h1, h3, h4, h5⟩ | ⟨h1, _⟩
  · rcases Nat.lt_or_ge i l.length with hlt | hge
    · have h46 := hend.resolve_left (by omega)
      rw [dropU_at hlt, h46, splitP_dot, List.headD_cons, List.tail_cons, List.append_nil] at h1
      refine .inl ⟨by omega, Nat.le_refl _, by simp; omega, D ++ [curP l f i], ?_, by rw [curP_self]; rfl, by simp [h4, hd], by simp [h5]⟩
      rw [h1, curP_self, List.nil_append, headD_tail (splitP_ne (l.drop (i + 1))), List.append_assoc]
      rfl
    · have hil : i = l.length := by omega
      rw [List.drop_of_length_le hge] at h1
      simp only [splitP, List.headD_cons, List.tail_cons, List.append_nil] at h1
      refine .inr ⟨by omega, by simp; omega, ?_, ?_⟩
      · rw [h1]; simp [h4, hd]
      · rw [h1]; simp [h5]
  · omega
theorem RpI.last {l : List UInt8} {i f : Nat} {S : List Int} (h : RpI l i f S) (hi : ¬ i ≤ l.length) : (splitP l).all decB = true ∧ S = (splitP l).map capV := by
  rcases h with ⟨h1, _⟩ | ⟨_, _, h1, h2⟩
  · omega
  · exact ⟨h1, h2⟩
theorem RpI.top {l : List UInt8} {i f : Nat} {S : List Int} (h : RpI l i f S) : i ≤ l.length + 1 ∧ S.length ≤ i := by
  rcases h with ⟨h1, h2, h3, _⟩ | ⟨h0, h1, _⟩
  · exact ⟨by omega, by omega⟩
  · exact ⟨by omega, h1⟩
/-- The end of a piece: is it a number? -/
theorem decB_cur {p : List UInt8} (h : p.all isDig = true) : decB p = (!p.isEmpty && !(p.headD 0 == 48 && decide (1 < p.length))) := by
  cases p with
  | nil => rfl
  | cons b r =>
    have hd : (b :: r).all (digs.contains ·) = true := by rw [all_dig]; exact h
    simp only [decB, hd, Bool.and_true, List.isEmpty_cons, Bool.not_false, Bool.true_and, List.headD_cons, List.length_cons]
    by_cases hb : b = 48
    · subst hb
      cases r with
      | nil => rfl
      | cons a t => simp
    · simp [hb]
def capR (m : Nat) (l : List UInt8) : Nat := l.foldl (fun a c => min (10 * a + (c.toNat - 48)) 4294967296) m
theorem capR_nil (m : Nat) : capR m [] = m := by unfold capR; exact List.foldl_nil
theorem capR_cons (m : Nat) (c : UInt8) (r : List UInt8) : capR m (c :: r) = capR (min (10 * m + (c.toNat - 48)) 4294967296) r := by unfold capR; exact List.foldl_cons
theorem capR_is (l : List UInt8) : ∀ a, capR (min a 4294967296) l = min (valA a l) 4294967296 := by
  induction l with
  | nil => intro a; rw [capR_nil, valA_nil]
  | cons c r ih =>
    intro a
    rw [capR_cons, valA_cons, ← ih]
    congr 1
    generalize c.toNat - 48 = d
    omega
theorem capV_is (p : List UInt8) : capV p = ((capR 0 p : Nat) : Int) := by
  unfold capV valB
  rw [← capR_is]
  rfl
end Go.Proofs.YtacpcagijfacnaaDoor
namespace Go.Proofs.YtacpcagijfacnaaDoor
open Go.RowKit Go.Shelf
open Go.Proofs.YtacpcagijfacnaaDoorW.PrintWords (results_ct gate_guard gate_dst gate_store Kd.C_below Kd.C_of_reads Kd.reads_of_C ReadsOf.at_ rdOf blk_new blk_below blk_cell blk_alloc blk_lt blk_frozen blk_drew blk_set Kd.C Kd.int Kd.R Kd.R_nil Kd.R_slice Kd.R_reads' Kd.R_append)
set_option linter.unusedSimpArgs false
set_option linter.unusedVariables false
set_option maxRecDepth 50000
theorem dig_of {b : UInt8} {c : Nat} (h : b.toNat = c) : isDig b = decide (48 ≤ c ∧ c ≤ 57) := by subst h; rfl
theorem curP_len {l : List UInt8} {f j : Nat} (hf : f ≤ j) (hj : j ≤ l.length) : (curP l f j).length = j - f := by unfold curP; rw [List.length_take, List.length_drop]; omega
theorem curP_drop {l : List UInt8} {f j k : Nat} (hf : f ≤ k) (hk : k < j) (hj : j ≤ l.length) : (curP l f j).drop (k - f) = l.getD k 0 :: (curP l f j).drop (k + 1 - f) := by
  have hlt : k - f < (curP l f j).length := by rw [curP_len (by omega) hj]; omega
  rw [dropU_at hlt, show k - f + 1 = k + 1 - f by omega]
  congr 1
  unfold curP
  rw [List.getD_eq_getElem?_getD, List.getElem?_take, if_pos (by omega), List.getElem?_drop, show f + (k - f) = k by omega, ← List.getD_eq_getElem?_getD]
theorem curP_dig {l : List UInt8} {f j k : Nat} (hf : f ≤ k) (hk : k < j) (hj : j ≤ l.length) (h : (curP l f j).all isDig = true) : isDig (l.getD k 0) = true := by
  rw [List.all_eq_true] at h
  refine h _ (List.mem_of_mem_drop (i := k - f) ?_)
  rw [curP_drop hf hk hj]; simp
theorem decB_curP {l : List UInt8} {f j c0 : Nat} (hf : f < j) (hj : j ≤ l.length) (h : (curP l f j).all isDig = true) (hc : (l.getD f 0).toNat = c0) : decB (curP l f j) = !(decide (c0 = 48) && decide (f + 1 < j)) := by
  have h0 := curP_drop (Nat.le_refl f) hf hj
  rw [Nat.sub_self, List.drop_zero] at h0
  have hl := curP_len (by omega : f ≤ j) hj
  obtain ⟨t, ht⟩ : ∃ t, curP l f j = l.getD f 0 :: t := ⟨_, h0⟩
  rw [ht, List.length_cons] at hl
  rw [decB_cur h, ht, List.length_cons]
  rw [List.isEmpty_cons, Bool.not_false, Bool.true_and, List.headD_cons, hl]
  have e1 : (l.getD f 0 == 48) = decide (c0 = 48) := by
    rw [← hc]
    by_cases h48 : l.getD f 0 = 48
    · rw [h48]; rfl
    · rw [decide_eq_false (p := (l.getD f 0).toNat = 48) (fun h2 => h48 (UInt8.toNat_inj.mp h2))]; simpa using h48
  have e2 : decide (1 < j - f) = decide (f + 1 < j) := by congr 1; exact propext ⟨fun _ => by omega, fun _ => by omega⟩
  rw [e1, e2]
theorem capV_bd (p : List UInt8) : 0 ≤ capV p ∧ capV p ≤ 4294967296 := by unfold capV; omega
/-- What stands while the arcs are stored. -/
structure RqS (n : Int) (S : List Int) (k : Nat) (wr W : World) : Prop where
  b : Below wr.heap.size wr W
  o : W.heap[wr.heap.size]? = some (.cells (oidC n (padK S k)) 27 (0, 0))
theorem RqS.start {n : Int} {S : List Int} {wr W : World} (ho : W.heap[wr.heap.size]? = some (.cells (oidC 0 Z16) 27 (0, 0))) (hb : Below wr.heap.size wr W) :
    RqS n S 0 wr (W.setCell ⟨wr.heap.size, 0, none⟩ (.int .u8 n)) := by
  refine ⟨hb.setCell (Nat.le_refl _) _, ?_⟩
  have h1 := blk_set ho 0 (.int .u8 n)
  rw [oid_setN] at h1
  exact h1
theorem RqS.step {n : Int} {S : List Int} {k : Nat} {wr W : World} (h : RqS n S k wr W) (hk : k < S.length) (h16 : k < 16) :
    RqS n S (k + 1) wr (W.setCell ⟨wr.heap.size, 1 + k, none⟩ (.int .u32 (S.getD k 0))) := by
  refine ⟨h.b.setCell (Nat.le_refl _) _, ?_⟩
  have h2 := blk_set h.o (1 + k) (.int .u32 (S.getD k 0))
  rw [oid_set _ _ _ _ (by rw [padK_len S k (by omega) (by omega)]; omega), padK_set S k hk h16] at h2
  exact h2
theorem capS_at {P : List (List UInt8)} {k : Nat} (hk : k < P.length) : (P.map capV).getD k 0 = capV (P.getD k []) := by
  simp [List.getD, List.getElem?_eq_getElem hk]
theorem fit_all {P : List (List UInt8)} (h : ∀ k, k < P.length → (P.map capV).getD k 0 ≤ 4294967295) : P.all fit = true ∧ P.map capV = valsP P := by
  have h2 : ∀ p ∈ P, valB p ≤ 4294967295 := fun p hp => by
    obtain ⟨k, hk, rfl⟩ := List.getElem_of_mem hp
    have := h k hk
    rw [capS_at hk, List.getD_eq_getElem?_getD, List.getElem?_eq_getElem hk, Option.getD_some] at this
    unfold capV at this
    omega
  refine ⟨?_, ?_⟩
  · rw [List.all_eq_true]
    intro p hp
    exact decide_eq_true (h2 p hp)
  · unfold valsP
    refine List.map_congr_left fun p hp => ?_
    have := h2 p hp
    unfold capV
    omega
theorem fit_not {P : List (List UInt8)} {k : Nat} (hk : k < P.length) (h : ¬ (P.map capV).getD k 0 ≤ 4294967295) : P.all fit = false := by
  refine all_false hk (decide_eq_false fun h2 => h ?_)
  rw [capS_at hk]
  unfold capV
  omega
set_option maxHeartbeats 8000000 in
theorem rparse_any (l : List UInt8) (w : World) (hl : l.length ≤ 100000) (rn er : Int) (rx : List Int) (hres : parseL (splitP l) = (rn, rx, er)) :
    Calls Tryd.prog 13 #[.string ⟨l.toArray⟩] w fun e w' => e = .returned (.tuple #[oidV rn rx, .int .i64 er]) ∧ Below w.heap.size w w' := by
  have HRES := Lib.hid hres
  clear hres
  have hb := (Below.refl w.heap.size w).alloc (Nat.le_refl _) (.cells (oidC 0 Z16) 27)
  have hB := blk_new w (.cells (oidC 0 Z16) 27)
  have hsz : (w.alloc (.cells (oidC 0 Z16) 27)).heap.size = w.heap.size + 1 := by simp
  have hn : (⟨l.toArray⟩ : ByteArray).size = l.length := by rw [ByteArray.size]; simp
  have HG : Hid (∀ k (h : k < (⟨l.toArray⟩ : ByteArray).size), (⟨l.toArray⟩ : ByteArray)[k]'h = l.getD k 0) := fun k h => by
    rw [hn] at h
    rw [List.getD_eq_getElem?_getD, List.getElem?_eq_getElem h, Option.getD_some]
    rfl
  generalize (⟨l.toArray⟩ : ByteArray) = s at *
  obtain ⟨n, hnn⟩ : ∃ n, l.length = n := ⟨_, rfl⟩
  rw [hnn] at hn hl
  have HN := Lib.hid hnn
  clear hnn
  go_enter Tryd.func13, Tryd.ntmps13
  go_upto_region 1 with fail
  rw [zrow]
  generalize w.alloc (.cells (oidC 0 (List.replicate 16 0)) 27) = W at *
  have S0 : Hid (RgS W (w.heap.size + 1) (.slice none 0 0) [] W) := ⟨Below.refl _ _, Kd.R_nil _ _ _ _ _⟩
  go_upto_region 4 with fail
  go_loopw [4, 5, 6] (fun v f i wr => ∃ (j fr : Nat) (S : List Int), i = .int .i64 (j : Int) ∧ f = .int .i64 (fr : Int) ∧ Hid (RgS W (w.heap.size + 1) v S wr) ∧ Hid (RpI l j fr S)) (fun _ _ i _ => n + 1 - (intOf i).toNat)
  case atStart => exact ⟨0, 0, [], rfl, rfl, S0, RpI.start l⟩
  case round =>
    obtain ⟨j, fr, S, rfl, rfl, T, R⟩ := hrel
    obtain ⟨Ao, co, rfl⟩ := Kd.R_slice T.out.o
    obtain ⟨htop, hSt⟩ := R.out.top
    rw [HN.out] at htop
    by_cases hle : j ≤ n
    · obtain ⟨hfj, hSf, hdig⟩ := R.out.le (by rw [HN.out]; exact hle)
      have HDIG := Lib.hid hdig
      clear hdig
      have hleI : (j : Int) ≤ (n : Int) := by omega
      by_cases hlt : j < n
      · have hjs : j < s.size := by omega
        have hix := HG.out j hjs
        obtain ⟨c, hc⟩ : ∃ c, (l.getD j 0).toNat = c := ⟨_, rfl⟩
        have hixc : (s[j]'hjs).toNat = c := by rw [hix]; exact hc
        have hc256 : c < 256 := by rw [← hc]; exact UInt8.toNat_lt _
        have hjn : ¬ j = n := by omega
        clear hix
        by_cases h46 : c = 46
        · have HEND : Hid (j = l.length ∨ l.getD j 0 = 46) := .inr (UInt8.toNat_inj.mp (by rw [hc]; exact h46))
          clear hc
          subst h46
          by_cases hjf : j = fr
          · subst hjf
            have HDF : Hid (decB (curP l j j) = false) := by rw [curP_self]; rfl
            obtain ⟨rfl, rfl, rfl⟩ : rn = 0 ∧ rx = Z16 ∧ er = 6 := by
              have hE := HRES.out
              unfold parseL at hE
              rw [if_neg (by rw [R.out.ended (by rw [HN.out]; exact hle) HEND.out HDF.out]; decide)] at hE
              injection hE with h1 h2; injection h2 with h2 h3; exact ⟨h1.symm, h2.symm, h3.symm⟩
            clear HRES
            have hR := Lib.hid ((T.out.b.block w.heap.size (by omega)).trans hB)
            have hTb := Lib.hid (hb.trans (T.out.b.mono (by omega)))
            go_wp2_with ((with_reducible refine gate_store rfl ?_); refine wpList_plain rfl fun K hK => ?_; refine wp_store_row 27 _ _ rfl w.heap.size (oidC 0 Z16) rfl rfl 27 (oidC 0 Z16) hR.out (oid_info _ _ rfl) rfl (oid_one _ _) ?_; refine hK _ _ ?_)
            refine bodyPost_ret (results_ct rfl _ _ w.heap.size 27 (oidC 0 Z16) (0, 0) _ rfl (setRow_heap _ _ _ _ _ _ hR.out) Tryd.underlying27 rfl (oid_info _ _ rfl)) rfl ?_
            exact ⟨rfl, below_setRow hTb.out (Nat.le_refl _) _⟩
          have hfl : fr < j := by omega
          have hfs : fr < s.size := by omega
          obtain ⟨c0, hc0⟩ : ∃ c0, (l.getD fr 0).toNat = c0 := ⟨_, rfl⟩
          have hix0 : (s[fr]'hfs).toNat = c0 := by rw [HG.out fr hfs]; exact hc0
          have HDC := Lib.hid (decB_curP hfl (by rw [HN.out]; exact hle) HDIG.out hc0)
          clear hc0
          by_cases hz : c0 = 48 ∧ fr + 1 < j
          · obtain ⟨rfl, hz2⟩ := hz
            have hz2i : (fr : Int) + 1 < (j : Int) := by omega
            have HDF : Hid (decB (curP l fr j) = false) := by rw [HDC.out, decide_eq_true hz2]; rfl
            obtain ⟨rfl, rfl, rfl⟩ : rn = 0 ∧ rx = Z16 ∧ er = 6 := by
              have hE := HRES.out
              unfold parseL at hE
              rw [if_neg (by rw [R.out.ended (by rw [HN.out]; exact hle) HEND.out HDF.out]; decide)] at hE
              injection hE with h1 h2; injection h2 with h2 h3; exact ⟨h1.symm, h2.symm, h3.symm⟩
            clear HRES
            have hR := Lib.hid ((T.out.b.block w.heap.size (by omega)).trans hB)
            have hTb := Lib.hid (hb.trans (T.out.b.mono (by omega)))
            go_wp2_with ((with_reducible refine gate_store rfl ?_); refine wpList_plain rfl fun K hK => ?_; refine wp_store_row 27 _ _ rfl w.heap.size (oidC 0 Z16) rfl rfl 27 (oidC 0 Z16) hR.out (oid_info _ _ rfl) rfl (oid_one _ _) ?_; refine hK _ _ ?_)
            refine bodyPost_ret (results_ct rfl _ _ w.heap.size 27 (oidC 0 Z16) (0, 0) _ rfl (setRow_heap _ _ _ _ _ _ hR.out) Tryd.underlying27 rfl (oid_info _ _ rfl)) rfl ?_
            exact ⟨rfl, below_setRow hTb.out (Nat.le_refl _) _⟩
          have HDT : Hid (decB (curP l fr j) = true) := by
            rw [HDC.out]
            by_cases h1 : c0 = 48
            · rw [decide_eq_false (fun h2 : fr + 1 < j => hz ⟨h1, h2⟩), Bool.and_false]; rfl
            · rw [decide_eq_false h1]; rfl
          have HNX := Lib.hid (R.out.piece (by rw [HN.out]; exact hle) HEND.out HDT.out)
          clear HDC HDT HEND
          have hz' : (c0 = 48 ∧ ¬ (fr : Int) + 1 < (j : Int)) ∨ ¬ c0 = 48 := by omega
          clear hz
          rcases hz' with ⟨hz1, hz2⟩ | hz1
          all_goals
            go_upto_region 13 with fail
            go_loop [7, 8] (fun v k => ∃ (kk m : Nat), fr ≤ kk ∧ kk ≤ j ∧ k = .int .i64 (kk : Int) ∧ v = .int .i64 (m : Int) ∧ m ≤ 4294967296 ∧ Hid (capR m ((curP l fr j).drop (kk - fr)) = capR 0 (curP l fr j))) (fun _ k => j - (intOf k).toNat)
            case atStart => exact ⟨fr, 0, Nat.le_refl _, Nat.le_of_lt hfl, rfl, rfl, by omega, by rw [Nat.sub_self, List.drop_zero]; rfl⟩
            case round =>
              obtain ⟨kk, m, hfk, hkj, rfl, rfl, hm, HCR⟩ := hrel
              by_cases hkl : kk < j
              · have hks : kk < s.size := by omega
                obtain ⟨ck, hck⟩ : ∃ ck, (l.getD kk 0).toNat = ck := ⟨_, rfl⟩
                have hixk : (s[kk]'hks).toNat = ck := by rw [HG.out kk hks]; exact hck
                have hdk := curP_dig hfk hkl (by rw [HN.out]; exact hle) HDIG.out
                rw [dig_of hck] at hdk
                have hdk := of_decide_eq_true hdk
                have hcr := HCR.out
                rw [curP_drop hfk hkl (by rw [HN.out]; exact hle), capR_cons, hck] at hcr
                clear hck HCR
                obtain ⟨m2, hm2⟩ : ∃ m2, min (10 * m + (ck - 48)) 4294967296 = m2 := ⟨_, rfl⟩
                rw [hm2] at hcr
                have HCR2 := Lib.hid hcr
                have hmi : min (10 * (m : Int) + ((ck : Int) - 48)) 4294967296 = (m2 : Int) := by omega
                have hsub : ((ck : Int) - 48) % 256 = (ck : Int) - 48 := by omega
                have hm2b : m2 ≤ 4294967296 := by omega
                clear hcr hm2
                have hkn : ¬ kk = j := by omega
                go_wp2
                go_round
                case rel => exact ⟨kk + 1, m2, by omega, by omega, by go_num, rfl, hm2b, HCR2⟩
                case measure => first | (simp [intOf]; omega) | (simp [intOf]; done)
              · obtain rfl : kk = j := by omega
                have hcr := HCR.out
                rw [List.drop_of_length_le (by rw [curP_len (by omega) (by rw [HN.out]; exact hle)]; omega), capR_nil] at hcr
                have hnx := HNX.out
                rw [capV_is, ← hcr] at hnx
                have HNX2 := Lib.hid hnx
                clear hnx hcr HCR HNX
                go_wp2_with ((with_reducible refine gate_dst (N := 72) rfl ?_); refine Kd.R_append (Kd.int .i64) (w0 := W) (w.heap.size + 1) rfl (.tmp 69) (.tmp 71) 48 3 (.int .i64 0) 8 rfl Tryd.underlying48 info3 rfl (by decide) (by omega) (.slice Ao S.length co) S (m : Int) [.int .i64 (m : Int)] (fun _ => True) (fun _ => False) rfl rfl rfl (fun _ h => h.elim) (fun _ _ => trivial) T.out.o T.out.b (by have := T.out.b.size; omega) (by omega) ?_; intro v1 w1 ho hb1 hg hat; have T1 : Hid (RgS W (w.heap.size + 1) v1 (S ++ [(m : Int)]) w1) := ⟨hb1, ho⟩; clear ho hb1 hg hat)
                go_round
                case rel => exact ⟨kk + 1, kk + 1, S ++ [(m : Int)], by go_num, by go_num, T1, HNX2⟩
                case measure => first | (simp [intOf]; omega) | (simp [intOf]; done)
        · have h46' : l.getD j 0 ≠ 46 := fun h => h46 (by rw [← hc, h]; rfl)
          by_cases hd : 48 ≤ c ∧ c ≤ 57
          · have HNX := Lib.hid (R.out.digit (by rw [HN.out]; exact hlt) h46' (by rw [dig_of hc]; exact decide_eq_true hd))
            obtain ⟨hd1, hd2⟩ := hd
            have hd1' : ¬ c < 48 := by omega
            have hd2' : ¬ 57 < c := by omega
            clear hc h46'
            go_wp2
            go_round
            case rel => exact ⟨j + 1, fr, S, by go_num, rfl, T, HNX⟩
            case measure => simp [intOf]; omega
          · have HBD := Lib.hid (R.out.bad (by rw [HN.out]; exact hlt) h46' (by rw [dig_of hc]; exact decide_eq_false hd))
            clear hc h46'
            have hd' : c < 48 ∨ (¬ c < 48 ∧ 57 < c) := by omega
            clear hd
            rcases hd' with hd1 | ⟨hd1, hd2⟩
            all_goals
              obtain ⟨rfl, rfl, rfl⟩ : rn = 0 ∧ rx = Z16 ∧ er = 6 := by
                have hE := HRES.out
                unfold parseL at hE
                rw [if_neg (by rw [HBD.out]; decide)] at hE
                injection hE with h1 h2; injection h2 with h2 h3; exact ⟨h1.symm, h2.symm, h3.symm⟩
              clear HRES
              have hR := Lib.hid ((T.out.b.block w.heap.size (by omega)).trans hB)
              have hTb := Lib.hid (hb.trans (T.out.b.mono (by omega)))
              go_wp2_with ((with_reducible refine gate_store rfl ?_); refine wpList_plain rfl fun K hK => ?_; refine wp_store_row 27 _ _ rfl w.heap.size (oidC 0 Z16) rfl rfl 27 (oidC 0 Z16) hR.out (oid_info _ _ rfl) rfl (oid_one _ _) ?_; refine hK _ _ ?_)
              refine bodyPost_ret (results_ct rfl _ _ w.heap.size 27 (oidC 0 Z16) (0, 0) _ rfl (setRow_heap _ _ _ _ _ _ hR.out) Tryd.underlying27 rfl (oid_info _ _ rfl)) rfl ?_
              exact ⟨rfl, below_setRow hTb.out (Nat.le_refl _) _⟩
      · obtain rfl : j = n := by omega
        have HEND : Hid (j = l.length ∨ l.getD j 0 = 46) := .inl HN.out.symm
        have hlt' : ¬ (j : Int) < (j : Int) := by omega
        by_cases hjf : j = fr
        · subst hjf
          have HDF : Hid (decB (curP l j j) = false) := by rw [curP_self]; rfl
          obtain ⟨rfl, rfl, rfl⟩ : rn = 0 ∧ rx = Z16 ∧ er = 6 := by
            have hE := HRES.out
            unfold parseL at hE
            rw [if_neg (by rw [R.out.ended (by rw [HN.out]; exact hle) HEND.out HDF.out]; decide)] at hE
            injection hE with h1 h2; injection h2 with h2 h3; exact ⟨h1.symm, h2.symm, h3.symm⟩
          clear HRES
          have hR := Lib.hid ((T.out.b.block w.heap.size (by omega)).trans hB)
          have hTb := Lib.hid (hb.trans (T.out.b.mono (by omega)))
          go_wp2_with ((with_reducible refine gate_store rfl ?_); refine wpList_plain rfl fun K hK => ?_; refine wp_store_row 27 _ _ rfl w.heap.size (oidC 0 Z16) rfl rfl 27 (oidC 0 Z16) hR.out (oid_info _ _ rfl) rfl (oid_one _ _) ?_; refine hK _ _ ?_)
          refine bodyPost_ret (results_ct rfl _ _ w.heap.size 27 (oidC 0 Z16) (0, 0) _ rfl (setRow_heap _ _ _ _ _ _ hR.out) Tryd.underlying27 rfl (oid_info _ _ rfl)) rfl ?_
          exact ⟨rfl, below_setRow hTb.out (Nat.le_refl _) _⟩
        have hfl : fr < j := by omega
        have hfs : fr < s.size := by omega
        obtain ⟨c0, hc0⟩ : ∃ c0, (l.getD fr 0).toNat = c0 := ⟨_, rfl⟩
        have hix0 : (s[fr]'hfs).toNat = c0 := by rw [HG.out fr hfs]; exact hc0
        have HDC := Lib.hid (decB_curP hfl (by rw [HN.out]; exact hle) HDIG.out hc0)
        clear hc0
        by_cases hz : c0 = 48 ∧ fr + 1 < j
        · obtain ⟨rfl, hz2⟩ := hz
          have hz2i : (fr : Int) + 1 < (j : Int) := by omega
          have HDF : Hid (decB (curP l fr j) = false) := by rw [HDC.out, decide_eq_true hz2]; rfl
          obtain ⟨rfl, rfl, rfl⟩ : rn = 0 ∧ rx = Z16 ∧ er = 6 := by
            have hE := HRES.out
            unfold parseL at hE
            rw [if_neg (by rw [R.out.ended (by rw [HN.out]; exact hle) HEND.out HDF.out]; decide)] at hE
            injection hE with h1 h2; injection h2 with h2 h3; exact ⟨h1.symm, h2.symm, h3.symm⟩
          clear HRES
          have hR := Lib.hid ((T.out.b.block w.heap.size (by omega)).trans hB)
          have hTb := Lib.hid (hb.trans (T.out.b.mono (by omega)))
          go_wp2_with ((with_reducible refine gate_store rfl ?_); refine wpList_plain rfl fun K hK => ?_; refine wp_store_row 27 _ _ rfl w.heap.size (oidC 0 Z16) rfl rfl 27 (oidC 0 Z16) hR.out (oid_info _ _ rfl) rfl (oid_one _ _) ?_; refine hK _ _ ?_)
          refine bodyPost_ret (results_ct rfl _ _ w.heap.size 27 (oidC 0 Z16) (0, 0) _ rfl (setRow_heap _ _ _ _ _ _ hR.out) Tryd.underlying27 rfl (oid_info _ _ rfl)) rfl ?_
          exact ⟨rfl, below_setRow hTb.out (Nat.le_refl _) _⟩
        have HDT : Hid (decB (curP l fr j) = true) := by
          rw [HDC.out]
          by_cases h1 : c0 = 48
          · rw [decide_eq_false (fun h2 : fr + 1 < j => hz ⟨h1, h2⟩), Bool.and_false]; rfl
          · rw [decide_eq_false h1]; rfl
        have HNX := Lib.hid (R.out.piece (by rw [HN.out]; exact hle) HEND.out HDT.out)
        clear HDC HDT HEND
        have hz' : (c0 = 48 ∧ ¬ (fr : Int) + 1 < (j : Int)) ∨ ¬ c0 = 48 := by omega
        clear hz
        rcases hz' with ⟨hz1, hz2⟩ | hz1
        all_goals
          go_upto_region 13 with fail
          go_loop [7, 8] (fun v k => ∃ (kk m : Nat), fr ≤ kk ∧ kk ≤ j ∧ k = .int .i64 (kk : Int) ∧ v = .int .i64 (m : Int) ∧ m ≤ 4294967296 ∧ Hid (capR m ((curP l fr j).drop (kk - fr)) = capR 0 (curP l fr j))) (fun _ k => j - (intOf k).toNat)
          case atStart => exact ⟨fr, 0, Nat.le_refl _, Nat.le_of_lt hfl, rfl, rfl, by omega, by rw [Nat.sub_self, List.drop_zero]; rfl⟩
          case round =>
            obtain ⟨kk, m, hfk, hkj, rfl, rfl, hm, HCR⟩ := hrel
            by_cases hkl : kk < j
            · have hks : kk < s.size := by omega
              obtain ⟨ck, hck⟩ : ∃ ck, (l.getD kk 0).toNat = ck := ⟨_, rfl⟩
              have hixk : (s[kk]'hks).toNat = ck := by rw [HG.out kk hks]; exact hck
              have hdk := curP_dig hfk hkl (by rw [HN.out]; exact hle) HDIG.out
              rw [dig_of hck] at hdk
              have hdk := of_decide_eq_true hdk
              have hcr := HCR.out
              rw [curP_drop hfk hkl (by rw [HN.out]; exact hle), capR_cons, hck] at hcr
              clear hck HCR
              obtain ⟨m2, hm2⟩ : ∃ m2, min (10 * m + (ck - 48)) 4294967296 = m2 := ⟨_, rfl⟩
              rw [hm2] at hcr
              have HCR2 := Lib.hid hcr
              have hmi : min (10 * (m : Int) + ((ck : Int) - 48)) 4294967296 = (m2 : Int) := by omega
              have hsub : ((ck : Int) - 48) % 256 = (ck : Int) - 48 := by omega
              have hm2b : m2 ≤ 4294967296 := by omega
              clear hcr hm2
              have hkn : ¬ kk = j := by omega
              go_wp2
              go_round
              case rel => exact ⟨kk + 1, m2, by omega, by omega, by go_num, rfl, hm2b, HCR2⟩
              case measure => first | (simp [intOf]; omega) | (simp [intOf]; done)
            · obtain rfl : kk = j := by omega
              have hcr := HCR.out
              rw [List.drop_of_length_le (by rw [curP_len (by omega) (by rw [HN.out]; exact hle)]; omega), capR_nil] at hcr
              have hnx := HNX.out
              rw [capV_is, ← hcr] at hnx
              have HNX2 := Lib.hid hnx
              clear hnx hcr HCR HNX
              go_wp2_with ((with_reducible refine gate_dst (N := 72) rfl ?_); refine Kd.R_append (Kd.int .i64) (w0 := W) (w.heap.size + 1) rfl (.tmp 69) (.tmp 71) 48 3 (.int .i64 0) 8 rfl Tryd.underlying48 info3 rfl (by decide) (by omega) (.slice Ao S.length co) S (m : Int) [.int .i64 (m : Int)] (fun _ => True) (fun _ => False) rfl rfl rfl (fun _ h => h.elim) (fun _ _ => trivial) T.out.o T.out.b (by have := T.out.b.size; omega) (by omega) ?_; intro v1 w1 ho hb1 hg hat; have T1 : Hid (RgS W (w.heap.size + 1) v1 (S ++ [(m : Int)]) w1) := ⟨hb1, ho⟩; clear ho hb1 hg hat)
              go_round
              case rel => exact ⟨kk + 1, kk + 1, S ++ [(m : Int)], by go_num, by go_num, T1, HNX2⟩
              case measure => first | (simp [intOf]; omega) | (simp [intOf]; done)
    · have hle' : ¬ (j : Int) ≤ (n : Int) := by omega
      obtain ⟨hAll, hS⟩ := R.out.last (by rw [HN.out]; exact hle)
      have hSn : S.length ≤ n + 1 := by omega
      clear R HG hSt
      generalize splitP l = P at *
      subst hS
      have hPl : (P.map capV).length = P.length := List.length_map ..
      have HAL := Lib.hid hAll
      clear hAll
      by_cases h16 : 16 < P.length
      · have h16' : (16 : Int) < (P.length : Int) := by omega
        rw [hPl] at T ⊢
        obtain ⟨rfl, rfl, rfl⟩ : rn = 0 ∧ rx = Z16 ∧ er = 3 := by
          have hE := HRES.out
          unfold parseL at hE
          rw [if_pos HAL.out, if_pos h16] at hE
          injection hE with h1 h2; injection h2 with h2 h3; exact ⟨h1.symm, h2.symm, h3.symm⟩
        clear HRES
        have hR := Lib.hid ((T.out.b.block w.heap.size (by omega)).trans hB)
        have hTb := Lib.hid (hb.trans (T.out.b.mono (by omega)))
        go_wp2_with ((with_reducible refine gate_store rfl ?_); refine wpList_plain rfl fun K hK => ?_; refine wp_store_row 27 _ _ rfl w.heap.size (oidC 0 Z16) rfl rfl 27 (oidC 0 Z16) hR.out (oid_info _ _ rfl) rfl (oid_one _ _) ?_; refine hK _ _ ?_)
        refine bodyPost_ret (results_ct rfl _ _ w.heap.size 27 (oidC 0 Z16) (0, 0) _ rfl (setRow_heap _ _ _ _ _ _ hR.out) Tryd.underlying27 rfl (oid_info _ _ rfl)) rfl ?_
        exact ⟨rfl, below_setRow hTb.out (Nat.le_refl _) _⟩
      · have h16' : (P.length : Int) ≤ 16 := by omega
        have hmod : (P.length : Int) % 256 = (P.length : Int) := by omega
        have HPL := Lib.hid hPl
        have hRow := Lib.hid (Kd.R_reads' T.out.o)
        have hO5 := blk_new wr (.cells (oidC 0 Z16) 27)
        have hb5 := (Below.refl wr.heap.size wr).alloc (Nat.le_refl _) (.cells (oidC 0 Z16) 27)
        have hbd := Lib.hid (fun k (hk : k < P.length) => (by rw [capS_at hk]; exact capV_bd _ : 0 ≤ (P.map capV).getD k 0 ∧ (P.map capV).getD k 0 ≤ 4294967296))
        have HFA := Lib.hid (fit_all (P := P))
        have HFN := Lib.hid (fun k hk h => fit_not (P := P) (k := k) hk h)
        generalize P.map capV = S at *
        rw [hPl]
        go_upto_region 21 with fail
        rw [zrow]
        generalize wr.alloc (.cells (oidC 0 (List.replicate 16 0)) 27) = W5 at *
        have x0 := (oid_cells hO5).1
        have f0 := blk_frozen hO5 0
        have HQ := Lib.hid (RqS.start (n := (P.length : Int)) (S := S) hO5 hb5)
        have hR0 : wr.heap[w.heap.size]? = some (.cells (oidC 0 Z16) 27 (0, 0)) := (T.out.b.block w.heap.size (by omega)).trans hB
        have hwr : w.heap.size < wr.heap.size := blk_lt hR0
        have HBW := Lib.hid (hb.trans (T.out.b.mono (by omega)))
        go_upto_region 23 with fail
        clear x0 f0 hO5 hb5
        obtain ⟨wo, hwo⟩ : ∃ wo, wo = wr := ⟨_, rfl⟩
        subst hwo
        generalize W5.setCell ⟨wo.heap.size, 0, none⟩ (.int .u8 (P.length : Int)) = W6 at *
        go_loopw [10] (fun i w2 => ∃ kk : Nat, kk ≤ P.length ∧ i = .int .i64 (kk : Int) ∧ Hid (RqS (P.length : Int) S kk wo w2) ∧ Hid (∀ k, k < kk → S.getD k 0 ≤ 4294967295)) (fun i _ => P.length - (intOf i).toNat)
        case atStart => exact ⟨0, Nat.zero_le _, rfl, HQ, fun k hk => absurd hk (Nat.not_lt_zero k)⟩
        case round =>
          obtain ⟨kk, hk2, rfl, Q, HF⟩ := hrel
          by_cases hkl : kk < P.length
          · obtain ⟨as2, eas2, hs2⟩ := (Kd.reads_of_C (enc := Value.int .i64) (d := (0 : Int)) (h1 := fun _ => rfl) (Kd.C_below hRow.out.2.2 Q.out.b)).at_ (kk : Int) (by omega) (by rw [HPL.out]; omega)
            subst eas2
            simp only [rdOf, Int.toNat_natCast] at hs2
            have h15 : kk < 16 := by omega
            have hkS : kk < S.length := by rw [HPL.out]; exact hkl
            have y1 := (oid_cells Q.out.o).2 kk (by rw [padK_len S kk (by omega) (by omega)]; omega)
            have y2 := blk_frozen Q.out.o (1 + kk)
            have hQ2 := Lib.hid (Q.out.step hkS h15)
            have hsb := hbd.out kk hkl
            have HF2 := Lib.hid (fun h => HFN.out kk hkl h)
            have HF3 : Hid (S.getD kk 0 ≤ 4294967295 → ∀ k, k < kk + 1 → S.getD k 0 ≤ 4294967295) := fun h k hk => by
              by_cases e : k = kk
              · subst e; exact h
              · exact HF.out k (by omega)
            have hkn : ¬ kk = P.length := by omega
            generalize S.getD kk 0 = sv at *
            by_cases hsv : sv ≤ 4294967295
            · have hsw : sv % 4294967296 = sv := by omega
              have hsv' : ¬ 4294967295 < sv := by omega
              have HF4 := Lib.hid (HF3.out hsv)
              go_wp2
              go_round
              case rel => exact ⟨kk + 1, by omega, by go_num, hQ2, HF4⟩
              case measure => simp [intOf]; omega
            · have hsv' : 4294967295 < sv := by omega
              obtain ⟨rfl, rfl, rfl⟩ : rn = 0 ∧ rx = Z16 ∧ er = 3 := by
                have hE := HRES.out
                unfold parseL at hE
                rw [if_pos HAL.out, if_neg h16, HF2.out (by omega), if_neg (by decide)] at hE
                injection hE with h1 h2; injection h2 with h2 h3; exact ⟨h1.symm, h2.symm, h3.symm⟩
              clear HRES
              have hR7 := Lib.hid ((Q.out.b.block w.heap.size hwr).trans hR0)
              have hb7 := Lib.hid (HBW.out.trans (Q.out.b.mono (by omega)))
              go_wp2_with ((with_reducible refine gate_store rfl ?_); refine wpList_plain rfl fun K hK => ?_; refine wp_store_row 27 _ _ rfl w.heap.size (oidC 0 Z16) rfl rfl 27 (oidC 0 Z16) hR7.out (oid_info _ _ rfl) rfl (oid_one _ _) ?_; refine hK _ _ ?_)
              refine bodyPost_ret (results_ct rfl _ _ w.heap.size 27 (oidC 0 Z16) (0, 0) _ rfl (setRow_heap _ _ _ _ _ _ hR7.out) Tryd.underlying27 rfl (oid_info _ _ rfl)) rfl ?_
              exact ⟨rfl, below_setRow hb7.out (Nat.le_refl _) _⟩
          · obtain rfl : kk = P.length := by omega
            obtain ⟨hFit, hSv⟩ := HFA.out HF.out
            have hO7 := Q.out.o
            rw [show padK S P.length = pad (valsP P) by rw [← hSv, ← padK_all, HPL.out]] at hO7
            have hE := HRES.out
            unfold parseL at hE
            rw [if_pos HAL.out, if_neg h16, if_pos hFit] at hE
            have HO7 := Lib.hid hO7
            have hR7 := Lib.hid ((Q.out.b.block w.heap.size hwr).trans hR0)
            have hb7 := Lib.hid (HBW.out.trans (Q.out.b.mono (by omega)))
            have HPP : Hid ((pad (valsP P)).length = 16) := pad_len _ (by rw [valsP_len]; omega)
            have HC2 := Lib.hid (fun W => rcheck_any P.length (pad (valsP P)) W HPP.out (by omega))
            clear hO7 hFit hSv HRES
            by_cases hk : chkO (P.length : Int) (pad (valsP P)) = 0
            · rw [if_pos hk] at hE
              rw [hk] at HC2
              obtain ⟨rfl, rfl, rfl⟩ : rn = (P.length : Int) ∧ rx = pad (valsP P) ∧ er = 0 := by injection hE with h1 h2; injection h2 with h2 h3; exact ⟨h1.symm, h2.symm, h3.symm⟩
              clear hE hk
              go_wp2_with (first
                | ((with_reducible refine gate_dst (N := 103) rfl ?_); refine wpList_load_row rfl 27 _ rfl wo.heap.size rfl 27 (oidC (P.length : Int) (pad (valsP P))) (0, 0) _ HO7.out Tryd.underlying27 rfl (oid_info _ _ HPP.out) ?_)
                | (go_at_call 18; refine (HC2.out _).mono ?_; rintro e w8 ⟨rfl, hb8⟩; have HO8 := Lib.hid (blk_below HO7.out hb8); have hR8 := Lib.hid (blk_below hR7.out hb8); have HB8 := Lib.hid (hb7.out.trans (hb8.mono hb7.out.size)); clear hb8)
                | ((with_reducible refine gate_dst (N := 107) rfl ?_); refine wpList_load_row rfl 27 _ rfl wo.heap.size rfl 27 (oidC (P.length : Int) (pad (valsP P))) (0, 0) _ HO8.out Tryd.underlying27 rfl (oid_info _ _ HPP.out) ?_)
                | ((with_reducible refine gate_store rfl ?_); refine wpList_plain rfl fun K hK => ?_; refine wp_store_row 27 _ _ rfl w.heap.size (oidC (P.length : Int) (pad (valsP P))) rfl rfl 27 (oidC 0 Z16) hR8.out (oid_info _ _ HPP.out) (by simp [HPP.out]) (oid_one _ _) ?_; refine hK _ _ ?_))
              refine bodyPost_ret (results_ct rfl _ _ w.heap.size 27 (oidC (P.length : Int) (pad (valsP P))) (0, 0) _ rfl (setRow_heap _ _ _ _ _ _ hR8.out) Tryd.underlying27 rfl (oid_info _ _ HPP.out)) rfl ?_
              exact ⟨rfl, below_setRow HB8.out (Nat.le_refl _) _⟩
            · rw [if_neg hk] at hE
              rw [(chkO_01 _ _).resolve_left hk] at HC2
              obtain ⟨rfl, rfl, rfl⟩ : rn = 0 ∧ rx = Z16 ∧ er = 1 := by injection hE with h1 h2; injection h2 with h2 h3; exact ⟨h1.symm, h2.symm, h3.symm⟩
              clear hE hk
              go_wp2_with (first
                | ((with_reducible refine gate_dst (N := 103) rfl ?_); refine wpList_load_row rfl 27 _ rfl wo.heap.size rfl 27 (oidC (P.length : Int) (pad (valsP P))) (0, 0) _ HO7.out Tryd.underlying27 rfl (oid_info _ _ HPP.out) ?_)
                | (go_at_call 18; refine (HC2.out _).mono ?_; rintro e w8 ⟨rfl, hb8⟩; have hR8 := Lib.hid (blk_below hR7.out hb8); have HB8 := Lib.hid (hb7.out.trans (hb8.mono hb7.out.size)); clear hb8)
                | ((with_reducible refine gate_store rfl ?_); refine wpList_plain rfl fun K hK => ?_; refine wp_store_row 27 _ _ rfl w.heap.size (oidC 0 Z16) rfl rfl 27 (oidC 0 Z16) hR8.out (oid_info _ _ rfl) rfl (oid_one _ _) ?_; refine hK _ _ ?_))
              refine bodyPost_ret (results_ct rfl _ _ w.heap.size 27 (oidC 0 Z16) (0, 0) _ rfl (setRow_heap _ _ _ _ _ _ hR8.out) Tryd.underlying27 rfl (oid_info _ _ rfl)) rfl ?_
              exact ⟨rfl, below_setRow HB8.out (Nat.le_refl _) _⟩
end Go.Proofs.YtacpcagijfacnaaDoor
