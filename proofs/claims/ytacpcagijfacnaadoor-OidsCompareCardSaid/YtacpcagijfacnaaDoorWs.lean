/- Chapters 6, 7 (oids, oidsets): Parse. -/
import Derived.Test.YtacpcagijfacnaaDoorWr
namespace Go.Proofs.YtacpcagijfacnaaDoor
open Go.RowKit Go.Shelf
open Go.Proofs.YtacpcagijfacnaaDoorW.PrintWords (results_ct gate_guard gate_dst gate_store blk_new blk_below blk_cell blk_alloc blk_lt blk_frozen blk_drew blk_set)
set_option linter.unusedSimpArgs false
set_option linter.unusedVariables false
set_option maxRecDepth 50000
/-- The arcs that the pieces give. -/
def valsP (P : List (List UInt8)) : List Int := P.map fun p => ((min (valB p) 4294967295 : Nat) : Int)
/-- Parse, in plain data, of the pieces. -/
def parseL (P : List (List UInt8)) : Int × List Int × Int :=
  if P.all decB = true then
    if 16 < P.length then (0, Z16, 3)
    else if P.all (fun p => decide (valB p ≤ 4294967295)) = true then
      if chkO (P.length : Int) (pad (valsP P)) = 0 then ((P.length : Int), pad (valsP P), 0) else (0, Z16, 1)
    else (0, Z16, 3)
  else (0, Z16, 6)
/-- What stands while the pieces are gone through. -/
structure PaS (w : World) (P : List (List UInt8)) (n : Int) (O : Nat) (j : Nat) (W : World) : Prop where
  s : St w W
  r : W.heap[w.heap.size]? = some (.cells (oidC 0 Z16) 27 (0, 0))
  p : W.heap[w.heap.size + 1]? = some (.cells (strC P) 9 (0, 0))
  o : W.heap[O]? = some (.cells (oidC n (padK (valsP P) (min j 16))) 27 (0, 0))
theorem valsP_len (P : List (List UInt8)) : (valsP P).length = P.length := by unfold valsP; rw [List.length_map]
theorem valsP_at {P : List (List UInt8)} {j : Nat} (h : j < P.length) : (valsP P).getD j 0 = ((min (valB (P.getD j [])) 4294967295 : Nat) : Int) := by
  unfold valsP
  simp [List.getD, List.getElem?_eq_getElem h]
theorem PaS.next {w : World} {P : List (List UInt8)} {n : Int} {O j : Nat} {W W' : World} (h : PaS w P n O j W) (hb : Below W.heap.size W W') : PaS w P n O j W' :=
  ⟨h.s.next hb, blk_below h.r hb, blk_below h.p hb, blk_below h.o hb⟩
theorem PaS.skip {w : World} {P : List (List UInt8)} {n : Int} {O j : Nat} {W : World} (h : PaS w P n O j W) (hj : 16 ≤ j) : PaS w P n O (j + 1) W :=
  ⟨h.s, h.r, h.p, by have := h.o; rw [Nat.min_eq_right hj] at this; rw [Nat.min_eq_right (by omega)]; exact this⟩
theorem PaS.set {w : World} {P : List (List UInt8)} {n : Int} {O j : Nat} {W : World} (h : PaS w P n O j W) (hw : 3 < w.heap.size) (hO : w.heap.size + 1 < O) (hj : j < P.length) (h16 : j < 16) {v : Int} (hv : v = ((min (valB (P.getD j [])) 4294967295 : Nat) : Int)) :
    PaS w P n O (j + 1) (W.setCell ⟨O, 1 + j, none⟩ (.int .u32 v)) := by
  refine ⟨h.s.set hw (by show _ ≤ O; omega) _, ?_, ?_, ?_⟩
  · rw [Below.heap_setCell _ _ _ _ (by show w.heap.size ≠ O; omega)]; exact h.r
  · rw [Below.heap_setCell _ _ _ _ (by show w.heap.size + 1 ≠ O; omega)]; exact h.p
  · have h1 := h.o
    rw [Nat.min_eq_left (by omega : j ≤ 16)] at h1
    have h2 := blk_set h1 (1 + j) (.int .u32 v)
    rw [oid_set _ _ _ _ (by rw [padK_len _ j (by rw [valsP_len]; omega) (by omega)]; omega), hv, ← valsP_at hj, padK_set _ j (by rw [valsP_len]; omega) h16] at h2
    rw [hv, ← valsP_at hj, Nat.min_eq_left (by omega : j + 1 ≤ 16)]
    exact h2
theorem PaS.at_ {w : World} {P : List (List UInt8)} {n : Int} {O j : Nat} {W : World} (h : PaS w P n O j W) (hj : j < P.length) (h16 : j < 16) : ∃ v, W.cell? ⟨O, 1 + j, none⟩ = some v ∧ W.frozen? ⟨O, 1 + j, none⟩ = false := by
  have h1 := h.o
  rw [Nat.min_eq_left (by omega : j ≤ 16)] at h1
  exact ⟨_, (oid_cells h1).2 j (by rw [padK_len _ j (by rw [valsP_len]; omega) (by omega)]; omega), blk_frozen h1 _⟩
theorem PaS.zero {w : World} {P : List (List UInt8)} {W : World} (n : Int) (hs : St w W) (hr : W.heap[w.heap.size]? = some (.cells (oidC 0 Z16) 27 (0, 0))) (hp : W.heap[w.heap.size + 1]? = some (.cells (strC P) 9 (0, 0))) :
    PaS w P n W.heap.size 0 (W.alloc (.cells (oidC n Z16) 27)) :=
  ⟨hs.alloc _, blk_alloc hr _, blk_alloc hp _, blk_new _ _⟩
theorem all_take {P : List (List UInt8)} {f : List UInt8 → Bool} {j : Nat} (h : j < P.length) : (P.take (j + 1)).all f = ((P.take j).all f && f (P.getD j [])) := by
  rw [List.take_add_one, List.getElem?_eq_getElem h, Option.toList_some, List.all_append, List.getD_eq_getElem?_getD, List.getElem?_eq_getElem h, Option.getD_some]
  simp
theorem all_false {P : List (List UInt8)} {f : List UInt8 → Bool} {j : Nat} (h : j < P.length) (hf : f (P.getD j []) = false) : P.all f = false := by
  rw [Bool.eq_false_iff]
  intro ha
  rw [List.all_eq_true] at ha
  have := ha (P.getD j []) (by rw [List.getD_eq_getElem?_getD, List.getElem?_eq_getElem h, Option.getD_some]; exact List.getElem_mem h)
  rw [hf] at this; cases this
abbrev fit (p : List UInt8) : Bool := decide (valB p ≤ 4294967295)
set_option maxHeartbeats 8000000 in
theorem parse_any (l : List UInt8) (w : World) (hl : l.length ≤ 100000) (hT : Tabs w) (rn er : Int) (rx : List Int) (hres : parseL (splitP l) = (rn, rx, er)) :
    Calls Tryd.prog 30 #[.string ⟨l.toArray⟩] w fun e w' => e = .returned (.tuple #[oidV rn rx, .int .i64 er]) ∧ Below w.heap.size w w' := by
  have HRES := Lib.hid hres
  have S0 := Lib.hid ((St.refl hT).alloc (.cells (oidC 0 Z16) 27))
  have hB := Lib.hid (blk_new w (.cells (oidC 0 Z16) 27))
  have hsz : (w.alloc (.cells (oidC 0 Z16) 27)).heap.size = w.heap.size + 1 := by simp
  have HSP := Lib.hid (fun W hW => split_call l W (by omega) hW)
  have HP := Lib.hid (fun p hp => Nat.le_trans (splitP_each (l := l) p hp) (Nat.le_trans hl (by omega : 100000 ≤ 1000000)))
  have hPl : (splitP l).length ≤ 100001 := by have := splitP_len l; omega
  have hw3 := hT.five
  clear hres hT
  generalize splitP l = P at *
  have HC := Lib.hid (fun W hW => cf_is P (w.heap.size + 1) P.length W HP.out hW (by omega) (Nat.le_refl _))
  have pick : (P.all decB = true ∧ 16 < P.length) ∨ (P.all decB = true ∧ ¬ 16 < P.length) ∨ P.all decB = false := by
    cases h : P.all decB
    · exact .inr (.inr rfl)
    · by_cases h2 : 16 < P.length
      · exact .inl ⟨rfl, h2⟩
      · exact .inr (.inl ⟨rfl, h2⟩)
  rcases pick with ⟨hAll, h16⟩ | ⟨hAll, h16⟩ | hNot
  · rw [hAll] at HC
    obtain ⟨rfl, rfl, rfl⟩ : rn = 0 ∧ rx = Z16 ∧ er = 3 := by
      have hE := HRES.out
      unfold parseL at hE
      rw [if_pos hAll, if_pos h16] at hE
      injection hE with h1 h2; injection h2 with h2 h3; exact ⟨h1.symm, h2.symm, h3.symm⟩
    have h16i : (16 : Int) < (P.length : Int) := by omega
    go_enter Tryd.func30, Tryd.ntmps30
    go_upto_region 1 with fail
    rw [zrow]
    generalize w.alloc (.cells (oidC 0 (List.replicate 16 0)) 27) = W at *
    go_wp2_with (first
      | (go_at_call 37; refine (HSP.out _ S0.out.t).mono ?_; rintro e w1 ⟨rfl, hw1⟩; have S1 : Hid (St w w1) := (by rw [hw1]; exact S0.out.alloc _); have hB1 : Hid (w1.heap[w.heap.size]? = some (.cells (oidC 0 Z16) 27 (0, 0))) := (by rw [hw1]; exact blk_alloc hB.out _); have hP1 : Hid (w1.heap[w.heap.size + 1]? = some (.cells (strC P) 9 (0, 0))) := (by rw [hw1, ← hsz]; exact blk_new _ _); clear hw1; rw [hsz])
      | (go_at_call 38; refine (HC.out _ hP1.out).mono ?_; rintro e w2 ⟨rfl, hb⟩; have S2 := Lib.hid (S1.out.next hb); have hB2 := Lib.hid (blk_below hB1.out hb); clear hb)
      | ((with_reducible refine gate_store rfl ?_); refine wpList_plain rfl fun K hK => ?_; refine wp_store_row 27 _ _ rfl w.heap.size (oidC 0 Z16) rfl rfl 27 (oidC 0 Z16) hB2.out (oid_info _ _ rfl) rfl (oid_one _ _) ?_; refine hK _ _ ?_))
    refine bodyPost_ret (results_ct rfl _ _ w.heap.size 27 (oidC 0 Z16) (0, 0) _ rfl (setRow_heap _ _ _ _ _ _ hB2.out) Tryd.underlying27 rfl (oid_info _ _ rfl)) rfl ?_
    exact ⟨rfl, below_setRow S2.out.b (Nat.le_refl _) _⟩
  · have h16i : (P.length : Int) ≤ 16 := by omega
    have hx := hAll
    rw [hx] at HC
    have HX := Lib.hid hx
    clear hx
    have hO1 := Lib.hid (fun W hs hr hp => PaS.zero (w := w) (P := P) (W := W) (P.length : Int) hs hr hp)
    go_enter Tryd.func30, Tryd.ntmps30
    go_upto_region 1 with fail
    rw [zrow]
    generalize w.alloc (.cells (oidC 0 (List.replicate 16 0)) 27) = W at *
    go_upto_region 4 with (first
      | (go_at_call 37; refine (HSP.out _ S0.out.t).mono ?_; rintro e w1 ⟨rfl, hw1⟩; have S1 : Hid (St w w1) := (by rw [hw1]; exact S0.out.alloc _); have hB1 : Hid (w1.heap[w.heap.size]? = some (.cells (oidC 0 Z16) 27 (0, 0))) := (by rw [hw1]; exact blk_alloc hB.out _); have hP1 : Hid (w1.heap[w.heap.size + 1]? = some (.cells (strC P) 9 (0, 0))) := (by rw [hw1, ← hsz]; exact blk_new _ _); clear hw1; rw [hsz])
      | (go_at_call 38; refine (HC.out _ hP1.out).mono ?_; rintro e w2 ⟨rfl, hb⟩; have Z2 := Lib.hid (hO1.out w2 (S1.out.next hb) (blk_below hB1.out hb) (blk_below hP1.out hb)); have hPs : w.heap.size + 1 < w2.heap.size := blk_lt (blk_below hP1.out hb); clear hb))
    go_upto_region 5 with fail
    rw [show (#[.int .u8 (P.length : Int), .int .u32 0, .int .u32 0, .int .u32 0, .int .u32 0, .int .u32 0, .int .u32 0, .int .u32 0, .int .u32 0, .int .u32 0, .int .u32 0, .int .u32 0, .int .u32 0, .int .u32 0, .int .u32 0, .int .u32 0, .int .u32 0] : Array Value) = oidC (P.length : Int) Z16 from rfl]
    generalize w2.alloc (.cells (oidC (P.length : Int) Z16) 27) = W2 at *
    generalize w2.heap.size = O at *
    go_upto_region 7 with fail
    go_loopw [6, 29] (fun lg i W => ∃ (j : Nat) (b : Bool), j ≤ P.length ∧ lg = .bool b ∧ i = .int .i64 (j : Int) ∧ Hid (PaS w P (P.length : Int) O j W) ∧ Hid ((P.take j).all decB = true) ∧ Hid ((P.take j).all fit = !b)) (fun _ i _ => P.length - (intOf i).toNat)
    case atStart => exact ⟨0, false, Nat.zero_le _, rfl, rfl, Z2, Lib.hid rfl, Lib.hid rfl⟩
    case round =>
      obtain ⟨j, b, hj, rfl, rfl, T, HA, HL⟩ := hrel
      by_cases hlt : j < P.length
      · have cj := strC_at T.out.p hlt
        have hjn : ¬ j = P.length := by omega
        have hpl := HP.out (P.getD j []) (by rw [List.getD_eq_getElem?_getD, List.getElem?_eq_getElem hlt, Option.getD_some]; exact List.getElem_mem hlt)
        have HT1 := Lib.hid (all_take (f := decB) hlt)
        have HT2 := Lib.hid (all_take (f := fit) hlt)
        rw [HA.out, Bool.true_and] at HT1
        rw [HL.out] at HT2
        have HF := Lib.hid (all_false (f := decB) hlt)
        have HS := Lib.hid (fun W (h : PaS w P (P.length : Int) O j W) h16 v hv => PaS.set (v := v) h hw3 hPs hlt h16 hv)
        have HDC := Lib.hid (fun W => decimal_is (P.getD j []) W hpl)
        have HPO := Lib.hid (fun W hd hv => pu_ok (P.getD j []) W hpl hd hv)
        have HPB := Lib.hid (fun W hd hv hT => pu_big (P.getD j []) W hpl hd hv hT)
        generalize P.getD j [] = p at *
        cases hdec : decB p
        · obtain ⟨rfl, rfl, rfl⟩ : rn = 0 ∧ rx = Z16 ∧ er = 6 := by
            have hE := HRES.out
            unfold parseL at hE
            rw [if_neg (by rw [HF.out hdec]; decide)] at hE
            injection hE with h1 h2; injection h2 with h2 h3; exact ⟨h1.symm, h2.symm, h3.symm⟩
          rw [hdec] at HDC
          go_wp2_with (first | (go_at_call 40; refine (HDC.out _).mono ?_; rintro e w4 ⟨rfl, hb⟩; have T4 := Lib.hid (T.out.next hb); clear hb) | ((with_reducible refine gate_store rfl ?_); refine wpList_plain rfl fun K hK => ?_; refine wp_store_row 27 _ _ rfl w.heap.size (oidC 0 Z16) rfl rfl 27 (oidC 0 Z16) T4.out.r (oid_info _ _ rfl) rfl (oid_one _ _) ?_; refine hK _ _ ?_))
          refine bodyPost_ret (results_ct rfl _ _ w.heap.size 27 (oidC 0 Z16) (0, 0) _ rfl (setRow_heap _ _ _ _ _ _ T4.out.r) Tryd.underlying27 rfl (oid_info _ _ rfl)) rfl ?_
          exact ⟨rfl, below_setRow T4.out.s.b (Nat.le_refl _) _⟩
        · rw [hdec] at HDC HT1
          have hdec1 := Lib.hid hdec
          clear hdec HA HL
          by_cases hv : valB p ≤ 4294967295
          · have hvm : ((valB p : Nat) : Int) % 4294967296 = ((valB p : Nat) : Int) := by omega
            have hfit : fit p = true := decide_eq_true hv
            have hmin : ((valB p : Nat) : Int) = ((min (valB p) 4294967295 : Nat) : Int) := by omega
            have HV := Lib.hid hv
            have HM := Lib.hid hmin
            rw [hfit] at HT2
            clear hv hmin hfit
            by_cases h16 : j < 16
            · have h16j : (j : Int) < 16 := by omega
              cases b
              all_goals
                go_wp2_with (first | (go_at_call 40; refine (HDC.out _).mono ?_; rintro e w4 ⟨rfl, hb⟩; have T4 := Lib.hid (T.out.next hb); clear hb) | (go_at_call 41; refine (HPO.out _ hdec1.out HV.out).mono ?_; rintro e w5 ⟨rfl, hb⟩; have T5 := Lib.hid (T4.out.next hb); clear hb; have hat := T5.out.at_ hlt h16; obtain ⟨vj, cv, fv⟩ := hat))
                go_round
                case rel => exact ⟨j + 1, _, by omega, rfl, by go_num, Lib.hid (HS.out _ T5.out h16 _ HM.out), HT1, HT2⟩
                case measure => first | (simp [intOf]; omega) | (simp [intOf]; done) | omega
            · exfalso; omega
          · have hfit : fit p = false := decide_eq_false hv
            have hmin : (4294967295 : Int) = ((min (valB p) 4294967295 : Nat) : Int) := by omega
            have HV := Lib.hid hv
            have HM := Lib.hid hmin
            rw [hfit] at HT2
            clear hv hmin hfit
            by_cases h16 : j < 16
            · have h16j : (j : Int) < 16 := by omega
              cases b
              all_goals
                go_wp2_with (first | (go_at_call 40; refine (HDC.out _).mono ?_; rintro e w4 ⟨rfl, hb⟩; have T4 := Lib.hid (T.out.next hb); clear hb) | (go_at_call 41; refine (HPB.out _ hdec1.out HV.out T4.out.s.t).mono ?_; rintro e w5 ⟨NB, rfl, hb⟩; have T5 := Lib.hid (T4.out.next hb); clear hb; have hat := T5.out.at_ hlt h16; obtain ⟨vj, cv, fv⟩ := hat))
                go_round
                case rel => exact ⟨j + 1, _, by omega, rfl, by go_num, Lib.hid (HS.out _ T5.out h16 _ HM.out), HT1, HT2⟩
                case measure => first | (simp [intOf]; omega) | (simp [intOf]; done) | omega
            · exfalso; omega
      · obtain rfl : j = P.length := by omega
        have hE := HRES.out
        have hLf := HL.out
        rw [List.take_length] at hLf
        unfold parseL at hE
        rw [if_pos HX.out, if_neg (by omega), hLf] at hE
        have hO := T.out.o
        rw [Nat.min_eq_left (by omega : P.length ≤ 16), show padK (valsP P) P.length = pad (valsP P) by rw [← padK_all, valsP_len]] at hO
        have HO := Lib.hid hO
        have HPL : Hid ((pad (valsP P)).length = 16) := pad_len _ (by rw [valsP_len]; omega)
        clear hO hLf HL HA HRES
        cases b
        · rw [if_pos (by decide : (!false) = true)] at hE
          have HC2 := Lib.hid (fun W => check_any (P.length : Int) (pad (valsP P)) W HPL.out (by omega))
          by_cases hk : chkO (P.length : Int) (pad (valsP P)) = 0
          · rw [if_pos hk] at hE
            rw [hk] at HC2
            obtain ⟨rfl, rfl, rfl⟩ : rn = (P.length : Int) ∧ rx = pad (valsP P) ∧ er = 0 := by injection hE with h1 h2; injection h2 with h2 h3; exact ⟨h1.symm, h2.symm, h3.symm⟩
            clear hE hk
            go_wp2_with (first | ((with_reducible refine gate_dst (N := 58) rfl ?_); refine wpList_load_row rfl 27 _ rfl O rfl 27 (oidC (P.length : Int) (pad (valsP P))) (0, 0) _ HO.out Tryd.underlying27 rfl (oid_info _ _ HPL.out) ?_) | ((with_reducible refine gate_dst (N := 64) rfl ?_); refine wpList_load_row rfl 27 _ rfl O rfl 27 (oidC (P.length : Int) (pad (valsP P))) (0, 0) _ HO4.out Tryd.underlying27 rfl (oid_info _ _ HPL.out) ?_) | (go_at_call 25; refine (HC2.out _).mono ?_; rintro e w4 ⟨rfl, hb⟩; have T4 := Lib.hid (T.out.next hb); have HO4 := Lib.hid (blk_below HO.out hb); clear hb) | ((with_reducible refine gate_store rfl ?_); refine wpList_plain rfl fun K hK => ?_; refine wp_store_row 27 _ _ rfl w.heap.size (oidC (P.length : Int) (pad (valsP P))) rfl rfl 27 (oidC 0 Z16) T4.out.r (oid_info _ _ HPL.out) (by simp [HPL.out]) (oid_one _ _) ?_; refine hK _ _ ?_))
            refine bodyPost_ret (results_ct rfl _ _ w.heap.size 27 (oidC (P.length : Int) (pad (valsP P))) (0, 0) _ rfl (setRow_heap _ _ _ _ _ _ T4.out.r) Tryd.underlying27 rfl (oid_info _ _ HPL.out)) rfl ?_
            exact ⟨rfl, below_setRow T4.out.s.b (Nat.le_refl _) _⟩
          · rw [if_neg hk] at hE
            rw [(chkO_01 _ _).resolve_left hk] at HC2
            obtain ⟨rfl, rfl, rfl⟩ : rn = 0 ∧ rx = Z16 ∧ er = 1 := by injection hE with h1 h2; injection h2 with h2 h3; exact ⟨h1.symm, h2.symm, h3.symm⟩
            clear hE hk
            go_wp2_with (first | ((with_reducible refine gate_dst (N := 58) rfl ?_); refine wpList_load_row rfl 27 _ rfl O rfl 27 (oidC (P.length : Int) (pad (valsP P))) (0, 0) _ HO.out Tryd.underlying27 rfl (oid_info _ _ HPL.out) ?_) | (go_at_call 25; refine (HC2.out _).mono ?_; rintro e w4 ⟨rfl, hb⟩; have T4 := Lib.hid (T.out.next hb); have HO4 := Lib.hid (blk_below HO.out hb); clear hb) | ((with_reducible refine gate_store rfl ?_); refine wpList_plain rfl fun K hK => ?_; refine wp_store_row 27 _ _ rfl w.heap.size (oidC 0 Z16) rfl rfl 27 (oidC 0 Z16) T4.out.r (oid_info _ _ rfl) rfl (oid_one _ _) ?_; refine hK _ _ ?_))
            refine bodyPost_ret (results_ct rfl _ _ w.heap.size 27 (oidC 0 Z16) (0, 0) _ rfl (setRow_heap _ _ _ _ _ _ T4.out.r) Tryd.underlying27 rfl (oid_info _ _ rfl)) rfl ?_
            exact ⟨rfl, below_setRow T4.out.s.b (Nat.le_refl _) _⟩
        · rw [if_neg (by decide : ¬ (!true) = true)] at hE
          obtain ⟨rfl, rfl, rfl⟩ : rn = 0 ∧ rx = Z16 ∧ er = 3 := by injection hE with h1 h2; injection h2 with h2 h3; exact ⟨h1.symm, h2.symm, h3.symm⟩
          clear hE
          go_wp2_with ((with_reducible refine gate_store rfl ?_); refine wpList_plain rfl fun K hK => ?_; refine wp_store_row 27 _ _ rfl w.heap.size (oidC 0 Z16) rfl rfl 27 (oidC 0 Z16) T.out.r (oid_info _ _ rfl) rfl (oid_one _ _) ?_; refine hK _ _ ?_)
          refine bodyPost_ret (results_ct rfl _ _ w.heap.size 27 (oidC 0 Z16) (0, 0) _ rfl (setRow_heap _ _ _ _ _ _ T.out.r) Tryd.underlying27 rfl (oid_info _ _ rfl)) rfl ?_
          exact ⟨rfl, below_setRow T.out.s.b (Nat.le_refl _) _⟩
  · have hx := hNot
    rw [hx] at HC
    have HX := Lib.hid hx
    clear hx
    have hO1 := Lib.hid (fun W hs hr hp => PaS.zero (w := w) (P := P) (W := W) ((P.length : Int) % 256) hs hr hp)
    go_enter Tryd.func30, Tryd.ntmps30
    go_upto_region 1 with fail
    rw [zrow]
    generalize w.alloc (.cells (oidC 0 (List.replicate 16 0)) 27) = W at *
    go_upto_region 4 with (first
      | (go_at_call 37; refine (HSP.out _ S0.out.t).mono ?_; rintro e w1 ⟨rfl, hw1⟩; have S1 : Hid (St w w1) := (by rw [hw1]; exact S0.out.alloc _); have hB1 : Hid (w1.heap[w.heap.size]? = some (.cells (oidC 0 Z16) 27 (0, 0))) := (by rw [hw1]; exact blk_alloc hB.out _); have hP1 : Hid (w1.heap[w.heap.size + 1]? = some (.cells (strC P) 9 (0, 0))) := (by rw [hw1, ← hsz]; exact blk_new _ _); clear hw1; rw [hsz])
      | (go_at_call 38; refine (HC.out _ hP1.out).mono ?_; rintro e w2 ⟨rfl, hb⟩; have Z2 := Lib.hid (hO1.out w2 (S1.out.next hb) (blk_below hB1.out hb) (blk_below hP1.out hb)); have hPs : w.heap.size + 1 < w2.heap.size := blk_lt (blk_below hP1.out hb); clear hb))
    go_upto_region 5 with fail
    rw [show (#[.int .u8 ((P.length : Int) % 256), .int .u32 0, .int .u32 0, .int .u32 0, .int .u32 0, .int .u32 0, .int .u32 0, .int .u32 0, .int .u32 0, .int .u32 0, .int .u32 0, .int .u32 0, .int .u32 0, .int .u32 0, .int .u32 0, .int .u32 0, .int .u32 0] : Array Value) = oidC ((P.length : Int) % 256) Z16 from rfl]
    generalize w2.alloc (.cells (oidC ((P.length : Int) % 256) Z16) 27) = W2 at *
    generalize w2.heap.size = O at *
    go_upto_region 7 with fail
    go_loopw [6, 29] (fun lg i W => ∃ (j : Nat) (b : Bool), j ≤ P.length ∧ lg = .bool b ∧ i = .int .i64 (j : Int) ∧ Hid (PaS w P ((P.length : Int) % 256) O j W) ∧ Hid ((P.take j).all decB = true) ∧ Hid ((P.take j).all fit = !b)) (fun _ i _ => P.length - (intOf i).toNat)
    case atStart => exact ⟨0, false, Nat.zero_le _, rfl, rfl, Z2, Lib.hid rfl, Lib.hid rfl⟩
    case round =>
      obtain ⟨j, b, hj, rfl, rfl, T, HA, HL⟩ := hrel
      by_cases hlt : j < P.length
      · have cj := strC_at T.out.p hlt
        have hjn : ¬ j = P.length := by omega
        have hpl := HP.out (P.getD j []) (by rw [List.getD_eq_getElem?_getD, List.getElem?_eq_getElem hlt, Option.getD_some]; exact List.getElem_mem hlt)
        have HT1 := Lib.hid (all_take (f := decB) hlt)
        have HT2 := Lib.hid (all_take (f := fit) hlt)
        rw [HA.out, Bool.true_and] at HT1
        rw [HL.out] at HT2
        have HF := Lib.hid (all_false (f := decB) hlt)
        have HS := Lib.hid (fun W (h : PaS w P ((P.length : Int) % 256) O j W) h16 v hv => PaS.set (v := v) h hw3 hPs hlt h16 hv)
        have HDC := Lib.hid (fun W => decimal_is (P.getD j []) W hpl)
        have HPO := Lib.hid (fun W hd hv => pu_ok (P.getD j []) W hpl hd hv)
        have HPB := Lib.hid (fun W hd hv hT => pu_big (P.getD j []) W hpl hd hv hT)
        generalize P.getD j [] = p at *
        cases hdec : decB p
        · obtain ⟨rfl, rfl, rfl⟩ : rn = 0 ∧ rx = Z16 ∧ er = 6 := by
            have hE := HRES.out
            unfold parseL at hE
            rw [if_neg (by rw [HF.out hdec]; decide)] at hE
            injection hE with h1 h2; injection h2 with h2 h3; exact ⟨h1.symm, h2.symm, h3.symm⟩
          rw [hdec] at HDC
          go_wp2_with (first | (go_at_call 40; refine (HDC.out _).mono ?_; rintro e w4 ⟨rfl, hb⟩; have T4 := Lib.hid (T.out.next hb); clear hb) | ((with_reducible refine gate_store rfl ?_); refine wpList_plain rfl fun K hK => ?_; refine wp_store_row 27 _ _ rfl w.heap.size (oidC 0 Z16) rfl rfl 27 (oidC 0 Z16) T4.out.r (oid_info _ _ rfl) rfl (oid_one _ _) ?_; refine hK _ _ ?_))
          refine bodyPost_ret (results_ct rfl _ _ w.heap.size 27 (oidC 0 Z16) (0, 0) _ rfl (setRow_heap _ _ _ _ _ _ T4.out.r) Tryd.underlying27 rfl (oid_info _ _ rfl)) rfl ?_
          exact ⟨rfl, below_setRow T4.out.s.b (Nat.le_refl _) _⟩
        · rw [hdec] at HDC HT1
          have hdec1 := Lib.hid hdec
          clear hdec HA HL
          by_cases hv : valB p ≤ 4294967295
          · have hvm : ((valB p : Nat) : Int) % 4294967296 = ((valB p : Nat) : Int) := by omega
            have hfit : fit p = true := decide_eq_true hv
            have hmin : ((valB p : Nat) : Int) = ((min (valB p) 4294967295 : Nat) : Int) := by omega
            have HV := Lib.hid hv
            have HM := Lib.hid hmin
            rw [hfit] at HT2
            clear hv hmin hfit
            by_cases h16 : j < 16
            · have h16j : (j : Int) < 16 := by omega
              cases b
              all_goals
                go_wp2_with (first | (go_at_call 40; refine (HDC.out _).mono ?_; rintro e w4 ⟨rfl, hb⟩; have T4 := Lib.hid (T.out.next hb); clear hb) | (go_at_call 41; refine (HPO.out _ hdec1.out HV.out).mono ?_; rintro e w5 ⟨rfl, hb⟩; have T5 := Lib.hid (T4.out.next hb); clear hb; have hat := T5.out.at_ hlt h16; obtain ⟨vj, cv, fv⟩ := hat))
                go_round
                case rel => exact ⟨j + 1, _, by omega, rfl, by go_num, Lib.hid (HS.out _ T5.out h16 _ HM.out), HT1, HT2⟩
                case measure => first | (simp [intOf]; omega) | (simp [intOf]; done) | omega
            · have h16j : ¬ (j : Int) < 16 := by omega
              cases b
              all_goals
                go_wp2_with (first | (go_at_call 40; refine (HDC.out _).mono ?_; rintro e w4 ⟨rfl, hb⟩; have T4 := Lib.hid (T.out.next hb); clear hb) | (go_at_call 41; refine (HPO.out _ hdec1.out HV.out).mono ?_; rintro e w5 ⟨rfl, hb⟩; have T5 := Lib.hid (T4.out.next hb); clear hb))
                go_round
                case rel => exact ⟨j + 1, _, by omega, rfl, by go_num, Lib.hid (T5.out.skip (by omega)), HT1, HT2⟩
                case measure => first | (simp [intOf]; omega) | (simp [intOf]; done) | omega
          · have hfit : fit p = false := decide_eq_false hv
            have hmin : (4294967295 : Int) = ((min (valB p) 4294967295 : Nat) : Int) := by omega
            have HV := Lib.hid hv
            have HM := Lib.hid hmin
            rw [hfit] at HT2
            clear hv hmin hfit
            by_cases h16 : j < 16
            · have h16j : (j : Int) < 16 := by omega
              cases b
              all_goals
                go_wp2_with (first | (go_at_call 40; refine (HDC.out _).mono ?_; rintro e w4 ⟨rfl, hb⟩; have T4 := Lib.hid (T.out.next hb); clear hb) | (go_at_call 41; refine (HPB.out _ hdec1.out HV.out T4.out.s.t).mono ?_; rintro e w5 ⟨NB, rfl, hb⟩; have T5 := Lib.hid (T4.out.next hb); clear hb; have hat := T5.out.at_ hlt h16; obtain ⟨vj, cv, fv⟩ := hat))
                go_round
                case rel => exact ⟨j + 1, _, by omega, rfl, by go_num, Lib.hid (HS.out _ T5.out h16 _ HM.out), HT1, HT2⟩
                case measure => first | (simp [intOf]; omega) | (simp [intOf]; done) | omega
            · have h16j : ¬ (j : Int) < 16 := by omega
              cases b
              all_goals
                go_wp2_with (first | (go_at_call 40; refine (HDC.out _).mono ?_; rintro e w4 ⟨rfl, hb⟩; have T4 := Lib.hid (T.out.next hb); clear hb) | (go_at_call 41; refine (HPB.out _ hdec1.out HV.out T4.out.s.t).mono ?_; rintro e w5 ⟨NB, rfl, hb⟩; have T5 := Lib.hid (T4.out.next hb); clear hb))
                go_round
                case rel => exact ⟨j + 1, _, by omega, rfl, by go_num, Lib.hid (T5.out.skip (by omega)), HT1, HT2⟩
                case measure => first | (simp [intOf]; omega) | (simp [intOf]; done) | omega
      · obtain rfl : j = P.length := by omega
        have h := HA.out
        rw [List.take_length, HX.out] at h
        cases h
end Go.Proofs.YtacpcagijfacnaaDoor
