/- Chapters 6, 7 (oids, oidsets): the reference's Parse. -/
import Derived.Test.YtacpcagijfacnaaDoorWt
namespace Go.Proofs.YtacpcagijfacnaaDoor
open Go.RowKit Go.Shelf
open Go.Proofs.YtacpcagijfacnaaDoorW.PrintWords (results_ct gate_guard gate_dst gate_store Kd.C_below Kd.C_of_reads Kd.reads_of_C ReadsOf.at_ rdOf blk_new blk_below blk_cell blk_alloc blk_lt blk_frozen blk_drew blk_set Kd.C Kd.int Kd.R Kd.R_nil Kd.R_slice Kd.R_reads' Kd.R_append)
set_option linter.unusedSimpArgs false
set_option linter.unusedVariables false
set_option maxRecDepth 50000
theorem dig_of {b : UInt8} {c : Nat} (h : b.toNat = c) : isDig b = decide (48 ≤ c ∧ c ≤ 57) := by subst h; rfl
theorem curP_len {l : List UInt8} {f j : Nat} (hf : f ≤ j) (hj : j ≤ l.length) : (curP l f j).length = j - f := by unfold curP; rw [List.length_take, List.length_drop]; omega
theorem curP_drop {l : List UInt8} {f j k : Nat} (hf : f ≤ k) (hk : k < j) (hj : j ≤ l.length) : (curP l f j).drop (k - f) = l.getD k 0 :: (curP l f j).drop (k + 1 - f) := by
  have hlt : k - f < (curP l f j).length := by rw [curP_len (by omega) hj]; omega
  rw [dropU_at hlt, show k - f + 1 = k + 1 - f by omega]
  congr 1
  unfold curP
  rw [List.getD_eq_getElem?_getD, List.getElem?_take, if_pos (by omega), List.getElem?_drop, show f + (k - f) = k by omega, ← List.getD_eq_getElem?_getD]
theorem curP_dig {l : List UInt8} {f j k : Nat} (hf : f ≤ k) (hk : k < j) (hj : j ≤ l.length) (h : (curP l f j).all isDig = true) : isDig (l.getD k 0) = true := by
  rw [List.all_eq_true] at h
  refine h _ (List.mem_of_mem_drop (i := k - f) ?_)
  rw [curP_drop hf hk hj]; simp
theorem decB_curP {l : List UInt8} {f j c0 : Nat} (hf : f < j) (hj : j ≤ l.length) (h : (curP l f j).all isDig = true) (hc : (l.getD f 0).toNat = c0) : decB (curP l f j) = !(decide (c0 = 48) && decide (f + 1 < j)) := by
  have h0 := curP_drop (Nat.le_refl f) hf hj
  rw [Nat.sub_self, List.drop_zero] at h0
  have hl := curP_len (by omega : f ≤ j) hj
  obtain ⟨t, ht⟩ : ∃ t, curP l f j = l.getD f 0 :: t := ⟨_, h0⟩
  rw [ht, List.length_cons] at hl
  rw [decB_cur h, ht, List.length_cons]
  rw [List.isEmpty_cons, Bool.not_false, Bool.true_and, List.headD_cons, hl]
  have e1 : (l.getD f 0 == 48) = decide (c0 = 48) := by
    rw [← hc]
    by_cases h48 : l.getD f 0 = 48
    · rw [h48]; rfl
    · rw [decide_eq_false (p := (l.getD f 0).toNat = 48) (fun h2 => h48 (UInt8.toNat_inj.mp h2))]; simpa using h48
  have e2 : decide (1 < j - f) = decide (f + 1 < j) := by congr 1; exact propext ⟨fun _ => by omega, fun _ => by omega⟩
  rw [e1, e2]
theorem capV_bd (p : List UInt8) : 0 ≤ capV p ∧ capV p ≤ 4294967296 := by unfold capV; omega
/-- What stands while the arcs are stored. -/
structure RqS (n : Int) (S : List Int) (k : Nat) (wr W : World) : Prop where
  b : Below wr.heap.size wr W
  o : W.heap[wr.heap.size]? = some (.cells (oidC n (padK S k)) 27 (0, 0))
theorem RqS.start {n : Int} {S : List Int} {wr W : World} (ho : W.heap[wr.heap.size]? = some (.cells (oidC 0 Z16) 27 (0, 0))) (hb : Below wr.heap.size wr W) :
    RqS n S 0 wr (W.setCell ⟨wr.heap.size, 0, none⟩ (.int .u8 n)) := by
  refine ⟨hb.setCell (Nat.le_refl _) _, ?_⟩
  have h1 := blk_set ho 0 (.int .u8 n)
  rw [oid_setN] at h1
  exact h1
theorem RqS.step {n : Int} {S : List Int} {k : Nat} {wr W : World} (h : RqS n S k wr W) (hk : k < S.length) (h16 : k < 16) :
    RqS n S (k + 1) wr (W.setCell ⟨wr.heap.size, 1 + k, none⟩ (.int .u32 (S.getD k 0))) := by
  refine ⟨h.b.setCell (Nat.le_refl _) _, ?_⟩
  have h2 := blk_set h.o (1 + k) (.int .u32 (S.getD k 0))
  rw [oid_set _ _ _ _ (by rw [padK_len S k (by omega) (by omega)]; omega), padK_set S k hk h16] at h2
  exact h2
theorem capS_at {P : List (List UInt8)} {k : Nat} (hk : k < P.length) : (P.map capV).getD k 0 = capV (P.getD k []) := by
  simp [List.getD, List.getElem?_eq_getElem hk]
theorem fit_all {P : List (List UInt8)} (h : ∀ k, k < P.length → (P.map capV).getD k 0 ≤ 4294967295) : P.all fit = true ∧ P.map capV = valsP P := by
  have h2 : ∀ p ∈ P, valB p ≤ 4294967295 := fun p hp => by
    obtain ⟨k, hk, rfl⟩ := List.getElem_of_mem hp
    have := h k hk
    rw [capS_at hk, List.getD_eq_getElem?_getD, List.getElem?_eq_getElem hk, Option.getD_some] at this
    unfold capV at this
    omega
  refine ⟨?_, ?_⟩
  · rw [List.all_eq_true]
    intro p hp
    exact decide_eq_true (h2 p hp)
  · unfold valsP
    refine List.map_congr_left fun p hp => ?_
    have := h2 p hp
    unfold capV
    omega
theorem fit_not {P : List (List UInt8)} {k : Nat} (hk : k < P.length) (h : ¬ (P.map capV).getD k 0 ≤ 4294967295) : P.all fit = false := by
  refine all_false hk (decide_eq_false fun h2 => h ?_)
  rw [capS_at hk]
  unfold capV
  omega
set_option maxHeartbeats 8000000 in
theorem rparse_any (l : List UInt8) (w : World) (hl : l.length ≤ 100000) (rn er : Int) (rx : List Int) (hres : parseL (splitP l) = (rn, rx, er)) :
    Calls Tryd.prog 13 #[.string ⟨l.toArray⟩] w fun e w' => e = .returned (.tuple #[oidV rn rx, .int .i64 er]) ∧ Below w.heap.size w w' := by
  have HRES := Lib.hid hres
  clear hres
  have hb := (Below.refl w.heap.size w).alloc (Nat.le_refl _) (.cells (oidC 0 Z16) 27)
  have hB := blk_new w (.cells (oidC 0 Z16) 27)
  have hsz : (w.alloc (.cells (oidC 0 Z16) 27)).heap.size = w.heap.size + 1 := by simp
  have hn : (⟨l.toArray⟩ : ByteArray).size = l.length := by rw [ByteArray.size]; simp
  have HG : Hid (∀ k (h : k < (⟨l.toArray⟩ : ByteArray).size), (⟨l.toArray⟩ : ByteArray)[k]'h = l.getD k 0) := fun k h => by
    rw [hn] at h
    rw [List.getD_eq_getElem?_getD, List.getElem?_eq_getElem h, Option.getD_some]
    rfl
  generalize (⟨l.toArray⟩ : ByteArray) = s at *
  obtain ⟨n, hnn⟩ : ∃ n, l.length = n := ⟨_, rfl⟩
  rw [hnn] at hn hl
  have HN := Lib.hid hnn
  clear hnn
  go_enter Tryd.func13, Tryd.ntmps13
  go_upto_region 1 with fail
  rw [zrow]
  generalize w.alloc (.cells (oidC 0 (List.replicate 16 0)) 27) = W at *
  have S0 : Hid (RgS W (w.heap.size + 1) (.slice none 0 0) [] W) := ⟨Below.refl _ _, Kd.R_nil _ _ _ _ _⟩
  go_upto_region 4 with fail
  go_loopw [4, 5, 6] (fun v f i wr => ∃ (j fr : Nat) (S : List Int), i = .int .i64 (j : Int) ∧ f = .int .i64 (fr : Int) ∧ Hid (RgS W (w.heap.size + 1) v S wr) ∧ Hid (RpI l j fr S)) (fun _ _ i _ => n + 1 - (intOf i).toNat)
  case atStart => exact ⟨0, 0, [], rfl, rfl, S0, RpI.start l⟩
  case round =>
    obtain ⟨j, fr, S, rfl, rfl, T, R⟩ := hrel
    obtain ⟨Ao, co, rfl⟩ := Kd.R_slice T.out.o
    obtain ⟨htop, hSt⟩ := R.out.top
    rw [HN.out] at htop
    by_cases hle : j ≤ n
    · obtain ⟨hfj, hSf, hdig⟩ := R.out.le (by rw [HN.out]; exact hle)
      have HDIG := Lib.hid hdig
      clear hdig
      have hleI : (j : Int) ≤ (n : Int) := by omega
      by_cases hlt : j < n
      · have hjs : j < s.size := by omega
        have hix := HG.out j hjs
        obtain ⟨c, hc⟩ : ∃ c, (l.getD j 0).toNat = c := ⟨_, rfl⟩
        have hixc : (s[j]'hjs).toNat = c := by rw [hix]; exact hc
        have hc256 : c < 256 := by rw [← hc]; exact UInt8.toNat_lt _
        have hjn : ¬ j = n := by omega
        clear hix
        by_cases h46 : c = 46
        · have HEND : Hid (j = l.length ∨ l.getD j 0 = 46) := .inr (UInt8.toNat_inj.mp (by rw [hc]; exact h46))
          clear hc
          subst h46
          by_cases hjf : j = fr
          · subst hjf
            have HDF : Hid (decB (curP l j j) = false) := by rw [curP_self]; rfl
            obtain ⟨rfl, rfl, rfl⟩ : rn = 0 ∧ rx = Z16 ∧ er = 6 := by
              have hE := HRES.out
              unfold parseL at hE
              rw [if_neg (by rw [R.out.ended (by rw [HN.out]; exact hle) HEND.out HDF.out]; decide)] at hE
              injection hE with h1 h2; injection h2 with h2 h3; exact ⟨h1.symm, h2.symm, h3.symm⟩
            clear HRES
            have hR := Lib.hid ((T.out.b.block w.heap.size (by omega)).trans hB)
            have hTb := Lib.hid (hb.trans (T.out.b.mono (by omega)))
            go_wp2_with ((with_reducible refine gate_store rfl ?_); refine wpList_plain rfl fun K hK => ?_; refine wp_store_row 27 _ _ rfl w.heap.size (oidC 0 Z16) rfl rfl 27 (oidC 0 Z16) hR.out (oid_info _ _ rfl) rfl (oid_one _ _) ?_; refine hK _ _ ?_)
            refine bodyPost_ret (results_ct rfl _ _ w.heap.size 27 (oidC 0 Z16) (0, 0) _ rfl (setRow_heap _ _ _ _ _ _ hR.out) Tryd.underlying27 rfl (oid_info _ _ rfl)) rfl ?_
            exact ⟨rfl, below_setRow hTb.out (Nat.le_refl _) _⟩
          have hfl : fr < j := by omega
          have hfs : fr < s.size := by omega
          obtain ⟨c0, hc0⟩ : ∃ c0, (l.getD fr 0).toNat = c0 := ⟨_, rfl⟩
          have hix0 : (s[fr]'hfs).toNat = c0 := by rw [HG.out fr hfs]; exact hc0
          have HDC := Lib.hid (decB_curP hfl (by rw [HN.out]; exact hle) HDIG.out hc0)
          clear hc0
          by_cases hz : c0 = 48 ∧ fr + 1 < j
          · obtain ⟨rfl, hz2⟩ := hz
            have hz2i : (fr : Int) + 1 < (j : Int) := by omega
            have HDF : Hid (decB (curP l fr j) = false) := by rw [HDC.out, decide_eq_true hz2]; rfl
            obtain ⟨rfl, rfl, rfl⟩ : rn = 0 ∧ rx = Z16 ∧ er = 6 := by
              have hE := HRES.out
              unfold parseL at hE
              rw [if_neg (by rw [R.out.ended (by rw [HN.out]; exact hle) HEND.out HDF.out]; decide)] at hE
              injection hE with h1 h2; injection h2 with h2 h3; exact ⟨h1.symm, h2.symm, h3.symm⟩
            clear HRES
            have hR := Lib.hid ((T.out.b.block w.heap.size (by omega)).trans hB)
            have hTb := Lib.hid (hb.trans (T.out.b.mono (by omega)))
            go_wp2_with ((with_reducible refine gate_store rfl ?_); refine wpList_plain rfl fun K hK => ?_; refine wp_store_row 27 _ _ rfl w.heap.size (oidC 0 Z16) rfl rfl 27 (oidC 0 Z16) hR.out (oid_info _ _ rfl) rfl (oid_one _ _) ?_; refine hK _ _ ?_)
            refine bodyPost_ret (results_ct rfl _ _ w.heap.size 27 (oidC 0 Z16) (0, 0) _ rfl (setRow_heap _ _ _ _ _ _ hR.out) Tryd.underlying27 rfl (oid_info _ _ rfl)) rfl ?_
            exact ⟨rfl, below_setRow hTb.out (Nat.le_refl _) _⟩
          have HDT : Hid (decB (curP l fr j) = true) := by
            rw [HDC.out]
            by_cases h1 : c0 = 48
            · rw [decide_eq_false (fun h2 : fr + 1 < j => hz ⟨h1, h2⟩), Bool.and_false]; rfl
            · rw [decide_eq_false h1]; rfl
          have HNX := Lib.hid (R.out.piece (by rw [HN.out]; exact hle) HEND.out HDT.out)
          clear HDC HDT HEND
          have hz' : (c0 = 48 ∧ ¬ (fr : Int) + 1 < (j : Int)) ∨ ¬ c0 = 48 := by omega
          clear hz
          rcases hz' with ⟨hz1, hz2⟩ | hz1
          all_goals
            go_upto_region 13 with fail
            go_loop [7, 8] (fun v k => ∃ (kk m : Nat), fr ≤ kk ∧ kk ≤ j ∧ k = .int .i64 (kk : Int) ∧ v = .int .i64 (m : Int) ∧ m ≤ 4294967296 ∧ Hid (capR m ((curP l fr j).drop (kk - fr)) = capR 0 (curP l fr j))) (fun _ k => j - (intOf k).toNat)
            case atStart => exact ⟨fr, 0, Nat.le_refl _, Nat.le_of_lt hfl, rfl, rfl, by omega, by rw [Nat.sub_self, List.drop_zero]; rfl⟩
            case round =>
              obtain ⟨kk, m, hfk, hkj, rfl, rfl, hm, HCR⟩ := hrel
              by_cases hkl : kk < j
              · have hks : kk < s.size := by omega
                obtain ⟨ck, hck⟩ : ∃ ck, (l.getD kk 0).toNat = ck := ⟨_, rfl⟩
                have hixk : (s[kk]'hks).toNat = ck := by rw [HG.out kk hks]; exact hck
                have hdk := curP_dig hfk hkl (by rw [HN.out]; exact hle) HDIG.out
                rw [dig_of hck] at hdk
                have hdk := of_decide_eq_true hdk
                have hcr := HCR.out
                rw [curP_drop hfk hkl (by rw [HN.out]; exact hle), capR_cons, hck] at hcr
                clear hck HCR
                obtain ⟨m2, hm2⟩ : ∃ m2, min (10 * m + (ck - 48)) 4294967296 = m2 := ⟨_, rfl⟩
                rw [hm2] at hcr
                have HCR2 := Lib.hid hcr
                have hmi : min (10 * (m : Int) + ((ck : Int) - 48)) 4294967296 = (m2 : Int) := by omega
                have hsub : ((ck : Int) - 48) % 256 = (ck : Int) - 48 := by omega
                have hm2b : m2 ≤ 4294967296 := by omega
                clear hcr hm2
                have hkn : ¬ kk = j := by omega
                go_wp2
                go_round
                case rel => exact ⟨kk + 1, m2, by omega, by omega, by go_num, rfl, hm2b, HCR2⟩
                case measure => first | (simp [intOf]; omega) | (simp [intOf]; done)
              · obtain rfl : kk = j := by omega
                have hcr := HCR.out
                rw [List.drop_of_length_le (by rw [curP_len (by omega) (by rw [HN.out]; exact hle)]; omega), capR_nil] at hcr
                have hnx := HNX.out
                rw [capV_is, ← hcr] at hnx
                have HNX2 := Lib.hid hnx
                clear hnx hcr HCR HNX
                go_wp2_with ((with_reducible refine gate_dst (N := 72) rfl ?_); refine Kd.R_append (Kd.int .i64) (w0 := W) (w.heap.size + 1) rfl (.tmp 69) (.tmp 71) 48 3 (.int .i64 0) 8 rfl Tryd.underlying48 info3 rfl (by decide) (by omega) (.slice Ao S.length co) S (m : Int) [.int .i64 (m : Int)] (fun _ => True) (fun _ => False) rfl rfl rfl (fun _ h => h.elim) (fun _ _ => trivial) T.out.o T.out.b (by have := T.out.b.size; omega) (by omega) ?_; intro v1 w1 ho hb1 hg hat; have T1 : Hid (RgS W (w.heap.size + 1) v1 (S ++ [(m : Int)]) w1) := ⟨hb1, ho⟩; clear ho hb1 hg hat)
                go_round
                case rel => exact ⟨kk + 1, kk + 1, S ++ [(m : Int)], by go_num, by go_num, T1, HNX2⟩
                case measure => first | (simp [intOf]; omega) | (simp [intOf]; done)
        · have h46' : l.getD j 0 ≠ 46 := fun h => h46 (by rw [← hc, h]; rfl)
          by_cases hd : 48 ≤ c ∧ c ≤ 57
          · have HNX := Lib.hid (R.out.digit (by rw [HN.out]; exact hlt) h46' (by rw [dig_of hc]; exact decide_eq_true hd))
            obtain ⟨hd1, hd2⟩ := hd
            have hd1' : ¬ c < 48 := by omega
            have hd2' : ¬ 57 < c := by omega
            clear hc h46'
            go_wp2
            go_round
            case rel => exact ⟨j + 1, fr, S, by go_num, rfl, T, HNX⟩
            case measure => simp [intOf]; omega
          · have HBD := Lib.hid (R.out.bad (by rw [HN.out]; exact hlt) h46' (by rw [dig_of hc]; exact decide_eq_false hd))
            clear hc h46'
            have hd' : c < 48 ∨ (¬ c < 48 ∧ 57 < c) := by omega
            clear hd
            rcases hd' with hd1 | ⟨hd1, hd2⟩
            all_goals
              obtain ⟨rfl, rfl, rfl⟩ : rn = 0 ∧ rx = Z16 ∧ er = 6 := by
                have hE := HRES.out
                unfold parseL at hE
                rw [if_neg (by rw [HBD.out]; decide)] at hE
                injection hE with h1 h2; injection h2 with h2 h3; exact ⟨h1.symm, h2.symm, h3.symm⟩
              clear HRES
              have hR := Lib.hid ((T.out.b.block w.heap.size (by omega)).trans hB)
              have hTb := Lib.hid (hb.trans (T.out.b.mono (by omega)))
              go_wp2_with ((with_reducible refine gate_store rfl ?_); refine wpList_plain rfl fun K hK => ?_; refine wp_store_row 27 _ _ rfl w.heap.size (oidC 0 Z16) rfl rfl 27 (oidC 0 Z16) hR.out (oid_info _ _ rfl) rfl (oid_one _ _) ?_; refine hK _ _ ?_)
              refine bodyPost_ret (results_ct rfl _ _ w.heap.size 27 (oidC 0 Z16) (0, 0) _ rfl (setRow_heap _ _ _ _ _ _ hR.out) Tryd.underlying27 rfl (oid_info _ _ rfl)) rfl ?_
              exact ⟨rfl, below_setRow hTb.out (Nat.le_refl _) _⟩
      · obtain rfl : j = n := by omega
        have HEND : Hid (j = l.length ∨ l.getD j 0 = 46) := .inl HN.out.symm
        have hlt' : ¬ (j : Int) < (j : Int) := by omega
        by_cases hjf : j = fr
        · subst hjf
          have HDF : Hid (decB (curP l j j) = false) := by rw [curP_self]; rfl
          obtain ⟨rfl, rfl, rfl⟩ : rn = 0 ∧ rx = Z16 ∧ er = 6 := by
            have hE := HRES.out
            unfold parseL at hE
            rw [if_neg (by rw [R.out.ended (by rw [HN.out]; exact hle) HEND.out HDF.out]; decide)] at hE
            injection hE with h1 h2; injection h2 with h2 h3; exact ⟨h1.symm, h2.symm, h3.symm⟩
          clear HRES
          have hR := Lib.hid ((T.out.b.block w.heap.size (by omega)).trans hB)
          have hTb := Lib.hid (hb.trans (T.out.b.mono (by omega)))
          go_wp2_with ((with_reducible refine gate_store rfl ?_); refine wpList_plain rfl fun K hK => ?_; refine wp_store_row 27 _ _ rfl w.heap.size (oidC 0 Z16) rfl rfl 27 (oidC 0 Z16) hR.out (oid_info _ _ rfl) rfl (oid_one _ _) ?_; refine hK _ _ ?_)
          refine bodyPost_ret (results_ct rfl _ _ w.heap.size 27 (oidC 0 Z16) (0, 0) _ rfl (setRow_heap _ _ _ _ _ _ hR.out) Tryd.underlying27 rfl (oid_info _ _ rfl)) rfl ?_
          exact ⟨rfl, below_setRow hTb.out (Nat.le_refl _) _⟩
        have hfl : fr < j := by omega
        have hfs : fr < s.size := by omega
        obtain ⟨c0, hc0⟩ : ∃ c0, (l.getD fr 0).toNat = c0 := ⟨_, rfl⟩
        have hix0 : (s[fr]'hfs).toNat = c0 := by rw [HG.out fr hfs]; exact hc0
        have HDC := Lib.hid (decB_curP hfl (by rw [HN.out]; exact hle) HDIG.out hc0)
        clear hc0
        by_cases hz : c0 = 48 ∧ fr + 1 < j
        · obtain ⟨rfl, hz2⟩ := hz
          have hz2i : (fr : Int) + 1 < (j : Int) := by omega
          have HDF : Hid (decB (curP l fr j) = false) := by rw [HDC.out, decide_eq_true hz2]; rfl
          obtain ⟨rfl, rfl, rfl⟩ : rn = 0 ∧ rx = Z16 ∧ er = 6 := by
            have hE := HRES.out
            unfold parseL at hE
            rw [if_neg (by rw [R.out.ended (by rw [HN.out]; exact hle) HEND.out HDF.out]; decide)] at hE
            injection hE with h1 h2; injection h2 with h2 h3; exact ⟨h1.symm, h2.symm, h3.symm⟩
          clear HRES
          have hR := Lib.hid ((T.out.b.block w.heap.size (by omega)).trans hB)
          have hTb := Lib.hid (hb.trans (T.out.b.mono (by omega)))
          go_wp2_with ((with_reducible refine gate_store rfl ?_); refine wpList_plain rfl fun K hK => ?_; refine wp_store_row 27 _ _ rfl w.heap.size (oidC 0 Z16) rfl rfl 27 (oidC 0 Z16) hR.out (oid_info _ _ rfl) rfl (oid_one _ _) ?_; refine hK _ _ ?_)
          refine bodyPost_ret (results_ct rfl _ _ w.heap.size 27 (oidC 0 Z16) (0, 0) _ rfl (setRow_heap _ _ _ _ _ _ hR.out) Tryd.underlying27 rfl (oid_info _ _ rfl)) rfl ?_
          exact ⟨rfl, below_setRow hTb.out (Nat.le_refl _) _⟩
        have HDT : Hid (decB (curP l fr j) = true) := by
          rw [HDC.out]
          by_cases h1 : c0 = 48
          · rw [decide_eq_false (fun h2 : fr + 1 < j => hz ⟨h1, h2⟩), Bool.and_false]; rfl
          · rw [decide_eq_false h1]; rfl
        have HNX := Lib.hid (R.out.piece (by rw [HN.out]; exact hle) HEND.out HDT.out)
        clear HDC HDT HEND
        have hz' : (c0 = 48 ∧ ¬ (fr : Int) + 1 < (j : Int)) ∨ ¬ c0 = 48 := by omega
        clear hz
        rcases hz' with ⟨hz1, hz2⟩ | hz1
        all_goals
          go_upto_region 13 with fail
          go_loop [7, 8] (fun v k => ∃ (kk m : Nat), fr ≤ kk ∧ kk ≤ j ∧ k = .int .i64 (kk : Int) ∧ v = .int .i64 (m : Int) ∧ m ≤ 4294967296 ∧ Hid (capR m ((curP l fr j).drop (kk - fr)) = capR 0 (curP l fr j))) (fun _ k => j - (intOf k).toNat)
          case atStart => exact ⟨fr, 0, Nat.le_refl _, Nat.le_of_lt hfl, rfl, rfl, by omega, by rw [Nat.sub_self, List.drop_zero]; rfl⟩
          case round =>
            obtain ⟨kk, m, hfk, hkj, rfl, rfl, hm, HCR⟩ := hrel
            by_cases hkl : kk < j
            · have hks : kk < s.size := by omega
              obtain ⟨ck, hck⟩ : ∃ ck, (l.getD kk 0).toNat = ck := ⟨_, rfl⟩
              have hixk : (s[kk]'hks).toNat = ck := by rw [HG.out kk hks]; exact hck
              have hdk := curP_dig hfk hkl (by rw [HN.out]; exact hle) HDIG.out
              rw [dig_of hck] at hdk
              have hdk := of_decide_eq_true hdk
              have hcr := HCR.out
              rw [curP_drop hfk hkl (by rw [HN.out]; exact hle), capR_cons, hck] at hcr
              clear hck HCR
              obtain ⟨m2, hm2⟩ : ∃ m2, min (10 * m + (ck - 48)) 4294967296 = m2 := ⟨_, rfl⟩
              rw [hm2] at hcr
              have HCR2 := Lib.hid hcr
              have hmi : min (10 * (m : Int) + ((ck : Int) - 48)) 4294967296 = (m2 : Int) := by omega
              have hsub : ((ck : Int) - 48) % 256 = (ck : Int) - 48 := by omega
              have hm2b : m2 ≤ 4294967296 := by omega
              clear hcr hm2
              have hkn : ¬ kk = j := by omega
              go_wp2
              go_round
              case rel => exact ⟨kk + 1, m2, by omega, by omega, by go_num, rfl, hm2b, HCR2⟩
              case measure => first | (simp [intOf]; omega) | (simp [intOf]; done)
            · obtain rfl : kk = j := by omega
              have hcr := HCR.out
              rw [List.drop_of_length_le (by rw [curP_len (by omega) (by rw [HN.out]; exact hle)]; omega), capR_nil] at hcr
              have hnx := HNX.out
              rw [capV_is, ← hcr] at hnx
              have HNX2 := Lib.hid hnx
              clear hnx hcr HCR HNX
              go_wp2_with ((with_reducible refine gate_dst (N := 72) rfl ?_); refine Kd.R_append (Kd.int .i64) (w0 := W) (w.heap.size + 1) rfl (.tmp 69) (.tmp 71) 48 3 (.int .i64 0) 8 rfl Tryd.underlying48 info3 rfl (by decide) (by omega) (.slice Ao S.length co) S (m : Int) [.int .i64 (m : Int)] (fun _ => True) (fun _ => False) rfl rfl rfl (fun _ h => h.elim) (fun _ _ => trivial) T.out.o T.out.b (by have := T.out.b.size; omega) (by omega) ?_; intro v1 w1 ho hb1 hg hat; have T1 : Hid (RgS W (w.heap.size + 1) v1 (S ++ [(m : Int)]) w1) := ⟨hb1, ho⟩; clear ho hb1 hg hat)
              go_round
              case rel => exact ⟨kk + 1, kk + 1, S ++ [(m : Int)], by go_num, by go_num, T1, HNX2⟩
              case measure => first | (simp [intOf]; omega) | (simp [intOf]; done)
    · have hle' : ¬ (j : Int) ≤ (n : Int) := by omega
      obtain ⟨hAll, hS⟩ := R.out.last (by rw [HN.out]; exact hle)
      have hSn : S.length ≤ n + 1 := by omega
      clear R HG hSt
      generalize splitP l = P at *
      subst hS
      have hPl : (P.map capV).length = P.length := List.length_map ..
      have HAL := Lib.hid hAll
      clear hAll
      by_cases h16 : 16 < P.length
      · have h16' : (16 : Int) < (P.length : Int) := by omega
        rw [hPl] at T ⊢
        obtain ⟨rfl, rfl, rfl⟩ : rn = 0 ∧ rx = Z16 ∧ er = 3 := by
          have hE := HRES.out
          unfold parseL at hE
          rw [if_pos HAL.out, if_pos h16] at hE
          injection hE with h1 h2; injection h2 with h2 h3; exact ⟨h1.symm, h2.symm, h3.symm⟩
        clear HRES
        have hR := Lib.hid ((T.out.b.block w.heap.size (by omega)).trans hB)
        have hTb := Lib.hid (hb.trans (T.out.b.mono (by omega)))
        go_wp2_with ((with_reducible refine gate_store rfl ?_); refine wpList_plain rfl fun K hK => ?_; refine wp_store_row 27 _ _ rfl w.heap.size (oidC 0 Z16) rfl rfl 27 (oidC 0 Z16) hR.out (oid_info _ _ rfl) rfl (oid_one _ _) ?_; refine hK _ _ ?_)
        refine bodyPost_ret (results_ct rfl _ _ w.heap.size 27 (oidC 0 Z16) (0, 0) _ rfl (setRow_heap _ _ _ _ _ _ hR.out) Tryd.underlying27 rfl (oid_info _ _ rfl)) rfl ?_
        exact ⟨rfl, below_setRow hTb.out (Nat.le_refl _) _⟩
      · have h16' : (P.length : Int) ≤ 16 := by omega
        have hmod : (P.length : Int) % 256 = (P.length : Int) := by omega
        have HPL := Lib.hid hPl
        have hRow := Lib.hid (Kd.R_reads' T.out.o)
        have hO5 := blk_new wr (.cells (oidC 0 Z16) 27)
        have hb5 := (Below.refl wr.heap.size wr).alloc (Nat.le_refl _) (.cells (oidC 0 Z16) 27)
        have hbd := Lib.hid (fun k (hk : k < P.length) => (by rw [capS_at hk]; exact capV_bd _ : 0 ≤ (P.map capV).getD k 0 ∧ (P.map capV).getD k 0 ≤ 4294967296))
        have HFA := Lib.hid (fit_all (P := P))
        have HFN := Lib.hid (fun k hk h => fit_not (P := P) (k := k) hk h)
        generalize P.map capV = S at *
        rw [hPl]
        go_upto_region 21 with fail
        rw [zrow]
        generalize wr.alloc (.cells (oidC 0 (List.replicate 16 0)) 27) = W5 at *
        have x0 := (oid_cells hO5).1
        have f0 := blk_frozen hO5 0
        have HQ := Lib.hid (RqS.start (n := (P.length : Int)) (S := S) hO5 hb5)
        have hR0 : wr.heap[w.heap.size]? = some (.cells (oidC 0 Z16) 27 (0, 0)) := (T.out.b.block w.heap.size (by omega)).trans hB
        have hwr : w.heap.size < wr.heap.size := blk_lt hR0
        have HBW := Lib.hid (hb.trans (T.out.b.mono (by omega)))
        go_upto_region 23 with fail
        clear x0 f0 hO5 hb5
        obtain ⟨wo, hwo⟩ : ∃ wo, wo = wr := ⟨_, rfl⟩
        subst hwo
        generalize W5.setCell ⟨wo.heap.size, 0, none⟩ (.int .u8 (P.length : Int)) = W6 at *
        go_loopw [10] (fun i w2 => ∃ kk : Nat, kk ≤ P.length ∧ i = .int .i64 (kk : Int) ∧ Hid (RqS (P.length : Int) S kk wo w2) ∧ Hid (∀ k, k < kk → S.getD k 0 ≤ 4294967295)) (fun i _ => P.length - (intOf i).toNat)
        case atStart => exact ⟨0, Nat.zero_le _, rfl, HQ, fun k hk => absurd hk (Nat.not_lt_zero k)⟩
        case round =>
          obtain ⟨kk, hk2, rfl, Q, HF⟩ := hrel
          by_cases hkl : kk < P.length
          · obtain ⟨as2, eas2, hs2⟩ := (Kd.reads_of_C (enc := Value.int .i64) (d := (0 : Int)) (h1 := fun _ => rfl) (Kd.C_below hRow.out.2.2 Q.out.b)).at_ (kk : Int) (by omega) (by rw [HPL.out]; omega)
            subst eas2
            simp only [rdOf, Int.toNat_natCast] at hs2
            have h15 : kk < 16 := by omega
            have hkS : kk < S.length := by rw [HPL.out]; exact hkl
            have y1 := (oid_cells Q.out.o).2 kk (by rw [padK_len S kk (by omega) (by omega)]; omega)
            have y2 := blk_frozen Q.out.o (1 + kk)
            have hQ2 := Lib.hid (Q.out.step hkS h15)
            have hsb := hbd.out kk hkl
            have HF2 := Lib.hid (fun h => HFN.out kk hkl h)
            have HF3 : Hid (S.getD kk 0 ≤ 4294967295 → ∀ k, k < kk + 1 → S.getD k 0 ≤ 4294967295) := fun h k hk => by
              by_cases e : k = kk
              · subst e; exact h
              · exact HF.out k (by omega)
            have hkn : ¬ kk = P.length := by omega
            generalize S.getD kk 0 = sv at *
            by_cases hsv : sv ≤ 4294967295
            · have hsw : sv % 4294967296 = sv := by omega
              have hsv' : ¬ 4294967295 < sv := by omega
              have HF4 := Lib.hid (HF3.out hsv)
              go_wp2
              go_round
              case rel => exact ⟨kk + 1, by omega, by go_num, hQ2, HF4⟩
              case measure => simp [intOf]; omega
            · have hsv' : 4294967295 < sv := by omega
              obtain ⟨rfl, rfl, rfl⟩ : rn = 0 ∧ rx = Z16 ∧ er = 3 := by
                have hE := HRES.out
                unfold parseL at hE
                rw [if_pos HAL.out, if_neg h16, HF2.out (by omega), if_neg (by decide)] at hE
                injection hE with h1 h2; injection h2 with h2 h3; exact ⟨h1.symm, h2.symm, h3.symm⟩
              clear HRES
              have hR7 := Lib.hid ((Q.out.b.block w.heap.size hwr).trans hR0)
              have hb7 := Lib.hid (HBW.out.trans (Q.out.b.mono (by omega)))
              go_wp2_with ((with_reducible refine gate_store rfl ?_); refine wpList_plain rfl fun K hK => ?_; refine wp_store_row 27 _ _ rfl w.heap.size (oidC 0 Z16) rfl rfl 27 (oidC 0 Z16) hR7.out (oid_info _ _ rfl) rfl (oid_one _ _) ?_; refine hK _ _ ?_)
              refine bodyPost_ret (results_ct rfl _ _ w.heap.size 27 (oidC 0 Z16) (0, 0) _ rfl (setRow_heap _ _ _ _ _ _ hR7.out) Tryd.underlying27 rfl (oid_info _ _ rfl)) rfl ?_
              exact ⟨rfl, below_setRow hb7.out (Nat.le_refl _) _⟩
          · obtain rfl : kk = P.length := by omega
            obtain ⟨hFit, hSv⟩ := HFA.out HF.out
            have hO7 := Q.out.o
            rw [show padK S P.length = pad (valsP P) by rw [← hSv, ← padK_all, HPL.out]] at hO7
            have hE := HRES.out
            unfold parseL at hE
            rw [if_pos HAL.out, if_neg h16, if_pos hFit] at hE
            have HO7 := Lib.hid hO7
            have hR7 := Lib.hid ((Q.out.b.block w.heap.size hwr).trans hR0)
            have hb7 := Lib.hid (HBW.out.trans (Q.out.b.mono (by omega)))
            have HPP : Hid ((pad (valsP P)).length = 16) := pad_len _ (by rw [valsP_len]; omega)
            have HC2 := Lib.hid (fun W => rcheck_any P.length (pad (valsP P)) W HPP.out (by omega))
            clear hO7 hFit hSv HRES
            by_cases hk : chkO (P.length : Int) (pad (valsP P)) = 0
            · rw [if_pos hk] at hE
              rw [hk] at HC2
              obtain ⟨rfl, rfl, rfl⟩ : rn = (P.length : Int) ∧ rx = pad (valsP P) ∧ er = 0 := by injection hE with h1 h2; injection h2 with h2 h3; exact ⟨h1.symm, h2.symm, h3.symm⟩
              clear hE hk
              go_wp2_with (first
                | ((with_reducible refine gate_dst (N := 103) rfl ?_); refine wpList_load_row rfl 27 _ rfl wo.heap.size rfl 27 (oidC (P.length : Int) (pad (valsP P))) (0, 0) _ HO7.out Tryd.underlying27 rfl (oid_info _ _ HPP.out) ?_)
                | (go_at_call 18; refine (HC2.out _).mono ?_; rintro e w8 ⟨rfl, hb8⟩; have HO8 := Lib.hid (blk_below HO7.out hb8); have hR8 := Lib.hid (blk_below hR7.out hb8); have HB8 := Lib.hid (hb7.out.trans (hb8.mono hb7.out.size)); clear hb8)
                | ((with_reducible refine gate_dst (N := 107) rfl ?_); refine wpList_load_row rfl 27 _ rfl wo.heap.size rfl 27 (oidC (P.length : Int) (pad (valsP P))) (0, 0) _ HO8.out Tryd.underlying27 rfl (oid_info _ _ HPP.out) ?_)
                | ((with_reducible refine gate_store rfl ?_); refine wpList_plain rfl fun K hK => ?_; refine wp_store_row 27 _ _ rfl w.heap.size (oidC (P.length : Int) (pad (valsP P))) rfl rfl 27 (oidC 0 Z16) hR8.out (oid_info _ _ HPP.out) (by simp [HPP.out]) (oid_one _ _) ?_; refine hK _ _ ?_))
              refine bodyPost_ret (results_ct rfl _ _ w.heap.size 27 (oidC (P.length : Int) (pad (valsP P))) (0, 0) _ rfl (setRow_heap _ _ _ _ _ _ hR8.out) Tryd.underlying27 rfl (oid_info _ _ HPP.out)) rfl ?_
              exact ⟨rfl, below_setRow HB8.out (Nat.le_refl _) _⟩
            · rw [if_neg hk] at hE
              rw [(chkO_01 _ _).resolve_left hk] at HC2
              obtain ⟨rfl, rfl, rfl⟩ : rn = 0 ∧ rx = Z16 ∧ er = 1 := by injection hE with h1 h2; injection h2 with h2 h3; exact ⟨h1.symm, h2.symm, h3.symm⟩
              clear hE hk
              go_wp2_with (first
                | ((with_reducible refine gate_dst (N := 103) rfl ?_); refine wpList_load_row rfl 27 _ rfl wo.heap.size rfl 27 (oidC (P.length : Int) (pad (valsP P))) (0, 0) _ HO7.out Tryd.underlying27 rfl (oid_info _ _ HPP.out) ?_)
                | (go_at_call 18; refine (HC2.out _).mono ?_; rintro e w8 ⟨rfl, hb8⟩; have hR8 := Lib.hid (blk_below hR7.out hb8); have HB8 := Lib.hid (hb7.out.trans (hb8.mono hb7.out.size)); clear hb8)
                | ((with_reducible refine gate_store rfl ?_); refine wpList_plain rfl fun K hK => ?_; refine wp_store_row 27 _ _ rfl w.heap.size (oidC 0 Z16) rfl rfl 27 (oidC 0 Z16) hR8.out (oid_info _ _ rfl) rfl (oid_one _ _) ?_; refine hK _ _ ?_))
              refine bodyPost_ret (results_ct rfl _ _ w.heap.size 27 (oidC 0 Z16) (0, 0) _ rfl (setRow_heap _ _ _ _ _ _ hR8.out) Tryd.underlying27 rfl (oid_info _ _ rfl)) rfl ?_
              exact ⟨rfl, below_setRow HB8.out (Nat.le_refl _) _⟩
end Go.Proofs.YtacpcagijfacnaaDoor
