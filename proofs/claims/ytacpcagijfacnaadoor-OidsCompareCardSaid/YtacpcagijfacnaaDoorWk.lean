/- Chapters 6, 7 (oids, oidsets): the reference's Get. -/
import Derived.Test.YtacpcagijfacnaaDoorWj
namespace Go.Proofs.YtacpcagijfacnaaDoor
open Go.RowKit Go.Shelf
open Go.Proofs.YtacpcagijfacnaaDoorW.PrintWords (results_ct rd Ev at_rounds gate_dst gate_store Kd.C_below Kd.C_of_reads Kd.reads_of_C ReadsOf.at_ rdOf blk_new blk_below blk_cell blk_alloc blk_lt blk_frozen blk_drew blk_set Kd.C Kd.int Kd.R Kd.R_nil Kd.R_slice Kd.R_reads' Kd.R_append)
set_option linter.unusedSimpArgs false
set_option linter.unusedVariables false
set_option maxRecDepth 50000
theorem info3 : (Tryd.prog.info? 3).map (fun i => (i.zero, i.size, i.bytes)) = some (some (.int .i64 0), 1, 8) := by kernel_rfl
structure RgS (W0 : World) (B : Nat) (v : Value) (S : List Int) (W : World) : Prop where
  b : Below B W0 W
  o : Kd.R (Kd.int .i64) 3 W B (fun _ => True) v S
/-- The arcs as the reference writes them: the first two, and those so far. -/
def xkS (f g : Int) (S : List Int) (k : Nat) : List Int := f :: g :: ((S.drop 1).take (k - 1) ++ List.replicate (15 - k) 0)
theorem xkS_len (f g : Int) (S : List Int) (k : Nat) (h1 : 1 ≤ k) (hk : k ≤ S.length) (h15 : k ≤ 15) : (xkS f g S k).length = 16 := by unfold xkS; simp; omega
theorem xkS_set (f g : Int) (S : List Int) (k : Nat) (h1 : 1 ≤ k) (hk : k < S.length) (h15 : k < 15) : (xkS f g S k).set (k + 1) (S.getD k 0) = xkS f g S (k + 1) := by
  unfold xkS
  obtain ⟨j, rfl⟩ : ∃ j, k = j + 1 := ⟨k - 1, by omega⟩
  rw [List.set_cons_succ, List.set_cons_succ, Nat.add_sub_cancel]
  have e1 : ((S.drop 1).take j).length = j := by simp; omega
  rw [List.set_append_right _ _ (by omega), e1, Nat.sub_self]
  rw [show 15 - (j + 1) = (15 - (j + 1 + 1)) + 1 by omega, List.replicate_succ, List.set_cons_zero, show j + 1 + 1 - 1 = j + 1 by omega, List.take_add_one]
  have e2 : (S.drop 1)[j]? = some (S.getD (j + 1) 0) := by rw [List.getElem?_drop, Nat.add_comm 1, List.getD_eq_getElem?_getD, List.getElem?_eq_getElem hk]; rfl
  rw [e2, Option.toList_some, List.append_assoc]
  rfl
theorem xkS_all (S : List Int) (hS : 1 ≤ S.length) (h15 : S.length ≤ 15) (f g : Int) (hf : f = min (S.getD 0 0 / 40) 2) (hg : g = S.getD 0 0 - 40 * f) : xkS f g S S.length = getX S := by
  unfold xkS getX comeX
  subst hg hf
  match S, hS with
  | a :: r, _ =>
    simp only [List.cons_append, List.set_cons_zero, List.set_cons_succ, List.drop_succ_cons, List.drop_zero, List.length_cons, Nat.add_sub_cancel, List.take_length]
theorem first_two (S : List Int) (hS : 0 < S.length) : (S.getD 0 0 < 80 → min (S.getD 0 0 / 40) 2 = S.getD 0 0 / 40) ∧ (¬ S.getD 0 0 < 80 → min (S.getD 0 0 / 40) 2 = 2) ∧ True := ⟨fun h => by omega, fun h => by omega, trivial⟩
structure RfS (n f g : Int) (S : List Int) (k : Nat) (wr W : World) : Prop where
  b : Below wr.heap.size wr W
  o : W.heap[wr.heap.size]? = some (.cells (oidC n (xkS f g S k)) 27 (0, 0))
theorem RfS.start {n f g : Int} {S : List Int} {wr W : World} (ho : W.heap[wr.heap.size]? = some (.cells (oidC n Z16) 27 (0, 0))) (hb : Below wr.heap.size wr W) (hS : S.length ≤ 15) :
    RfS n f g S 1 wr ((W.setCell ⟨wr.heap.size, 1, none⟩ (.int .u32 f)).setCell ⟨wr.heap.size, 2, none⟩ (.int .u32 g)) := by
  refine ⟨(hb.setCell (Nat.le_refl _) _).setCell (Nat.le_refl _) _, ?_⟩
  have h1 := blk_set ho 1 (.int .u32 f)
  rw [show (1 : Nat) = 1 + 0 from rfl, oid_set _ _ _ _ (by simp)] at h1
  have h2 := blk_set h1 2 (.int .u32 g)
  rw [show (2 : Nat) = 1 + 1 from rfl, oid_set _ _ _ _ (by simp)] at h2
  exact h2
theorem RfS.step {n f g : Int} {S : List Int} {k : Nat} {wr W : World} (h : RfS n f g S k wr W) (h1 : 1 ≤ k) (hk : k < S.length) (h15 : k < 15) :
    RfS n f g S (k + 1) wr (W.setCell ⟨wr.heap.size, 1 + (k + 1), none⟩ (.int .u32 (S.getD k 0))) := by
  refine ⟨h.b.setCell (Nat.le_refl _) _, ?_⟩
  have h2 := blk_set h.o (1 + (k + 1)) (.int .u32 (S.getD k 0))
  rw [oid_set _ _ _ _ (by rw [xkS_len f g S k h1 (by omega) (by omega)]; omega), xkS_set f g S k h1 hk h15] at h2
  exact h2
set_option maxHeartbeats 4000000 in
theorem rget_nil (A : Option Addr) (c : Nat) (w : World) : Calls Tryd.prog 9 #[.slice A 0 c] w fun e w' => e = .returned (.tuple #[oidV 0 Z16, .int .i64 7]) ∧ Below w.heap.size w w' := by
  have hb := (Below.refl w.heap.size w).alloc (Nat.le_refl _) (.cells (oidC 0 Z16) 27)
  have hB := blk_new w (.cells (oidC 0 Z16) 27)
  go_enter Tryd.func9, Tryd.ntmps9
  go_upto_region 1 with fail
  rw [zrow]
  generalize w.alloc (.cells (oidC 0 (List.replicate 16 0)) 27) = W at *
  go_upto_region 3 with fail
  go_loopw [4, 5] (fun v i wr => v = .slice none 0 0 ∧ i = .int .i64 0 ∧ wr = W) (fun _ i _ => 0)
  case atStart => exact ⟨rfl, rfl, rfl⟩
  case round =>
    obtain ⟨rfl, rfl, rfl⟩ := hrel
    go_wp2_with ((with_reducible refine gate_store rfl ?_); refine wpList_plain rfl fun K hK => ?_; refine wp_store_row 27 _ _ rfl w.heap.size (oidC 0 Z16) rfl rfl 27 (oidC 0 Z16) hB (oid_info _ _ rfl) rfl (oid_one _ _) ?_; refine hK _ _ ?_)
    refine bodyPost_ret (results_ct rfl _ _ w.heap.size 27 (oidC 0 Z16) (0, 0) _ rfl (setRow_heap _ _ _ _ _ _ hB) Tryd.underlying27 rfl (oid_info _ _ rfl)) rfl ?_
    exact ⟨rfl, below_setRow hb (Nat.le_refl _) _⟩
set_option maxHeartbeats 8000000 in
theorem rget_some (A : Option Addr) (c : Nat) (l : List Int) (w : World) (hl0 : l ≠ []) (hl : l.length ≤ 1000000) (hby : Byt l) (hr : Kd.C (Kd.int .u8) w A l.length l) (rn er : Int) (rx : List Int) (hres : getT l = (rn, rx, er)) :
    Calls Tryd.prog 9 #[.slice A l.length c] w fun e w' => e = .returned (.tuple #[oidV rn rx, .int .i64 er]) ∧ Below w.heap.size w w' := by
  have HR := Lib.hid hr
  have HBY := Lib.hid hby
  have HRES := Lib.hid hres
  have h0 : ¬ l.length = 0 := fun h => hl0 (List.length_eq_zero_iff.mp h)
  have HL0 := Lib.hid hl0
  clear hr hby hres hl0
  have hb := (Below.refl w.heap.size w).alloc (Nat.le_refl _) (.cells (oidC 0 Z16) 27)
  have hB := blk_new w (.cells (oidC 0 Z16) 27)
  have hsz : (w.alloc (.cells (oidC 0 Z16) 27)).heap.size = w.heap.size + 1 := by simp
  go_enter Tryd.func9, Tryd.ntmps9
  go_upto_region 1 with fail
  rw [zrow]
  generalize w.alloc (.cells (oidC 0 (List.replicate 16 0)) 27) = W at *
  have S0 : Hid (RgS W (w.heap.size + 1) (.slice none 0 0) [] W) := ⟨Below.refl _ _, Kd.R_nil _ _ _ _ _⟩
  go_upto_region 3 with fail
  go_loopw [4, 5] (fun v i wr => ∃ (k : Nat) (S : List Int), k ≤ l.length ∧ i = .int .i64 (k : Int) ∧ S.length ≤ 15 ∧ Hid (RgS W (w.heap.size + 1) v S wr) ∧ Hid (getL (l.drop k) S 0 true = getL l [] 0 true) ∧ Hid (S = [] → k = 0) ∧ Hid (∀ s ∈ S, 0 ≤ s ∧ s ≤ 4294967295)) (fun _ i _ => l.length - (intOf i).toNat)
  case atStart => exact ⟨0, [], Nat.zero_le _, rfl, by simp, S0, Lib.hid rfl, Lib.hid (fun _ => rfl), (by intro s hs; cases hs)⟩
  case round =>
    obtain ⟨k, S, hk, rfl, hS, T, hc, hF, HB⟩ := hrel
    obtain ⟨Ao, co, rfl⟩ := Kd.R_slice T.out.o
    by_cases hlt : k < l.length
    · have hx := HBY.out (l.getD k 0) (by rw [List.getD_eq_getElem?_getD, List.getElem?_eq_getElem hlt, Option.getD_some]; exact List.getElem_mem hlt)
      obtain ⟨ad, rfl, hcl⟩ := (Kd.reads_of_C (enc := Value.int .u8) (d := (0 : Int)) (h1 := fun _ => rfl) (Kd.C_below HR.out (hb.trans (T.out.b.mono (by omega))))).at_ (k : Int) (by omega) (by omega)
      simp only [Int.toNat_natCast, rdOf] at hcl
      have hd := hc.out
      have hd2 : getL (l.drop k) S 0 true = (if S.length = 15 then .error 3 else if l.getD k 0 = 128 then .error 11 else getL (l.drop k) S 0 false) := by
        rw [drop_at hlt, getL, getL]
        simp
      rw [hd2] at hd
      clear hc hd2
      have hkl : ¬ (k : Int) = (l.length : Int) := by omega
      by_cases hS15 : S.length = 15
      · rw [if_pos hS15] at hd
        rw [hS15] at T ⊢
        have hE := getT_err HL0.out (hd.symm)
        rw [HRES.out] at hE
        obtain ⟨rfl, rfl, rfl⟩ : rn = 0 ∧ rx = Z16 ∧ er = 3 := by injection hE with h1 h2; injection h2 with h2 h3; exact ⟨h1, h2, h3⟩
        clear hE HRES
        have hR := (T.out.b.block w.heap.size (by omega)).trans hB
        have hTb := Lib.hid (hb.trans (T.out.b.mono (by omega)))
        go_wp2_with ((with_reducible refine gate_store rfl ?_); refine wpList_plain rfl fun K hK => ?_; refine wp_store_row 27 _ _ rfl w.heap.size (oidC 0 Z16) rfl rfl 27 (oidC 0 Z16) hR (oid_info _ _ rfl) rfl (oid_one _ _) ?_; refine hK _ _ ?_)
        refine bodyPost_ret (results_ct rfl _ _ w.heap.size 27 (oidC 0 Z16) (0, 0) _ rfl (setRow_heap _ _ _ _ _ _ hR) Tryd.underlying27 rfl (oid_info _ _ rfl)) rfl ?_
        exact ⟨rfl, below_setRow hTb.out (Nat.le_refl _) _⟩
      · rw [if_neg hS15] at hd
        have hS15' : ¬ (S.length : Int) = 15 := by omega
        by_cases h128 : l.getD k 0 = 128
        · rw [if_pos h128] at hd
          rw [h128] at hcl
          have hE := getT_err HL0.out (hd.symm)
          rw [HRES.out] at hE
          obtain ⟨rfl, rfl, rfl⟩ : rn = 0 ∧ rx = Z16 ∧ er = 11 := by injection hE with h1 h2; injection h2 with h2 h3; exact ⟨h1, h2, h3⟩
          clear hE HRES
          have hR := (T.out.b.block w.heap.size (by omega)).trans hB
          have hTb := Lib.hid (hb.trans (T.out.b.mono (by omega)))
          go_wp2_with ((with_reducible refine gate_store rfl ?_); refine wpList_plain rfl fun K hK => ?_; refine wp_store_row 27 _ _ rfl w.heap.size (oidC 0 Z16) rfl rfl 27 (oidC 0 Z16) hR (oid_info _ _ rfl) rfl (oid_one _ _) ?_; refine hK _ _ ?_)
          refine bodyPost_ret (results_ct rfl _ _ w.heap.size 27 (oidC 0 Z16) (0, 0) _ rfl (setRow_heap _ _ _ _ _ _ hR) Tryd.underlying27 rfl (oid_info _ _ rfl)) rfl ?_
          exact ⟨rfl, below_setRow hTb.out (Nat.le_refl _) _⟩
        · rw [if_neg h128] at hd
          have HD := Lib.hid hd
          clear hd
          generalize hx0 : l.getD k 0 = x0 at *
          go_upto_region 11 with fail
          clear hcl hx0
          go_loop [5, 6] (fun i n => ∃ (j : Nat) (m : Int), k ≤ j ∧ j ≤ l.length ∧ i = .int .i64 (j : Int) ∧ n = .int .i64 m ∧ 0 ≤ m ∧ m ≤ 4294967295 ∧ Hid (getL (l.drop j) S m false = getL l [] 0 true)) (fun i _ => l.length - (intOf i).toNat)
          case atStart => exact ⟨k, 0, Nat.le_refl _, hk, rfl, rfl, by omega, by omega, HD⟩
          case round =>
            obtain ⟨j, m, hkj, hj, rfl, rfl, m0, m1, hc⟩ := hrel
            by_cases hjl : j < l.length
            · have hx := HBY.out (l.getD j 0) (by rw [List.getD_eq_getElem?_getD, List.getElem?_eq_getElem hjl, Option.getD_some]; exact List.getElem_mem hjl)
              obtain ⟨ad', ead, hcl⟩ := (Kd.reads_of_C (enc := Value.int .u8) (d := (0 : Int)) (h1 := fun _ => rfl) (Kd.C_below HR.out (hb.trans (T.out.b.mono (by omega))))).at_ (j : Int) (by omega) (by omega)
              injection ead with ead
              subst ead
              simp only [Int.toNat_natCast, rdOf] at hcl
              have hd := hc.out
              rw [drop_at hjl, getL, if_neg (fun h => by cases h.1), if_neg (fun h => by cases h.1)] at hd
              clear hc
              have hjl' : ¬ (j : Int) = (l.length : Int) := by omega
              generalize l.getD j 0 = x at *
              have htm : Int.tmod x 128 = x % 128 := Int.tmod_eq_emod_of_nonneg hx.1
              obtain ⟨v, hv⟩ : ∃ v, v = m * 128 + x % 128 := ⟨_, rfl⟩
              have hv' : 128 * m + x % 128 = v := by omega
              rw [← hv] at hd
              have hv0 : 0 ≤ v := by omega
              by_cases hbig : 4294967295 < v
              · rw [if_pos hbig] at hd
                clear hv
                have hE := getT_err HL0.out (hd.symm)
                rw [HRES.out] at hE
                obtain ⟨rfl, rfl, rfl⟩ : rn = 0 ∧ rx = Z16 ∧ er = 3 := by injection hE with h1 h2; injection h2 with h2 h3; exact ⟨h1, h2, h3⟩
                clear hE HRES
                have hR := (T.out.b.block w.heap.size (by omega)).trans hB
                have hTb := Lib.hid (hb.trans (T.out.b.mono (by omega)))
                go_wp2_with ((with_reducible refine gate_store rfl ?_); refine wpList_plain rfl fun K hK => ?_; refine wp_store_row 27 _ _ rfl w.heap.size (oidC 0 Z16) rfl rfl 27 (oidC 0 Z16) hR (oid_info _ _ rfl) rfl (oid_one _ _) ?_; refine hK _ _ ?_)
                refine bodyPost_ret (results_ct rfl _ _ w.heap.size 27 (oidC 0 Z16) (0, 0) _ rfl (setRow_heap _ _ _ _ _ _ hR) Tryd.underlying27 rfl (oid_info _ _ rfl)) rfl ?_
                exact ⟨rfl, below_setRow hTb.out (Nat.le_refl _) _⟩
              · rw [if_neg hbig] at hd
                by_cases hx2 : x < 128
                · rw [if_pos hx2] at hd
                  have HD2 := Lib.hid hd
                  have HB2 : Hid (∀ s ∈ S ++ [v], 0 ≤ s ∧ s ≤ 4294967295) := by
                    intro s hs
                    rcases List.mem_append.mp hs with hs | hs
                    · exact HB.out s hs
                    · obtain rfl := List.mem_singleton.mp hs
                      exact ⟨hv0, by omega⟩
                  clear hd hv
                  go_wp2_with ((with_reducible refine gate_dst (N := 62) rfl ?_); refine Kd.R_append (Kd.int .i64) (w0 := W) (w.heap.size + 1) rfl (.tmp 59) (.tmp 61) 48 3 (.int .i64 0) 8 rfl Tryd.underlying48 info3 rfl (by decide) (by omega) (.slice Ao S.length co) S v [.int .i64 v] (fun _ => True) (fun _ => False) rfl rfl rfl (fun _ h => h.elim) (fun _ _ => trivial) T.out.o T.out.b (by have := T.out.b.size; omega) (by omega) ?_; intro v1 w1 ho hb1 hg hat; have T1 : Hid (RgS W (w.heap.size + 1) v1 (S ++ [v]) w1) := ⟨hb1, ho⟩; clear ho hb1 hg hat)
                  go_round
                  case rel => exact ⟨j + 1, S ++ [v], by omega, by go_num, by simp; omega, T1, HD2, Lib.hid (fun h => by simp at h), HB2⟩
                  case measure => simp [intOf]; omega
                · rw [if_neg hx2] at hd
                  have HD2 := Lib.hid hd
                  clear hd hv
                  go_wp2
                  go_round
                  case rel => exact ⟨j + 1, v, by omega, by omega, by go_num, rfl, hv0, by omega, HD2⟩
                  case measure => simp [intOf]; omega
            · obtain rfl : j = l.length := by omega
              have hd := hc.out
              rw [List.drop_length, getL, if_neg (by decide)] at hd
              clear hc
              have hE := getT_err HL0.out (hd.symm)
              rw [HRES.out] at hE
              obtain ⟨rfl, rfl, rfl⟩ : rn = 0 ∧ rx = Z16 ∧ er = 7 := by injection hE with h1 h2; injection h2 with h2 h3; exact ⟨h1, h2, h3⟩
              clear hE HRES
              have hR := (T.out.b.block w.heap.size (by omega)).trans hB
              have hTb := Lib.hid (hb.trans (T.out.b.mono (by omega)))
              go_wp2_with ((with_reducible refine gate_store rfl ?_); refine wpList_plain rfl fun K hK => ?_; refine wp_store_row 27 _ _ rfl w.heap.size (oidC 0 Z16) rfl rfl 27 (oidC 0 Z16) hR (oid_info _ _ rfl) rfl (oid_one _ _) ?_; refine hK _ _ ?_)
              refine bodyPost_ret (results_ct rfl _ _ w.heap.size 27 (oidC 0 Z16) (0, 0) _ rfl (setRow_heap _ _ _ _ _ _ hR) Tryd.underlying27 rfl (oid_info _ _ rfl)) rfl ?_
              exact ⟨rfl, below_setRow hTb.out (Nat.le_refl _) _⟩
    · obtain rfl : k = l.length := by omega
      have hS0 : S ≠ [] := fun h => h0 (hF.out h)
      have hd := hc.out
      rw [List.drop_length, getL, if_pos rfl] at hd
      have hE := getT_ok HL0.out hd.symm
      rw [HRES.out] at hE
      obtain ⟨rfl, rfl, rfl⟩ : rn = 1 + (S.length : Int) ∧ rx = getX S ∧ er = 0 := by injection hE with h1 h2; injection h2 with h2 h3; exact ⟨h1, h2, h3⟩
      clear hE HRES hd hc
      have hSp : 0 < S.length := List.length_pos_iff.mpr hS0
      have hS0' : ¬ (S.length : Int) = 0 := by omega
      have hSn : ¬ S = [] := hS0
      clear hS0
      have hw8 : ((S.length : Int) + 1) % 256 = (S.length : Int) + 1 := by omega
      have hbd0 := getD_bd HB.out
      obtain ⟨bF, bG, bgX⟩ := first_two S hSp
      have hRow := Lib.hid (Kd.R_reads' T.out.o)
      have hO5 := blk_new wr (.cells (oidC ((S.length : Int) + 1) Z16) 27)
      have hb5 := (Below.refl wr.heap.size wr).alloc (Nat.le_refl _) (.cells (oidC ((S.length : Int) + 1) Z16) 27)
      go_upto_region 22 with fail
      rw [show (#[.int .u8 ((S.length : Int) + 1), .int .u32 0, .int .u32 0, .int .u32 0, .int .u32 0, .int .u32 0, .int .u32 0, .int .u32 0, .int .u32 0, .int .u32 0, .int .u32 0, .int .u32 0, .int .u32 0, .int .u32 0, .int .u32 0, .int .u32 0, .int .u32 0] : Array Value) = oidC ((S.length : Int) + 1) Z16 from rfl]
      generalize wr.alloc (.cells (oidC ((S.length : Int) + 1) Z16) 27) = W5 at *
      have x1 := (oid_cells hO5).2 0 (by simp)
      have x2 := (oid_cells hO5).2 1 (by simp)
      have f1 := blk_frozen hO5 1
      have f2 := blk_frozen hO5 2
      have hR0 : wr.heap[w.heap.size]? = some (.cells (oidC 0 Z16) 27 (0, 0)) := (T.out.b.block w.heap.size (by omega)).trans hB
      have hwr : w.heap.size < wr.heap.size := blk_lt hR0
      have HBW := Lib.hid (hb.trans (T.out.b.mono (by omega)))
      obtain ⟨as0, eas, hs0⟩ := (Kd.reads_of_C (enc := Value.int .i64) (d := (0 : Int)) (h1 := fun _ => rfl) (Kd.C_below hRow.out.2.2 hb5)).at_ 0 (by omega) (by omega)
      subst eas
      have HX0 := Lib.hid (fun f g hf hg => xkS_all S hSp hS f g hf hg)
      have HG := Lib.hid (fun f g => RfS.start (n := (S.length : Int) + 1) (S := S) (f := f) (g := g) hO5 hb5 hS)
      have ad0 : as0.add 0 = as0 := by cases as0; simp [Addr.add]
      simp only [rdOf, Int.toNat_zero, ad0] at hs0
      generalize hs : S.getD 0 0 = s0 at *
      have ht : Int.tdiv s0 40 = s0 / 40 := Int.tdiv_eq_ediv_of_nonneg hbd0.1
      generalize hq : min (s0 / 40) 2 = q at *
      have hq0 : 0 ≤ q ∧ q ≤ 2 ∧ 40 * q ≤ s0 := by omega
      have hw1 : q % 4294967296 = q := by omega
      have hw2 : (s0 - 40 * q) % 4294967296 = s0 - 40 * q := by omega
      obtain ⟨g, hg⟩ : ∃ g, g = s0 - 40 * q := ⟨_, rfl⟩
      have HALL := Lib.hid (HX0.out q g rfl hg)
      have hs1 := (Kd.C_below hRow.out.2.2 (hb5.setCell (p := ⟨wr.heap.size, 1, none⟩) (Nat.le_refl _) (.int .u32 q)))
      obtain ⟨as1, eas1, hs1⟩ := (Kd.reads_of_C (enc := Value.int .i64) (d := (0 : Int)) (h1 := fun _ => rfl) hs1).at_ 0 (by omega) (by omega)
      injection eas1 with eas1
      subst eas1
      simp only [rdOf, Int.toNat_zero, ad0, hs] at hs1
      clear ad0
      have HH1 := Lib.hid (HG.out q g)
      clear HG HX0 hs
      subst hg
      by_cases h80 : s0 < 80
      · have e40 : s0 / 40 = q := (bF h80).symm
        clear bF bG hq
        go_upto_region 27 with fail
        obtain ⟨wo, hwo⟩ : ∃ wo, wo = wr := ⟨_, rfl⟩
        subst hwo
        generalize (W5.setCell ⟨wo.heap.size, 1, none⟩ (.int .u32 q)).setCell ⟨wo.heap.size, 2, none⟩ (.int .u32 (s0 - 40 * q)) = W6 at *
        go_loopw [9] (fun i w2 => ∃ kk : Nat, 1 ≤ kk ∧ kk ≤ S.length ∧ i = .int .i64 (kk : Int) ∧ Hid (RfS ((S.length : Int) + 1) q (s0 - 40 * q) S kk wo w2)) (fun i _ => S.length - (intOf i).toNat)
        case atStart => exact ⟨1, Nat.le_refl _, hSp, rfl, HH1⟩
        case round =>
          obtain ⟨kk, hk1, hk2, rfl, R⟩ := hrel
          by_cases hkl : kk < S.length
          · obtain ⟨as2, eas2, hs2⟩ := (Kd.reads_of_C (enc := Value.int .i64) (d := (0 : Int)) (h1 := fun _ => rfl) (Kd.C_below hRow.out.2.2 R.out.b)).at_ (kk : Int) (by omega) (by omega)
            injection eas2 with eas2
            subst eas2
            simp only [rdOf, Int.toNat_natCast] at hs2
            have h15 : kk < 15 := by omega
            have y1 := (oid_cells R.out.o).2 (kk + 1) (by rw [xkS_len _ _ S kk hk1 hk2 (by omega)]; omega)
            have y2 := blk_frozen R.out.o (1 + (kk + 1))
            have hR2 := Lib.hid (R.out.step hk1 hkl h15)
            have hsb := HB.out (S.getD kk 0) (by rw [List.getD_eq_getElem?_getD, List.getElem?_eq_getElem hkl, Option.getD_some]; exact List.getElem_mem hkl)
            generalize S.getD kk 0 = sv at *
            have hsw : sv % 4294967296 = sv := by omega
            go_wp2
            go_round
            case rel => exact ⟨kk + 1, by omega, by omega, by go_num, hR2⟩
            case measure => simp [intOf]; omega
          · obtain rfl : kk = S.length := by omega
            have hO7 := R.out.o
            rw [HALL.out, show (S.length : Int) + 1 = 1 + (S.length : Int) by omega] at hO7
            have hR7 := (R.out.b.block w.heap.size hwr).trans hR0
            have hb7 := Lib.hid (HBW.out.trans (R.out.b.mono (by omega)))
            have HX := Lib.hid (getX_len S hS)
            go_wp2_with (first
              | ((with_reducible refine gate_dst (N := 104) rfl ?_); refine wpList_load_row rfl 27 _ rfl wo.heap.size rfl 27 (oidC (1 + (S.length : Int)) (getX S)) (0, 0) _ hO7 Tryd.underlying27 rfl (oid_info _ _ HX.out) ?_)
              | ((with_reducible refine gate_store rfl ?_); refine wpList_plain rfl fun K hK => ?_; refine wp_store_row 27 _ _ rfl w.heap.size (oidC (1 + (S.length : Int)) (getX S)) rfl rfl 27 (oidC 0 Z16) hR7 (oid_info _ _ HX.out) (by simp [HX.out]) (oid_one _ _) ?_; refine hK _ _ ?_))
            refine bodyPost_ret (results_ct rfl _ _ w.heap.size 27 (oidC (1 + (S.length : Int)) (getX S)) (0, 0) _ rfl (setRow_heap _ _ _ _ _ _ hR7) Tryd.underlying27 rfl (oid_info _ _ HX.out)) rfl ?_
            exact ⟨rfl, below_setRow hb7.out (Nat.le_refl _) _⟩
      · have e2 : q = 2 := bG h80
        clear bF bG hq
        subst e2
        have e80 : s0 - 40 * 2 = s0 - 80 := by omega
        rw [e80] at HH1 HALL hw2
        clear e80
        go_upto_region 27 with fail
        obtain ⟨wo, hwo⟩ : ∃ wo, wo = wr := ⟨_, rfl⟩
        subst hwo
        generalize (W5.setCell ⟨wo.heap.size, 1, none⟩ (.int .u32 2)).setCell ⟨wo.heap.size, 2, none⟩ (.int .u32 (s0 - 80)) = W6 at *
        go_loopw [9] (fun i w2 => ∃ kk : Nat, 1 ≤ kk ∧ kk ≤ S.length ∧ i = .int .i64 (kk : Int) ∧ Hid (RfS ((S.length : Int) + 1) 2 (s0 - 80) S kk wo w2)) (fun i _ => S.length - (intOf i).toNat)
        case atStart => exact ⟨1, Nat.le_refl _, hSp, rfl, HH1⟩
        case round =>
          obtain ⟨kk, hk1, hk2, rfl, R⟩ := hrel
          by_cases hkl : kk < S.length
          · obtain ⟨as2, eas2, hs2⟩ := (Kd.reads_of_C (enc := Value.int .i64) (d := (0 : Int)) (h1 := fun _ => rfl) (Kd.C_below hRow.out.2.2 R.out.b)).at_ (kk : Int) (by omega) (by omega)
            injection eas2 with eas2
            subst eas2
            simp only [rdOf, Int.toNat_natCast] at hs2
            have h15 : kk < 15 := by omega
            have y1 := (oid_cells R.out.o).2 (kk + 1) (by rw [xkS_len _ _ S kk hk1 hk2 (by omega)]; omega)
            have y2 := blk_frozen R.out.o (1 + (kk + 1))
            have hR2 := Lib.hid (R.out.step hk1 hkl h15)
            have hsb := HB.out (S.getD kk 0) (by rw [List.getD_eq_getElem?_getD, List.getElem?_eq_getElem hkl, Option.getD_some]; exact List.getElem_mem hkl)
            generalize S.getD kk 0 = sv at *
            have hsw : sv % 4294967296 = sv := by omega
            go_wp2
            go_round
            case rel => exact ⟨kk + 1, by omega, by omega, by go_num, hR2⟩
            case measure => simp [intOf]; omega
          · obtain rfl : kk = S.length := by omega
            have hO7 := R.out.o
            rw [HALL.out, show (S.length : Int) + 1 = 1 + (S.length : Int) by omega] at hO7
            have hR7 := (R.out.b.block w.heap.size hwr).trans hR0
            have hb7 := Lib.hid (HBW.out.trans (R.out.b.mono (by omega)))
            have HX := Lib.hid (getX_len S hS)
            go_wp2_with (first
              | ((with_reducible refine gate_dst (N := 104) rfl ?_); refine wpList_load_row rfl 27 _ rfl wo.heap.size rfl 27 (oidC (1 + (S.length : Int)) (getX S)) (0, 0) _ hO7 Tryd.underlying27 rfl (oid_info _ _ HX.out) ?_)
              | ((with_reducible refine gate_store rfl ?_); refine wpList_plain rfl fun K hK => ?_; refine wp_store_row 27 _ _ rfl w.heap.size (oidC (1 + (S.length : Int)) (getX S)) rfl rfl 27 (oidC 0 Z16) hR7 (oid_info _ _ HX.out) (by simp [HX.out]) (oid_one _ _) ?_; refine hK _ _ ?_))
            refine bodyPost_ret (results_ct rfl _ _ w.heap.size 27 (oidC (1 + (S.length : Int)) (getX S)) (0, 0) _ rfl (setRow_heap _ _ _ _ _ _ hR7) Tryd.underlying27 rfl (oid_info _ _ HX.out)) rfl ?_
            exact ⟨rfl, below_setRow hb7.out (Nat.le_refl _) _⟩
end Go.Proofs.YtacpcagijfacnaaDoor
