/- Chapter 22 (armors): the reference's Put. -/
import Derived.Test.YtbdccfjeeabpaaaRf
import Derived.Test.YtbdccfjeeabpaaaPf
import Derived.Lib.AppendStr
namespace Go.Proofs.Ytbdccfjeeabpaaa
open Go.RowKit Go.Shelf
open Go.Proofs.YtbdccfjeeabpaaaW.PrintWords (ReadsOf blk_cell add_plain Ev string_of_reads)
open Go.Proofs.YtbdccfjeeabpaaaW
open Go.Proofs.YtbdccfjeeabpaaaW.PrintLast
attribute [local go_sem] Oper.semAt_some
set_option linter.unusedSimpArgs false
set_option linter.unusedVariables false
set_option maxRecDepth 50000
theorem appW {P : Program} {w W' : World} {ops : Array Oper} {rest : List Oper} {o : Oper} {a : Act} {Q : Exit → Act → World → Prop} (hg : o.guard = none) (s x : Operand) (t u : TypeId)
    (ho : o.op = .call { callee := .builtin .append, args := #[s, x], argTypes := #[t, u] }) {vs vx v : Value} (hs : a.eval s = vs) (hx : a.eval x = vx) (hrun : (Builtin.append_ #[t, u] o.type #[vs, vx]).run P w = .ok v W')
    (h : wpList P ops Q rest (a.put o.dst v) W') : wpList P ops Q (o :: rest) a w := by
  refine wpList_plain hg fun K hK => ?_
  unfold Oper.wp
  simp [execOp, ho, resolve, invoke, builtin, hs, hx, hrun, Result.andThen]
  exact hK _ _ h
/-- What is written so far. -/
structure PI (w : World) (B : List UInt8) (v : Value) (W : World) : Prop where
  own : W.ownsRow w.heap.size 5 1 v B.length (Lib.byteCells B)
  bel : Below w.heap.size w W
theorem PI.below {w W W' : World} {B : List UInt8} {v : Value} (h : PI w B v W) (hb : Below W.heap.size W W') : PI w B v W' := ⟨owns_ck h.own (ck_below hb), chainB h.bel rfl hb⟩
theorem PI.str {w W : World} {B : List UInt8} {v : Value} (h : PI w B v W) (s : ByteArray) (hn : B.length + s.size ≤ 1000000000) :
    ∃ v' w', (Builtin.append_ #[24, 9] 24 #[v, .string s]).run Try.prog W = .ok v' w' ∧ PI w (B ++ s.data.toList) v' w' ∧ W.grownBy w' v.ownBlock := by
  obtain ⟨i0, hi, hz0, hz1, hz2⟩ := info_parts info5
  obtain ⟨v', w', r1, r2, r3, _⟩ := Lib.run_append_own_string (P := Try.prog) W w.heap.size 24 9 24 5 i0 Try.underlying24 Try.underlying9 hi hz0 hz1 hz2 v B.length _ h.own s (by unfold maxLen; omega) (by omega) h.bel.size
  refine ⟨v', w', r1, ⟨?_, Below.grown h.bel r3 h.bel.size (own_base_lt h.own)⟩, r3⟩
  have e : (B ++ s.data.toList).length = B.length + s.size := by rw [List.length_append, Array.length_toList]; rfl
  rw [e, ← bc_app]
  exact r2
theorem PI.nl {w W : World} {B : List UInt8} {v : Value} (h : PI w B v W) (hn : B.length ≤ 1000000000) :
    ∃ v' w', (Builtin.append_ #[24, 24] 24 #[v, .slice (some ⟨W.heap.size, 0, none⟩) 1 1]).run Try.prog (W.alloc (.cells #[.int .u8 10] 5)) = .ok v' w' ∧ PI w (B ++ [10]) v' w' ∧ (W.alloc (.cells #[.int .u8 10] 5)).grownBy w' v.ownBlock := by
  obtain ⟨i0, hi, hz0, hz1, hz2⟩ := info_parts info5
  obtain ⟨v', w', r1, r2, r3, _, _⟩ := run_append_own_at (P := Try.prog) (W.alloc (.cells #[.int .u8 10] 5)) w.heap.size 24 24 5 i0 (.int .u8 0) 1 1 Try.underlying24 hi hz0 hz1 hz2 rfl (by decide) v B.length _ (h.own.alloc _) ⟨W.heap.size, 0, none⟩ 1 1 [.int .u8 10] rfl
    (World.news_of_block (cs := #[.int .u8 10]) (t := 5) (fr := (0, 0)) (heap_alloc_new W _)) (by simp [Value.oneCell']) (by unfold maxLen; omega) (by omega) (by rw [World.size_alloc]; have := h.bel.size; omega)
  refine ⟨v', w', r1, ⟨?_, Below.grown (h.bel.alloc h.bel.size _) r3 (by rw [World.size_alloc]; have := h.bel.size; omega) (own_base_lt h.own)⟩, r3⟩
  rw [List.length_append, ← bc_app]
  exact r2
/-- Rows that were there before stand. -/
theorem Chn.grown {w W W' : World} {A : Option Addr} {c : Nat} {rows : List Rw} {B : List UInt8} {v : Value} (h : Chn W A c rows) (hg : W.grownBy W' v.ownBlock) (hp : PI w B v W) (hw : w.heap.size ≤ W.heap.size) (h0 : Chn w A c rows) : Chn W' A c rows :=
  h0.below (Below.grown hp.bel hg hw (own_base_lt hp.own))
/-- What is owned, as a string. -/
theorem PI.conv {w W : World} {B : List UInt8} {v : Value} (h : PI w B v W) : (convert 24 9 v).run Try.prog W = .ok (.string ⟨B.toArray⟩) W := by
  rcases h.own.2 with ⟨rfl, h0⟩ | ⟨g, cap, cur, rfl, _, hc, _, _, hs, ht⟩
  · obtain rfl : B = [] := List.length_eq_zero_iff.1 h0
    exact run_convert_bytes_nil W 24 5 Try.underlying24 Try.underlying5 0 0 9 Try.underlying9
  · refine run_convert_bytes_back W 24 9 5 ⟨g, 0, none⟩ cap B Try.underlying24 Try.underlying5 Try.underlying9 fun j hj => ?_
    rw [add_plain, blk_cell hc, ← Array.getElem?_toList]
    have e := congrArg (fun x : List Value => x[j]?) ht
    simp only [List.getElem?_take] at e
    rw [if_pos (by omega)] at e
    rw [e]
    simp [Lib.byteCells, hj]
theorem putS_pre (rows : List Rw) (j : Nat) : (putS (rows.take j)).length ≤ (putS rows).length := by
  have h : putS (rows.take j) ++ putS (rows.drop j) = putS rows := by
    unfold putS
    rw [← List.flatMap_append, List.take_append_drop]
  rw [← h, List.length_append]
  omega
theorem linR_pre (l : List Int) (m : Nat) (h : 48 * m ≤ l.length) : (linR (l.take (48 * m))).length ≤ (linR l).length := by
  have e := linR_append m (l.take (48 * m)) (l.drop (48 * m)) (by rw [List.length_take]; omega)
  rw [List.take_append_drop] at e
  rw [e, List.length_append]
  omega
set_option maxHeartbeats 40000000 in
theorem rput_any (A : Option Addr) (c : Nat) (rows : List Rw) (w : World) (hC : Chn w A c rows) (hn : rows.length ≤ 100000) (hz : (putS rows).length ≤ 10000000) (hw : ∀ r ∈ rows, r.l.length ≤ 1000000) :
    Calls Try.prog 12 #[.slice A rows.length c] w fun e w' => e = .returned (.string ⟨(putS rows).toArray⟩) ∧ Below w.heap.size w w' := by
  have H0 := Lib.hid hC
  have HZ := Lib.hid hz
  have HW := Lib.hid hw
  clear hC hz hw
  have P0 : Hid (PI w (putS (rows.take 0)) (.slice none 0 0) w) := ⟨⟨rfl, .inl ⟨rfl, rfl⟩⟩, Below.refl _ _⟩
  go_enter Try.func12, Try.ntmps12
  go_wp2
  go_loopw [3, 4] (fun v i wr => ∃ k : Nat, k ≤ rows.length ∧ i = .int .i64 k ∧ Hid (PI w (putS (rows.take k)) v wr)) (fun _ i _ => rows.length - (intOf i).toNat)
  case atStart => exact ⟨0, by omega, rfl, P0⟩
  case round =>
    obtain ⟨k, hk, rfl, P⟩ := hrel
    by_cases hlt : k < rows.length
    · obtain ⟨ad, rfl, _⟩ := H0.out.r.2.2 (by omega)
      obtain ⟨R, hR⟩ : ∃ R, Hid (rows.getD k rw0 = R) := ⟨_, Lib.hid rfl⟩
      have hRm : R ∈ rows := by rw [← hR.out, List.getD_eq_getElem?_getD, List.getElem?_eq_getElem hlt, Option.getD_some]; exact List.getElem_mem hlt
      have hRn := HW.out R hRm
      have hRc := (H0.out.rowok hlt hR.out).cc
      have hRb := Lib.hid (H0.out.rowok hlt hR.out).bb
      have hPT := Lib.hid (putS_take hlt)
      have hPl : Hid ((putS (rows.take k)).length + (cerS R.l).length ≤ 10000000) := by
        have h1 := putS_pre rows (k + 1)
        rw [putS_take hlt, hR.out, List.length_append] at h1
        have := HZ.out
        show _ + _ ≤ _
        omega
      rw [hR.out] at hPT
      clear hRm
      generalize putS (rows.take k) = S0 at *
      have hS0 : S0.length ≤ 10000000 := by have := hPl.out; omega
      obtain ⟨v1, w1, e1, p1, g1⟩ := P.out.str ⟨#[45, 45, 45, 45, 45, 66, 69, 71, 73, 78, 32, 67, 69, 82, 84, 73, 70, 73, 67, 65, 84, 69, 45, 45, 45, 45, 45]⟩ (by show S0.length + 27 ≤ _; omega)
      obtain ⟨v2, w2, e2, p2, g2⟩ := p1.nl (by rw [List.length_append]; show S0.length + 27 ≤ _; omega)
      have P2 : Hid (PI w (S0 ++ begN ++ linR (R.l.take (48 * 0))) v2 w2) := by
        show PI _ _ _ _
        have e : linR (R.l.take (48 * 0)) = [] := linR_nil
        rw [e, List.append_nil]
        have := p2
        rw [List.append_assoc] at this
        exact this
      clear p1 p2 g1 g2 P
      go_wp2_with (first | (refine appW rfl (.tmp 12) (.const _) 24 9 rfl rfl rfl e1 ?_) | (refine appW rfl (.tmp 14) (.tmp 15) 24 24 rfl rfl rfl e2 ?_))
      clear e1 e2
      have hcl : Hid ((cerS R.l).length = 54 + (linR R.l).length) := by
        show _ = _
        unfold cerS
        rw [linS_linR, List.length_append, List.length_append]
        simp
        omega
      go_loopw [3, 5] (fun v j wr => ∃ m i : Nat, i ≤ R.l.length + 47 ∧ Hid (i = 48 * m) ∧ j = .int .i64 (i : Int) ∧ Hid (PI w (S0 ++ begN ++ linR (R.l.take i)) v wr)) (fun _ j _ => R.l.length + 48 - (intOf j).toNat)
      case atStart => exact ⟨0, 0, by omega, Lib.hid rfl, rfl, P2⟩
      case round =>
        obtain ⟨m, i, hm, hi, rfl, PP⟩ := hrel
        have C1 := (H0.out.below PP.out.bel).cell hlt hR.out
        by_cases hlt2 : i < R.l.length
        · go_upto_region 10 with fail
          have hpre := Lib.hid (linR_pre R.l m (by rw [← hi.out]; omega))
          rw [← hi.out] at hpre
          obtain ⟨b, hb⟩ : ∃ b, min (i + 48) R.l.length = b := ⟨_, rfl⟩
          obtain ⟨i0, hi0, hz0, hz1, hz2⟩ := info_parts info5
          obtain ⟨A3, t1, t2, t3⟩ := PrintWords.print_mid_of (P := Try.prog) (Value.int .u8) (0 : Int) 24 5 .i64 .i64 Try.underlying24 hi0 hz1 R.a R.c R.l (i : Int) (b : Int) (by omega) (by omega) (by omega) hRc
          rw [Int.toNat_natCast, Int.toNat_natCast] at t1 t2 t3
          have hpc : (R.l.take b).drop i = (R.l.drop i).take 48 := by
            rw [← hb, List.drop_take]
            rcases Nat.le_total (i + 48) R.l.length with h | h
            · rw [Nat.min_eq_left h]; congr 1; omega
            · rw [Nat.min_eq_right h, List.take_of_length_le (by rw [List.length_drop]; omega), List.take_of_length_le (by rw [List.length_drop]; omega)]
          rw [hpc] at t1 t2 t3
          have hpn : Hid ((R.l.drop i).take 48 ≠ [] ∧ ((R.l.drop i).take 48).length ≤ 48) := ⟨fun e => by have := congrArg List.length e; rw [List.length_take, List.length_drop] at this; simp at this; omega, by rw [List.length_take]; omega⟩
          have hnx : Hid (linR (R.l.take (i + 48)) = linR (R.l.take i) ++ (encS ((R.l.drop i).take 48) ++ [10])) := by
            show _ = _
            rw [List.take_add, linR_append m _ _ (by rw [List.length_take, ← hi.out]; omega), linR_short _ hpn.out.1 hpn.out.2]
          have hpb := Lib.hid (byt_take' (byt_drop' hRb.out i) 48)
          have hsz : Hid ((encS ((R.l.drop i).take 48)).length ≤ 64) := by
            have := encS_len4 ((R.l.drop i).take 48)
            have := hpn.out.2
            show _ ≤ _
            omega
          clear hpc hi0 hz0 hz1 hz2
          have T1 := Lib.hid t1
          have T2 := Lib.hid t2
          clear t1 t2
          generalize (R.l.drop i).take 48 = pc at *
          have E0 := Lib.hid (fun (W : World) (h : ReadsOf (Value.int .u8) (0 : Int) W A3 pc.length pc) => refEnc_any A3 pc (R.c - i) W h (by have := hpn.out.2; omega) t3 hpb.out)
          obtain ⟨pl, hpl⟩ : ∃ pl, pc.length = pl := ⟨_, rfl⟩
          rw [hpl] at T1 E0 T2
          obtain ⟨s0, hs0⟩ : ∃ s0 : ByteArray, (⟨(encS pc).toArray⟩ : ByteArray) = s0 := ⟨_, rfl⟩
          rw [hs0] at E0
          have hs1 : Hid (s0.data.toList = encS pc) := by rw [← hs0]; rfl
          have hs2 : Hid (s0.size ≤ 64) := by
            show s0.size ≤ 64
            rw [← hs0]
            show (encS pc).toArray.size ≤ 64
            rw [List.size_toArray]
            exact hsz.out
          have hw48 : Hid (IntKind.i64.wrap ((i : Int) + 48) = (i : Int) + 48) := by show _ = _; rw [IntKind.wrap_i64]; omega
          have hmb : Hid (min ((i : Int) + 48) (R.l.length : Int) = (b : Int)) := by show _ = _; omega
          have HX : Chn wr.drew (some ad) c rows := (H0.out.below PP.out.bel).below (Below.refl _ wr).drew
          have P2 := Lib.hid (PP.out.below (Below.refl _ wr).drew)
          clear C1 t3
          refine start_ (n := 18) (S := fun W => Chn W (some ad) c rows) (ds := []) #[false, false, false, false, false, false, false, false, false, false, false, false, false, false, false, false, false, false] (by kernel_rfl) rfl rfl HX (fun HS => ?_)
          refine take_ (i := 0) (N := some 26) (v := ?_) (a' := ?_) #[true, false, false, false, false, false, false, false, false, false, false, false, false, false, false, false, false, false] rfl rfl (by kernel_rfl) (fun _ _ _ h => h) (Or.inl ⟨by rfl, ?_⟩) (by assumption) ?_ ?_
          rotate_left
          · rintro W' hS'
            go_simp
            with_reducible rfl
          rotate_left
          · simp only [Act.put, List.setIfInBounds_toArray, List.set_cons_zero, List.set_cons_succ]
            rfl
          refine take_ (i := 1) (N := some 27) (v := ?_) (a' := ?_) #[true, true, false, false, false, false, false, false, false, false, false, false, false, false, false, false, false, false] rfl rfl (by kernel_rfl) (fun _ _ _ h => h) (Or.inl ⟨by rfl, ?_⟩) (by assumption) ?_ ?_
          rotate_left
          · rintro W' hS'
            go_simp
            with_reducible rfl
          rotate_left
          · simp only [Act.put, List.setIfInBounds_toArray, List.set_cons_zero, List.set_cons_succ]
            rfl
          refine take_ (i := 2) (N := some 28) (v := ?_) (a' := ?_) #[true, true, true, false, false, false, false, false, false, false, false, false, false, false, false, false, false, false] rfl rfl (by kernel_rfl) (fun _ _ _ h => h) (Or.inl ⟨by rfl, ?_⟩) (by assumption) ?_ ?_
          rotate_left
          · rintro W' hS'
            go_simp
            with_reducible rfl
          rotate_left
          · simp only [Act.put, List.setIfInBounds_toArray, List.set_cons_zero, List.set_cons_succ]
            rfl
          refine take_ (i := 3) (N := some 29) (v := ?_) (a' := ?_) #[true, true, true, true, false, false, false, false, false, false, false, false, false, false, false, false, false, false] rfl rfl (by kernel_rfl) (fun _ _ _ h => h) (Or.inl ⟨by rfl, ?_⟩) (by assumption) ?_ ?_
          rotate_left
          · rintro W' hS'
            go_simp
            with_reducible rfl
          rotate_left
          · simp only [Act.put, List.setIfInBounds_toArray, List.set_cons_zero, List.set_cons_succ]
            rfl
          refine take_ (i := 4) (N := some 30) (v := ?_) (a' := ?_) #[true, true, true, true, true, false, false, false, false, false, false, false, false, false, false, false, false, false] rfl rfl (by kernel_rfl) (fun _ _ _ h => h) (Or.inl ⟨by rfl, ?_⟩) (by assumption) ?_ ?_
          rotate_left
          · rintro W' hS'
            have k1 := hS'.cell hlt hR.out
            go_simp
            with_reducible rfl
          rotate_left
          · simp only [Act.put, List.setIfInBounds_toArray, List.set_cons_zero, List.set_cons_succ]
            rfl
          refine take_ (i := 5) (N := some 31) (v := ?_) (a' := ?_) #[true, true, true, true, true, true, false, false, false, false, false, false, false, false, false, false, false, false] rfl rfl (by kernel_rfl) (fun _ _ _ h => h) (Or.inl ⟨by rfl, ?_⟩) (by assumption) ?_ ?_
          rotate_left
          · rintro W' hS'
            go_simp
            with_reducible rfl
          rotate_left
          · simp only [Act.put, List.setIfInBounds_toArray, List.set_cons_zero, List.set_cons_succ]
            rfl
          refine take_ (i := 6) (N := some 32) (v := ?_) (a' := ?_) #[true, true, true, true, true, true, true, false, false, false, false, false, false, false, false, false, false, false] rfl rfl (by kernel_rfl) (fun _ _ _ h => h) (Or.inl ⟨by rfl, ?_⟩) (by assumption) ?_ ?_
          rotate_left
          · rintro W' hS'
            go_simp
            with_reducible rfl
          rotate_left
          · simp only [Act.put, List.setIfInBounds_toArray, List.set_cons_zero, List.set_cons_succ]
            rfl
          refine take_ (i := 7) (N := some 33) (v := ?_) (a' := ?_) #[true, true, true, true, true, true, true, true, false, false, false, false, false, false, false, false, false, false] rfl rfl (by kernel_rfl) (fun _ _ _ h => h) (Or.inl ⟨by rfl, ?_⟩) (by assumption) ?_ ?_
          rotate_left
          · rintro W' hS'
            go_simp
            try rw [hw48.out]
            all_goals with_reducible rfl
          rotate_left
          · simp only [Act.put, List.setIfInBounds_toArray, List.set_cons_zero, List.set_cons_succ]
            rfl
          refine take_ (i := 8) (N := some 34) (v := ?_) (a' := ?_) #[true, true, true, true, true, true, true, true, true, false, false, false, false, false, false, false, false, false] rfl rfl (by kernel_rfl) (fun _ _ _ h => h) (Or.inl ⟨by rfl, ?_⟩) (by assumption) ?_ ?_
          rotate_left
          · rintro W' hS'
            go_simp
            with_reducible rfl
          rotate_left
          · simp only [Act.put, List.setIfInBounds_toArray, List.set_cons_zero, List.set_cons_succ]
            rfl
          refine take_ (i := 9) (N := some 35) (v := ?_) (a' := ?_) #[true, true, true, true, true, true, true, true, true, true, false, false, false, false, false, false, false, false] rfl rfl (by kernel_rfl) (fun _ _ _ h => h) (Or.inl ⟨by rfl, ?_⟩) (by assumption) ?_ ?_
          rotate_left
          · rintro W' hS'
            go_simp
            with_reducible rfl
          rotate_left
          · simp only [Act.put, List.setIfInBounds_toArray, List.set_cons_zero, List.set_cons_succ]
            rfl
          refine take_ (i := 10) (N := some 36) (v := ?_) (a' := ?_) #[true, true, true, true, true, true, true, true, true, true, true, false, false, false, false, false, false, false] rfl rfl (by kernel_rfl) (fun _ _ _ h => h) (Or.inl ⟨by rfl, ?_⟩) (by assumption) ?_ ?_
          rotate_left
          · rintro W' hS'
            go_simp
            with_reducible rfl
          rotate_left
          · simp only [Act.put, List.setIfInBounds_toArray, List.set_cons_zero, List.set_cons_succ]
            rfl
          refine take_ (i := 11) (N := some 37) (v := ?_) (a' := ?_) #[true, true, true, true, true, true, true, true, true, true, true, true, false, false, false, false, false, false] rfl rfl (by kernel_rfl) (fun _ _ _ h => h) (Or.inl ⟨by rfl, ?_⟩) (by assumption) ?_ ?_
          rotate_left
          · rintro W' hS'
            have k1 := hS'.cell hlt hR.out
            go_simp
            with_reducible rfl
          rotate_left
          · simp only [Act.put, List.setIfInBounds_toArray, List.set_cons_zero, List.set_cons_succ]
            rfl
          refine take_ (i := 12) (N := some 38) (v := ?_) (a' := ?_) #[true, true, true, true, true, true, true, true, true, true, true, true, true, false, false, false, false, false] rfl rfl (by kernel_rfl) (fun _ _ _ h => h) (Or.inl ⟨by rfl, ?_⟩) (by assumption) ?_ ?_
          rotate_left
          · rintro W' hS'
            go_simp
            with_reducible rfl
          rotate_left
          · simp only [Act.put, List.setIfInBounds_toArray, List.set_cons_zero, List.set_cons_succ]
            rfl
          refine take_ (i := 13) (N := some 39) (v := ?_) (a' := ?_) #[true, true, true, true, true, true, true, true, true, true, true, true, true, true, false, false, false, false] rfl rfl (by kernel_rfl) (fun _ _ _ h => h) (Or.inl ⟨by rfl, ?_⟩) (by assumption) ?_ ?_
          rotate_left
          · rintro W' hS'
            go_simp
            try rw [hmb.out]
            all_goals with_reducible rfl
          rotate_left
          · simp only [Act.put, List.setIfInBounds_toArray, List.set_cons_zero, List.set_cons_succ]
            rfl
          refine take_ (i := 14) (N := some 40) (v := ?_) (a' := ?_) #[true, true, true, true, true, true, true, true, true, true, true, true, true, true, true, false, false, false] rfl rfl (by kernel_rfl) (fun _ _ _ h => h) (Or.inl ⟨by rfl, ?_⟩) (by assumption) ?_ ?_
          rotate_left
          · rintro W' hS'
            have k1 := T1.out W'
            go_simp
            with_reducible rfl
          rotate_left
          · simp only [Act.put, List.setIfInBounds_toArray, List.set_cons_zero, List.set_cons_succ]
            rfl
          refine one_ (i := 15) (N := some 41) #[true, true, true, true, true, true, true, true, true, true, true, true, true, true, true, true, false, false] rfl rfl (by kernel_rfl) (by decide) (fun K hK => ?_)
          refine goes_ Try.func18 (by kernel_rfl) rfl #[.slice A3 pl (R.c - i)] (by rfl) rfl rfl (by (try simp only [List.map_toArray, List.map_cons, List.map_nil]); first | done | rfl) ?_
          refine (E0.out _ (T2.out _ (HX.row hlt hR.out))).mono ?_
          rintro e w' ⟨rfl, hb1⟩
          refine ⟨_, rfl, ?_⟩
          replace HX := HX.below hb1
          have P3 := Lib.hid (P2.out.below hb1)
          clear hb1
          refine hK.out _ _ HX (fun HS => ?_)
          clear hK K
          refine norm_ (a' := ?_) ?_ ?_
          rotate_left
          · show Act.put _ (some 41) _ = _
            simp only [Act.put, List.setIfInBounds_toArray, List.set_cons_zero, List.set_cons_succ]
            rfl
          obtain ⟨v3, w3, hrun, hp, hg⟩ := P3.out.str s0 (by have h1 := hs2.out; have h2 := hpre.out; have h3 := hPl.out; have h4 := hcl.out; simp only [List.length_append, List.length_cons, List.length_nil]; omega)
          have P4 := Lib.hid hp
          have HX3 := HX.grown hg P3.out P3.out.bel.size H0.out
          refine one_ (i := 16) (N := some 42) #[true, true, true, true, true, true, true, true, true, true, true, true, true, true, true, true, true, false] rfl rfl (by kernel_rfl) (by decide) (fun K hK => ?_)
          refine value_ (by rfl) (N := some 42) rfl (v := v3) (w1 := w3) (by simp [execOp, resolve, invoke, builtin, Act.eval, hrun, Result.andThen]) ?_
          refine hK.out _ _ HX3 (fun HS => ?_)
          clear hrun hg hp
          clear hK K
          refine norm_ (a' := ?_) ?_ ?_
          rotate_left
          · show Act.put _ (some 42) _ = _
            simp only [Act.put, List.setIfInBounds_toArray, List.set_cons_zero, List.set_cons_succ]
            rfl
          refine take_ (i := 17) (N := some 3) (v := ?_) (a' := ?_) #[true, true, true, true, true, true, true, true, true, true, true, true, true, true, true, true, true, true] rfl rfl (by kernel_rfl) (fun _ _ _ h => h) (Or.inl ⟨by rfl, ?_⟩) (by assumption) ?_ ?_
          rotate_left
          · rintro W' hS'
            go_simp
            with_reducible rfl
          rotate_left
          · simp only [Act.put, List.setIfInBounds_toArray, List.set_cons_zero, List.set_cons_succ]
            rfl
          refine done_ (by kernel_rfl) ?_
          have hlen : (S0 ++ begN ++ linR (R.l.take i) ++ s0.data.toList).length ≤ 1000000000 := by
            have h1 := hs2.out; have h2 := hpre.out; have h3 := hPl.out; have h4 := hcl.out; have h5 := hsz.out
            rw [hs1.out]
            simp only [List.length_append, List.length_cons, List.length_nil]
            omega
          obtain ⟨v5, w5, e5, p5, g5⟩ := P4.out.nl hlen
          have P6 : Hid (PI w (S0 ++ begN ++ linR (R.l.take (i + 48))) v5 w5) := by
            show PI _ _ _ _
            rw [hnx.out, ← List.append_assoc, ← List.append_assoc, ← hs1.out]
            exact p5
          clear p5 g5 hlen
          go_wp2_with (refine appW rfl (.tmp 43) (.tmp 44) 24 24 rfl rfl rfl e5 ?_)
          go_round
          case rel => exact ⟨m + 1, i + 48, by omega, by have := hi.out; show i + 48 = 48 * (m + 1); omega, by go_num, P6⟩
          case measure => simp [intOf]; omega
        · have P5 := PP
          rw [List.take_of_length_le (by omega)] at P5
          have hlen : (S0 ++ begN ++ linR R.l).length ≤ 900000000 := by
            have h3 := hPl.out; have h4 := hcl.out
            simp only [List.length_append, List.length_cons, List.length_nil]
            omega
          obtain ⟨v6, w6, e6, p6, g6⟩ := P5.out.str ⟨#[45, 45, 45, 45, 45, 69, 78, 68, 32, 67, 69, 82, 84, 73, 70, 73, 67, 65, 84, 69, 45, 45, 45, 45, 45]⟩ (by show _ + 25 ≤ _; omega)
          obtain ⟨v7, w7, e7, p7, g7⟩ := p6.nl (by rw [List.length_append]; show _ + 25 ≤ _; omega)
          have P8 : Hid (PI w (putS (rows.take (k + 1))) v7 w7) := by
            show PI _ _ _ _
            rw [hPT.out]
            unfold cerS
            rw [linS_linR]
            have := p7
            rw [List.append_assoc, List.append_assoc, List.append_assoc] at this
            rw [List.append_assoc]
            exact this
          clear p6 p7 g6 g7 hlen
          go_wp2_with (first | (refine appW rfl (.tmp 46) (.const _) 24 9 rfl rfl rfl e6 ?_) | (refine appW rfl (.tmp 48) (.tmp 49) 24 24 rfl rfl rfl e7 ?_))
          go_round
          case rel => exact ⟨k + 1, by omega, by go_num, P8⟩
          case measure => simp [intOf]; omega
    · obtain rfl : k = rows.length := by omega
      have P1 := P
      rw [List.take_length] at P1
      have k1 := P1.out.conv
      go_wp2
      go_ret
      exact ⟨rfl, P1.out.bel⟩
end Go.Proofs.Ytbdccfjeeabpaaa
