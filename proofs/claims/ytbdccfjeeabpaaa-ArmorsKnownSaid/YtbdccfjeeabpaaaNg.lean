/- Chapter 22 (armors): Put. -/
import Derived.Test.YtbdccfjeeabpaaaNf
import Derived.LoopTactic
import Derived.Outline
namespace Go.Proofs.Ytbdccfjeeabpaaa
open Go.RowKit Go.Shelf
open Go.Proofs.YtbdccfjeeabpaaaW.PrintWords (ReadsOf blk_cell)
attribute [local go_sem] Oper.semAt_some
set_option linter.unusedSimpArgs false
set_option linter.unusedVariables false
set_option maxRecDepth 50000
def mkD (D : Nat) : Deferred := { target := .collected D, args := #[] }
structure Marks (lo hi : Nat) (Ds : List Nat) (W : World) : Prop where
  nd : Ds.Nodup
  at_ : ∀ D ∈ Ds, lo ≤ D ∧ D < hi ∧ W.heap[D]? = some (.deferred (some []))
theorem Marks.nil (lo hi : Nat) (W : World) : Marks lo hi [] W := ⟨List.nodup_nil, fun _ h => by cases h⟩
theorem Marks.others {lo hi : Nat} {Ds : List Nat} {W W' : World} (h : Marks lo hi Ds W) (k : KeepsOthers W W') : Marks lo hi Ds W' := ⟨h.nd, fun D hD => ⟨(h.at_ D hD).1, (h.at_ D hD).2.1, k.same D _ (h.at_ D hD).2.2 rfl⟩⟩
theorem Marks.own {lo hi B : Nat} {Ds : List Nat} {W W' : World} {row : Option Nat} (h : Marks lo hi Ds W) (hg : W.grownBy W' row) (hr : ∀ r, row = some r → B ≤ r ∧ ∃ o : Obj, W.heap[r]? = some o ∧ o.isCells = false) (hB : hi ≤ B) : Marks lo hi Ds W' :=
  ⟨h.nd, fun D hD => by
    obtain ⟨h1, h2, h3⟩ := h.at_ D hD
    refine ⟨h1, h2, ?_⟩
    rw [hg.block D (Array.getElem?_eq_some_iff.1 h3).1 (fun e => by have := (hr D e.symm).1; omega)]
    exact h3⟩
theorem Marks.cons {lo hi hi' D : Nat} {Ds : List Nat} {W : World} (h : Marks lo hi Ds W) (h1 : hi ≤ D) (h2 : D < hi') (hlo : lo ≤ hi) (hD : W.heap[D]? = some (.deferred (some []))) : Marks lo hi' (D :: Ds) W :=
  ⟨List.nodup_cons.mpr ⟨fun hm => by have := (h.at_ D hm).2.1; omega, h.nd⟩, fun E hE => by
    rcases List.mem_cons.mp hE with rfl | hE
    · exact ⟨by omega, h2, hD⟩
    · obtain ⟨a, b, c⟩ := h.at_ E hE
      exact ⟨a, by omega, c⟩⟩
theorem Marks.tail {lo hi D : Nat} {Ds : List Nat} {W : World} (h : Marks lo hi (D :: Ds) W) (o : Obj) : Marks lo hi Ds (W.putObj D o) :=
  ⟨(List.nodup_cons.mp h.nd).2, fun E hE => by
    obtain ⟨a, b, c⟩ := h.at_ E (List.mem_cons_of_mem _ hE)
    refine ⟨a, b, ?_⟩
    rw [World.putObj_heap_other (fun e => (List.nodup_cons.mp h.nd).1 (by rw [← e]; exact hE))]
    exact c⟩
theorem leaves_marks {F : Fence} {n : Nat} {P : Program} {fn : Func} {tmps : Array Value} {R : Ending → World → Prop} {lo hi : Nat} (Φ : World → Prop)
    (hΦ : ∀ W D, Φ W → lo ≤ D → W.heap[D]? = some (.deferred (some [])) → Φ (W.putObj D (.deferred none)))
    (hend : ∀ W, Φ W → LeavesIn F n P fn tmps R [] .returning W) : ∀ (Ds : List Nat) (W : World), Marks lo hi Ds W → Φ W → LeavesInM F n P fn tmps R (Ds.map mkD) .returning W
  | [], W, _, h => hend W h
  | D :: Ds, W, hm, h => by
    obtain ⟨h1, h2, h3⟩ := hm.at_ D (List.mem_cons_self ..)
    exact ⟨by simp, .inl ⟨D, _, rfl, run_takeDeferred h3, leaves_marks Φ hΦ hend Ds _ (hm.tail _) (hΦ W D h h1 h3)⟩⟩
theorem Marks.grow {lo hi hi' : Nat} {Ds : List Nat} {W : World} (h : Marks lo hi Ds W) (hh : hi ≤ hi') : Marks lo hi' Ds W := ⟨h.nd, fun D hD => ⟨(h.at_ D hD).1, by have := (h.at_ D hD).2.1; omega, (h.at_ D hD).2.2⟩⟩
theorem Marks.kept {lo hi b : Nat} {Ds : List Nat} {W W' : World} (h : Marks lo hi Ds W) (k : Lib.OthersKept 5 (some b) W W') (hb : ∃ cs t fz, W.heap[b]? = some (.cells cs t fz)) : Marks lo hi Ds W' :=
  ⟨h.nd, fun D hD => ⟨(h.at_ D hD).1, (h.at_ D hD).2.1, k D _ (h.at_ D hD).2.2 (fun e => by
    obtain ⟨cs, t, fz, hb⟩ := hb
    have := (h.at_ D hD).2.2
    cases e
    rw [this] at hb; cases hb) (fun c fz e => by cases e)⟩⟩
theorem bld_cells {B b : Nat} {bs : List Value} {W : World} (h : Lib.IsBuilderF 45 5 B b bs W) : ∃ cs t fz, W.heap[b]? = some (.cells cs t fz) := h.elim (fun ⟨_, v, h, _⟩ => ⟨_, _, _, h⟩) (fun ⟨_, v, h, _⟩ => ⟨_, _, _, h⟩)
theorem bc_app (x y : List UInt8) : Lib.byteCells x ++ Lib.byteCells y = Lib.byteCells (x ++ y) := by simp [Lib.byteCells]
theorem ws_is (w0 w : World) (b : Nat) (S L : List UInt8) (W : World) (E : EnI w0 w b (Lib.byteCells S) W) (hl : S.length + L.length ≤ 140737488355328) :
    Calls Try.prog 21 #[.pointer (some ⟨b, 0, none⟩), .string ⟨L.toArray⟩] W fun e w' => (∃ v, e = .returned v) ∧ EnI w0 w b (Lib.byteCells (S ++ L)) w' ∧ Lib.OthersKept 5 (some b) W w' ∧ W.heap.size ≤ w'.heap.size := by
  refine (Try.Builder_WriteString_k w0.heap.size b _ ⟨L.toArray⟩ W E.bld (by rw [Lib.byteCells_length]; exact hl) E.bel.size).mono ?_
  rintro e w' ⟨rfl, h1, h2, h3⟩
  refine ⟨⟨_, rfl⟩, ?_, h3, h2.size⟩
  rw [Lib.strCells_eq, bc_app] at h1
  exact E.wrote h1 h2 h3
theorem encode_s (w0 w : World) (b : Nat) (S : List UInt8) (A : Option Addr) (l : List Int) (c : Nat) (W : World) (E : EnI w0 w b (Lib.byteCells S) W) (hr : ReadsOf (Value.int .u8) (0 : Int) w0 A l.length l) (hl : l.length ≤ 1000000000) (hbs : S.length ≤ 100000000000) (hc : l.length ≤ c) (hby : Byt l) :
    Calls Try.prog 23 #[.pointer (some ⟨b, 0, none⟩), .slice A l.length c] W fun e w' => e = .returned (.tuple #[]) ∧ EnI w0 w b (Lib.byteCells (S ++ encS l)) w' ∧ EnI w0 W b (Lib.byteCells (S ++ encS l)) w' := by
  refine (encode_is w0 W b _ A l c E.refl hr hl (by rw [Lib.byteCells_length]; exact hbs) hc hby).mono ?_
  rintro e w' ⟨rfl, h⟩
  rw [b8_cells (encB_byt l), bc_app] at h
  exact ⟨rfl, E.wrote0 h h.bel, h⟩
theorem wb_s (lo m : Nat) (w0 w : World) (b : Nat) (S : List UInt8) (c : UInt8) (W : World) (E : EnI w0 w b (Lib.byteCells S) W) (hl : S.length + 1 ≤ 140737488355328) :
    CallsIn (Fence.wide.inRound lo) m Try.prog 24 #[.pointer (some ⟨b, 0, none⟩), .int .u8 (c.toNat : Int)] W fun e w' => e = .returned .nilIface ∧ EnI w0 w b (Lib.byteCells (S ++ [c])) w' ∧ Lib.OthersKept 5 (some b) W w' := by
  refine (wb_in lo m w0 w b _ _ W E (by rw [Lib.byteCells_length]; exact hl)).mono ?_
  rintro e w' ⟨rfl, h1, h2⟩
  refine ⟨rfl, ?_, h2⟩
  rw [show [Value.int .u8 (c.toNat : Int)] = Lib.byteCells [c] from rfl, bc_app] at h1
  exact h1
/-- A string of bytes in memory. -/
structure Rw where
  a : Option Addr
  l : List Int
  c : Nat
def rwV (r : Rw) : Value := .slice r.a r.l.length r.c
abbrev rw0 : Rw := ⟨none, [], 0⟩
structure RwOk (w : World) (r : Rw) : Prop where
  rr : ReadsOf (Value.int .u8) (0 : Int) w r.a r.l.length r.l
  cc : r.l.length ≤ r.c
  bb : Byt r.l
  nn : r.l.length ≤ 1000000000
structure Chn (w : World) (A : Option Addr) (c : Nat) (rows : List Rw) : Prop where
  r : ReadsOf rwV rw0 w A rows.length rows
  c : rows.length ≤ c
  ok : ∀ r ∈ rows, RwOk w r
/-- The first error of a chain. -/
def chkR : List Rw → Int
  | [] => 0
  | r :: t => if r.l.length = 0 then 17 else if 65536 < r.l.length then 3 else chkR t
def begS : List UInt8 := [45, 45, 45, 45, 45, 66, 69, 71, 73, 78, 32, 67, 69, 82, 84, 73, 70, 73, 67, 65, 84, 69, 45, 45, 45, 45, 45]
def endS : List UInt8 := [45, 45, 45, 45, 45, 69, 78, 68, 32, 67, 69, 82, 84, 73, 70, 73, 67, 65, 84, 69, 45, 45, 45, 45, 45]
def linK (l : List Int) {L : Nat} (xs : List (CK 48 L)) : List UInt8 := xs.flatMap fun x => encS (piece 48 l x) ++ [10]
def linS (l : List Int) : List UInt8 := linK l (ups 48 l.length l.length)
abbrev begN : List UInt8 := [45, 45, 45, 45, 45, 66, 69, 71, 73, 78, 32, 67, 69, 82, 84, 73, 70, 73, 67, 65, 84, 69, 45, 45, 45, 45, 45, 10]
abbrev endN : List UInt8 := [45, 45, 45, 45, 45, 69, 78, 68, 32, 67, 69, 82, 84, 73, 70, 73, 67, 65, 84, 69, 45, 45, 45, 45, 45, 10]
def cerS (l : List Int) : List UInt8 := begN ++ linS l ++ endN
def putS (rows : List Rw) : List UInt8 := rows.flatMap fun r => cerS r.l
def putP (rows : List Rw) : List UInt8 × Int :=
  if 64 < rows.length then ([], 3) else if chkR rows ≠ 0 then ([], chkR rows) else if 1048576 < (putS rows).length then ([], 3) else (putS rows, 0)
theorem chkR_drop {rows : List Rw} {k : Nat} (h : k < rows.length) : chkR (rows.drop k) = if (rows.getD k rw0).l.length = 0 then 17 else if 65536 < (rows.getD k rw0).l.length then 3 else chkR (rows.drop (k + 1)) := by
  rw [List.drop_eq_getElem_cons h, chkR]
  simp [List.getD_eq_getElem?_getD, List.getElem?_eq_getElem h]
theorem chkR_ok : ∀ {rows : List Rw}, chkR rows = 0 → ∀ r ∈ rows, r.l.length ≠ 0 ∧ r.l.length ≤ 65536
  | [], _, r, hr => by cases hr
  | x :: t, h, r, hr => by
    unfold chkR at h
    by_cases h1 : x.l.length = 0
    · rw [if_pos h1] at h; cases h
    · rw [if_neg h1] at h
      by_cases h2 : 65536 < x.l.length
      · rw [if_pos h2] at h; cases h
      · rw [if_neg h2] at h
        rcases List.mem_cons.1 hr with rfl | hr
        · exact ⟨h1, by omega⟩
        · exact chkR_ok h r hr
theorem encS_len (l : List Int) : (encS l).length ≤ 4 * l.length := by
  have := encB_len l
  unfold encS b8; rw [List.length_map]; exact this
theorem linK_len (l : List Int) {L : Nat} (xs : List (CK 48 L)) : (linK l xs).length ≤ 193 * xs.length := by
  induction xs with
  | nil => simp [linK]
  | cons a r ih =>
    unfold linK at *
    simp only [List.flatMap_cons, List.length_append, List.length_cons, List.length_nil]
    have := encS_len (piece 48 l a)
    have h2 : (piece 48 l a).length ≤ 48 := by unfold piece; rw [List.length_take]; omega
    omega
theorem cerS_len (l : List Int) : (cerS l).length ≤ 60 + 193 * l.length := by
  unfold cerS linS
  have h1 := linK_len l (ups 48 l.length l.length)
  have h2 := ups_len 48 l.length l.length
  simp only [List.length_append, show begN.length = 28 from rfl, show endN.length = 26 from rfl]
  omega
theorem putS_len : ∀ {rows : List Rw}, (∀ r ∈ rows, r.l.length ≤ 65536) → (putS rows).length ≤ 13000000 * rows.length
  | [], _ => by simp [putS]
  | x :: t, h => by
    have ih := putS_len (rows := t) (fun r hr => h r (by simp [hr]))
    have h1 := cerS_len x.l
    have h2 := h x (by simp)
    unfold putS at *
    rw [List.flatMap_cons, List.length_append, List.length_cons]
    omega
structure PutS (w : World) (b : Nat) (S : List UInt8) (Ds : List Nat) (W : World) : Prop where
  e : EnI w w b (Lib.byteCells S) W
  m : Marks w.heap.size W.heap.size Ds W
theorem putS_take {rows : List Rw} {j : Nat} (h : j < rows.length) : putS (rows.take (j + 1)) = putS (rows.take j) ++ cerS (rows.getD j rw0).l := by
  unfold putS
  rw [List.take_add_one, List.getElem?_eq_getElem h, Option.toList_some, List.flatMap_append, List.getD_eq_getElem?_getD, List.getElem?_eq_getElem h, Option.getD_some]
  simp
set_option maxHeartbeats 4000000 in
theorem put_any (A : Option Addr) (c : Nat) (rows : List Rw) (w : World) (h : Chn w A c rows) (hn : rows.length ≤ 100000) :
    Calls Try.prog 10 #[.slice A rows.length c] w fun e w' => e = .returned (.tuple #[.string ⟨(putP rows).1.toArray⟩, .int .i64 (putP rows).2]) ∧ Below w.heap.size w w' := by
  have H := Lib.hid h
  clear h
  by_cases h64 : 64 < rows.length
  · have hP : Hid (putP rows = ([], 3)) := by show _ = _; unfold putP; rw [if_pos h64]
    go_enter Try.func10, Try.ntmps10
    go_wp2
    go_ret2
    refine ⟨?_, Below.refl _ _⟩
    rw [hP.out]
    rfl
  · refine callsIn_wide.1 (callsIn_of_wp_marks (n := 3) Try.func10 rfl trivial ?_ rfl)
    simp only [Try.ntmps10, List.size_toArray, List.length_cons, List.length_nil, Nat.reduceAdd, Nat.reduceSub, Array.replicate_succ, Array.replicate_zero, List.push_toArray, List.append_toArray, List.nil_append, List.cons_append]
    refine wpIn_wide.2 ?_
    go_wp2
    go_loop [15] (fun i => ∃ k : Nat, k ≤ rows.length ∧ i = .int .i64 k ∧ Hid (chkR (rows.drop k) = chkR rows)) (fun i => rows.length - (intOf i).toNat)
    case atStart => exact ⟨0, by omega, rfl, rfl⟩
    case round =>
      obtain ⟨k, hk, rfl, hC⟩ := hrel
      by_cases hlt : k < rows.length
      · obtain ⟨ad, hA, hc⟩ := H.out.r.2.2 (by omega)
        subst hA
        have hck := hc k hlt
        have hd := chkR_drop hlt
        have HD := Lib.hid (hC.out.symm.trans hd)
        clear hd hc
        unfold rwV at hck
        generalize hR : rows.getD k rw0 = R at *
        by_cases h1 : R.l.length = 0
        · have hP : Hid (putP rows = ([], 17)) := by
            show _ = _
            have e : chkR rows = 17 := by rw [HD.out, if_pos h1]
            unfold putP; rw [if_neg h64, if_pos (by rw [e]; decide), e]
          go_wp2
          refine ⟨_, results_tmp2 rfl _ _ _, ?_, Below.refl _ _⟩
          rw [hP.out]
          rfl
        · by_cases h2 : 65536 < R.l.length
          · have hP : Hid (putP rows = ([], 3)) := by
              show _ = _
              have e : chkR rows = 3 := by rw [HD.out, if_neg h1, if_pos h2]
              unfold putP; rw [if_neg h64, if_pos (by rw [e]; decide), e]
            go_wp2
            refine ⟨_, results_tmp2 rfl _ _ _, ?_, Below.refl _ _⟩
            rw [hP.out]
            rfl
          · have HN : Hid (chkR (rows.drop (k + 1)) = chkR rows) := by
              show _ = _
              rw [HD.out, if_neg h1, if_neg h2]
            go_wp2
            go_round
            case rel => exact ⟨k + 1, by omega, by go_num, HN⟩
            case measure => simp [intOf]; omega
      · obtain rfl : k = rows.length := by omega
        have hC0 : chkR rows = 0 := by rw [← hC.out, List.drop_length]; rfl
        have HC0 := Lib.hid hC0
        clear hC0 hC
        go_upto_region 13 with fail
        have hE : EnI w w w.heap.size (Lib.byteCells (putS (rows.take 0))) (w.alloc (.cells #[.pointer none, .slice none 0 0] 45)) :=
          ⟨.inl ⟨Nat.le_refl _, _, heap_alloc_new w _, ⟨rfl, .inl ⟨rfl, rfl⟩⟩, by simp [Value.ownBlock]⟩, (Below.refl _ _).alloc (Nat.le_refl _) _, (Lib.OthersKept.refl _ _ _).alloc _, by simp⟩
        have P0 : Hid (PutS w w.heap.size (putS (rows.take 0)) [] (w.alloc (.cells #[.pointer none, .slice none 0 0] 45))) := ⟨hE, Marks.nil _ _ _⟩
        clear hE
        generalize w.alloc (.cells #[.pointer none, .slice none 0 0] 45) = Wa at *
        have hok := chkR_ok HC0.out
        have HOK := Lib.hid hok
        clear hok
        refine wp_loop (fun a' w' => ∃ (j : Nat) (Ds : List Nat) (v8 v30 v31 v32 v33 v34 v35 v36 v41 v42 : Value), j ≤ rows.length ∧ v30 = .int .i64 (j : Int) ∧ Hid (PutS w w.heap.size (putS (rows.take j)) Ds w') ∧
          a' = { tmps := #[.slice A rows.length c, undef, u2, u3, undef, u5, .pointer (some ⟨w.heap.size, 0, none⟩), undef, v8, undef, .slice A rows.length c, .int .i64 (rows.length : Int), .bool (decide (64 < (rows.length : Int))), .slice A rows.length c, .int .i64 (rows.length : Int), .int .i64 (rows.length : Int), .bool false, u17, u18, u19, u20, u21, u22, u23, u24, u25, u26, u27, .slice A rows.length c, .int .i64 (rows.length : Int), v30, v31, v32, v33, v34, v35, v36, undef, undef, undef, undef, v41, v42, undef, undef, undef], defers := Ds.map mkD })
          (fun a' _ => rows.length - (intOf (a'.tmps.getD 30 undef)).toNat) ?_ ?_
        · exact ⟨0, [], _, _, _, _, _, _, _, _, _, _, Nat.zero_le _, rfl, P0, rfl⟩
        rintro a' wr ⟨j, Ds, v8, v30, v31, v32, v33, v34, v35, v36, v41, v42, hj, rfl, P, rfl⟩
        by_cases hlt : j < rows.length
        · obtain ⟨ad, hA, hcl⟩ := (H.out.r.below P.out.e.bel).2.2 (by omega)
          subst hA
          have hck := hcl j hlt
          have hRm : rows.getD j rw0 ∈ rows := by
            rw [List.getD_eq_getElem?_getD, List.getElem?_eq_getElem hlt, Option.getD_some]; exact List.getElem_mem hlt
          have hR1 := H.out.ok _ hRm
          have hR2 := HOK.out _ hRm
          have hPT := Lib.hid (putS_take hlt)
          have hSl := Lib.hid (putS_len (rows := rows.take j) (fun r hr => (HOK.out r (List.mem_of_mem_take hr)).2))
          have hSl2 : (putS (rows.take j)).length ≤ 900000000 := by
            have := hSl.out; rw [List.length_take] at this; omega
          unfold rwV at hck
          have HR1 := Lib.hid hR1
          obtain ⟨hR3, hR4⟩ := hR2
          clear hcl hRm hR1
          generalize rows.getD j rw0 = R at *
          generalize putS (rows.take j) = S at *
          have hbl := bld_lt P.out.e.bld
          go_wp2_with (first
            | (go_at_call 21; refine (ws_is w w w.heap.size S begN wr P.out.e (by simp; omega)).mono ?_; rintro e W1 ⟨⟨v34, rfl⟩, hE, hK, hz⟩; have E1 := Lib.hid hE; have M1 := Lib.hid ((P.out.m.kept hK (bld_cells P.out.e.bld)).grow hz); clear hE hK hz)
            | (go_at_call 22; refine (callsIn_wide.1 (chunk_in Fence.wide 2 trivial rfl R.a R.l.length R.c 48 (by omega) _)).mono ?_; rintro e w' ⟨rfl, rfl⟩))
          have hW1 := E1.out.size
          have hb1 := bld_lt E1.out.bld
          have X1 := Lib.hid (heap_alloc_new W1 (.cells #[.slice R.a R.l.length R.c] 24))
          have E2 := Lib.hid ((E1.out.alloc (.cells #[.slice R.a R.l.length R.c] 24)).alloc (.cells #[.int .i64 48] 3))
          have M2 : Hid (Marks w.heap.size W1.heap.size Ds ((W1.alloc (.cells #[.slice R.a R.l.length R.c] 24)).alloc (.cells #[.int .i64 48] 3))) := (M1.out.others (KeepsOthers.alloc _ _)).others (KeepsOthers.alloc _ _)
          have X12 := Lib.hid ((Below.heap_alloc (W1.alloc (.cells #[.slice R.a R.l.length R.c] 24)) (.cells #[.int .i64 48] 3) W1.heap.size (by simp)).trans X1.out)
          have X2 := Lib.hid (heap_alloc_new (W1.alloc (.cells #[.slice R.a R.l.length R.c] 24)) (.cells #[.int .i64 48] 3))
          generalize hWc : (W1.alloc (.cells #[.slice R.a R.l.length R.c] 24)).alloc (.cells #[.int .i64 48] 3) = Wc at *
          have hsc : Wc.heap.size = W1.heap.size + 1 + 1 := by rw [← hWc]; simp
          rw [show (W1.alloc (.cells #[.slice R.a R.l.length R.c] 24)).heap.size = W1.heap.size + 1 by simp] at X2
          clear hWc X1
          refine (wpIn_wide (n := 3)).1 ?_
          refine wpIn_rangeFunc_ownG rfl (by omega) (gf := 39) (lb := #[.pointer (some ⟨W1.heap.size, 0, none⟩), .pointer (some ⟨W1.heap.size + 1, 0, none⟩)]) rfl trivial (enters_of Try.func39 (by kernel_rfl) rfl)
            (chunk_stops (3 - 1) (by omega) W1.heap.size R.a R.l.length R.c 48 (by omega) (by omega) (by omega) HR1.out.cc Wc (by omega) ⟨X12.out, X2.out⟩) keepB_t keepB_b (Below.refl _ _) (fun _ => rfl)
            (fun pre W => EnI w w w.heap.size (Lib.byteCells (S ++ begN ++ linK R.l pre)) W ∧ Marks w.heap.size W1.heap.size Ds W) (fun _ _ _ => False)
            ?own (fun _ _ _ _ _ hs _ _ => hs) ?h0
            (fun x => { tmps := #[.slice (some ad) rows.length c, undef, u2, u3, undef, u5, .pointer (some ⟨w.heap.size, 0, none⟩), undef, .slice R.a R.l.length R.c, ckV R.a 48 R.l.length x, .slice (some ad) rows.length c, .int .i64 (rows.length : Int), .bool (decide (64 < (rows.length : Int))), .slice (some ad) rows.length c, .int .i64 (rows.length : Int), .int .i64 (rows.length : Int), .bool false, u17, u18, u19, u20, u21, u22, u23, u24, u25, u26, u27, .slice (some ad) rows.length c, .int .i64 (rows.length : Int), .int .i64 (j : Int), .bool true, .pointer (some (ad.add j)), .slice R.a R.l.length R.c, v34, .slice R.a R.l.length R.c, .func (.func 39) #[] #[.pointer (some ⟨W1.heap.size, 0, none⟩), .pointer (some ⟨W1.heap.size + 1, 0, none⟩)], ckV R.a 48 R.l.length x, undef, undef, undef, v41, v42, undef, undef, undef], defers := [] }) ?assign ?body ?done ?stop
          case own =>
            intro pre W W' row h hg hr'
            exact ⟨h.1.own hg hr' (by omega) (by omega), h.2.own hg hr' (by omega)⟩
          case h0 => exact ⟨by simpa [linK] using E2.out, M2.out⟩
          case assign =>
            intro lo x W K hK
            gi_wp2
            exact hK
          case body =>
            rintro lo pre x W ⟨PE, PM⟩ hlp
            have hx := x.2
            have hp : ReadsOf (Value.int .u8) (0 : Int) w (R.a.map (·.add (48 * x.1))) (min 48 (R.l.length - 48 * x.1)) (piece 48 R.l x) := by
              have h1 := (HR1.out.rr).drop_ (c := R.l.length + 1) (48 * x.1) (by omega) (by omega)
              rw [if_neg (by omega)] at h1
              exact h1.take_ (min 48 (R.l.length - 48 * x.1)) (by omega) |> fun h => by
                unfold piece
                rwa [show (R.l.drop (48 * x.1)).take (min 48 (R.l.length - 48 * x.1)) = (R.l.drop (48 * x.1)).take 48 from by rw [List.take_eq_take_iff, List.length_drop]; omega] at h
            have hpl : (piece 48 R.l x).length = min 48 (R.l.length - 48 * x.1) := hp.1
            have hpb : Byt (piece 48 R.l x) := fun y hy => HR1.out.bb y (List.mem_of_mem_drop (List.mem_of_mem_take hy))
            have hbs2 : (S ++ begN ++ linK R.l pre).length ≤ 1000000000 := by
              have := linK_len R.l pre
              simp only [List.length_append, show begN.length = 28 from rfl]; omega
            have hEq : Hid (S ++ begN ++ linK R.l (pre ++ [x]) = S ++ begN ++ linK R.l pre ++ encS (piece 48 R.l x) ++ [10]) := by
              show _ = _
              unfold linK
              rw [List.flatMap_append]
              simp [List.append_assoc]
            unfold ckV
            rw [← hpl] at hp ⊢
            have HP := Lib.hid hp
            have hel := encS_len (piece 48 R.l x)
            have hpl2 : (piece 48 R.l x).length ≤ 48 := by omega
            clear hp hpl
            generalize R.a.map (·.add (48 * x.1)) = A' at *
            generalize piece 48 R.l x = pc at *
            generalize S ++ begN ++ linK R.l pre = S2 at *
            have PEH := Lib.hid PE
            have PMH := Lib.hid PM
            clear PE PM
            gi_wp2_with (first
              | (refine ⟨trivial, ?_⟩; gi_at_call 23; refine (CallsIn.inRound lo (callsIn_wide.2 (encode_s w W w.heap.size S2 A' pc _ W PEH.out.refl HP.out (by omega) (by omega) (Nat.le_refl _) hpb))).mono ?_; rintro e W2 ⟨rfl, hE, -⟩; have E3 := Lib.hid hE; clear hE)
              | (refine ⟨trivial, ?_⟩; gi_at_call 24; refine (wb_s lo _ w W w.heap.size _ 10 W2 E3.out (by simp; omega)).mono ?_; rintro e W3 ⟨rfl, hE, -⟩; have E4 := Lib.hid hE; clear hE))
            refine ⟨⟨E4.out.size, fun k o hkC hk ho => E4.out.oth k o hk (fun e => ?_) (fun c fz e => by subst e; cases ho)⟩, fun k hk cs t fz ne h => E4.out.oth k _ h (fun e => ?_) (fun c' fz' e => by cases e; exact ne rfl), by rw [hEq.out]; exact PEH.out.wrote0 E4.out E4.out.bel, PMH.out.kept E4.out.oth (bld_cells PEH.out.bld)⟩
            · cases e; omega
            · cases e; omega
          case done =>
            rintro D ys W hD ⟨k, hk, rfl⟩ ⟨hE, hM⟩ hK
            have E5 := Lib.hid hE
            have M5 := Lib.hid hM
            have hDW : D < W.heap.size := (Array.getElem?_eq_some_iff.1 hK).1
            have HK := Lib.hid hK
            have hLk : Hid (linK R.l (ups 48 R.l.length k) = linS R.l) := by show _ = _; rw [ups_all (by omega) hk]; rfl
            clear hE hM hK
            have hlS : (linS R.l).length ≤ 193 * R.l.length := by
              have h1 := linK_len R.l (ups 48 R.l.length R.l.length)
              have h2 := ups_len 48 R.l.length R.l.length
              unfold linS; omega
            go_wp2_with (first
              | (go_at_call 21; refine (ws_is w w w.heap.size _ endN W E5.out (by rw [hLk.out]; simp; omega)).mono ?_; rintro e W6 ⟨⟨v41', rfl⟩, hE, hK, hz⟩; have E6 := Lib.hid hE; have M6 := Lib.hid (((M5.out.cons (hi' := W.heap.size) (by omega) hDW (by omega) HK.out).kept hK (bld_cells E5.out.bld)).grow hz); clear hE hK hz))
            refine ⟨⟨j + 1, D :: Ds, _, _, _, _, _, _, _, _, _, _, by omega, by go_num, ?_, rfl⟩, by simp [intOf]; omega⟩
            refine ⟨?_, M6.out⟩
            have := E6.out
            rw [hLk.out] at this
            rw [hPT.out]
            unfold cerS
            simpa only [List.append_assoc] using this
          case stop =>
            rintro D c pre W _ _ h _
            exact h.elim
        · obtain rfl : j = rows.length := by omega
          have E7 := Lib.hid P.out.e
          have M7 := Lib.hid P.out.m
          have hl7 := putS_len (rows := rows) (fun r hr => (HOK.out r hr).2)
          rw [List.take_length] at E7
          have HP7 : Hid (putP rows = if 1048576 < (putS rows).length then ([], 3) else (putS rows, 0)) := by
            show _ = _
            unfold putP; rw [if_neg h64, if_neg (by rw [HC0.out]; simp)]
          clear P
          have hlen := Lib.byteCells_length (putS rows)
          generalize putS rows = S at *
          have CL := Lib.hid (fun W (h : Lib.IsBuilderF 45 5 w.heap.size w.heap.size (Lib.byteCells S) W) => (Try.Builder_Len_f w.heap.size w.heap.size (Lib.byteCells S) W h).mono (R' := fun e w' => e = .returned (.int .i64 (S.length : Int)) ∧ W = w') (fun e w' h => ⟨by rw [← hlen]; exact h.1, h.2.symm⟩))
          clear hlen
          by_cases hbig : 1048576 < S.length
          · rw [if_pos hbig] at HP7
            go_wp2_with (first
              | (go_at_call 25; refine (CL.out _ E7.out.bld).mono ?_; rintro e W8 ⟨rfl, rfl⟩))
            refine leaves_marks (lo := w.heap.size) (hi := wr.heap.size) (fun W' => Below w.heap.size w W') ?_ ?_ Ds _ M7.out E7.out.bel
            · rintro W D h2 hD hK
              exact h2.trans (belowK_b (w := w) (Nat.le_refl _) _ D _ _ hD hK rfl rfl)
            · rintro W h2
              exact ⟨_, results_tmp2 rfl _ _ _, by rw [HP7.out]; rfl, h2⟩
          · rw [if_neg hbig] at HP7
            go_wp2_with (first
              | (go_at_call 25; refine (CL.out _ E7.out.bld).mono ?_; rintro e W8 ⟨rfl, rfl⟩)
              | (go_at_call 26; refine (Try.Builder_String_any_k w.heap.size w.heap.size _ _ E7.out.bld E7.out.bel.size).mono ?_; rintro e W8 ⟨rfl, h1, h2, h3⟩; have B8 := Lib.hid (E7.out.bel.trans h2); have M8 := Lib.hid (M7.out.kept h3 (bld_cells E7.out.bld)); clear h1 h2 h3))
            refine leaves_marks (lo := w.heap.size) (hi := wr.heap.size) (fun W' => Below w.heap.size w W') ?_ ?_ Ds _ M8.out B8.out
            · rintro W D h2 hD hK
              exact h2.trans (belowK_b (w := w) (Nat.le_refl _) _ D _ _ hD hK rfl rfl)
            · rintro W h2
              exact ⟨_, results_tmp2 rfl _ _ _, by rw [HP7.out]; rfl, h2⟩
end Go.Proofs.Ytbdccfjeeabpaaa
