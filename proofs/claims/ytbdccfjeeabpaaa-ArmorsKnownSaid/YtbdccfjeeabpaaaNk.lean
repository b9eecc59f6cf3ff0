/- Chapter 22 (armors): Get: a line. -/
import Derived.Test.YtbdccfjeeabpaaaNj
import Derived.Sort.CutIn
import Derived.Deep.AppendLies
import Derived.Outline
namespace Go.Proofs.Ytbdccfjeeabpaaa
open Go.RowKit Go.Shelf
open Go.Proofs.YtbdccfjeeabpaaaW.PrintWords (ReadsOf blk_cell)
attribute [local go_sem] Oper.semAt_some
set_option linter.unusedSimpArgs false
set_option linter.unusedVariables false
set_option maxRecDepth 50000
/-- The body of the first range over a function. -/
def rfBody : Code → Option Code
  | .seq a b => (rfBody a).or (rfBody b)
  | .block _ c => rfBody c
  | .scope c => rfBody c
  | .loop c => rfBody c
  | .rangeFunc _ _ _ b => some b
  | _ => none
def BodyWp (lo : Nat) (Q : Exit → Act → World → Prop) (a : Act) (w : World) : Prop := ((rfBody (Try.f11.body.getD .skip)).getD .skip).wpIn (Fence.wide.inRound lo) (3 - 1 - 1) Try.prog Q a w
/-- How a round of Get's loop ends. -/
def BPost (w : World) (D : Nat) (st : GS) (n : Nat) (s : List UInt8) (W : World) : Exit → Act → World → Prop
  | .normal, _, W' => BK (D + 1 + 1 + 1 + 1 + 1) W W' ∧ (gstep st s).2 = 0 ∧ HS w D (gstep st s).1 n 0 W'
  | .ret, _, W' => BK (D + 1 + 1 + 1 + 1 + 1) W W' ∧ (gstep st s).2 ≠ 0 ∧ ∃ vi vla vm vb, BX w D (.slice none 0 0) (.int .i64 n) (.int .i64 (gstep st s).2) vi vla vm vb W'
  | _, _, _ => False
def bfr (S : ByteArray) (w : World) (D : Nat) (v17 gv : Value) (n : Nat) (s : List UInt8) : Array Value :=
  #[.string S, undef, .pointer (some ⟨w.heap.size, 0, none⟩), .pointer (some ⟨w.heap.size + 1, 0, none⟩), .pointer (some ⟨w.heap.size + 1 + 1, 0, none⟩), .pointer (some ⟨D, 0, none⟩), .pointer (some ⟨D + 1, 0, none⟩), .pointer (some ⟨D + 1 + 1, 0, none⟩), .pointer (some ⟨D + 1 + 1 + 1, 0, none⟩), .pointer (some ⟨D + 1 + 1 + 1 + 1, 0, none⟩),
    .int .i64 (n : Int), .string ⟨s.toArray⟩, undef, .string S, .int .i64 (S.size : Int), .bool (decide (1048576 < (S.size : Int))), .agg (tabC 64), v17, .string S, gv, .int .i64 (n : Int), .string ⟨s.toArray⟩,
    undef, undef, undef, undef, undef, undef, undef, undef, undef, undef, undef, undef, undef, undef, undef, undef, undef, undef, undef, undef, undef, undef, undef, undef, undef, undef, undef, undef, undef, undef, undef, undef, undef, undef, undef, undef, undef, undef, undef, undef, undef, undef, undef, undef, undef, undef, undef, undef, undef, undef, undef, undef, undef, undef, undef, undef, undef, undef, undef, undef, undef, undef, undef, undef, undef, undef, undef, undef]
theorem bfr_size (S : ByteArray) (w : World) (D : Nat) (v17 gv : Value) (n : Nat) (s : List UInt8) : (bfr S w D v17 gv n s).size = 90 := rfl
theorem HS.mk' {w : World} {D : Nat} {x : GS} {m err : Int} {W : World} {vl vb : Value} {rows : List Rw} (hX : BX w D vl (.int .i64 0) (.int .i64 err) (.bool x.ins) (.int .i64 x.last) (.int .i64 m) vb W) (hO : OW (D + 1 + 1 + 1 + 1 + 1 + 1) vl vb rows x.B x.ins W) (hL : rows.map (·.l) = x.L)
    (h1 : Byt x.B) (h2 : x.B.length ≤ 65536) (h3 : x.L.length ≤ 64 ∧ (x.ins = true → x.L.length < 64)) : HS w D x m err W := ⟨⟨vl, vb, rows, hX, hO, hL⟩, h1, h2, h3⟩
set_option maxHeartbeats 4000000 in
theorem body_skip (lo : Nat) (S : ByteArray) (w : World) (D : Nat) (v17 gv : Value) (st : GS) (m : Int) (n : Nat) (s : List UInt8) (W : World) (hn : n ≤ 2000000) (H : HS w D st m 0 W) (hi : st.ins = false) (hs : s = [] ∨ s.head? = some 35) :
    BodyWp lo (BPost w D st n s W) { tmps := bfr S w D v17 gv n s, defers := [] } W := by
  obtain ⟨vl, vb, rows, hX, hO, hL⟩ := H.ex
  have hg : gstep st s = (st, 0) := by unfold gstep; rw [if_pos hi, if_pos hs]
  have c1 := hX.m.cell
  have f1 := hX.m.fr
  have X1 := Lib.hid (hX.setM (.int .i64 (n : Int)))
  have K1 := Lib.hid (BK.set (g := D + 1 + 1 + 1 + 1 + 1) hX.m (by omega) (.int .i64 (n : Int)))
  have O1 := Lib.hid (hO.ck (ck_set (by omega : D + 1 + 1 + 1 < D + 1 + 1 + 1 + 1 + 1 + 1) (.int .i64 (n : Int))))
  dsimp only [BodyWp, Try.f11, rfBody, Option.getD, Option.or, bfr]
  gi_upto_region 10 with fail
  generalize W.setCell ⟨D + 1 + 1 + 1, 0, none⟩ (.int .i64 (n : Int)) = W1 at *
  have c2 : W1.cell? ⟨D + 1, 0, none⟩ = some (.bool false) := by rw [← hi]; exact X1.out.i.cell
  have HE : Hid (BPost w D st n s W .normal { tmps := #[], defers := [] } W1) := ⟨K1.out, by rw [hg], by rw [hg]; exact .mk' X1.out O1.out hL H.byt H.nb H.nl⟩
  clear c1 f1
  rcases hs with hs | hs
  · subst hs
    gi_wp2
    exact HE.out
  · obtain ⟨r, rfl⟩ : ∃ r, s = 35 :: r := by
      cases s with
      | nil => cases hs
      | cons a r => simp at hs; exact ⟨r, by rw [hs]⟩
    clear hs
    gi_wp2
    exact HE.out
theorem BX.drew {w : World} {D : Nat} {vl ln er i la m vb : Value} {W : World} (h : BX w D vl ln er i la m vb W) : BX w D vl ln er i la m vb W.drew :=
  ⟨h.dw, h.bel.drew, h.l, h.ln, h.er, h.d, h.i, h.la, h.m, h.b⟩
theorem BK.drew {g : Nat} {A B : World} (h : BK g A B) : BK g A B.drew := ⟨h.size, h.same⟩
theorem own_sl {W : World} {base : Nat} {e : TypeId} {v : Value} {n : Nat} {xs : List Value} (h : W.ownsRow base e 1 v n xs) : ∃ A c, v = .slice A n c := by
  rcases h.2 with ⟨rfl, rfl⟩ | ⟨g, cap, cur, rfl, _⟩
  · exact ⟨none, 0, rfl⟩
  · exact ⟨_, cap, rfl⟩
theorem info24 : (Try.prog.info? 24).map (fun i => (i.zero, i.size, i.bytes)) = some (some (.slice none 0 0), 1, 24) := by kernel_rfl
/-- append(l, x): l a list of slices of the call's own. -/
theorem app_l {W : World} (k : Nat) (hk : W.heap.size = k) {base : Nat} {vl ev : Value} {n : Nat} {xs : List Value} (h : W.ownsRow base 24 1 vl n xs) (hn : n ≤ 1000) (hb : base ≤ W.heap.size) (h1 : ev.oneCell' = true) :
    ∃ v' w', (Builtin.append_ #[22, 22] 22 #[vl, .slice (some ⟨k, 0, none⟩) 1 1]).run Try.prog (W.alloc (.cells #[ev] 24)) = .ok v' w' ∧ w'.ownsRow base 24 1 v' (n + 1) (xs ++ [ev]) ∧ (W.alloc (.cells #[ev] 24)).grownBy w' vl.ownBlock := by
  subst hk
  obtain ⟨i0, hi, hz0, hz1, hz2⟩ := info_parts info24
  obtain ⟨v', w', r1, r2, r3, _⟩ := run_append_own_at (P := Try.prog) (W.alloc (.cells #[ev] 24)) base 22 22 24 i0 (.slice none 0 0) 1 24 Try.underlying22 hi hz0 hz1 hz2 rfl (by decide) vl n xs (h.alloc _) ⟨W.heap.size, 0, none⟩ 1 1 [ev] rfl
    (World.news_of_block (cs := #[ev]) (t := 24) (fr := (0, 0)) (heap_alloc_new W _)) (by simpa using h1) (by unfold maxLen; omega) (by omega) (by rw [World.size_alloc]; omega)
  exact ⟨v', w', r1, r2, r3⟩
/-- append(b, part...): b the call's own; part nil, or a block. -/
theorem app_b {W : World} {base B0 : Nat} {vb : Value} {A : Option Addr} {B p : List Int} (h : W.ownsRow base 5 1 vb B.length (B.map (Value.int .u8))) (hp : Ex W B0 A p) (hn : B.length + p.length ≤ 1000000) (hb : base ≤ W.heap.size) :
    ∃ v' w', (Builtin.append_ #[24, 24] 24 #[vb, .slice A p.length p.length]).run Try.prog W = .ok v' w' ∧ w'.ownsRow base 5 1 v' (B ++ p).length ((B ++ p).map (Value.int .u8)) ∧ W.grownBy w' vb.ownBlock ∧ (v'.ownBlock = vb.ownBlock ∨ v'.ownBlock = some W.heap.size) := by
  obtain ⟨i0, hi, hz0, hz1, hz2⟩ := info_parts info5
  rcases hp with ⟨rfl, rfl⟩ | ⟨g, rfl, _, hg⟩
  · refine ⟨vb, W, run_append_owned_none (P := Try.prog) W base 24 24 5 i0 1 Try.underlying24 hi vb _ _ h, by simpa using h, World.grownBy.refl W _, .inl rfl⟩
  · obtain ⟨v', w', r1, r2, r3, _, r4⟩ := run_append_own_at (P := Try.prog) W base 24 24 5 i0 (.int .u8 0) 1 1 Try.underlying24 hi hz0 hz1 hz2 rfl (by decide) vb B.length _ h ⟨g, 0, none⟩ p.length p.length (p.map (Value.int .u8)) (by simp)
      (World.news_of_block hg) (by simp [Value.oneCell']) (by unfold maxLen; omega) (by omega) hb
    refine ⟨v', w', r1, ?_, r3, r4⟩
    rw [List.length_append, List.map_append]
    exact r2
theorem clip_own {W0 : World} {base : Nat} {A : Option Addr} {n c : Nat} {xs : List Value} (h : W0.ownsRow base 5 1 (.slice A n c) n xs) (W : World) : Calls Try.prog 29 #[.slice A n c] W fun e w' => e = .returned (.slice A n n) ∧ W = w' := by
  rcases h.2 with ⟨h1, rfl⟩ | ⟨g, cap, cur, h1, _, _, h2, _⟩
  · cases h1
    go_enter Try.func29, Try.ntmps29
    go_wp2
    go_ret
    exact ⟨rfl, rfl⟩
  · cases h1
    go_enter Try.func29, Try.ntmps29
    go_wp2
    go_ret
    exact ⟨rfl, rfl⟩
theorem own_base_lt {W : World} {base : Nat} {e : TypeId} {v : Value} {n : Nat} {xs : List Value} (h : W.ownsRow base e 1 v n xs) : ∀ k, v.ownBlock = some k → base ≤ k := fun k hk => (own_lt h hk).1
/-- The list grows by the certificate that ends. -/
theorem ow_end {W w' : World} {base : Nat} {vl v' ev : Value} {A : Option Addr} {c : Nat} {rows : List Rw} {B : List Int} {ins : Bool} (h : OW base vl (.slice A B.length c) rows B ins W) (hB : B ≠ []) (hbyt : Byt B) (hn : B.length ≤ 65536)
    (hl : w'.ownsRow base 24 1 v' (rows.length + 1) (rows.map rwV ++ [.slice A B.length B.length])) (hg : (W.alloc (.cells #[ev] 24)).grownBy w' vl.ownBlock) : OW base v' (.slice A B.length c) (rows ++ [⟨A, B, B.length⟩]) B false w' := by
  have keep : ∀ (k : Nat) (cs : Array Value), W.heap[k]? = some (.cells cs 5 (0, 0)) → w'.heap[k]? = some (.cells cs 5 (0, 0)) := fun k cs hk => by
    have h1 : (W.alloc (.cells #[ev] 24)).heap[k]? = some (.cells cs 5 (0, 0)) := (Below.heap_alloc _ _ _ (Array.getElem?_eq_some_iff.1 hk).1).trans hk
    rw [hg.block k (Array.getElem?_eq_some_iff.1 h1).1 (fun e => own_block_type h.l hk (by decide) e.symm)]
    exact h1
  have hb' : w'.ownsRow base 5 1 (.slice A B.length c) B.length (B.map (Value.int .u8)) := by
    refine ⟨h.b.1, ?_⟩
    rcases h.b.2 with h2 | ⟨g, cap, cur, h1, h2, h3, h4⟩
    · exact .inl h2
    · exact .inr ⟨g, cap, cur, h1, h2, keep _ _ h3, h4⟩
  refine ⟨by simpa [rwV] using hl, fun r hr => ?_, hb', fun h => by cases h⟩
  rcases List.mem_append.1 hr with hr | hr
  · obtain ⟨g, cur, h1, h2, h3, h4⟩ := (h.r r hr).g
    exact ⟨(h.r r hr).c, ⟨g, cur, h1, h2, keep _ _ h3, h4⟩, (h.r r hr).byt, (h.r r hr).n⟩
  · obtain rfl := List.mem_singleton.1 hr
    refine ⟨rfl, ?_, hbyt, List.length_pos_iff.2 hB, hn⟩
    rcases hb'.2 with ⟨_, h2⟩ | ⟨g, cap, cur, h1, h2, h3, h4, h5, h6, h7⟩
    · exact absurd (List.eq_nil_of_length_eq_zero h2) hB
    · injection h1 with h1a h1b h1c
      exact ⟨g, cur, h1a, h2, h3, by rw [Nat.mul_one] at h7; exact h7⟩
/-- The present certificate grows. -/
theorem ow_app {W w' : World} {base : Nat} {vl vb v' : Value} {rows : List Rw} {B p : List Int} (h : OW base vl vb rows B true W) (hb' : w'.ownsRow base 5 1 v' (B ++ p).length ((B ++ p).map (Value.int .u8))) (hg : W.grownBy w' vb.ownBlock) (hv : v'.ownBlock = vb.ownBlock ∨ v'.ownBlock = some W.heap.size) :
    OW base vl v' rows (B ++ p) true w' := by
  refine ⟨⟨h.l.1, ?_⟩, fun r hr => ?_, hb', fun _ r hr a ha => ?_⟩
  · rcases h.l.2 with h2 | ⟨g, cap, cur, h1, h2, h3, h4⟩
    · exact .inl h2
    · exact .inr ⟨g, cap, cur, h1, h2, ck_grown (b2 := 0) (base := 0) hg g cur 24 h3 (own_block_type h.b h3 (by decide)), h4⟩
  · obtain ⟨g, cur, h1, h2, h3, h4⟩ := (h.r r hr).g
    exact ⟨(h.r r hr).c, ⟨g, cur, h1, h2, ck_grown (b2 := 0) (base := 0) hg g cur 5 h3 (h.ne rfl r hr _ h1), h4⟩, (h.r r hr).byt, (h.r r hr).n⟩
  · rcases hv with hv | hv
    · rw [hv]; exact h.ne rfl r hr a ha
    · rw [hv]
      obtain ⟨g, cur, h1, h2, h3, h4⟩ := (h.r r hr).g
      rw [h1] at ha
      cases ha
      have hlt := (Array.getElem?_eq_some_iff.1 h3).1
      intro e
      have e2 : W.heap.size = g := Option.some.inj e
      exact absurd hlt (by rw [e2]; exact Nat.lt_irrefl _)
theorem BX.grown {w : World} {D base : Nat} {vl ln er i la m vb : Value} {W W' : World} (h : BX w D vl ln er i la m vb W) {row : Option Nat} (hg : W.grownBy W' row) (hr : ∀ k, row = some k → base ≤ k) (hb : D + 1 + 1 + 1 + 1 < base) : BX w D vl ln er i la m vb W' := by
  have := h.dw
  have := h.lt
  exact h.keep (Below.grown (Below.refl _ _) hg h.bel.size (fun k e => by have := hr k e; omega)) (fun k hk => hg.block k (by omega) (fun e => by have := hr k e.symm; omega))
theorem OW.drew {base : Nat} {vl vb : Value} {rows : List Rw} {B : List Int} {ins : Bool} {W : World} (h : OW base vl vb rows B ins W) : OW base vl vb rows B ins W.drew := h.ck (fun _ _ _ _ h => h)
end Go.Proofs.Ytbdccfjeeabpaaa
