/- Chapter 22 (armors): encode. -/
import Derived.Test.YtbdccfjeeabpaaaNd
import Derived.Lib.BufferKept
import Derived.Stop.RegionWithIn
namespace Go.Proofs.Ytbdccfjeeabpaaa
open Go.RowKit Go.Shelf
open Go.Proofs.YtbdccfjeeabpaaaW.PrintWords (ReadsOf blk_cell)
attribute [local go_sem] Oper.semAt_some
set_option linter.unusedSimpArgs false
set_option linter.unusedVariables false
set_option maxRecDepth 50000
theorem chunk_stops (n : Nat) (hn : 1 ≤ n) (g : Nat) (A : Option Addr) (L c m : Nat) (hm : 1 ≤ m) (hm2 : m ≤ 48) (hL : L ≤ 1099511627776) (hc : L ≤ c) (w : World) (hg : g + 1 < w.heap.size) (hC : ChB g A L c m w) :
    SeqStopsK Fence.wide n Try.prog 39 #[.pointer (some ⟨g, 0, none⟩), .pointer (some ⟨g + 1, 0, none⟩)] (fun x => #[ckV A m L x]) (KeepB g) (fun xs => ∃ k, L ≤ m * k ∧ xs = ups m L k) (fun _ => True) (L + 1) w := fun l J Jx W hW hJ hJx hY h0 =>
  (chunk1_in n hn l g A L c m hm hm2 hL hc J Jx hY (fun pre W k h => hJ pre W (W.drewN k) none h ⟨rfl, rfl, rfl, Nat.le_refl _, fun _ _ _ => rfl⟩ (fun _ e => by cases e)) W
    ⟨by rw [hW.block g (by omega)]; exact hC.s, by rw [hW.block (g + 1) (by omega)]; exact hC.n⟩ h0).mono fun _ _ h => ⟨h.1, h.2.elim (fun ⟨k, h1, h2⟩ => .inl ⟨_, ⟨k, h1, rfl⟩, h2⟩) (fun ⟨pre, h⟩ => .inr ⟨pre, trivial, h⟩)⟩
/-- The character of a number below 64. -/
def al (v : Int) : Int := ((alphB.data.getD v.toNat 0).toNat : Int)
def bts (x : List Int) : Int := x.getD 0 0 * 65536 + x.getD 1 0 * 256 + x.getD 2 0
def chr (x : List Int) (j : Nat) : Int := if x.length < j then 61 else al (bts x / 2 ^ (18 - 6 * j) % 64)
def e4 (x : List Int) : List Int := [chr x 0, chr x 1, chr x 2, chr x 3]
def piece (m : Nat) (l : List Int) {L : Nat} (x : CK m L) : List Int := (l.drop (m * x.1)).take m
def encK (m : Nat) (l : List Int) {L : Nat} (xs : List (CK m L)) : List Int := xs.flatMap fun x => e4 (piece m l x)
/-- Blocks of the two kinds that a builder has stand. -/
def Keep2 (A C : World) : Prop := ∀ (k : Nat) (cs : Array Value) (t : TypeId) (fz : Nat × Nat), (t = 45 ∨ t = 5) → A.heap[k]? = some (.cells cs t fz) → C.heap[k]? = some (.cells cs t fz)
theorem bld_keep {B b : Nat} {bs : List Value} {W W' : World} (h : Lib.IsBuilderF 45 5 B b bs W) (k : Keep2 W W') : Lib.IsBuilderF 45 5 B b bs W' := by
  have one : ∀ p, Lib.BuilderAtF 45 5 B b p bs W → Lib.BuilderAtF 45 5 B b p bs W' := by
    rintro p ⟨hB, v, hb, ⟨hl, hr⟩, hne⟩
    refine ⟨hB, v, k _ _ _ _ (.inl rfl) hb, ⟨hl, ?_⟩, hne⟩
    rcases hr with hr | ⟨g, cap, cur, fz, h1, h2, h3, h4⟩
    · exact .inl hr
    · exact .inr ⟨g, cap, cur, fz, h1, h2, k _ _ _ _ (.inr rfl) h3, h4⟩
  exact h.elim (fun h => .inl (one _ h)) (fun h => .inr (one _ h))
theorem bld_lt {B b : Nat} {bs : List Value} {W : World} (h : Lib.IsBuilderF 45 5 B b bs W) : b < W.heap.size := h.elim (fun h => h.lt) (fun h => h.lt)
theorem bld_base {B b : Nat} {bs : List Value} {W : World} (h : Lib.IsBuilderF 45 5 B b bs W) : B ≤ b := h.elim (fun h => h.1) (fun h => h.1)
structure EnI (w0 w : World) (b : Nat) (bs : List Value) (W : World) : Prop where
  bld : Lib.IsBuilderF 45 5 w0.heap.size b bs W
  bel : Below w0.heap.size w0 W
  oth : Lib.OthersKept 5 (some b) w W
  size : w.heap.size ≤ W.heap.size
theorem EnI.wrote {w0 w : World} {b : Nat} {bs bs' : List Value} {W W' : World} (h : EnI w0 w b bs W) (h1 : Lib.BuilderAtF 45 5 w0.heap.size b (.pointer (some ⟨b, 0, none⟩)) bs' W') (h2 : Below w0.heap.size W W') (h3 : Lib.OthersKept 5 (some b) W W') : EnI w0 w b bs' W' :=
  ⟨.inr h1, h.bel.trans h2, h.oth.trans h3, Nat.le_trans h.size h2.size⟩
theorem EnI.wrote0 {w0 w : World} {b : Nat} {bs bs' : List Value} {W W' : World} (h : EnI w0 w b bs W) (h1 : EnI w0 W b bs' W') (hs : Below w0.heap.size w0 W') : EnI w0 w b bs' W' :=
  ⟨h1.bld, hs, h.oth.trans h1.oth, Nat.le_trans h.size h1.size⟩
theorem keep2_alloc (W : World) (o : Obj) : Keep2 W (W.alloc o) := fun k cs t fz _ h => (Below.heap_alloc W o k (Array.getElem?_eq_some_iff.1 h).1).trans h
theorem EnI.alloc {w0 w : World} {b : Nat} {bs : List Value} {W : World} (h : EnI w0 w b bs W) (o : Obj) : EnI w0 w b bs (W.alloc o) :=
  ⟨bld_keep h.bld (keep2_alloc W o), h.bel.alloc h.bel.size o, h.oth.alloc o, by have := h.size; simp; omega⟩
theorem EnI.drewN {w0 w : World} {b : Nat} {bs : List Value} {W : World} (h : EnI w0 w b bs W) (n : Nat) : EnI w0 w b bs (W.drewN n) :=
  ⟨bld_keep h.bld (fun _ _ _ _ _ h => h), ⟨h.bel.os, h.bel.tape, h.bel.output, h.bel.size, h.bel.block⟩, h.oth, h.size⟩
theorem EnI.row {w0 w : World} {b g : Nat} {bs : List Value} {W : World} (h : EnI w0 w b bs W) {cur : Array Value} {t : TypeId} {fz : Nat × Nat} (hg : W.heap[g]? = some (.cells cur t fz)) (ht : t ≠ 45 ∧ t ≠ 5) (hw : w.heap.size ≤ g) (hw0 : w0.heap.size ≤ g) (cs : Array Value) : EnI w0 w b bs (W.setRow g cs) := by
  refine ⟨bld_keep h.bld (fun k c t' fz' ht' hk => ?_), below_setRow h.bel hw0 _, fun k o hk hb ho => ?_, by have := h.size; simpa using this⟩
  · rw [setRow_other _ _ _ _ (fun e => ?_)]
    · exact hk
    · rw [e, hg] at hk; cases hk
      rcases ht' with h' | h'
      · exact ht.1 h'
      · exact ht.2 h'
  · rw [setRow_other _ _ _ _ (fun e => ?_)]
    · exact h.oth k o hk hb ho
    · have := (Array.getElem?_eq_some_iff.1 hk).1; omega
theorem EnI.own {w0 w : World} {b C : Nat} {bs : List Value} {W W' : World} {row : Option Nat} (h : EnI w0 w b bs W) (hg : W.grownBy W' row) (hr : ∀ r, row = some r → C ≤ r ∧ ∃ o : Obj, W.heap[r]? = some o ∧ o.isCells = false) (hC : w.heap.size ≤ C) (hC0 : w0.heap.size ≤ C) : EnI w0 w b bs W' := by
  refine ⟨bld_keep h.bld (fun k c t fz _ hk => ?_), h.bel.grown hg h.bel.size (fun r e => by have := (hr r e).1; omega), fun k o hk hb ho => ?_, Nat.le_trans h.size hg.size⟩
  · rw [hg.block k (Array.getElem?_eq_some_iff.1 hk).1 (fun e => ?_)]
    · exact hk
    · obtain ⟨_, o, h1, h2⟩ := hr k e.symm
      rw [hk] at h1; cases h1; cases h2
  · have h1 := h.oth k o hk hb ho
    have hlt := (Array.getElem?_eq_some_iff.1 hk).1
    rw [hg.block k (Array.getElem?_eq_some_iff.1 h1).1 (fun e => by have := (hr k e.symm).1; omega)]
    exact h1
theorem EnI.below {w0 w : World} {b : Nat} {bs : List Value} {W W' : World} (h : EnI w0 w b bs W) (hb : Below W.heap.size W W') : EnI w0 w b bs W' :=
  ⟨bld_keep h.bld (fun k c t fz _ hk => (hb.block k (Array.getElem?_eq_some_iff.1 hk).1).trans hk), h.bel.trans (hb.mono h.bel.size), h.oth.below hb, Nat.le_trans h.size hb.size⟩
theorem EnI.refl {w0 w : World} {b : Nat} {bs : List Value} {W : World} (h : EnI w0 w b bs W) : EnI w0 W b bs W := ⟨h.bld, h.bel, Lib.OthersKept.refl _ _ _, Nat.le_refl _⟩
theorem box_own {C k : Nat} {cs : Array Value} {t : TypeId} {fz : Nat × Nat} {W W' : World} {row : Option Nat} (h : W.heap[k]? = some (.cells cs t fz)) (hg : W.grownBy W' row) (hr : ∀ r, row = some r → C ≤ r ∧ ∃ o : Obj, W.heap[r]? = some o ∧ o.isCells = false) : W'.heap[k]? = some (.cells cs t fz) := by
  rw [hg.block k (Array.getElem?_eq_some_iff.1 h).1 (fun e => ?_)]
  · exact h
  · obtain ⟨_, o, h1, h2⟩ := hr k e.symm
    rw [h] at h1; cases h1; cases h2
/-- Each is a byte. -/
def Byt (l : List Int) : Prop := ∀ x ∈ l, 0 ≤ x ∧ x < 256
theorem Byt.getD {l : List Int} (h : Byt l) (i : Nat) : 0 ≤ l.getD i 0 ∧ l.getD i 0 < 256 := by
  rw [List.getD_eq_getElem?_getD]
  rcases Nat.lt_or_ge i l.length with h1 | h1
  · rw [List.getElem?_eq_getElem h1]; exact h _ (List.getElem_mem h1)
  · rw [List.getElem?_eq_none h1]; exact ⟨by simp, by simp⟩
theorem e4_len (x : List Int) : (e4 x).length = 4 := rfl
theorem encK_len (m : Nat) (l : List Int) {L : Nat} (xs : List (CK m L)) : (encK m l xs).length = 4 * xs.length := by
  induction xs with
  | nil => rfl
  | cons a r ih => unfold encK at *; rw [List.flatMap_cons, List.length_append, ih, e4_len, List.length_cons]; omega
/-- copy into a fresh array of three bytes. -/
theorem copy3 (W : World) (A' : Option Addr) (p : List Int) (n : Nat) (hn : p.length = n) (h1 : 1 ≤ n) (h3 : n ≤ 3) (hr : ReadsOf (Value.int .u8) (0 : Int) W A' n p) :
    ∃ W2, (Builtin.copy_ #[24, 24] 3 #[.slice (some ⟨W.heap.size, 0, none⟩) 3 3, .slice A' n n]).run Try.prog (W.alloc (.cells #[.int .u8 0, .int .u8 0, .int .u8 0] 78)) = .ok (.int .i64 (n : Int)) W2 ∧
      W2.heap[W.heap.size]? = some (.cells #[.int .u8 (p.getD 0 0), .int .u8 (p.getD 1 0), .int .u8 (p.getD 2 0)] 78 (0, 0)) ∧ Below W.heap.size W W2 := by
  obtain ⟨ad, rfl, hc⟩ := hr.2.2 (by omega)
  obtain ⟨i0, hi0, hz0, hz1, hz2⟩ := info_parts info5
  have hrun := run_copy_row (P := Try.prog) (W.alloc (.cells #[.int .u8 0, .int .u8 0, .int .u8 0] 78)) 24 24 3 5 W.heap.size 0 3 3 ad n n #[.int .u8 0, .int .u8 0, .int .u8 0] 78 (p.map (Value.int .u8)) Try.underlying24 (by rw [hi0]; simp [hz1]) (heap_alloc_new W _) (by rw [List.length_map, hn]; exact (Nat.min_eq_left h3).symm)
    (fun j v hv => by
      rw [List.getElem?_map] at hv
      obtain ⟨x, hx, rfl⟩ := Option.map_eq_some_iff.1 hv
      have hj : j < p.length := (List.getElem?_eq_some_iff.1 hx).1
      have hcell := hc j (by omega)
      have hlt := World.block_lt_of_cell? W _ hcell
      rw [show (W.alloc (.cells #[.int .u8 0, .int .u8 0, .int .u8 0] 78)).cell? (ad.add j) = W.cell? (ad.add j) from ((Below.refl W.heap.size W).alloc (Nat.le_refl _) _).cell hlt, hcell]
      rw [List.getD_eq_getElem?_getD, hx, Option.getD_some]) (by simp; omega) (by simp [Value.oneCell'])
  refine ⟨_, by rw [hrun, List.length_map, hn]; rfl, ?_, below_setRow ((Below.refl W.heap.size W).alloc (Nat.le_refl _) _) (Nat.le_refl _) _⟩
  rw [setRow_heap _ _ _ _ _ _ (heap_alloc_new W _)]
  subst hn
  rcases p with _ | ⟨a, _ | ⟨b, _ | ⟨c, _ | ⟨d, p⟩⟩⟩⟩
  · simp at h1
  · simp
  · simp
  · simp
  · simp at h3
theorem EnI.drew {w0 w : World} {b : Nat} {bs : List Value} {W : World} (h : EnI w0 w b bs W) : EnI w0 w b bs W.drew :=
  ⟨bld_keep h.bld (fun _ _ _ _ _ h => h), h.bel.drew, h.oth, h.size⟩
theorem wb_in (lo m : Nat) (w0 w : World) (b : Nat) (bs : List Value) (c : Int) (W : World) (E : EnI w0 w b bs W) (hl : bs.length + 1 ≤ 140737488355328) :
    CallsIn (Fence.wide.inRound lo) m Try.prog 24 #[.pointer (some ⟨b, 0, none⟩), .int .u8 c] W fun e w' => e = .returned .nilIface ∧ EnI w0 w b (bs ++ [.int .u8 c]) w' ∧ Lib.OthersKept 5 (some b) W w' := by
  refine (CallsIn.inRound lo (callsIn_wide.2 (Try.Builder_WriteByte_k w0.heap.size b bs c W E.bld hl E.bel.size))).mono ?_
  rintro e w' ⟨rfl, h1, h2, h3⟩
  exact ⟨rfl, E.wrote h1 h2 h3, h3⟩
theorem al_at (v : Int) (h : v.toNat < alphB.size) : ((alphB[v.toNat]'h).toNat : Int) = al v := by
  unfold al
  rw [Array.getD_eq_getD_getElem?, Array.getElem?_eq_getElem h]
  rfl
theorem e4_next (pc : List Int) (j : Nat) (hj : j < 4) (x : Int) (h : x = chr pc j) (bs : List Value) : bs ++ ((e4 pc).take j).map (Value.int .u8) ++ [.int .u8 x] = bs ++ ((e4 pc).take (j + 1)).map (Value.int .u8) := by
  subst h
  rcases (show j = 0 ∨ j = 1 ∨ j = 2 ∨ j = 3 by omega) with rfl | rfl | rfl | rfl <;> simp [e4]
theorem shr_j (T : Int) (h0 : 0 ≤ T) (h1 : T < 16777216) (j : Nat) (hj : j < 4) : 0 ≤ T / 2 ^ (18 - 6 * j) ∧ T / 2 ^ (18 - 6 * j) < 16777216 ∧ ∀ W, (Op.shift .shr .u32 T .i64 (18 - 6 * (j : Int))).run Try.prog W = .ok (.int .u32 (T / 2 ^ (18 - 6 * j))) W := by
  rcases (show j = 0 ∨ j = 1 ∨ j = 2 ∨ j = 3 by omega) with rfl | rfl | rfl | rfl
  all_goals refine ⟨by simp; omega, by simp; omega, fun W => ?_⟩
  all_goals simp [go_sem]
theorem chr_al {pc : List Int} {n j : Nat} {T V : Int} (hn : pc.length = n) (hT : bts pc = T) (hV : T / 2 ^ (18 - 6 * j) = V) (hj : ¬ n < j) (h : (V % 64).toNat < alphB.size) : (((alphB[(V % 64).toNat]'h).toNat : Nat) : Int) = chr pc j := by
  rw [al_at]
  unfold chr
  rw [if_neg (by omega), hT, hV]
theorem chr_eq {pc : List Int} {n j : Nat} (hn : pc.length = n) (hj : n < j) : 61 = chr pc j := by unfold chr; rw [if_pos (by omega)]
set_option maxHeartbeats 4000000 in
theorem encode_any (w0 w : World) (b : Nat) (bs : List Value) (A : Option Addr) (l : List Int) (c : Nat) (hb : EnI w0 w b bs w) (hr : ReadsOf (Value.int .u8) (0 : Int) w0 A l.length l) (hl : l.length ≤ 1000000000) (hbs : bs.length ≤ 100000000000) (hc : l.length ≤ c) (hby : Byt l) :
    Calls Try.prog 23 #[.pointer (some ⟨b, 0, none⟩), .slice A l.length c] w fun e w' => e = .returned (.tuple #[]) ∧ ∃ k, l.length ≤ 3 * k ∧ EnI w0 w b (bs ++ (encK 3 l (ups 3 l.length k)).map (Value.int .u8)) w' := by
  have HR := Lib.hid hr
  have HB := Lib.hid hb
  clear hr hb
  refine callsIn_wide.1 (callsIn_of_wp_marks (n := 3) Try.func23 rfl trivial ?_ rfl)
  simp only [Try.ntmps23, List.size_toArray, List.length_cons, List.length_nil, Nat.reduceAdd, Nat.reduceSub, Array.replicate_succ, Array.replicate_zero, List.push_toArray, List.append_toArray, List.nil_append, List.cons_append]
  refine wpIn_wide.2 ?_
  go_wp2_with (go_at_call 22; refine (callsIn_wide.1 (chunk_in Fence.wide 2 trivial rfl A l.length c 3 (by omega) _)).mono ?_; rintro e w' ⟨rfl, rfl⟩)
  refine (wpIn_wide (n := 3)).1 ?_
  have W1 := Lib.hid (HB.out.alloc (.cells #[.pointer (some ⟨b, 0, none⟩)] 43))
  have X1 := Lib.hid (heap_alloc_new w (.cells #[.pointer (some ⟨b, 0, none⟩)] 43))
  generalize hWa : w.alloc (.cells #[.pointer (some ⟨b, 0, none⟩)] 43) = Wa at *
  have hsa : Wa.heap.size = w.heap.size + 1 := by rw [← hWa]; simp
  clear hWa
  have X2 := Lib.hid (heap_alloc_new Wa (.cells #[.slice A l.length c] 24))
  have W2 := Lib.hid (W1.out.alloc (.cells #[.slice A l.length c] 24))
  have X12 := Lib.hid ((Below.heap_alloc Wa (.cells #[.slice A l.length c] 24) w.heap.size (by omega)).trans X1.out)
  generalize hWb : Wa.alloc (.cells #[.slice A l.length c] 24) = Wb at *
  have hsb : Wb.heap.size = Wa.heap.size + 1 := by rw [← hWb]; simp
  clear hWb
  have X3 := Lib.hid (heap_alloc_new Wb (.cells #[.int .i64 3] 3))
  have W3 := Lib.hid (W2.out.alloc (.cells #[.int .i64 3] 3))
  have X13 := Lib.hid ((Below.heap_alloc Wb (.cells #[.int .i64 3] 3) w.heap.size (by omega)).trans X12.out)
  have X23 := Lib.hid ((Below.heap_alloc Wb (.cells #[.int .i64 3] 3) Wa.heap.size (by omega)).trans X2.out)
  rw [hsb, hsa] at X3
  rw [hsa] at X23
  generalize hWc : Wb.alloc (.cells #[.int .i64 3] 3) = Wc at *
  have hsc : Wc.heap.size = Wb.heap.size + 1 := by rw [← hWc]; simp
  clear hWc
  refine wpIn_rangeFunc_ownG rfl (by omega) (gf := 39) (lb := #[.pointer (some ⟨w.heap.size + 1, 0, none⟩), .pointer (some ⟨w.heap.size + 1 + 1, 0, none⟩)]) rfl trivial (enters_of Try.func39 (by kernel_rfl) rfl)
    (chunk_stops (3 - 1) (by omega) (w.heap.size + 1) A l.length c 3 (by omega) (by omega) (by omega) hc Wc (by omega) ⟨X23.out, X3.out⟩) keepB_t keepB_b (Below.refl _ _) (fun _ => rfl)
    (fun pre W => EnI w0 w b (bs ++ (encK 3 l pre).map (Value.int .u8)) W ∧ W.heap[w.heap.size]? = some (.cells #[.pointer (some ⟨b, 0, none⟩)] 43 (0, 0)) ) (fun _ _ _ => False)
    ?own
    (fun _ _ _ _ _ hs _ _ => hs) ?h0
    (fun x => { tmps := #[.pointer (some ⟨b, 0, none⟩), .slice A l.length c, .pointer (some ⟨w.heap.size, 0, none⟩), undef, ckV A 3 l.length x, undef, undef, undef, undef, .slice A l.length c, .func (.func 39) #[] #[.pointer (some ⟨w.heap.size + 1, 0, none⟩), .pointer (some ⟨w.heap.size + 1 + 1, 0, none⟩)], ckV A 3 l.length x, undef, undef, undef, undef, undef, undef, undef, undef, undef, undef, undef, undef, undef, undef, undef, undef, undef, undef, undef, undef, undef, undef, undef, undef, undef, undef, undef, undef, undef, undef, undef, undef, undef, undef], defers := [] }) ?assign ?body ?done ?stop
  case own =>
    intro pre W W' row h hg hr'
    exact ⟨h.1.own hg hr' (by omega) (by have := HB.out.bel.size; omega), box_own h.2 hg hr'⟩
  case h0 => exact ⟨by simpa [encK] using W3.out, X13.out⟩
  case assign =>
    intro lo x W K hK
    gi_wp2
    exact hK
  case body =>
    rintro lo pre x W ⟨PE, PX⟩ hlp
    have hx := x.2
    have hp : ReadsOf (Value.int .u8) (0 : Int) W (A.map (·.add (3 * x.1))) (min 3 (l.length - 3 * x.1)) (piece 3 l x) := by
      have h1 := (HR.out.below PE.bel).drop_ (c := l.length + 1) (3 * x.1) (by omega) (by omega)
      rw [if_neg (by omega)] at h1
      exact h1.take_ (min 3 (l.length - 3 * x.1)) (by omega) |> fun h => by
        unfold piece
        rwa [show (l.drop (3 * x.1)).take (min 3 (l.length - 3 * x.1)) = (l.drop (3 * x.1)).take 3 from by rw [List.take_eq_take_iff, List.length_drop]; omega] at h
    have hpl : (piece 3 l x).length = min 3 (l.length - 3 * x.1) := hp.1
    have hpb : Byt (piece 3 l x) := fun y hy => hby y (List.mem_of_mem_drop (List.mem_of_mem_take hy))
    have hbs2 : (bs ++ (encK 3 l pre).map (Value.int .u8)).length ≤ 110000000000 := by rw [List.length_append, List.length_map, encK_len]; omega
    have hEq : Hid (bs ++ (encK 3 l (pre ++ [x])).map (Value.int .u8) = (bs ++ (encK 3 l pre).map (Value.int .u8)) ++ (e4 (piece 3 l x)).map (Value.int .u8)) := by
      show _ = _
      unfold encK
      rw [List.flatMap_append, List.map_append, List.append_assoc]
      simp
    unfold ckV
    generalize A.map (·.add (3 * x.1)) = A' at *
    generalize bs ++ (encK 3 l pre).map (Value.int .u8) = bs' at *
    obtain ⟨n, hn⟩ : ∃ n, min 3 (l.length - 3 * x.1) = n := ⟨_, rfl⟩
    rw [hn] at hp hpl ⊢
    have hn1 : 1 ≤ n := by omega
    have hn3 : n ≤ 3 := by omega
    obtain ⟨V2, hcp, hX2, hB2⟩ := copy3 W A' (piece 3 l x) n hpl hn1 hn3 hp
    have E2 := Lib.hid (PE.refl.below hB2)
    have PEH := Lib.hid PE
    have hwl := (Array.getElem?_eq_some_iff.1 PX).1
    have PX2 := Lib.hid ((hB2.block _ hwl).trans PX)
    have HX2 := Lib.hid hX2
    have HPL := Lib.hid hpl
    have HBL := Lib.hid hB2
    clear PE PX hB2 hX2 hp hn hx hpl
    generalize piece 3 l x = pc at *
    have g0 := hpb.getD 0
    have g1 := hpb.getD 1
    have g2 := hpb.getD 2
    have HBT : Hid (bts pc = pc.getD 0 0 * 65536 + pc.getD 1 0 * 256 + pc.getD 2 0) := rfl
    have ca := blk_cell HX2.out 0
    have cb := blk_cell HX2.out 1
    have cc := blk_cell HX2.out 2
    simp only [List.getElem?_toArray] at ca cb cc
    generalize pc.getD 0 0 = a0 at *
    generalize pc.getD 1 0 = a1 at *
    generalize pc.getD 2 0 = a2 at *
    have o1 := or_u32 (a := a0 * 65536) (b := a1 * 256) 16 (by omega) (by omega) (by omega) (by omega) (by omega) (by omega)
    have o2 := or_u32 (a := a0 * 65536 + a1 * 256) (b := a2) 8 (by omega) (by omega) (by omega) (by omega) (by omega) (by omega)
    have hbw : b < w.heap.size := bld_lt HB.out.bld
    gi_wp2
    obtain ⟨T, hT⟩ : ∃ T, a0 * 65536 + a1 * 256 + a2 = T := ⟨_, rfl⟩
    have hT0 : 0 ≤ T := by omega
    have hT1 : T < 16777216 := by omega
    rw [hT] at HBT ⊢
    clear o1 o2 ca cb cc hcp hT
    gi_loopw [28] (fun p wr => ∃ j : Nat, j ≤ 4 ∧ p = .int .i64 (j : Int) ∧ Hid (EnI w0 W b (bs' ++ ((e4 pc).take j).map (Value.int .u8)) wr) ∧ Hid (wr.heap[w.heap.size]? = some (.cells #[.pointer (some ⟨b, 0, none⟩)] 43 (0, 0)))) (fun p _ => (4 - (intOf p).toNat))
    case atStart => exact ⟨0, by omega, rfl, by simpa using E2, PX2⟩
    case round =>
      obtain ⟨j, hj, rfl, E, X⟩ := hrel
      have cb := cell_box X.out
      have fx := E.out.bld
      have hsz := E.out.bel.size
      have hl2 : (bs' ++ ((e4 pc).take j).map (Value.int .u8)).length + 1 ≤ 140737488355328 := by
        rw [List.length_append, List.length_map, List.length_take, e4_len]; omega
      have FX := Lib.hid fx
      have HL2 := Lib.hid hl2
      clear fx hl2
      by_cases h4 : j < 4
      · by_cases hnj : n < j
        · have hnjD : ((n : Int) < (j : Int)) := by omega
          gi_wp2_with (refine ⟨trivial, ?_⟩; gi_at_call 24; refine (wb_in lo _ w0 W b _ _ _ E.out HL2.out).mono ?_; rintro e w' ⟨rfl, E', K'⟩; have EN := Lib.hid (e4_next pc j (by omega) _ (chr_eq HPL.out (by omega)) bs' ▸ E'); have XN := Lib.hid (K' _ _ (show wr.heap[w.heap.size]? = _ from X.out) (by simp; omega) (fun _ _ h => by cases h)); clear E' K')
          go_roundw
          case rel => exact ⟨j + 1, by omega, by go_num, EN, XN⟩
          case measure => simp [intOf]; omega
        · have hnjD : ¬ ((n : Int) < (j : Int)) := by omega
          obtain ⟨hV0, hV1, hsh⟩ := shr_j T hT0 hT1 j h4
          obtain ⟨V, hV⟩ : ∃ V, T / 2 ^ (18 - 6 * j) = V := ⟨_, rfl⟩
          rw [hV] at hV0 hV1 hsh
          have hand : bits .and .u32 V 63 = V % 64 := and_u32 6 (by omega) (by omega) (by omega)
          have hv0 : 0 ≤ V % 64 := by omega
          have hv1 : V % 64 < 64 := by omega
          have HV := Lib.hid hV
          have hsh3 : T / 2 ^ (18 - 6 * (j : Int)).toNat = V := by rw [show (18 - 6 * (j : Int)).toNat = 18 - 6 * j by omega]; exact HV.out
          have hw1 : IntKind.i64.wrap (6 * (j : Int)) = 6 * (j : Int) := by rw [IntKind.wrap_i64]; omega
          have hw2 : IntKind.i64.wrap (18 - 6 * (j : Int)) = 18 - 6 * (j : Int) := by rw [IntKind.wrap_i64]; omega
          clear hV
          gi_wp2
          gi_region_with (refine ⟨trivial, ?_⟩; gi_at_call 24; refine (wb_in lo _ w0 W b _ _ _ E.out.drew HL2.out).mono ?_; rintro e w' ⟨rfl, E', K'⟩)
          all_goals
            have EN := Lib.hid (e4_next pc j (by omega) _ (chr_al HPL.out HBT.out HV.out (by omega) _) bs' ▸ E')
            have XN := Lib.hid (K' _ _ (show wr.drew.heap[w.heap.size]? = _ from X.out) (by simp; omega) (fun _ _ h => by cases h))
            clear E' K' hw1 hw2 hsh hsh3
            gi_wp2
            go_roundw
            case rel => exact ⟨j + 1, by omega, by go_num, EN, XN⟩
            case measure => simp [intOf]; omega
      · obtain rfl : j = 4 := by omega
        have hE := E.out
        rw [show (e4 pc).take 4 = e4 pc from rfl, ← hEq.out] at hE
        have EF := Lib.hid (PEH.out.wrote0 hE hE.bel)
        have KF : Hid (KeepsFrom Wc.heap.size W wr ∧ KeepB (w.heap.size + 1) W wr) := by
          refine ⟨⟨hE.size, fun k o _ hk ho => hE.oth k o hk (fun e => ?_) (fun c fz e => by subst e; cases ho)⟩, fun k hk cs t fz ne h => hE.oth k _ h (fun e => ?_) (fun c' fz' e => by cases e; exact ne rfl)⟩
          · cases e; omega
          · cases e; omega
        clear hE
        gi_wp2
        exact ⟨KF.out.1, KF.out.2, EF.out, X.out⟩
  case done =>
    rintro D ys W hD ⟨k, hk, rfl⟩ ⟨hE, hX⟩ hK
    gi_wp2
    refine ⟨by simp, .inl ⟨_, _, rfl, run_takeDeferred hK, ?_⟩⟩
    exact ⟨_, results_none rfl _ _ _, rfl, k, hk, hE.own (grownBy_putObj' W D _) (fun r e => by cases e; exact ⟨hD, _, hK, rfl⟩) (by omega) (by have := HB.out.bel.size; omega)⟩
  case stop =>
    rintro D c pre W _ _ h _
    exact h.elim
end Go.Proofs.Ytbdccfjeeabpaaa
