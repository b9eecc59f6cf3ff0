/- Chapter 22 (armors): decode. -/
import Derived.Test.YtbdccfjeeabpaaaPa
import Derived.OwnWalk
import Derived.LoopTactic
import Derived.Outline
import Derived.Deep.AppendLies
import Derived.Deep.QuietTactic
import Derived.BigQuiet
import Derived.Below
namespace Go.Proofs.Ytbdccfjeeabpaaa
open Go.RowKit Go.Shelf
set_option linter.unusedSimpArgs false
set_option linter.unusedVariables false
set_option maxRecDepth 50000
/-- A slice of bytes that fills a block of the call's own, or nil. -/
def Ex (w : World) (B : Nat) (A : Option Addr) (l : List Int) : Prop :=
  (A = none ∧ l = []) ∨ ∃ g, A = some ⟨g, 0, none⟩ ∧ B ≤ g ∧ w.heap[g]? = some (.cells (l.map (Value.int .u8)).toArray 5 (0, 0))
def DecR (L : List UInt8) (w : World) (e : Ending) (w' : World) : Prop :=
  ∃ A, e = .returned (.tuple #[.slice A (decP L).1.length (decP L).1.length, .int .i64 (decP L).2]) ∧ Ex w' w.heap.size A (decP L).1 ∧ Below w.heap.size w w'
theorem DecR.fail {L : List UInt8} {w w' : World} {er : Int} (h : decP L = ([], er)) (hb : Below w.heap.size w w') : DecR L w (.returned (.tuple #[.slice none 0 0, .int .i64 er])) w' :=
  ⟨none, by rw [h]; rfl, by rw [h]; exact .inl ⟨rfl, rfl⟩, hb⟩
theorem decP_form {L : List UInt8} (h : ¬ L.length % 4 = 0) : decP L = ([], 10) := by unfold decP; rw [if_neg h]
theorem info5 : (Try.prog.info? 5).map (fun i => (i.zero, i.size, i.bytes)) = some (some (.int .u8 0), 1, 1) := by kernel_rfl
structure DeS (D g C : Nat) (T : List UInt8) (k : Nat) (b : Int) (out : List Int) (w W : World) : Prop where
  d : W.heap[D]? = some (.cells (tabC 64) 60 (0, 0))
  row : W.ownsRow w.heap.size 5 1 (.slice (some ⟨g, 0, none⟩) out.length C) out.length (out.map (Value.int .u8))
  len : out.length = 6 * k / 8
  r : 0 ≤ b ∧ b < pw k
  go : dgo (T.drop k) k b out = dgo T 0 0 []
  b : Below w.heap.size w W
theorem trim_is (s : ByteArray) (w : World) (hs : s.size ≤ 1099511627776) : Calls Try.prog 42 #[.string s, .string ⟨#[61]⟩] w fun e w' => e = .returned (.string ⟨(Lib.trimSuffix s.data.toList [61]).toArray⟩) ∧ w = w' :=
  (Try.strings_TrimSuffix s ⟨#[61]⟩ w (by omega)).mono fun _ _ h => ⟨h.1, h.2.symm⟩
theorem trim_size {s : ByteArray} (hs : s.size ≤ 1099511627776) : (⟨(Lib.trimSuffix s.data.toList [61]).toArray⟩ : ByteArray).size ≤ 1099511627776 := by
  have := suffix_len s.data.toList [61]
  rw [Array.length_toList] at this
  simp only [ByteArray.size, List.size_toArray] at *
  exact Nat.le_trans this hs
theorem DeS.lt {D g C : Nat} {T : List UInt8} {k : Nat} {b : Int} {out : List Int} {w W : World} (h : DeS D g C T k b out w W) : g < W.heap.size := by
  rcases h.row.2 with ⟨h, _⟩ | ⟨g', cap', cur, h, hbg, hg, _⟩
  · cases h
  · cases h
    exact (Array.getElem?_eq_some_iff.1 hg).1
theorem DeS.ex {D g C : Nat} {T : List UInt8} {k : Nat} {b : Int} {out : List Int} {w W : World} (h : DeS D g C T k b out w W) (hC : 6 * k / 8 = C) : Ex W w.heap.size (some ⟨g, 0, none⟩) out ∧ True := by
  rcases h.row.2 with ⟨h, _⟩ | ⟨g', cap', cur, h1, hbg, hg, hnc, hcm, hcs, htake⟩
  · cases h
  · cases h1
    refine ⟨.inr ⟨g, rfl, hbg, ?_⟩, trivial⟩
    have hl := h.len
    rw [hg]
    congr 2
    apply Array.ext'
    rw [List.toList_toArray, ← htake, List.take_of_length_le (by rw [Array.length_toList, hcs]; omega)]
theorem DeS.drewN {D g C : Nat} {T : List UInt8} {k : Nat} {b : Int} {out : List Int} {w W : World} (h : DeS D g C T k b out w W) (n : Nat) : DeS D g C T k b out w (W.drewN n) :=
  ⟨h.d, h.row, h.len, h.r, h.go, ⟨h.b.os, h.b.tape, h.b.output, h.b.size, h.b.block⟩⟩
theorem DeS.quiet {D g C : Nat} {T : List UInt8} {k : Nat} {b n : Int} {out : List Int} {w W : World} (h : DeS D g C T k b out w W) (h0 : 1 ≤ n) (h1 : n ≤ 64) (hk : k % 4 = 0) (hg : dgo (T.drop (k + 1)) (k + 1) (nb k (b * 64 + (n - 1))) (out ++ em k (b * 64 + (n - 1))) = dgo T 0 0 []) :
    DeS D g C T (k + 1) (b * 64 + (n - 1)) out w W := by
  have hb := nb_range k b n h.r.1 h.r.2 h0 h1
  have e1 : nb k (b * 64 + (n - 1)) = b * 64 + (n - 1) := by unfold nb; rw [if_pos hk]
  have e2 : em k (b * 64 + (n - 1)) = [] := by unfold em; rw [if_pos hk]
  rw [e1] at hb hg
  rw [e2, List.append_nil] at hg
  exact ⟨h.d, h.row, by have := h.len; omega, hb, hg, h.b⟩
theorem DeS.next {D g C : Nat} {T : List UInt8} {k : Nat} {b n x r : Int} {out : List Int} {w W W1 : World} (h : DeS D g C T k b out w W) (h0 : 1 ≤ n) (h1 : n ≤ 64) (hk : ¬ k % 4 = 0) (hg : dgo (T.drop (k + 1)) (k + 1) (nb k (b * 64 + (n - 1))) (out ++ em k (b * 64 + (n - 1))) = dgo T 0 0 [])
    (hx : em k (b * 64 + (n - 1)) = [x]) (hr : nb k (b * 64 + (n - 1)) = r) {o : Obj} (hg1 : w.heap.size ≤ g) (hgW : g < W.heap.size) (hD : D < w.heap.size) (hown : W1.ownsRow w.heap.size 5 1 (.slice (some ⟨g, 0, none⟩) (out.length + 1) C) (out.length + 1) (out.map (Value.int .u8) ++ [.int .u8 x])) (hgrow : (W.alloc o).grownBy W1 (some g)) :
    DeS D g C T (k + 1) r (out ++ [x]) w W1 := by
  have hb := nb_range k b n h.r.1 h.r.2 h0 h1
  rw [hr] at hb hg
  rw [hx] at hg
  have hb2 : Below w.heap.size w W1 := (h.b.alloc h.b.size o).grown hgrow (by have := h.b.size; simp; omega) (fun k e => by cases e; exact hg1)
  refine ⟨?_, ?_, ?_, hb, hg, hb2⟩
  · rw [hb2.block D hD, ← h.b.block D hD]; exact h.d
  · rw [List.map_append, List.length_append]; exact hown
  · rw [List.length_append, h.len]
    have := em_len k (b * 64 + (n - 1))
    rw [hx] at this
    exact this
set_option maxHeartbeats 4000000 in
theorem decode_any (D : Nat) (s : ByteArray) (w : World) (hs : s.size ≤ 1099511627776) (hD : w.heap[D]? = some (.cells (tabC 64) 60 (0, 0))) :
    Calls Try.prog 30 #[.pointer (some ⟨D, 0, none⟩), .string s] w (DecR s.data.toList w) := by
  have hDlt : D < w.heap.size := (Array.getElem?_eq_some_iff.1 hD).1
  have hsl : s.data.toList.length = s.size := by rw [Array.length_toList]; rfl
  by_cases h4 : s.size % 4 = 0
  · have hnn : ((s.size : Int) % 4 != 0) = false := by simp; omega
    obtain ⟨q, hq⟩ : ∃ q, s.size / 4 = q := ⟨_, rfl⟩
    have hT := trimE_len s.data.toList
    rw [hsl] at hT
    have HT : Hid (∃ T : ByteArray, (⟨(trimE s.data.toList).toArray⟩ : ByteArray) = T ∧ T.data.toList = trimE s.data.toList ∧ T.size ≤ s.size ∧ s.size ≤ T.size + 2) := ⟨_, rfl, by simp, hT.1, hT.2⟩
    have hDP : Hid (decP s.data.toList = finD (dgo (trimE s.data.toList) 0 0 [])) := by
      show decP _ = _
      unfold decP
      rw [if_pos (by rw [hsl]; exact h4)]
    clear hsl hT
    have hD' := Lib.hid hD
    clear hD
    go_enter Try.func30, Try.ntmps30
    go_upto_region 4 with (first
      | (go_at_call 42; refine (trim_is _ _ (by first | exact hs | exact trim_size hs)).mono ?_; rintro e w' ⟨rfl, rfl⟩))
    obtain ⟨T, hTe, hTl, hT1, hT2⟩ := HT.out
    rw [show (⟨(Lib.trimSuffix (Lib.trimSuffix s.data.toList [61]) [61]).toArray⟩ : ByteArray) = T from hTe]
    rw [← hTl] at hDP
    have HTL := Lib.hid hTl
    clear hTl hTe HT
    obtain ⟨C, hC⟩ : ∃ C, s.size / 4 * 3 - (s.size - T.size) = C := ⟨_, rfl⟩
    have hC2 : (s.size : Int) / 4 * 3 - ((s.size : Int) - (T.size : Int)) = (C : Int) := by omega
    have hC3 : 6 * T.size / 8 = C := by omega
    have HC := Lib.hid hC2
    have HC3 := Lib.hid hC3
    clear hC2 hC hC3
    obtain ⟨i0, hi, hz0, hz1, hz2⟩ := info_parts info5
    go_upto_region 5 with (first
      | (refine wpList_make_own _ rfl _ _ 24 rfl w.heap.size 5 i0 (.int .u8 0) 1 Try.underlying24 hi hz0 hz1 .i64 .i64 _ C rfl rfl HC.out (by rw [hz2]; have := HC3.out; omega) (by unfold maxLen; have := HC3.out; omega) (Nat.le_refl _) ?_; intro w1 hown hgrow))
    have S0 : Hid (DeS D w.heap.size C T.data.toList 0 0 [] w w1) := by
      refine ⟨?_, hown, rfl, by simp [pw], by simp, ⟨hgrow.os, hgrow.tape, hgrow.output, hgrow.size, fun k hk => hgrow.block k hk (by simp)⟩⟩
      rw [hgrow.block D hDlt (by simp)]; exact hD'.out
    clear hown hgrow
    go_wp2
    go_loopw [7, 8, 9, 32] (fun v b m i wr => ∃ (k : Nat) (bi : Int) (out : List Int), k ≤ T.size ∧ i = .int .i64 k ∧ b = .int .u32 bi ∧ m = .int .i64 (mny k) ∧ v = .slice (some ⟨w.heap.size, 0, none⟩) out.length C ∧ Hid (DeS D w.heap.size C T.data.toList k bi out w wr)) (fun _ _ _ i _ => T.size - (intOf i).toNat)
    case atStart => exact ⟨0, 0, [], by omega, rfl, rfl, rfl, rfl, S0⟩
    case round =>
      obtain ⟨k, bi, out, hk, rfl, rfl, rfl, rfl, S⟩ := hrel
      by_cases hlt : k < T.size
      · have hdr := dig_range T[k]
        have hcell : wr.cell? ⟨D, T[k].toNat, none⟩ = some (.int .u8 (dig T[k])) := by
          rw [cell_of_row _ _ _ _ _ _ S.out.d]
          have hl := tabK_len 64
          have hlt2 : T[k].toNat < (tabK 64).length := by have := T[k].toNat_lt; omega
          unfold dig
          simp only [List.getElem?_toArray, List.getElem?_map, List.getD_eq_getElem?_getD (l := tabK 64), List.getElem?_eq_getElem hlt2, Option.map_some, Option.getD_some]
        have hg := S.out.go
        have hT : T.data.toList.drop k = T[k] :: T.data.toList.drop (k + 1) := by
          rw [List.drop_eq_getElem_cons (by rw [Array.length_toList]; exact hlt)]; rfl
        rw [hT, dgo] at hg
        have hc0 : (0 : Int) ≤ (T[k].toNat : Int) := by omega
        have hc1 : ((T[k].toNat : Int)) < 256 := by have := T[k].toNat_lt; omega
        clear hT
        have HG := Lib.hid hg
        clear hg
        generalize dig T[k] = n at *
        by_cases hn : n = 0
        · subst hn
          go_wp2
          go_quiet (fail)
          go_wp2
          go_ret2
          have hfin : decP s.data.toList = ([], 6) := by rw [hDP.out, ← HG.out]; simp [finD]
          have hB := S.out.b
          refine DecR.fail hfin ?_
          first | exact hB | exact hB.drew | exact ⟨hB.os, hB.tape, hB.output, hB.size, hB.block⟩
        · have hr := S.out.r
          rw [if_neg hn] at HG
          rcases (show k % 4 = 0 ∨ k % 4 = 1 ∨ k % 4 = 2 ∨ k % 4 = 3 by omega) with h | h | h | h
          · have hm : mny k = 0 := by unfold mny; simp [h]
            have hr2 : 0 ≤ bi ∧ bi < 1 := by have := hr; unfold pw at this; simpa [h] using this
            obtain ⟨b0, b1⟩ := hr2
            have hn0 : (n == 0) = false := by simpa using hn
            have hn1 : 1 ≤ n := by omega
            have hn2 : n ≤ 64 := hdr.2
            have hor := or_u32 (a := bi * 64) (b := n - 1) 6 (by omega) (by omega) (by omega) (by omega) (by omega) (by omega)
            have hmy : Hid ((6 : Int) = mny (k + 1)) := by show _ = mny _; unfold mny; simp [Nat.add_mod, h]
            have hk4 : Hid (k % 4 = 0) := h
            rw [hm]
            clear hm hn hr h
            go_wp2
            go_quiet (fail)
            have SK := Lib.hid ((S.out.drewN nq).quiet hn1 hn2 hk4.out HG.out)
            generalize wr.drewN nq = wq at *
            go_wp2
            go_roundw
            case rel => exact ⟨k + 1, _, _, by omega, rfl, rfl, by rw [← hmy.out], rfl, SK⟩
            case measure => simp [intOf]; omega
          · have hm : mny k = 6 := by unfold mny; simp [h]
            have hr2 : 0 ≤ bi ∧ bi < 64 := by have := hr; unfold pw at this; simpa [h] using this
            obtain ⟨b0, b1⟩ := hr2
            have hn0 : (n == 0) = false := by simpa using hn
            have hn1 : 1 ≤ n := by omega
            have hn2 : n ≤ 64 := hdr.2
            have hor := or_u32 (a := bi * 64) (b := n - 1) 6 (by omega) (by omega) (by omega) (by omega) (by omega) (by omega)
            have hand : bits .and .u32 (bi * 64 + (n - 1)) 15 = (bi * 64 + (n - 1)) % 16 := and_u32 (a := bi * 64 + (n - 1)) 4 (by omega) (by omega) (by omega)
            have hroom : out.length + 1 ≤ C := by have h1 := S.out.len; have h2 := HC3.out; omega
            have hx : Hid (em k (bi * 64 + (n - 1)) = [(bi * 64 + (n - 1)) / 16]) := by show em _ _ = _; unfold em; simp [h]
            have hnb : Hid (nb k (bi * 64 + (n - 1)) = (bi * 64 + (n - 1)) % 16) := by show nb _ _ = _; unfold nb; simp [h]
            have hmy : Hid (4 = mny (k + 1)) := by show _ = mny _; unfold mny; simp [Nat.add_mod, h]
            have hk4 : Hid (¬ k % 4 = 0) := by show ¬ _; omega
            rw [hm]
            clear hm hn hr h
            go_wp2
            go_quiet (fail)
            have SQ := Lib.hid (S.out.drewN nq)
            generalize wr.drewN nq = wq at *
            go_wp2_with (first
              | (at_builtin; refine wpList_append_fits _ rfl _ _ 24 rfl w.heap.size 5 i0 1 Try.underlying24 hi hz1 w.heap.size out.length C (out.map (Value.int .u8)) rfl (SQ.out.row.alloc _) ⟨wq.heap.size, 0, none⟩ 1 1 [.int .u8 ((bi * 64 + (n - 1)) / 16)] rfl rfl (World.news_of_block (heap_alloc_new wq _)) (by simp [Value.oneCell']) hroom ?_; intro w2 hown hgrow))
            have S2 := Lib.hid (SQ.out.next hn1 hn2 hk4.out HG.out hx.out hnb.out (Nat.le_refl _) (DeS.lt SQ.out) hDlt hown hgrow)
            clear hown hgrow
            go_roundw
            case rel => exact ⟨k + 1, _, _, by omega, rfl, rfl, by rw [← hmy.out], by simp, S2⟩
            case measure => simp [intOf]; omega
          · have hm : mny k = 4 := by unfold mny; simp [h]
            have hr2 : 0 ≤ bi ∧ bi < 16 := by have := hr; unfold pw at this; simpa [h] using this
            obtain ⟨b0, b1⟩ := hr2
            have hn0 : (n == 0) = false := by simpa using hn
            have hn1 : 1 ≤ n := by omega
            have hn2 : n ≤ 64 := hdr.2
            have hor := or_u32 (a := bi * 64) (b := n - 1) 6 (by omega) (by omega) (by omega) (by omega) (by omega) (by omega)
            have hand : bits .and .u32 (bi * 64 + (n - 1)) 3 = (bi * 64 + (n - 1)) % 4 := and_u32 (a := bi * 64 + (n - 1)) 2 (by omega) (by omega) (by omega)
            have hroom : out.length + 1 ≤ C := by have h1 := S.out.len; have h2 := HC3.out; omega
            have hx : Hid (em k (bi * 64 + (n - 1)) = [(bi * 64 + (n - 1)) / 4]) := by show em _ _ = _; unfold em; simp [h]
            have hnb : Hid (nb k (bi * 64 + (n - 1)) = (bi * 64 + (n - 1)) % 4) := by show nb _ _ = _; unfold nb; simp [h]
            have hmy : Hid (2 = mny (k + 1)) := by show _ = mny _; unfold mny; simp [Nat.add_mod, h]
            have hk4 : Hid (¬ k % 4 = 0) := by show ¬ _; omega
            rw [hm]
            clear hm hn hr h
            go_wp2
            go_quiet (fail)
            have SQ := Lib.hid (S.out.drewN nq)
            generalize wr.drewN nq = wq at *
            go_wp2_with (first
              | (at_builtin; refine wpList_append_fits _ rfl _ _ 24 rfl w.heap.size 5 i0 1 Try.underlying24 hi hz1 w.heap.size out.length C (out.map (Value.int .u8)) rfl (SQ.out.row.alloc _) ⟨wq.heap.size, 0, none⟩ 1 1 [.int .u8 ((bi * 64 + (n - 1)) / 4)] rfl rfl (World.news_of_block (heap_alloc_new wq _)) (by simp [Value.oneCell']) hroom ?_; intro w2 hown hgrow))
            have S2 := Lib.hid (SQ.out.next hn1 hn2 hk4.out HG.out hx.out hnb.out (Nat.le_refl _) (DeS.lt SQ.out) hDlt hown hgrow)
            clear hown hgrow
            go_roundw
            case rel => exact ⟨k + 1, _, _, by omega, rfl, rfl, by rw [← hmy.out], by simp, S2⟩
            case measure => simp [intOf]; omega
          · have hm : mny k = 2 := by unfold mny; simp [h]
            have hr2 : 0 ≤ bi ∧ bi < 4 := by have := hr; unfold pw at this; simpa [h] using this
            obtain ⟨b0, b1⟩ := hr2
            have hn0 : (n == 0) = false := by simpa using hn
            have hn1 : 1 ≤ n := by omega
            have hn2 : n ≤ 64 := hdr.2
            have hor := or_u32 (a := bi * 64) (b := n - 1) 6 (by omega) (by omega) (by omega) (by omega) (by omega) (by omega)
            have hand : bits .and .u32 (bi * 64 + (n - 1)) 0 = (bi * 64 + (n - 1)) % 1 := and_u32 (a := bi * 64 + (n - 1)) 0 (by omega) (by omega) (by omega)
            have hroom : out.length + 1 ≤ C := by have h1 := S.out.len; have h2 := HC3.out; omega
            have hx : Hid (em k (bi * 64 + (n - 1)) = [bi * 64 + (n - 1)]) := by show em _ _ = _; unfold em; simp [h]
            have hnb : Hid (nb k (bi * 64 + (n - 1)) = 0) := by show nb _ _ = _; unfold nb; simp [h]
            have hmy : Hid (0 = mny (k + 1)) := by show _ = mny _; unfold mny; simp [Nat.add_mod, h]
            have hk4 : Hid (¬ k % 4 = 0) := by show ¬ _; omega
            rw [hm]
            clear hm hn hr h
            go_wp2
            go_quiet (fail)
            have SQ := Lib.hid (S.out.drewN nq)
            generalize wr.drewN nq = wq at *
            go_wp2_with (first
              | (at_builtin; refine wpList_append_fits _ rfl _ _ 24 rfl w.heap.size 5 i0 1 Try.underlying24 hi hz1 w.heap.size out.length C (out.map (Value.int .u8)) rfl (SQ.out.row.alloc _) ⟨wq.heap.size, 0, none⟩ 1 1 [.int .u8 (bi * 64 + (n - 1))] rfl rfl (World.news_of_block (heap_alloc_new wq _)) (by simp [Value.oneCell']) hroom ?_; intro w2 hown hgrow))
            have S2 := Lib.hid (SQ.out.next hn1 hn2 hk4.out HG.out hx.out hnb.out (Nat.le_refl _) (DeS.lt SQ.out) hDlt hown hgrow)
            clear hown hgrow
            go_roundw
            case rel => exact ⟨k + 1, _, _, by omega, rfl, rfl, by rw [← hmy.out], by simp, S2⟩
            case measure => simp [intOf]; omega
      · obtain rfl : k = T.size := by omega
        have hgo := S.out.go
        rw [List.drop_eq_nil_of_le (by rw [Array.length_toList]; exact Nat.le_refl _), dgo] at hgo
        have HGO := Lib.hid hgo
        clear hgo
        have hB := S.out.b
        have HEX := Lib.hid (S.out.ex HC3.out)
        have HLEN := Lib.hid (S.out.len.trans HC3.out)
        by_cases hb : bi = 0
        · subst hb
          go_wp2
          go_ret2
          have e : decP s.data.toList = (out, 0) := by rw [hDP.out, ← HGO.out]; simp [finD]
          refine ⟨_, ?_, by rw [e]; exact HEX.out.1, hB⟩
          rw [e, ← HLEN.out]
          rfl
        · have hb0 : (bi != 0) = true := by simpa using hb
          clear hb
          go_wp2
          go_ret2
          refine DecR.fail ?_ hB
          rw [hDP.out, ← HGO.out]
          show (if bi = 0 then _ else _) = _
          rw [if_neg (by simpa using hb0)]
  · have hnn : ((s.size : Int) % 4 != 0) = true := by simp; omega
    have hf := Lib.hid (decP_form (L := s.data.toList) (by rw [hsl]; exact h4))
    clear hsl h4 hD
    go_enter Try.func30, Try.ntmps30
    go_wp2
    go_ret2
    exact DecR.fail hf.out (Below.refl _ _)
end Go.Proofs.Ytbdccfjeeabpaaa
