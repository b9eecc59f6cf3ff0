/- Chapter 22 (armors): strings.Cut at a line feed; the lines of a string. -/
import Derived.Test.YtbdccfjeeabpaaaNh
import Derived.Sort.QuietIn
namespace Go.Proofs.Ytbdccfjeeabpaaa
open Go.RowKit Go.Shelf
attribute [local go_sem] Oper.semAt_some
set_option linter.unusedSimpArgs false
set_option linter.unusedVariables false
set_option maxRecDepth 50000
def lineF (s : List UInt8) : List UInt8 := s.takeWhile (· != 10)
def lineR (s : List UInt8) : List UInt8 := (s.dropWhile (· != 10)).drop 1
theorem ib_none : ∀ s : List UInt8, Lib.indexByte s 10 = -1 → lineF s = s ∧ lineR s = []
  | [], _ => ⟨rfl, rfl⟩
  | b :: l, h => by
    unfold Lib.indexByte at h
    by_cases hb : b = 10
    · rw [if_pos (by simp [hb])] at h; cases h
    · rw [if_neg (by simp [hb])] at h
      by_cases h1 : Lib.indexByte l 10 = -1
      · obtain ⟨e1, e2⟩ := ib_none l h1
        unfold lineF lineR at *
        rw [List.takeWhile_cons_of_pos (by simp [hb]), List.dropWhile_cons_of_pos (by simp [hb]), e1, e2]
        exact ⟨rfl, rfl⟩
      · rw [if_neg (by simpa using h1)] at h
        have := Lib.indexByte_ge l 10
        omega
theorem ib_some : ∀ (s : List UInt8) (k : Nat), Lib.indexByte s 10 = (k : Int) → k < s.length ∧ lineF s = s.take k ∧ lineR s = s.drop (k + 1)
  | [], k, h => by unfold Lib.indexByte at h; omega
  | b :: l, k, h => by
    unfold Lib.indexByte at h
    by_cases hb : b = 10
    · subst hb
      rw [if_pos (by simp)] at h
      obtain rfl : k = 0 := by omega
      exact ⟨by simp, by simp [lineF], by simp [lineR]⟩
    · rw [if_neg (by simp [hb])] at h
      by_cases h1 : Lib.indexByte l 10 = -1
      · rw [if_pos (by simpa using h1)] at h; omega
      · rw [if_neg (by simpa using h1)] at h
        obtain ⟨j, rfl⟩ : ∃ j, k = j + 1 := ⟨k - 1, by have := Lib.indexByte_ge l 10; omega⟩
        obtain ⟨e0, e1, e2⟩ := ib_some l j (by omega)
        unfold lineF lineR at *
        rw [List.takeWhile_cons_of_pos (by simp [hb]), List.dropWhile_cons_of_pos (by simp [hb]), e1, e2]
        exact ⟨by simp; omega, rfl, rfl⟩
theorem ba_eq {a b : ByteArray} (h : a.data.toList = b.data.toList) : a = b := by
  cases a; cases b
  simp only at h
  rw [ByteArray.mk.injEq]
  exact Array.ext' h
set_option maxHeartbeats 1000000 in
theorem cut48_is (s : ByteArray) (w : World) (hs : s.size ≤ 1099511627776) :
    Calls Try.prog 48 #[.string s, .string ⟨#[10]⟩] w fun e w' => (∃ b, e = .returned (.tuple #[.string ⟨(lineF s.data.toList).toArray⟩, .string ⟨(lineR s.data.toList).toArray⟩, .bool b])) ∧ ∃ n, w.drewN n = w' := by
  have hC : ∀ W, Calls Try.prog 51 #[.string s, .string ⟨#[10]⟩] W fun e w' => e = .returned (.int .i64 (Lib.indexByte s.data.toList 10)) ∧ W = w' := fun W => (Try.stringslite_Index_one s 10 W).mono fun _ _ h => ⟨h.1, h.2.symm⟩
  have HC := Lib.hid hC
  clear hC
  have hsl : s.data.toList.length = s.size := by rw [Array.length_toList]; rfl
  have hge := Lib.indexByte_ge s.data.toList 10
  by_cases h1 : Lib.indexByte s.data.toList 10 = -1
  · obtain ⟨e1, e2⟩ := ib_none _ h1
    have E1 := Lib.hid e1
    have E2 := Lib.hid e2
    rw [h1] at HC
    clear e1 e2 h1 hge hsl
    go_enter Try.func48, Try.ntmps48
    go_wp2_with (go_at_call 51; refine (HC.out _).mono ?_; rintro e w' ⟨rfl, rfl⟩)
    go_ret3
    refine ⟨⟨false, ?_⟩, 0, rfl⟩
    rw [E1.out, E2.out]
    rfl
  · obtain ⟨k, hk⟩ : ∃ k : Nat, Lib.indexByte s.data.toList 10 = (k : Int) := ⟨(Lib.indexByte s.data.toList 10).toNat, by omega⟩
    obtain ⟨e0, e1, e2⟩ := ib_some _ _ hk
    rw [hsl] at e0
    have E1 : Hid (s.extract 0 k = ⟨(lineF s.data.toList).toArray⟩) := by
      show _ = _
      refine ba_eq ?_
      rw [e1]; simp
    have E2 : Hid (s.extract (k + 1) s.size = ⟨(lineR s.data.toList).toArray⟩) := by
      show _ = _
      refine ba_eq ?_
      rw [e2]
      simp [List.take_of_length_le]
    rw [hk] at HC
    have hk1 : (0 : Int) ≤ (k : Int) := by omega
    have hk2 : (k : Int) + 1 ≤ (s.size : Int) := by omega
    have hk3 : (k : Int) ≤ (s.size : Int) := by omega
    have hkw : IntKind.i64.wrap ((k : Int) + 1) = (k : Int) + 1 := by rw [IntKind.wrap_i64]; omega
    clear e1 e2 h1 hge hk hsl
    go_enter Try.func48, Try.ntmps48
    go_upto_region 3 with (go_at_call 51; refine (HC.out _).mono ?_; rintro e w' ⟨rfl, rfl⟩)
    go_quiet (fail)
    go_wp2
    go_ret3
    refine ⟨⟨true, ?_⟩, _, rfl⟩
    rw [← E1.out, ← E2.out]
    rfl
theorem cut41_is (s : ByteArray) (w : World) (hs : s.size ≤ 1099511627776) :
    Calls Try.prog 41 #[.string s, .string ⟨#[10]⟩] w fun e w' => (∃ b, e = .returned (.tuple #[.string ⟨(lineF s.data.toList).toArray⟩, .string ⟨(lineR s.data.toList).toArray⟩, .bool b])) ∧ ∃ n, w.drewN n = w' := by
  go_enter Try.func41, Try.ntmps41
  go_wp2_with (go_at_call 48; refine (cut48_is s _ hs).mono ?_; rintro e w' ⟨⟨b, rfl⟩, n, rfl⟩)
  go_ret3
  exact ⟨⟨b, rfl⟩, n, rfl⟩
/-- The lines of a string. -/
theorem lineR_len (s : List UInt8) (h : s ≠ []) : (lineR s).length < s.length := by
  unfold lineR
  rw [List.length_drop]
  have : (s.dropWhile (· != 10)).length ≤ s.length := (List.dropWhile_sublist _).length_le
  have : 0 < s.length := List.length_pos_iff.2 h
  omega
def lns (s : List UInt8) : List (List UInt8) :=
  if h : s = [] then [] else lineF s :: lns (lineR s)
termination_by s.length
decreasing_by exact lineR_len s h
theorem lns_nil : lns [] = [] := by rw [lns, dif_pos rfl]
theorem lns_cons {s : List UInt8} (h : s ≠ []) : lns s = lineF s :: lns (lineR s) := by rw [lns, dif_neg h]
def num : Nat → List (List UInt8) → List (Nat × List UInt8)
  | _, [] => []
  | k, a :: r => (k, a) :: num (k + 1) r
/-- A line with its number. -/
abbrev Li := { x : Nat × List UInt8 // x.1 ≤ 2000000 ∧ x.2.length ≤ 2000000 }
def liE (x : Li) : Array Value := #[.int .i64 (x.1.1 : Int), .string ⟨x.1.2.toArray⟩]
def vals (l : List Li) : List (Nat × List UInt8) := l.map (·.1)
theorem lineF_len (s : List UInt8) : (lineF s).length ≤ s.length := (List.takeWhile_sublist _).length_le
structure LnS (s : List UInt8) (g : Nat) (pre : List Li) (rest : List UInt8) (W : World) : Prop where
  full : num 1 (lns s) = vals pre ++ num (pre.length + 1) (lns rest)
  len : pre.length + rest.length ≤ s.length
  box : W.heap[g]? = some (.cells #[.string ⟨rest.toArray⟩] 9 (0, 0))
theorem grown_drewN (W : World) (n : Nat) (r : Option Nat) : W.grownBy (W.drewN n) r := ⟨rfl, rfl, rfl, Nat.le_refl _, fun _ _ _ => rfl⟩
theorem grown_setCell (W : World) (g : Nat) (v : Value) : W.grownBy (W.setCell ⟨g, 0, none⟩ v) (some g) :=
  ⟨rfl, rfl, rfl, by simp [World.setCell], fun k _ hk => Below.heap_setCell _ _ _ _ (fun e => hk (by rw [e]))⟩
set_option maxHeartbeats 4000000 in
theorem lines1_in (n : Nat) (hn : 1 ≤ n) (l g : Nat) (s : List UInt8) (hs : s.length ≤ 1500000) (J Jx : List Li → World → Prop) (hJb : AbB g J) (hJxb : AbB g Jx)
    (hY : ∀ pre x W, J pre W → isC g W → YieldAt Fence.wide (n - 1) Try.prog l (liE x) W fun e W' =>
      (e = .returned (.bool true) ∧ J (pre ++ [x]) W' ∧ W'.heap[g]? = W.heap[g]?) ∨ (e = .returned (.bool false) ∧ Jx (pre ++ [x]) W'))
    (W : World) (hB : W.heap[g]? = some (.cells #[.string ⟨s.toArray⟩] 9 (0, 0))) (h0' : J [] W) :
    CallsIn Fence.wide n Try.prog 40 #[.func (.yield l) #[] #[], .pointer (some ⟨g, 0, none⟩)] W fun e W' => (∃ v, e = .returned v) ∧
      ((∃ xs, vals xs = num 1 (lns s) ∧ J xs W') ∨ (∃ pre, vals pre <+: num 1 (lns s) ∧ Jx pre W')) := by
  have HY := Lib.hid hY
  have HJ := Lib.hid hJb
  clear hY hJb
  refine callsIn_of_wp Try.func40 rfl trivial ?_ rfl
  simp only [Try.ntmps40, List.size_toArray, List.length_cons, List.length_nil, Nat.reduceAdd, Nat.reduceSub, Array.replicate_succ, Array.replicate_zero, List.push_toArray, List.append_toArray, List.nil_append, List.cons_append]
  gi_wp2
  gi_loopw [3] (fun p wr => ∃ (pre : List Li) (rest : List UInt8), p = .int .i64 ((pre.length : Int) + 1) ∧ Hid (J pre wr) ∧ Hid (LnS s g pre rest wr) ∧ pre.length ≤ s.length) (fun p _ => (s.length + 2 - (intOf p).toNat))
  case atStart => exact ⟨[], s, rfl, Lib.hid h0', Lib.hid ⟨rfl, by simp, hB⟩, by simp⟩
  case round =>
    obtain ⟨pre, rest, rfl, hJ, hL, hpl⟩ := hrel
    have c1 := cell_box hL.out.box
    have hlen := hL.out.len
    by_cases hne : rest = []
    · subst hne
      gi_wp2
      go_end0
      refine ⟨⟨_, rfl⟩, .inl ⟨pre, ?_, hJ.out⟩⟩
      have := hL.out.full
      rw [lns_nil] at this
      rw [this]; simp [num]
    · have hnb : (rest.toArray.toList.isEmpty) = false := by simpa using hne
      have hnb2 : rest.isEmpty = false := by simpa using hne
      have hcut := Lib.hid (fun W => cut41_is (⟨rest.toArray⟩ : ByteArray) W (by simp only [ByteArray.size, List.size_toArray]; omega))
      have hxl := lineF_len rest
      obtain ⟨x, hx⟩ : ∃ x : Li, x.1 = (pre.length + 1, lineF rest) := ⟨⟨(pre.length + 1, lineF rest), by omega, by show (lineF rest).length ≤ _; omega⟩, rfl⟩
      have hxe : liE x = #[.int .i64 ((pre.length : Int) + 1), .string ⟨(lineF rest).toArray⟩] := by unfold liE; rw [hx]; simp
      have hYY : ∀ q, YieldAt Fence.wide (n - 1) Try.prog l #[.int .i64 ((pre.length : Int) + 1), .string ⟨(lineF rest).toArray⟩] (wr.drewN q) fun e W' =>
          (e = .returned (.bool true) ∧ J (pre ++ [x]) W' ∧ W'.heap[g]? = (wr.drewN q).heap[g]?) ∨ (e = .returned (.bool false) ∧ Jx (pre ++ [x]) W') := fun q => by
        rw [← hxe]
        exact HY.out pre x (wr.drewN q) (HJ.out _ _ _ hJ.out (grown_drewN wr q _)) ⟨_, _, hL.out.box⟩
      have HYY := Lib.hid hYY
      have hlr := lineR_len rest hne
      have HX := Lib.hid hx
      have hfull : Hid (num 1 (lns s) = vals (pre ++ [x]) ++ num (pre.length + 1 + 1) (lns (lineR rest))) := by
        show _ = _
        rw [hL.out.full, lns_cons hne, num]
        unfold vals
        rw [List.map_append, List.append_assoc, List.map_singleton, hx]
        rfl
      clear hYY hxe hx
      gi_wp2_with (refine ⟨trivial, ?_⟩; gi_at_call 41; refine (callsIn_wide.2 (hcut.out _)).mono ?_; rintro e W2 ⟨⟨bb, rfl⟩, m, rfl⟩; obtain ⟨fn, tmps, assign, body, hy, hR⟩ := HYY.out m; have HR := Lib.hid hR; clear hR)
      refine HR.out.mono ?_
      rintro e' W3 (⟨rfl, hJ3, hk3⟩ | ⟨rfl, hJx3⟩)
      · have X3 := Lib.hid (hk3.trans hL.out.box)
        have J3 := Lib.hid (HJ.out _ _ _ hJ3 (grown_setCell W3 g (.string ⟨(lineR rest).toArray⟩)))
        have X4 : Hid ((W3.setCell ⟨g, 0, none⟩ (.string ⟨(lineR rest).toArray⟩)).heap[g]? = some (.cells #[.string ⟨(lineR rest).toArray⟩] 9 (0, 0))) := by
          show _ = _
          simp [World.setCell, Array.getElem?_modify, X3.out]
        have c3 := cell_box X3.out
        have f3 : W3.frozen? ⟨g, 0, none⟩ = false := by simp [World.frozen?, X3.out]
        clear hJ3 hk3 c1
        gi_wp2
        go_roundw
        case rel => exact ⟨pre ++ [x], lineR rest, by simp, J3, ⟨by rw [List.length_append, List.length_singleton]; exact hfull.out, by simp; omega, X4.out⟩, by simp; omega⟩
        case measure => simp [intOf]; omega
      · gi_wp2
        refine bodyPost_ret (results_none rfl _ _ _) rfl ?_
        exact ⟨⟨_, rfl⟩, .inr ⟨pre ++ [x], ⟨_, hfull.out.symm⟩, hJx3⟩⟩
theorem lines_stops (n : Nat) (hn : 1 ≤ n) (g : Nat) (s : List UInt8) (hs : s.length ≤ 1500000) (w : World) (hB : w.heap[g]? = some (.cells #[.string ⟨s.toArray⟩] 9 (0, 0))) :
    SeqW n Try.prog 40 #[.pointer (some ⟨g, 0, none⟩)] liE g (fun xs => vals xs = num 1 (lns s)) (fun pre => vals pre <+: num 1 (lns s)) w := fun l J Jx W hW hJ hJx hY h0 =>
  lines1_in n hn l g s hs J Jx hJ hJx hY W (hW.trans hB) h0
theorem lines_in (F : Fence) (n : Nat) (h28 : F.fn 28) (hro : F.round = none) (s : ByteArray) (w : World) :
    CallsIn F n Try.prog 28 #[.string s] w fun e w' => e = .returned (.func (.func 40) #[] #[.pointer (some ⟨w.heap.size, 0, none⟩)]) ∧ w' = w.alloc (.cells #[.string s] 9) := by
  refine callsIn_of_wp Try.func28 rfl h28 ?_ hro
  simp only [Try.ntmps28, List.size_toArray, List.length_cons, List.length_nil, Nat.reduceAdd, Nat.reduceSub, Array.replicate_succ, Array.replicate_zero, List.push_toArray, List.append_toArray, List.nil_append, List.cons_append]
  gi_wp2
  go_ret
  exact ⟨rfl, rfl⟩
end Go.Proofs.Ytbdccfjeeabpaaa
