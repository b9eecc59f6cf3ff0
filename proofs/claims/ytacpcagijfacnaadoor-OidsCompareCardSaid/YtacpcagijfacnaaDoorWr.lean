/- Chapters 6, 7 (oids, oidsets): Parse: pieces, numbers, the search for a piece that is no number. -/
import Derived.Test.YtacpcagijfacnaaDoorWq
namespace Go.Proofs.YtacpcagijfacnaaDoor
open Go.RowKit Go.Shelf
open Go.Proofs.YtacpcagijfacnaaDoorW.PrintWords (gate_guard gate_dst gate_store blk_new blk_below blk_cell blk_alloc blk_lt blk_frozen blk_drew blk_set)
set_option linter.unusedSimpArgs false
set_option linter.unusedVariables false
set_option maxRecDepth 50000
/-- The pieces between the dots. -/
def splitP : List UInt8 → List (List UInt8)
  | [] => [[]]
  | b :: r => if b = 46 then [] :: splitP r else (b :: (splitP r).headD []) :: (splitP r).tail
theorem splitP_ne (l : List UInt8) : splitP l ≠ [] := by
  cases l with
  | nil => simp [splitP]
  | cons b r => unfold splitP; split <;> simp
theorem index_cons46 (b : UInt8) (r : List UInt8) (h : b ≠ 46) : Lib.index (b :: r) [46] = if Lib.index r [46] = -1 then -1 else Lib.index r [46] + 1 := by
  have e : ([46] : List UInt8).isPrefixOf (b :: r) = false := by simp [List.isPrefixOf]; exact fun e => absurd e.symm h
  rw [Lib.index, e]
  by_cases h1 : Lib.index r [46] = -1
  · simp [h1]
  · simp [h1]
theorem index_hit46 (r : List UInt8) : Lib.index (46 :: r) [46] = 0 := by
  have e : ([46] : List UInt8).isPrefixOf (46 :: r) = true := by simp [List.isPrefixOf]
  rw [Lib.index, e]; rfl
theorem split_is46 : ∀ (l : List UInt8), Lib.splitK [46] 0 (Lib.count l [46]) l = splitP l
  | [] => by
    have h : Lib.index ([] : List UInt8) [46] = -1 := rfl
    rw [Lib.count_miss h]; rfl
  | b :: r => by
    have ih := split_is46 r
    by_cases hb : b = 46
    · subst hb
      have h := index_hit46 r
      rw [Lib.count_hit (by simp) (i := 0) h, Nat.add_comm 1]
      simp only [List.length_cons, List.length_nil, Nat.zero_add, List.drop_succ_cons, List.drop_zero]
      rw [Lib.splitK, h]
      simp only [splitP, if_true]
      rw [← ih]
      rfl
    · have h := index_cons46 b r hb
      simp only [splitP, if_neg hb]
      rw [← ih]
      by_cases h1 : Lib.index r [46] = -1
      · rw [if_pos h1] at h
        rw [Lib.count_miss h, Lib.count_miss h1]
        rfl
      · rw [if_neg h1] at h
        obtain ⟨i, hi⟩ : ∃ i : Nat, Lib.index r [46] = i := ⟨(Lib.index r [46]).toNat, by have := Lib.index_ge r [46]; omega⟩
        have h2 : Lib.index (b :: r) [46] = ((i + 1 : Nat) : Int) := by omega
        have hn1 : (Lib.index r [46] == -1) = false := by simpa using h1
        have hn2 : (Lib.index (b :: r) [46] == -1) = false := by rw [h2]; simp; omega
        rw [Lib.count_hit (by simp) h2, Lib.count_hit (by simp) hi, Nat.add_comm 1, Nat.add_comm 1]
        simp only [List.length_cons, List.length_nil, Nat.zero_add]
        rw [Lib.splitK, hn2, Lib.splitK, hn1, h2, hi]
        simp only [Bool.false_eq_true, if_false, Int.toNat_natCast, Nat.add_zero, List.take_succ_cons, List.length_cons, List.length_nil, Nat.zero_add, List.drop_succ_cons, List.headD_cons, List.tail_cons]
theorem splitP_len (l : List UInt8) : (splitP l).length ≤ l.length + 1 := by
  induction l with
  | nil => simp [splitP]
  | cons b r ih =>
    unfold splitP
    split
    · simp; omega
    · have := List.length_pos_iff.mpr (splitP_ne r)
      simp only [List.length_cons, List.length_tail]; omega
theorem splitP_each {l : List UInt8} : ∀ p ∈ splitP l, p.length ≤ l.length := by
  induction l with
  | nil => intro p hp; simp [splitP] at hp; subst hp; simp
  | cons b r ih =>
    intro p hp
    unfold splitP at hp
    split at hp
    · rcases List.mem_cons.mp hp with rfl | hp
      · simp
      · have := ih p hp; simp; omega
    · rcases List.mem_cons.mp hp with rfl | hp
      · obtain ⟨a, t, e⟩ : ∃ a t, splitP r = a :: t := by cases h : splitP r with | nil => exact absurd h (splitP_ne r) | cons a t => exact ⟨a, t, rfl⟩
        rw [e, List.headD_cons, List.length_cons, List.length_cons]
        have := ih a (by rw [e]; simp); omega
      · have := ih p (List.mem_of_mem_tail hp); simp; omega
def strC (P : List (List UInt8)) : Array Value := (P.map fun p => Value.string ⟨p.toArray⟩).toArray
theorem split_call (l : List UInt8) (w : World) (hl : l.length ≤ 1000000) (hT : Tabs w) :
    Calls Tryd.prog 37 #[.string ⟨l.toArray⟩, .string ⟨#[46]⟩] w fun e w' => e = .returned (.slice (some ⟨w.heap.size, 0, none⟩) (splitP l).length (splitP l).length) ∧ w' = w.alloc (.cells (strC (splitP l)) 9) := by
  obtain ⟨m, hm⟩ := hT.ml
  have h := Tryd.strings_Split ⟨l.toArray⟩ ⟨#[46]⟩ m w (by rw [ByteArray.size]; simp; omega) hm (by decide)
  have hd := Lib.splitB_data ⟨#[46]⟩ 0 (Lib.countB ⟨l.toArray⟩ ⟨#[46]⟩) ⟨l.toArray⟩
  have e0 : (⟨l.toArray⟩ : ByteArray).data.toList = l := by simp
  have e1 : (⟨#[46]⟩ : ByteArray).data.toList = [46] := rfl
  have e2 : Lib.countB ⟨l.toArray⟩ ⟨#[46]⟩ = Lib.count l [46] := by show Lib.count _ _ = _; rw [e0, e1]
  rw [e0, e1, e2, split_is46] at hd
  rw [e2] at h
  have hlen : Lib.count l [46] + 1 = (splitP l).length := by
    have : ∀ (k : Nat) (s : List UInt8), Lib.count s [46] = k → (Lib.splitK [46] 0 k s).length = k + 1 := by
      intro k
      induction k with
      | zero => intro s _; rfl
      | succ k ih =>
        intro s hk
        by_cases h1 : Lib.index s [46] = -1
        · rw [Lib.count_miss h1] at hk; cases hk
        · obtain ⟨i, hi⟩ : ∃ i : Nat, Lib.index s [46] = i := ⟨(Lib.index s [46]).toNat, by have := Lib.index_ge s [46]; omega⟩
          rw [Lib.count_hit (by simp) hi] at hk
          have hn1 : (Lib.index s [46] == -1) = false := by simpa using h1
          rw [Lib.splitK, hn1, hi]
          simp only [Bool.false_eq_true, if_false, List.length_cons, Int.toNat_natCast]
          rw [ih _ (by simp only [List.length_cons, List.length_nil] at hk ⊢; omega)]
    rw [← split_is46, this _ _ rfl]
  rw [hlen] at h
  refine h.mono ?_
  rintro e w' ⟨rfl, rfl⟩
  refine ⟨rfl, ?_⟩
  congr 2
  unfold strC
  rw [← hd, List.map_map]
  congr 1
/-- The number that a decimal piece spells. -/
def valA (acc : Nat) (l : List UInt8) : Nat := l.foldl (fun a c => a * 10 + (c.toNat - 48)) acc
theorem valA_nil (acc : Nat) : valA acc [] = acc := rfl
theorem valA_cons (acc : Nat) (c : UInt8) (r : List UInt8) : valA acc (c :: r) = valA (acc * 10 + (c.toNat - 48)) r := by unfold valA; exact List.foldl_cons
def valB (l : List UInt8) : Nat := valA 0 l
theorem valA_ge (l : List UInt8) : ∀ acc, acc ≤ valA acc l := by
  induction l with
  | nil => intro acc; exact Nat.le_refl _
  | cons c r ih => intro acc; rw [valA_cons]; exact Nat.le_trans (by omega) (ih _)
def isDig (c : UInt8) : Bool := decide (48 ≤ c.toNat ∧ c.toNat ≤ 57)
theorem digs_range : ∀ c : Fin 256, digs.contains (UInt8.ofNat c.val) = decide (48 ≤ c.val ∧ c.val ≤ 57) := by decide +kernel
theorem digs_iff (c : UInt8) : digs.contains c = isDig c := by
  have h := digs_range (Fin.mk c.toNat (UInt8.toNat_lt c))
  rw [UInt8.ofNat_toNat] at h
  exact h
theorem all_dig (l : List UInt8) : l.all (digs.contains ·) = l.all isDig := by
  congr 1
  funext c
  exact digs_iff c
theorem parseM (M : Nat) (hM : M < 1844674407370955162) (l : List UInt8) : ∀ acc, acc ≤ M → l.all isDig = true → Lib.parseUintM M acc l = if valA acc l ≤ M then .ok (valA acc l) else .range := by
  induction l with
  | nil => intro acc h _; rw [Lib.parseUintM, valA_nil, if_pos h]
  | cons c r ih =>
    intro acc h hd
    rw [List.all_cons, Bool.and_eq_true] at hd
    have hc' := of_decide_eq_true hd.1
    rw [valA_cons, Lib.parseUintM, if_pos hc', if_neg (by omega)]
    by_cases h2 : M < acc * 10 + (c.toNat - 48)
    · rw [if_pos h2, if_neg]
      have := valA_ge r (acc * 10 + (c.toNat - 48)); omega
    · rw [if_neg h2]
      exact ih _ (by omega) hd.2
theorem decB_all {p : List UInt8} (h : decB p = true) : p ≠ [] ∧ p.all isDig = true := by
  rw [← all_dig]
  cases p with
  | nil => cases h
  | cons b r =>
    refine ⟨by simp, ?_⟩
    simp only [decB, Bool.or_eq_true, Bool.and_eq_true, decide_eq_true_eq] at h
    rcases h with ⟨rfl, rfl⟩ | h
    · decide
    · exact h.2
theorem parse32 {p : List UInt8} (h : decB p = true) : Lib.parseUintB 32 p = if valB p ≤ 4294967295 then .ok (valB p) else .range := by
  obtain ⟨h1, h2⟩ := decB_all h
  unfold Lib.parseUintB
  rw [if_neg h1, parseM _ (by decide) p 0 (by omega) h2]
  rfl
theorem below_bytes (w : World) (t : ByteArray) : Below w.heap.size w (Lib.bytesWorld w 5 t) := Lib.bytesWorld_below w 5 t
theorem pu_ok (p : List UInt8) (w : World) (hl : p.length ≤ 1000000) (hd : decB p = true) (hv : valB p ≤ 4294967295) :
    Calls Tryd.prog 41 #[.string ⟨p.toArray⟩, .int .i64 10, .int .i64 32] w fun e w' => e = .returned (.tuple #[.int .u64 (valB p : Int), .nilIface]) ∧ Below w.heap.size w w' := by
  have h := parse32 hd
  rw [if_pos hv] at h
  refine (Tryd.strconv_ParseUint_10_at32_ok ⟨p.toArray⟩ (by rw [ByteArray.size]; simp; omega) (valB p) (by simpa using h) w).mono ?_
  rintro e w' ⟨rfl, rfl | rfl⟩
  · exact ⟨rfl, Below.refl _ _⟩
  · exact ⟨rfl, below_bytes w _⟩
theorem pu_big (p : List UInt8) (w : World) (hl : p.length ≤ 1000000) (hd : decB p = true) (hv : ¬ valB p ≤ 4294967295) (hT : Tabs w) :
    Calls Tryd.prog 41 #[.string ⟨p.toArray⟩, .int .i64 10, .int .i64 32] w fun e w' => ∃ N, e = .returned (.tuple #[.int .u64 4294967295, .iface 107 (.pointer (some ⟨N, 0, none⟩))]) ∧ Below w.heap.size w w' := by
  have h := parse32 hd
  rw [if_neg hv] at h
  obtain ⟨t, q, he⟩ := hT.er
  refine (Tryd.strconv_ParseUint_10_at32_range ⟨p.toArray⟩ (by rw [ByteArray.size]; simp; omega) (by simpa using h) (.iface t q) w he (.inr ⟨t, q, rfl⟩)).mono ?_
  rintro e w' ⟨N, rfl, _, _, hb⟩
  exact ⟨N, rfl, hb⟩
theorem pfun_is (l : List UInt8) (w : World) (hl : l.length ≤ 1000000) :
    Calls Tryd.prog 39 #[.string ⟨l.toArray⟩] w fun e w' => e = .returned (.bool (!decB l)) ∧ Below w.heap.size w w' := by
  have H := Lib.hid (fun W => decimal_is l W hl)
  generalize decB l = d at *
  go_enter Tryd.func39, Tryd.ntmps39
  go_wp2_with (go_at_call 40; refine (H.out _).mono ?_; rintro e w' ⟨rfl, hb⟩)
  go_ret
  exact ⟨rfl, hb⟩
theorem strC_at {P : List (List UInt8)} {W : World} {G : Nat} (h : W.heap[G]? = some (.cells (strC P) 9 (0, 0))) {j : Nat} (hj : j < P.length) : W.cell? ⟨G, j, none⟩ = some (.string ⟨(P.getD j []).toArray⟩) := by
  rw [blk_cell h j]
  unfold strC
  simp [List.getD, List.getElem?_eq_getElem hj]
theorem dropP_at {P : List (List UInt8)} {k : Nat} (h : k < P.length) : P.drop k = P.getD k [] :: P.drop (k + 1) := by
  rw [List.drop_eq_getElem_cons h]
  congr 1
  simp [List.getD, List.getElem?_eq_getElem h]
set_option maxHeartbeats 2000000 in
theorem ixf_is (P : List (List UInt8)) (G c : Nat) (w : World) (hP : ∀ p ∈ P, p.length ≤ 1000000) (hG : w.heap[G]? = some (.cells (strC P) 9 (0, 0))) (hPl : P.length ≤ 1000001) (hc : P.length ≤ c) :
    Calls Tryd.prog 48 #[.slice (some ⟨G, 0, none⟩) P.length c, .func (.func 39) #[] #[]] w fun e w' => ∃ r : Int, e = .returned (.int .i64 r) ∧ (0 ≤ r ↔ P.all decB = false) ∧ Below w.heap.size w w' := by
  have HP := Lib.hid hP
  have HG := Lib.hid hG
  clear hP hG
  go_enter Tryd.func48, Tryd.ntmps48
  go_upto_region 2 with fail
  go_loopw [8] (fun i W => ∃ j : Nat, j ≤ P.length ∧ i = .int .i64 (j : Int) ∧ Hid (P.all decB = (P.drop j).all decB) ∧ Hid (Below w.heap.size w W)) (fun i _ => P.length - (intOf i).toNat)
  case atStart => exact ⟨0, Nat.zero_le _, rfl, Lib.hid rfl, Below.refl _ _⟩
  case round =>
    obtain ⟨j, hj, rfl, hA, hB⟩ := hrel
    by_cases hlt : j < P.length
    · have cj := strC_at (blk_below HG.out hB.out) hlt
      have hjn : ¬ j = P.length := by omega
      have hpl := HP.out (P.getD j []) (by rw [List.getD_eq_getElem?_getD, List.getElem?_eq_getElem hlt, Option.getD_some]; exact List.getElem_mem hlt)
      have HC := Lib.hid (fun W => pfun_is (P.getD j []) W hpl)
      have hd := hA.out
      rw [dropP_at hlt, List.all_cons] at hd
      clear hA
      generalize P.getD j [] = p at *
      cases hdec : decB p
      · rw [hdec] at HC hd
        have HD := Lib.hid hd
        clear hd
        rw [Bool.not_false] at HC
        go_wp2_with (go_at_call 39; refine (HC.out _).mono ?_; rintro e w' ⟨rfl, hb⟩; have hb' := hB.out.trans (hb.mono hB.out.size))
        go_ret
        exact ⟨_, rfl, by rw [HD.out]; simp, hb'⟩
      · rw [hdec] at HC hd
        rw [Bool.true_and] at hd
        have HD := Lib.hid hd
        clear hd
        rw [Bool.not_true] at HC
        go_wp2_with (go_at_call 39; refine (HC.out _).mono ?_; rintro e w' ⟨rfl, hb⟩; have hb' := Lib.hid (hB.out.trans (hb.mono hB.out.size)))
        go_round
        case rel => exact ⟨j + 1, by omega, by go_num, HD, hb'⟩
        case measure => simp [intOf]; omega
    · obtain rfl : j = P.length := by omega
      have hd := hA.out
      rw [List.drop_length] at hd
      have HD := Lib.hid hd
      clear hA hd
      go_wp2
      go_ret
      exact ⟨_, rfl, by rw [HD.out]; simp, hB.out⟩
theorem cf_is (P : List (List UInt8)) (G c : Nat) (w : World) (hP : ∀ p ∈ P, p.length ≤ 1000000) (hG : w.heap[G]? = some (.cells (strC P) 9 (0, 0))) (hPl : P.length ≤ 1000001) (hc : P.length ≤ c) :
    Calls Tryd.prog 38 #[.slice (some ⟨G, 0, none⟩) P.length c, .func (.func 39) #[] #[]] w fun e w' => e = .returned (.bool (!P.all decB)) ∧ Below w.heap.size w w' := by
  have H := Lib.hid (ixf_is P G c w hP hG hPl hc)
  generalize hd : P.all decB = d at *
  clear hP hG
  go_enter Tryd.func38, Tryd.ntmps38
  go_upto_region 1 with fail
  cases d
  · go_wp2_with (go_at_call 48; refine H.out.mono ?_; rintro e w' ⟨r, rfl, hr, hb⟩; have hr0 : 0 ≤ r := hr.mpr rfl)
    go_ret
    exact ⟨rfl, hb⟩
  · go_wp2_with (go_at_call 48; refine H.out.mono ?_; rintro e w' ⟨r, rfl, hr, hb⟩; have hr0 : ¬ 0 ≤ r := fun h => by cases hr.mp h)
    go_ret
    exact ⟨rfl, hb⟩
end Go.Proofs.YtacpcagijfacnaaDoor
