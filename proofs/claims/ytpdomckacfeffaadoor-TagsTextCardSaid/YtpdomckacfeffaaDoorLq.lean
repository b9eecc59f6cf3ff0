/- Chapter 2 (tags): the reference's Parse, by trying. -/
import Derived.Test.YtpdomckacfeffaaDoorLp
import Derived.Test.YtpdomckacfeffaaDoorRu
namespace Go.Proofs.YtpdomckacfeffaaDoor
open Go.RowKit Go.Shelf
open Go.Proofs.YtpdomckacfeffaaDoorW.PrintWords (rd at_rounds rdOf bt Ev)
set_option linter.unusedSimpArgs false
set_option linter.unusedVariables false

theorem rchk_more (k : Nat) (hk : 4 ≤ k) (cl : Int) (co : Bool) (nu : Int) : Pr.vidimusref02_Check.f k cl co nu = some (chk cl co nu) :=
  at_rounds (Pr.vidimusref02_Check.mono cl co nu) hk (rcheck_f cl co nu)
theorem size_mk (l : List UInt8) : ((⟨l.toArray⟩ : ByteArray).size : Int) = (l.length : Int) := by
  show ((l.toArray.size : Nat) : Int) = _; simp
theorem bt_mid (pre : List UInt8) (c : UInt8) (t : List UInt8) : bt ⟨(pre ++ c :: t).toArray⟩ (pre.length : Int) = (c.toNat : Int) := by
  unfold bt
  have h : ((pre.length : Int)).toNat < (⟨(pre ++ c :: t).toArray⟩ : ByteArray).size := by show _ < (pre ++ c :: t).toArray.size; simp
  rw [dif_pos h]
  congr 2
  show (pre ++ c :: t).toArray[((pre.length : Int)).toNat] = c
  simp
abbrev PP := Int × Bool × Int × Int
def six : PP := (0, false, 0, 6)
/-- What a list splits in at its first space. -/
theorem split32 : ∀ l : List UInt8, ∃ a r, l = a ++ r ∧ (∀ c ∈ a, c ≠ 32) ∧ (r = [] ∨ ∃ t, r = 32 :: t)
  | [] => ⟨[], [], rfl, by simp, .inl rfl⟩
  | c :: l => by
    by_cases h : c = 32
    · exact ⟨[], c :: l, rfl, by simp, .inr ⟨l, by rw [h]⟩⟩
    · obtain ⟨a, r, rfl, ha, hr⟩ := split32 l
      exact ⟨c :: a, r, rfl, by intro d hd; rcases List.mem_cons.mp hd with rfl | hd; exact h; exact ha d hd, hr⟩
theorem ne32 {c : UInt8} (h : c ≠ 32) : ¬ ((c.toNat : Int) = 32) := fun e => h (UInt8.toNat_inj.mp (by show c.toNat = 32; omega))
theorem wr (n : Nat) (h : n < 1000000) : wrap64 ((n : Int) + 1) = ((n + 1 : Nat) : Int) := by unfold wrap64; omega
/-- The scan to the first space. -/
theorem scan0 (r0 : PP) (r : List UInt8) (hr : r = [] ∨ ∃ t, r = 32 :: t) : ∀ (a pre : List UInt8), (∀ c ∈ a, c ≠ 32) → (pre ++ a ++ r).length < 1000 →
    Ev (fun k => Pr.vidimusref02_Parse.j1 k ⟨(pre ++ a ++ r).toArray⟩ ((pre.length + a.length : Nat) : Int)) r0 → Ev (fun k => Pr.vidimusref02_Parse.l0 k ⟨(pre ++ a ++ r).toArray⟩ (pre.length : Int)) r0
  | [], pre, _, hl, h => by
    rw [List.append_nil] at h hl ⊢
    rw [List.length_nil, Nat.add_zero] at h
    refine Ev.step (fun k => ?_) h
    rcases hr with rfl | ⟨t, rfl⟩
    · rw [Pr.vidimusref02_Parse.l0, size_mk, if_neg (by simp)]
    · rw [Pr.vidimusref02_Parse.l0, size_mk, if_pos (by simp; omega), if_pos (by omega), bt_mid, if_pos (by decide)]
  | c :: a, pre, ha, hl, h => by
    have hc := ha c (by simp)
    have e : pre ++ (c :: a) ++ r = (pre ++ [c]) ++ a ++ r := by simp
    have ih := scan0 r0 r hr a (pre ++ [c]) (fun d hd => ha d (by simp [hd])) (by rw [← e]; exact hl) (by rw [← e]; simpa [Nat.add_assoc, Nat.add_comm 1] using h)
    rw [← e, List.length_append, List.length_singleton] at ih
    refine Ev.step (fun k => ?_) ih
    have hlp : pre.length < 1000 := by simp at hl; omega
    rw [Pr.vidimusref02_Parse.l0, size_mk, if_pos (by simp; omega), if_pos (by omega)]
    rw [show pre ++ (c :: a) ++ r = pre ++ c :: (a ++ r) by simp, bt_mid, if_neg (ne32 hc), wr _ (by omega)]
theorem scan1 (r0 : PP) (x4 : Int) (r : List UInt8) (hr : r = [] ∨ ∃ t, r = 32 :: t) : ∀ (a pre : List UInt8), (∀ c ∈ a, c ≠ 32) → (pre ++ a ++ r).length < 1000 →
    Ev (fun k => Pr.vidimusref02_Parse.j3 k ⟨(pre ++ a ++ r).toArray⟩ x4 ((pre.length + a.length : Nat) : Int)) r0 → Ev (fun k => Pr.vidimusref02_Parse.l1 k ⟨(pre ++ a ++ r).toArray⟩ x4 (pre.length : Int)) r0
  | [], pre, _, hl, h => by
    rw [List.append_nil] at h hl ⊢
    rw [List.length_nil, Nat.add_zero] at h
    refine Ev.step (fun k => ?_) h
    rcases hr with rfl | ⟨t, rfl⟩
    · rw [Pr.vidimusref02_Parse.l1, size_mk, if_neg (by simp)]
    · rw [Pr.vidimusref02_Parse.l1, size_mk, if_pos (by simp; omega), if_pos (by omega), bt_mid, if_pos (by decide)]
  | c :: a, pre, ha, hl, h => by
    have hc := ha c (by simp)
    have e : pre ++ (c :: a) ++ r = (pre ++ [c]) ++ a ++ r := by simp
    have ih := scan1 r0 x4 r hr a (pre ++ [c]) (fun d hd => ha d (by simp [hd])) (by rw [← e]; exact hl) (by rw [← e]; simpa [Nat.add_assoc, Nat.add_comm 1] using h)
    rw [← e, List.length_append, List.length_singleton] at ih
    refine Ev.step (fun k => ?_) ih
    have hlp : pre.length < 1000 := by simp at hl; omega
    rw [Pr.vidimusref02_Parse.l1, size_mk, if_pos (by simp; omega), if_pos (by omega)]
    rw [show pre ++ (c :: a) ++ r = pre ++ c :: (a ++ r) by simp, bt_mid, if_neg (ne32 hc), wr _ (by omega)]
theorem step10 (n x : Nat) (h : 10 * n + (x - 48) < 1000000000) (h0 : 48 ≤ x) (h1 : x ≤ 57) : wrap64 (wrap64 (10 * (n : Int)) + ((x : Int) - 48) % 256) = ((10 * n + (x - 48) : Nat) : Int) := by
  rw [show ((x : Int) - 48) % 256 = (x : Int) - 48 by omega, show wrap64 (10 * (n : Int)) = 10 * (n : Int) by unfold wrap64; omega]
  unfold wrap64; omega
def isD (c : UInt8) : Prop := 48 ≤ c.toNat ∧ c.toNat ≤ 57
/-- The digits. -/
theorem digs (r0 : PP) (r : List UInt8) : ∀ (a pre : List UInt8) (n : Nat), (∀ c ∈ a, isD c) → (pre ++ a ++ r).length < 1000 → (n + 1) * 10 ^ a.length ≤ 10 ^ 9 →
    Ev (fun k => Pr.vidimusref02_Parse.l3 k ⟨(pre ++ a ++ r).toArray⟩ (val n a : Nat) 0) r0 → Ev (fun k => Pr.vidimusref02_Parse.l2 k ⟨(pre ++ a ++ r).toArray⟩ ((pre.length + a.length : Nat) : Int) (n : Int) (pre.length : Int)) r0
  | [], pre, n, _, hl, hn, h => by
    refine Ev.step (fun k => ?_) h
    rw [Pr.vidimusref02_Parse.l2, if_neg (by simp)]
    rfl
  | c :: a, pre, n, ha, hl, hn, h => by
    have hc := ha c (by simp)
    unfold isD at hc
    have e : pre ++ (c :: a) ++ r = (pre ++ [c]) ++ a ++ r := by simp
    have hpos : 0 < 10 ^ a.length := Nat.pos_of_ne_zero (by simp)
    have hn2 : (10 * n + (c.toNat - 48) + 1) * 10 ^ a.length ≤ 10 ^ 9 := by
      refine Nat.le_trans (Nat.mul_le_mul_right _ (show 10 * n + (c.toNat - 48) + 1 ≤ 10 * (n + 1) by omega)) ?_
      rw [List.length_cons, Nat.pow_succ] at hn
      calc 10 * (n + 1) * 10 ^ a.length = (n + 1) * (10 ^ a.length * 10) := by rw [Nat.mul_comm 10 (n + 1), Nat.mul_assoc, Nat.mul_comm 10]
        _ ≤ _ := hn
    have hn3 : 10 * n + (c.toNat - 48) + 1 ≤ 10 ^ 9 := Nat.le_trans (Nat.le_mul_of_pos_right _ hpos) hn2
    have ih := digs r0 r a (pre ++ [c]) (10 * n + (c.toNat - 48)) (fun d hd => ha d (by simp [hd])) (by rw [← e]; exact hl) hn2 (by rw [← e]; exact h)
    rw [← e, List.length_append, List.length_singleton] at ih
    refine Ev.step (fun k => ?_) ih
    have hlp : pre.length < 1000 := by simp at hl; omega
    have hlt : (pre.length : Int) < ((pre ++ c :: a ++ r).length : Int) := by simp; omega
    rw [Pr.vidimusref02_Parse.l2, size_mk, if_pos (by simp; omega), if_pos (by omega), if_pos hlt]
    rw [show pre ++ (c :: a) ++ r = pre ++ c :: (a ++ r) by simp, bt_mid, if_neg (by omega), if_neg (by omega), wr _ (by omega)]
    rw [step10 n c.toNat (by have e9 : (10 : Nat) ^ 9 = 1000000000 := by decide
                             rw [e9] at hn3; clear hn hn2; omega) hc.1 hc.2]
    rw [show pre.length + 1 + a.length = pre.length + (c :: a).length by simp; omega]
theorem digs_bad (r : List UInt8) : ∀ (a pre : List UInt8) (n : Int), (∃ c ∈ a, ¬ isD c) → (pre ++ a ++ r).length < 1000 →
    Ev (fun k => Pr.vidimusref02_Parse.l2 k ⟨(pre ++ a ++ r).toArray⟩ ((pre.length + a.length : Nat) : Int) n (pre.length : Int)) six
  | [], pre, n, ⟨c, hc, _⟩, hl => by cases hc
  | c :: a, pre, n, hb, hl => by
    have e : pre ++ (c :: a) ++ r = (pre ++ [c]) ++ a ++ r := by simp
    have hlp : pre.length < 1000 := by simp at hl; omega
    have hlt : (pre.length : Int) < ((pre ++ c :: a ++ r).length : Int) := by simp; omega
    by_cases hc : isD c
    · have ih := digs_bad r a (pre ++ [c]) (wrap64 (wrap64 (10 * n) + ((c.toNat : Int) - 48) % 256)) (by
        obtain ⟨d, hd, hdb⟩ := hb
        rcases List.mem_cons.mp hd with rfl | hd
        · exact absurd hc hdb
        · exact ⟨d, hd, hdb⟩) (by rw [← e]; exact hl)
      unfold isD at hc
      rw [← e, List.length_append, List.length_singleton] at ih
      refine Ev.step (fun k => ?_) ih
      rw [Pr.vidimusref02_Parse.l2, size_mk, if_pos (by simp; omega), if_pos (by omega), if_pos hlt]
      rw [show pre ++ (c :: a) ++ r = pre ++ c :: (a ++ r) by simp, bt_mid, if_neg (by omega), if_neg (by omega), wr _ (by omega)]
      rw [show pre.length + 1 + a.length = pre.length + (c :: a).length by simp; omega]
    · unfold isD at hc
      refine Ev.step (f := fun _ => some six) (fun k => ?_) (Ev.now _)
      rw [Pr.vidimusref02_Parse.l2, size_mk, if_pos (by simp; omega), if_pos (by omega), if_pos hlt]
      rw [show pre ++ (c :: a) ++ r = pre ++ c :: (a ++ r) by simp, bt_mid]
      by_cases h1 : (c.toNat : Int) < 48
      · rw [if_pos h1]; rfl
      · rw [if_neg h1, if_pos (by omega)]; rfl
/-- The outcome at a tag whose text it is. -/
def hit (cl : Int) (co : Bool) (n : Int) : PP := if chk cl co n = 0 then (cl, co, n, 0) else (0, false, 0, chk cl co n)
def cand (L : List UInt8) (n : Int) (cl : Int) (co : Bool) (e : PP) : PP := if n ≤ 268435455 ∧ txt cl co n = L then hit cl co n else e
def cands (L : List UInt8) (n : Int) : PP := cand L n 0 false (cand L n 0 true (cand L n 1 false (cand L n 1 true (cand L n 2 false (cand L n 2 true (cand L n 3 false (cand L n 3 true six)))))))
theorem try_one (L : List UInt8) (n : Int) (n0 : 0 ≤ n) (n1 : n < 1000000000) (cl : Int) (h0 : 0 ≤ cl) (h1 : cl ≤ 3) (j : Int) (hj : j = 0 ∨ j = 1) (e : PP)
    (h : Ev (fun k => Pr.vidimusref02_Parse.l4 k ⟨L.toArray⟩ n cl (j + 1)) e) : Ev (fun k => Pr.vidimusref02_Parse.l4 k ⟨L.toArray⟩ n cl j) (cand L n cl (j == 1) e) := by
  have w : wrap64 (j + 1) = j + 1 := by unfold wrap64; omega
  obtain ⟨K, hK⟩ := h
  unfold cand
  by_cases hb : n ≤ 268435455
  · obtain ⟨K2, ht⟩ := rtext_ev cl (j == 1) n h0 h1 n0 (by omega)
    refine ⟨K + K2 + 10, fun k hk => ?_⟩
    obtain ⟨k, rfl⟩ : ∃ m, k = m + 2 := ⟨k - 2, by omega⟩
    have ht := ht (k + 1) (by omega)
    have hK := hK k (by omega)
    simp only at ht hK
    show Pr.vidimusref02_Parse.l4 (k + 1 + 1) _ n cl j = _
    rw [Pr.vidimusref02_Parse.l4, if_pos (by omega), if_pos hb, show cl % 256 = cl by omega, show n % 4294967296 = n by omega, ht, Option.bind_some, Pr.vidimusref02_Parse.j8, ByteArray.toList_mk, ByteArray.toList_mk]
    by_cases he : txt cl (j == 1) n = L
    · rw [if_pos (by rw [he]; simp), if_pos ⟨hb, he⟩, rchk_more k (by omega), Option.bind_some]
      unfold hit
      by_cases hc : chk cl (j == 1) n = 0
      · rw [if_pos hc, if_pos hc]
      · rw [if_neg hc, if_neg hc]
    · rw [if_neg (by simpa using he), if_neg (fun h => he h.2), w]
      exact hK
  · refine ⟨K + 10, fun k hk => ?_⟩
    obtain ⟨k, rfl⟩ : ∃ m, k = m + 2 := ⟨k - 2, by omega⟩
    have hK := hK k (by omega)
    simp only at hK
    show Pr.vidimusref02_Parse.l4 (k + 1 + 1) _ n cl j = _
    rw [Pr.vidimusref02_Parse.l4, if_pos (by omega), if_neg hb, Pr.vidimusref02_Parse.j8, if_neg (by decide), if_neg (fun h => hb h.1), w]
    exact hK
theorem try_class (L : List UInt8) (n : Int) (n0 : 0 ≤ n) (n1 : n < 1000000000) (cl : Int) (h0 : 0 ≤ cl) (h1 : cl ≤ 3) (e : PP)
    (h : Ev (fun k => Pr.vidimusref02_Parse.l3 k ⟨L.toArray⟩ n (cl + 1)) e) : Ev (fun k => Pr.vidimusref02_Parse.l3 k ⟨L.toArray⟩ n cl) (cand L n cl false (cand L n cl true e)) := by
  have h2 : Ev (fun k => Pr.vidimusref02_Parse.l4 k ⟨L.toArray⟩ n cl (1 + 1)) e := by
    refine Ev.step (fun k => ?_) h
    rw [Pr.vidimusref02_Parse.l4, if_neg (by omega), show wrap64 (cl + 1) = cl + 1 by unfold wrap64; omega]
  have h3 := try_one L n n0 n1 cl h0 h1 1 (.inr rfl) e h2
  have h4 := try_one L n n0 n1 cl h0 h1 0 (.inl rfl) _ h3
  refine Ev.step (fun k => ?_) h4
  rw [Pr.vidimusref02_Parse.l3, if_pos (by omega)]
theorem try_all (L : List UInt8) (n : Int) (n0 : 0 ≤ n) (n1 : n < 1000000000) : Ev (fun k => Pr.vidimusref02_Parse.l3 k ⟨L.toArray⟩ n 0) (cands L n) := by
  refine try_class L n n0 n1 0 (by omega) (by omega) _ ?_
  refine try_class L n n0 n1 1 (by omega) (by omega) _ ?_
  refine try_class L n n0 n1 2 (by omega) (by omega) _ ?_
  refine try_class L n n0 n1 3 (by omega) (by omega) _ ?_
  refine Ev.step (f := fun _ => some six) (fun k => ?_) (Ev.now _)
  rw [Pr.vidimusref02_Parse.l3, if_neg (by omega)]; rfl
/-- No space: no text. -/
theorem rparse_none (L : List UInt8) (hl : L.length < 1000) (h : ∀ c ∈ L, c ≠ 32) : Ev (fun k => Pr.vidimusref02_Parse.f k ⟨L.toArray⟩) six := by
  have h0 := scan0 six [] (.inl rfl) L [] h (by simpa using hl) (by
    refine Ev.step (fun k => ?_) (f := fun k => Pr.vidimusref02_Parse.l1 k ⟨L.toArray⟩ (L.length : Int) ((L.length + 1 : Nat) : Int)) ?_
    · rw [Pr.vidimusref02_Parse.j1, List.length_nil, Nat.zero_add, wr _ (by omega)]; simp
    refine Ev.step (fun k => ?_) (f := fun k => Pr.vidimusref02_Parse.j3 k ⟨L.toArray⟩ (L.length : Int) ((L.length + 1 : Nat) : Int)) ?_
    · rw [Pr.vidimusref02_Parse.l1, size_mk, if_neg (by omega)]
    refine Ev.step (fun k => ?_) (f := fun k => Pr.vidimusref02_Parse.j4 k ⟨L.toArray⟩ (L.length : Int) ((L.length + 1 : Nat) : Int) true) ?_
    · rw [Pr.vidimusref02_Parse.j3, size_mk, if_neg (by unfold wrap64; omega), decide_eq_true (by omega)]
    refine Ev.step (f := fun _ => some six) (fun k => ?_) (Ev.now _)
    rw [Pr.vidimusref02_Parse.j4, if_pos rfl]; rfl)
  simpa [Pr.vidimusref02_Parse.f] using h0
/-- A space, and what stands behind it up to the next one. -/
theorem rparse_some (a d r : List UInt8) (hl : (a ++ 32 :: (d ++ r)).length < 1000) (ha : ∀ c ∈ a, c ≠ 32) (hd : ∀ c ∈ d, c ≠ 32) (hr : r = [] ∨ ∃ t, r = 32 :: t) :
    Ev (fun k => Pr.vidimusref02_Parse.f k ⟨(a ++ 32 :: (d ++ r)).toArray⟩) (open Classical in if d.length ≤ 9 ∧ ∀ c ∈ d, isD c then cands (a ++ 32 :: (d ++ r)) (val 0 d : Nat) else six) := by
  have hla : a.length + d.length + 1 < 1000 := by simp at hl; omega
  generalize hres : (open Classical in if d.length ≤ 9 ∧ ∀ c ∈ d, isD c then cands (a ++ 32 :: (d ++ r)) (val 0 d : Nat) else six) = res
  have hj3 : Ev (fun k => Pr.vidimusref02_Parse.j3 k ⟨((a ++ [32]) ++ d ++ r).toArray⟩ (a.length : Int) (((a ++ [32]).length + d.length : Nat) : Int)) res := by
    have el : (a ++ [32]) ++ d ++ r = a ++ 32 :: (d ++ r) := by simp
    have el2 : (a ++ [32]).length = a.length + 1 := by simp
    by_cases h9 : d.length ≤ 9
    · refine Ev.step (fun k => ?_) (f := fun k => Pr.vidimusref02_Parse.j4 k ⟨((a ++ [32]) ++ d ++ r).toArray⟩ (a.length : Int) (((a ++ [32]).length + d.length : Nat) : Int) false) ?_
      · rw [Pr.vidimusref02_Parse.j3, size_mk, if_neg (by rw [el2]; unfold wrap64; omega), decide_eq_false (by simp; omega)]
      refine Ev.step (fun k => ?_) (f := fun k => Pr.vidimusref02_Parse.l2 k ⟨((a ++ [32]) ++ d ++ r).toArray⟩ (((a ++ [32]).length + d.length : Nat) : Int) ((0 : Nat) : Int) ((a ++ [32]).length : Int)) ?_
      · rw [Pr.vidimusref02_Parse.j4, if_neg (by decide), wr _ (by omega), el2]; rfl
      by_cases hdg : ∀ c ∈ d, isD c
      · have hp : (0 + 1) * 10 ^ d.length ≤ 10 ^ 9 := by rw [Nat.zero_add, Nat.one_mul]; exact Nat.pow_le_pow_right (by omega) h9
        refine digs res r d (a ++ [32]) 0 hdg (by rw [el]; exact hl) hp ?_
        have hv : val 0 d < 1000000000 := by
          have : ∀ (l : List UInt8) (n : Nat), (∀ c ∈ l, isD c) → val n l + 1 ≤ (n + 1) * 10 ^ l.length := by
            intro l
            induction l with
            | nil => intro n _; simp [val]
            | cons c l ih =>
              intro n hc
              have h1 := hc c (by simp)
              unfold isD at h1
              have h2 := ih (10 * n + (c.toNat - 48)) (fun x hx => hc x (by simp [hx]))
              have h3 : (10 * n + (c.toNat - 48) + 1) * 10 ^ l.length ≤ 10 * (n + 1) * 10 ^ l.length := Nat.mul_le_mul_right _ (by omega)
              have h4 : 10 * (n + 1) * 10 ^ l.length = (n + 1) * 10 ^ (c :: l).length := by rw [List.length_cons, Nat.pow_succ, Nat.mul_comm 10 (n + 1), Nat.mul_assoc, Nat.mul_comm 10]
              show val (10 * n + (c.toNat - 48)) l + 1 ≤ _
              omega
          have := this d 0 hdg
          omega
        have := try_all (a ++ 32 :: (d ++ r)) (val 0 d : Nat) (by omega) (by omega)
        rw [← hres, if_pos ⟨h9, hdg⟩, el]
        exact this
      · rw [← hres, if_neg (fun h => hdg h.2)]
        refine digs_bad r d (a ++ [32]) _ ?_ (by rw [el]; exact hl)
        exact Classical.byContradiction fun h => hdg fun c hc => Classical.byContradiction fun h2 => h ⟨c, hc, h2⟩
    · refine Ev.step (fun k => ?_) (f := fun k => Pr.vidimusref02_Parse.j4 k ⟨((a ++ [32]) ++ d ++ r).toArray⟩ (a.length : Int) (((a ++ [32]).length + d.length : Nat) : Int) true) ?_
      · rw [Pr.vidimusref02_Parse.j3, if_pos (by rw [el2]; unfold wrap64; omega)]
      rw [← hres, if_neg (fun h => h9 h.1)]
      refine Ev.step (f := fun _ => some six) (fun k => ?_) (Ev.now _)
      rw [Pr.vidimusref02_Parse.j4, if_pos rfl]; rfl
  have hl1 := scan1 res (a.length : Int) r hr d (a ++ [32]) hd (by simp at hl ⊢; omega) hj3
  have el : (a ++ [32]) ++ d ++ r = a ++ 32 :: (d ++ r) := by simp
  rw [el] at hl1
  have h0 := scan0 res (32 :: (d ++ r)) (.inr ⟨_, rfl⟩) a [] ha (by simpa using hl) (by
    refine Ev.step (fun k => ?_) hl1
    rw [Pr.vidimusref02_Parse.j1, List.length_nil, Nat.zero_add, wr _ (by omega)]; simp)
  simpa [Pr.vidimusref02_Parse.f] using h0
end Go.Proofs.YtpdomckacfeffaaDoor
