/- Chapter 10 (times): the contracts of the reader's two closures. -/
import Derived.Test.YtbncjjobdipmgaaDoorWf
import Derived.Lib.ConvBytes
namespace Go.Proofs.YtbncjjobdipmgaaDoor
open Go.RowKit Pl

theorem take_drop_cons (l : List UInt8) (k : Nat) (h : k < l.length) : l.drop k = l[k] :: l.drop (k + 1) := List.drop_eq_getElem_cons h

theorem num_short (B many : Nat) (l : List UInt8) (w : World) (h : l.length < many) (hB : w.heap[B]? = some (.cells #[.string ⟨l.toArray⟩] 9 (0, 0))) :
    Calls Tryd.prog 42 #[.int .i64 many, .pointer (some ⟨B, 0, none⟩)] w fun e w' => e = .returned (.int .i64 (-1)) ∧ w' = w := by
  have hc := cell_of_one hB
  have hf := free_of_one hB
  go_enter Tryd.func42, Tryd.ntmps42
  go_wp2
  go_ret
  exact ⟨rfl, rfl⟩

/-- What a closure leaves: its answer, the string that is left, nothing else turned. -/
def ClosP (B : Nat) (v : Value) (r : ByteArray) (w : World) (e : Ending) (w' : World) : Prop :=
  e = .returned v ∧ w'.heap[B]? = some (.cells #[.string r] 9 (0, 0)) ∧ w.grownBy w' (some B)

theorem grown_bytesWorld (w : World) (e : TypeId) (s : ByteArray) (B : Option Nat) : w.grownBy (Lib.bytesWorld w e s) B := by
  refine ⟨?_, ?_, ?_, ?_, fun k hk _ => Lib.bytesWorld_at_old w e s k hk⟩
  · unfold Lib.bytesWorld World.freeze; split <;> rfl
  · unfold Lib.bytesWorld World.freeze; split <;> rfl
  · unfold Lib.bytesWorld World.freeze; split <;> rfl
  · rw [Lib.bytesWorld_size]; omega
theorem grownBy_same (w : World) (B : Option Nat) : w.grownBy w B := ⟨rfl, rfl, rfl, Nat.le_refl _, fun _ _ _ => rfl⟩
theorem grown_setCell {w w1 : World} {B : Nat} (h : w.grownBy w1 (some B)) (u : Value) : w.grownBy (w1.setCell ⟨B, 0, none⟩ u) (some B) := by
  refine ⟨h.os, h.tape, h.output, ?_, fun k hk hne => ?_⟩
  · have := h.size; simpa [World.setCell] using this
  · rw [← h.block k hk hne]
    refine Below.heap_setCell _ _ _ _ ?_
    show k ≠ B
    intro e; subst e; exact hne rfl

set_option maxHeartbeats 2000000 in
theorem num_gen (B many : Nat) (l : List UInt8) (p q r : ByteArray) (v : Int) (w : World) (hm : many ≤ 4) (hl : many ≤ l.length) (_hlen : l.length ≤ 1000000)
    (hp : Hid (p.data.toList = l.take many)) (hsz : Hid (p.size = many)) (hx : (⟨l.toArray⟩ : ByteArray).extract 0 many = p) (hy : (⟨l.toArray⟩ : ByteArray).extract many l.length = q)
    (HV : Hid (numA (l.take many) 0 = v)) (hbad : Hid (v = -1 → r = ⟨l.toArray⟩)) (hgood : Hid (v ≠ -1 → r = q))
    (hB : w.heap[B]? = some (.cells #[.string ⟨l.toArray⟩] 9 (0, 0))) :
    Calls Tryd.prog 42 #[.int .i64 many, .pointer (some ⟨B, 0, none⟩)] w (ClosP B (.int .i64 v) r w) := by
  have hlB := lt_of_block hB
  have hB' : (Lib.bytesWorld w 5 p).heap[B]? = some (.cells #[.string ⟨l.toArray⟩] 9 (0, 0)) := by rw [Lib.bytesWorld_at_old w 5 p B hlB]; exact hB
  have hc := cell_of_one hB
  have hf := free_of_one hB
  have hc' := cell_of_one hB'
  have hf' := free_of_one hB'
  have hcv := fun (W : World) (s : ByteArray) => Lib.run_convert_string_bytes (P := Tryd.prog) W 9 34 5 s Tryd.underlying9 Tryd.underlying34 Tryd.underlying5
  have hlt : decide (l.length < many) = false := by simp; omega
  have h5 : p.size ≤ 4 := by have := hsz.out; omega
  have HB' := Lib.hid hB'
  have HB := Lib.hid hB
  clear hB hB'
  go_enter Tryd.func42, Tryd.ntmps42
  go_wp2
  go_loop [4, 16] (fun n i => ∃ (k : Nat) (m : Int), k ≤ p.size ∧ i = .int .i64 k ∧ n = .int .i64 m ∧ 0 ≤ m ∧ m ≤ 9999 ∧ Hid (m + 1 ≤ 10 ^ k ∧ numA ((l.take many).drop k) m = v)) (fun _ i => p.size - (intOf i).toNat)
  case atStart => exact ⟨0, 0, by omega, rfl, rfl, by omega, by omega, ⟨by simp, by simpa using HV.out⟩⟩
  case round =>
    obtain ⟨k, m, hk, rfl, rfl, hm0, hm1, HN⟩ := hrel
    by_cases hkl : k < p.size
    · have hkm : k < (l.take many).length := by rw [List.length_take]; have := hsz.out; omega
      obtain ⟨z, hcell, hz0, hz1, HC, HD⟩ : ∃ z : Int, (Lib.bytesWorld w 5 p).cell? ⟨w.heap.size, k, none⟩ = some (.int .u8 z) ∧ 0 ≤ z ∧ z < 256 ∧
          Hid (48 ≤ z → z ≤ 57 → numA ((l.take many).drop (k + 1)) (10 * m + (z - 48)) = v) ∧ Hid (z < 48 ∨ 57 < z → v = -1) := by
        refine ⟨((l.take many)[k].toNat : Int), ?_, by omega, by have := (l.take many)[k].toNat_lt; omega, ?_, ?_⟩
        · rw [Lib.bytesWorld_cell w 5 p k hkl, hp.out, List.getD, List.getElem?_eq_getElem hkm]; rfl
        · intro a b; rw [← HN.2, take_drop_cons _ k hkm, numA_good a b]
        · intro a; rw [← HN.2, take_drop_cons _ k hkm, numA_bad a]
      clear hkm hcv hx hlt
      by_cases hg : 48 ≤ z ∧ z ≤ 57
      · obtain ⟨g0, g1⟩ := hg
        have hpow : m + 1 ≤ 1000 := Int.le_trans HN.1 (by
          have : (10 : Int) ^ k ≤ 10 ^ 3 := by
            have := Nat.pow_le_pow_right (n := 10) (by omega) (show k ≤ 3 by omega)
            exact_mod_cast this
          omega)
        have hpow' : Hid (10 * m + (z - 48) + 1 ≤ 10 ^ (k + 1)) := by
          have := HN.1
          show _ ≤ _
          rw [Int.pow_succ]; omega
        go_wp2
        go_round
        case rel => exact ⟨k + 1, 10 * m + (z - 48), by omega, by go_num, rfl, by omega, by omega, ⟨hpow', HC.out g0 g1⟩⟩
        case measure => simp [intOf]; omega
      · rcases (show z < 48 ∨ 57 < z by omega) with g0 | g0
        · go_wp2
          go_ret
          have hv := HD.out (.inl g0)
          exact ⟨by rw [hv]; rfl, by rw [hbad.out hv]; exact HB'.out, grown_bytesWorld _ _ _ _⟩
        · go_wp2
          go_ret
          have hv := HD.out (.inr g0)
          exact ⟨by rw [hv]; rfl, by rw [hbad.out hv]; exact HB'.out, grown_bytesWorld _ _ _ _⟩
    · have hv : Hid (m = v) := by
        rw [← HN.2, List.drop_eq_nil_of_le (by rw [List.length_take]; have := hsz.out; omega)]; rfl
      have hr : Hid (r = q) := hgood.out (by have := hv.out; omega)
      clear hbad hgood HN HV
      go_wp2
      go_ret
      exact ⟨by rw [hv.out]; rfl, by rw [hr.out]; exact one_setCell HB'.out, grown_setCell (grown_bytesWorld _ _ _ _) _⟩

theorem extract_list (l : List UInt8) (a b : Nat) : (⟨l.toArray⟩ : ByteArray).extract a b = ⟨((l.drop a).take (b - a)).toArray⟩ := by
  apply bytes_ext
  simp [ByteArray.extract, ByteArray.copySlice, List.extract_eq_take_drop]

theorem num_any (B many : Nat) (l : List UInt8) (w : World) (hm : many ≤ 4) (hlen : l.length ≤ 1000000) (hB : w.heap[B]? = some (.cells #[.string ⟨l.toArray⟩] 9 (0, 0))) :
    Calls Tryd.prog 42 #[.int .i64 many, .pointer (some ⟨B, 0, none⟩)] w (ClosP B (.int .i64 (rdv many l)) ⟨(rdr many l).toArray⟩ w) := by
  by_cases h : l.length < many
  · have hv : rdv many l = -1 := by unfold rdv; rw [if_pos h]
    have hr : rdr many l = l := by unfold rdr; rw [if_pos hv]
    rw [hv, hr]
    exact (num_short B many l w h hB).mono fun e w' ⟨a, b⟩ => ⟨a, by rw [b]; exact hB, by rw [b]; exact ⟨rfl, rfl, rfl, Nat.le_refl _, fun _ _ _ => rfl⟩⟩
  · have hv : rdv many l = numA (l.take many) 0 := by unfold rdv; rw [if_neg h]
    refine num_gen B many l ⟨(l.take many).toArray⟩ ⟨(l.drop many).toArray⟩ ⟨(rdr many l).toArray⟩ (rdv many l) w hm (by omega) hlen rfl ?_ ?_ ?_ hv.symm ?_ ?_ hB
    · show _ = _; rw [bytes_size, List.length_take]; omega
    · rw [extract_list]; simp
    · rw [extract_list, List.take_of_length_le (by simp)]
    · intro e; unfold rdr; rw [if_pos e]
    · intro e; unfold rdr; rw [if_neg e]

theorem must_nil (B : Nat) (c : Int) (w : World) (hB : w.heap[B]? = some (.cells #[.string ⟨#[]⟩] 9 (0, 0))) :
    Calls Tryd.prog 43 #[.int .u8 c, .pointer (some ⟨B, 0, none⟩)] w fun e w' => e = .returned (.bool false) ∧ w' = w := by
  have hc := cell_of_one hB
  have hf := free_of_one hB
  go_enter Tryd.func43, Tryd.ntmps43
  go_wp2
  go_ret
  exact ⟨rfl, rfl⟩
theorem must_yes (B : Nat) (d : UInt8) (r : List UInt8) (q : ByteArray) (w : World) (hlen : r.length ≤ 1000000) (hy : (⟨(d :: r).toArray⟩ : ByteArray).extract 1 (r.length + 1) = q)
    (hB : w.heap[B]? = some (.cells #[.string ⟨(d :: r).toArray⟩] 9 (0, 0))) :
    Calls Tryd.prog 43 #[.int .u8 (d.toNat : Int), .pointer (some ⟨B, 0, none⟩)] w (ClosP B (.bool true) q w) := by
  have hc := cell_of_one hB
  have hf := free_of_one hB
  have HB := Lib.hid hB
  clear hB
  have h0 : ∀ hp, ((⟨(d :: r).toArray⟩ : ByteArray)[0]'hp) = d := fun _ => rfl
  go_enter Tryd.func43, Tryd.ntmps43
  go_wp2
  go_ret
  exact ⟨rfl, one_setCell HB.out, grown_setCell (grownBy_same _ _) _⟩
theorem must_no (B : Nat) (c : Int) (d : UInt8) (r : List UInt8) (w : World) (_hlen : r.length ≤ 1000000) (hne : ((d.toNat : Int) != c) = true)
    (hB : w.heap[B]? = some (.cells #[.string ⟨(d :: r).toArray⟩] 9 (0, 0))) :
    Calls Tryd.prog 43 #[.int .u8 c, .pointer (some ⟨B, 0, none⟩)] w fun e w' => e = .returned (.bool false) ∧ w' = w := by
  have hc := cell_of_one hB
  have hf := free_of_one hB
  clear hB
  have h0 : ∀ hp, ((⟨(d :: r).toArray⟩ : ByteArray)[0]'hp) = d := fun _ => rfl
  go_enter Tryd.func43, Tryd.ntmps43
  go_wp2
  go_ret
  exact ⟨rfl, rfl⟩

theorem must_any (B : Nat) (c : UInt8) (l : List UInt8) (w : World) (hlen : l.length ≤ 1000000) (hB : w.heap[B]? = some (.cells #[.string ⟨l.toArray⟩] 9 (0, 0))) :
    Calls Tryd.prog 43 #[.int .u8 (c.toNat : Int), .pointer (some ⟨B, 0, none⟩)] w (ClosP B (.bool (mst c l)) ⟨(msr c l).toArray⟩ w) := by
  match l, hlen, hB with
  | [], _, hB => exact (must_nil B c.toNat w hB).mono fun e w' ⟨a, b⟩ => ⟨a, by rw [b]; exact hB, by rw [b]; exact grownBy_same _ _⟩
  | d :: r, hlen, hB =>
    by_cases h : d = c
    · subst h
      have h1 : mst d (d :: r) = true := by simp [mst]
      have h2 : msr d (d :: r) = r := by simp [msr]
      rw [h1, h2]
      refine must_yes B d r ⟨r.toArray⟩ w (by simp at hlen; omega) ?_ hB
      rw [extract_list]; simp
    · have h1 : mst c (d :: r) = false := by simp [mst, h]
      have h2 : msr c (d :: r) = d :: r := by simp [msr, h]
      rw [h1, h2]
      refine (must_no B c.toNat d r w (by simp at hlen; omega) ?_ hB).mono fun e w' ⟨a, b⟩ => ⟨a, by rw [b]; exact hB, by rw [b]; exact grownBy_same _ _⟩
      rw [bne_iff_ne]
      intro e
      exact h (UInt8.toNat_inj.mp (by omega))
end Go.Proofs.YtbncjjobdipmgaaDoor
