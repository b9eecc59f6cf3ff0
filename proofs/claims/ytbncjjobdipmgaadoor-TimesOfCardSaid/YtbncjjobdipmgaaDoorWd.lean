/- Chapter 10 (times): the contract of digits. -/
import Derived.Test.YtbncjjobdipmgaaDoorWc
import Derived.Lib.ItoaLen
namespace Go.Proofs.YtbncjjobdipmgaaDoor
open Go.RowKit Pl

theorem below_grow (w : World) (k : Nat) (os : Array Obj) : Below w.heap.size w (Sort.grow (w.drewN k) os) := by
  refine ⟨rfl, rfl, rfl, ?_, fun i hi => ?_⟩
  · simp [Sort.grow, World.drewN]
  · simp [Sort.grow, World.drewN, Array.getElem?_append, hi]

theorem itoa_any (n : Int) (h0 : 0 ≤ n) (h1 : n ≤ 9999) (w : World) (hT : Tabs w) : Calls Tryd.prog 41 #[.int .i64 n] w fun e w' => e = .returned (.string ⟨(Lib.itoa n).toArray⟩) ∧ Below w.heap.size w w' :=
  (Tryd.strconv_Itoa n (by omega) (by omega) w hT.pow).mono fun _ _ ⟨a, k, os, b⟩ => ⟨a, by rw [b]; exact below_grow w k os⟩

/-- A number with zeros ahead. -/
def pad (many : Nat) (l : List UInt8) : List UInt8 := List.replicate (many - l.length) 48 ++ l

theorem pad_stop {many : Nat} {l : List UInt8} (h : many ≤ l.length) : pad many l = l := by
  unfold pad; rw [show many - l.length = 0 by omega]; rfl
theorem pad_step {many : Nat} {l : List UInt8} (h : l.length < many) : pad many (48 :: l) = pad many l := by
  unfold pad
  rw [show many - l.length = (many - (48 :: l).length) + 1 by simp; omega, List.replicate_succ']
  simp

theorem bytes_ext {a b : ByteArray} (h : a.data.toList = b.data.toList) : a = b := by
  obtain ⟨⟨a⟩⟩ := a; obtain ⟨⟨b⟩⟩ := b; simp at h; rw [h]
theorem bytes_cat (a b : List UInt8) : (⟨a.toArray⟩ : ByteArray) ++ ⟨b.toArray⟩ = ⟨(a ++ b).toArray⟩ := bytes_ext (by simp)
theorem bytes_size (a : List UInt8) : (⟨a.toArray⟩ : ByteArray).size = a.length := by simp [ByteArray.size]

theorem ret_str {l m : List UInt8} (h : l = m) : Ending.returned (.string ⟨l.toArray⟩) = .returned (.string ⟨m.toArray⟩) := by rw [h]

theorem digits_gen (n : Int) (many : Nat) (L : List UInt8) (hL : L.length ≤ 21) (hm : many ≤ 20) (w : World)
    (H : Hid (Calls Tryd.prog 41 #[.int .i64 n] w fun e w' => e = .returned (.string ⟨L.toArray⟩) ∧ Below w.heap.size w w')) :
    Calls Tryd.prog 32 #[.int .i64 n, .int .i64 many] w fun e w' => e = .returned (.string ⟨(pad many L).toArray⟩) ∧ Below w.heap.size w w' := by
  go_enter Tryd.func32, Tryd.ntmps32
  go_wp2_with (go_at_call 41; refine H.out.mono ?_; rintro e w' ⟨rfl, hb⟩)
  go_loop [5] (fun s => ∃ l : List UInt8, l.length ≤ 21 ∧ Hid (pad many l = pad many L) ∧ s = .string ⟨l.toArray⟩) (fun s => match s with | .string t => many - t.size | _ => 0)
  case atStart => exact ⟨L, hL, rfl, rfl⟩
  case round =>
    obtain ⟨l, hl, hp, rfl⟩ := hrel
    by_cases hlt : l.length < many
    · have HS : Hid (pad many (48 :: l) = pad many L) := by rw [pad_step hlt]; exact hp.out
      clear hp
      go_wp2
      go_round
      case rel => exact ⟨48 :: l, by simp; omega, HS, congrArg Value.string (bytes_cat [48] l)⟩
      case measure => simp only [bytes_cat [48] l, bytes_size, List.length_append, List.length_cons, List.length_nil]; omega
    · go_wp2
      go_ret
      exact ⟨ret_str (l := l) (by rw [← hp.out, pad_stop (by omega)]), hb⟩

theorem digits_any (n : Int) (many : Nat) (hm : many ≤ 20) (h0 : 0 ≤ n) (h1 : n ≤ 9999) (w : World) (hT : Tabs w) :
    Calls Tryd.prog 32 #[.int .i64 n, .int .i64 many] w fun e w' => e = .returned (.string ⟨(pad many (Lib.itoa n)).toArray⟩) ∧ Below w.heap.size w w' := by
  refine digits_gen n many (Lib.itoa n) ?_ hm w (itoa_any n h0 h1 w hT)
  exact Lib.itoa_length_le n (by omega) (by omega)
end Go.Proofs.YtbncjjobdipmgaaDoor
