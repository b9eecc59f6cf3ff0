/- Chapter 10 (times): the reference's Parse of any string. -/
import Derived.Test.YtbncjjobdipmgaaDoorXf
import Derived.Test.YtbncjjobdipmgaaDoorXh
import Derived.Test.YtbncjjobdipmgaaDoorLaA
namespace Go.Proofs.YtbncjjobdipmgaaDoor
open Go.RowKit Pl

theorem extract_cut (l : List UInt8) (a n : Nat) : (⟨l.toArray⟩ : ByteArray).extract a (a + n) = ⟨(cut l a n).toArray⟩ := by
  apply ByteArray.ext
  rw [ByteArray.data_extract]
  unfold cut
  rw [List.extract_toArray, List.extract_eq_take_drop, show a + n - a = n by omega]
theorem cut_len (l : List UInt8) (a n : Nat) : (cut l a n).length ≤ n := by unfold cut; rw [List.length_take]; omega
theorem num_cut (l : List UInt8) (a n : Nat) (hn : n ≤ 4) (w : World) : Calls Tryd.prog 38 #[.string ⟨(cut l a n).toArray⟩] w fun e w' => e = .returned (.int .i64 (numA (cut l a n) 0)) ∧ w' = w :=
  ref_num ⟨(cut l a n).toArray⟩ w (by have := cut_len l a n; rw [bytes_size]; omega)
theorem cut_run (l : List UInt8) (a n : Nat) (h : a + n ≤ l.length) (A B : Int) (hA : A = (a : Int)) (hB : B = ((a + n : Nat) : Int)) (W : World) : (Instr.slice 9 (.string ⟨l.toArray⟩) (some (.int .i64 A)) (some (.int .i64 B)) none).run Tryd.prog W = .ok (.string ⟨(cut l a n).toArray⟩) W := by
  subst hA hB
  rw [run_slice_string (P := Tryd.prog) W 9 ⟨l.toArray⟩ .i64 .i64 (a : Int) ((a + n : Nat) : Int) Tryd.underlying9 (by omega) (by omega) (by rw [bytes_size]; omega)]
  simp only [Int.toNat_natCast, extract_cut]
theorem cut_run0 (l : List UInt8) (n : Nat) (h : n ≤ l.length) (B : Int) (hB : B = (n : Int)) (W : World) : (Instr.slice 9 (.string ⟨l.toArray⟩) none (some (.int .i64 B)) none).run Tryd.prog W = .ok (.string ⟨(cut l 0 n).toArray⟩) W := by
  subst hB
  rw [run_slice_string_h (P := Tryd.prog) (w := W) 9 ⟨l.toArray⟩ Tryd.underlying9 .i64 (n : Int) (by omega) (by rw [bytes_size]; omega)]
  have := extract_cut l 0 n
  rw [Nat.zero_add] at this
  simp only [Int.toNat_natCast, this]

set_option maxHeartbeats 1000000 in
theorem rparse_len (sb : ByteArray) (w : World) (_hT : Tabs w) (_hsz : sb.size ≤ 1000000) (hne : ((sb.size : Int) == 20) = false) :
    Calls Tryd.prog 28 #[.string sb] w fun e w' => e = .returned (.tuple #[.agg #[.int .i64 0, .int .i64 0, .int .i64 0, .int .i64 0, .int .i64 0, .int .i64 0], .int .i64 6]) ∧ Below w.heap.size w w' := by
  go_enter Tryd.func28, Tryd.ntmps28
  go_wp2
  exact bodyPost_ret (ret28 rfl rfl (blk_new w _)) rfl ⟨rfl, (Below.refl _ _).alloc (Nat.le_refl _) _⟩
theorem bne_list {a b : List UInt8} (h : a ≠ b) : ((⟨a.toArray⟩ : ByteArray).toList == (⟨b.toArray⟩ : ByteArray).toList) = false := by
  rw [ByteArray.toList_mk, ByteArray.toList_mk]
  exact beq_false_of_ne h
/-- What the reference's Parse answers is what the program's answers. -/
theorem rparse_any (l : List UInt8) (w : World) (hT : Tabs w) (hl : l.length ≤ 1000000) :
    Calls Tryd.prog 28 #[.string ⟨l.toArray⟩] w (TmP (parseF l).1 (parseF l).2 w) := by
  by_cases h20 : l.length = 20
  · obtain ⟨t, ht⟩ : ∃ t, refT l = t := ⟨_, rfl⟩
    have hp := parse_ref l
    rw [ht] at hp
    have hsz : (⟨l.toArray⟩ : ByteArray).size = 20 := by rw [bytes_size]; exact h20
    have D := fun a n (hn : n ≤ 4) => num_cut l a n hn
    have hn : numA (cut l 0 4) 0 = t.y ∧ numA (cut l 5 2) 0 = t.mo ∧ numA (cut l 8 2) 0 = t.d ∧ numA (cut l 11 2) 0 = t.h ∧ numA (cut l 14 2) 0 = t.mi ∧ numA (cut l 17 2) 0 = t.s := by
      rw [← ht]; exact ⟨rfl, rfl, rfl, rfl, rfl, rfl⟩
    obtain ⟨y, mo, d, h, mi, s⟩ := t
    obtain ⟨e0, e1, e2, e3, e4, e5⟩ := hn
    have D0 := D 0 4 (by omega); rw [e0] at D0
    have D1 := D 5 2 (by omega); rw [e1] at D1
    have D2 := D 8 2 (by omega); rw [e2] at D2
    have D3 := D 11 2 (by omega); rw [e3] at D3
    have D4 := D 14 2 (by omega); rw [e4] at D4
    have D5 := D 17 2 (by omega); rw [e5] at D5
    clear D e0 e1 e2 e3 e4 e5 ht
    have gen := fun r err o0 o1 o2 o3 o4 o5 tx => rparse_gen y mo d h mi s r err o0 o1 o2 o3 o4 o5 ⟨l.toArray⟩ ⟨(cut l 0 4).toArray⟩ ⟨(cut l 5 2).toArray⟩ ⟨(cut l 8 2).toArray⟩ ⟨(cut l 11 2).toArray⟩ ⟨(cut l 14 2).toArray⟩ ⟨(cut l 17 2).toArray⟩ tx w hT hsz
      (cut_run0 l 4 (by omega) 4 rfl) (cut_run l 5 2 (by omega) 5 7 rfl rfl) (cut_run l 8 2 (by omega) 8 10 rfl rfl) (cut_run l 11 2 (by omega) 11 13 rfl rfl) (cut_run l 14 2 (by omega) 14 16 rfl rfl) (cut_run l 17 2 (by omega) 17 19 rfl rfl) D0 D1 D2 D3 D4 D5
    by_cases hk : okB y mo d h mi s = true
    · have H14 := fun W hW => rcheck_ok hk W hW
      have H24 := fun W => rtext_ok y mo d h mi s W hk
      by_cases hx : textL y mo d h mi s = l
      · rw [if_pos ⟨hk, hx⟩] at hp
        rw [hp]
        rw [hx] at H24
        exact gen 0 0 y mo d h mi s ⟨l.toArray⟩ H14 (.inr ⟨rfl, H24, .inr ⟨rfl, rfl, rfl, rfl, rfl, rfl, rfl, rfl⟩⟩)
      · rw [if_neg (fun h => hx h.2)] at hp
        rw [hp]
        exact gen 0 6 0 0 0 0 0 0 ⟨(textL y mo d h mi s).toArray⟩ H14 (.inr ⟨rfl, H24, .inl ⟨bne_list hx, rfl, rfl, rfl, rfl, rfl, rfl, rfl⟩⟩)
    · rw [if_neg (fun h => hk h.1)] at hp
      rw [hp]
      have H14 := fun W hW => rcheck_no (show okB y mo d h mi s = false by simpa using hk) W hW
      exact gen 1 6 0 0 0 0 0 0 ⟨#[]⟩ H14 (.inl ⟨rfl, rfl, rfl, rfl, rfl, rfl, rfl, rfl⟩)
  · rw [parse_len h20]
    exact rparse_len ⟨l.toArray⟩ w hT (by rw [bytes_size]; exact hl) (by rw [bytes_size]; simp; omega)

set_option maxHeartbeats 2000000 in
theorem parse_long (sb : ByteArray) (w : World) (hT : Tabs w) (g : decide (60 < (sb.size : Int)) = true) : Calls Tryd.prog 6 #[.string sb] w fun e w' => e = .returned (.bool true) ∧ Below w.heap.size w w' := by
  go_enter Tryd.func6, Tryd.ntmps6
  go_wp2_with (go_at_call 16; refine (lives_yes _ hT).mono ?_; rintro e w1 ⟨rfl, hb⟩)
  go_ret
  exact ⟨rfl, hb⟩
set_option maxHeartbeats 2000000 in
theorem parse_short (sb : ByteArray) (y mo d h mi s f : Int) (w : World) (hT : Tabs w) (g : decide (60 < (sb.size : Int)) = false)
    (H28 : Hid (∀ w, Tabs w → Calls Tryd.prog 28 #[.string sb] w fun e w' => e = .returned (.tuple #[.agg #[.int .i64 y, .int .i64 mo, .int .i64 d, .int .i64 h, .int .i64 mi, .int .i64 s], .int .i64 f]) ∧ Below w.heap.size w w'))
    (H25 : Hid (∀ w, Tabs w → Calls Tryd.prog 25 #[.string sb, .agg #[.int .i64 y, .int .i64 mo, .int .i64 d, .int .i64 h, .int .i64 mi, .int .i64 s], .int .i64 f] w fun e w' => e = .returned (.bool true) ∧ Below w.heap.size w w')) :
    Calls Tryd.prog 6 #[.string sb] w fun e w' => e = .returned (.bool true) ∧ Below w.heap.size w w' := by
  go_enter Tryd.func6, Tryd.ntmps6
  go_wp2_with (first
    | (go_at_call 28; refine (H28.out _ hT).mono ?_; rintro e w1 ⟨rfl, hb⟩; have S1 := Lib.hid (((St.refl hT).next hb).alloc (.cells #[.int .i64 y, .int .i64 mo, .int .i64 d, .int .i64 h, .int .i64 mi, .int .i64 s] 23)); clear hb)
    | (go_at_call 25; refine (H25.out _ S1.out.t).mono ?_; rintro e w2 ⟨rfl, hb⟩; have S2 := Lib.hid (S1.out.next hb); clear hb)
    | (go_at_call 16; refine (lives_yes _ S2.out.t).mono ?_; rintro e w3 ⟨rfl, hb⟩; have S3 := Lib.hid (S2.out.next hb); clear hb))
  go_ret
  exact ⟨rfl, S3.out.b⟩
theorem timesParse_walk (sb : ByteArray) (w : World) (hT : Tabs w) : Calls Tryd.prog 6 #[.string sb] w fun e w' => e = .returned (.bool true) ∧ Below w.heap.size w w' := by
  by_cases h : 60 < sb.size
  · exact parse_long sb w hT (by simp; omega)
  · obtain ⟨l, rfl⟩ : ∃ l : List UInt8, sb = ⟨l.toArray⟩ := ⟨sb.data.toList, by simp⟩
    have hl : l.length ≤ 60 := by rw [bytes_size] at h; omega
    have H28 := fun W hW => rparse_any l W hW (by omega)
    have H25 := fun W hW => parsed_yes l (parseF l).1 (parseF l).2 W hW (by omega) rfl
    generalize (parseF l).1 = t at *
    generalize (parseF l).2 = f at *
    obtain ⟨y, mo, d, h, mi, s⟩ := t
    exact parse_short ⟨l.toArray⟩ y mo d h mi s f w hT (by rw [bytes_size]; simp; omega) H28 H25
end Go.Proofs.YtbncjjobdipmgaaDoor
