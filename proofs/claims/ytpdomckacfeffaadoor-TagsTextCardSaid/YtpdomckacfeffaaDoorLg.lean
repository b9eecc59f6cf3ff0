/- Chapter 2 (tags): the walk of the law TagsPrefix. -/
import Derived.Test.YtpdomckacfeffaaDoorLf
namespace Go.Proofs.YtpdomckacfeffaaDoor
open Go.RowKit Go.Shelf
open Go.Proofs.YtpdomckacfeffaaDoorW.PrintWords (blk_at blk_new blk_below blk_cell blk_alloc blk_lt blk_frozen blk_drew blk_set)
set_option linter.unusedSimpArgs false
set_option linter.unusedVariables false
set_option maxRecDepth 50000
theorem enc_byt (cl : Int) (co : Bool) (nu : Int) (hc0 : 0 ≤ cl) (hc1 : cl ≤ 3) (h0 : 0 ≤ nu) (h1 : nu < 268435456) : Byt (enc cl co nu) := by
  unfold enc fst8 gl
  cases co <;> repeat' split
  all_goals (intro x hx; simp at hx; omega)
theorem enc_len (cl : Int) (co : Bool) (nu : Int) : 1 ≤ (enc cl co nu).length ∧ (enc cl co nu).length ≤ 5 := by
  have := gl_len nu
  unfold enc; split
  · exact ⟨by simp, by simp⟩
  · exact ⟨by simp, by simp; omega⟩
theorem prefix_gen (a b c left cl nu : Int) (co : Bool) (N : Nat) (m : Nat) (w : World) (hT : Tabs w) (hN : (enc cl co nu).length = N) (hN1 : 1 ≤ N) (hN5 : N ≤ 5) (hm : Int.tmod left (N : Int) = (m : Int)) (hmN : m < N)
    (hc0 : 0 ≤ cl) (hc1 : cl ≤ 3) (h0 : 0 ≤ nu) (h1 : nu < 268435456) (hr : chk cl co nu = 0)
    (hof : ∀ w, Calls Tryd.prog 15 #[.agg #[.int .u8 a, .int .u8 b, .int .u32 c]] w fun e w' => e = .returned (.agg #[.int .u8 cl, .bool co, .int .u32 nu]) ∧ Below w.heap.size w w') (hl : 0 ≤ left ∧ left < 256) :
    Calls Tryd.prog 4 #[.agg #[.int .u8 a, .int .u8 b, .int .u32 c], .int .u8 left] w fun e w' => e = .returned (.bool true) ∧ Below w.heap.size w w' := by
  have S := Lib.hid ((St.refl hT).alloc (.cells #[.int .u8 a, .int .u8 b, .int .u32 c] 37))
  have H15 := Lib.hid hof
  have H13 := Lib.hid (fun W => put_is cl co nu _ N W rfl hN hc0 hc1 h0 h1 hr)
  have H12 := Lib.hid (fun g W h => read_is ((enc cl co nu).take m) m g N 0 0 0 7 false true W (by simp; omega) (fun x hx => enc_byt cl co nu hc0 hc1 h0 h1 x (List.mem_of_mem_take hx)) (by simp; omega) (by simp; omega) (by simp [rdB, getS_cut cl co nu m hc0 hc1 h0 h1 (by omega)]) h)
  have e0 : ¬ (N : Int) = 0 := by omega
  have e5 : ¬ 5 < (N : Int) := by omega
  have e0' : ((N : Int) == 0) = false := by simp; omega
  have e5' : decide ((5 : Int) < (N : Int)) = false := by simp; omega
  have e6 : (0 : Int) ≤ (m : Int) := by omega
  have e7 : (m : Int) ≤ (N : Int) := by omega
  have e8 : IntKind.i64.wrap left = left := IntWalk.i64_in _ (by omega)
  have e9 : IntKind.i64.wrap (m : Int) = (m : Int) := IntWalk.i64_in _ (by omega)
  clear hof
  go_enter Tryd.func4, Tryd.ntmps4
  go_wp2_with (first
    | (go_at_call 15; refine (H15.out _).mono ?_; rintro e w1 ⟨rfl, hb⟩; have S1 := Lib.hid (S.out.next hb); clear hb)
    | (go_at_call 13; refine (H13.out _).mono ?_; rintro e w2 ⟨g, rfl, hg, ho, hb⟩; have S2 := Lib.hid (S1.out.next hb); clear hb)
    | (go_at_call 12; refine (H12.out g _ (fun i hi => by have := ho i (by simp at hi; omega); simpa [List.getD_eq_getElem?_getD, List.getElem?_take, show i < m by simp at hi; omega] using this)).mono ?_; rintro e w3 ⟨rfl, hb⟩; have S3 := Lib.hid (S2.out.next hb); clear hb)
    | (go_at_call 10; refine (lives_yes _ S3.out.t).mono ?_; rintro e w4 ⟨rfl, hb⟩; have S4 := Lib.hid (S3.out.next hb); clear hb))
  go_ret
  exact ⟨rfl, S4.out.b⟩
theorem tagsPrefix_walk (a b c left : Int) (w : World) (hT : Tabs w) (ha : 0 ≤ a) (hb : 0 ≤ b) (hc : 0 ≤ c) (hl : 0 ≤ left ∧ left < 256) :
    Calls Tryd.prog 4 #[.agg #[.int .u8 a, .int .u8 b, .int .u32 c], .int .u8 left] w fun e w' => e = .returned (.bool true) ∧ Below w.heap.size w w' := by
  obtain ⟨cl, co, nu, ⟨c0, c1, n0, n1, hr⟩, hof⟩ := of_any a b c ha hb hc
  obtain ⟨l1, l5⟩ := enc_len cl co nu
  have ht : Int.tmod left ((enc cl co nu).length : Int) = ((left.toNat % (enc cl co nu).length : Nat) : Int) := by
    rw [Int.tmod_eq_emod_of_nonneg hl.1, Int.natCast_emod, Int.toNat_of_nonneg hl.1]
  exact prefix_gen a b c left cl nu co _ _ w hT rfl l1 l5 ht (Nat.mod_lt _ (by omega)) c0 c1 n0 n1 hr hof hl
end Go.Proofs.YtpdomckacfeffaaDoor
