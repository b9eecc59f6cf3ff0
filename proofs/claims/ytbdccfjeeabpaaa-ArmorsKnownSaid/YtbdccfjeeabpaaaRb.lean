/- Chapter 22 (armors): the chapter's examples hold: the walk. -/
import Derived.Test.YtbdccfjeeabpaaaRa
namespace Go.Proofs.Ytbdccfjeeabpaaa
open Go.RowKit Go.Shelf
open Go.Proofs.YtbdccfjeeabpaaaW.PrintWords (ReadsOf blk_cell add_plain)
attribute [local go_sem] Oper.semAt_some
set_option linter.unusedSimpArgs false
set_option linter.unusedVariables false
set_option maxRecDepth 50000
theorem chainB {n : Nat} {w W W' : World} (h : Below n w W) (hn : w.heap.size = n) (k : Below W.heap.size W W') : Below n w W' := h.trans (k.mono (by have := h.size; omega))
set_option maxHeartbeats 8000000 in
theorem lives_any (w : World) : Calls Try.prog 9 #[] w fun e w' => e = .returned (.bool true) ∧ Below w.heap.size w w' := by
  have kc := fun (w : World) (C : Array Value) (n c : Nat) => Lib.run_convert_bytes_const (P := Try.prog) w 24 5 C n c Try.underlying24 Try.underlying5
  have hB := Below.refl w.heap.size w
  go_enter Try.func9, Try.ntmps9
  go_wp2_with (first
      | (go_at_call 16; with_reducible refine (nil_enc _).mono ?_; rintro e w' ⟨rfl, hb⟩; have hB := chainB hB rfl hb; clear hb)
      | (go_at_call 16; with_reducible refine (lit_M _).mono ?_; rintro e w' ⟨rfl, hb⟩; have hB := chainB hB rfl hb; clear hb)
      | (go_at_call 16; with_reducible refine (lit_Ma _).mono ?_; rintro e w' ⟨rfl, hb⟩; have hB := chainB hB rfl hb; clear hb)
      | (go_at_call 16; with_reducible refine (lit_Man _).mono ?_; rintro e w' ⟨rfl, hb⟩; have hB := chainB hB rfl hb; clear hb)
      | (go_at_call 16; with_reducible refine (lit_ff _).mono ?_; rintro e w' ⟨rfl, hb⟩; have hB := chainB hB rfl hb; clear hb)
      | (go_at_call 17; with_reducible refine (lit_d1 _).mono ?_; rintro e w' ⟨⟨A, rfl⟩, hb⟩; have hB := chainB hB rfl hb; clear hb)
      | (go_at_call 17; with_reducible refine (lit_d2 _).mono ?_; rintro e w' ⟨⟨A, rfl⟩, hb⟩; have hB := chainB hB rfl hb; clear hb)
      | (go_at_call 17; with_reducible refine (lit_d3 _).mono ?_; rintro e w' ⟨⟨A, rfl⟩, hb⟩; have hB := chainB hB rfl hb; clear hb)
      | (go_at_call 17; with_reducible refine (lit_d4 _).mono ?_; rintro e w' ⟨⟨A, rfl⟩, hb⟩; have hB := chainB hB rfl hb; clear hb)
      | (go_at_call 10; with_reducible refine (lit_p _).mono ?_; rintro e w' ⟨rfl, hb⟩; have hB := chainB hB rfl hb; clear hb)
      | (go_at_call 11; with_reducible refine (lit_g1 _).mono ?_; rintro e w' ⟨⟨A, rfl⟩, hb⟩; have hB := chainB hB rfl hb; clear hb)
      | (go_at_call 11; with_reducible refine (lit_g2 _).mono ?_; rintro e w' ⟨⟨A, rfl⟩, hb⟩; have hB := chainB hB rfl hb; clear hb))
  go_ret
  exact ⟨rfl, hB⟩
end Go.Proofs.Ytbdccfjeeabpaaa
