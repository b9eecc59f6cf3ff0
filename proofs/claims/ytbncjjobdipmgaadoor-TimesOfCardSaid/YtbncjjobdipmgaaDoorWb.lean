/- Chapter 10 (times): the tables; contracts of Days, Check. -/
import Derived.Test.YtbncjjobdipmgaaDoorWa
import Derived.Test.YtbncjjobdipmgaaDoorShelf
namespace Go.Proofs.YtbncjjobdipmgaaDoor
open Go.RowKit Pl

/-- The package-level tables hold what the program's text lays in them. -/
structure Tabs (w : World) : Prop where
  lens : ∀ k, k < 12 → w.cell? ⟨0, k, none⟩ = some (.int .i64 (lens.getD k 0))
  pow : Lib.TabIs Tryd.prog w "internal/strconv.uint64pow10" .u64 Lib.pow10Tab

theorem gLens : Tryd.prog.globalNamed "vidimus/times.lengths" = some 0 := by kernel_rfl
theorem gPow : Tryd.prog.globalNamed "internal/strconv.uint64pow10" = some 1 := by kernel_rfl
theorem Tabs.below {w w' : World} (h : Tabs w) (hb : Below w.heap.size w w') : Tabs w' := by
  refine ⟨fun k hk => ?_, ?_⟩
  · have := h.lens k hk
    rw [← this]
    refine hb.cell (p := ⟨0, k, none⟩) ?_
    rcases Nat.eq_zero_or_pos w.heap.size with h0 | h1
    · simp [World.cell?, h0] at this
    · exact h1
  · have hp := h.pow
    unfold Lib.TabIs World.var? at *
    rw [gPow] at *
    have hlt : 1 < w.heap.size := by
      rcases Nat.lt_or_ge 1 w.heap.size with h0 | h1
      · exact h0
      · simp [h1] at hp
    simpa [hb.block 1 hlt] using hp
theorem Tabs.pos {w : World} (h : Tabs w) : 0 < w.heap.size := by
  have := h.lens 0 (by omega)
  rcases Nat.eq_zero_or_pos w.heap.size with h0 | h1
  · simp [World.cell?, h0] at this
  · exact h1
theorem Tabs.alloc {w : World} (h : Tabs w) (o : Obj) : Tabs (w.alloc o) := h.below ((Below.refl _ _).alloc (Nat.le_refl _) o)
theorem Tabs.drewN {w : World} (h : Tabs w) (n : Nat) : Tabs (w.drewN n) := h.below ⟨rfl, rfl, rfl, Nat.le_refl _, fun _ _ => rfl⟩
theorem Tabs.drew {w : World} (h : Tabs w) : Tabs w.drew := h.below ((Below.refl _ _).drew)

theorem days_any (y m : Int) (w : World) (hT : Tabs w) : Calls Tryd.prog 12 #[.int .i64 y, .int .i64 m] w fun e w' => e = .returned (.int .i64 (dim y m)) ∧ w' = w := by
  by_cases h : m < 1 ∨ 12 < m
  · exact (days_none y m w h).mono fun e w' ⟨a, b⟩ => ⟨a, b.symm⟩
  · obtain ⟨k, rfl⟩ : ∃ k : Nat, m = (k : Int) + 1 := ⟨(m - 1).toNat, by omega⟩
    by_cases h2 : k = 1 ∧ leapB y = true
    · obtain ⟨rfl, hl⟩ := h2
      have hd : dim y (((1 : Nat) : Int) + 1) = 29 := by unfold dim; rw [if_neg h, if_pos ⟨rfl, hl⟩]
      rw [hd]
      exact (days_feb y w hl).mono fun e w' ⟨a, b⟩ => ⟨a, b.symm⟩
    · have hd : dim y ((k : Int) + 1) = lens.getD k 0 := by
        unfold dim
        rw [if_neg h, if_neg (by intro h3; exact h2 ⟨by omega, h3.2⟩)]
        congr 1
        omega
      rw [hd]
      exact (days_tab y k w (by omega) h2 (hT.lens k (by omega))).mono fun e w' ⟨a, b⟩ => ⟨a, b.symm⟩

end Go.Proofs.YtbncjjobdipmgaaDoor
