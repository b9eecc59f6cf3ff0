/- Chapter 22 (armors): the chapter's examples hold. -/
import Derived.Test.YtbdccfjeeabpaaaNq
import Derived.Test.YtbdccfjeeabpaaaPd
import Derived.Lib.SlBytesConst
namespace Go.Proofs.Ytbdccfjeeabpaaa
open Go.RowKit Go.Shelf
open Go.Proofs.YtbdccfjeeabpaaaW.PrintWords (ReadsOf blk_cell add_plain)
attribute [local go_sem] Oper.semAt_some
set_option linter.unusedSimpArgs false
set_option linter.unusedVariables false
set_option maxRecDepth 50000
instance (l : List Int) : Decidable (Byt l) := inferInstanceAs (Decidable (∀ x ∈ l, 0 ≤ x ∧ x < 256))
theorem rd_blk {W : World} {k : Nat} {t : TypeId} {fr : Nat × Nat} (l : List Int) (h : W.heap[k]? = some (.cells (l.map (Value.int .u8)).toArray t fr)) (hl : l.length ≤ 1000000000) : ReadsOf (Value.int .u8) (0 : Int) W (some ⟨k, 0, none⟩) l.length l :=
  ⟨rfl, by omega, fun _ => ⟨_, rfl, fun j hj => by
    rw [add_plain, cell_of_row W k j _ t fr h]
    simp [List.getD_eq_getElem?_getD, List.getElem?_eq_getElem hj]⟩⟩
theorem lit_enc (l : List Int) (s : List UInt8) (W : World) (k : Nat) (t : TypeId) (fr : Nat × Nat) (hs : encS l = s) (hb : Byt l) (hl : l.length ≤ 1000000000) (h : W.heap[k]? = some (.cells (l.map (Value.int .u8)).toArray t fr)) :
    Calls Try.prog 16 #[.slice (some ⟨k, 0, none⟩) l.length l.length] W fun e w' => e = .returned (.string ⟨s.toArray⟩) ∧ Below W.heap.size W w' := by
  subst hs
  exact encode16_any _ l _ W (rd_blk l h hl) hl (Nat.le_refl _) hb
theorem nil_enc (W : World) : Calls Try.prog 16 #[.slice none 0 0] W fun e w' => e = .returned (.string ⟨#[]⟩) ∧ Below W.heap.size W w' := by
  have := encode16_any none [] 0 W (.nil _ _ _) (by simp) (Nat.le_refl _) (by intro x hx; cases hx)
  exact this
theorem lit_dec (s : ByteArray) (er : Int) (h : decP s.data.toList = ([], er)) (hs : s.size ≤ 1000) (W : World) : Calls Try.prog 17 #[.string s] W fun e w' => (∃ A, e = .returned (.tuple #[.slice A 0 0, .int .i64 er])) ∧ Below W.heap.size W w' := by
  refine (decode17_any s W (by omega)).mono ?_
  rintro e w' ⟨A, rfl, _, hb⟩
  exact ⟨⟨A, by rw [h]; rfl⟩, hb⟩
theorem lit_get (s : ByteArray) (n er : Int) (h : getP s.data.toList = ([], n, er)) (W : World) : Calls Try.prog 11 #[.string s] W fun e w' => (∃ A, e = .returned (.tuple #[.slice A 0 0, .int .i64 n, .int .i64 er])) ∧ Below W.heap.size W w' := by
  refine (get_any s W).mono ?_
  rintro e w' ⟨A, rows, rfl, h1, _, _, hb⟩
  rw [h] at h1
  obtain rfl : rows = [] := by simpa using h1
  exact ⟨⟨A, by rw [h]; rfl⟩, hb⟩
theorem lns_step {s a r : List UInt8} (h : s ≠ []) (h1 : lineF s = a) (h2 : lineR s = r) : lns s = a :: lns r := by rw [lns_cons h, h1, h2]
def tq1 : List UInt8 := [45, 45, 45, 45, 45, 66, 69, 71, 73, 78, 32, 67, 69, 82, 84, 73, 70, 73, 67, 65, 84, 69, 45, 45, 45, 45, 45, 10, 84, 81, 61, 61, 10]
theorem lns_tq : lns tq1 = [begS, [84, 81, 61, 61]] := by
  rw [lns_step (a := begS) (r := [84, 81, 61, 61, 10]) (by decide) (by decide) (by decide), lns_step (a := [84, 81, 61, 61]) (r := []) (by decide) (by decide) (by decide), lns_nil]
theorem get_tq : getP tq1 = ([], 3, 7) := by
  unfold getP
  rw [if_neg (by decide), lns_tq]
  decide +kernel
theorem get_x : getP [120] = ([], 1, 6) := by
  unfold getP
  rw [if_neg (by decide), lns_step (a := [120]) (r := []) (by decide) (by decide) (by decide), lns_nil]
  decide +kernel
def txtM : List UInt8 := [45, 45, 45, 45, 45, 66, 69, 71, 73, 78, 32, 67, 69, 82, 84, 73, 70, 73, 67, 65, 84, 69, 45, 45, 45, 45, 45, 10, 84, 81, 61, 61, 10, 45, 45, 45, 45, 45, 69, 78, 68, 32, 67, 69, 82, 84, 73, 70, 73, 67, 65, 84, 69, 45, 45, 45, 45, 45, 10]
theorem enc_M : encS [77] = [84, 81, 61, 61] := by decide +kernel
theorem enc_Ma : encS [77, 97] = [84, 87, 69, 61] := by decide +kernel
theorem enc_Man : encS [77, 97, 110] = [84, 87, 70, 117] := by decide +kernel
theorem enc_ff : encS [255, 239] = [47, 43, 56, 61] := by decide +kernel
theorem put_M (A : Option Addr) (c : Nat) : putP [⟨A, [77], c⟩] = (txtM, 0) := by
  have h : cerS [77] = txtM := by decide +kernel
  have h2 : putS [⟨A, [77], c⟩] = txtM := by unfold putS; simp [h]
  unfold putP
  rw [if_neg (by simp), if_neg (by simp [chkR]), h2, if_neg (by decide)]
theorem lit_put (W : World) (k g : Nat) (t t2 : TypeId) (hk : W.heap[k]? = some (.cells #[.int .u8 77] t (0, 0))) (hg : W.heap[g]? = some (.cells #[.slice (some ⟨k, 0, none⟩) 1 1] t2 (0, 0))) :
    Calls Try.prog 10 #[.slice (some ⟨g, 0, none⟩) 1 1] W fun e w' => e = .returned (.tuple #[.string ⟨txtM.toArray⟩, .int .i64 0]) ∧ Below W.heap.size W w' := by
  have hc : Chn W (some ⟨g, 0, none⟩) 1 [⟨some ⟨k, 0, none⟩, [77], 1⟩] :=
    ⟨⟨rfl, by simp, fun _ => ⟨_, rfl, fun j hj => by
      obtain rfl : j = 0 := by simp at hj; omega
      rw [add_plain, blk_cell hg]; rfl⟩⟩, by simp, fun r hr => by
      rw [List.mem_singleton] at hr
      subst hr
      exact ⟨rd_blk [77] hk (by simp), by simp, (by decide : Byt [77]), by simp⟩⟩
  have := put_any (some ⟨g, 0, none⟩) 1 _ W hc (by simp)
  rw [put_M] at this
  exact this
theorem lit_M (w : World) : Calls Try.prog 16 #[.slice (some ⟨w.heap.size, 0, none⟩) 1 1] (w.alloc (.cells #[.int .u8 77] 5 (1, 2))) fun e w' => e = .returned (.string ⟨#[84, 81, 61, 61]⟩) ∧ Below w.heap.size w w' := by
  have k := heap_alloc_new w (.cells #[.int .u8 77] 5 (1, 2))
  refine (lit_enc [77] _ _ _ 5 (1, 2) enc_M (by decide) (by simp) k).mono ?_
  rintro e w2 ⟨rfl, hb⟩
  exact ⟨rfl, ((Below.refl _ _).alloc (Nat.le_refl _) _).trans (hb.mono (by simp))⟩
theorem lit_Ma (w : World) : Calls Try.prog 16 #[.slice (some ⟨w.heap.size, 0, none⟩) 2 2] (w.alloc (.cells #[.int .u8 77, .int .u8 97] 5 (2, 3))) fun e w' => e = .returned (.string ⟨#[84, 87, 69, 61]⟩) ∧ Below w.heap.size w w' := by
  have k := heap_alloc_new w (.cells #[.int .u8 77, .int .u8 97] 5 (2, 3))
  refine (lit_enc [77, 97] _ _ _ 5 (2, 3) enc_Ma (by decide) (by simp) k).mono ?_
  rintro e w2 ⟨rfl, hb⟩
  exact ⟨rfl, ((Below.refl _ _).alloc (Nat.le_refl _) _).trans (hb.mono (by simp))⟩
theorem lit_Man (w : World) : Calls Try.prog 16 #[.slice (some ⟨w.heap.size, 0, none⟩) 3 3] (w.alloc (.cells #[.int .u8 77, .int .u8 97, .int .u8 110] 5 (3, 4))) fun e w' => e = .returned (.string ⟨#[84, 87, 70, 117]⟩) ∧ Below w.heap.size w w' := by
  have k := heap_alloc_new w (.cells #[.int .u8 77, .int .u8 97, .int .u8 110] 5 (3, 4))
  refine (lit_enc [77, 97, 110] _ _ _ 5 (3, 4) enc_Man (by decide) (by simp) k).mono ?_
  rintro e w2 ⟨rfl, hb⟩
  exact ⟨rfl, ((Below.refl _ _).alloc (Nat.le_refl _) _).trans (hb.mono (by simp))⟩
theorem lit_ff (w : World) : Calls Try.prog 16 #[.slice (some ⟨w.heap.size, 0, none⟩) 2 2] (w.alloc (.cells #[.int .u8 255, .int .u8 239] 5)) fun e w' => e = .returned (.string ⟨#[47, 43, 56, 61]⟩) ∧ Below w.heap.size w w' := by
  have k := heap_alloc_new w (.cells #[.int .u8 255, .int .u8 239] 5)
  refine (lit_enc [255, 239] _ _ _ 5 (0, 0) enc_ff (by decide) (by simp) k).mono ?_
  rintro e w2 ⟨rfl, hb⟩
  exact ⟨rfl, ((Below.refl _ _).alloc (Nat.le_refl _) _).trans (hb.mono (by simp))⟩
theorem lit_d1 (w : World) : Calls Try.prog 17 #[.string ⟨#[84, 81, 61]⟩] w fun e w' => (∃ A, e = .returned (.tuple #[.slice A 0 0, .int .i64 10])) ∧ Below w.heap.size w w' := lit_dec _ _ (by decide +kernel) (by decide) w
theorem lit_d2 (w : World) : Calls Try.prog 17 #[.string ⟨#[84, 61, 81, 61]⟩] w fun e w' => (∃ A, e = .returned (.tuple #[.slice A 0 0, .int .i64 6])) ∧ Below w.heap.size w w' := lit_dec _ _ (by decide +kernel) (by decide) w
theorem lit_d3 (w : World) : Calls Try.prog 17 #[.string ⟨#[84, 82, 61, 61]⟩] w fun e w' => (∃ A, e = .returned (.tuple #[.slice A 0 0, .int .i64 11])) ∧ Below w.heap.size w w' := lit_dec _ _ (by decide +kernel) (by decide) w
theorem lit_d4 (w : World) : Calls Try.prog 17 #[.string ⟨#[61, 61, 61, 61]⟩] w fun e w' => (∃ A, e = .returned (.tuple #[.slice A 0 0, .int .i64 6])) ∧ Below w.heap.size w w' := lit_dec _ _ (by decide +kernel) (by decide) w
theorem lit_g1 (w : World) : Calls Try.prog 11 #[.string ⟨#[45, 45, 45, 45, 45, 66, 69, 71, 73, 78, 32, 67, 69, 82, 84, 73, 70, 73, 67, 65, 84, 69, 45, 45, 45, 45, 45, 10, 84, 81, 61, 61, 10]⟩] w fun e w' => (∃ A, e = .returned (.tuple #[.slice A 0 0, .int .i64 3, .int .i64 7])) ∧ Below w.heap.size w w' := lit_get _ _ _ get_tq w
theorem lit_g2 (w : World) : Calls Try.prog 11 #[.string ⟨#[120]⟩] w fun e w' => (∃ A, e = .returned (.tuple #[.slice A 0 0, .int .i64 1, .int .i64 6])) ∧ Below w.heap.size w w' := lit_get _ _ _ get_x w
theorem lit_p (w : World) : Calls Try.prog 10 #[.slice (some ⟨w.heap.size + 1, 0, none⟩) 1 1] ((w.alloc (.cells #[.int .u8 77] 5)).alloc (.cells #[.slice (some ⟨w.heap.size, 0, none⟩) 1 1] 24)) fun e w' => e = .returned (.tuple #[.string ⟨#[45, 45, 45, 45, 45, 66, 69, 71, 73, 78, 32, 67, 69, 82, 84, 73, 70, 73, 67, 65, 84, 69, 45, 45, 45, 45, 45, 10, 84, 81, 61, 61, 10, 45, 45, 45, 45, 45, 69, 78, 68, 32, 67, 69, 82, 84, 73, 70, 73, 67, 65, 84, 69, 45, 45, 45, 45, 45, 10]⟩, .int .i64 0]) ∧ Below w.heap.size w w' := by
  have k := al_old (o := .cells #[.slice (some ⟨w.heap.size, 0, none⟩) 1 1] 24) (heap_alloc_new w (.cells #[.int .u8 77] 5))
  have g := heap_alloc_new (w.alloc (.cells #[.int .u8 77] 5)) (.cells #[.slice (some ⟨w.heap.size, 0, none⟩) 1 1] 24)
  rw [World.size_alloc] at g
  refine (lit_put _ _ _ 5 24 k g).mono ?_
  rintro e w2 ⟨rfl, hb⟩
  exact ⟨rfl, (((Below.refl _ _).alloc (Nat.le_refl _) _).alloc (by simp) _).trans (hb.mono (by simp; omega))⟩
end Go.Proofs.Ytbdccfjeeabpaaa
