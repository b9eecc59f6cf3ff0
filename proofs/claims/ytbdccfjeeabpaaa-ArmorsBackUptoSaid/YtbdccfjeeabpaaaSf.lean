/- The law ArmorsBack holds where what it reads is of bulk at most 1048576: openers, and the row. -/
import Derived.Test.YtbdccfjeeabpaaaRows
import Derived.Test.YtbdccfjeeabpaaaRc
import Derived.ProofKit
import Derived.Carry
import Derived.ShutString
import Derived.ChangeOld
import Derived.OpenShut
import Derived.Test.YtbdccfjeeabpaaaNg
import Derived.Test.YtbdccfjeeabpaaaRh
import Derived.JoinedCond
namespace Go.Proofs.Ytbdccfjeeabpaaa
open Go.ChangeShapes Go.WideShapes Go.ChangeAt Go.RowKit
set_option maxRecDepth 50000
theorem own : ownKnob Try.prog.godebug = none := by kernel_rfl
theorem laidOut : laidOutB Try.prog = true := by kernel_rfl
theorem wf8 {z : Int} (h : (Lit.int .u8 z).wf = true) : 0 ≤ z ∧ z < 256 := by
  have : (0 : Int) ≤ z ∧ z ≤ 255 := by
    have h := (Bool.and_eq_true _ _).mp h
    exact ⟨of_decide_eq_true h.1, of_decide_eq_true h.2⟩
  omega
section
variable {H : Type} {enc : TypeId × Value → H} {w : World} {base : Nat} {spare : Nat → Bool} {held : Bool}
theorem open_str {r : Reach} {b0 : Nat} {v : Value} {d : DataW H} {ps : List MemPlace} (hval : Value.okWide Try.prog w r b0 9 v) (_hd : DataW.Trod enc Try.prog w base spare held 9 v d ps) :
    ∃ s : ByteArray, v = .string s := okWide_string Try.underlying9 hval
open Go.Proofs.YtbdccfjeeabpaaaW.PrintWords in
theorem open_octets {r : Reach} {b0 : Nat} {v : Value} {d : DataW H} {ps : List MemPlace} (hval : Value.okWide Try.prog w r b0 24 v) (h0 : DataW.Trod enc Try.prog w base (fun _ => true) held 24 v d ps) :
    ∃ (A : Option Addr) (l : List Int) (c : Nat), v = .slice A l.length c ∧ ReadsOf (Value.int .u8) (0 : Int) w A l.length l ∧ l.length ≤ c ∧ ∀ x ∈ l, 0 ≤ x ∧ x < 256 := by
  obtain ⟨a0, len0, cap0, rfl⟩ := okWide_slice Try.underlying24 hval
  obtain ⟨z0, w0⟩ : ∃ zs : List Int, (a0 = none ∧ len0 = 0 ∧ cap0 = 0 ∧ zs = []) ∨ ∃ x, a0 = some x ∧ len0 ≤ cap0 ∧ cap0 ≤ maxLen ∧ zs.length = cap0 ∧ (∀ i, i < zs.length → w.cell? (x.add i) = some (.int .u8 (zs.getD i 0))) ∧ ∀ n ∈ zs, (Lit.int .u8 n).wf = true := by
    obtain ⟨fuel, hf⟩ := h0
    rcases open_ints Try.underlying24 Try.underlying5 (by kernel_rfl) hf with ⟨hcs, _⟩ | ⟨x, l, c, zs, hcs, _, hl, hm, hz, _, hcell, hwz⟩
    · simp [Value.cells] at hcs
      obtain ⟨rfl, rfl, rfl⟩ := hcs
      exact ⟨[], .inl ⟨rfl, rfl, rfl, rfl⟩⟩
    · simp [Value.cells] at hcs
      obtain ⟨rfl, rfl, rfl⟩ := hcs
      exact ⟨zs, .inr ⟨_, rfl, hl, hm, by simpa using hz, hcell, hwz⟩⟩
  obtain ⟨l0, rfl, hr0, hm0, hw0, hc0⟩ := ReadsInt.ofRowC w0
  exact ⟨a0, l0, cap0, rfl, hr0, hc0, fun x hx => wf8 (hw0 x hx)⟩
end
end Go.Proofs.Ytbdccfjeeabpaaa

namespace Go.Proofs.Ytbdccfjeeabpaaa
open Go.ChangeShapes Go.WideShapes Go.ChangeAt Go.RowKit
open Go.Proofs.YtbdccfjeeabpaaaW.PrintWords
set_option maxRecDepth 50000
theorem bulk_pos {H : Type} (d : DataW H) : 1 ≤ Rows.uptoBulk d := by
  cases d with
  | lit l => cases l <;> simp [Rows.uptoBulk]
  | _ => simp [Rows.uptoBulk]
theorem bulk_len {H : Type} : ∀ (l : List (DataW H)), l.length ≤ Rows.uptoBulkAll l
  | [] => by simp [Rows.uptoBulkAll]
  | d :: r => by
    have h1 := bulk_pos d
    have h2 := bulk_len r
    simp only [Rows.uptoBulkAll, List.length_cons]
    omega
section
variable {H : Type} {enc : TypeId × Value → H} {w : World} {base : Nat} {held : Bool}
theorem cellsOf24 : Try.prog.cellsOf 24 = 1 := by kernel_rfl
/-- A row of bytes. -/
theorem open_row {cs : List Value} {x : DataW H × List MemPlace} {fuel : Nat} (hf : DataW.trod enc Try.prog w base (fun _ => true) held fuel 24 cs = some x) :
    ∃ r : Rw, cs = [rwV r] ∧ ReadsOf (Value.int .u8) (0 : Int) w r.a r.l.length r.l ∧ r.l.length ≤ r.c ∧ Byt r.l ∧ r.l.length + 1 ≤ Rows.uptoBulk x.1 := by
  rcases open_ints Try.underlying24 Try.underlying5 (by kernel_rfl) hf with ⟨hcs, rfl⟩ | ⟨a, l, c, zs, hcs, _, hl, hm, hz, rfl, hcell, hwz⟩
  · exact ⟨⟨none, [], 0⟩, hcs, .nil _ _ _, Nat.le_refl _, (fun x hx => absurd hx List.not_mem_nil), by simp [Rows.uptoBulk]⟩
  · obtain ⟨l0, e, hr0, hm0, hw0, hc0⟩ := ReadsInt.ofRowC (k := .u8) (w := w) (a := some a) (len := l) (cap := c) (zs := zs) (.inr ⟨_, rfl, hl, hm, by simpa using hz, hcell, hwz⟩)
    subst e
    refine ⟨⟨some a, l0, c⟩, hcs, hr0, hc0, fun x hx => wf8 (hw0 x hx), ?_⟩
    have h1 := bulk_len (H := H) (lits .u8 (zs.take l0.length))
    have h2 : (lits (H := H) .u8 (zs.take l0.length)).length = l0.length := by
      unfold lits
      rw [List.length_map, List.length_take]
      simp only [if_true] at hz
      omega
    simp only [Rows.uptoBulk]
    omega
/-- A slice of rows. -/
theorem open_chain {r : Reach} {b0 : Nat} {v : Value} {d : DataW H} {ps : List MemPlace} (hval : Value.okWide Try.prog w r b0 22 v) (h0 : DataW.Trod enc Try.prog w base (fun _ => true) held 22 v d ps) :
    ∃ (A : Option Addr) (rows : List Rw) (c : Nat), v = .slice A rows.length c ∧ ReadsOf rwV rw0 w A rows.length rows ∧ rows.length ≤ c ∧
      (∀ r ∈ rows, ReadsOf (Value.int .u8) (0 : Int) w r.a r.l.length r.l ∧ r.l.length ≤ r.c ∧ Byt r.l) ∧ (rows.map fun r => r.l.length + 1).sum ≤ Rows.uptoBulk d := by
  obtain ⟨a0, len0, cap0, rfl⟩ := okWide_slice Try.underlying22 hval
  obtain ⟨fuel, hf⟩ := h0
  rcases DataW.trod_slice Try.underlying22 hf with ⟨hcs, hx⟩ | ⟨a, len, cap, elems, rest, n, _, hcs, hx, _, hlc, hm, hlen, hg, _, _⟩
  · simp [Value.cells] at hcs
    obtain ⟨rfl, rfl, rfl⟩ := hcs
    exact ⟨none, [], 0, rfl, .nil _ _ _, Nat.le_refl _, (fun x hx => absurd hx List.not_mem_nil), by simp⟩
  · simp [Value.cells] at hcs
    obtain ⟨rfl, rfl, rfl⟩ := hcs
    have hd : d = .slice (elems.map (·.1)) (rest.map (·.1)) := by have := congrArg (·.1) hx; exact this
    have hrow : ∀ i (hi : i < elems.length), ∃ r : Rw, w.cell? (a.add i) = some (rwV r) ∧ ReadsOf (Value.int .u8) (0 : Int) w r.a r.l.length r.l ∧ r.l.length ≤ r.c ∧ Byt r.l ∧ r.l.length + 1 ≤ Rows.uptoBulk (elems[i]).1 := by
      intro i hi
      have h := hg i (by omega)
      rw [cellsOf24, Nat.mul_one, List.getElem?_eq_getElem hi] at h
      obtain ⟨cl, h1, h2⟩ := Option.bind_eq_some_iff.mp h
      obtain ⟨r, rfl, k1, k2, k3, k4⟩ := open_row h2
      exact ⟨r, cell_of_cells?_one h1, k1, k2, k3, k4⟩
    have hl : ∀ m, m ≤ elems.length → ∃ rows : List Rw, rows.length = m ∧ (∀ j (hj : j < rows.length), w.cell? (a.add j) = some (rwV rows[j])) ∧
        (∀ r ∈ rows, ReadsOf (Value.int .u8) (0 : Int) w r.a r.l.length r.l ∧ r.l.length ≤ r.c ∧ Byt r.l) ∧ (rows.map fun r => r.l.length + 1).sum ≤ Rows.uptoBulkAll ((elems.take m).map (·.1)) := by
      intro m
      induction m with
      | zero => intro _; exact ⟨[], rfl, (fun j hj => by cases hj), (fun r hr => absurd hr List.not_mem_nil), by simp⟩
      | succ m ih =>
        intro hm'
        obtain ⟨rows, hl, hc, hr, hs⟩ := ih (by omega)
        obtain ⟨r, k0, k1, k2, k3, k4⟩ := hrow m (by omega)
        refine ⟨rows ++ [r], by simp [hl], fun j hj => ?_, fun x hx => ?_, ?_⟩
        · by_cases h : j < rows.length
          · rw [List.getElem_append_left h]; exact hc j h
          · have : j = m := by simp at hj; omega
            subst this
            rw [List.getElem_append_right (by omega)]
            simpa [hl] using k0
        · rcases List.mem_append.1 hx with h | h
          · exact hr x h
          · rw [List.mem_singleton] at h; subst h; exact ⟨k1, k2, k3⟩
        · have happ : ∀ (x y : List (DataW H)), Rows.uptoBulkAll (x ++ y) = Rows.uptoBulkAll x + Rows.uptoBulkAll y := by
            intro x y
            induction x with
            | nil => simp [Rows.uptoBulkAll]
            | cons c t ih => simp only [List.cons_append, Rows.uptoBulkAll, ih]; omega
          rw [List.take_add_one, List.getElem?_eq_getElem (by omega), Option.toList_some, List.map_append, List.map_append, happ, List.sum_append]
          simp only [List.map_cons, List.map_nil, List.sum_cons, List.sum_nil, Rows.uptoBulkAll]
          omega
    obtain ⟨rows, h1, h2, h3, h4⟩ := hl elems.length (Nat.le_refl _)
    refine ⟨some a, rows, cap0, ?_, ⟨rfl, by simp only [maxLen] at hm; omega, fun _ => ⟨a, rfl, fun j hj => ?_⟩⟩, by omega, h3, ?_⟩
    · rw [h1, hlen]
    · rw [h2 j hj, List.getD_eq_getElem?_getD, List.getElem?_eq_getElem hj, Option.getD_some]
    · rw [hd]
      rw [List.take_length] at h4
      simp only [Rows.uptoBulk]
      omega
end
end Go.Proofs.Ytbdccfjeeabpaaa

namespace Go.Proofs.Ytbdccfjeeabpaaa.armorsBack
open Go.ChangeShapes Go.WideShapes Go.ChangeAt Go.RowKit
theorem sum_two : ∀ rows : List Rw, (rows.map fun r => r.l.length + 1).sum = allL rows + rows.length
  | [] => rfl
  | x :: t => by
    have ih := sum_two t
    have e : allL (x :: t) = x.l.length + allL t := by unfold allL; simp
    rw [List.map_cons, List.sum_cons, ih, e, List.length_cons]
    omega
theorem contract (H : Type) (enc : TypeId × Value → H) (W : World) (base : Nat) (args : Array Value) (ds gs : List (DataW H)) (before : List MemPlace)
    (hval : ∀ (j : Nat) t v, Try.f3.params[j]? = some t → args[j]? = some v → Value.okWide Try.prog W .any base t v)
    (hW : DataW.Whole enc Try.prog Try.f3.params.toList Rows.armorsBackSpec.vars false W args.toList ds gs before) (hk : Rows.uptoSmall H (ds ++ gs) = true) :
    Calls Try.prog 3 args W fun e W' => ∃ v, e = .returned v ∧ Rows.armorsBackSpec.post enc Try.prog Try.f3 false true false false W args v W' := by
  have hW' := hW
  obtain ⟨p, q, hA0, hV, rfl, hfz, hnd⟩ := hW
  have hA : DataW.TrodAll enc Try.prog W 0 (fun _ => true) true Try.f3.params.toList args.toList ds p := hA0
  rw [Try.params3] at hA hval
  obtain ⟨v0, vs0, d0, ds0, p0, q0, hargs, rfl, rfl, h0, r0⟩ := trodAll_cons hA
  obtain ⟨rfl, rfl, rfl⟩ := trodAll_nil r0
  obtain rfl : args = #[v0] := by cases args; simp_all
  obtain ⟨rfl, rfl⟩ := trodVars_none hV
  clear hA0
  have k0 := h0
  have lt0 : ∀ x ∈ p0, x.block < W.heap.size := by obtain ⟨m, hm⟩ := k0; exact DataW.trod_lt m _ _ _ hm
  obtain ⟨A, rows, c, rfl, hr, hc, hrows, hs⟩ := open_chain (hval 0 22 v0 rfl rfl) h0
  have hb : Rows.uptoBulk d0 ≤ 1048576 := by
    unfold Rows.uptoSmall at hk
    have := of_decide_eq_true hk
    simp only [List.append_nil, Rows.uptoBulkAll] at this
    omega
  rw [sum_two] at hs
  have hC : Chn W A c rows := ⟨hr, hc, fun r hrm => ⟨(hrows r hrm).1, (hrows r hrm).2.1, (hrows r hrm).2.2, by have := allL_mem hrm; omega⟩⟩
  refine (armorsBack_walk A c rows W hC (by omega) (by omega)).mono fun e W' ⟨he, bel⟩ => ?_
  subst he
  exact ⟨_, rfl, _, _, _, [], _, [], hW', trodAll_mk1 (shut_bool Try.underlying4 _), (trodAll_cons_mk (Below.trod laidOut (by kernel_rfl) (of_decide_eq_true (by kernel_rfl)) k0 bel lt0) trodAll_mk0), rfl, bel.frame _, fun h => by cases h⟩
set_option maxRecDepth 100000 in
theorem lifted (os : Os) (started : os.Started) (H : Type) (enc : TypeId × Value → H) (F : Stop.Interp) :
    ReturnsInHanded {} Try.checked os 3 .any ((Rows.OpenSpec.upto Rows.armorsBackSpec).pre6 enc Try.prog Try.f3 Rows.armorsBackUptoRow.domain false) (((Rows.OpenSpec.upto Rows.armorsBackSpec).at F).post enc Try.prog Try.f3 false true false false) := by
  refine returnsInHanded_of_cond (C := Try.checked) (s := Rows.OpenSpec.upto Rows.armorsBackSpec) (k := Rows.uptoSmall) rfl own started (by kernel_rfl) Try.func3
    (OpenSpec.witness (enc := enc) (C := Try.checked) (s := Rows.OpenSpec.upto Rows.armorsBackSpec) (k := Rows.uptoSmall) rfl false ⟨#[], #[.slice none 0 0], []⟩ 8 (by kernel_rfl) (by kernel_rfl) (by kernel_rfl)
      (x := ([.nil], [], [])) (by kernel_rfl) rfl (by kernel_rfl)) ?_
  intro W base args ds gs before hval hW _ hk _
  exact contract H enc W base args ds gs before hval hW hk
theorem said : Rows.ArmorsBackUptoSaid :=
  OpenClaim.holds_of_cond 3 Try.f3 rfl rfl rfl rfl rfl rfl rfl ⟨rfl, rfl, rfl, rfl, rfl⟩ rfl rfl rfl rfl rfl (by kernel_rfl) Try.func3 (by kernel_rfl)
    (of_decide_eq_true (by kernel_rfl)) (by unfold Func.isWrapper; first | (rw [if_pos (by decide +kernel)]; kernel_rfl) | (rw [if_neg (by decide +kernel)]; exact ⟨rfl, rfl⟩))
    (fun os started H enc _ F => lifted os started H enc F)
#print axioms said
end Go.Proofs.Ytbdccfjeeabpaaa.armorsBack
