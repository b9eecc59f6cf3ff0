/- Chapter 2 (tags): the openers of the rows' arguments. -/
import Derived.Test.YtpdomckacfeffaaDoorLaR
import Derived.Test.YtpdomckacfeffaaDoorWMore
import Derived.ShutString
import Derived.ChangeOld
namespace Go.Proofs.YtpdomckacfeffaaDoor
open Go.ChangeShapes Go.WideShapes Go.ChangeAt Go.RowKit
set_option maxRecDepth 50000

theorem wf8 {z : Int} (h : (Lit.int .u8 z).wf = true) : 0 ≤ z ∧ z < 256 := by
  have : (0 : Int) ≤ z ∧ z ≤ 255 := by
    have h := (Bool.and_eq_true _ _).mp h
    exact ⟨of_decide_eq_true h.1, of_decide_eq_true h.2⟩
  omega
theorem wf32 {z : Int} (h : (Lit.int .u32 z).wf = true) : 0 ≤ z := by
  have h := (Bool.and_eq_true _ _).mp h
  exact of_decide_eq_true h.1
section
variable {H : Type} {enc : TypeId × Value → H} {w : World} {base : Nat} {spare : Nat → Bool} {held : Bool}
theorem cellsE5 : Tryd.prog.cellsOf 5 = 1 := by kernel_rfl
theorem cellsE24 : Tryd.prog.cellsOf 24 = 1 := by kernel_rfl
theorem cellsE25 : Tryd.prog.cellsOf 25 = 1 := by kernel_rfl
theorem cellsE4 : Tryd.prog.cellsOf 4 = 1 := by kernel_rfl
theorem field_any {t : TypeId} {k : Nat} (hc : Tryd.prog.cellsOf t = k) {cs : List Value} {xs : List (DataW H × List MemPlace)} {n i off : Nat}
    (h : DataW.trod enc Tryd.prog w base spare held n t ((cs.drop off).take (Tryd.prog.cellsOf t)) = xs[i]?) (hi : i < xs.length) : ∃ x, DataW.trod enc Tryd.prog w base spare held n t ((cs.drop off).take k) = some x := by
  rw [hc, List.getElem?_eq_getElem hi] at h
  exact ⟨_, h⟩
/-- A field that is a whole number. -/
theorem field_int {k : IntKind} {t : TypeId} (ht : Tryd.prog.underlying t = some (.int k)) (hc : Tryd.prog.cellsOf t = 1) {cs : List Value} {xs : List (DataW H × List MemPlace)} {n i off : Nat}
    (h : DataW.trod enc Tryd.prog w base spare held n t ((cs.drop off).take (Tryd.prog.cellsOf t)) = xs[i]?) (hi : i < xs.length) : ∃ z, (cs.drop off).take 1 = [.int k z] ∧ (Lit.int k z).wf = true := by
  rw [hc, List.getElem?_eq_getElem hi] at h
  obtain ⟨z, h1, _, h2⟩ := DataW.trod_int ht h
  exact ⟨z, h1, h2⟩
theorem open_tag27 {r : Reach} {b0 : Nat} {v : Value} {d : DataW H} {p : List MemPlace} (hv : Value.okWide Tryd.prog w r b0 27 v) (h : DataW.Trod enc Tryd.prog w base spare held 27 v d p) :
    ∃ (cl : Int) (co : Bool) (nu : Int), v = .agg #[.int .u8 cl, .bool co, .int .u32 nu] := by
  obtain ⟨cs, rfl, hsz⟩ := okWide_struct Tryd.underlying27 hv
  obtain ⟨l⟩ := cs
  have h3 : l.length = 3 := hsz.trans (by kernel_rfl)
  obtain ⟨fuel, hf⟩ := h
  obtain ⟨xs, n, _, _, _, hlen, hg⟩ := DataW.trod_struct Tryd.underlying27 hf
  have hx : xs.length = 3 := hlen
  obtain ⟨z0, e0, g0⟩ := field_int Tryd.underlying24 cellsE24 (hg 0 _ rfl) (by omega)
  obtain ⟨x1, h1⟩ := field_any cellsE4 (hg 1 _ rfl) (by omega)
  obtain ⟨z2, e2, g2⟩ := field_int Tryd.underlying25 cellsE25 (hg 2 _ rfl) (by omega)
  obtain ⟨b, e1, _⟩ := DataW.trod_bool Tryd.underlying4 h1
  match l, h3 with
  | [c0, c1, c2], _ =>
    simp [Value.cells] at e0 e1 e2
    subst e0 e1 e2
    exact ⟨z0, b, z2, rfl⟩
theorem open_tag37 {r : Reach} {b0 : Nat} {v : Value} {d : DataW H} {p : List MemPlace} (hv : Value.okWide Tryd.prog w r b0 37 v) (h : DataW.Trod enc Tryd.prog w base spare held 37 v d p) :
    ∃ (cl fo nu : Int), v = .agg #[.int .u8 cl, .int .u8 fo, .int .u32 nu] ∧ (Lit.int .u8 cl).wf = true ∧ (Lit.int .u8 fo).wf = true ∧ (Lit.int .u32 nu).wf = true := by
  obtain ⟨cs, rfl, hsz⟩ := okWide_struct Tryd.underlying37 hv
  obtain ⟨l⟩ := cs
  have h3 : l.length = 3 := hsz.trans (by kernel_rfl)
  obtain ⟨fuel, hf⟩ := h
  obtain ⟨xs, n, _, _, _, hlen, hg⟩ := DataW.trod_struct Tryd.underlying37 hf
  have hx : xs.length = 3 := hlen
  obtain ⟨z0, e0, g0⟩ := field_int Tryd.underlying5 cellsE5 (hg 0 _ rfl) (by omega)
  obtain ⟨z1, e1, g1⟩ := field_int Tryd.underlying5 cellsE5 (hg 1 _ rfl) (by omega)
  obtain ⟨z2, e2, g2⟩ := field_int Tryd.underlying25 cellsE25 (hg 2 _ rfl) (by omega)
  match l, h3 with
  | [c0, c1, c2], _ =>
    simp [Value.cells] at e0 e1 e2
    subst e0 e1 e2
    exact ⟨z0, z1, z2, rfl, g0, g1, g2⟩
theorem open_str {r : Reach} {b0 : Nat} {v : Value} {d : DataW H} {ps : List MemPlace} (hval : Value.okWide Tryd.prog w r b0 9 v) (_hd : DataW.Trod enc Tryd.prog w base spare held 9 v d ps) :
    ∃ s : ByteArray, v = .string s := okWide_string Tryd.underlying9 hval
open Go.Proofs.YtpdomckacfeffaaDoorW.PrintWords in
theorem open_octets {r : Reach} {b0 : Nat} {v : Value} {d : DataW H} {ps : List MemPlace} (hval : Value.okWide Tryd.prog w r b0 22 v) (h0 : DataW.Trod enc Tryd.prog w base (fun _ => true) held 22 v d ps) :
    ∃ (A : Option Addr) (l : List Int) (c : Nat), v = .slice A l.length c ∧ Kd.C (Kd.int .u8) w A l.length l ∧ l.length ≤ c ∧ ∀ x ∈ l, 0 ≤ x ∧ x < 256 := by
  obtain ⟨a0, len0, cap0, rfl⟩ := okWide_slice Tryd.underlying22 hval
  obtain ⟨z0, w0⟩ : ∃ zs : List Int, (a0 = none ∧ len0 = 0 ∧ cap0 = 0 ∧ zs = []) ∨ ∃ x, a0 = some x ∧ len0 ≤ cap0 ∧ cap0 ≤ maxLen ∧ zs.length = cap0 ∧ (∀ i, i < zs.length → w.cell? (x.add i) = some (.int .u8 (zs.getD i 0))) ∧ ∀ n ∈ zs, (Lit.int .u8 n).wf = true := by
    obtain ⟨fuel, hf⟩ := h0
    rcases open_ints Tryd.underlying22 Tryd.underlying5 (by kernel_rfl) hf with ⟨hcs, _⟩ | ⟨x, l, c, zs, hcs, _, hl, hm, hz, _, hcell, hwz⟩
    · simp [Value.cells] at hcs
      obtain ⟨rfl, rfl, rfl⟩ := hcs
      exact ⟨[], .inl ⟨rfl, rfl, rfl, rfl⟩⟩
    · simp [Value.cells] at hcs
      obtain ⟨rfl, rfl, rfl⟩ := hcs
      exact ⟨zs, .inr ⟨_, rfl, hl, hm, by simpa using hz, hcell, hwz⟩⟩
  obtain ⟨l0, rfl, hr0, hm0, hw0, hc0⟩ := ReadsInt.ofRowC w0
  exact ⟨a0, l0, cap0, rfl, Kd.C_of_reads (d := (0 : Int)) (h1 := fun _ => rfl) hr0, hc0, fun x hx => wf8 (hw0 x hx)⟩
end
end Go.Proofs.YtpdomckacfeffaaDoor
