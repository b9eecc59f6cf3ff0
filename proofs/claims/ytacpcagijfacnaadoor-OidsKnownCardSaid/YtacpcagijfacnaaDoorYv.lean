/- Chapters 6, 7 (oids, oidsets): the openers of the rows' arguments. -/
import Derived.Test.YtacpcagijfacnaaDoorLaR
import Derived.Test.YtacpcagijfacnaaDoorWv
import Derived.Test.YtacpcagijfacnaaDoorWMore
import Derived.ShutString
import Derived.ChangeOld
namespace Go.Proofs.YtacpcagijfacnaaDoor
open Go.ChangeShapes Go.WideShapes Go.ChangeAt Go.RowKit
set_option maxRecDepth 50000
theorem wf8 {z : Int} (h : (Lit.int .u8 z).wf = true) : 0 ≤ z ∧ z < 256 := by
  have : (0 : Int) ≤ z ∧ z ≤ 255 := by
    have h := (Bool.and_eq_true _ _).mp h
    exact ⟨of_decide_eq_true h.1, of_decide_eq_true h.2⟩
  omega
theorem wf32 {z : Int} (h : (Lit.int .u32 z).wf = true) : 0 ≤ z ∧ z < 4294967296 := by
  have : (0 : Int) ≤ z ∧ z ≤ 4294967295 := by
    have h := (Bool.and_eq_true _ _).mp h
    exact ⟨of_decide_eq_true h.1, of_decide_eq_true h.2⟩
  omega
section
variable {H : Type} {enc : TypeId × Value → H} {w : World} {base : Nat} {spare : Nat → Bool} {held : Bool}
theorem cellsE5 : Tryd.prog.cellsOf 5 = 1 := by kernel_rfl
theorem cellsE32 : Tryd.prog.cellsOf 24 = 1 := by kernel_rfl
theorem cellsEA : Tryd.prog.cellsOf 25 = 16 := by kernel_rfl
theorem cellsEL : Tryd.prog.cellsOf 43 = 1 := by kernel_rfl
theorem field_any {t : TypeId} {k : Nat} (hc : Tryd.prog.cellsOf t = k) {cs : List Value} {xs : List (DataW H × List MemPlace)} {n i off : Nat}
    (h : DataW.trod enc Tryd.prog w base spare held n t ((cs.drop off).take (Tryd.prog.cellsOf t)) = xs[i]?) (hi : i < xs.length) : ∃ x, DataW.trod enc Tryd.prog w base spare held n t ((cs.drop off).take k) = some x := by
  rw [hc, List.getElem?_eq_getElem hi] at h
  exact ⟨_, h⟩
/-- A field that is a whole number. -/
theorem field_int {k : IntKind} {t : TypeId} (ht : Tryd.prog.underlying t = some (.int k)) (hc : Tryd.prog.cellsOf t = 1) {cs : List Value} {xs : List (DataW H × List MemPlace)} {n i off : Nat}
    (h : DataW.trod enc Tryd.prog w base spare held n t ((cs.drop off).take (Tryd.prog.cellsOf t)) = xs[i]?) (hi : i < xs.length) : ∃ z, (cs.drop off).take 1 = [.int k z] ∧ (Lit.int k z).wf = true := by
  rw [hc, List.getElem?_eq_getElem hi] at h
  obtain ⟨z, h1, _, h2⟩ := DataW.trod_int ht h
  exact ⟨z, h1, h2⟩
theorem ints_of : ∀ (r : List Value), (∀ k, k < r.length → ∃ z, (r.drop k).take 1 = [.int .u32 z] ∧ (Lit.int .u32 z).wf = true) → ∃ zs : List Int, r = zs.map (Value.int .u32) ∧ U32 zs
  | [], _ => ⟨[], rfl, fun x hx => by cases hx⟩
  | a :: r, h => by
    obtain ⟨z, h1, h2⟩ := h 0 (by simp)
    obtain ⟨zs, e, hu⟩ := ints_of r (fun k hk => by
      obtain ⟨z, h1, h2⟩ := h (k + 1) (by simp; omega)
      exact ⟨z, by simpa using h1, h2⟩)
    simp at h1
    subst h1 e
    exact ⟨z :: zs, rfl, fun x hx => by rcases List.mem_cons.mp hx with rfl | hx; exact wf32 h2; exact hu x hx⟩
theorem open_oid {r : Reach} {b0 : Nat} {v : Value} {d : DataW H} {p : List MemPlace} (hv : Value.okWide Tryd.prog w r b0 27 v) (h : DataW.Trod enc Tryd.prog w base spare held 27 v d p) :
    ∃ (N : Nat) (xs : List Int), v = oidV (N : Int) xs ∧ N < 256 ∧ xs.length = 16 ∧ U32 xs := by
  obtain ⟨cs, rfl, hsz⟩ := okWide_struct Tryd.underlying27 hv
  obtain ⟨l⟩ := cs
  have h3 : l.length = 17 := hsz.trans (by kernel_rfl)
  obtain ⟨fuel, hf⟩ := h
  obtain ⟨xs, n, _, _, _, hlen, hg⟩ := DataW.trod_struct Tryd.underlying27 hf
  have hx : xs.length = 2 := hlen
  obtain ⟨z0, e0, g0⟩ := field_int Tryd.underlying5 cellsE5 (hg 0 _ rfl) (by omega)
  obtain ⟨x1, h1⟩ := field_any cellsEA (hg 1 _ rfl) (by omega)
  obtain ⟨ys, m, _, _, _, hlen2, hg2⟩ := DataW.trod_array Tryd.underlying25 h1
  cases l with
  | nil => simp at h3
  | cons c0 t =>
    have ht : t.length = 16 := by simpa using h3
    have e0' : c0 = .int .u8 z0 := by simpa [Value.cells] using e0
    subst e0'
    have hd : (((Value.agg ⟨Value.int .u8 z0 :: t⟩).cells.toList).drop 1).take 16 = t := by
      show ((Value.int .u8 z0 :: t).drop 1).take 16 = t
      rw [List.drop_succ_cons, List.drop_zero, List.take_of_length_le (by omega)]
    obtain ⟨zs, e, hu⟩ := ints_of t (fun k hk => by
      have := hg2 k (by omega)
      have hd2 : List.take 16 (List.drop ((Tryd.prog.fieldsOf 27)[1]?.map (·.offset) |>.getD 1) (Value.agg ⟨Value.int .u8 z0 :: t⟩).cells.toList) = t := hd
      rw [cellsE32, List.getElem?_eq_getElem (by omega)] at this
      obtain ⟨z, h1, _, h2⟩ := DataW.trod_int Tryd.underlying24 this
      refine ⟨z, ?_, h2⟩
      rw [Nat.mul_one] at h1
      rw [← h1]
      congr 2
      exact hd.symm)
    subst e
    have hb := wf8 g0
    refine ⟨z0.toNat, zs, ?_, by omega, by simpa using ht, hu⟩
    show Value.agg ⟨_⟩ = Value.agg ⟨_⟩
    rw [show ((z0.toNat : Nat) : Int) = z0 by omega]
theorem open_str {r : Reach} {b0 : Nat} {v : Value} {d : DataW H} {ps : List MemPlace} (hval : Value.okWide Tryd.prog w r b0 9 v) (_hd : DataW.Trod enc Tryd.prog w base spare held 9 v d ps) :
    ∃ s : ByteArray, v = .string s := okWide_string Tryd.underlying9 hval
open Go.Proofs.YtacpcagijfacnaaDoorW.PrintWords in
theorem open_octets {r : Reach} {b0 : Nat} {v : Value} {d : DataW H} {ps : List MemPlace} (hval : Value.okWide Tryd.prog w r b0 22 v) (h0 : DataW.Trod enc Tryd.prog w base (fun _ => true) held 22 v d ps) :
    ∃ (A : Option Addr) (l : List Int) (c : Nat), v = .slice A l.length c ∧ Kd.C (Kd.int .u8) w A l.length l ∧ l.length ≤ c ∧ ∀ x ∈ l, 0 ≤ x ∧ x < 256 := by
  obtain ⟨a0, len0, cap0, rfl⟩ := okWide_slice Tryd.underlying22 hval
  obtain ⟨z0, w0⟩ : ∃ zs : List Int, (a0 = none ∧ len0 = 0 ∧ cap0 = 0 ∧ zs = []) ∨ ∃ x, a0 = some x ∧ len0 ≤ cap0 ∧ cap0 ≤ maxLen ∧ zs.length = cap0 ∧ (∀ i, i < zs.length → w.cell? (x.add i) = some (.int .u8 (zs.getD i 0))) ∧ ∀ n ∈ zs, (Lit.int .u8 n).wf = true := by
    obtain ⟨fuel, hf⟩ := h0
    rcases open_ints Tryd.underlying22 Tryd.underlying5 (by kernel_rfl) hf with ⟨hcs, _⟩ | ⟨x, l, c, zs, hcs, _, hl, hm, hz, _, hcell, hwz⟩
    · simp [Value.cells] at hcs
      obtain ⟨rfl, rfl, rfl⟩ := hcs
      exact ⟨[], .inl ⟨rfl, rfl, rfl, rfl⟩⟩
    · simp [Value.cells] at hcs
      obtain ⟨rfl, rfl, rfl⟩ := hcs
      exact ⟨zs, .inr ⟨_, rfl, hl, hm, by simpa using hz, hcell, hwz⟩⟩
  obtain ⟨l0, rfl, hr0, hm0, hw0, hc0⟩ := ReadsInt.ofRowC w0
  exact ⟨a0, l0, cap0, rfl, Kd.C_of_reads (d := (0 : Int)) (h1 := fun _ => rfl) hr0, hc0, fun x hx => wf8 (hw0 x hx)⟩
open Go.Proofs.YtacpcagijfacnaaDoorW.PrintWords in
theorem open_u32s {cs : List Value} {x : DataW H × List MemPlace} {fuel : Nat} (hf : DataW.trod enc Tryd.prog w base (fun _ => true) held fuel 43 cs = some x) :
    ∃ (A : Option Addr) (l : List Int) (c : Nat), cs = [.slice A l.length c] ∧ Kd.C (Kd.int .u32) w A l.length l ∧ l.length ≤ c ∧ U32 l := by
  rcases open_ints Tryd.underlying43 Tryd.underlying24 (by kernel_rfl) hf with ⟨hcs, _⟩ | ⟨x, l, c, zs, hcs, _, hl, hm, hz, _, hcell, hwz⟩
  · refine ⟨none, [], 0, hcs, ?_, Nat.le_refl _, fun x hx => by cases hx⟩
    obtain ⟨l0, e, hr0, _, _, _⟩ := ReadsInt.ofRowC (k := .u32) (w := w) (a := none) (len := 0) (cap := 0) (zs := []) (.inl ⟨rfl, rfl, rfl, rfl⟩)
    obtain rfl : l0 = [] := List.length_eq_zero_iff.mp e.symm
    exact Kd.C_of_reads (d := (0 : Int)) (h1 := fun _ => rfl) hr0
  · obtain ⟨l0, e, hr0, hm0, hw0, hc0⟩ := ReadsInt.ofRowC (k := .u32) (w := w) (a := some x) (len := l) (cap := c) (zs := zs) (.inr ⟨_, rfl, hl, hm, by simpa using hz, hcell, hwz⟩)
    subst e
    exact ⟨some x, l0, c, hcs, Kd.C_of_reads (d := (0 : Int)) (h1 := fun _ => rfl) hr0, hc0, fun x hx => wf32 (hw0 x hx)⟩
open Go.Proofs.YtacpcagijfacnaaDoorW.PrintWords in
theorem open_A {r : Reach} {b0 : Nat} {v : Value} {d : DataW H} {p : List MemPlace} (hv : Value.okWide Tryd.prog w r b0 45 v) (h : DataW.Trod enc Tryd.prog w base (fun _ => true) held 45 v d p) :
    ∃ (f s : Int) (A : Option Addr) (l : List Int) (c : Nat), v = .agg #[.int .u8 f, .int .u32 s, .slice A l.length c] ∧ (0 ≤ f ∧ f < 256) ∧ (0 ≤ s ∧ s < 4294967296) ∧ Kd.C (Kd.int .u32) w A l.length l ∧ l.length ≤ c ∧ U32 l := by
  obtain ⟨cs, rfl, hsz⟩ := okWide_struct Tryd.underlying45 hv
  obtain ⟨l⟩ := cs
  have h3 : l.length = 3 := hsz.trans (by kernel_rfl)
  obtain ⟨fuel, hf⟩ := h
  obtain ⟨xs, n, _, _, _, hlen, hg⟩ := DataW.trod_struct Tryd.underlying45 hf
  have hx : xs.length = 3 := hlen
  obtain ⟨z0, e0, g0⟩ := field_int Tryd.underlying5 cellsE5 (hg 0 _ rfl) (by omega)
  obtain ⟨z1, e1, g1⟩ := field_int Tryd.underlying24 cellsE32 (hg 1 _ rfl) (by omega)
  obtain ⟨x2, h2⟩ := field_any cellsEL (hg 2 _ rfl) (by omega)
  obtain ⟨A, bs, c, e2, hk, hc, hu⟩ := open_u32s h2
  match l, h3 with
  | [c0, c1, c2], _ =>
    simp [Value.cells] at e0 e1 e2
    subst e0 e1 e2
    exact ⟨z0, z1, A, bs, c, rfl, wf8 g0, wf32 g1, hk, hc, hu⟩
end
end Go.Proofs.YtacpcagijfacnaaDoor
