/- Chapter 10 (times): the opener of an element. -/
import Derived.Test.YtbncjjobdipmgaaDoorLaS
import Derived.Test.YtbncjjobdipmgaaDoorWr
namespace Go.Proofs.YtbncjjobdipmgaaDoor
open Go.ChangeShapes Go.WideShapes Go.ChangeAt Go.RowKit Pl

section
variable {H : Type} {enc : TypeId × Value → H} {w : World} {base : Nat} {spare : Nat → Bool} {held : Bool}
theorem cellsE33 : Tryd.prog.cellsOf 33 = 3 := by kernel_rfl
theorem cellsE37 : Tryd.prog.cellsOf 37 = 5 := by kernel_rfl
theorem cellsE30 : Tryd.prog.cellsOf 30 = 1 := by kernel_rfl
theorem cellsE4 : Tryd.prog.cellsOf 4 = 1 := by kernel_rfl
theorem cellsE31 : Tryd.prog.cellsOf 31 = 1 := by kernel_rfl
theorem cellsE34 : Tryd.prog.cellsOf 34 = 1 := by kernel_rfl
theorem cellsE35 : Tryd.prog.cellsOf 35 = 1 := by kernel_rfl
theorem field_any {t : TypeId} {k : Nat} (hc : Tryd.prog.cellsOf t = k) {cs : List Value} {xs : List (DataW H × List MemPlace)} {n i off : Nat}
    (h : DataW.trod enc Tryd.prog w base spare held n t ((cs.drop off).take (Tryd.prog.cellsOf t)) = xs[i]?) (hi : i < xs.length) : ∃ x, DataW.trod enc Tryd.prog w base spare held n t ((cs.drop off).take k) = some x := by
  rw [hc, List.getElem?_eq_getElem hi] at h
  exact ⟨_, h⟩
theorem block_lt {a : Addr} {v : Value} (h : w.cell? a = some v) : a.block < w.heap.size := by
  by_cases hlt : a.block < w.heap.size
  · exact hlt
  · unfold World.cell? at h
    rw [Array.getElem?_eq_none (by omega)] at h
    cases h
/-- A slice of bytes: its bytes stand wherever nothing below has turned. -/
theorem open_bytes {cs : List Value} {x : DataW H × List MemPlace} {fuel : Nat} (hf : DataW.trod enc Tryd.prog w base spare held fuel 34 cs = some x) :
    ∃ (a : Option Addr) (l : List UInt8) (c : Nat), cs = [.slice a l.length c] ∧ Bytes a c l w := by
  rcases DataW.trod_slice Tryd.underlying34 hf with ⟨rfl, rfl⟩ | ⟨a, len, cap, elems, rest, n, _, rfl, rfl, _, _, _, hlen, hg, _⟩
  · exact ⟨none, [], 0, rfl, fun W _ => run_convert_bytes_nil (P := Tryd.prog) W 34 5 Tryd.underlying34 Tryd.underlying5 0 0 9 Tryd.underlying9⟩
  · have hz : ∀ i, i < len → ∃ z : UInt8, w.cell? (a.add i) = some (.int .u8 (z.toNat : Int)) := fun i hi => by
      have h := hg i hi
      rw [cells5, Nat.mul_one, List.getElem?_eq_getElem (by omega)] at h
      obtain ⟨cl, h1, h2⟩ := Option.bind_eq_some_iff.mp h
      obtain ⟨z, rfl, _, hw⟩ := DataW.trod_int Tryd.underlying5 h2
      have hb := wf_u8 hw
      refine ⟨UInt8.ofNat z.toNat, ?_⟩
      rw [cell_of_cells?_one h1]
      have : ((UInt8.ofNat z.toNat).toNat : Int) = z := by
        rw [UInt8.toNat_ofNat']
        omega
      rw [this]
    have hl : ∀ m, m ≤ len → ∃ l : List UInt8, l.length = m ∧ ∀ j (hj : j < l.length), w.cell? (a.add j) = some (.int .u8 (l[j].toNat : Int)) := by
      intro m
      induction m with
      | zero => intro _; exact ⟨[], rfl, fun j hj => by cases hj⟩
      | succ m ih =>
        intro hm
        obtain ⟨l, hl, hc⟩ := ih (by omega)
        obtain ⟨z, hz⟩ := hz m (by omega)
        refine ⟨l ++ [z], by simp [hl], fun j hj => ?_⟩
        by_cases h : j < l.length
        · rw [List.getElem_append_left h]; exact hc j h
        · have : j = m := by simp at hj; omega
          subst this
          rw [List.getElem_append_right (by omega)]
          simpa [hl] using hz
    obtain ⟨l, rfl, hc⟩ := hl len (Nat.le_refl _)
    refine ⟨some a, l, cap, rfl, fun W hb => run_convert_bytes_back W 34 9 5 a _ l Tryd.underlying34 Tryd.underlying5 Tryd.underlying9 fun j hj => ?_⟩
    rw [← hc j hj]
    have hlt : a.block < w.heap.size := by
      have := block_lt (hc j hj)
      rwa [block_add] at this
    exact hb.cell (p := a.add j) (by rw [block_add]; exact hlt)
theorem open_subs {cs : List Value} {x : DataW H × List MemPlace} {fuel : Nat} (hf : DataW.trod enc Tryd.prog w base spare held fuel 35 cs = some x) :
    ∃ (a : Option Addr) (n c : Nat), cs = [.slice a n c] := by
  rcases DataW.trod_slice Tryd.underlying35 hf with ⟨rfl, rfl⟩ | ⟨a, len, cap, elems, rest, n, _, rfl, _⟩
  · exact ⟨_, _, _, rfl⟩
  · exact ⟨_, _, _, rfl⟩
theorem open_tag {l : List Value} (h3 : l.length = 3) {fuel : Nat} {x : DataW H × List MemPlace} (hf : DataW.trod enc Tryd.prog w base spare held fuel 33 l = some x) :
    ∃ (cl : Int) (co : Bool) (nu : Int), l = [.int .u8 cl, .bool co, .int .u32 nu] := by
  obtain ⟨xs, n, _, _, _, hlen, hg⟩ := DataW.trod_struct Tryd.underlying33 hf
  have hx : xs.length = 3 := hlen
  obtain ⟨z0, e0, g0⟩ := field_int Tryd.underlying30 cellsE30 (hg 0 _ rfl) (by omega)
  obtain ⟨x1, h1⟩ := field_any cellsE4 (hg 1 _ rfl) (by omega)
  obtain ⟨z2, e2, g2⟩ := field_int Tryd.underlying31 cellsE31 (hg 2 _ rfl) (by omega)
  obtain ⟨b, e1, _⟩ := DataW.trod_bool Tryd.underlying4 h1
  match l, h3 with
  | [c0, c1, c2], _ =>
    simp at e0 e1 e2
    subst e0 e1 e2
    exact ⟨z0, b, z2, rfl⟩
theorem open_elem {r : Reach} {b0 : Nat} {v : Value} {d : DataW H} {p : List MemPlace} (hv : Value.okWide Tryd.prog w r b0 37 v) (h : DataW.Trod enc Tryd.prog w base spare held 37 v d p) :
    ∃ (cl : Int) (co : Bool) (nu : Int) (a sa : Option Addr) (l : List UInt8) (c sn sc : Nat), v = .agg #[.int .u8 cl, .bool co, .int .u32 nu, .slice a l.length c, .slice sa sn sc] ∧ Bytes a c l w := by
  obtain ⟨cs, rfl, hsz⟩ := okWide_struct Tryd.underlying37 hv
  obtain ⟨l⟩ := cs
  have h5 : l.length = 5 := hsz.trans (by kernel_rfl)
  obtain ⟨fuel, hf⟩ := h
  obtain ⟨xs, n, _, _, _, hlen, hg⟩ := DataW.trod_struct Tryd.underlying37 hf
  have hx : xs.length = 3 := hlen
  obtain ⟨x0, g0⟩ := field_any cellsE33 (hg 0 _ rfl) (by omega)
  obtain ⟨x1, g1⟩ := field_any cellsE34 (hg 1 _ rfl) (by omega)
  obtain ⟨x2, g2⟩ := field_any cellsE35 (hg 2 _ rfl) (by omega)
  match l, h5 with
  | [c0, c1, c2, c3, c4], _ =>
    obtain ⟨cl, co, nu, e0⟩ := open_tag rfl g0
    obtain ⟨a, bs, c, e1, hb⟩ := open_bytes g1
    obtain ⟨sa, sn, sc, e2⟩ := open_subs g2
    simp [Value.cells] at e0 e1 e2
    obtain ⟨rfl, rfl, rfl⟩ := e0
    subst e1 e2
    exact ⟨cl, co, nu, a, sa, bs, c, sn, sc, rfl, hb⟩
end
end Go.Proofs.YtbncjjobdipmgaaDoor
