/- Chapter 22 (armors): Encode. -/
import Derived.Test.YtbdccfjeeabpaaaNe
namespace Go.Proofs.Ytbdccfjeeabpaaa
open Go.RowKit Go.Shelf
open Go.Proofs.YtbdccfjeeabpaaaW.PrintWords (ReadsOf blk_cell)
set_option linter.unusedSimpArgs false
set_option linter.unusedVariables false
set_option maxRecDepth 50000
def b8 (l : List Int) : List UInt8 := l.map fun x => x.toNat.toUInt8
theorem b8_cells {l : List Int} (h : Byt l) : l.map (Value.int .u8) = Lib.byteCells (b8 l) := by
  unfold Lib.byteCells b8
  rw [List.map_map]
  refine List.map_congr_left fun x hx => ?_
  have := h x hx
  simp only [Function.comp]
  congr 1
  have h2 : x.toNat < 256 := by omega
  rw [show (x.toNat.toUInt8).toNat = x.toNat from by simp [Nat.toUInt8, UInt8.toNat_ofNat']; omega]
  omega
theorem ups_step {m L k k' : Nat} (h : L ≤ m * k) (hk : k ≤ k') : ups m L k' = ups m L k := by
  induction k' with
  | zero => rw [show k = 0 by omega]
  | succ n ih =>
    by_cases e : k = n + 1
    · rw [e]
    · have h2 : m * k ≤ m * n := Nat.mul_le_mul_left m (by omega)
      rw [ups, dif_neg (by omega)]
      exact ih (by omega)
theorem ups_all {m L k : Nat} (hm : 1 ≤ m) (h : L ≤ m * k) : ups m L k = ups m L L := by
  have h2 : L ≤ m * L := Nat.le_mul_of_pos_left _ (by omega)
  rcases Nat.le_total k L with h3 | h3
  · exact (ups_step h h3).symm
  · exact ups_step h2 h3
/-- The base64 of bytes. -/
def encB (l : List Int) : List Int := encK 3 l (ups 3 l.length l.length)
def encS (l : List Int) : List UInt8 := b8 (encB l)
theorem al_byt (v : Int) : 0 ≤ al v ∧ al v < 256 := by
  unfold al
  have := (alphB.data.getD v.toNat 0).toNat_lt
  omega
theorem chr_byt (x : List Int) (j : Nat) : 0 ≤ chr x j ∧ chr x j < 256 := by
  unfold chr
  split
  · omega
  · exact al_byt _
theorem e4_byt (x : List Int) : Byt (e4 x) := by
  intro y hy
  simp [e4] at hy
  rcases hy with rfl | rfl | rfl | rfl <;> exact chr_byt _ _
theorem encB_byt (l : List Int) : Byt (encB l) := by
  intro y hy
  unfold encB encK at hy
  obtain ⟨x, _, hx⟩ := List.mem_flatMap.1 hy
  exact e4_byt _ y hx
theorem encB_len (l : List Int) : (encB l).length ≤ 4 * l.length := by
  unfold encB
  rw [encK_len]
  have := ups_len 3 l.length l.length
  omega
theorem encode_is (w0 w : World) (b : Nat) (bs : List Value) (A : Option Addr) (l : List Int) (c : Nat) (hb : EnI w0 w b bs w) (hr : ReadsOf (Value.int .u8) (0 : Int) w0 A l.length l) (hl : l.length ≤ 1000000000) (hbs : bs.length ≤ 100000000000) (hc : l.length ≤ c) (hby : Byt l) :
    Calls Try.prog 23 #[.pointer (some ⟨b, 0, none⟩), .slice A l.length c] w fun e w' => e = .returned (.tuple #[]) ∧ EnI w0 w b (bs ++ (encB l).map (Value.int .u8)) w' := by
  refine (encode_any w0 w b bs A l c hb hr hl hbs hc hby).mono ?_
  rintro e w' ⟨rfl, k, hk, h⟩
  rw [ups_all (by omega) hk] at h
  exact ⟨rfl, h⟩
set_option maxHeartbeats 4000000 in
theorem encode16_any (A : Option Addr) (l : List Int) (c : Nat) (w : World) (hr : ReadsOf (Value.int .u8) (0 : Int) w A l.length l) (hl : l.length ≤ 1000000000) (hc : l.length ≤ c) (hby : Byt l) :
    Calls Try.prog 16 #[.slice A l.length c] w fun e w' => e = .returned (.string ⟨(encS l).toArray⟩) ∧ Below w.heap.size w w' := by
  have hW := heap_alloc_new w (.cells #[.pointer none, .slice none 0 0] 45)
  have hE : EnI w (w.alloc (.cells #[.pointer none, .slice none 0 0] 45)) w.heap.size [] (w.alloc (.cells #[.pointer none, .slice none 0 0] 45)) :=
    ⟨.inl ⟨Nat.le_refl _, _, hW, ⟨rfl, .inl ⟨rfl, rfl⟩⟩, by simp [Value.ownBlock]⟩, (Below.refl _ _).alloc (Nat.le_refl _) _, Lib.OthersKept.refl _ _ _, Nat.le_refl _⟩
  have HE := Lib.hid hE
  have HR := Lib.hid hr
  clear hE hW hr
  go_enter Try.func16, Try.ntmps16
  go_wp2_with (first
    | (go_at_call 23; refine (encode_is w _ w.heap.size [] A l c HE.out HR.out hl (by simp) hc hby).mono ?_; rintro e w' ⟨rfl, h⟩; rw [List.nil_append, b8_cells (encB_byt l)] at h; have HF := Lib.hid h; clear h)
    | (go_at_call 26; refine (Try.Builder_String_any_f w.heap.size w.heap.size _ _ HF.out.bld HF.out.bel.size).mono ?_; rintro e w2 ⟨rfl, h1, h2⟩; have HB2 := Lib.hid (HF.out.bel.trans h2); clear h1 h2))
  go_ret
  exact ⟨rfl, HB2.out⟩
end Go.Proofs.Ytbdccfjeeabpaaa
