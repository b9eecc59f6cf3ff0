/- Chapters 6, 7 (oids, oidsets): the tables; FormatUint. -/
import Derived.Test.YtacpcagijfacnaaDoorWk
import Derived.Lib.ItoaLen
import Derived.Lib.ItoaMem
import Derived.IntWalk
import Derived.BigCall
import Derived.BigGuard
namespace Go.Proofs.YtacpcagijfacnaaDoor
open Go.RowKit Go.Shelf Go.Sort
open Go.Proofs.YtacpcagijfacnaaDoorW.PrintWords (blk_new blk_below blk_cell blk_alloc blk_lt blk_frozen blk_drew Kd.C Kd.int)
set_option linter.unusedSimpArgs false
set_option linter.unusedVariables false
set_option maxRecDepth 50000
/-- The reference's Get. -/
theorem rget_any (A : Option Addr) (c : Nat) (l : List Int) (w : World) (hl : l.length ≤ 1000000) (hby : Byt l) (hr : Kd.C (Kd.int .u8) w A l.length l) (rn er : Int) (rx : List Int) (hres : getT l = (rn, rx, er)) :
    Calls Tryd.prog 9 #[.slice A l.length c] w fun e w' => e = .returned (.tuple #[oidV rn rx, .int .i64 er]) ∧ Below w.heap.size w w' := by
  by_cases h : l = []
  · subst h
    obtain ⟨rfl, rfl, rfl⟩ : rn = 0 ∧ rx = Z16 ∧ er = 7 := by
      rw [show getT [] = (0, Z16, 7) from rfl] at hres
      injection hres with h1 h2; injection h2 with h2 h3; exact ⟨h1.symm, h2.symm, h3.symm⟩
    exact rget_nil A c w
  · exact rget_some A c l w h hl hby hr rn er rx hres
/-- The package-level tables hold what the program's text lays in them. -/
structure Tabs (w : World) : Prop where
  es : ∃ t p, w.cell? ⟨1, 0, none⟩ = some (.iface t p)
  er : ∃ t p, w.cell? ⟨2, 0, none⟩ = some (.iface t p)
  ml : ∃ m, w.cell? ⟨3, 0, none⟩ = some (.int .i64 m)
  pow : Lib.TabIs Tryd.prog w "internal/strconv.uint64pow10" .u64 Lib.pow10Tab
theorem gPow : Tryd.prog.globalNamed "internal/strconv.uint64pow10" = some 0 := by kernel_rfl
theorem Tabs.five {w : World} (h : Tabs w) : 3 < w.heap.size := by
  obtain ⟨m, hm⟩ := h.ml
  obtain ⟨t, p, hs⟩ := h.es
  obtain ⟨u, q, hr⟩ := h.er
  rcases Nat.lt_or_ge 3 w.heap.size with h0 | h1
  · exact h0
  · exfalso
    first
      | (simp [World.cell?, h1] at hm; done)
      | (simp [World.cell?, h1] at hr; done)
      | (simp [World.cell?, h1] at hs; done)
theorem Tabs.below {w w' : World} (h : Tabs w) {B : Nat} (hB : 3 < B) (hb : Below B w w') : Tabs w' := by
  have hk : ∀ (b k : Nat) (v : Value), b < 4 → w.cell? ⟨b, k, none⟩ = some v → w'.cell? ⟨b, k, none⟩ = some v := fun b k v hlt hv => by
    rw [← hv]; exact hb.cell (p := ⟨b, k, none⟩) (by show b < B; omega)
  obtain ⟨m, hm⟩ := h.ml
  obtain ⟨t, p, hs⟩ := h.es
  obtain ⟨u, q, hr⟩ := h.er
  refine ⟨⟨t, p, hk 1 0 _ (by omega) hs⟩, ⟨u, q, hk 2 0 _ (by omega) hr⟩, ⟨m, hk 3 0 _ (by omega) hm⟩, ?_⟩
  have hp := h.pow
  unfold Lib.TabIs World.var? at *
  rw [gPow] at *
  simpa [hb.block 0 (by omega)] using hp
/-- What a walk carries: since w nothing that was there has turned; the tables stand. -/
structure St (w w1 : World) : Prop where
  b : Below w.heap.size w w1
  t : Tabs w1
theorem St.refl {w : World} (h : Tabs w) : St w w := ⟨Below.refl _ _, h⟩
theorem St.next {w w1 w2 : World} (h : St w w1) (hb : Below w1.heap.size w1 w2) : St w w2 := ⟨h.b.trans (hb.mono h.b.size), h.t.below h.t.five hb⟩
theorem St.on {w w1 w2 : World} (h : St w w1) (h5 : 3 < w.heap.size) (hb : Below w.heap.size w1 w2) : St w w2 := ⟨h.b.trans hb, h.t.below h5 hb⟩
theorem St.alloc {w w1 : World} (h : St w w1) (o : Obj) : St w (w1.alloc o) := h.next ((Below.refl _ _).alloc (Nat.le_refl _) o)
theorem St.drew {w w1 : World} (h : St w w1) : St w w1.drew := h.next ((Below.refl _ _).drew)
theorem St.set {w w1 : World} (h : St w w1) (h5 : 3 < w.heap.size) {p : Addr} (hp : w.heap.size ≤ p.block) (u : Value) : St w (w1.setCell p u) :=
  h.on h5 ((Below.refl _ _).setCell hp u)
theorem below_grow (w : World) (k : Nat) (os : Array Obj) : Below w.heap.size w (Sort.grow (w.drewN k) os) := by
  refine ⟨rfl, rfl, rfl, ?_, fun j hj => ?_⟩
  · simp [Sort.grow]
  · show (w.heap ++ os)[j]? = _
    rw [Array.getElem?_append_left hj]
theorem holds0 (w : World) (T : TypeId) (nd : Nat) (hs : nd ≤ 24) : Holds (fun (b : UInt8) => Value.int .u8 (b.toNat : Int)) (w.alloc (.cells Lib.zeros24 T)) w.heap.size 0 (Array.replicate nd (0 : UInt8)) := fun j hj => by
  have hj' : j < nd := by simpa using hj
  refine ⟨?_, World.frozen?_alloc_new _ _ _ _⟩
  rw [World.cell?_alloc_new, Lib.zeros24_at _ (by omega), getElem!_pos _ j hj]
  simp
theorem fin0 (w : World) (o : Obj) (dk : Array UInt8) (k : Nat) : Below w.heap.size w ((putRow (fun (b : UInt8) => Value.int .u8 (b.toNat : Int)) (w.alloc o) w.heap.size 0 dk).drewN k) := by
  rw [alloc_eq_grow]
  obtain ⟨os', _, e⟩ := putRow_grow_new (fun (b : UInt8) => Value.int .u8 (b.toNat : Int)) w #[o] w.heap.size 0 dk (Nat.le_refl _)
  rw [e]
  exact below_grow w k os'
theorem fu_small (u : Nat) (hu : u < 100) (w : World) :
    Calls Tryd.prog 42 #[.int .u64 u, .int .i64 10] w fun e w' => e = .returned (.string ⟨(Lib.decDigits u).toArray⟩) ∧ Below w.heap.size w w' := by
  have hw : IntKind.i64.wrap (u : Int) = (u : Int) := by rw [IntKind.wrap_i64]; omega
  have h2 : (u : Int) < 100 := by omega
  go_enter Tryd.func42, Tryd.ntmps42
  go_wp2_with (go_at_call 52; refine (Tryd.internal_strconv_small u hu _).mono ?_; rintro e w' ⟨rfl, rfl⟩)
  go_ret
  exact ⟨rfl, Below.refl _ _⟩
set_option maxHeartbeats 4000000 in
theorem fu_big (u : Nat) (h100 : 100 ≤ u) (hu64 : u < 18446744073709551616) (w : World) (htab : Lib.TabIs Tryd.prog w "internal/strconv.uint64pow10" .u64 Lib.pow10Tab) :
    Calls Tryd.prog 42 #[.int .u64 u, .int .i64 10] w fun e w' => e = .returned (.string ⟨(Lib.decDigits u).toArray⟩) ∧ Below w.heap.size w w' := by
  have hu1 : 1 ≤ u := by omega
  have hl : ¬ (u : Int) < 100 := by omega
  have hnd20 : Lib.nDigits u ≤ 20 := by have := Lib.numDigits_eq u hu1 hu64; split at this <;> omega
  have hal : Tryd.prog.arrayLen 89 = 24 := by simp [Program.arrayLen, Tryd.underlying89]
  have hsl1 : ∀ W, (Instr.sliceAt 89 (.pointer (some ⟨w.heap.size, 0, none⟩)) none (some (.int .i64 (Lib.nDigits u : Int))) none).run Tryd.prog W = .ok (.slice (some ⟨w.heap.size, 0, none⟩) (Lib.nDigits u) 24) W := fun W => by
    rw [run_sliceAt_array_h W 89 ⟨w.heap.size, 0, none⟩ (by simp [Program.arrayLen, Program.elem, Tryd.underlying89]) .i64 (Lib.nDigits u : Int) (by omega) (by rw [hal]; omega)]
    go_simp
  have hH0 := holds0 w 89 (Lib.nDigits u) (by omega)
  have hfmt := Tryd.internal_strconv_formatBase10 w.heap.size 0 24 u (Array.replicate (Lib.nDigits u) 0) (w.alloc (.cells Lib.zeros24 89)) hH0 (by rw [Array.size_replicate]; exact Lib.lt_pow_nDigits u) hu64 (by rw [Array.size_replicate]; omega)
  rw [Array.size_replicate] at hfmt
  have HH0 := Lib.hid hH0
  clear hH0 hal
  go_enter Tryd.func42, Tryd.ntmps42
  go_wp2_with (first
    | (go_at_call 53; refine (Tryd.internal_strconv_numDigits u hu1 hu64 _ (Lib.tabIs_alloc htab _)).mono ?_; rintro e w' ⟨rfl, rfl⟩))
  go_at_call 54
  refine hfmt.mono ?_
  rintro e w' ⟨rfl, k, v', dk, rfl, hF⟩
  have hcv : (convert 22 9 (.slice (some ⟨w.heap.size, 0, none⟩) (Lib.nDigits u) 24)).run Tryd.prog ((putRow (fun (b : UInt8) => Value.int .u8 (b.toNat : Int)) (w.alloc (.cells Lib.zeros24 89)) w.heap.size 0 dk).drewN k) = .ok (.string ⟨(Lib.decDigits u).toArray⟩) ((putRow (fun (b : UInt8) => Value.int .u8 (b.toNat : Int)) (w.alloc (.cells Lib.zeros24 89)) w.heap.size 0 dk).drewN k) := by
    have h := run_convert_bytes_back (P := Tryd.prog) ((putRow (fun (b : UInt8) => Value.int .u8 (b.toNat : Int)) (w.alloc (.cells Lib.zeros24 89)) w.heap.size 0 dk).drewN k) 22 9 5 ⟨w.heap.size, 0, none⟩ 24 (Lib.decDigits u) Tryd.underlying22 Tryd.underlying5 Tryd.underlying9 (fun j hj => by
      rw [Lib.row_is_numeral hF j hj, Lib.add_plain, World.cell?_drewN]
      exact cell?_putRow (fun (b : UInt8) => Value.int .u8 (b.toNat : Int)) _ w.heap.size 0 _ dk HH0.out (by rw [hF.size, Array.size_replicate]) j (by rw [hF.size]; rw [Lib.decDigits_length] at hj; exact hj))
    rw [Lib.decDigits_length] at h
    exact h
  go_wp2
  go_ret
  exact ⟨rfl, fin0 w _ dk k⟩
/-- strconv.FormatUint at base 10. -/
theorem fu_any (u : Nat) (hu64 : u < 18446744073709551616) (w : World) (hT : Tabs w) :
    Calls Tryd.prog 31 #[.int .u64 u, .int .i64 10] w fun e w' => e = .returned (.string ⟨(Lib.decDigits u).toArray⟩) ∧ Below w.heap.size w w' := by
  have H : Hid (Calls Tryd.prog 42 #[.int .u64 u, .int .i64 10] w fun e w' => e = .returned (.string ⟨(Lib.decDigits u).toArray⟩) ∧ Below w.heap.size w w') := by
    by_cases h : u < 100
    · exact fu_small u h w
    · exact fu_big u (by omega) hu64 w hT.pow
  go_enter Tryd.func31, Tryd.ntmps31
  go_wp2_with (go_at_call 42; refine H.out.mono ?_; rintro e w' ⟨rfl, hb⟩)
  go_ret
  exact ⟨rfl, hb⟩
end Go.Proofs.YtacpcagijfacnaaDoor
