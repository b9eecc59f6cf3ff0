/- Chapter 2 (tags): the tables; the contract of Text. -/
import Derived.Test.YtpdomckacfeffaaDoorWc
import Derived.Deep.RegionHeld3
import Derived.Lib.ItoaLen
import Derived.IntWalk
namespace Go.Proofs.YtpdomckacfeffaaDoor
open Go.RowKit Go.Shelf
open Go.Proofs.YtpdomckacfeffaaDoorW.PrintWords (blk_new blk_below blk_cell blk_alloc blk_lt blk_frozen blk_drew)

/-- The names of the classes, in bytes. -/
def cname (k : Int) : List UInt8 :=
  if k = 0 then [117, 110, 105, 118, 101, 114, 115, 97, 108] else if k = 1 then [97, 112, 112, 108, 105, 99, 97, 116, 105, 111, 110] else if k = 2 then [99, 111, 110, 116, 101, 120, 116] else [112, 114, 105, 118, 97, 116, 101]
/-- The package-level tables hold what the program's text lays in them. -/
structure Tabs (w : World) : Prop where
  cls : ∀ k : Nat, k < 4 → w.cell? ⟨0, k, none⟩ = some (.string ⟨(cname (k : Int)).toArray⟩)
  ml : ∃ m, w.cell? ⟨1, 0, none⟩ = some (.int .i64 m)
  es : ∃ t p, w.cell? ⟨2, 0, none⟩ = some (.iface t p)
  er : ∃ t p, w.cell? ⟨3, 0, none⟩ = some (.iface t p)
  pow : Lib.TabIs Tryd.prog w "internal/strconv.uint64pow10" .u64 Lib.pow10Tab
theorem gPow : Tryd.prog.globalNamed "internal/strconv.uint64pow10" = some 4 := by kernel_rfl
theorem Tabs.five {w : World} (h : Tabs w) : 4 < w.heap.size := by
  have hp := h.pow
  unfold Lib.TabIs World.var? at hp
  rw [gPow] at hp
  rcases Nat.lt_or_ge 4 w.heap.size with h0 | h1
  · exact h0
  · simp [h1] at hp
theorem Tabs.below {w w' : World} (h : Tabs w) {B : Nat} (hB : 4 < B) (hb : Below B w w') : Tabs w' := by
  have hk : ∀ (b k : Nat) (v : Value), b < 4 → w.cell? ⟨b, k, none⟩ = some v → w'.cell? ⟨b, k, none⟩ = some v := fun b k v hlt hv => by
    rw [← hv]; exact hb.cell (p := ⟨b, k, none⟩) (by show b < B; omega)
  obtain ⟨m, hm⟩ := h.ml
  obtain ⟨t, p, hs⟩ := h.es
  obtain ⟨u, q, hr⟩ := h.er
  refine ⟨fun k hk4 => hk 0 k _ (by omega) (h.cls k hk4), ⟨m, hk 1 0 _ (by omega) hm⟩, ⟨t, p, hk 2 0 _ (by omega) hs⟩, ⟨u, q, hk 3 0 _ (by omega) hr⟩, ?_⟩
  have hp := h.pow
  unfold Lib.TabIs World.var? at *
  rw [gPow] at *
  simpa [hb.block 4 hB] using hp
/-- What a walk carries: since w nothing that was there has turned; the tables stand. -/
structure St (w w1 : World) : Prop where
  b : Below w.heap.size w w1
  t : Tabs w1
theorem St.refl {w : World} (h : Tabs w) : St w w := ⟨Below.refl _ _, h⟩
theorem St.next {w w1 w2 : World} (h : St w w1) (hb : Below w1.heap.size w1 w2) : St w w2 := ⟨h.b.trans (hb.mono h.b.size), h.t.below h.t.five hb⟩
theorem St.alloc {w w1 : World} (h : St w w1) (o : Obj) : St w (w1.alloc o) := h.next ((Below.refl _ _).alloc (Nat.le_refl _) o)
theorem St.drew {w w1 : World} (h : St w w1) : St w w1.drew := h.next ((Below.refl _ _).drew)
theorem below_drewN {B : Nat} {a w : World} (h : Below B a w) (n : Nat) : Below B a (w.drewN n) := h.trans ⟨rfl, rfl, rfl, Nat.le_refl _, fun _ _ => rfl⟩
theorem St.drewN {w w1 : World} (h : St w w1) (n : Nat) : St w (w1.drewN n) := h.next (below_drewN (Below.refl _ _) n)
theorem St.set {w w1 : World} (h : St w w1) (h5 : 4 < w.heap.size) {p : Addr} (hp : w.heap.size ≤ p.block) (u : Value) : St w (w1.setCell p u) :=
  have hb : Below w.heap.size w1 (w1.setCell p u) := (Below.refl _ _).setCell hp u
  ⟨h.b.trans hb, h.t.below h5 hb⟩
theorem below_grow (w : World) (k : Nat) (os : Array Obj) : Below w.heap.size w (Sort.grow (w.drewN k) os) := by
  refine ⟨rfl, rfl, rfl, ?_, fun j hj => ?_⟩
  · simp [Sort.grow]
  · show (w.heap ++ os)[j]? = _
    rw [Array.getElem?_append_left hj]
theorem itoa_any (n : Int) (h0 : 0 ≤ n) (h1 : n ≤ 4294967295) (w : World) (hT : Tabs w) :
    Calls Tryd.prog 28 #[.int .i64 n] w fun e w' => e = .returned (.string ⟨(Lib.itoa n).toArray⟩) ∧ Below w.heap.size w w' := by
  refine (Tryd.strconv_Itoa n (by omega) (by omega) w hT.pow).mono ?_
  rintro e w' ⟨rfl, k, os, rfl⟩
  exact ⟨rfl, below_grow w k os⟩
def sfx : List UInt8 := [32, 99, 111, 110, 115, 116, 114, 117, 99, 116, 101, 100]
/-- The text of a valid tag. -/
def txt (cl : Int) (co : Bool) (nu : Int) : List UInt8 := cname cl ++ [32] ++ Lib.itoa nu ++ (if co then sfx else [])
set_option maxHeartbeats 4000000 in
theorem text_err (cl : Int) (co : Bool) (nu r : Int) (w : World) (hr : chk cl co nu = r) (hr0 : (r == 0) = false) :
    Calls Tryd.prog 16 #[.agg #[.int .u8 cl, .bool co, .int .u32 nu]] w fun e w' => e = .returned (.string ⟨#[63]⟩) ∧ Below w.heap.size w w' := by
  have H := check_any cl co nu
  rw [hr] at H
  have H' := Lib.hid H
  clear H hr
  have hr1 : (r != 0) = true := by simp [bne, hr0]
  have B0 := Lib.hid ((Below.refl w.heap.size w).alloc (Nat.le_refl _) (.cells #[.int .u8 cl, .bool co, .int .u32 nu] 27))
  go_enter Tryd.func16, Tryd.ntmps16
  go_wp2_with (go_at_call 21; refine (H'.out _).mono ?_; rintro e w1 ⟨rfl, hb⟩; have B1 := Lib.hid (B0.out.trans (hb.mono (by simp))); clear hb)
  go_ret
  exact ⟨rfl, B1.out⟩
theorem text_keep {w W W' : World} {g k : Nat} {a0 a1 a2 nm : Value} (h : W.cell? ⟨g, 0, none⟩ = some a0 ∧ W.cell? ⟨g, 1, none⟩ = some a1 ∧ W.cell? ⟨g, 2, none⟩ = some a2 ∧ W.cell? ⟨0, k, none⟩ = some nm ∧ St w W) (hb : Below W.heap.size W W') :
    W'.cell? ⟨g, 0, none⟩ = some a0 ∧ W'.cell? ⟨g, 1, none⟩ = some a1 ∧ W'.cell? ⟨g, 2, none⟩ = some a2 ∧ W'.cell? ⟨0, k, none⟩ = some nm ∧ St w W' :=
  ⟨cell_kept1 h.1 hb, cell_kept1 h.2.1 hb, cell_kept1 h.2.2.1 hb, cell_kept1 h.2.2.2.1 hb, h.2.2.2.2.next hb⟩
set_option maxHeartbeats 4000000 in
theorem text_gen (cl : Int) (co : Bool) (nu : Int) (nm dg : ByteArray) (w : World) (hT : Tabs w) (hc0 : 0 ≤ cl) (hc1 : cl ≤ 3) (h0 : 0 ≤ nu) (h1 : nu < 268435456) (hr : chk cl co nu = 0)
    (hn : ∀ W, Tabs W → W.cell? ⟨0, cl.toNat, none⟩ = some (.string nm)) (hns : nm.size ≤ 11) (hds : dg.size ≤ 21)
    (H28 : Hid (∀ w, Tabs w → Calls Tryd.prog 28 #[.int .i64 nu] w fun e w' => e = .returned (.string dg) ∧ Below w.heap.size w w')) :
    Calls Tryd.prog 16 #[.agg #[.int .u8 cl, .bool co, .int .u32 nu]] w fun e w' => e = .returned (.string (if co then nm ++ ⟨#[32]⟩ ++ dg ++ ⟨sfx.toArray⟩ else nm ++ ⟨#[32]⟩ ++ dg)) ∧ Below w.heap.size w w' := by
  have H := check_any cl co nu
  rw [hr] at H
  have H' := Lib.hid H
  clear H hr
  have HN := Lib.hid hn
  clear hn
  have S0 := Lib.hid ((St.refl hT).alloc (.cells #[.int .u8 cl, .bool co, .int .u32 nu] 27))
  have C0 := Lib.hid (blk_new w (.cells #[.int .u8 cl, .bool co, .int .u32 nu] 27))
  have hs1 : (nm ++ (⟨#[32]⟩ : ByteArray)).size = nm.size + 1 := by rw [ByteArray.size_append]; rfl
  have hs2 : (nm ++ (⟨#[32]⟩ : ByteArray) ++ dg).size = nm.size + 1 + dg.size := by rw [ByteArray.size_append, hs1]
  have ha1 := fun W => run_string_add_sum (P := Tryd.prog) (w := W) nm ⟨#[32]⟩ (by show nm.size + 1 ≤ _; omega)
  have ha2 := fun W => run_string_add_sum (P := Tryd.prog) (w := W) (nm ++ (⟨#[32]⟩ : ByteArray)) dg (by rw [hs1]; omega)
  have ha3 := fun W => run_string_add_sum (P := Tryd.prog) (w := W) (nm ++ (⟨#[32]⟩ : ByteArray) ++ dg) ⟨#[32, 99, 111, 110, 115, 116, 114, 117, 99, 116, 101, 100]⟩ (by rw [hs2]; show nm.size + 1 + dg.size + 12 ≤ _; omega)
  have hwr : IntKind.i64.wrap nu = nu := IntWalk.i64_in _ (by omega)
  have hc4 : cl < 4 := by omega
  have hc5 : ¬ cl < 0 := by omega
  clear hs1 hs2 hns hds
  go_enter Tryd.func16, Tryd.ntmps16
  go_wp2_with (go_at_call 21; refine (H'.out _).mono ?_; rintro e w1 ⟨rfl, hb⟩; have S1 := Lib.hid (S0.out.next hb); have hc := three (blk_below C0.out hb); obtain ⟨c0, c1, c2⟩ := hc; have C1 := Lib.hid (blk_below C0.out hb); clear hb)
  have hS := (⟨c0, c1, c2, HN.out _ S1.out.t, S1.out⟩ : w1.cell? ⟨w.heap.size, 0, none⟩ = some _ ∧ w1.cell? ⟨w.heap.size, 1, none⟩ = some _ ∧ w1.cell? ⟨w.heap.size, 2, none⟩ = some _ ∧ w1.cell? ⟨0, cl.toNat, none⟩ = some (.string nm) ∧ St w w1)
  have hS' := text_keep hS ((Below.refl _ _).drew)
  go_region_held3 (fun W => W.cell? ⟨w.heap.size, 0, none⟩ = some (.int .u8 cl) ∧ W.cell? ⟨w.heap.size, 1, none⟩ = some (.bool co) ∧ W.cell? ⟨w.heap.size, 2, none⟩ = some (.int .u32 nu) ∧ W.cell? ⟨0, cl.toNat, none⟩ = some (.string nm) ∧ St w W)
    (first | assumption | exact text_keep (by assumption) (by assumption))
    (first | (go_at_call 28; ((with_reducible refine (H28.out _ (by first | exact hS'.2.2.2.2.t | assumption)).mono ?_); rintro e w' ⟨rfl, hb⟩; have hk := text_keep hS' hb)))
  all_goals
    have hk' := hk
    obtain ⟨k0, k1, k2, k3, k4⟩ := hk'
    cases co
    all_goals
      go_wp2
      go_ret
      exact ⟨rfl, k4.b⟩
theorem app_bytes (a l : List UInt8) : (⟨a.toArray⟩ : ByteArray) ++ ⟨l.toArray⟩ = ⟨(a ++ l).toArray⟩ := by
  apply ByteArray.ext
  rw [ByteArray.data_append]
  simp
theorem size_list (l : List UInt8) : (⟨l.toArray⟩ : ByteArray).size = l.length := by simp [ByteArray.size]
theorem cname_len (k : Int) : (cname k).length ≤ 11 := by unfold cname; split; · decide
                                                          split; · decide
                                                          split <;> decide
/-- TEXT: of a valid tag, its text. -/
theorem text_ok (cl : Int) (co : Bool) (nu : Int) (w : World) (hT : Tabs w) (hc0 : 0 ≤ cl) (hc1 : cl ≤ 3) (h0 : 0 ≤ nu) (h1 : nu < 268435456) (hr : chk cl co nu = 0) :
    Calls Tryd.prog 16 #[.agg #[.int .u8 cl, .bool co, .int .u32 nu]] w fun e w' => e = .returned (.string ⟨(txt cl co nu).toArray⟩) ∧ Below w.heap.size w w' := by
  have H := text_gen cl co nu ⟨(cname cl).toArray⟩ ⟨(Lib.itoa nu).toArray⟩ w hT hc0 hc1 h0 h1 hr (fun W hW => by
      have := hW.cls cl.toNat (by omega)
      rwa [show ((cl.toNat : Nat) : Int) = cl by omega] at this)
    (by rw [size_list]; exact cname_len cl) (by rw [size_list]; exact Lib.itoa_length_le nu (by omega) (by omega)) (fun W hW => itoa_any nu h0 (by omega) W hW)
  have e : (if co then (⟨(cname cl).toArray⟩ : ByteArray) ++ ⟨#[32]⟩ ++ ⟨(Lib.itoa nu).toArray⟩ ++ ⟨sfx.toArray⟩ else ⟨(cname cl).toArray⟩ ++ ⟨#[32]⟩ ++ ⟨(Lib.itoa nu).toArray⟩) = ⟨(txt cl co nu).toArray⟩ := by
    have e32 : (⟨#[32]⟩ : ByteArray) = ⟨([32] : List UInt8).toArray⟩ := rfl
    rw [e32, app_bytes, app_bytes]
    unfold txt
    cases co
    · simp
    · rw [if_pos rfl, if_pos rfl, app_bytes]
  rw [e] at H
  exact H
end Go.Proofs.YtpdomckacfeffaaDoor
