/- Chapter 10 (times): digits of two and four places; the contract of slices.Clip; Element. -/
import Derived.Test.YtbncjjobdipmgaaDoorWi
import Derived.Deep.RegionWith
import Derived.RegionTactic
namespace Go.Proofs.YtbncjjobdipmgaaDoor
open Go.RowKit Pl

def ch (n : Int) : UInt8 := UInt8.ofNat (48 + n.toNat)
theorem itoa_of {n : Int} (h : 0 ≤ n) : Lib.itoa n = Lib.decDigits n.toNat := by unfold Lib.itoa; rw [if_neg (by omega)]
theorem dd1 {u : Nat} (h : u < 10) : Lib.decDigits u = [UInt8.ofNat (48 + u)] := by rw [Lib.decDigits, dif_pos h]
theorem dd2 {u : Nat} (h : ¬ u < 10) : Lib.decDigits u = Lib.decDigits (u / 10) ++ [UInt8.ofNat (48 + u % 10)] := by rw [Lib.decDigits, dif_neg h]
theorem dg2 (n : Int) (h0 : 0 ≤ n) (h1 : n ≤ 99) : dg 2 n = [ch (n / 10), ch (n % 10)] := by
  obtain ⟨u, rfl⟩ := Int.eq_ofNat_of_zero_le h0
  unfold dg pad ch
  rw [itoa_of h0, Int.toNat_natCast, show ((u : Int) / 10).toNat = u / 10 by omega, show ((u : Int) % 10).toNat = u % 10 by omega]
  by_cases h : u < 10
  · rw [dd1 h, show u / 10 = 0 by omega, show u % 10 = u by omega]; rfl
  · rw [dd2 h, dd1 (by omega)]; rfl
theorem dg4 (n : Int) (h0 : 0 ≤ n) (h1 : n ≤ 9999) : dg 4 n = [ch (n / 1000), ch (n / 100 % 10), ch (n / 10 % 10), ch (n % 10)] := by
  obtain ⟨u, rfl⟩ := Int.eq_ofNat_of_zero_le h0
  unfold dg pad ch
  rw [itoa_of h0, Int.toNat_natCast, show ((u : Int) / 1000).toNat = u / 1000 by omega, show ((u : Int) / 100 % 10).toNat = u / 100 % 10 by omega, show ((u : Int) / 10 % 10).toNat = u / 10 % 10 by omega, show ((u : Int) % 10).toNat = u % 10 by omega]
  by_cases h : u < 10
  · rw [dd1 h, show u / 1000 = 0 by omega, show u / 100 % 10 = 0 by omega, show u / 10 % 10 = 0 by omega, show u % 10 = u by omega]; rfl
  · by_cases h2 : u < 100
    · rw [dd2 h, dd1 (by omega), show u / 1000 = 0 by omega, show u / 100 % 10 = 0 by omega, show u / 10 % 10 = u / 10 by omega]; rfl
    · by_cases h3 : u < 1000
      · rw [dd2 h, dd2 (show ¬ u / 10 < 10 by omega), dd1 (by omega), show u / 1000 = 0 by omega, show u / 100 % 10 = u / 10 / 10 by omega]; rfl
      · rw [dd2 h, dd2 (show ¬ u / 10 < 10 by omega), dd2 (show ¬ u / 10 / 10 < 10 by omega), dd1 (by omega), show u / 1000 = u / 10 / 10 / 10 by omega, show u / 100 % 10 = u / 10 / 10 % 10 by omega]; rfl

theorem clip_any (g n c : Nat) (hn : n ≤ c) (_hc : n ≤ 1000000) (w : World) : Calls Tryd.prog 33 #[.slice (some ⟨g, 0, none⟩) n c] w fun e w' => e = .returned (.slice (some ⟨g, 0, none⟩) n n) ∧ w' = w := by
  go_enter Tryd.func33, Tryd.ntmps33
  go_wp2
  go_ret
  exact ⟨rfl, rfl⟩

/-- What stands in memory while Element works: the time's box (block n), the result (n+1). -/
structure ElR (w : World) (tv : Array Value) (wr : World) : Prop where
  t : wr.heap[w.heap.size]? = some (.cells tv 23 (0, 0))
  r : wr.heap[w.heap.size + 1]? = some (.cells #[.int .u8 0, .bool false, .int .u32 0, .slice none 0 0, .slice none 0 0] 37 (0, 0))
  st : St w wr
theorem ElR.start (w : World) (hT : Tabs w) (tv : Array Value) : ElR w tv ((w.alloc (.cells tv 23)).alloc (.cells #[.int .u8 0, .bool false, .int .u32 0, .slice none 0 0, .slice none 0 0] 37)) := by
  refine ⟨blk_alloc (blk_new _ _) _, ?_, ((St.refl hT).alloc _).alloc _⟩
  have := blk_new (w.alloc (.cells tv 23)) (.cells #[.int .u8 0, .bool false, .int .u32 0, .slice none 0 0, .slice none 0 0] 37)
  simpa using this
theorem ElR.below {w wr w' : World} {tv : Array Value} (h : ElR w tv wr) (hb : Below wr.heap.size wr w') : ElR w tv w' := ⟨blk_below h.t hb, blk_below h.r hb, h.st.next hb⟩
theorem ElR.alloc {w wr : World} {tv : Array Value} (h : ElR w tv wr) (o : Obj) : ElR w tv (wr.alloc o) := ⟨blk_alloc h.t o, blk_alloc h.r o, h.st.alloc o⟩
theorem ElR.drew {w wr : World} {tv : Array Value} (h : ElR w tv wr) : ElR w tv wr.drew := ⟨h.t, h.r, h.st.drew⟩
/-- .. and the tag (block G). -/
structure ElI (w : World) (tv : Array Value) (G : Nat) (num : Int) (wr : World) : Prop where
  i : ElR w tv wr
  g : wr.heap[G]? = some (.cells #[.int .u8 0, .bool false, .int .u32 num] 33 (0, 0))
  lt : w.heap.size + 1 < G
theorem ElI.below {w wr w' : World} {tv : Array Value} {G : Nat} {num : Int} (h : ElI w tv G num wr) (hb : Below wr.heap.size wr w') : ElI w tv G num w' := ⟨h.i.below hb, blk_below h.g hb, h.lt⟩
theorem ElI.alloc {w wr : World} {tv : Array Value} {G : Nat} {num : Int} (h : ElI w tv G num wr) (o : Obj) : ElI w tv G num (wr.alloc o) := ⟨h.i.alloc o, blk_alloc h.g o, h.lt⟩
theorem ElI.drew {w wr : World} {tv : Array Value} {G : Nat} {num : Int} (h : ElI w tv G num wr) : ElI w tv G num wr.drew := ⟨h.i.drew, h.g, h.lt⟩
theorem ElI.start {w wr : World} {tv : Array Value} (h : ElR w tv wr) (num : Int) : ElI w tv wr.heap.size num (wr.alloc (.cells #[.int .u8 0, .bool false, .int .u32 num] 33)) := ⟨h.alloc _, blk_new _ _, blk_lt h.r⟩

/-- An element with these bytes is returned, without spare capacity. -/
def ElP (num : Int) (L : List UInt8) (w : World) (e : Ending) (w' : World) : Prop :=
  ∃ g : Nat, e = .returned (.tuple #[.agg #[.int .u8 0, .bool false, .int .u32 num, .slice (some ⟨g, 0, none⟩) L.length L.length, .slice none 0 0], .int .i64 0]) ∧
    (∀ i (h : i < L.length), w'.cell? ⟨g, i, none⟩ = some (.int .u8 (L[i].toNat : Int))) ∧ Below w.heap.size w w'

theorem ret17 {R : Nat} {a0 a1 a2 a3 a4 : Value} {err : Int} {tmps : Array Value} {w : World} (hp : tmps.getD 2 undef = .pointer (some ⟨R, 0, none⟩)) (he : tmps.getD 3 undef = .int .i64 err)
    (hR : w.heap[R]? = some (.cells #[a0, a1, a2, a3, a4] 37 (0, 0))) : (results Tryd.f17 tmps).run Tryd.prog w = .ok (.tuple #[.agg #[a0, a1, a2, a3, a4], .int .i64 err]) w := by
  obtain ⟨c0, c1, c2, c3, c4⟩ := five hR
  rw [results_cell_tmp (p := 2) (u := 3) (ty := 37) Tryd.results17, hp, he]
  simp [go_sem, c0, c1, c2, c3, c4]
theorem set5 {w : World} {g : Nat} {b0 b1 b2 b3 b4 : Value} {t : TypeId} (h : w.heap[g]? = some (.cells #[b0, b1, b2, b3, b4] t (0, 0))) (a0 a1 a2 a3 a4 : Value) :
    (((((w.setCell ⟨g, 0, none⟩ a0).setCell ⟨g, 1, none⟩ a1).setCell ⟨g, 2, none⟩ a2).setCell ⟨g, 3, none⟩ a3).setCell ⟨g, 4, none⟩ a4).heap[g]? = some (.cells #[a0, a1, a2, a3, a4] t (0, 0)) :=
  blk_set (blk_set (blk_set (blk_set (blk_set h 0 a0) 1 a1) 2 a2) 3 a3) 4 a4
theorem set5_st {w wr : World} (h : St w wr) {g : Nat} (hg : w.heap.size ≤ g) (h2 : 1 < w.heap.size) (a0 a1 a2 a3 a4 : Value) :
    St w (((((wr.setCell ⟨g, 0, none⟩ a0).setCell ⟨g, 1, none⟩ a1).setCell ⟨g, 2, none⟩ a2).setCell ⟨g, 3, none⟩ a3).setCell ⟨g, 4, none⟩ a4) :=
  ((((h.setCell (p := ⟨g, 0, none⟩) hg h2 a0).setCell (p := ⟨g, 1, none⟩) hg h2 a1).setCell (p := ⟨g, 2, none⟩) hg h2 a2).setCell (p := ⟨g, 3, none⟩) hg h2 a3).setCell (p := ⟨g, 4, none⟩) hg h2 a4

theorem elem_no (y mo d h mi s : Int) (w : World) (hT : Tabs w) (hk : okB y mo d h mi s = false) :
    Calls Tryd.prog 17 #[.agg #[.int .i64 y, .int .i64 mo, .int .i64 d, .int .i64 h, .int .i64 mi, .int .i64 s]] w fun e w' => e = .returned (.tuple #[.agg #[.int .u8 0, .bool false, .int .u32 0, .slice none 0 0, .slice none 0 0], .int .i64 1]) ∧ Below w.heap.size w w' := by
  have H : Hid (∀ w, Tabs w → Calls Tryd.prog 15 #[.agg #[.int .i64 y, .int .i64 mo, .int .i64 d, .int .i64 h, .int .i64 mi, .int .i64 s]] w fun e w' => e = .returned (.int .i64 1) ∧ Below w.heap.size w w') := fun w hT => check_no hk w hT
  have HE := Lib.hid (ElR.start w hT #[.int .i64 y, .int .i64 mo, .int .i64 d, .int .i64 h, .int .i64 mi, .int .i64 s])
  clear hk
  go_enter Tryd.func17, Tryd.ntmps17
  go_wp2_with (go_at_call 15; refine (H.out _ HE.out.st.t).mono ?_; rintro e w1 ⟨rfl, hb⟩; have h1 := HE.out.below hb; have H1 := Lib.hid h1; obtain ⟨r0, r1, r2, r3, r4⟩ := five h1.r; obtain ⟨q0, q1, q2, q3, q4, q5⟩ := free h1.r; clear h1 hb)
  refine bodyPost_ret (ret17 rfl rfl (set5 H1.out.r _ _ _ _ _)) rfl ⟨rfl, ?_⟩
  exact (set5_st H1.out.st (by omega) hT.two _ _ _ _ _).b

/-- .. and the slice of numbers (block V). -/
structure ElS (w : World) (tv : Array Value) (G : Nat) (num : Int) (V : Nat) (vv : Array Value) (wr : World) : Prop where
  i : ElI w tv G num wr
  v : wr.heap[V]? = some (.cells vv 3 (0, 0))
theorem ElS.below {w wr w' : World} {tv vv : Array Value} {G V : Nat} {num : Int} (h : ElS w tv G num V vv wr) (hb : Below wr.heap.size wr w') : ElS w tv G num V vv w' := ⟨h.i.below hb, blk_below h.v hb⟩
theorem ElS.start {w wr : World} {tv : Array Value} {G : Nat} {num : Int} (h : ElI w tv G num wr) (vv : Array Value) : ElS w tv G num wr.heap.size vv (wr.alloc (.cells vv 3)) := ⟨h.alloc _, blk_new _ _⟩
/-- The text behind k numbers. -/
def ek (s0 : List UInt8) (mo d h mi s : Int) : Nat → List UInt8
  | 0 => s0
  | 1 => s0 ++ dg 2 mo
  | 2 => s0 ++ dg 2 mo ++ dg 2 d
  | 3 => s0 ++ dg 2 mo ++ dg 2 d ++ dg 2 h
  | 4 => s0 ++ dg 2 mo ++ dg 2 d ++ dg 2 h ++ dg 2 mi
  | _ => s0 ++ dg 2 mo ++ dg 2 d ++ dg 2 h ++ dg 2 mi ++ dg 2 s
end Go.Proofs.YtbncjjobdipmgaaDoor
