/- Chapter 6 (oids): the walk of the law OidsOrder. -/
import Derived.Test.YtacpcagijfacnaaDoorWv
import Derived.Test.YtacpcagijfacnaaDoorWd
import Derived.Test.YtacpcagijfacnaaDoorPa
namespace Go.Proofs.YtacpcagijfacnaaDoor
open Go.RowKit Go.Shelf
open Go.Proofs.YtacpcagijfacnaaDoorW.PrintLast
open Go.Proofs.YtacpcagijfacnaaDoorW.PrintWords (gate_guard gate_dst gate_store Kd.C_below Kd.C_of_reads Kd.reads_of_C ReadsOf.at_ rdOf blk_new blk_below blk_cell blk_alloc blk_lt blk_frozen blk_drew blk_set Kd.C Kd.int)
set_option linter.unusedSimpArgs false
set_option linter.unusedVariables false
set_option maxRecDepth 50000
/-- Is a below b, up to number k? -/
def blw (N : Nat) (xs : List Int) (M : Nat) (ys : List Int) (k : Nat) : Bool := decide (N < M ∧ ∀ j, j < k → j < N → xs.getD j 0 = ys.getD j 0)
theorem blw_next (N : Nat) (xs : List Int) (M : Nat) (ys : List Int) (k : Nat) : blw N xs M ys (k + 1) = (blw N xs M ys k && (decide (N ≤ k) || decide (xs.getD k 0 = ys.getD k 0))) := by
  unfold blw
  rw [Bool.eq_iff_iff]
  simp only [decide_eq_true_eq, Bool.and_eq_true, Bool.or_eq_true]
  constructor
  · rintro ⟨h1, h2⟩
    refine ⟨⟨h1, fun j hj hN => h2 j (by omega) hN⟩, ?_⟩
    rcases Nat.lt_or_ge k N with h | h
    · exact Or.inr (h2 k (by omega) h)
    · exact Or.inl h
  · rintro ⟨⟨h1, h2⟩, h3⟩
    refine ⟨h1, fun j hj hN => ?_⟩
    rcases Nat.lt_or_ge j k with h | h
    · exact h2 j h hN
    · obtain rfl : j = k := by omega
      rcases h3 with h3 | h3
      · omega
      · exact h3
theorem blw_has {N M : Nat} {xs ys : List Int} (hx : xs.length = 16) (hy : ys.length = 16) (h1 : chkO (N : Int) xs = 0) (h2 : chkO (M : Int) ys = 0) : blw N xs M ys 16 = hasO N xs M ys := by
  have hN := (chkO_n h1).2
  have hM := (chkO_n h2).2
  unfold blw hasO arcsO
  rw [Bool.eq_iff_iff]
  simp only [decide_eq_true_eq]
  constructor
  · rintro ⟨h3, h4⟩
    refine ⟨h1, h2, h3, ?_⟩
    rw [Nat.min_eq_left hN, Nat.min_eq_left hM, List.take_take, Nat.min_eq_left (by omega)]
    refine List.ext_getElem (by simp; omega) fun j ha hb => ?_
    have hj : j < N := by simp at ha; omega
    have := h4 j (by omega) hj
    rw [List.getD_eq_getElem?_getD, List.getD_eq_getElem?_getD, List.getElem?_eq_getElem (by omega), List.getElem?_eq_getElem (by omega)] at this
    simpa using this
  · rintro ⟨-, -, h3, h4⟩
    refine ⟨h3, fun j hj hN' => ?_⟩
    rw [Nat.min_eq_left hN, Nat.min_eq_left hM, List.take_take, Nat.min_eq_left (by omega)] at h4
    have h5 := congrArg (fun l => List.getD l j 0) h4
    simpa only [List.getD_eq_getElem?_getD, List.getElem?_take, if_pos hN'] using h5
theorem has_cmp {N M : Nat} {xs ys : List Int} (hx : xs.length = 16) (hy : ys.length = 16) (h : hasO N xs M ys = true) : cmpL (arcsO N xs) (arcsO M ys) = -1 := by
  unfold hasO at h
  obtain ⟨h1, h2, h3, h4⟩ := of_decide_eq_true h
  have hN := (chkO_n h1).2
  have hM := (chkO_n h2).2
  have l1 := arcsO_len (N := N) hx
  have l2 := arcsO_len (N := M) hy
  refine cmpL_pre ?_ (by omega)
  rw [l1, Nat.min_eq_left hN]
  exact h4
/-- Three boxed data of OIDs, and the tables. -/
structure A3 (X Y Z : Array Value) (w W : World) : Prop where
  st : St w W
  f : 3 < w.heap.size
  x : W.heap[w.heap.size]? = some (.cells X 45 (0, 0))
  y : W.heap[w.heap.size + 1]? = some (.cells Y 45 (0, 0))
  z : W.heap[w.heap.size + 2]? = some (.cells Z 45 (0, 0))
theorem A3.next {X Y Z : Array Value} {w W W' : World} (h : A3 X Y Z w W) (hb : Below W.heap.size W W') : A3 X Y Z w W' := ⟨h.st.next hb, h.f, blk_below h.x hb, blk_below h.y hb, blk_below h.z hb⟩
theorem A3.start (X Y Z : Array Value) (w : World) (hT : Tabs w) : A3 X Y Z w (((w.alloc (.cells X 45)).alloc (.cells Y 45)).alloc (.cells Z 45)) := by
  refine ⟨(((St.refl hT).alloc _).alloc _).alloc _, hT.five, blk_alloc (blk_alloc (blk_new w _) _) _, ?_, ?_⟩
  · have := blk_new (w.alloc (.cells X 45)) (.cells Y 45)
    rw [World.size_alloc] at this
    exact blk_alloc this _
  · have := blk_new ((w.alloc (.cells X 45)).alloc (.cells Y 45)) (.cells Z 45)
    rw [World.size_alloc, World.size_alloc] at this
    exact this
theorem A3.size {X Y Z : Array Value} {w W : World} (h : A3 X Y Z w W) : w.heap.size + 3 ≤ W.heap.size := by have := blk_lt h.z; omega
theorem A3.set {X Y Z : Array Value} {w W : World} (h : A3 X Y Z w W) {g : Nat} (hg : w.heap.size + 3 ≤ g) (cs : Array Value) : A3 X Y Z w (W.setRow g cs) :=
  ⟨h.st.on h.f (below_setRow (Below.refl _ _) (by omega) cs), h.f, by rw [setRow_other _ _ _ _ (by omega)]; exact h.x, by rw [setRow_other _ _ _ _ (by omega)]; exact h.y, by rw [setRow_other _ _ _ _ (by omega)]; exact h.z⟩
/-- .. and up to three boxes of OIDs above them. -/
structure FO (k7 k8 k9 : Option (Array Value)) (s : Nat × Nat × Nat) (X Y Z : Array Value) (w W : World) : Prop where
  a : A3 X Y Z w W
  z7 : ∀ c, k7 = some c → w.heap.size + 3 ≤ s.1 ∧ W.heap[s.1]? = some (.cells c 27 (0, 0))
  z8 : ∀ c, k8 = some c → w.heap.size + 3 ≤ s.2.1 ∧ W.heap[s.2.1]? = some (.cells c 27 (0, 0))
  z9 : ∀ c, k9 = some c → w.heap.size + 3 ≤ s.2.2 ∧ W.heap[s.2.2]? = some (.cells c 27 (0, 0))
  n78 : k7.isSome = true → k8.isSome = true → s.1 ≠ s.2.1
  n79 : k7.isSome = true → k9.isSome = true → s.1 ≠ s.2.2
  n89 : k8.isSome = true → k9.isSome = true → s.2.1 ≠ s.2.2
section
variable {k7 k8 k9 : Option (Array Value)} {s : Nat × Nat × Nat} {X Y Z : Array Value} {w W W' : World}
theorem FO.next (h : FO k7 k8 k9 s X Y Z w W) (hb : Below W.heap.size W W') : FO k7 k8 k9 s X Y Z w W' :=
  ⟨h.a.next hb, fun c e => ⟨(h.z7 c e).1, blk_below (h.z7 c e).2 hb⟩, fun c e => ⟨(h.z8 c e).1, blk_below (h.z8 c e).2 hb⟩, fun c e => ⟨(h.z9 c e).1, blk_below (h.z9 c e).2 hb⟩, h.n78, h.n79, h.n89⟩
theorem FO.ne7 (h : FO k7 k8 k9 s X Y Z w W) (e : k7.isSome = true) : s.1 ≠ W.heap.size := by obtain ⟨c, hc⟩ := Option.isSome_iff_exists.1 e; have := blk_lt (h.z7 c hc).2; omega
theorem FO.ne8 (h : FO k7 k8 k9 s X Y Z w W) (e : k8.isSome = true) : s.2.1 ≠ W.heap.size := by obtain ⟨c, hc⟩ := Option.isSome_iff_exists.1 e; have := blk_lt (h.z8 c hc).2; omega
theorem FO.ne9 (h : FO k7 k8 k9 s X Y Z w W) (e : k9.isSome = true) : s.2.2 ≠ W.heap.size := by obtain ⟨c, hc⟩ := Option.isSome_iff_exists.1 e; have := blk_lt (h.z9 c hc).2; omega
theorem FO.add7 (h : FO none k8 k9 s X Y Z w W) : FO (some (oidC 0 Z16)) k8 k9 (W.heap.size, s.2.1, s.2.2) X Y Z w (W.alloc (.cells (oidC 0 Z16) 27)) :=
  ⟨h.a.next ((Below.refl _ _).alloc (Nat.le_refl _) _), fun c e => by cases e; exact ⟨h.a.size, blk_new W _⟩, fun c e => ⟨(h.z8 c e).1, blk_alloc (h.z8 c e).2 _⟩, fun c e => ⟨(h.z9 c e).1, blk_alloc (h.z9 c e).2 _⟩, fun _ e => (h.ne8 e).symm, fun _ e => (h.ne9 e).symm, h.n89⟩
theorem FO.add8 (h : FO k7 none k9 s X Y Z w W) : FO k7 (some (oidC 0 Z16)) k9 (s.1, W.heap.size, s.2.2) X Y Z w (W.alloc (.cells (oidC 0 Z16) 27)) :=
  ⟨h.a.next ((Below.refl _ _).alloc (Nat.le_refl _) _), fun c e => ⟨(h.z7 c e).1, blk_alloc (h.z7 c e).2 _⟩, fun c e => by cases e; exact ⟨h.a.size, blk_new W _⟩, fun c e => ⟨(h.z9 c e).1, blk_alloc (h.z9 c e).2 _⟩, fun e _ => h.ne7 e, h.n79, fun _ e => (h.ne9 e).symm⟩
theorem FO.add9 (h : FO k7 k8 none s X Y Z w W) : FO k7 k8 (some (oidC 0 Z16)) (s.1, s.2.1, W.heap.size) X Y Z w (W.alloc (.cells (oidC 0 Z16) 27)) :=
  ⟨h.a.next ((Below.refl _ _).alloc (Nat.le_refl _) _), fun c e => ⟨(h.z7 c e).1, blk_alloc (h.z7 c e).2 _⟩, fun c e => ⟨(h.z8 c e).1, blk_alloc (h.z8 c e).2 _⟩, fun c e => by cases e; exact ⟨h.a.size, blk_new W _⟩, h.n78, fun e _ => h.ne7 e, fun e _ => h.ne8 e⟩
variable {c7 c8 c9 : Array Value}
theorem FO.put7 (h : FO (some c7) (some c8) (some c9) s X Y Z w W) (cs : Array Value) : FO (some cs) (some c8) (some c9) s X Y Z w (W.setRow s.1 cs) :=
  ⟨h.a.set (h.z7 _ rfl).1 cs, fun c e => by cases e; exact ⟨(h.z7 _ rfl).1, setRow_heap _ _ _ _ _ _ (h.z7 _ rfl).2⟩,
   fun c e => ⟨(h.z8 c e).1, by rw [setRow_other _ _ _ _ (h.n78 rfl rfl).symm]; exact (h.z8 c e).2⟩, fun c e => ⟨(h.z9 c e).1, by rw [setRow_other _ _ _ _ (h.n79 rfl rfl).symm]; exact (h.z9 c e).2⟩, fun _ _ => h.n78 rfl rfl, fun _ _ => h.n79 rfl rfl, h.n89⟩
theorem FO.put8 (h : FO (some c7) (some c8) (some c9) s X Y Z w W) (cs : Array Value) : FO (some c7) (some cs) (some c9) s X Y Z w (W.setRow s.2.1 cs) :=
  ⟨h.a.set (h.z8 _ rfl).1 cs, fun c e => ⟨(h.z7 c e).1, by rw [setRow_other _ _ _ _ (h.n78 rfl rfl)]; exact (h.z7 c e).2⟩, fun c e => by cases e; exact ⟨(h.z8 _ rfl).1, setRow_heap _ _ _ _ _ _ (h.z8 _ rfl).2⟩,
   fun c e => ⟨(h.z9 c e).1, by rw [setRow_other _ _ _ _ (h.n89 rfl rfl).symm]; exact (h.z9 c e).2⟩, fun _ _ => h.n78 rfl rfl, h.n79, fun _ _ => h.n89 rfl rfl⟩
theorem FO.put9 (h : FO (some c7) (some c8) (some c9) s X Y Z w W) (cs : Array Value) : FO (some c7) (some c8) (some cs) s X Y Z w (W.setRow s.2.2 cs) :=
  ⟨h.a.set (h.z9 _ rfl).1 cs, fun c e => ⟨(h.z7 c e).1, by rw [setRow_other _ _ _ _ (h.n79 rfl rfl)]; exact (h.z7 c e).2⟩, fun c e => ⟨(h.z8 c e).1, by rw [setRow_other _ _ _ _ (h.n89 rfl rfl)]; exact (h.z8 c e).2⟩,
   fun c e => by cases e; exact ⟨(h.z9 _ rfl).1, setRow_heap _ _ _ _ _ _ (h.z9 _ rfl).2⟩, h.n78, fun _ _ => h.n79 rfl rfl, fun _ _ => h.n89 rfl rfl⟩
end
theorem store_in {P : Program} {ops : Array Oper} {oi : Oper} {a a' : Act} {w : World} {K : Act → World → Prop} {Q : Exit → Act → World → Prop} (hw : Region.wanted oi (yielded ops a.tmps) = true) (h : oi.wp P a w K Q) : if Region.wanted oi (yielded ops a.tmps) = true then Oper.wp P oi a w K Q else K a' w := by
  rw [if_pos hw]
  exact h
theorem infoA : (Tryd.prog.info? 45).map (·.size) = some 3 := by kernel_rfl
set_option maxHeartbeats 64000000 in
theorem oidsOrder_walk (f0 s0 f1 s1 f2 s2 : Int) (A0 A1 A2 : Option Addr) (l0 l1 l2 : List Int) (c0 c1 c2 : Nat) (w : World) (hT : Tabs w) (hf0 : 0 ≤ f0 ∧ f0 < 256) (hs0 : 0 ≤ s0 ∧ s0 < 4294967296) (hr0 : Kd.C (Kd.int .u32) w A0 l0.length l0) (hc0 : l0.length ≤ c0) (hu0 : U32 l0) (hf1 : 0 ≤ f1 ∧ f1 < 256) (hs1 : 0 ≤ s1 ∧ s1 < 4294967296) (hr1 : Kd.C (Kd.int .u32) w A1 l1.length l1) (hc1 : l1.length ≤ c1) (hu1 : U32 l1) (hf2 : 0 ≤ f2 ∧ f2 < 256) (hs2 : 0 ≤ s2 ∧ s2 < 4294967296) (hr2 : Kd.C (Kd.int .u32) w A2 l2.length l2) (hc2 : l2.length ≤ c2) (hu2 : U32 l2) :
    Calls Tryd.prog 6 #[.agg #[.int .u8 f0, .int .u32 s0, .slice A0 l0.length c0], .agg #[.int .u8 f1, .int .u32 s1, .slice A1 l1.length c1], .agg #[.int .u8 f2, .int .u32 s2, .slice A2 l2.length c2]] w fun e w' => e = .returned (.bool true) ∧ Below w.heap.size w w' := by
  have HX0 := A3.start #[.int .u8 f0, .int .u32 s0, .slice A0 l0.length c0] #[.int .u8 f1, .int .u32 s1, .slice A1 l1.length c1] #[.int .u8 f2, .int .u32 s2, .slice A2 l2.length c2] w hT
  have HA0 := Lib.hid (fun W (hW : Below w.heap.size w W) => aof_is f0 s0 A0 c0 l0 W hf0 hs0 (Kd.C_below hr0 hW) hc0)
  have hx0 := xA_len f0 s0 l0
  have hN0 := nA_lt f0 s0 l0
  have hk0 := xA_chk f0 s0 l0 hf0 hs0
  generalize nA f0 s0 l0 = N0 at *
  generalize xA f0 s0 l0 = x0 at *
  have H0 := Lib.hid hx0
  clear hf0 hs0 hr0 hc0 hu0
  have HA1 := Lib.hid (fun W (hW : Below w.heap.size w W) => aof_is f1 s1 A1 c1 l1 W hf1 hs1 (Kd.C_below hr1 hW) hc1)
  have hx1 := xA_len f1 s1 l1
  have hN1 := nA_lt f1 s1 l1
  have hk1 := xA_chk f1 s1 l1 hf1 hs1
  generalize nA f1 s1 l1 = N1 at *
  generalize xA f1 s1 l1 = x1 at *
  have H1 := Lib.hid hx1
  clear hf1 hs1 hr1 hc1 hu1
  have HA2 := Lib.hid (fun W (hW : Below w.heap.size w W) => aof_is f2 s2 A2 c2 l2 W hf2 hs2 (Kd.C_below hr2 hW) hc2)
  have hx2 := xA_len f2 s2 l2
  have hN2 := nA_lt f2 s2 l2
  have hk2 := xA_chk f2 s2 l2 hf2 hs2
  generalize nA f2 s2 l2 = N2 at *
  generalize xA f2 s2 l2 = x2 at *
  have H2 := Lib.hid hx2
  clear hf2 hs2 hr2 hc2 hu2
  have HC01 := Lib.hid (fun W => compare_any N0 x0 N1 x1 W hN0 hN1 hx0 hx1)
  have HC12 := Lib.hid (fun W => compare_any N1 x1 N2 x2 W hN1 hN2 hx1 hx2)
  have HC02 := Lib.hid (fun W => compare_any N0 x0 N2 x2 W hN0 hN2 hx0 hx2)
  have htr := @cmpL_trans (arcsO N0 x0) (arcsO N1 x1) (arcsO N2 x2)
  have h3a := cmpL_3 (arcsO N0 x0) (arcsO N1 x1)
  have h3b := cmpL_3 (arcsO N1 x1) (arcsO N2 x2)
  have h3c := cmpL_3 (arcsO N0 x0) (arcsO N2 x2)
  have HH := Lib.hid (fun W => has_any N0 x0 N1 x1 W hN0 hN1 hx0 hx1)
  have hbl := blw_has hx0 hx1 hk0 hk1
  have hcm : hasO N0 x0 N1 x1 = true → cmpL (arcsO N0 x0) (arcsO N1 x1) = -1 := has_cmp hx0 hx1
  rw [← hbl] at HH hcm
  generalize cmpL (arcsO N0 x0) (arcsO N1 x1) = r01 at *
  generalize cmpL (arcsO N1 x1) (arcsO N2 x2) = r12 at *
  generalize cmpL (arcsO N0 x0) (arcsO N2 x2) = r02 at *
  have HBN := Lib.hid (fun k => blw_next N0 x0 N1 x1 k)
  have HB0 : blw N0 x0 N1 x1 0 = decide (N0 < N1) := by unfold blw; simp
  have hN16 := (chkO_n hk0).2
  clear hk0 hk1 hk2 hbl hx0 hx1 hx2 hN0 hN1 hN2
  go_enter Tryd.func6, Tryd.ntmps6
  go_upto_region 1 with fail
  generalize ((w.alloc (.cells #[.int .u8 f0, .int .u32 s0, .slice A0 l0.length c0] 45)).alloc (.cells #[.int .u8 f1, .int .u32 s1, .slice A1 l1.length c1] 45)).alloc (.cells #[.int .u8 f2, .int .u32 s2, .slice A2 l2.length c2] 45) = W0 at *
  replace HX0 := HX0.next (Below.refl _ _).drew
  refine start_ (n := 12) (S := fun W => A3 #[.int .u8 f0, .int .u32 s0, .slice A0 l0.length c0] #[.int .u8 f1, .int .u32 s1, .slice A1 l1.length c1] #[.int .u8 f2, .int .u32 s2, .slice A2 l2.length c2] w W) (ds := []) #[false, false, false, false, false, false, false, false, false, false, false, false] (by kernel_rfl) rfl rfl HX0 (fun HS => ?_)
  generalize W0.drew = W1 at *
  refine take_ (i := 0) (N := some 12) (v := ?_) (a' := ?_) #[true, false, false, false, false, false, false, false, false, false, false, false] rfl rfl (by kernel_rfl) (fun _ _ _ h => h) (Or.inl ⟨by rfl, ?_⟩) (by assumption) ?_ ?_
  rotate_left
  · refine load_yields (fun W => A3 #[.int .u8 f0, .int .u32 s0, .slice A0 l0.length c0] #[.int .u8 f1, .int .u32 s1, .slice A1 l1.length c1] #[.int .u8 f2, .int .u32 s2, .slice A2 l2.length c2] w W) 45 (.tmp 3) ?_ (w.heap.size) ?_ 45 #[.int .u8 f0, .int .u32 s0, .slice A0 l0.length c0] _ (fun W h => A3.x h) Tryd.underlying45 rfl infoA
    · rfl
    · rfl
  rotate_left
  · simp only [Act.put, List.setIfInBounds_toArray, List.set_cons_zero, List.set_cons_succ, i64_w, i32_w]
    rfl
  refine take_ (i := 2) (N := some 14) (v := ?_) (a' := ?_) #[true, false, true, false, false, false, false, false, false, false, false, false] rfl rfl (by kernel_rfl) (fun _ _ _ h => h) (Or.inl ⟨by rfl, ?_⟩) (by assumption) ?_ ?_
  rotate_left
  · refine load_yields (fun W => A3 #[.int .u8 f0, .int .u32 s0, .slice A0 l0.length c0] #[.int .u8 f1, .int .u32 s1, .slice A1 l1.length c1] #[.int .u8 f2, .int .u32 s2, .slice A2 l2.length c2] w W) 45 (.tmp 4) ?_ (w.heap.size + 1) ?_ 45 #[.int .u8 f1, .int .u32 s1, .slice A1 l1.length c1] _ (fun W h => A3.y h) Tryd.underlying45 rfl infoA
    · rfl
    · rfl
  rotate_left
  · simp only [Act.put, List.setIfInBounds_toArray, List.set_cons_zero, List.set_cons_succ, i64_w, i32_w]
    rfl
  refine take_ (i := 4) (N := some 16) (v := ?_) (a' := ?_) #[true, false, true, false, true, false, false, false, false, false, false, false] rfl rfl (by kernel_rfl) (fun _ _ _ h => h) (Or.inl ⟨by rfl, ?_⟩) (by assumption) ?_ ?_
  rotate_left
  · refine load_yields (fun W => A3 #[.int .u8 f0, .int .u32 s0, .slice A0 l0.length c0] #[.int .u8 f1, .int .u32 s1, .slice A1 l1.length c1] #[.int .u8 f2, .int .u32 s2, .slice A2 l2.length c2] w W) 45 (.tmp 5) ?_ (w.heap.size + 2) ?_ 45 #[.int .u8 f2, .int .u32 s2, .slice A2 l2.length c2] _ (fun W h => A3.z h) Tryd.underlying45 rfl infoA
    · rfl
    · rfl
  rotate_left
  · simp only [Act.put, List.setIfInBounds_toArray, List.set_cons_zero, List.set_cons_succ, i64_w, i32_w]
    rfl
  refine join_ 3 #[true, true, true, true, true, true, true, true, true, false, false, false] (fun s : Nat × Nat × Nat => [(13, (oidV (N0 : Int) x0)), (15, (oidV (N1 : Int) x1)), (17, (oidV (N2 : Int) x2)), (7, .pointer (some ⟨s.1, 0, none⟩)), (8, .pointer (some ⟨s.2.1, 0, none⟩)), (9, .pointer (some ⟨s.2.2, 0, none⟩))]) (fun s W => FO (some (oidC 0 Z16)) (some (oidC 0 Z16)) (some (oidC 0 Z16)) s #[.int .u8 f0, .int .u32 s0, .slice A0 l0.length c0] #[.int .u8 f1, .int .u32 s1, .slice A1 l1.length c1] #[.int .u8 f2, .int .u32 s2, .slice A2 l2.length c2] w W) ?_ (fun J3111 => ?_)
  · rintro s w1 HF
    refine norm_ (a' := ?_) ?_ ?_
    rotate_left
    · show putAll _ _ = _
      simp only [putAll, Act.put, List.setIfInBounds_toArray, List.set_cons_zero, List.set_cons_succ]
      rfl
    refine one_ (i := 9) (N := none) #[true, true, true, true, true, true, true, true, true, true, false, false] rfl rfl (by kernel_rfl) (by decide) (fun K hK => ?_)
    refine store_in (by rfl) ?_
    refine wp_store_row 27 _ _ rfl s.1 (oidC (N0 : Int) x0) rfl rfl 27 (oidC 0 Z16) (HF.z7 _ rfl).2 (oid_info _ _ H0.out) (by simp [H0.out]) (oid_one _ _) ?_
    replace HF := HF.put7 (oidC (N0 : Int) x0)
    refine hK.out _ _ HF.a (fun HS => ?_)
    clear hK K
    refine norm_ (a' := ?_) ?_ ?_
    rotate_left
    · show Act.put _ none _ = _
      simp only [Act.put, List.setIfInBounds_toArray, List.set_cons_zero, List.set_cons_succ]
      rfl
    generalize World.setRow _ s.1 (oidC (N0 : Int) x0) = w2 at *
    refine one_ (i := 10) (N := none) #[true, true, true, true, true, true, true, true, true, true, true, false] rfl rfl (by kernel_rfl) (by decide) (fun K hK => ?_)
    refine store_in (by rfl) ?_
    refine wp_store_row 27 _ _ rfl s.2.1 (oidC (N1 : Int) x1) rfl rfl 27 (oidC 0 Z16) (HF.z8 _ rfl).2 (oid_info _ _ H1.out) (by simp [H1.out]) (oid_one _ _) ?_
    replace HF := HF.put8 (oidC (N1 : Int) x1)
    refine hK.out _ _ HF.a (fun HS => ?_)
    clear hK K
    refine norm_ (a' := ?_) ?_ ?_
    rotate_left
    · show Act.put _ none _ = _
      simp only [Act.put, List.setIfInBounds_toArray, List.set_cons_zero, List.set_cons_succ]
      rfl
    generalize World.setRow _ s.2.1 (oidC (N1 : Int) x1) = w3 at *
    refine one_ (i := 11) (N := none) #[true, true, true, true, true, true, true, true, true, true, true, true] rfl rfl (by kernel_rfl) (by decide) (fun K hK => ?_)
    refine store_in (by rfl) ?_
    refine wp_store_row 27 _ _ rfl s.2.2 (oidC (N2 : Int) x2) rfl rfl 27 (oidC 0 Z16) (HF.z9 _ rfl).2 (oid_info _ _ H2.out) (by simp [H2.out]) (oid_one _ _) ?_
    replace HF := HF.put9 (oidC (N2 : Int) x2)
    refine hK.out _ _ HF.a (fun HS => ?_)
    clear hK K
    refine norm_ (a' := ?_) ?_ ?_
    rotate_left
    · show Act.put _ none _ = _
      simp only [Act.put, List.setIfInBounds_toArray, List.set_cons_zero, List.set_cons_succ]
      rfl
    generalize World.setRow _ s.2.2 (oidC (N2 : Int) x2) = w4 at *
    refine done_ (by kernel_rfl) ?_
    clear HS HX0
    obtain ⟨g0, g1, g2⟩ := s
    dsimp only at HF ⊢
    have hcase : r01 = 1 ∨ ((r01 = -1 ∨ r01 = 0) ∧ r12 = 1) ∨ ((r01 = -1 ∨ r01 = 0) ∧ (r12 = -1 ∨ r12 = 0) ∧ (r02 = -1 ∨ r02 = 0)) := by omega
    clear h3a h3b h3c htr
    rcases hcase with rfl | ⟨rfl | rfl, rfl⟩ | ⟨rfl | rfl, rfl | rfl, rfl | rfl⟩
    all_goals
      go_upto_region 4 with (first
        | ((with_reducible refine gate_dst (N := 18) rfl ?_); (try (refine gate_guard (by rfl) ?_; dsimp only)); refine wpList_load_row rfl 27 _ rfl g0 rfl 27 (oidC (N0 : Int) x0) (0, 0) _ (FO.z7 (by assumption) _ rfl).2 Tryd.underlying27 rfl (oid_info _ _ H0.out) ?_)
        | ((with_reducible refine gate_dst (N := 19) rfl ?_); (try (refine gate_guard (by rfl) ?_; dsimp only)); refine wpList_load_row rfl 27 _ rfl g1 rfl 27 (oidC (N1 : Int) x1) (0, 0) _ (FO.z8 (by assumption) _ rfl).2 Tryd.underlying27 rfl (oid_info _ _ H1.out) ?_)
        | ((with_reducible refine gate_dst (N := 23) rfl ?_); (try (refine gate_guard (by rfl) ?_; dsimp only)); refine wpList_load_row rfl 27 _ rfl g1 rfl 27 (oidC (N1 : Int) x1) (0, 0) _ (FO.z8 (by assumption) _ rfl).2 Tryd.underlying27 rfl (oid_info _ _ H1.out) ?_)
        | ((with_reducible refine gate_dst (N := 24) rfl ?_); (try (refine gate_guard (by rfl) ?_; dsimp only)); refine wpList_load_row rfl 27 _ rfl g2 rfl 27 (oidC (N2 : Int) x2) (0, 0) _ (FO.z9 (by assumption) _ rfl).2 Tryd.underlying27 rfl (oid_info _ _ H2.out) ?_)
        | ((with_reducible refine gate_dst (N := 29) rfl ?_); (try (refine gate_guard (by rfl) ?_; dsimp only)); refine wpList_load_row rfl 27 _ rfl g0 rfl 27 (oidC (N0 : Int) x0) (0, 0) _ (FO.z7 (by assumption) _ rfl).2 Tryd.underlying27 rfl (oid_info _ _ H0.out) ?_)
        | ((with_reducible refine gate_dst (N := 30) rfl ?_); (try (refine gate_guard (by rfl) ?_; dsimp only)); refine wpList_load_row rfl 27 _ rfl g2 rfl 27 (oidC (N2 : Int) x2) (0, 0) _ (FO.z9 (by assumption) _ rfl).2 Tryd.underlying27 rfl (oid_info _ _ H2.out) ?_)
        | (go_at_call 17; first
          | ((with_reducible refine (HC01.out _).mono ?_); rintro e w' ⟨rfl, hq⟩; replace HF := FO.next (by assumption) hq; clear hq)
          | ((with_reducible refine (HC12.out _).mono ?_); rintro e w' ⟨rfl, hq⟩; replace HF := FO.next (by assumption) hq; clear hq)
          | ((with_reducible refine (HC02.out _).mono ?_); rintro e w' ⟨rfl, hq⟩; replace HF := FO.next (by assumption) hq; clear hq)))
      have cA := (oid_cells (HF.z7 _ rfl).2).1
      have cB := (oid_cells (HF.z8 _ rfl).2).1
      dsimp only at cA cB
      go_upto_region 6 with fail
      go_loopw [10, 11] (fun b i wr => ∃ k : Nat, k ≤ 16 ∧ i = .int .i64 (k : Int) ∧ b = .bool (blw N0 x0 N1 x1 k) ∧ Hid (FO (some (oidC (N0 : Int) x0)) (some (oidC (N1 : Int) x1)) (some (oidC (N2 : Int) x2)) (g0, g1, g2) #[.int .u8 f0, .int .u32 s0, .slice A0 l0.length c0] #[.int .u8 f1, .int .u32 s1, .slice A1 l1.length c1] #[.int .u8 f2, .int .u32 s2, .slice A2 l2.length c2] w wr)) (fun _ i _ => 16 - (intOf i).toNat)
      case atStart => exact ⟨0, Nat.zero_le _, rfl, congrArg Value.bool HB0.symm, Lib.hid HF⟩
      case round =>
        obtain ⟨k, hk, rfl, rfl, T⟩ := hrel
        by_cases hlt : k < 16
        · have hb := HBN.out k
          have T1 := Lib.hid (T.out.next (Below.refl _ _).drew)
          have cA := (oid_cells (T.out.z7 _ rfl).2).1
          have cX := (oid_cells (T.out.z7 _ rfl).2).2 k (by rw [H0.out]; omega)
          have cY := (oid_cells (T.out.z8 _ rfl).2).2 k (by rw [H1.out]; omega)
          have dA := (oid_cells (T1.out.z7 _ rfl).2).1
          have dX := (oid_cells (T1.out.z7 _ rfl).2).2 k (by rw [H0.out]; omega)
          have dY := (oid_cells (T1.out.z8 _ rfl).2).2 k (by rw [H1.out]; omega)
          dsimp only at cA cX cY dA dX dY
          generalize hbk : blw N0 x0 N1 x1 k = bk at *
          clear hbk
          generalize x0.getD k 0 = p at *
          generalize x1.getD k 0 = r at *
          cases bk
          · have hb' : blw N0 x0 N1 x1 (k + 1) = false := by rw [hb]; rfl
            clear hb
            go_upto_region 8 with fail
            go_region
            go_wp2
            go_round
            case rel => exact ⟨k + 1, by omega, by go_num, by rw [hb'], T1⟩
            case measure => simp [intOf]; omega
          · by_cases hN : N0 ≤ k
            · have hN' : (N0 : Int) ≤ (k : Int) := by omega
              have hb' : blw N0 x0 N1 x1 (k + 1) = true := by rw [hb, decide_eq_true hN]; rfl
              clear hb
              go_upto_region 8 with fail
              go_region
              go_wp2
              go_round
              case rel => exact ⟨k + 1, by omega, by go_num, by rw [hb'], T1⟩
              case measure => simp [intOf]; omega
            · have hN' : ¬ (N0 : Int) ≤ (k : Int) := by omega
              by_cases he : p = r
              · subst he
                have hb' : blw N0 x0 N1 x1 (k + 1) = true := by rw [hb]; simp
                clear hb
                go_upto_region 8 with fail
                go_region
                go_wp2
                go_round
                case rel => exact ⟨k + 1, by omega, by go_num, by rw [hb'], T1⟩
                case measure => simp [intOf]; omega
              · have hb' : blw N0 x0 N1 x1 (k + 1) = false := by rw [hb]; simp [he]; omega
                clear hb
                go_upto_region 8 with fail
                go_region
                go_wp2
                go_round
                case rel => exact ⟨k + 1, by omega, by go_num, by rw [hb']; simp [he], T1⟩
                case measure => simp [intOf]; omega
        · obtain rfl : k = 16 := by omega
          have HF := T.out
          clear T
          generalize blw N0 x0 N1 x1 16 = bk at *
          cases bk
          · go_wp2_with (first
              | ((with_reducible refine gate_dst (N := 62) rfl ?_); (try (refine gate_guard (by rfl) ?_; dsimp only)); refine wpList_load_row rfl 27 _ rfl g0 rfl 27 (oidC (N0 : Int) x0) (0, 0) _ (FO.z7 (by assumption) _ rfl).2 Tryd.underlying27 rfl (oid_info _ _ H0.out) ?_)
              | ((with_reducible refine gate_dst (N := 63) rfl ?_); (try (refine gate_guard (by rfl) ?_; dsimp only)); refine wpList_load_row rfl 27 _ rfl g1 rfl 27 (oidC (N1 : Int) x1) (0, 0) _ (FO.z8 (by assumption) _ rfl).2 Tryd.underlying27 rfl (oid_info _ _ H1.out) ?_)
              | ((with_reducible refine gate_dst (N := 71) rfl ?_); (try (refine gate_guard (by rfl) ?_; dsimp only)); refine wpList_load_row rfl 27 _ rfl g0 rfl 27 (oidC (N0 : Int) x0) (0, 0) _ (FO.z7 (by assumption) _ rfl).2 Tryd.underlying27 rfl (oid_info _ _ H0.out) ?_)
              | ((with_reducible refine gate_dst (N := 72) rfl ?_); (try (refine gate_guard (by rfl) ?_; dsimp only)); refine wpList_load_row rfl 27 _ rfl g1 rfl 27 (oidC (N1 : Int) x1) (0, 0) _ (FO.z8 (by assumption) _ rfl).2 Tryd.underlying27 rfl (oid_info _ _ H1.out) ?_)
              | (go_at_call 20; first
              | ((with_reducible refine (HH.out _).mono ?_); rintro e w' ⟨rfl, hq⟩; replace HF := FO.next (by assumption) hq; clear hq))
              | (go_at_call 17; first
              | ((with_reducible refine (HC01.out _).mono ?_); rintro e w' ⟨rfl, hq⟩; replace HF := FO.next (by assumption) hq; clear hq))
              | (go_at_call 8; first
              | ((with_reducible refine (lives_yes _ (FO.a (by assumption)).st.t).mono ?_); rintro e w' ⟨rfl, hq⟩; replace HF := FO.next (by assumption) hq; clear hq)))
            go_ret
            exact ⟨rfl, HF.a.st.b⟩
          · first
            | (exfalso; have := hcm rfl; omega)
            | (go_wp2_with (first
                | ((with_reducible refine gate_dst (N := 62) rfl ?_); (try (refine gate_guard (by rfl) ?_; dsimp only)); refine wpList_load_row rfl 27 _ rfl g0 rfl 27 (oidC (N0 : Int) x0) (0, 0) _ (FO.z7 (by assumption) _ rfl).2 Tryd.underlying27 rfl (oid_info _ _ H0.out) ?_)
                | ((with_reducible refine gate_dst (N := 63) rfl ?_); (try (refine gate_guard (by rfl) ?_; dsimp only)); refine wpList_load_row rfl 27 _ rfl g1 rfl 27 (oidC (N1 : Int) x1) (0, 0) _ (FO.z8 (by assumption) _ rfl).2 Tryd.underlying27 rfl (oid_info _ _ H1.out) ?_)
                | ((with_reducible refine gate_dst (N := 71) rfl ?_); (try (refine gate_guard (by rfl) ?_; dsimp only)); refine wpList_load_row rfl 27 _ rfl g0 rfl 27 (oidC (N0 : Int) x0) (0, 0) _ (FO.z7 (by assumption) _ rfl).2 Tryd.underlying27 rfl (oid_info _ _ H0.out) ?_)
                | ((with_reducible refine gate_dst (N := 72) rfl ?_); (try (refine gate_guard (by rfl) ?_; dsimp only)); refine wpList_load_row rfl 27 _ rfl g1 rfl 27 (oidC (N1 : Int) x1) (0, 0) _ (FO.z8 (by assumption) _ rfl).2 Tryd.underlying27 rfl (oid_info _ _ H1.out) ?_)
                | (go_at_call 20; first
                | ((with_reducible refine (HH.out _).mono ?_); rintro e w' ⟨rfl, hq⟩; replace HF := FO.next (by assumption) hq; clear hq))
                | (go_at_call 17; first
                | ((with_reducible refine (HC01.out _).mono ?_); rintro e w' ⟨rfl, hq⟩; replace HF := FO.next (by assumption) hq; clear hq))
                | (go_at_call 8; first
                | ((with_reducible refine (lives_yes _ (FO.a (by assumption)).st.t).mono ?_); rintro e w' ⟨rfl, hq⟩; replace HF := FO.next (by assumption) hq; clear hq)))
               go_ret
               exact ⟨rfl, HF.a.st.b⟩)
  refine join_ 4 #[true, true, true, true, true, false, true, true, true, false, false, false] (fun s : Nat × Nat × Nat => [(13, (oidV (N0 : Int) x0)), (15, (oidV (N1 : Int) x1)), (7, .pointer (some ⟨s.1, 0, none⟩)), (8, .pointer (some ⟨s.2.1, 0, none⟩)), (9, .pointer (some ⟨s.2.2, 0, none⟩))]) (fun s W => FO (some (oidC 0 Z16)) (some (oidC 0 Z16)) (some (oidC 0 Z16)) s #[.int .u8 f0, .int .u32 s0, .slice A0 l0.length c0] #[.int .u8 f1, .int .u32 s1, .slice A1 l1.length c1] #[.int .u8 f2, .int .u32 s2, .slice A2 l2.length c2] w W) ?_ (fun J2111 => ?_)
  · rintro s w1 HF
    refine norm_ (a' := ?_) ?_ ?_
    rotate_left
    · show putAll _ _ = _
      simp only [putAll, Act.put, List.setIfInBounds_toArray, List.set_cons_zero, List.set_cons_succ]
      rfl
    refine one_ (i := 5) (N := some 17) #[true, true, true, true, true, true, true, true, true, false, false, false] rfl rfl (by kernel_rfl) (by decide) (fun K hK => ?_)
    · refine goes_ Tryd.func19 (by kernel_rfl) rfl #[.agg #[.int .u8 f2, .int .u32 s2, .slice A2 l2.length c2]] (by rfl) rfl rfl (by (try simp only [List.map_toArray, List.map_cons, List.map_nil]); first | done | rfl) ?_
      refine (HA2.out _ HF.a.st.b).mono ?_
      rintro e w2 ⟨rfl, hq⟩
      refine ⟨_, rfl, ?_⟩
      refine hK.out _ _ (HF.a.next hq) (fun HS => ?_)
      refine norm_ ?_ (J3111 s _ (HF.next hq))
      simp only [putAll, Act.put, List.setIfInBounds_toArray, List.set_cons_zero, List.set_cons_succ]
  refine join_ 4 #[true, true, true, true, true, true, true, true, false, false, false, false] (fun s : Nat × Nat × Nat => [(13, (oidV (N0 : Int) x0)), (15, (oidV (N1 : Int) x1)), (17, (oidV (N2 : Int) x2)), (7, .pointer (some ⟨s.1, 0, none⟩)), (8, .pointer (some ⟨s.2.1, 0, none⟩))]) (fun s W => FO (some (oidC 0 Z16)) (some (oidC 0 Z16)) none s #[.int .u8 f0, .int .u32 s0, .slice A0 l0.length c0] #[.int .u8 f1, .int .u32 s1, .slice A1 l1.length c1] #[.int .u8 f2, .int .u32 s2, .slice A2 l2.length c2] w W) ?_ (fun J3110 => ?_)
  · rintro s w1 HF
    refine norm_ (a' := ?_) ?_ ?_
    rotate_left
    · show putAll _ _ = _
      simp only [putAll, Act.put, List.setIfInBounds_toArray, List.set_cons_zero, List.set_cons_succ]
      rfl
    refine one_ (i := 8) (N := some 9) #[true, true, true, true, true, true, true, true, true, false, false, false] rfl rfl (by kernel_rfl) (by decide) (fun K hK => ?_)
    · refine value_ (by rfl) (N := some 9) rfl (v := .pointer (some ⟨w1.heap.size, 0, none⟩)) (w1 := World.alloc w1 (.cells (oidC 0 Z16) 27)) (by go_simp; first | done | rfl) ?_
      refine hK.out _ _ HF.add9.a (fun HS => ?_)
      refine norm_ ?_ (J3111 (s.1, s.2.1, w1.heap.size) _ HF.add9)
      simp only [putAll, Act.put, List.setIfInBounds_toArray, List.set_cons_zero, List.set_cons_succ]
  refine join_ 4 #[true, true, true, true, true, true, true, false, true, false, false, false] (fun s : Nat × Nat × Nat => [(13, (oidV (N0 : Int) x0)), (15, (oidV (N1 : Int) x1)), (17, (oidV (N2 : Int) x2)), (7, .pointer (some ⟨s.1, 0, none⟩)), (9, .pointer (some ⟨s.2.2, 0, none⟩))]) (fun s W => FO (some (oidC 0 Z16)) none (some (oidC 0 Z16)) s #[.int .u8 f0, .int .u32 s0, .slice A0 l0.length c0] #[.int .u8 f1, .int .u32 s1, .slice A1 l1.length c1] #[.int .u8 f2, .int .u32 s2, .slice A2 l2.length c2] w W) ?_ (fun J3101 => ?_)
  · rintro s w1 HF
    refine norm_ (a' := ?_) ?_ ?_
    rotate_left
    · show putAll _ _ = _
      simp only [putAll, Act.put, List.setIfInBounds_toArray, List.set_cons_zero, List.set_cons_succ]
      rfl
    refine one_ (i := 7) (N := some 8) #[true, true, true, true, true, true, true, true, true, false, false, false] rfl rfl (by kernel_rfl) (by decide) (fun K hK => ?_)
    · refine value_ (by rfl) (N := some 8) rfl (v := .pointer (some ⟨w1.heap.size, 0, none⟩)) (w1 := World.alloc w1 (.cells (oidC 0 Z16) 27)) (by go_simp; first | done | rfl) ?_
      refine hK.out _ _ HF.add8.a (fun HS => ?_)
      refine norm_ ?_ (J3111 (s.1, w1.heap.size, s.2.2) _ HF.add8)
      simp only [putAll, Act.put, List.setIfInBounds_toArray, List.set_cons_zero, List.set_cons_succ]
  refine join_ 4 #[true, true, true, true, true, true, false, true, true, false, false, false] (fun s : Nat × Nat × Nat => [(13, (oidV (N0 : Int) x0)), (15, (oidV (N1 : Int) x1)), (17, (oidV (N2 : Int) x2)), (8, .pointer (some ⟨s.2.1, 0, none⟩)), (9, .pointer (some ⟨s.2.2, 0, none⟩))]) (fun s W => FO none (some (oidC 0 Z16)) (some (oidC 0 Z16)) s #[.int .u8 f0, .int .u32 s0, .slice A0 l0.length c0] #[.int .u8 f1, .int .u32 s1, .slice A1 l1.length c1] #[.int .u8 f2, .int .u32 s2, .slice A2 l2.length c2] w W) ?_ (fun J3011 => ?_)
  · rintro s w1 HF
    refine norm_ (a' := ?_) ?_ ?_
    rotate_left
    · show putAll _ _ = _
      simp only [putAll, Act.put, List.setIfInBounds_toArray, List.set_cons_zero, List.set_cons_succ]
      rfl
    refine one_ (i := 6) (N := some 7) #[true, true, true, true, true, true, true, true, true, false, false, false] rfl rfl (by kernel_rfl) (by decide) (fun K hK => ?_)
    · refine value_ (by rfl) (N := some 7) rfl (v := .pointer (some ⟨w1.heap.size, 0, none⟩)) (w1 := World.alloc w1 (.cells (oidC 0 Z16) 27)) (by go_simp; first | done | rfl) ?_
      refine hK.out _ _ HF.add7.a (fun HS => ?_)
      refine norm_ ?_ (J3111 (w1.heap.size, s.2.1, s.2.2) _ HF.add7)
      simp only [putAll, Act.put, List.setIfInBounds_toArray, List.set_cons_zero, List.set_cons_succ]
  refine join_ 5 #[true, true, true, false, true, false, true, true, true, false, false, false] (fun s : Nat × Nat × Nat => [(13, (oidV (N0 : Int) x0)), (7, .pointer (some ⟨s.1, 0, none⟩)), (8, .pointer (some ⟨s.2.1, 0, none⟩)), (9, .pointer (some ⟨s.2.2, 0, none⟩))]) (fun s W => FO (some (oidC 0 Z16)) (some (oidC 0 Z16)) (some (oidC 0 Z16)) s #[.int .u8 f0, .int .u32 s0, .slice A0 l0.length c0] #[.int .u8 f1, .int .u32 s1, .slice A1 l1.length c1] #[.int .u8 f2, .int .u32 s2, .slice A2 l2.length c2] w W) ?_ (fun J1111 => ?_)
  · rintro s w1 HF
    refine norm_ (a' := ?_) ?_ ?_
    rotate_left
    · show putAll _ _ = _
      simp only [putAll, Act.put, List.setIfInBounds_toArray, List.set_cons_zero, List.set_cons_succ]
      rfl
    refine one_ (i := 3) (N := some 15) #[true, true, true, true, true, false, true, true, true, false, false, false] rfl rfl (by kernel_rfl) (by decide) (fun K hK => ?_)
    · refine goes_ Tryd.func19 (by kernel_rfl) rfl #[.agg #[.int .u8 f1, .int .u32 s1, .slice A1 l1.length c1]] (by rfl) rfl rfl (by (try simp only [List.map_toArray, List.map_cons, List.map_nil]); first | done | rfl) ?_
      refine (HA1.out _ HF.a.st.b).mono ?_
      rintro e w2 ⟨rfl, hq⟩
      refine ⟨_, rfl, ?_⟩
      refine hK.out _ _ (HF.a.next hq) (fun HS => ?_)
      refine norm_ ?_ (J2111 s _ (HF.next hq))
      simp only [putAll, Act.put, List.setIfInBounds_toArray, List.set_cons_zero, List.set_cons_succ]
  refine join_ 5 #[true, true, true, true, true, false, true, true, false, false, false, false] (fun s : Nat × Nat × Nat => [(13, (oidV (N0 : Int) x0)), (15, (oidV (N1 : Int) x1)), (7, .pointer (some ⟨s.1, 0, none⟩)), (8, .pointer (some ⟨s.2.1, 0, none⟩))]) (fun s W => FO (some (oidC 0 Z16)) (some (oidC 0 Z16)) none s #[.int .u8 f0, .int .u32 s0, .slice A0 l0.length c0] #[.int .u8 f1, .int .u32 s1, .slice A1 l1.length c1] #[.int .u8 f2, .int .u32 s2, .slice A2 l2.length c2] w W) ?_ (fun J2110 => ?_)
  · rintro s w1 HF
    refine norm_ (a' := ?_) ?_ ?_
    rotate_left
    · show putAll _ _ = _
      simp only [putAll, Act.put, List.setIfInBounds_toArray, List.set_cons_zero, List.set_cons_succ]
      rfl
    refine two_ (i := 5) (j := 8) (Ni := some 17) (Nj := some 9) #[true, true, true, true, true, true, true, true, false, false, false, false] #[true, true, true, true, true, false, true, true, true, false, false, false] rfl rfl rfl rfl (by kernel_rfl) (by decide) (by decide) (fun K hK => ?_) (fun K hK => ?_)
    · refine goes_ Tryd.func19 (by kernel_rfl) rfl #[.agg #[.int .u8 f2, .int .u32 s2, .slice A2 l2.length c2]] (by rfl) rfl rfl (by (try simp only [List.map_toArray, List.map_cons, List.map_nil]); first | done | rfl) ?_
      refine (HA2.out _ HF.a.st.b).mono ?_
      rintro e w2 ⟨rfl, hq⟩
      refine ⟨_, rfl, ?_⟩
      refine hK.out _ _ (HF.a.next hq) (fun HS => ?_)
      refine norm_ ?_ (J3110 s _ (HF.next hq))
      simp only [putAll, Act.put, List.setIfInBounds_toArray, List.set_cons_zero, List.set_cons_succ]
    · refine value_ (by rfl) (N := some 9) rfl (v := .pointer (some ⟨w1.heap.size, 0, none⟩)) (w1 := World.alloc w1 (.cells (oidC 0 Z16) 27)) (by go_simp; first | done | rfl) ?_
      refine hK.out _ _ HF.add9.a (fun HS => ?_)
      refine norm_ ?_ (J2111 (s.1, s.2.1, w1.heap.size) _ HF.add9)
      simp only [putAll, Act.put, List.setIfInBounds_toArray, List.set_cons_zero, List.set_cons_succ]
  refine join_ 5 #[true, true, true, true, true, false, true, false, true, false, false, false] (fun s : Nat × Nat × Nat => [(13, (oidV (N0 : Int) x0)), (15, (oidV (N1 : Int) x1)), (7, .pointer (some ⟨s.1, 0, none⟩)), (9, .pointer (some ⟨s.2.2, 0, none⟩))]) (fun s W => FO (some (oidC 0 Z16)) none (some (oidC 0 Z16)) s #[.int .u8 f0, .int .u32 s0, .slice A0 l0.length c0] #[.int .u8 f1, .int .u32 s1, .slice A1 l1.length c1] #[.int .u8 f2, .int .u32 s2, .slice A2 l2.length c2] w W) ?_ (fun J2101 => ?_)
  · rintro s w1 HF
    refine norm_ (a' := ?_) ?_ ?_
    rotate_left
    · show putAll _ _ = _
      simp only [putAll, Act.put, List.setIfInBounds_toArray, List.set_cons_zero, List.set_cons_succ]
      rfl
    refine two_ (i := 5) (j := 7) (Ni := some 17) (Nj := some 8) #[true, true, true, true, true, true, true, false, true, false, false, false] #[true, true, true, true, true, false, true, true, true, false, false, false] rfl rfl rfl rfl (by kernel_rfl) (by decide) (by decide) (fun K hK => ?_) (fun K hK => ?_)
    · refine goes_ Tryd.func19 (by kernel_rfl) rfl #[.agg #[.int .u8 f2, .int .u32 s2, .slice A2 l2.length c2]] (by rfl) rfl rfl (by (try simp only [List.map_toArray, List.map_cons, List.map_nil]); first | done | rfl) ?_
      refine (HA2.out _ HF.a.st.b).mono ?_
      rintro e w2 ⟨rfl, hq⟩
      refine ⟨_, rfl, ?_⟩
      refine hK.out _ _ (HF.a.next hq) (fun HS => ?_)
      refine norm_ ?_ (J3101 s _ (HF.next hq))
      simp only [putAll, Act.put, List.setIfInBounds_toArray, List.set_cons_zero, List.set_cons_succ]
    · refine value_ (by rfl) (N := some 8) rfl (v := .pointer (some ⟨w1.heap.size, 0, none⟩)) (w1 := World.alloc w1 (.cells (oidC 0 Z16) 27)) (by go_simp; first | done | rfl) ?_
      refine hK.out _ _ HF.add8.a (fun HS => ?_)
      refine norm_ ?_ (J2111 (s.1, w1.heap.size, s.2.2) _ HF.add8)
      simp only [putAll, Act.put, List.setIfInBounds_toArray, List.set_cons_zero, List.set_cons_succ]
  refine join_ 5 #[true, true, true, true, true, false, false, true, true, false, false, false] (fun s : Nat × Nat × Nat => [(13, (oidV (N0 : Int) x0)), (15, (oidV (N1 : Int) x1)), (8, .pointer (some ⟨s.2.1, 0, none⟩)), (9, .pointer (some ⟨s.2.2, 0, none⟩))]) (fun s W => FO none (some (oidC 0 Z16)) (some (oidC 0 Z16)) s #[.int .u8 f0, .int .u32 s0, .slice A0 l0.length c0] #[.int .u8 f1, .int .u32 s1, .slice A1 l1.length c1] #[.int .u8 f2, .int .u32 s2, .slice A2 l2.length c2] w W) ?_ (fun J2011 => ?_)
  · rintro s w1 HF
    refine norm_ (a' := ?_) ?_ ?_
    rotate_left
    · show putAll _ _ = _
      simp only [putAll, Act.put, List.setIfInBounds_toArray, List.set_cons_zero, List.set_cons_succ]
      rfl
    refine two_ (i := 5) (j := 6) (Ni := some 17) (Nj := some 7) #[true, true, true, true, true, true, false, true, true, false, false, false] #[true, true, true, true, true, false, true, true, true, false, false, false] rfl rfl rfl rfl (by kernel_rfl) (by decide) (by decide) (fun K hK => ?_) (fun K hK => ?_)
    · refine goes_ Tryd.func19 (by kernel_rfl) rfl #[.agg #[.int .u8 f2, .int .u32 s2, .slice A2 l2.length c2]] (by rfl) rfl rfl (by (try simp only [List.map_toArray, List.map_cons, List.map_nil]); first | done | rfl) ?_
      refine (HA2.out _ HF.a.st.b).mono ?_
      rintro e w2 ⟨rfl, hq⟩
      refine ⟨_, rfl, ?_⟩
      refine hK.out _ _ (HF.a.next hq) (fun HS => ?_)
      refine norm_ ?_ (J3011 s _ (HF.next hq))
      simp only [putAll, Act.put, List.setIfInBounds_toArray, List.set_cons_zero, List.set_cons_succ]
    · refine value_ (by rfl) (N := some 7) rfl (v := .pointer (some ⟨w1.heap.size, 0, none⟩)) (w1 := World.alloc w1 (.cells (oidC 0 Z16) 27)) (by go_simp; first | done | rfl) ?_
      refine hK.out _ _ HF.add7.a (fun HS => ?_)
      refine norm_ ?_ (J2111 (w1.heap.size, s.2.1, s.2.2) _ HF.add7)
      simp only [putAll, Act.put, List.setIfInBounds_toArray, List.set_cons_zero, List.set_cons_succ]
  refine join_ 5 #[true, true, true, true, true, true, true, false, false, false, false, false] (fun s : Nat × Nat × Nat => [(13, (oidV (N0 : Int) x0)), (15, (oidV (N1 : Int) x1)), (17, (oidV (N2 : Int) x2)), (7, .pointer (some ⟨s.1, 0, none⟩))]) (fun s W => FO (some (oidC 0 Z16)) none none s #[.int .u8 f0, .int .u32 s0, .slice A0 l0.length c0] #[.int .u8 f1, .int .u32 s1, .slice A1 l1.length c1] #[.int .u8 f2, .int .u32 s2, .slice A2 l2.length c2] w W) ?_ (fun J3100 => ?_)
  · rintro s w1 HF
    refine norm_ (a' := ?_) ?_ ?_
    rotate_left
    · show putAll _ _ = _
      simp only [putAll, Act.put, List.setIfInBounds_toArray, List.set_cons_zero, List.set_cons_succ]
      rfl
    refine two_ (i := 7) (j := 8) (Ni := some 8) (Nj := some 9) #[true, true, true, true, true, true, true, true, false, false, false, false] #[true, true, true, true, true, true, true, false, true, false, false, false] rfl rfl rfl rfl (by kernel_rfl) (by decide) (by decide) (fun K hK => ?_) (fun K hK => ?_)
    · refine value_ (by rfl) (N := some 8) rfl (v := .pointer (some ⟨w1.heap.size, 0, none⟩)) (w1 := World.alloc w1 (.cells (oidC 0 Z16) 27)) (by go_simp; first | done | rfl) ?_
      refine hK.out _ _ HF.add8.a (fun HS => ?_)
      refine norm_ ?_ (J3110 (s.1, w1.heap.size, s.2.2) _ HF.add8)
      simp only [putAll, Act.put, List.setIfInBounds_toArray, List.set_cons_zero, List.set_cons_succ]
    · refine value_ (by rfl) (N := some 9) rfl (v := .pointer (some ⟨w1.heap.size, 0, none⟩)) (w1 := World.alloc w1 (.cells (oidC 0 Z16) 27)) (by go_simp; first | done | rfl) ?_
      refine hK.out _ _ HF.add9.a (fun HS => ?_)
      refine norm_ ?_ (J3101 (s.1, s.2.1, w1.heap.size) _ HF.add9)
      simp only [putAll, Act.put, List.setIfInBounds_toArray, List.set_cons_zero, List.set_cons_succ]
  refine join_ 5 #[true, true, true, true, true, true, false, true, false, false, false, false] (fun s : Nat × Nat × Nat => [(13, (oidV (N0 : Int) x0)), (15, (oidV (N1 : Int) x1)), (17, (oidV (N2 : Int) x2)), (8, .pointer (some ⟨s.2.1, 0, none⟩))]) (fun s W => FO none (some (oidC 0 Z16)) none s #[.int .u8 f0, .int .u32 s0, .slice A0 l0.length c0] #[.int .u8 f1, .int .u32 s1, .slice A1 l1.length c1] #[.int .u8 f2, .int .u32 s2, .slice A2 l2.length c2] w W) ?_ (fun J3010 => ?_)
  · rintro s w1 HF
    refine norm_ (a' := ?_) ?_ ?_
    rotate_left
    · show putAll _ _ = _
      simp only [putAll, Act.put, List.setIfInBounds_toArray, List.set_cons_zero, List.set_cons_succ]
      rfl
    refine two_ (i := 6) (j := 8) (Ni := some 7) (Nj := some 9) #[true, true, true, true, true, true, true, true, false, false, false, false] #[true, true, true, true, true, true, false, true, true, false, false, false] rfl rfl rfl rfl (by kernel_rfl) (by decide) (by decide) (fun K hK => ?_) (fun K hK => ?_)
    · refine value_ (by rfl) (N := some 7) rfl (v := .pointer (some ⟨w1.heap.size, 0, none⟩)) (w1 := World.alloc w1 (.cells (oidC 0 Z16) 27)) (by go_simp; first | done | rfl) ?_
      refine hK.out _ _ HF.add7.a (fun HS => ?_)
      refine norm_ ?_ (J3110 (w1.heap.size, s.2.1, s.2.2) _ HF.add7)
      simp only [putAll, Act.put, List.setIfInBounds_toArray, List.set_cons_zero, List.set_cons_succ]
    · refine value_ (by rfl) (N := some 9) rfl (v := .pointer (some ⟨w1.heap.size, 0, none⟩)) (w1 := World.alloc w1 (.cells (oidC 0 Z16) 27)) (by go_simp; first | done | rfl) ?_
      refine hK.out _ _ HF.add9.a (fun HS => ?_)
      refine norm_ ?_ (J3011 (s.1, s.2.1, w1.heap.size) _ HF.add9)
      simp only [putAll, Act.put, List.setIfInBounds_toArray, List.set_cons_zero, List.set_cons_succ]
  refine join_ 5 #[true, true, true, true, true, true, false, false, true, false, false, false] (fun s : Nat × Nat × Nat => [(13, (oidV (N0 : Int) x0)), (15, (oidV (N1 : Int) x1)), (17, (oidV (N2 : Int) x2)), (9, .pointer (some ⟨s.2.2, 0, none⟩))]) (fun s W => FO none none (some (oidC 0 Z16)) s #[.int .u8 f0, .int .u32 s0, .slice A0 l0.length c0] #[.int .u8 f1, .int .u32 s1, .slice A1 l1.length c1] #[.int .u8 f2, .int .u32 s2, .slice A2 l2.length c2] w W) ?_ (fun J3001 => ?_)
  · rintro s w1 HF
    refine norm_ (a' := ?_) ?_ ?_
    rotate_left
    · show putAll _ _ = _
      simp only [putAll, Act.put, List.setIfInBounds_toArray, List.set_cons_zero, List.set_cons_succ]
      rfl
    refine two_ (i := 6) (j := 7) (Ni := some 7) (Nj := some 8) #[true, true, true, true, true, true, true, false, true, false, false, false] #[true, true, true, true, true, true, false, true, true, false, false, false] rfl rfl rfl rfl (by kernel_rfl) (by decide) (by decide) (fun K hK => ?_) (fun K hK => ?_)
    · refine value_ (by rfl) (N := some 7) rfl (v := .pointer (some ⟨w1.heap.size, 0, none⟩)) (w1 := World.alloc w1 (.cells (oidC 0 Z16) 27)) (by go_simp; first | done | rfl) ?_
      refine hK.out _ _ HF.add7.a (fun HS => ?_)
      refine norm_ ?_ (J3101 (w1.heap.size, s.2.1, s.2.2) _ HF.add7)
      simp only [putAll, Act.put, List.setIfInBounds_toArray, List.set_cons_zero, List.set_cons_succ]
    · refine value_ (by rfl) (N := some 8) rfl (v := .pointer (some ⟨w1.heap.size, 0, none⟩)) (w1 := World.alloc w1 (.cells (oidC 0 Z16) 27)) (by go_simp; first | done | rfl) ?_
      refine hK.out _ _ HF.add8.a (fun HS => ?_)
      refine norm_ ?_ (J3011 (s.1, w1.heap.size, s.2.2) _ HF.add8)
      simp only [putAll, Act.put, List.setIfInBounds_toArray, List.set_cons_zero, List.set_cons_succ]
  refine join_ 6 #[true, false, true, false, true, false, true, true, true, false, false, false] (fun s : Nat × Nat × Nat => [(7, .pointer (some ⟨s.1, 0, none⟩)), (8, .pointer (some ⟨s.2.1, 0, none⟩)), (9, .pointer (some ⟨s.2.2, 0, none⟩))]) (fun s W => FO (some (oidC 0 Z16)) (some (oidC 0 Z16)) (some (oidC 0 Z16)) s #[.int .u8 f0, .int .u32 s0, .slice A0 l0.length c0] #[.int .u8 f1, .int .u32 s1, .slice A1 l1.length c1] #[.int .u8 f2, .int .u32 s2, .slice A2 l2.length c2] w W) ?_ (fun J0111 => ?_)
  · rintro s w1 HF
    refine norm_ (a' := ?_) ?_ ?_
    rotate_left
    · show putAll _ _ = _
      simp only [putAll, Act.put, List.setIfInBounds_toArray, List.set_cons_zero, List.set_cons_succ]
      rfl
    refine one_ (i := 1) (N := some 13) #[true, true, true, false, true, false, true, true, true, false, false, false] rfl rfl (by kernel_rfl) (by decide) (fun K hK => ?_)
    · refine goes_ Tryd.func19 (by kernel_rfl) rfl #[.agg #[.int .u8 f0, .int .u32 s0, .slice A0 l0.length c0]] (by rfl) rfl rfl (by (try simp only [List.map_toArray, List.map_cons, List.map_nil]); first | done | rfl) ?_
      refine (HA0.out _ HF.a.st.b).mono ?_
      rintro e w2 ⟨rfl, hq⟩
      refine ⟨_, rfl, ?_⟩
      refine hK.out _ _ (HF.a.next hq) (fun HS => ?_)
      refine norm_ ?_ (J1111 s _ (HF.next hq))
      simp only [putAll, Act.put, List.setIfInBounds_toArray, List.set_cons_zero, List.set_cons_succ]
  refine join_ 6 #[true, true, true, false, true, false, true, true, false, false, false, false] (fun s : Nat × Nat × Nat => [(13, (oidV (N0 : Int) x0)), (7, .pointer (some ⟨s.1, 0, none⟩)), (8, .pointer (some ⟨s.2.1, 0, none⟩))]) (fun s W => FO (some (oidC 0 Z16)) (some (oidC 0 Z16)) none s #[.int .u8 f0, .int .u32 s0, .slice A0 l0.length c0] #[.int .u8 f1, .int .u32 s1, .slice A1 l1.length c1] #[.int .u8 f2, .int .u32 s2, .slice A2 l2.length c2] w W) ?_ (fun J1110 => ?_)
  · rintro s w1 HF
    refine norm_ (a' := ?_) ?_ ?_
    rotate_left
    · show putAll _ _ = _
      simp only [putAll, Act.put, List.setIfInBounds_toArray, List.set_cons_zero, List.set_cons_succ]
      rfl
    refine two_ (i := 3) (j := 8) (Ni := some 15) (Nj := some 9) #[true, true, true, true, true, false, true, true, false, false, false, false] #[true, true, true, false, true, false, true, true, true, false, false, false] rfl rfl rfl rfl (by kernel_rfl) (by decide) (by decide) (fun K hK => ?_) (fun K hK => ?_)
    · refine goes_ Tryd.func19 (by kernel_rfl) rfl #[.agg #[.int .u8 f1, .int .u32 s1, .slice A1 l1.length c1]] (by rfl) rfl rfl (by (try simp only [List.map_toArray, List.map_cons, List.map_nil]); first | done | rfl) ?_
      refine (HA1.out _ HF.a.st.b).mono ?_
      rintro e w2 ⟨rfl, hq⟩
      refine ⟨_, rfl, ?_⟩
      refine hK.out _ _ (HF.a.next hq) (fun HS => ?_)
      refine norm_ ?_ (J2110 s _ (HF.next hq))
      simp only [putAll, Act.put, List.setIfInBounds_toArray, List.set_cons_zero, List.set_cons_succ]
    · refine value_ (by rfl) (N := some 9) rfl (v := .pointer (some ⟨w1.heap.size, 0, none⟩)) (w1 := World.alloc w1 (.cells (oidC 0 Z16) 27)) (by go_simp; first | done | rfl) ?_
      refine hK.out _ _ HF.add9.a (fun HS => ?_)
      refine norm_ ?_ (J1111 (s.1, s.2.1, w1.heap.size) _ HF.add9)
      simp only [putAll, Act.put, List.setIfInBounds_toArray, List.set_cons_zero, List.set_cons_succ]
  refine join_ 6 #[true, true, true, false, true, false, true, false, true, false, false, false] (fun s : Nat × Nat × Nat => [(13, (oidV (N0 : Int) x0)), (7, .pointer (some ⟨s.1, 0, none⟩)), (9, .pointer (some ⟨s.2.2, 0, none⟩))]) (fun s W => FO (some (oidC 0 Z16)) none (some (oidC 0 Z16)) s #[.int .u8 f0, .int .u32 s0, .slice A0 l0.length c0] #[.int .u8 f1, .int .u32 s1, .slice A1 l1.length c1] #[.int .u8 f2, .int .u32 s2, .slice A2 l2.length c2] w W) ?_ (fun J1101 => ?_)
  · rintro s w1 HF
    refine norm_ (a' := ?_) ?_ ?_
    rotate_left
    · show putAll _ _ = _
      simp only [putAll, Act.put, List.setIfInBounds_toArray, List.set_cons_zero, List.set_cons_succ]
      rfl
    refine two_ (i := 3) (j := 7) (Ni := some 15) (Nj := some 8) #[true, true, true, true, true, false, true, false, true, false, false, false] #[true, true, true, false, true, false, true, true, true, false, false, false] rfl rfl rfl rfl (by kernel_rfl) (by decide) (by decide) (fun K hK => ?_) (fun K hK => ?_)
    · refine goes_ Tryd.func19 (by kernel_rfl) rfl #[.agg #[.int .u8 f1, .int .u32 s1, .slice A1 l1.length c1]] (by rfl) rfl rfl (by (try simp only [List.map_toArray, List.map_cons, List.map_nil]); first | done | rfl) ?_
      refine (HA1.out _ HF.a.st.b).mono ?_
      rintro e w2 ⟨rfl, hq⟩
      refine ⟨_, rfl, ?_⟩
      refine hK.out _ _ (HF.a.next hq) (fun HS => ?_)
      refine norm_ ?_ (J2101 s _ (HF.next hq))
      simp only [putAll, Act.put, List.setIfInBounds_toArray, List.set_cons_zero, List.set_cons_succ]
    · refine value_ (by rfl) (N := some 8) rfl (v := .pointer (some ⟨w1.heap.size, 0, none⟩)) (w1 := World.alloc w1 (.cells (oidC 0 Z16) 27)) (by go_simp; first | done | rfl) ?_
      refine hK.out _ _ HF.add8.a (fun HS => ?_)
      refine norm_ ?_ (J1111 (s.1, w1.heap.size, s.2.2) _ HF.add8)
      simp only [putAll, Act.put, List.setIfInBounds_toArray, List.set_cons_zero, List.set_cons_succ]
  refine join_ 6 #[true, true, true, false, true, false, false, true, true, false, false, false] (fun s : Nat × Nat × Nat => [(13, (oidV (N0 : Int) x0)), (8, .pointer (some ⟨s.2.1, 0, none⟩)), (9, .pointer (some ⟨s.2.2, 0, none⟩))]) (fun s W => FO none (some (oidC 0 Z16)) (some (oidC 0 Z16)) s #[.int .u8 f0, .int .u32 s0, .slice A0 l0.length c0] #[.int .u8 f1, .int .u32 s1, .slice A1 l1.length c1] #[.int .u8 f2, .int .u32 s2, .slice A2 l2.length c2] w W) ?_ (fun J1011 => ?_)
  · rintro s w1 HF
    refine norm_ (a' := ?_) ?_ ?_
    rotate_left
    · show putAll _ _ = _
      simp only [putAll, Act.put, List.setIfInBounds_toArray, List.set_cons_zero, List.set_cons_succ]
      rfl
    refine two_ (i := 3) (j := 6) (Ni := some 15) (Nj := some 7) #[true, true, true, true, true, false, false, true, true, false, false, false] #[true, true, true, false, true, false, true, true, true, false, false, false] rfl rfl rfl rfl (by kernel_rfl) (by decide) (by decide) (fun K hK => ?_) (fun K hK => ?_)
    · refine goes_ Tryd.func19 (by kernel_rfl) rfl #[.agg #[.int .u8 f1, .int .u32 s1, .slice A1 l1.length c1]] (by rfl) rfl rfl (by (try simp only [List.map_toArray, List.map_cons, List.map_nil]); first | done | rfl) ?_
      refine (HA1.out _ HF.a.st.b).mono ?_
      rintro e w2 ⟨rfl, hq⟩
      refine ⟨_, rfl, ?_⟩
      refine hK.out _ _ (HF.a.next hq) (fun HS => ?_)
      refine norm_ ?_ (J2011 s _ (HF.next hq))
      simp only [putAll, Act.put, List.setIfInBounds_toArray, List.set_cons_zero, List.set_cons_succ]
    · refine value_ (by rfl) (N := some 7) rfl (v := .pointer (some ⟨w1.heap.size, 0, none⟩)) (w1 := World.alloc w1 (.cells (oidC 0 Z16) 27)) (by go_simp; first | done | rfl) ?_
      refine hK.out _ _ HF.add7.a (fun HS => ?_)
      refine norm_ ?_ (J1111 (w1.heap.size, s.2.1, s.2.2) _ HF.add7)
      simp only [putAll, Act.put, List.setIfInBounds_toArray, List.set_cons_zero, List.set_cons_succ]
  refine join_ 6 #[true, true, true, true, true, false, true, false, false, false, false, false] (fun s : Nat × Nat × Nat => [(13, (oidV (N0 : Int) x0)), (15, (oidV (N1 : Int) x1)), (7, .pointer (some ⟨s.1, 0, none⟩))]) (fun s W => FO (some (oidC 0 Z16)) none none s #[.int .u8 f0, .int .u32 s0, .slice A0 l0.length c0] #[.int .u8 f1, .int .u32 s1, .slice A1 l1.length c1] #[.int .u8 f2, .int .u32 s2, .slice A2 l2.length c2] w W) ?_ (fun J2100 => ?_)
  · rintro s w1 HF
    refine norm_ (a' := ?_) ?_ ?_
    rotate_left
    · show putAll _ _ = _
      simp only [putAll, Act.put, List.setIfInBounds_toArray, List.set_cons_zero, List.set_cons_succ]
      rfl
    refine three_ (i := 5) (j := 7) (k := 8) (Ni := some 17) (Nj := some 8) (Nk := some 9) #[true, true, true, true, true, true, true, false, false, false, false, false] #[true, true, true, true, true, false, true, true, false, false, false, false] #[true, true, true, true, true, false, true, false, true, false, false, false] rfl rfl rfl rfl rfl rfl (by kernel_rfl) (by decide) (by decide) (by decide) (fun K hK => ?_) (fun K hK => ?_) (fun K hK => ?_)
    · refine goes_ Tryd.func19 (by kernel_rfl) rfl #[.agg #[.int .u8 f2, .int .u32 s2, .slice A2 l2.length c2]] (by rfl) rfl rfl (by (try simp only [List.map_toArray, List.map_cons, List.map_nil]); first | done | rfl) ?_
      refine (HA2.out _ HF.a.st.b).mono ?_
      rintro e w2 ⟨rfl, hq⟩
      refine ⟨_, rfl, ?_⟩
      refine hK.out _ _ (HF.a.next hq) (fun HS => ?_)
      refine norm_ ?_ (J3100 s _ (HF.next hq))
      simp only [putAll, Act.put, List.setIfInBounds_toArray, List.set_cons_zero, List.set_cons_succ]
    · refine value_ (by rfl) (N := some 8) rfl (v := .pointer (some ⟨w1.heap.size, 0, none⟩)) (w1 := World.alloc w1 (.cells (oidC 0 Z16) 27)) (by go_simp; first | done | rfl) ?_
      refine hK.out _ _ HF.add8.a (fun HS => ?_)
      refine norm_ ?_ (J2110 (s.1, w1.heap.size, s.2.2) _ HF.add8)
      simp only [putAll, Act.put, List.setIfInBounds_toArray, List.set_cons_zero, List.set_cons_succ]
    · refine value_ (by rfl) (N := some 9) rfl (v := .pointer (some ⟨w1.heap.size, 0, none⟩)) (w1 := World.alloc w1 (.cells (oidC 0 Z16) 27)) (by go_simp; first | done | rfl) ?_
      refine hK.out _ _ HF.add9.a (fun HS => ?_)
      refine norm_ ?_ (J2101 (s.1, s.2.1, w1.heap.size) _ HF.add9)
      simp only [putAll, Act.put, List.setIfInBounds_toArray, List.set_cons_zero, List.set_cons_succ]
  refine join_ 6 #[true, true, true, true, true, false, false, true, false, false, false, false] (fun s : Nat × Nat × Nat => [(13, (oidV (N0 : Int) x0)), (15, (oidV (N1 : Int) x1)), (8, .pointer (some ⟨s.2.1, 0, none⟩))]) (fun s W => FO none (some (oidC 0 Z16)) none s #[.int .u8 f0, .int .u32 s0, .slice A0 l0.length c0] #[.int .u8 f1, .int .u32 s1, .slice A1 l1.length c1] #[.int .u8 f2, .int .u32 s2, .slice A2 l2.length c2] w W) ?_ (fun J2010 => ?_)
  · rintro s w1 HF
    refine norm_ (a' := ?_) ?_ ?_
    rotate_left
    · show putAll _ _ = _
      simp only [putAll, Act.put, List.setIfInBounds_toArray, List.set_cons_zero, List.set_cons_succ]
      rfl
    refine three_ (i := 5) (j := 6) (k := 8) (Ni := some 17) (Nj := some 7) (Nk := some 9) #[true, true, true, true, true, true, false, true, false, false, false, false] #[true, true, true, true, true, false, true, true, false, false, false, false] #[true, true, true, true, true, false, false, true, true, false, false, false] rfl rfl rfl rfl rfl rfl (by kernel_rfl) (by decide) (by decide) (by decide) (fun K hK => ?_) (fun K hK => ?_) (fun K hK => ?_)
    · refine goes_ Tryd.func19 (by kernel_rfl) rfl #[.agg #[.int .u8 f2, .int .u32 s2, .slice A2 l2.length c2]] (by rfl) rfl rfl (by (try simp only [List.map_toArray, List.map_cons, List.map_nil]); first | done | rfl) ?_
      refine (HA2.out _ HF.a.st.b).mono ?_
      rintro e w2 ⟨rfl, hq⟩
      refine ⟨_, rfl, ?_⟩
      refine hK.out _ _ (HF.a.next hq) (fun HS => ?_)
      refine norm_ ?_ (J3010 s _ (HF.next hq))
      simp only [putAll, Act.put, List.setIfInBounds_toArray, List.set_cons_zero, List.set_cons_succ]
    · refine value_ (by rfl) (N := some 7) rfl (v := .pointer (some ⟨w1.heap.size, 0, none⟩)) (w1 := World.alloc w1 (.cells (oidC 0 Z16) 27)) (by go_simp; first | done | rfl) ?_
      refine hK.out _ _ HF.add7.a (fun HS => ?_)
      refine norm_ ?_ (J2110 (w1.heap.size, s.2.1, s.2.2) _ HF.add7)
      simp only [putAll, Act.put, List.setIfInBounds_toArray, List.set_cons_zero, List.set_cons_succ]
    · refine value_ (by rfl) (N := some 9) rfl (v := .pointer (some ⟨w1.heap.size, 0, none⟩)) (w1 := World.alloc w1 (.cells (oidC 0 Z16) 27)) (by go_simp; first | done | rfl) ?_
      refine hK.out _ _ HF.add9.a (fun HS => ?_)
      refine norm_ ?_ (J2011 (s.1, s.2.1, w1.heap.size) _ HF.add9)
      simp only [putAll, Act.put, List.setIfInBounds_toArray, List.set_cons_zero, List.set_cons_succ]
  refine join_ 6 #[true, true, true, true, true, false, false, false, true, false, false, false] (fun s : Nat × Nat × Nat => [(13, (oidV (N0 : Int) x0)), (15, (oidV (N1 : Int) x1)), (9, .pointer (some ⟨s.2.2, 0, none⟩))]) (fun s W => FO none none (some (oidC 0 Z16)) s #[.int .u8 f0, .int .u32 s0, .slice A0 l0.length c0] #[.int .u8 f1, .int .u32 s1, .slice A1 l1.length c1] #[.int .u8 f2, .int .u32 s2, .slice A2 l2.length c2] w W) ?_ (fun J2001 => ?_)
  · rintro s w1 HF
    refine norm_ (a' := ?_) ?_ ?_
    rotate_left
    · show putAll _ _ = _
      simp only [putAll, Act.put, List.setIfInBounds_toArray, List.set_cons_zero, List.set_cons_succ]
      rfl
    refine three_ (i := 5) (j := 6) (k := 7) (Ni := some 17) (Nj := some 7) (Nk := some 8) #[true, true, true, true, true, true, false, false, true, false, false, false] #[true, true, true, true, true, false, true, false, true, false, false, false] #[true, true, true, true, true, false, false, true, true, false, false, false] rfl rfl rfl rfl rfl rfl (by kernel_rfl) (by decide) (by decide) (by decide) (fun K hK => ?_) (fun K hK => ?_) (fun K hK => ?_)
    · refine goes_ Tryd.func19 (by kernel_rfl) rfl #[.agg #[.int .u8 f2, .int .u32 s2, .slice A2 l2.length c2]] (by rfl) rfl rfl (by (try simp only [List.map_toArray, List.map_cons, List.map_nil]); first | done | rfl) ?_
      refine (HA2.out _ HF.a.st.b).mono ?_
      rintro e w2 ⟨rfl, hq⟩
      refine ⟨_, rfl, ?_⟩
      refine hK.out _ _ (HF.a.next hq) (fun HS => ?_)
      refine norm_ ?_ (J3001 s _ (HF.next hq))
      simp only [putAll, Act.put, List.setIfInBounds_toArray, List.set_cons_zero, List.set_cons_succ]
    · refine value_ (by rfl) (N := some 7) rfl (v := .pointer (some ⟨w1.heap.size, 0, none⟩)) (w1 := World.alloc w1 (.cells (oidC 0 Z16) 27)) (by go_simp; first | done | rfl) ?_
      refine hK.out _ _ HF.add7.a (fun HS => ?_)
      refine norm_ ?_ (J2101 (w1.heap.size, s.2.1, s.2.2) _ HF.add7)
      simp only [putAll, Act.put, List.setIfInBounds_toArray, List.set_cons_zero, List.set_cons_succ]
    · refine value_ (by rfl) (N := some 8) rfl (v := .pointer (some ⟨w1.heap.size, 0, none⟩)) (w1 := World.alloc w1 (.cells (oidC 0 Z16) 27)) (by go_simp; first | done | rfl) ?_
      refine hK.out _ _ HF.add8.a (fun HS => ?_)
      refine norm_ ?_ (J2011 (s.1, w1.heap.size, s.2.2) _ HF.add8)
      simp only [putAll, Act.put, List.setIfInBounds_toArray, List.set_cons_zero, List.set_cons_succ]
  refine join_ 6 #[true, true, true, true, true, true, false, false, false, false, false, false] (fun s : Nat × Nat × Nat => [(13, (oidV (N0 : Int) x0)), (15, (oidV (N1 : Int) x1)), (17, (oidV (N2 : Int) x2))]) (fun s W => FO none none none s #[.int .u8 f0, .int .u32 s0, .slice A0 l0.length c0] #[.int .u8 f1, .int .u32 s1, .slice A1 l1.length c1] #[.int .u8 f2, .int .u32 s2, .slice A2 l2.length c2] w W) ?_ (fun J3000 => ?_)
  · rintro s w1 HF
    refine norm_ (a' := ?_) ?_ ?_
    rotate_left
    · show putAll _ _ = _
      simp only [putAll, Act.put, List.setIfInBounds_toArray, List.set_cons_zero, List.set_cons_succ]
      rfl
    refine three_ (i := 6) (j := 7) (k := 8) (Ni := some 7) (Nj := some 8) (Nk := some 9) #[true, true, true, true, true, true, true, false, false, false, false, false] #[true, true, true, true, true, true, false, true, false, false, false, false] #[true, true, true, true, true, true, false, false, true, false, false, false] rfl rfl rfl rfl rfl rfl (by kernel_rfl) (by decide) (by decide) (by decide) (fun K hK => ?_) (fun K hK => ?_) (fun K hK => ?_)
    · refine value_ (by rfl) (N := some 7) rfl (v := .pointer (some ⟨w1.heap.size, 0, none⟩)) (w1 := World.alloc w1 (.cells (oidC 0 Z16) 27)) (by go_simp; first | done | rfl) ?_
      refine hK.out _ _ HF.add7.a (fun HS => ?_)
      refine norm_ ?_ (J3100 (w1.heap.size, s.2.1, s.2.2) _ HF.add7)
      simp only [putAll, Act.put, List.setIfInBounds_toArray, List.set_cons_zero, List.set_cons_succ]
    · refine value_ (by rfl) (N := some 8) rfl (v := .pointer (some ⟨w1.heap.size, 0, none⟩)) (w1 := World.alloc w1 (.cells (oidC 0 Z16) 27)) (by go_simp; first | done | rfl) ?_
      refine hK.out _ _ HF.add8.a (fun HS => ?_)
      refine norm_ ?_ (J3010 (s.1, w1.heap.size, s.2.2) _ HF.add8)
      simp only [putAll, Act.put, List.setIfInBounds_toArray, List.set_cons_zero, List.set_cons_succ]
    · refine value_ (by rfl) (N := some 9) rfl (v := .pointer (some ⟨w1.heap.size, 0, none⟩)) (w1 := World.alloc w1 (.cells (oidC 0 Z16) 27)) (by go_simp; first | done | rfl) ?_
      refine hK.out _ _ HF.add9.a (fun HS => ?_)
      refine norm_ ?_ (J3001 (s.1, s.2.1, w1.heap.size) _ HF.add9)
      simp only [putAll, Act.put, List.setIfInBounds_toArray, List.set_cons_zero, List.set_cons_succ]
  refine join_ 7 #[true, false, true, false, true, false, true, true, false, false, false, false] (fun s : Nat × Nat × Nat => [(7, .pointer (some ⟨s.1, 0, none⟩)), (8, .pointer (some ⟨s.2.1, 0, none⟩))]) (fun s W => FO (some (oidC 0 Z16)) (some (oidC 0 Z16)) none s #[.int .u8 f0, .int .u32 s0, .slice A0 l0.length c0] #[.int .u8 f1, .int .u32 s1, .slice A1 l1.length c1] #[.int .u8 f2, .int .u32 s2, .slice A2 l2.length c2] w W) ?_ (fun J0110 => ?_)
  · rintro s w1 HF
    refine norm_ (a' := ?_) ?_ ?_
    rotate_left
    · show putAll _ _ = _
      simp only [putAll, Act.put, List.setIfInBounds_toArray, List.set_cons_zero, List.set_cons_succ]
      rfl
    refine two_ (i := 1) (j := 8) (Ni := some 13) (Nj := some 9) #[true, true, true, false, true, false, true, true, false, false, false, false] #[true, false, true, false, true, false, true, true, true, false, false, false] rfl rfl rfl rfl (by kernel_rfl) (by decide) (by decide) (fun K hK => ?_) (fun K hK => ?_)
    · refine goes_ Tryd.func19 (by kernel_rfl) rfl #[.agg #[.int .u8 f0, .int .u32 s0, .slice A0 l0.length c0]] (by rfl) rfl rfl (by (try simp only [List.map_toArray, List.map_cons, List.map_nil]); first | done | rfl) ?_
      refine (HA0.out _ HF.a.st.b).mono ?_
      rintro e w2 ⟨rfl, hq⟩
      refine ⟨_, rfl, ?_⟩
      refine hK.out _ _ (HF.a.next hq) (fun HS => ?_)
      refine norm_ ?_ (J1110 s _ (HF.next hq))
      simp only [putAll, Act.put, List.setIfInBounds_toArray, List.set_cons_zero, List.set_cons_succ]
    · refine value_ (by rfl) (N := some 9) rfl (v := .pointer (some ⟨w1.heap.size, 0, none⟩)) (w1 := World.alloc w1 (.cells (oidC 0 Z16) 27)) (by go_simp; first | done | rfl) ?_
      refine hK.out _ _ HF.add9.a (fun HS => ?_)
      refine norm_ ?_ (J0111 (s.1, s.2.1, w1.heap.size) _ HF.add9)
      simp only [putAll, Act.put, List.setIfInBounds_toArray, List.set_cons_zero, List.set_cons_succ]
  refine join_ 7 #[true, false, true, false, true, false, true, false, true, false, false, false] (fun s : Nat × Nat × Nat => [(7, .pointer (some ⟨s.1, 0, none⟩)), (9, .pointer (some ⟨s.2.2, 0, none⟩))]) (fun s W => FO (some (oidC 0 Z16)) none (some (oidC 0 Z16)) s #[.int .u8 f0, .int .u32 s0, .slice A0 l0.length c0] #[.int .u8 f1, .int .u32 s1, .slice A1 l1.length c1] #[.int .u8 f2, .int .u32 s2, .slice A2 l2.length c2] w W) ?_ (fun J0101 => ?_)
  · rintro s w1 HF
    refine norm_ (a' := ?_) ?_ ?_
    rotate_left
    · show putAll _ _ = _
      simp only [putAll, Act.put, List.setIfInBounds_toArray, List.set_cons_zero, List.set_cons_succ]
      rfl
    refine two_ (i := 1) (j := 7) (Ni := some 13) (Nj := some 8) #[true, true, true, false, true, false, true, false, true, false, false, false] #[true, false, true, false, true, false, true, true, true, false, false, false] rfl rfl rfl rfl (by kernel_rfl) (by decide) (by decide) (fun K hK => ?_) (fun K hK => ?_)
    · refine goes_ Tryd.func19 (by kernel_rfl) rfl #[.agg #[.int .u8 f0, .int .u32 s0, .slice A0 l0.length c0]] (by rfl) rfl rfl (by (try simp only [List.map_toArray, List.map_cons, List.map_nil]); first | done | rfl) ?_
      refine (HA0.out _ HF.a.st.b).mono ?_
      rintro e w2 ⟨rfl, hq⟩
      refine ⟨_, rfl, ?_⟩
      refine hK.out _ _ (HF.a.next hq) (fun HS => ?_)
      refine norm_ ?_ (J1101 s _ (HF.next hq))
      simp only [putAll, Act.put, List.setIfInBounds_toArray, List.set_cons_zero, List.set_cons_succ]
    · refine value_ (by rfl) (N := some 8) rfl (v := .pointer (some ⟨w1.heap.size, 0, none⟩)) (w1 := World.alloc w1 (.cells (oidC 0 Z16) 27)) (by go_simp; first | done | rfl) ?_
      refine hK.out _ _ HF.add8.a (fun HS => ?_)
      refine norm_ ?_ (J0111 (s.1, w1.heap.size, s.2.2) _ HF.add8)
      simp only [putAll, Act.put, List.setIfInBounds_toArray, List.set_cons_zero, List.set_cons_succ]
  refine join_ 7 #[true, false, true, false, true, false, false, true, true, false, false, false] (fun s : Nat × Nat × Nat => [(8, .pointer (some ⟨s.2.1, 0, none⟩)), (9, .pointer (some ⟨s.2.2, 0, none⟩))]) (fun s W => FO none (some (oidC 0 Z16)) (some (oidC 0 Z16)) s #[.int .u8 f0, .int .u32 s0, .slice A0 l0.length c0] #[.int .u8 f1, .int .u32 s1, .slice A1 l1.length c1] #[.int .u8 f2, .int .u32 s2, .slice A2 l2.length c2] w W) ?_ (fun J0011 => ?_)
  · rintro s w1 HF
    refine norm_ (a' := ?_) ?_ ?_
    rotate_left
    · show putAll _ _ = _
      simp only [putAll, Act.put, List.setIfInBounds_toArray, List.set_cons_zero, List.set_cons_succ]
      rfl
    refine two_ (i := 1) (j := 6) (Ni := some 13) (Nj := some 7) #[true, true, true, false, true, false, false, true, true, false, false, false] #[true, false, true, false, true, false, true, true, true, false, false, false] rfl rfl rfl rfl (by kernel_rfl) (by decide) (by decide) (fun K hK => ?_) (fun K hK => ?_)
    · refine goes_ Tryd.func19 (by kernel_rfl) rfl #[.agg #[.int .u8 f0, .int .u32 s0, .slice A0 l0.length c0]] (by rfl) rfl rfl (by (try simp only [List.map_toArray, List.map_cons, List.map_nil]); first | done | rfl) ?_
      refine (HA0.out _ HF.a.st.b).mono ?_
      rintro e w2 ⟨rfl, hq⟩
      refine ⟨_, rfl, ?_⟩
      refine hK.out _ _ (HF.a.next hq) (fun HS => ?_)
      refine norm_ ?_ (J1011 s _ (HF.next hq))
      simp only [putAll, Act.put, List.setIfInBounds_toArray, List.set_cons_zero, List.set_cons_succ]
    · refine value_ (by rfl) (N := some 7) rfl (v := .pointer (some ⟨w1.heap.size, 0, none⟩)) (w1 := World.alloc w1 (.cells (oidC 0 Z16) 27)) (by go_simp; first | done | rfl) ?_
      refine hK.out _ _ HF.add7.a (fun HS => ?_)
      refine norm_ ?_ (J0111 (w1.heap.size, s.2.1, s.2.2) _ HF.add7)
      simp only [putAll, Act.put, List.setIfInBounds_toArray, List.set_cons_zero, List.set_cons_succ]
  refine join_ 7 #[true, true, true, false, true, false, true, false, false, false, false, false] (fun s : Nat × Nat × Nat => [(13, (oidV (N0 : Int) x0)), (7, .pointer (some ⟨s.1, 0, none⟩))]) (fun s W => FO (some (oidC 0 Z16)) none none s #[.int .u8 f0, .int .u32 s0, .slice A0 l0.length c0] #[.int .u8 f1, .int .u32 s1, .slice A1 l1.length c1] #[.int .u8 f2, .int .u32 s2, .slice A2 l2.length c2] w W) ?_ (fun J1100 => ?_)
  · rintro s w1 HF
    refine norm_ (a' := ?_) ?_ ?_
    rotate_left
    · show putAll _ _ = _
      simp only [putAll, Act.put, List.setIfInBounds_toArray, List.set_cons_zero, List.set_cons_succ]
      rfl
    refine three_ (i := 3) (j := 7) (k := 8) (Ni := some 15) (Nj := some 8) (Nk := some 9) #[true, true, true, true, true, false, true, false, false, false, false, false] #[true, true, true, false, true, false, true, true, false, false, false, false] #[true, true, true, false, true, false, true, false, true, false, false, false] rfl rfl rfl rfl rfl rfl (by kernel_rfl) (by decide) (by decide) (by decide) (fun K hK => ?_) (fun K hK => ?_) (fun K hK => ?_)
    · refine goes_ Tryd.func19 (by kernel_rfl) rfl #[.agg #[.int .u8 f1, .int .u32 s1, .slice A1 l1.length c1]] (by rfl) rfl rfl (by (try simp only [List.map_toArray, List.map_cons, List.map_nil]); first | done | rfl) ?_
      refine (HA1.out _ HF.a.st.b).mono ?_
      rintro e w2 ⟨rfl, hq⟩
      refine ⟨_, rfl, ?_⟩
      refine hK.out _ _ (HF.a.next hq) (fun HS => ?_)
      refine norm_ ?_ (J2100 s _ (HF.next hq))
      simp only [putAll, Act.put, List.setIfInBounds_toArray, List.set_cons_zero, List.set_cons_succ]
    · refine value_ (by rfl) (N := some 8) rfl (v := .pointer (some ⟨w1.heap.size, 0, none⟩)) (w1 := World.alloc w1 (.cells (oidC 0 Z16) 27)) (by go_simp; first | done | rfl) ?_
      refine hK.out _ _ HF.add8.a (fun HS => ?_)
      refine norm_ ?_ (J1110 (s.1, w1.heap.size, s.2.2) _ HF.add8)
      simp only [putAll, Act.put, List.setIfInBounds_toArray, List.set_cons_zero, List.set_cons_succ]
    · refine value_ (by rfl) (N := some 9) rfl (v := .pointer (some ⟨w1.heap.size, 0, none⟩)) (w1 := World.alloc w1 (.cells (oidC 0 Z16) 27)) (by go_simp; first | done | rfl) ?_
      refine hK.out _ _ HF.add9.a (fun HS => ?_)
      refine norm_ ?_ (J1101 (s.1, s.2.1, w1.heap.size) _ HF.add9)
      simp only [putAll, Act.put, List.setIfInBounds_toArray, List.set_cons_zero, List.set_cons_succ]
  refine join_ 7 #[true, true, true, false, true, false, false, true, false, false, false, false] (fun s : Nat × Nat × Nat => [(13, (oidV (N0 : Int) x0)), (8, .pointer (some ⟨s.2.1, 0, none⟩))]) (fun s W => FO none (some (oidC 0 Z16)) none s #[.int .u8 f0, .int .u32 s0, .slice A0 l0.length c0] #[.int .u8 f1, .int .u32 s1, .slice A1 l1.length c1] #[.int .u8 f2, .int .u32 s2, .slice A2 l2.length c2] w W) ?_ (fun J1010 => ?_)
  · rintro s w1 HF
    refine norm_ (a' := ?_) ?_ ?_
    rotate_left
    · show putAll _ _ = _
      simp only [putAll, Act.put, List.setIfInBounds_toArray, List.set_cons_zero, List.set_cons_succ]
      rfl
    refine three_ (i := 3) (j := 6) (k := 8) (Ni := some 15) (Nj := some 7) (Nk := some 9) #[true, true, true, true, true, false, false, true, false, false, false, false] #[true, true, true, false, true, false, true, true, false, false, false, false] #[true, true, true, false, true, false, false, true, true, false, false, false] rfl rfl rfl rfl rfl rfl (by kernel_rfl) (by decide) (by decide) (by decide) (fun K hK => ?_) (fun K hK => ?_) (fun K hK => ?_)
    · refine goes_ Tryd.func19 (by kernel_rfl) rfl #[.agg #[.int .u8 f1, .int .u32 s1, .slice A1 l1.length c1]] (by rfl) rfl rfl (by (try simp only [List.map_toArray, List.map_cons, List.map_nil]); first | done | rfl) ?_
      refine (HA1.out _ HF.a.st.b).mono ?_
      rintro e w2 ⟨rfl, hq⟩
      refine ⟨_, rfl, ?_⟩
      refine hK.out _ _ (HF.a.next hq) (fun HS => ?_)
      refine norm_ ?_ (J2010 s _ (HF.next hq))
      simp only [putAll, Act.put, List.setIfInBounds_toArray, List.set_cons_zero, List.set_cons_succ]
    · refine value_ (by rfl) (N := some 7) rfl (v := .pointer (some ⟨w1.heap.size, 0, none⟩)) (w1 := World.alloc w1 (.cells (oidC 0 Z16) 27)) (by go_simp; first | done | rfl) ?_
      refine hK.out _ _ HF.add7.a (fun HS => ?_)
      refine norm_ ?_ (J1110 (w1.heap.size, s.2.1, s.2.2) _ HF.add7)
      simp only [putAll, Act.put, List.setIfInBounds_toArray, List.set_cons_zero, List.set_cons_succ]
    · refine value_ (by rfl) (N := some 9) rfl (v := .pointer (some ⟨w1.heap.size, 0, none⟩)) (w1 := World.alloc w1 (.cells (oidC 0 Z16) 27)) (by go_simp; first | done | rfl) ?_
      refine hK.out _ _ HF.add9.a (fun HS => ?_)
      refine norm_ ?_ (J1011 (s.1, s.2.1, w1.heap.size) _ HF.add9)
      simp only [putAll, Act.put, List.setIfInBounds_toArray, List.set_cons_zero, List.set_cons_succ]
  refine join_ 7 #[true, true, true, false, true, false, false, false, true, false, false, false] (fun s : Nat × Nat × Nat => [(13, (oidV (N0 : Int) x0)), (9, .pointer (some ⟨s.2.2, 0, none⟩))]) (fun s W => FO none none (some (oidC 0 Z16)) s #[.int .u8 f0, .int .u32 s0, .slice A0 l0.length c0] #[.int .u8 f1, .int .u32 s1, .slice A1 l1.length c1] #[.int .u8 f2, .int .u32 s2, .slice A2 l2.length c2] w W) ?_ (fun J1001 => ?_)
  · rintro s w1 HF
    refine norm_ (a' := ?_) ?_ ?_
    rotate_left
    · show putAll _ _ = _
      simp only [putAll, Act.put, List.setIfInBounds_toArray, List.set_cons_zero, List.set_cons_succ]
      rfl
    refine three_ (i := 3) (j := 6) (k := 7) (Ni := some 15) (Nj := some 7) (Nk := some 8) #[true, true, true, true, true, false, false, false, true, false, false, false] #[true, true, true, false, true, false, true, false, true, false, false, false] #[true, true, true, false, true, false, false, true, true, false, false, false] rfl rfl rfl rfl rfl rfl (by kernel_rfl) (by decide) (by decide) (by decide) (fun K hK => ?_) (fun K hK => ?_) (fun K hK => ?_)
    · refine goes_ Tryd.func19 (by kernel_rfl) rfl #[.agg #[.int .u8 f1, .int .u32 s1, .slice A1 l1.length c1]] (by rfl) rfl rfl (by (try simp only [List.map_toArray, List.map_cons, List.map_nil]); first | done | rfl) ?_
      refine (HA1.out _ HF.a.st.b).mono ?_
      rintro e w2 ⟨rfl, hq⟩
      refine ⟨_, rfl, ?_⟩
      refine hK.out _ _ (HF.a.next hq) (fun HS => ?_)
      refine norm_ ?_ (J2001 s _ (HF.next hq))
      simp only [putAll, Act.put, List.setIfInBounds_toArray, List.set_cons_zero, List.set_cons_succ]
    · refine value_ (by rfl) (N := some 7) rfl (v := .pointer (some ⟨w1.heap.size, 0, none⟩)) (w1 := World.alloc w1 (.cells (oidC 0 Z16) 27)) (by go_simp; first | done | rfl) ?_
      refine hK.out _ _ HF.add7.a (fun HS => ?_)
      refine norm_ ?_ (J1101 (w1.heap.size, s.2.1, s.2.2) _ HF.add7)
      simp only [putAll, Act.put, List.setIfInBounds_toArray, List.set_cons_zero, List.set_cons_succ]
    · refine value_ (by rfl) (N := some 8) rfl (v := .pointer (some ⟨w1.heap.size, 0, none⟩)) (w1 := World.alloc w1 (.cells (oidC 0 Z16) 27)) (by go_simp; first | done | rfl) ?_
      refine hK.out _ _ HF.add8.a (fun HS => ?_)
      refine norm_ ?_ (J1011 (s.1, w1.heap.size, s.2.2) _ HF.add8)
      simp only [putAll, Act.put, List.setIfInBounds_toArray, List.set_cons_zero, List.set_cons_succ]
  refine join_ 7 #[true, true, true, true, true, false, false, false, false, false, false, false] (fun s : Nat × Nat × Nat => [(13, (oidV (N0 : Int) x0)), (15, (oidV (N1 : Int) x1))]) (fun s W => FO none none none s #[.int .u8 f0, .int .u32 s0, .slice A0 l0.length c0] #[.int .u8 f1, .int .u32 s1, .slice A1 l1.length c1] #[.int .u8 f2, .int .u32 s2, .slice A2 l2.length c2] w W) ?_ (fun J2000 => ?_)
  · rintro s w1 HF
    refine norm_ (a' := ?_) ?_ ?_
    rotate_left
    · show putAll _ _ = _
      simp only [putAll, Act.put, List.setIfInBounds_toArray, List.set_cons_zero, List.set_cons_succ]
      rfl
    refine four_ (i := 5) (j := 6) (k := 7) (m := 8) (Ni := some 17) (Nj := some 7) (Nk := some 8) (Nm := some 9) #[true, true, true, true, true, true, false, false, false, false, false, false] #[true, true, true, true, true, false, true, false, false, false, false, false] #[true, true, true, true, true, false, false, true, false, false, false, false] #[true, true, true, true, true, false, false, false, true, false, false, false] rfl rfl rfl rfl rfl rfl rfl rfl (by kernel_rfl) (by decide) (by decide) (by decide) (by decide) (fun K hK => ?_) (fun K hK => ?_) (fun K hK => ?_) (fun K hK => ?_)
    · refine goes_ Tryd.func19 (by kernel_rfl) rfl #[.agg #[.int .u8 f2, .int .u32 s2, .slice A2 l2.length c2]] (by rfl) rfl rfl (by (try simp only [List.map_toArray, List.map_cons, List.map_nil]); first | done | rfl) ?_
      refine (HA2.out _ HF.a.st.b).mono ?_
      rintro e w2 ⟨rfl, hq⟩
      refine ⟨_, rfl, ?_⟩
      refine hK.out _ _ (HF.a.next hq) (fun HS => ?_)
      refine norm_ ?_ (J3000 s _ (HF.next hq))
      simp only [putAll, Act.put, List.setIfInBounds_toArray, List.set_cons_zero, List.set_cons_succ]
    · refine value_ (by rfl) (N := some 7) rfl (v := .pointer (some ⟨w1.heap.size, 0, none⟩)) (w1 := World.alloc w1 (.cells (oidC 0 Z16) 27)) (by go_simp; first | done | rfl) ?_
      refine hK.out _ _ HF.add7.a (fun HS => ?_)
      refine norm_ ?_ (J2100 (w1.heap.size, s.2.1, s.2.2) _ HF.add7)
      simp only [putAll, Act.put, List.setIfInBounds_toArray, List.set_cons_zero, List.set_cons_succ]
    · refine value_ (by rfl) (N := some 8) rfl (v := .pointer (some ⟨w1.heap.size, 0, none⟩)) (w1 := World.alloc w1 (.cells (oidC 0 Z16) 27)) (by go_simp; first | done | rfl) ?_
      refine hK.out _ _ HF.add8.a (fun HS => ?_)
      refine norm_ ?_ (J2010 (s.1, w1.heap.size, s.2.2) _ HF.add8)
      simp only [putAll, Act.put, List.setIfInBounds_toArray, List.set_cons_zero, List.set_cons_succ]
    · refine value_ (by rfl) (N := some 9) rfl (v := .pointer (some ⟨w1.heap.size, 0, none⟩)) (w1 := World.alloc w1 (.cells (oidC 0 Z16) 27)) (by go_simp; first | done | rfl) ?_
      refine hK.out _ _ HF.add9.a (fun HS => ?_)
      refine norm_ ?_ (J2001 (s.1, s.2.1, w1.heap.size) _ HF.add9)
      simp only [putAll, Act.put, List.setIfInBounds_toArray, List.set_cons_zero, List.set_cons_succ]
  refine join_ 8 #[true, false, true, false, true, false, true, false, false, false, false, false] (fun s : Nat × Nat × Nat => [(7, .pointer (some ⟨s.1, 0, none⟩))]) (fun s W => FO (some (oidC 0 Z16)) none none s #[.int .u8 f0, .int .u32 s0, .slice A0 l0.length c0] #[.int .u8 f1, .int .u32 s1, .slice A1 l1.length c1] #[.int .u8 f2, .int .u32 s2, .slice A2 l2.length c2] w W) ?_ (fun J0100 => ?_)
  · rintro s w1 HF
    refine norm_ (a' := ?_) ?_ ?_
    rotate_left
    · show putAll _ _ = _
      simp only [putAll, Act.put, List.setIfInBounds_toArray, List.set_cons_zero, List.set_cons_succ]
      rfl
    refine three_ (i := 1) (j := 7) (k := 8) (Ni := some 13) (Nj := some 8) (Nk := some 9) #[true, true, true, false, true, false, true, false, false, false, false, false] #[true, false, true, false, true, false, true, true, false, false, false, false] #[true, false, true, false, true, false, true, false, true, false, false, false] rfl rfl rfl rfl rfl rfl (by kernel_rfl) (by decide) (by decide) (by decide) (fun K hK => ?_) (fun K hK => ?_) (fun K hK => ?_)
    · refine goes_ Tryd.func19 (by kernel_rfl) rfl #[.agg #[.int .u8 f0, .int .u32 s0, .slice A0 l0.length c0]] (by rfl) rfl rfl (by (try simp only [List.map_toArray, List.map_cons, List.map_nil]); first | done | rfl) ?_
      refine (HA0.out _ HF.a.st.b).mono ?_
      rintro e w2 ⟨rfl, hq⟩
      refine ⟨_, rfl, ?_⟩
      refine hK.out _ _ (HF.a.next hq) (fun HS => ?_)
      refine norm_ ?_ (J1100 s _ (HF.next hq))
      simp only [putAll, Act.put, List.setIfInBounds_toArray, List.set_cons_zero, List.set_cons_succ]
    · refine value_ (by rfl) (N := some 8) rfl (v := .pointer (some ⟨w1.heap.size, 0, none⟩)) (w1 := World.alloc w1 (.cells (oidC 0 Z16) 27)) (by go_simp; first | done | rfl) ?_
      refine hK.out _ _ HF.add8.a (fun HS => ?_)
      refine norm_ ?_ (J0110 (s.1, w1.heap.size, s.2.2) _ HF.add8)
      simp only [putAll, Act.put, List.setIfInBounds_toArray, List.set_cons_zero, List.set_cons_succ]
    · refine value_ (by rfl) (N := some 9) rfl (v := .pointer (some ⟨w1.heap.size, 0, none⟩)) (w1 := World.alloc w1 (.cells (oidC 0 Z16) 27)) (by go_simp; first | done | rfl) ?_
      refine hK.out _ _ HF.add9.a (fun HS => ?_)
      refine norm_ ?_ (J0101 (s.1, s.2.1, w1.heap.size) _ HF.add9)
      simp only [putAll, Act.put, List.setIfInBounds_toArray, List.set_cons_zero, List.set_cons_succ]
  refine join_ 8 #[true, false, true, false, true, false, false, true, false, false, false, false] (fun s : Nat × Nat × Nat => [(8, .pointer (some ⟨s.2.1, 0, none⟩))]) (fun s W => FO none (some (oidC 0 Z16)) none s #[.int .u8 f0, .int .u32 s0, .slice A0 l0.length c0] #[.int .u8 f1, .int .u32 s1, .slice A1 l1.length c1] #[.int .u8 f2, .int .u32 s2, .slice A2 l2.length c2] w W) ?_ (fun J0010 => ?_)
  · rintro s w1 HF
    refine norm_ (a' := ?_) ?_ ?_
    rotate_left
    · show putAll _ _ = _
      simp only [putAll, Act.put, List.setIfInBounds_toArray, List.set_cons_zero, List.set_cons_succ]
      rfl
    refine three_ (i := 1) (j := 6) (k := 8) (Ni := some 13) (Nj := some 7) (Nk := some 9) #[true, true, true, false, true, false, false, true, false, false, false, false] #[true, false, true, false, true, false, true, true, false, false, false, false] #[true, false, true, false, true, false, false, true, true, false, false, false] rfl rfl rfl rfl rfl rfl (by kernel_rfl) (by decide) (by decide) (by decide) (fun K hK => ?_) (fun K hK => ?_) (fun K hK => ?_)
    · refine goes_ Tryd.func19 (by kernel_rfl) rfl #[.agg #[.int .u8 f0, .int .u32 s0, .slice A0 l0.length c0]] (by rfl) rfl rfl (by (try simp only [List.map_toArray, List.map_cons, List.map_nil]); first | done | rfl) ?_
      refine (HA0.out _ HF.a.st.b).mono ?_
      rintro e w2 ⟨rfl, hq⟩
      refine ⟨_, rfl, ?_⟩
      refine hK.out _ _ (HF.a.next hq) (fun HS => ?_)
      refine norm_ ?_ (J1010 s _ (HF.next hq))
      simp only [putAll, Act.put, List.setIfInBounds_toArray, List.set_cons_zero, List.set_cons_succ]
    · refine value_ (by rfl) (N := some 7) rfl (v := .pointer (some ⟨w1.heap.size, 0, none⟩)) (w1 := World.alloc w1 (.cells (oidC 0 Z16) 27)) (by go_simp; first | done | rfl) ?_
      refine hK.out _ _ HF.add7.a (fun HS => ?_)
      refine norm_ ?_ (J0110 (w1.heap.size, s.2.1, s.2.2) _ HF.add7)
      simp only [putAll, Act.put, List.setIfInBounds_toArray, List.set_cons_zero, List.set_cons_succ]
    · refine value_ (by rfl) (N := some 9) rfl (v := .pointer (some ⟨w1.heap.size, 0, none⟩)) (w1 := World.alloc w1 (.cells (oidC 0 Z16) 27)) (by go_simp; first | done | rfl) ?_
      refine hK.out _ _ HF.add9.a (fun HS => ?_)
      refine norm_ ?_ (J0011 (s.1, s.2.1, w1.heap.size) _ HF.add9)
      simp only [putAll, Act.put, List.setIfInBounds_toArray, List.set_cons_zero, List.set_cons_succ]
  refine join_ 8 #[true, false, true, false, true, false, false, false, true, false, false, false] (fun s : Nat × Nat × Nat => [(9, .pointer (some ⟨s.2.2, 0, none⟩))]) (fun s W => FO none none (some (oidC 0 Z16)) s #[.int .u8 f0, .int .u32 s0, .slice A0 l0.length c0] #[.int .u8 f1, .int .u32 s1, .slice A1 l1.length c1] #[.int .u8 f2, .int .u32 s2, .slice A2 l2.length c2] w W) ?_ (fun J0001 => ?_)
  · rintro s w1 HF
    refine norm_ (a' := ?_) ?_ ?_
    rotate_left
    · show putAll _ _ = _
      simp only [putAll, Act.put, List.setIfInBounds_toArray, List.set_cons_zero, List.set_cons_succ]
      rfl
    refine three_ (i := 1) (j := 6) (k := 7) (Ni := some 13) (Nj := some 7) (Nk := some 8) #[true, true, true, false, true, false, false, false, true, false, false, false] #[true, false, true, false, true, false, true, false, true, false, false, false] #[true, false, true, false, true, false, false, true, true, false, false, false] rfl rfl rfl rfl rfl rfl (by kernel_rfl) (by decide) (by decide) (by decide) (fun K hK => ?_) (fun K hK => ?_) (fun K hK => ?_)
    · refine goes_ Tryd.func19 (by kernel_rfl) rfl #[.agg #[.int .u8 f0, .int .u32 s0, .slice A0 l0.length c0]] (by rfl) rfl rfl (by (try simp only [List.map_toArray, List.map_cons, List.map_nil]); first | done | rfl) ?_
      refine (HA0.out _ HF.a.st.b).mono ?_
      rintro e w2 ⟨rfl, hq⟩
      refine ⟨_, rfl, ?_⟩
      refine hK.out _ _ (HF.a.next hq) (fun HS => ?_)
      refine norm_ ?_ (J1001 s _ (HF.next hq))
      simp only [putAll, Act.put, List.setIfInBounds_toArray, List.set_cons_zero, List.set_cons_succ]
    · refine value_ (by rfl) (N := some 7) rfl (v := .pointer (some ⟨w1.heap.size, 0, none⟩)) (w1 := World.alloc w1 (.cells (oidC 0 Z16) 27)) (by go_simp; first | done | rfl) ?_
      refine hK.out _ _ HF.add7.a (fun HS => ?_)
      refine norm_ ?_ (J0101 (w1.heap.size, s.2.1, s.2.2) _ HF.add7)
      simp only [putAll, Act.put, List.setIfInBounds_toArray, List.set_cons_zero, List.set_cons_succ]
    · refine value_ (by rfl) (N := some 8) rfl (v := .pointer (some ⟨w1.heap.size, 0, none⟩)) (w1 := World.alloc w1 (.cells (oidC 0 Z16) 27)) (by go_simp; first | done | rfl) ?_
      refine hK.out _ _ HF.add8.a (fun HS => ?_)
      refine norm_ ?_ (J0011 (s.1, w1.heap.size, s.2.2) _ HF.add8)
      simp only [putAll, Act.put, List.setIfInBounds_toArray, List.set_cons_zero, List.set_cons_succ]
  refine join_ 8 #[true, true, true, false, true, false, false, false, false, false, false, false] (fun s : Nat × Nat × Nat => [(13, (oidV (N0 : Int) x0))]) (fun s W => FO none none none s #[.int .u8 f0, .int .u32 s0, .slice A0 l0.length c0] #[.int .u8 f1, .int .u32 s1, .slice A1 l1.length c1] #[.int .u8 f2, .int .u32 s2, .slice A2 l2.length c2] w W) ?_ (fun J1000 => ?_)
  · rintro s w1 HF
    refine norm_ (a' := ?_) ?_ ?_
    rotate_left
    · show putAll _ _ = _
      simp only [putAll, Act.put, List.setIfInBounds_toArray, List.set_cons_zero, List.set_cons_succ]
      rfl
    refine four_ (i := 3) (j := 6) (k := 7) (m := 8) (Ni := some 15) (Nj := some 7) (Nk := some 8) (Nm := some 9) #[true, true, true, true, true, false, false, false, false, false, false, false] #[true, true, true, false, true, false, true, false, false, false, false, false] #[true, true, true, false, true, false, false, true, false, false, false, false] #[true, true, true, false, true, false, false, false, true, false, false, false] rfl rfl rfl rfl rfl rfl rfl rfl (by kernel_rfl) (by decide) (by decide) (by decide) (by decide) (fun K hK => ?_) (fun K hK => ?_) (fun K hK => ?_) (fun K hK => ?_)
    · refine goes_ Tryd.func19 (by kernel_rfl) rfl #[.agg #[.int .u8 f1, .int .u32 s1, .slice A1 l1.length c1]] (by rfl) rfl rfl (by (try simp only [List.map_toArray, List.map_cons, List.map_nil]); first | done | rfl) ?_
      refine (HA1.out _ HF.a.st.b).mono ?_
      rintro e w2 ⟨rfl, hq⟩
      refine ⟨_, rfl, ?_⟩
      refine hK.out _ _ (HF.a.next hq) (fun HS => ?_)
      refine norm_ ?_ (J2000 s _ (HF.next hq))
      simp only [putAll, Act.put, List.setIfInBounds_toArray, List.set_cons_zero, List.set_cons_succ]
    · refine value_ (by rfl) (N := some 7) rfl (v := .pointer (some ⟨w1.heap.size, 0, none⟩)) (w1 := World.alloc w1 (.cells (oidC 0 Z16) 27)) (by go_simp; first | done | rfl) ?_
      refine hK.out _ _ HF.add7.a (fun HS => ?_)
      refine norm_ ?_ (J1100 (w1.heap.size, s.2.1, s.2.2) _ HF.add7)
      simp only [putAll, Act.put, List.setIfInBounds_toArray, List.set_cons_zero, List.set_cons_succ]
    · refine value_ (by rfl) (N := some 8) rfl (v := .pointer (some ⟨w1.heap.size, 0, none⟩)) (w1 := World.alloc w1 (.cells (oidC 0 Z16) 27)) (by go_simp; first | done | rfl) ?_
      refine hK.out _ _ HF.add8.a (fun HS => ?_)
      refine norm_ ?_ (J1010 (s.1, w1.heap.size, s.2.2) _ HF.add8)
      simp only [putAll, Act.put, List.setIfInBounds_toArray, List.set_cons_zero, List.set_cons_succ]
    · refine value_ (by rfl) (N := some 9) rfl (v := .pointer (some ⟨w1.heap.size, 0, none⟩)) (w1 := World.alloc w1 (.cells (oidC 0 Z16) 27)) (by go_simp; first | done | rfl) ?_
      refine hK.out _ _ HF.add9.a (fun HS => ?_)
      refine norm_ ?_ (J1001 (s.1, s.2.1, w1.heap.size) _ HF.add9)
      simp only [putAll, Act.put, List.setIfInBounds_toArray, List.set_cons_zero, List.set_cons_succ]
  refine join_ 9 #[true, false, true, false, true, false, false, false, false, false, false, false] (fun s : Nat × Nat × Nat => []) (fun s W => FO none none none s #[.int .u8 f0, .int .u32 s0, .slice A0 l0.length c0] #[.int .u8 f1, .int .u32 s1, .slice A1 l1.length c1] #[.int .u8 f2, .int .u32 s2, .slice A2 l2.length c2] w W) ?_ (fun J0000 => ?_)
  · rintro s w1 HF
    refine norm_ (a' := ?_) ?_ ?_
    rotate_left
    · show putAll _ _ = _
      simp only [putAll, Act.put, List.setIfInBounds_toArray, List.set_cons_zero, List.set_cons_succ]
      rfl
    refine four_ (i := 1) (j := 6) (k := 7) (m := 8) (Ni := some 13) (Nj := some 7) (Nk := some 8) (Nm := some 9) #[true, true, true, false, true, false, false, false, false, false, false, false] #[true, false, true, false, true, false, true, false, false, false, false, false] #[true, false, true, false, true, false, false, true, false, false, false, false] #[true, false, true, false, true, false, false, false, true, false, false, false] rfl rfl rfl rfl rfl rfl rfl rfl (by kernel_rfl) (by decide) (by decide) (by decide) (by decide) (fun K hK => ?_) (fun K hK => ?_) (fun K hK => ?_) (fun K hK => ?_)
    · refine goes_ Tryd.func19 (by kernel_rfl) rfl #[.agg #[.int .u8 f0, .int .u32 s0, .slice A0 l0.length c0]] (by rfl) rfl rfl (by (try simp only [List.map_toArray, List.map_cons, List.map_nil]); first | done | rfl) ?_
      refine (HA0.out _ HF.a.st.b).mono ?_
      rintro e w2 ⟨rfl, hq⟩
      refine ⟨_, rfl, ?_⟩
      refine hK.out _ _ (HF.a.next hq) (fun HS => ?_)
      refine norm_ ?_ (J1000 s _ (HF.next hq))
      simp only [putAll, Act.put, List.setIfInBounds_toArray, List.set_cons_zero, List.set_cons_succ]
    · refine value_ (by rfl) (N := some 7) rfl (v := .pointer (some ⟨w1.heap.size, 0, none⟩)) (w1 := World.alloc w1 (.cells (oidC 0 Z16) 27)) (by go_simp; first | done | rfl) ?_
      refine hK.out _ _ HF.add7.a (fun HS => ?_)
      refine norm_ ?_ (J0100 (w1.heap.size, s.2.1, s.2.2) _ HF.add7)
      simp only [putAll, Act.put, List.setIfInBounds_toArray, List.set_cons_zero, List.set_cons_succ]
    · refine value_ (by rfl) (N := some 8) rfl (v := .pointer (some ⟨w1.heap.size, 0, none⟩)) (w1 := World.alloc w1 (.cells (oidC 0 Z16) 27)) (by go_simp; first | done | rfl) ?_
      refine hK.out _ _ HF.add8.a (fun HS => ?_)
      refine norm_ ?_ (J0010 (s.1, w1.heap.size, s.2.2) _ HF.add8)
      simp only [putAll, Act.put, List.setIfInBounds_toArray, List.set_cons_zero, List.set_cons_succ]
    · refine value_ (by rfl) (N := some 9) rfl (v := .pointer (some ⟨w1.heap.size, 0, none⟩)) (w1 := World.alloc w1 (.cells (oidC 0 Z16) 27)) (by go_simp; first | done | rfl) ?_
      refine hK.out _ _ HF.add9.a (fun HS => ?_)
      refine norm_ ?_ (J0001 (s.1, s.2.1, w1.heap.size) _ HF.add9)
      simp only [putAll, Act.put, List.setIfInBounds_toArray, List.set_cons_zero, List.set_cons_succ]
  exact J0000 (0, 0, 0) _ ⟨HX0, (fun c e => by cases e), (fun c e => by cases e), (fun c e => by cases e), (fun e => by cases e), (fun e => by cases e), (fun e => by cases e)⟩
end Go.Proofs.YtacpcagijfacnaaDoor
