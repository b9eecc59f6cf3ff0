/- Chapter 2 (tags): the law's own helpers same, read; lives: the chapter's examples hold. -/
import Derived.Test.YtpdomckacfeffaaDoorWg
namespace Go.Proofs.YtpdomckacfeffaaDoor
open Go.RowKit Go.Shelf
open Go.Proofs.YtpdomckacfeffaaDoorW.PrintWords (blk_new blk_below blk_cell blk_alloc blk_lt blk_frozen blk_drew blk_set)

instance (l : List Int) : Decidable (Byt l) := inferInstanceAs (Decidable (∀ x ∈ l, 0 ≤ x ∧ x < 256))
def u8s (l : List Int) : List UInt8 := l.map fun x => UInt8.ofNat x.toNat
theorem conv_any {w : World} {g c : Nat} {l : List Int} (hb : Byt l) (h : Octs w g l) : (convert 22 9 (.slice (some ⟨g, 0, none⟩) l.length c)).run Tryd.prog w = .ok (.string ⟨(u8s l).toArray⟩) w := by
  have hl : l.length = (u8s l).length := by simp [u8s]
  rw [hl]
  refine run_convert_bytes_back w 22 9 5 ⟨g, 0, none⟩ c (u8s l) Tryd.underlying22 Tryd.underlying5 Tryd.underlying9 fun j hj => ?_
  rw [Lib.add_plain, Nat.zero_add, h j (by omega)]
  have hj' : j < l.length := by omega
  have hx := hb l[j] (List.getElem_mem hj')
  simp only [u8s, List.getElem_map, List.getD, List.getElem?_eq_getElem hj', Option.getD_some]
  rw [UInt8.toNat_ofNat', show ((l[j].toNat % 2 ^ 8 : Nat) : Int) = l[j] by omega]
set_option maxHeartbeats 2000000 in
/-- same: the octets wanted, without spare capacity, and no error. -/
theorem same_gen (A1 A2 : Option Addr) (n1 c1 n2 c2 : Nat) (a f : Int) (x y : ByteArray) (r : Bool) (w : World)
    (h1 : ∀ W, W = w → (convert 22 9 (.slice A1 n1 c1)).run Tryd.prog W = .ok (.string x) W) (h2 : ∀ W, W = w → (convert 22 9 (.slice A2 n2 c2)).run Tryd.prog W = .ok (.string y) W)
    (hr : ((a == f) && ((x.toList == y.toList) && ((c1 : Int) == (n1 : Int)))) = r) :
    Calls Tryd.prog 14 #[.slice A1 n1 c1, .int .i64 a, .slice A2 n2 c2, .int .i64 f] w fun e w' => e = .returned (.bool r) ∧ w' = w := by
  have k1 := h1 w rfl
  have k2 := h2 w rfl
  clear h1 h2
  by_cases ha : a = f
  · have hab : (a == f) = true := by simpa using ha
    by_cases hx : (x.toList == y.toList) = true
    · by_cases hc : ((c1 : Int) == (n1 : Int)) = true
      · rw [hab, hx, hc] at hr
        subst hr
        go_enter Tryd.func14, Tryd.ntmps14
        go_wp2
        go_ret
        exact ⟨rfl, rfl⟩
      · have hc' : ((c1 : Int) == (n1 : Int)) = false := by simpa using hc
        rw [hab, hx, hc'] at hr
        subst hr
        go_enter Tryd.func14, Tryd.ntmps14
        go_wp2
        go_ret
        exact ⟨rfl, rfl⟩
    · have hx' : (x.toList == y.toList) = false := by simpa using hx
      rw [hab, hx'] at hr
      subst hr
      go_enter Tryd.func14, Tryd.ntmps14
      go_wp2
      go_ret
      exact ⟨rfl, rfl⟩
  · have hab : (a == f) = false := by simpa using ha
    rw [hab] at hr
    subst hr
    go_enter Tryd.func14, Tryd.ntmps14
    go_wp2
    go_ret
    exact ⟨rfl, rfl⟩
theorem same_yes (l : List Int) (g k c : Nat) (w : World) (hb : Byt l) (h1 : Octs w g l) (h2 : Octs w k l) :
    Calls Tryd.prog 14 #[.slice (some ⟨g, 0, none⟩) l.length l.length, .int .i64 0, .slice (some ⟨k, 0, none⟩) l.length c, .int .i64 0] w fun e w' => e = .returned (.bool true) ∧ w' = w :=
  same_gen _ _ _ _ _ _ 0 0 ⟨(u8s l).toArray⟩ ⟨(u8s l).toArray⟩ true w (fun W hW => by subst hW; exact conv_any hb h1) (fun W hW => by subst hW; exact conv_any hb h2) (by simp)
/-- read: does Get return this tag, size and error? -/
def rdB (l : List Int) (cl : Int) (co : Bool) (nu n f : Int) : Bool := ((getS l).1 == cl && ((getS l).2.1 == co && (getS l).2.2.1 == nu)) && ((getS l).2.2.2.1 == n && (getS l).2.2.2.2 == f)
theorem read_f (l : List Int) (hb : Byt l) (cl : Int) (co : Bool) (nu n f : Int) : Pr.vidimuslaw02_read.f 12 l cl co nu n f = some (rdB l cl co nu n f) := by
  unfold Pr.vidimuslaw02_read.f rdB
  rw [get_f l hb]
  simp only [Option.bind_some]
  generalize getS l = p
  obtain ⟨p1, p2, p3, p4, p5⟩ := p
  by_cases h1 : (p1 == cl && (p2 == co && (p3 == nu))) = true
  · rw [if_pos h1, h1]
    by_cases h2 : p4 = n
    · rw [if_pos h2]; simp [h2]
    · rw [if_neg h2]; simp [h2]
  · rw [if_neg h1]
    have h1' : (p1 == cl && (p2 == co && (p3 == nu))) = false := by simpa using h1
    rw [h1']; rfl
theorem read_any (l : List Int) (hb : Byt l) (hl : l.length ≤ 1000000) (g c : Nat) (hc : l.length ≤ c) (cl nu n f : Int) (co : Bool) (w : World) (h : Octs w g l) :
    Calls Tryd.prog 12 #[.slice (some ⟨g, 0, none⟩) l.length c, .agg #[.int .u8 cl, .bool co, .int .u32 nu], .int .i64 n, .int .i64 f] w fun e w' => e = .returned (.bool (rdB l cl co nu n f)) ∧ Below w.heap.size w w' :=
  Pr.vidimuslaw02_read.calls 12 (some ⟨g, 0, none⟩) c l cl co nu n f _ w (read_of hl h) hc (read_f l hb cl co nu n f)
theorem read_is (l : List Int) (N : Nat) (g c : Nat) (cl nu n f : Int) (co : Bool) (r : Bool) (w : World) (hN : l.length = N) (hb : Byt l) (hl : l.length ≤ 1000000) (hc : l.length ≤ c) (hr : rdB l cl co nu n f = r) (h : Octs w g l) :
    Calls Tryd.prog 12 #[.slice (some ⟨g, 0, none⟩) N c, .agg #[.int .u8 cl, .bool co, .int .u32 nu], .int .i64 n, .int .i64 f] w fun e w' => e = .returned (.bool r) ∧ Below w.heap.size w w' := by
  subst hN hr
  exact read_any l hb hl g c hc cl nu n f co w h
theorem put_is (cl : Int) (co : Bool) (nu : Int) (L : List Int) (N : Nat) (w : World) (hL : enc cl co nu = L) (hN : L.length = N) (hc0 : 0 ≤ cl) (hc1 : cl ≤ 3) (h0 : 0 ≤ nu) (h1 : nu < 268435456) (hr : chk cl co nu = 0) :
    Calls Tryd.prog 13 #[.agg #[.int .u8 cl, .bool co, .int .u32 nu]] w fun e w' => ∃ g : Nat, e = .returned (.tuple #[.slice (some ⟨g, 0, none⟩) N N, .int .i64 0]) ∧ w.heap.size ≤ g ∧ Octs w' g L ∧ Below w.heap.size w w' := by
  subst hL hN
  exact put_ok cl co nu w hc0 hc1 h0 h1 hr
theorem same_is (L : List Int) (N : Nat) (g k c : Nat) (w : World) (hN : L.length = N) (hb : Byt L) (h1 : Octs w g L) (h2 : Octs w k L) :
    Calls Tryd.prog 14 #[.slice (some ⟨g, 0, none⟩) N N, .int .i64 0, .slice (some ⟨k, 0, none⟩) N c, .int .i64 0] w fun e w' => e = .returned (.bool true) ∧ Below w.heap.size w w' := by
  subst hN
  exact (same_yes L g k c w hb h1 h2).mono fun e w' ⟨he, hw⟩ => ⟨he, by rw [hw]; exact Below.refl _ _⟩
theorem parse_is (l : List UInt8) (cl nu f : Int) (co : Bool) (w : World) (hT : Tabs w) (hl : l.length ≤ 1000000) (h : prs l = ((cl, co, nu), f)) :
    Calls Tryd.prog 17 #[.string ⟨l.toArray⟩] w fun e w' => e = .returned (.tuple #[.agg #[.int .u8 cl, .bool co, .int .u32 nu], .int .i64 f]) ∧ Below w.heap.size w w' := by
  have := parse_any l hl w hT
  rw [h] at this
  exact this
theorem check_is (cl nu r : Int) (co : Bool) (w : World) (h : chk cl co nu = r) : Calls Tryd.prog 21 #[.agg #[.int .u8 cl, .bool co, .int .u32 nu]] w fun e w' => e = .returned (.int .i64 r) ∧ Below w.heap.size w w' := by
  subst h; exact check_any cl co nu w
theorem blk_at (w : World) (o : Obj) (k : Nat) (hk : w.heap.size = k) : (w.alloc o).heap[k]? = some o := by subst hk; exact blk_new w o
theorem octs_of {w : World} {g : Nat} {l : List Int} {t : TypeId} (h : w.heap[g]? = some (.cells (l.map (Value.int .u8)).toArray t (0, 0))) : Octs w g l := by
  intro i hi
  rw [blk_cell h i]
  simp [List.getElem?_map, List.getElem?_eq_getElem hi, List.getD]
theorem Octs.next {w W : World} {g : Nat} {l : List Int} (h : Octs w g l) (hb : Below w.heap.size w W) : Octs W g l := fun i hi => cell_kept1 (h i hi) hb
/-- What stands while lives works: the box of the first tag; the octets that Put has returned so far. -/
structure LiS (ps : List (Nat × List Int)) (w W : World) : Prop where
  st : St w W
  box : W.heap[w.heap.size]? = some (.cells #[.int .u8 0, .bool true, .int .u32 16] 27 (0, 0))
  os : ∀ p ∈ ps, Octs W p.1 p.2
theorem LiS.next {ps : List (Nat × List Int)} {w W W' : World} (h : LiS ps w W) (hb : Below W.heap.size W W') : LiS ps w W' := ⟨h.st.next hb, blk_below h.box hb, fun p hp => (h.os p hp).next hb⟩
theorem LiS.add {ps : List (Nat × List Int)} {w W W' : World} {g : Nat} {L : List Int} (h : LiS ps w W) (hb : Below W.heap.size W W') (ho : Octs W' g L) : LiS ((g, L) :: ps) w W' :=
  ⟨h.st.next hb, blk_below h.box hb, fun p hp => by rcases List.mem_cons.mp hp with rfl | hp; exact ho; exact (h.os p hp).next hb⟩
theorem LiS.alloc {ps : List (Nat × List Int)} {w W : World} (h : LiS ps w W) (o : Obj) : LiS ps w (W.alloc o) := h.next ((Below.refl _ _).alloc (Nat.le_refl _) o)

theorem itoa_one (n : Nat) (h : n < 10) : Lib.itoa (n : Int) = [UInt8.ofNat (48 + n)] := by rw [Lib.itoa_nonneg, Lib.decDigits_one h]
theorem prs_of (l cls dig : List UInt8) (con b : Bool) (n : Nat) (hn : n < 10) (hs : Lib.hasSuffix l sfx = con) (hc : Lib.cut (Lib.trimSuffix l sfx) [32] = (cls, dig, b)) (ha : Lib.atoiAll dig = .ok (n : Int)) (k : Int) (hk : cidx cls = k) (h0 : 0 ≤ k) :
    prs l = if [UInt8.ofNat (48 + n)] ≠ dig then ((0, false, 0), 6) else if chk k con n = 0 then ((k, con, (n : Int)), 0) else ((0, false, 0), chk k con n) := by
  unfold prs pdig pcls pbase
  rw [hc, hs]
  simp only [ha, hk, itoa_one n hn]
  by_cases h : [UInt8.ofNat (48 + n)] ≠ dig
  · rw [if_pos (.inr (.inr (.inr h))), if_pos h]
  · rw [if_neg (by intro hh; rcases hh with hh | hh | hh | hh; omega; omega; omega; exact h hh), if_neg h]
theorem prs_0 : prs [112, 114, 105, 118, 97, 116, 101, 32, 55] = ((3, false, 7), 0) := by
  rw [prs_of [112, 114, 105, 118, 97, 116, 101, 32, 55] [112, 114, 105, 118, 97, 116, 101] [55] false true 7 (by decide) (by decide +kernel) (by decide +kernel) (by decide +kernel) 3 (by decide +kernel) (by decide)]
  decide
theorem prs_1 : prs [112, 114, 105, 118, 97, 116, 101, 32, 48, 55] = ((0, false, 0), 6) := by
  rw [prs_of [112, 114, 105, 118, 97, 116, 101, 32, 48, 55] [112, 114, 105, 118, 97, 116, 101] [48, 55] false true 7 (by decide) (by decide +kernel) (by decide +kernel) (by decide +kernel) 3 (by decide +kernel) (by decide)]
  decide
theorem prs_2 : prs [117, 110, 105, 118, 101, 114, 115, 97, 108, 32, 48] = ((0, false, 0), 9) := by
  rw [prs_of [117, 110, 105, 118, 101, 114, 115, 97, 108, 32, 48] [117, 110, 105, 118, 101, 114, 115, 97, 108] [48] false true 0 (by decide) (by decide +kernel) (by decide +kernel) (by decide +kernel) 0 (by decide +kernel) (by decide)]
  decide
theorem text_c0 (w : World) (hT : Tabs w) : Calls Tryd.prog 16 #[.agg #[.int .u8 2, .bool true, .int .u32 0]] w fun e w' => e = .returned (.string ⟨#[99, 111, 110, 116, 101, 120, 116, 32, 48, 32, 99, 111, 110, 115, 116, 114, 117, 99, 116, 101, 100]⟩) ∧ Below w.heap.size w w' := by
  have := text_ok 2 true 0 w hT (by omega) (by omega) (by omega) (by omega) (by decide)
  have e : txt 2 true 0 = [99, 111, 110, 116, 101, 120, 116, 32, 48, 32, 99, 111, 110, 115, 116, 114, 117, 99, 116, 101, 100] := by
    unfold txt
    rw [show (0 : Int) = ((0 : Nat) : Int) from rfl, itoa_one 0 (by decide)]
    decide
  rwa [e] at this
set_option maxHeartbeats 16000000 in
set_option maxRecDepth 100000 in
/-- LIVES: the chapter's examples hold. -/
theorem lives_yes (w : World) (hT : Tabs w) : Calls Tryd.prog 10 #[] w fun e w' => e = .returned (.bool true) ∧ Below w.heap.size w w' := by
  have S : Hid (LiS [] w (w.alloc (.cells #[.int .u8 0, .bool true, .int .u32 16] 27))) := ⟨(St.refl hT).alloc _, blk_new _ _, fun p hp => by cases hp⟩
  go_enter Tryd.func10, Tryd.ntmps10
  go_wp2_with fail
  refine (put_is 0 true 16 [48] 1 _ (by decide) rfl (by omega) (by omega) (by omega) (by omega) (by decide)).mono ?_
  rintro e w1 ⟨g1, rfl, -, ho, hb⟩
  replace S := Lib.hid (S.out.add hb ho)
  clear ho hb
  go_wp2_with fail
  refine (put_is 2 false 3 [131] 1 _ (by decide) rfl (by omega) (by omega) (by omega) (by omega) (by decide)).mono ?_
  rintro e w2 ⟨g2, rfl, -, ho, hb⟩
  replace S := Lib.hid (S.out.add hb ho)
  clear ho hb
  go_wp2_with fail
  refine (put_is 3 false 31 [223, 31] 2 _ (by decide) rfl (by omega) (by omega) (by omega) (by omega) (by decide)).mono ?_
  rintro e w3 ⟨g3, rfl, -, ho, hb⟩
  replace S := Lib.hid (S.out.add hb ho)
  clear ho hb
  go_wp2_with fail
  refine (put_is 1 true 200 [127, 129, 72] 3 _ (by decide) rfl (by omega) (by omega) (by omega) (by omega) (by decide)).mono ?_
  rintro e w4 ⟨g4, rfl, -, ho, hb⟩
  replace S := Lib.hid (S.out.add hb ho)
  clear ho hb
  go_wp2_with fail
  refine (put_is 2 false 268435455 [159, 255, 255, 255, 127] 5 _ (by decide) rfl (by omega) (by omega) (by omega) (by omega) (by decide)).mono ?_
  rintro e w5 ⟨g5, rfl, -, ho, hb⟩
  replace S := Lib.hid (S.out.add hb ho)
  clear ho hb
  go_wp2_with fail
  replace S := Lib.hid (S.out.alloc (.cells #[.int .u8 48] 5))
  refine (same_is [48] 1 g1 _ _ _ rfl (by decide) (S.out.os (g1, [48]) (by simp)) (octs_of (l := [48]) (t := 5) (blk_at _ _ _ (by first | rfl | simp)))).mono ?_
  rintro e w6 ⟨rfl, hb⟩
  replace S := Lib.hid (S.out.next hb)
  clear hb
  go_wp2_with fail
  replace S := Lib.hid (S.out.alloc (.cells #[.int .u8 131] 5))
  refine (same_is [131] 1 g2 _ _ _ rfl (by decide) (S.out.os (g2, [131]) (by simp)) (octs_of (l := [131]) (t := 5) (blk_at _ _ _ (by first | rfl | simp)))).mono ?_
  rintro e w7 ⟨rfl, hb⟩
  replace S := Lib.hid (S.out.next hb)
  clear hb
  go_wp2_with fail
  replace S := Lib.hid (S.out.alloc (.cells #[.int .u8 223, .int .u8 31] 5))
  refine (same_is [223, 31] 2 g3 _ _ _ rfl (by decide) (S.out.os (g3, [223, 31]) (by simp)) (octs_of (l := [223, 31]) (t := 5) (blk_at _ _ _ (by first | rfl | simp)))).mono ?_
  rintro e w8 ⟨rfl, hb⟩
  replace S := Lib.hid (S.out.next hb)
  clear hb
  go_wp2_with fail
  replace S := Lib.hid (S.out.alloc (.cells #[.int .u8 127, .int .u8 129, .int .u8 72] 5))
  refine (same_is [127, 129, 72] 3 g4 _ _ _ rfl (by decide) (S.out.os (g4, [127, 129, 72]) (by simp)) (octs_of (l := [127, 129, 72]) (t := 5) (blk_at _ _ _ (by first | rfl | simp)))).mono ?_
  rintro e w9 ⟨rfl, hb⟩
  replace S := Lib.hid (S.out.next hb)
  clear hb
  obtain ⟨x0, x1, x2⟩ := three S.out.box
  have hlt := blk_lt S.out.box
  go_wp2_with fail
  replace S := Lib.hid (S.out.alloc (.cells #[.int .u8 48, .int .u8 5] 5))
  refine (read_is [48, 5] 2 _ 2 0 16 1 0 true true _ rfl (by decide) (by decide) (by decide) (by decide) (octs_of (l := [48, 5]) (t := 5) (blk_at _ _ _ (by first | rfl | simp)))).mono ?_
  rintro e w10 ⟨rfl, hb⟩
  replace S := Lib.hid (S.out.next hb)
  clear hb
  clear x0 x1 x2 hlt
  go_wp2_with fail
  replace S := Lib.hid (S.out.alloc (.cells #[.int .u8 223, .int .u8 31] 5))
  refine (read_is [223, 31] 2 _ 2 3 31 2 0 false true _ rfl (by decide) (by decide) (by decide) (by decide) (octs_of (l := [223, 31]) (t := 5) (blk_at _ _ _ (by first | rfl | simp)))).mono ?_
  rintro e w11 ⟨rfl, hb⟩
  replace S := Lib.hid (S.out.next hb)
  clear hb
  go_wp2_with fail
  replace S := Lib.hid (S.out.alloc (.cells #[.int .u8 159, .int .u8 129] 5))
  refine (read_is [159, 129] 2 _ 2 0 0 0 7 false true _ rfl (by decide) (by decide) (by decide) (by decide) (octs_of (l := [159, 129]) (t := 5) (blk_at _ _ _ (by first | rfl | simp)))).mono ?_
  rintro e w12 ⟨rfl, hb⟩
  replace S := Lib.hid (S.out.next hb)
  clear hb
  go_wp2_with fail
  replace S := Lib.hid (S.out.alloc (.cells #[.int .u8 159, .int .u8 128, .int .u8 1] 5))
  refine (read_is [159, 128, 1] 3 _ 3 0 0 0 9 false true _ rfl (by decide) (by decide) (by decide) (by decide) (octs_of (l := [159, 128, 1]) (t := 5) (blk_at _ _ _ (by first | rfl | simp)))).mono ?_
  rintro e w13 ⟨rfl, hb⟩
  replace S := Lib.hid (S.out.next hb)
  clear hb
  go_wp2_with fail
  replace S := Lib.hid (S.out.alloc (.cells #[.int .u8 159, .int .u8 30] 5))
  refine (read_is [159, 30] 2 _ 2 0 0 0 9 false true _ rfl (by decide) (by decide) (by decide) (by decide) (octs_of (l := [159, 30]) (t := 5) (blk_at _ _ _ (by first | rfl | simp)))).mono ?_
  rintro e w14 ⟨rfl, hb⟩
  replace S := Lib.hid (S.out.next hb)
  clear hb
  go_wp2_with fail
  replace S := Lib.hid (S.out.alloc (.cells #[.int .u8 0] 5))
  refine (read_is [0] 1 _ 1 0 0 0 9 false true _ rfl (by decide) (by decide) (by decide) (by decide) (octs_of (l := [0]) (t := 5) (blk_at _ _ _ (by first | rfl | simp)))).mono ?_
  rintro e w15 ⟨rfl, hb⟩
  replace S := Lib.hid (S.out.next hb)
  clear hb
  go_wp2_with fail
  refine (parse_is [112, 114, 105, 118, 97, 116, 101, 32, 55] 3 7 0 false _ S.out.st.t (by decide) prs_0).mono ?_
  rintro e w16 ⟨rfl, hb⟩
  replace S := Lib.hid ((S.out.next hb).alloc (.cells #[.int .u8 3, .bool false, .int .u32 7] 27))
  have B0 := Lib.hid (blk_new w16 (.cells #[.int .u8 3, .bool false, .int .u32 7] 27))
  clear hb
  go_wp2_with fail
  refine (parse_is [112, 114, 105, 118, 97, 116, 101, 32, 48, 55] 0 0 6 false _ S.out.st.t (by decide) prs_1).mono ?_
  rintro e w17 ⟨rfl, hb⟩
  replace S := Lib.hid ((S.out.next hb).alloc (.cells #[.int .u8 0, .bool false, .int .u32 0] 27))
  have B1 := Lib.hid (blk_new w17 (.cells #[.int .u8 0, .bool false, .int .u32 0] 27))
  have B0 := Lib.hid (blk_alloc (blk_below B0.out hb) (.cells #[.int .u8 0, .bool false, .int .u32 0] 27))
  clear hb
  go_wp2_with fail
  refine (parse_is [117, 110, 105, 118, 101, 114, 115, 97, 108, 32, 48] 0 0 9 false _ S.out.st.t (by decide) prs_2).mono ?_
  rintro e w18 ⟨rfl, hb⟩
  replace S := Lib.hid ((S.out.next hb).alloc (.cells #[.int .u8 0, .bool false, .int .u32 0] 27))
  have B2 := Lib.hid (blk_new w18 (.cells #[.int .u8 0, .bool false, .int .u32 0] 27))
  have B0 := Lib.hid (blk_alloc (blk_below B0.out hb) (.cells #[.int .u8 0, .bool false, .int .u32 0] 27))
  clear hb
  go_wp2_with fail
  refine (check_is 0 17 9 false _ (by decide)).mono ?_
  rintro e w19 ⟨rfl, hb⟩
  replace S := Lib.hid (S.out.next hb)
  have B0 := Lib.hid (blk_below B0.out hb)
  clear hb
  go_wp2_with fail
  refine (check_is 4 0 1 false _ (by decide)).mono ?_
  rintro e w20 ⟨rfl, hb⟩
  replace S := Lib.hid (S.out.next hb)
  have B0 := Lib.hid (blk_below B0.out hb)
  clear hb
  go_wp2_with fail
  refine (text_c0 _ S.out.st.t).mono ?_
  rintro e w21 ⟨rfl, hb⟩
  replace S := Lib.hid (S.out.next hb)
  have hB := blk_below B0.out hb
  obtain ⟨x0, x1, x2⟩ := three hB
  clear hb hB
  go_wp2
  go_ret
  exact ⟨rfl, S.out.st.b⟩
end Go.Proofs.YtpdomckacfeffaaDoor
