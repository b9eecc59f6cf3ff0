/- Chapter 10 (times): Of, where an element's bytes are read: a general time; an UTCTime of three kinds. -/
import Derived.Test.YtbncjjobdipmgaaDoorWi
namespace Go.Proofs.YtbncjjobdipmgaaDoor
open Go.RowKit Pl

set_option maxHeartbeats 8000000 in
set_option maxRecDepth 100000 in
theorem of_gen (l l0 : List UInt8) (v : Int) (a sa : Option Addr) (c sc : Nat) (w : World) (hT : Tabs w) (hlen : l.length ≤ 1000000)
    (hv : Hid (rdv 4 l = v)) (hl : Hid (rdr 4 l = l0)) (hlen' : l0.length ≤ 1000000)
    (hc : Hid (∀ W : World, Below w.heap.size w W → (convert 34 9 (.slice a l.length c)).run Tryd.prog W = .ok (.string ⟨l.toArray⟩) W)) :
    Calls Tryd.prog 26 #[.agg #[.int .u8 0, .bool false, .int .u32 24, .slice a l.length c, .slice sa 0 sc]] w (TmP (ofG false l (v) l0).1 (ofG false l (v) l0).2 w) := by
  have hcW := hc.out ((w.alloc (.cells #[.int .u8 0, .bool false, .int .u32 24, .slice a l.length c, .slice sa 0 sc] 37)).alloc (.cells #[.int .i64 0, .int .i64 0, .int .i64 0, .int .i64 0, .int .i64 0, .int .i64 0] 23)) (((Below.refl _ _).alloc (Nat.le_refl _) _).alloc (by simp) _)
  have h0 := OfI.start w hT #[.int .u8 0, .bool false, .int .u32 24, .slice a l.length c, .slice sa 0 sc] l
  have H0 := Lib.hid h0
  clear h0
  go_enter Tryd.func26, Tryd.ntmps26
  go_wp2_with (first
    | (go_at_call 37; refine (reader_any _ _).mono ?_; rintro e w1 ⟨rfl, rfl⟩)
    | (go_at_call 42; refine (num_is _ 4 _ _ _ hv hl _ (by omega) hlen H0.out.b).mono ?_; intro e w1 hP; have h1 := H0.out.clos hP; obtain ⟨rfl, -, -⟩ := hP; obtain ⟨t0, t1, t2, t3, t4, t5⟩ := six h1.t; obtain ⟨f0, f1, f2, f3, f4, f5⟩ := free h1.t))
  have hS0 : OfS w #[.int .u8 0, .bool false, .int .u32 24, .slice a l.length c, .slice sa 0 sc] (tc (v) l0 0) (lk l0 0) w1.heap.size ((w1.setCell ⟨w.heap.size + 1 + 1 + 1, 0, none⟩ (.int .i64 (v))).alloc (.cells (ptrs w.heap.size) 74)) := by
    have := OfS.mk' (h1.setT 0 (.int .i64 (v)))
    simp only [setCell_size] at this
    exact this
  have HS0 := Lib.hid hS0
  clear hS0 hcW t0 t1 t2 t3 t4 t5 f0 f1 f2 f3 f4 f5 h1 H0
  go_loopw [71] (fun i wr => ∃ k : Nat, k ≤ 5 ∧ i = .int .i64 k ∧ Hid (OfS w #[.int .u8 0, .bool false, .int .u32 24, .slice a l.length c, .slice sa 0 sc] (tc (v) l0 k) (lk l0 k) w1.heap.size wr)) (fun i _ => 5 - (intOf i).toNat)
  case atStart => exact ⟨0, by omega, rfl, HS0⟩
  case round =>
    obtain ⟨k, hk, rfl, hI⟩ := hrel
    have hlk := lk_len l0 k
    by_cases hk5 : k < 5
    · rcases (show k = 0 ∨ k = 1 ∨ k = 2 ∨ k = 3 ∨ k = 4 by omega) with rfl | rfl | rfl | rfl | rfl
      all_goals
        obtain ⟨s0, s1, s2, s3, s4⟩ := five hI.out.s
        go_wp2_with (first
          | (go_at_call 42; refine (num_any _ 2 _ _ (by omega) (by omega) hI.out.i.b).mono ?_; intro e w2 hP; have h2 := hI.out.clos hP; obtain ⟨rfl, -, -⟩ := hP; obtain ⟨t0, t1, t2, t3, t4, t5⟩ := six h2.i.t; obtain ⟨f0, f1, f2, f3, f4, f5⟩ := free h2.i.t))
        go_roundw
        case rel => first | exact ⟨1, by omega, rfl, h2.setT 1 _⟩ | exact ⟨2, by omega, rfl, h2.setT 2 _⟩ | exact ⟨3, by omega, rfl, h2.setT 3 _⟩ | exact ⟨4, by omega, rfl, h2.setT 4 _⟩ | exact ⟨5, by omega, rfl, h2.setT 5 _⟩
        case measure => simp [intOf]
    · obtain rfl : k = 5 := by omega
      have h5 := hI.out.i
      have H5 := Lib.hid h5
      obtain ⟨Y, hY⟩ : ∃ Y, Y = v := ⟨_, rfl⟩
      rw [← hY] at H5 h5
      obtain ⟨e0, e1, e2, e3, e4⟩ := five h5.e
      obtain ⟨t0, t1, t2, t3, t4, t5⟩ := six h5.t
      obtain ⟨r0, r1, r2, r3, r4, r5⟩ := six h5.r
      obtain ⟨q0, q1, q2, q3, q4, q5⟩ := free h5.r
      have HY := Lib.hid hY
      clear h5 hI HS0 hY
      by_cases hL : l.length = 15
      · have hL' : ((l.length : Int) != 15) = false := by simp; omega
        by_cases hM : mst 90 (lk l0 5) = true
        · have hmust := fun (W : World) (h : W.heap[w.heap.size + 1 + 1]? = some (.cells #[.string ⟨(lk l0 5).toArray⟩] 9 (0, 0))) => must_is (w.heap.size + 1 + 1) 90 90 rfl (lk l0 5) true hM W (by omega) h
          have HM := Lib.hid hmust
          clear hmust
          by_cases hO : okB Y (vk l0 0) (vk l0 1) (vk l0 2) (vk l0 3) (vk l0 4) = true
          · have HK : Hid (∀ W, Tabs W → Calls Tryd.prog 15 #[.agg #[.int .i64 Y, .int .i64 (vk l0 0), .int .i64 (vk l0 1), .int .i64 (vk l0 2), .int .i64 (vk l0 3), .int .i64 (vk l0 4)]] W fun e w' => e = .returned (.int .i64 0) ∧ Below W.heap.size W w') := fun W hW => check_ok hO W hW
            by_cases hG : 1950 ≤ Y ∧ Y ≤ 2049
            · obtain ⟨g1, g2⟩ := hG
              have hout : Hid (ofG false l (v) l0 = (Tm.zero, 11)) := by show _ = _; rw [← HY.out]; unfold ofG; rw [if_neg (by intro h; exact h.2.2.2 ⟨rfl, g1, g2⟩)]
              clear hO hM hL
              go_wp2_with (first
                | (go_at_call 43; refine (HM.out _ H5.out.b).mono ?_; intro e w3 hP; have h3 := H5.out.clos hP; obtain ⟨rfl, -, -⟩ := hP; have H3 := Lib.hid h3; obtain ⟨t0, t1, t2, t3, t4, t5⟩ := six h3.t; obtain ⟨r0, r1, r2, r3, r4, r5⟩ := six h3.r; obtain ⟨q0, q1, q2, q3, q4, q5⟩ := free h3.r; clear h3)
                | (go_at_call 15; refine (HK.out _ H3.out.st.t).mono ?_; rintro e w4 ⟨rfl, hb4⟩; have h4 := H3.out.below hb4; have H4 := Lib.hid h4; clear hb4; obtain ⟨t0, t1, t2, t3, t4, t5⟩ := six h4.t; obtain ⟨r0, r1, r2, r3, r4, r5⟩ := six h4.r; obtain ⟨q0, q1, q2, q3, q4, q5⟩ := free h4.r; clear h4))
              exact bodyPost_ret (ret26 rfl rfl (set6 H4.out.r _ _ _ _ _ _)) rfl ⟨by rw [hout.out]; rfl, (set6_st H4.out.st (by omega) H5.out.two _ _ _ _ _ _).b⟩
            · have hout : Hid (ofG false l (v) l0 = (⟨Y, vk l0 0, vk l0 1, vk l0 2, vk l0 3, vk l0 4⟩, 0)) := by show _ = _; rw [← HY.out]; unfold ofG; rw [if_pos (by refine ⟨hL, hM, hO, ?_⟩; omega)]
              clear hO hM hL
              rcases (show Y < 1950 ∨ (1950 ≤ Y ∧ 2049 < Y) by omega) with g1 | ⟨g1, g2⟩
              all_goals
                go_wp2_with (first
                  | (go_at_call 43; refine (HM.out _ H5.out.b).mono ?_; intro e w3 hP; have h3 := H5.out.clos hP; obtain ⟨rfl, -, -⟩ := hP; have H3 := Lib.hid h3; obtain ⟨t0, t1, t2, t3, t4, t5⟩ := six h3.t; obtain ⟨r0, r1, r2, r3, r4, r5⟩ := six h3.r; obtain ⟨q0, q1, q2, q3, q4, q5⟩ := free h3.r; clear h3)
                  | (go_at_call 15; refine (HK.out _ H3.out.st.t).mono ?_; rintro e w4 ⟨rfl, hb4⟩; have h4 := H3.out.below hb4; have H4 := Lib.hid h4; clear hb4; obtain ⟨t0, t1, t2, t3, t4, t5⟩ := six h4.t; obtain ⟨r0, r1, r2, r3, r4, r5⟩ := six h4.r; obtain ⟨q0, q1, q2, q3, q4, q5⟩ := free h4.r; clear h4))
                exact bodyPost_ret (ret26 rfl rfl (set6 H4.out.r _ _ _ _ _ _)) rfl ⟨by rw [hout.out]; rfl, (set6_st H4.out.st (by omega) H5.out.two _ _ _ _ _ _).b⟩
          · have hO' : okB Y (vk l0 0) (vk l0 1) (vk l0 2) (vk l0 3) (vk l0 4) = false := by simpa using hO
            have HK : Hid (∀ W, Tabs W → Calls Tryd.prog 15 #[.agg #[.int .i64 Y, .int .i64 (vk l0 0), .int .i64 (vk l0 1), .int .i64 (vk l0 2), .int .i64 (vk l0 3), .int .i64 (vk l0 4)]] W fun e w' => e = .returned (.int .i64 1) ∧ Below W.heap.size W w') := fun W hW => check_no hO' W hW
            have hout : Hid (ofG false l (v) l0 = (Tm.zero, 11)) := by show _ = _; rw [← HY.out]; unfold ofG; rw [if_neg (by intro h; exact hO h.2.2.1)]
            clear hO hO' hM hL
            go_wp2_with (first
              | (go_at_call 43; refine (HM.out _ H5.out.b).mono ?_; intro e w3 hP; have h3 := H5.out.clos hP; obtain ⟨rfl, -, -⟩ := hP; have H3 := Lib.hid h3; obtain ⟨t0, t1, t2, t3, t4, t5⟩ := six h3.t; obtain ⟨r0, r1, r2, r3, r4, r5⟩ := six h3.r; obtain ⟨q0, q1, q2, q3, q4, q5⟩ := free h3.r; clear h3)
              | (go_at_call 15; refine (HK.out _ H3.out.st.t).mono ?_; rintro e w4 ⟨rfl, hb4⟩; have h4 := H3.out.below hb4; have H4 := Lib.hid h4; clear hb4; obtain ⟨t0, t1, t2, t3, t4, t5⟩ := six h4.t; obtain ⟨r0, r1, r2, r3, r4, r5⟩ := six h4.r; obtain ⟨q0, q1, q2, q3, q4, q5⟩ := free h4.r; clear h4))
            exact bodyPost_ret (ret26 rfl rfl (set6 H4.out.r _ _ _ _ _ _)) rfl ⟨by rw [hout.out]; rfl, (set6_st H4.out.st (by omega) H5.out.two _ _ _ _ _ _).b⟩
        · have hM' : mst 90 (lk l0 5) = false := by simpa using hM
          have hmust := fun (W : World) (h : W.heap[w.heap.size + 1 + 1]? = some (.cells #[.string ⟨(lk l0 5).toArray⟩] 9 (0, 0))) => must_is (w.heap.size + 1 + 1) 90 90 rfl (lk l0 5) false hM' W (by omega) h
          have HM := Lib.hid hmust
          have hout : Hid (ofG false l (v) l0 = (Tm.zero, 11)) := by show _ = _; rw [← HY.out]; unfold ofG; rw [if_neg (by intro h; exact hM h.2.1)]
          clear hmust hM hM' hL
          go_wp2_with (first
            | (go_at_call 43; refine (HM.out _ H5.out.b).mono ?_; intro e w3 hP; have h3 := H5.out.clos hP; obtain ⟨rfl, -, -⟩ := hP; have H3 := Lib.hid h3; obtain ⟨t0, t1, t2, t3, t4, t5⟩ := six h3.t; obtain ⟨r0, r1, r2, r3, r4, r5⟩ := six h3.r; obtain ⟨q0, q1, q2, q3, q4, q5⟩ := free h3.r; clear h3))
          exact bodyPost_ret (ret26 rfl rfl (set6 H3.out.r _ _ _ _ _ _)) rfl ⟨by rw [hout.out]; rfl, (set6_st H3.out.st (by omega) H5.out.two _ _ _ _ _ _).b⟩
      · have hL' : ((l.length : Int) != 15) = true := by simp; omega
        have hout : Hid (ofG false l (v) l0 = (Tm.zero, 11)) := by show _ = _; rw [← HY.out]; unfold ofG; rw [if_neg (by intro h; exact hL h.1)]
        clear hL
        go_wp2
        exact bodyPost_ret (ret26 rfl rfl (set6 H5.out.r _ _ _ _ _ _)) rfl ⟨by rw [hout.out]; rfl, (set6_st H5.out.st (by omega) H5.out.two _ _ _ _ _ _).b⟩

end Go.Proofs.YtbncjjobdipmgaaDoor
