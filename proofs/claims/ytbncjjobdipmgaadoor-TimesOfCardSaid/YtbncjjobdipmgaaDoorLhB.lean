/- Chapter 10 (times): the walk of the law TimesOf. -/
import Derived.Test.YtbncjjobdipmgaaDoorLhA
namespace Go.Proofs.YtbncjjobdipmgaaDoor
open Go.RowKit Pl

theorem app_bytes (a l : List UInt8) : (⟨a.toArray⟩ : ByteArray) ++ ⟨l.toArray⟩ = ⟨(a ++ l).toArray⟩ := by
  apply ByteArray.ext
  rw [ByteArray.data_append]
  simp
theorem idx0 (l : List UInt8) (h : l.length = 13) (W : World) : (Instr.index 9 (.string ⟨l.toArray⟩) (.int .i64 0)).run Tryd.prog W = .ok (.int .u8 ((l.getD 0 0).toNat : Int)) W := by
  match l, h with
  | b :: r, _ =>
    rw [run_index_string (P := Tryd.prog) (w := W) 9 ⟨(b :: r).toArray⟩ .i64 0 Tryd.underlying9, dif_pos ⟨by omega, by rw [bytes_size]; simp⟩]
    rfl
/-- What the reference's Of answers is what the program's answers. -/
theorem rof_any (num : Int) (hnum : num = 23 ∨ num = 24) (l : List UInt8) (a sa : Option Addr) (c sc : Nat) (w : World) (hT : Tabs w) (hl : l.length ≤ 60) (hc : Bytes a c l w) :
    Calls Tryd.prog 27 #[.agg #[.int .u8 0, .bool false, .int .u32 num, .slice a l.length c, .slice sa 0 sc]] w (TmP (ofF num l).1 (ofF num l).2 w) := by
  obtain ⟨t, ht⟩ : ∃ t, refE (wide num l) = t := ⟨_, rfl⟩
  have hp := of_ref hnum l t ht
  obtain ⟨y, mo, d, h, mi, s⟩ := t
  obtain ⟨e0, e1, e2, e3, e4, e5⟩ : numA (cut (wide num l) 0 4) 0 = y ∧ numA (cut (wide num l) 4 2) 0 = mo ∧ numA (cut (wide num l) 6 2) 0 = d ∧ numA (cut (wide num l) 8 2) 0 = h ∧ numA (cut (wide num l) 10 2) 0 = mi ∧ numA (cut (wide num l) 12 2) 0 = s := by
    have := ht
    unfold refE at this
    injection this with e0 e1 e2 e3 e4 e5
    exact ⟨e0, e1, e2, e3, e4, e5⟩
  have D := fun a n (hn : n ≤ 4) => num_cut (wide num l) a n hn
  have D0 := D 0 4 (by omega); rw [e0] at D0
  have D1 := D 4 2 (by omega); rw [e1] at D1
  have D2 := D 6 2 (by omega); rw [e2] at D2
  have D3 := D 8 2 (by omega); rw [e3] at D3
  have D4 := D 10 2 (by omega); rw [e4] at D4
  have D5 := D 12 2 (by omega); rw [e5] at D5
  clear D e0 e1 e2 e3 e4 e5 ht
  have hszl : (⟨l.toArray⟩ : ByteArray).size = l.length := bytes_size l
  have hnu : ∃ B : Bool, (B = false ∧ (⟨(wide num l).toArray⟩ : ByteArray) = ⟨l.toArray⟩ ∧ (num = 24 ∨ (num = 23 ∧ (((⟨l.toArray⟩ : ByteArray).size : Int) == 13) = false))) ∨
      (B = true ∧ num = 23 ∧ (((⟨l.toArray⟩ : ByteArray).size : Int) == 13) = true ∧ ∃ b0 : UInt8, (∀ W : World, (Instr.index 9 (.string ⟨l.toArray⟩) (.int .i64 0)).run Tryd.prog W = .ok (.int .u8 (b0.toNat : Int)) W) ∧ ((decide ((b0.toNat : Int) < 53) = true ∧ (⟨(wide num l).toArray⟩ : ByteArray) = (⟨#[50, 48]⟩ : ByteArray) ++ ⟨l.toArray⟩) ∨ (decide ((b0.toNat : Int) < 53) = false ∧ (⟨(wide num l).toArray⟩ : ByteArray) = (⟨#[49, 57]⟩ : ByteArray) ++ ⟨l.toArray⟩))) := by
    by_cases hw : num = 23 ∧ l.length = 13
    · refine ⟨true, .inr ⟨rfl, hw.1, by rw [hszl, hw.2]; rfl, l.getD 0 0, idx0 l hw.2, ?_⟩⟩
      unfold wide
      rw [if_pos hw]
      by_cases hb : (l.getD 0 0).toNat < 53
      · exact .inl ⟨decide_eq_true (by omega), by rw [if_pos hb]; exact (app_bytes [50, 48] l).symm⟩
      · exact .inr ⟨decide_eq_false (by omega), by rw [if_neg hb]; exact (app_bytes [49, 57] l).symm⟩
    · refine ⟨false, .inl ⟨rfl, by unfold wide; rw [if_neg hw], ?_⟩⟩
      rcases hnum with rfl | rfl
      · refine .inr ⟨rfl, ?_⟩
        rw [hszl]
        simp only [true_and] at hw
        simp; omega
      · exact .inl rfl
  obtain ⟨B, hnu⟩ := hnu
  have hsw : (⟨(wide num l).toArray⟩ : ByteArray).size = (wide num l).length := bytes_size _
  have gen := fun r err o0 o1 o2 o3 o4 o5 tg tx => rof_gen B num y mo d h mi s r err o0 o1 o2 o3 o4 o5 tg l.length ⟨l.toArray⟩ ⟨(wide num l).toArray⟩ ⟨(cut (wide num l) 0 4).toArray⟩ ⟨(cut (wide num l) 4 2).toArray⟩ ⟨(cut (wide num l) 6 2).toArray⟩ ⟨(cut (wide num l) 8 2).toArray⟩ ⟨(cut (wide num l) 10 2).toArray⟩ ⟨(cut (wide num l) 12 2).toArray⟩ tx a sa c sc w hT hszl hl hc hnu
    (fun h15 => by
      rw [hsw] at h15
      exact ⟨cut_run0 (wide num l) 4 (by omega) 4 rfl, cut_run (wide num l) 4 2 (by omega) 4 6 rfl rfl, cut_run (wide num l) 6 2 (by omega) 6 8 rfl rfl, cut_run (wide num l) 8 2 (by omega) 8 10 rfl rfl, cut_run (wide num l) 10 2 (by omega) 10 12 rfl rfl, cut_run (wide num l) 12 2 (by omega) 12 14 rfl rfl⟩) D0 D1 D2 D3 D4 D5
  by_cases h15 : (wide num l).length = 15
  · have h15' := hsw.trans h15
    by_cases hk : okB y mo d h mi s = true
    · have H14 := fun W hW => rcheck_ok hk W hW
      have H21 := fun W => relem_ok y mo d h mi s W hk
      by_cases hn : elNum y = num
      · by_cases hx : elL y mo d h mi s = l
        · rw [if_pos ⟨h15, hk, hn, hx⟩] at hp
          rw [hp]
          rw [hx] at H21
          exact gen 0 0 y mo d h mi s _ _ H14 (.inr ⟨h15', .inr ⟨rfl, H21, .inr (.inr ⟨hn, rfl, rfl, rfl, rfl, rfl, rfl, rfl, rfl⟩)⟩⟩)
        · rw [if_neg (fun h => hx h.2.2.2)] at hp
          rw [hp]
          exact gen 0 11 0 0 0 0 0 0 _ _ H14 (.inr ⟨h15', .inr ⟨rfl, H21, .inr (.inl ⟨hn, bne_list hx, rfl, rfl, rfl, rfl, rfl, rfl, rfl⟩)⟩⟩)
      · rw [if_neg (fun h => hn h.2.2.1)] at hp
        rw [hp]
        exact gen 0 11 0 0 0 0 0 0 _ _ H14 (.inr ⟨h15', .inr ⟨rfl, H21, .inl ⟨hn, rfl, rfl, rfl, rfl, rfl, rfl, rfl⟩⟩⟩)
    · rw [if_neg (fun h => hk h.2.1)] at hp
      rw [hp]
      have H14 := fun W hW => rcheck_no (show okB y mo d h mi s = false by simpa using hk) W hW
      exact gen 1 11 0 0 0 0 0 0 0 ⟨#[]⟩ H14 (.inr ⟨h15', .inl ⟨rfl, rfl, rfl, rfl, rfl, rfl, rfl, rfl⟩⟩)
  · rw [if_neg (fun h => h15 h.1)] at hp
    rw [hp]
    have hne : (((⟨(wide num l).toArray⟩ : ByteArray).size : Int) == 15) = false := by rw [hsw]; simp; omega
    have h14 : ∃ r : Int, ∀ W, Tabs W → Calls Tryd.prog 14 #[.agg #[.int .i64 y, .int .i64 mo, .int .i64 d, .int .i64 h, .int .i64 mi, .int .i64 s]] W fun e w' => e = .returned (.int .i64 r) ∧ Below W.heap.size W w' := by
      by_cases hk : okB y mo d h mi s = true
      · exact ⟨0, fun W hW => rcheck_ok hk W hW⟩
      · exact ⟨1, fun W hW => rcheck_no (show okB y mo d h mi s = false by simpa using hk) W hW⟩
    obtain ⟨r, H14⟩ := h14
    exact gen r 11 0 0 0 0 0 0 0 ⟨#[]⟩ H14 (.inl ⟨hne, rfl, rfl, rfl, rfl, rfl, rfl, rfl⟩)

set_option maxHeartbeats 4000000 in
theorem tof_long (cl nu : Int) (co : Bool) (n c sn sc : Nat) (a sa : Option Addr) (w : World) (hT : Tabs w) (g : decide (60 < (n : Int)) = true) :
    Calls Tryd.prog 5 #[.agg #[.int .u8 cl, .bool co, .int .u32 nu, .slice a n c, .slice sa sn sc]] w fun e w' => e = .returned (.bool true) ∧ Below w.heap.size w w' := by
  have S0 := Lib.hid ((St.refl hT).alloc (.cells #[.int .u8 cl, .bool co, .int .u32 nu, .slice a n c, .slice sa sn sc] 37))
  go_enter Tryd.func5, Tryd.ntmps5
  go_wp2_with (go_at_call 16; refine (lives_yes _ S0.out.t).mono ?_; rintro e w1 ⟨rfl, hb⟩; have S1 := Lib.hid (S0.out.next hb); clear hb)
  go_ret
  exact ⟨rfl, S1.out.b⟩
set_option maxHeartbeats 8000000 in
theorem tof_short (cl nu y mo d h mi s f : Int) (co : Bool) (n c sn sc : Nat) (a sa : Option Addr) (w : World) (hT : Tabs w) (g : decide (60 < (n : Int)) = false)
    (H26 : Hid (∀ W, St w W → Calls Tryd.prog 26 #[.agg #[.int .u8 cl, .bool co, .int .u32 nu, .slice a n c, .slice sa sn sc]] W fun e w' => e = .returned (.tuple #[.agg #[.int .i64 y, .int .i64 mo, .int .i64 d, .int .i64 h, .int .i64 mi, .int .i64 s], .int .i64 f]) ∧ Below W.heap.size W w'))
    (H27 : Hid (∀ W, St w W → Calls Tryd.prog 27 #[.agg #[.int .u8 cl, .bool co, .int .u32 nu, .slice a n c, .slice sa sn sc]] W fun e w' => e = .returned (.tuple #[.agg #[.int .i64 y, .int .i64 mo, .int .i64 d, .int .i64 h, .int .i64 mi, .int .i64 s], .int .i64 f]) ∧ Below W.heap.size W w')) :
    Calls Tryd.prog 5 #[.agg #[.int .u8 cl, .bool co, .int .u32 nu, .slice a n c, .slice sa sn sc]] w fun e w' => e = .returned (.bool true) ∧ Below w.heap.size w w' := by
  have S0 := Lib.hid ((St.refl hT).alloc (.cells #[.int .u8 cl, .bool co, .int .u32 nu, .slice a n c, .slice sa sn sc] 37))
  have E0 := Lib.hid (blk_new w (.cells #[.int .u8 cl, .bool co, .int .u32 nu, .slice a n c, .slice sa sn sc] 37))
  go_enter Tryd.func5, Tryd.ntmps5
  go_wp2_with (first
    | (go_at_call 26; refine (H26.out _ S0.out).mono ?_; rintro e w1 ⟨rfl, hb⟩; have S1 := Lib.hid ((S0.out.next hb).alloc (.cells #[.int .i64 y, .int .i64 mo, .int .i64 d, .int .i64 h, .int .i64 mi, .int .i64 s] 23)); have hE := blk_alloc (blk_below E0.out hb) (.cells #[.int .i64 y, .int .i64 mo, .int .i64 d, .int .i64 h, .int .i64 mi, .int .i64 s] 23); obtain ⟨e0, e1, e2, e3, e4⟩ := five hE; have U1 := Lib.hid (blk_new w1 (.cells #[.int .i64 y, .int .i64 mo, .int .i64 d, .int .i64 h, .int .i64 mi, .int .i64 s] 23)); clear hb hE)
    | (go_at_call 27; refine (H27.out _ S1.out).mono ?_; rintro e w2 ⟨rfl, hb⟩; have S2 := Lib.hid ((S1.out.next hb).alloc (.cells #[.int .i64 y, .int .i64 mo, .int .i64 d, .int .i64 h, .int .i64 mi, .int .i64 s] 23)); have hU := blk_below U1.out hb; obtain ⟨u0, u1, u2, u3, u4, u5⟩ := six hU; have hlt := cell_lt u0; clear hb hU)
    | (go_at_call 16; refine (lives_yes _ S2.out.t).mono ?_; rintro e w3 ⟨rfl, hb⟩; have S3 := Lib.hid (S2.out.next hb); clear hb))
  go_ret
  exact ⟨rfl, S3.out.b⟩
theorem Bytes.next {a : Option Addr} {c : Nat} {l : List UInt8} {w W : World} (h : Bytes a c l w) (hb : Below w.heap.size w W) : Bytes a c l W := fun W' hW => h W' (hb.trans (hW.mono hb.size))
theorem tof_walk (cl nu : Int) (co : Bool) (l : List UInt8) (c sn sc : Nat) (a sa : Option Addr) (w : World) (hT : Tabs w) (hc : Bytes a c l w) :
    Calls Tryd.prog 5 #[.agg #[.int .u8 cl, .bool co, .int .u32 nu, .slice a l.length c, .slice sa sn sc]] w fun e w' => e = .returned (.bool true) ∧ Below w.heap.size w w' := by
  by_cases h60 : 60 < l.length
  · exact tof_long cl nu co l.length c sn sc a sa w hT (decide_eq_true (by omega))
  · have g : decide (60 < (l.length : Int)) = false := decide_eq_false (by omega)
    by_cases hk : cl = 0 ∧ co = false ∧ (nu = 23 ∨ nu = 24)
    · obtain ⟨rfl, rfl, hn⟩ := hk
      by_cases hs : sn = 0
      · subst hs
        have H26 : ∀ W, St w W → Calls Tryd.prog 26 #[.agg #[.int .u8 0, .bool false, .int .u32 nu, .slice a l.length c, .slice sa 0 sc]] W (TmP (ofF nu l).1 (ofF nu l).2 W) := fun W hW => by
          rcases hn with rfl | rfl
          · exact of23 l a sa c sc W hW.t (by omega) (hc.next hW.b)
          · exact of24 l a sa c sc W hW.t (by omega) (hc.next hW.b)
        have H27 : ∀ W, St w W → Calls Tryd.prog 27 #[.agg #[.int .u8 0, .bool false, .int .u32 nu, .slice a l.length c, .slice sa 0 sc]] W (TmP (ofF nu l).1 (ofF nu l).2 W) := fun W hW => rof_any nu hn l a sa c sc W hW.t (by omega) (hc.next hW.b)
        generalize (ofF nu l).1 = t at *
        generalize (ofF nu l).2 = f at *
        obtain ⟨y, mo, d, h, mi, s⟩ := t
        exact tof_short 0 nu y mo d h mi s f false l.length c 0 sc a sa w hT g H26 H27
      · exact tof_short 0 nu 0 0 0 0 0 0 1 false l.length c sn sc a sa w hT g (fun W _ => of_sub nu hn l.length c sn sc a sa W (by omega)) (fun W hW => rof_sub nu hn l.length c sn sc a sa W hW.t (by omega))
    · have ho : OddTag cl co nu := by
        by_cases h0 : cl = 0
        · cases co with
          | true => exact .inr (.inl ⟨h0, rfl⟩)
          | false => exact .inr (.inr ⟨h0, rfl, fun e => hk ⟨h0, rfl, .inl e⟩, fun e => hk ⟨h0, rfl, .inr e⟩⟩)
        · exact .inl h0
      exact tof_short cl nu 0 0 0 0 0 0 9 co l.length c sn sc a sa w hT g (fun W _ => of_tag cl nu co l.length c sn sc a sa W ho) (fun W hW => rof_tag cl nu co l.length c sn sc a sa W hW.t ho)
end Go.Proofs.YtbncjjobdipmgaaDoor
