/- Chapter 2 (tags): Parse of any string; Size, same, read. -/
import Derived.Test.YtpdomckacfeffaaDoorWe
namespace Go.Proofs.YtpdomckacfeffaaDoor
open Go.RowKit Go.Shelf
open Go.Proofs.YtpdomckacfeffaaDoorW.PrintWords (blk_new blk_below blk_cell blk_alloc blk_lt blk_frozen blk_drew blk_set)

/-- The number of a class's name, or -1. -/
def cidx (c : List UInt8) : Int := if cname 0 = c then 0 else if cname 1 = c then 1 else if cname 2 = c then 2 else if cname 3 = c then 3 else -1
def names : List ByteArray := [⟨(cname 0).toArray⟩, ⟨(cname 1).toArray⟩, ⟨(cname 2).toArray⟩, ⟨(cname 3).toArray⟩]
theorem bytes_inj {a b : List UInt8} : ((⟨a.toArray⟩ : ByteArray) = ⟨b.toArray⟩) ↔ a = b := by
  constructor
  · intro h
    have := congrArg (fun x : ByteArray => x.data.toList) h
    simpa using this
  · intro h; rw [h]
theorem idx_names (c : List UInt8) : Lib.idxOfS (names.take 4) ⟨c.toArray⟩ = cidx c := by
  show Lib.idxFromS names ⟨c.toArray⟩ 0 = cidx c
  unfold names cidx Lib.idxFromS Lib.idxFromS Lib.idxFromS Lib.idxFromS Lib.idxFromS
  simp only [bytes_inj]
  rfl
theorem cidx_bd (c : List UInt8) : cidx c = -1 ∨ (0 ≤ cidx c ∧ cidx c ≤ 3 ∧ cname (cidx c) = c) := by
  unfold cidx
  by_cases h0 : cname 0 = c
  · rw [if_pos h0]; exact .inr ⟨by omega, by omega, h0⟩
  · rw [if_neg h0]
    by_cases h1 : cname 1 = c
    · rw [if_pos h1]; exact .inr ⟨by omega, by omega, h1⟩
    · rw [if_neg h1]
      by_cases h2 : cname 2 = c
      · rw [if_pos h2]; exact .inr ⟨by omega, by omega, h2⟩
      · rw [if_neg h2]
        by_cases h3 : cname 3 = c
        · rw [if_pos h3]; exact .inr ⟨by omega, by omega, h3⟩
        · rw [if_neg h3]; exact .inl rfl
def pbase (l : List UInt8) : List UInt8 := Lib.trimSuffix l sfx
def pcls (l : List UInt8) : List UInt8 := (Lib.cut (pbase l) [32]).1
def pdig (l : List UInt8) : List UInt8 := (Lib.cut (pbase l) [32]).2.1
/-- What Parse returns: a tag and 0, or the error. -/
def prs (l : List UInt8) : (Int × Bool × Int) × Int :=
  match Lib.atoiAll (pdig l) with
  | .ok n => if cidx (pcls l) < 0 ∨ n < 0 ∨ 268435455 < n ∨ Lib.itoa n ≠ pdig l then ((0, false, 0), 6)
      else if chk (cidx (pcls l)) (Lib.hasSuffix l sfx) n = 0 then ((cidx (pcls l), Lib.hasSuffix l sfx, n), 0) else ((0, false, 0), chk (cidx (pcls l)) (Lib.hasSuffix l sfx) n)
  | _ => ((0, false, 0), 6)
theorem below_bytes (w : World) (e : TypeId) (s : ByteArray) : Below w.heap.size w (Lib.bytesWorld w e s) := ⟨rfl, rfl, rfl, by rw [Lib.bytesWorld_size]; exact Nat.le_succ _, fun k hk => Lib.bytesWorld_at_old w e s k hk⟩
theorem trim_le (l p : List UInt8) : (Lib.trimSuffix l p).length ≤ l.length := by
  unfold Lib.trimSuffix; split
  · rw [List.length_take]; omega
  · omega
theorem cut_le (l p : List UInt8) : (Lib.cut l p).1.length ≤ l.length ∧ (Lib.cut l p).2.1.length ≤ l.length := by
  unfold Lib.cut; split
  · exact ⟨by simp; omega, by simp⟩
  · exact ⟨Nat.le_refl _, by simp⟩
theorem atoi_iface (dg : List UInt8) (hl : dg.length ≤ 1000000) (h : ∀ v, Lib.atoiAll dg ≠ .ok v) :
    ∃ n : Int, ∀ w, Tabs w → Calls Tryd.prog 32 #[.string ⟨dg.toArray⟩] w fun e w' => ∃ N, e = .returned (.tuple #[.int .i64 n, .iface 93 (.pointer (some ⟨N, 0, none⟩))]) ∧ Below w.heap.size w w' := by
  by_cases hc : Lib.atoiAll dg = .range
  · refine ⟨Lib.atoiSat dg, fun w hT => ?_⟩
    obtain ⟨u, q, her⟩ := hT.er
    refine (Tryd.strconv_Atoi_range ⟨dg.toArray⟩ (by rw [size_list]; omega) (by simpa using hc) _ w her (.inr ⟨u, q, rfl⟩)).mono ?_
    rintro e w' ⟨N, rfl, _, _, hb⟩
    exact ⟨N, by simp, hb⟩
  · refine ⟨0, fun w hT => ?_⟩
    obtain ⟨t, p, hes⟩ := hT.es
    refine (Tryd.strconv_Atoi_syntax ⟨dg.toArray⟩ (by rw [size_list]; omega) (by simpa using h) (by simpa using hc) _ w hes (.inr ⟨t, p, rfl⟩)).mono ?_
    rintro e w' ⟨N, rfl, _, _, hb⟩
    exact ⟨N, rfl, hb⟩
theorem atoi_fine (dg : List UInt8) (hl : dg.length ≤ 1000000) (n : Int) (h : Lib.atoiAll dg = .ok n) (w : World) :
    Calls Tryd.prog 32 #[.string ⟨dg.toArray⟩] w fun e w' => e = .returned (.tuple #[.int .i64 n, .nilIface]) ∧ Below w.heap.size w w' := by
  refine (Tryd.strconv_Atoi_ok ⟨dg.toArray⟩ (by rw [size_list]; omega) n (by simpa using h) w).mono ?_
  rintro e w' ⟨rfl, rfl | ⟨t, rfl⟩⟩
  · exact ⟨rfl, Below.refl _ _⟩
  · exact ⟨rfl, below_bytes _ _ _⟩
theorem bne_list {a b : List UInt8} (h : a ≠ b) : ((⟨a.toArray⟩ : ByteArray).toList == (⟨b.toArray⟩ : ByteArray).toList) = false := by
  rw [ByteArray.toList_mk, ByteArray.toList_mk]
  exact beq_false_of_ne h
def prP (p : (Int × Bool × Int) × Int) (w : World) (e : Ending) (w' : World) : Prop := e = .returned (.tuple #[.agg #[.int .u8 p.1.1, .bool p.1.2.1, .int .u32 p.1.2.2], .int .i64 p.2]) ∧ Below w.heap.size w w'
/-- PARSE, of any string. -/
theorem parse_any (l : List UInt8) (hl : l.length ≤ 1000000) (w : World) (hT : Tabs w) : Calls Tryd.prog 17 #[.string ⟨l.toArray⟩] w (prP (prs l) w) := by
  have hb : (pbase l).length ≤ 1000000 := Nat.le_trans (trim_le l sfx) hl
  have hd : (pdig l).length ≤ 1000000 := Nat.le_trans (cut_le _ _).2 hb
  have H29 : ∀ w, Calls Tryd.prog 29 #[.string ⟨l.toArray⟩, .string ⟨#[32, 99, 111, 110, 115, 116, 114, 117, 99, 116, 101, 100]⟩] w fun e w' => e = .returned (.tuple #[.string ⟨(pbase l).toArray⟩, .bool (Lib.hasSuffix l sfx)]) ∧ w' = w := fun w => by
    have := Tryd.strings_CutSuffix ⟨l.toArray⟩ ⟨sfx.toArray⟩ w (by rw [size_list]; omega)
    exact this
  have H30 : ∀ w, Tabs w → Calls Tryd.prog 30 #[.string ⟨(pbase l).toArray⟩, .string ⟨#[32]⟩] w fun e w' => e = .returned (.tuple #[.string ⟨(pcls l).toArray⟩, .string ⟨(pdig l).toArray⟩, .bool (Lib.cut (pbase l) [32]).2.2]) ∧ ∃ m, w' = w.drewN m := fun w hw => by
    obtain ⟨m, hm⟩ := hw.ml
    have := Tryd.strings_Cut ⟨(pbase l).toArray⟩ ⟨([32] : List UInt8).toArray⟩ m w (by rw [size_list]; omega) hm
    exact this
  have H31 : ∀ w, Tabs w → Calls Tryd.prog 31 #[.slice (some ⟨0, 0, none⟩) 4 4, .string ⟨(pcls l).toArray⟩] w fun e w' => e = .returned (.int .i64 (cidx (pcls l))) ∧ w' = w := fun w hw => by
    have := Tryd.slices_Index_string 0 0 4 4 names ⟨(pcls l).toArray⟩ w (by decide) (by decide) (fun j hj => by
      have h4 : j < 4 := hj
      have := hw.cls j h4
      rw [Nat.zero_add, this]
      match j, h4 with
      | 0, _ => rfl
      | 1, _ => rfl
      | 2, _ => rfl
      | 3, _ => rfl)
    rwa [idx_names] at this
  have gen := fun it n r o0 o2 err o1 => parse_gen ⟨l.toArray⟩ ⟨(pbase l).toArray⟩ ⟨(pcls l).toArray⟩ ⟨(pdig l).toArray⟩ it (Lib.hasSuffix l sfx) (Lib.cut (pbase l) [32]).2.2 (cidx (pcls l)) n r o0 o2 err o1 w hT H29 H30 H31
  unfold prP prs
  by_cases ha : ∀ v, Lib.atoiAll (pdig l) ≠ .ok v
  · obtain ⟨n, H32⟩ := atoi_iface (pdig l) hd ha
    have hm : (match Lib.atoiAll (pdig l) with
      | .ok n => if cidx (pcls l) < 0 ∨ n < 0 ∨ 268435455 < n ∨ Lib.itoa n ≠ pdig l then (((0, false, 0), 6) : (Int × Bool × Int) × Int)
        else if chk (cidx (pcls l)) (Lib.hasSuffix l sfx) n = 0 then ((cidx (pcls l), Lib.hasSuffix l sfx, n), 0) else ((0, false, 0), chk (cidx (pcls l)) (Lib.hasSuffix l sfx) n)
      | _ => ((0, false, 0), 6)) = ((0, false, 0), 6) := by
      split
      · rename_i v hv; exact absurd hv (ha v)
      · rfl
    rw [hm]
    by_cases hk : cidx (pcls l) < 0
    · exact gen ⟨#[]⟩ n 0 0 0 6 false (.inl ⟨hk, rfl, rfl, rfl, rfl, fun w hw => (H32 w hw).mono fun e w' ⟨N, he, hb⟩ => ⟨_, he, hb⟩⟩)
    · exact gen ⟨#[]⟩ n 0 0 0 6 false (.inr (.inl ⟨by omega, rfl, rfl, rfl, rfl, H32⟩))
  · obtain ⟨n, hn⟩ : ∃ n, Lib.atoiAll (pdig l) = .ok n := by
      apply Classical.byContradiction
      intro h
      exact ha fun v hv => h ⟨v, hv⟩
    rw [hn]
    simp only
    have H32 := fun w => atoi_fine (pdig l) hd n hn w
    by_cases hk : cidx (pcls l) < 0
    · rw [if_pos (.inl hk)]
      exact gen ⟨#[]⟩ n 0 0 0 6 false (.inl ⟨hk, rfl, rfl, rfl, rfl, fun w hw => (H32 w).mono fun e w' ⟨he, hb⟩ => ⟨_, he, hb⟩⟩)
    · have hk4 : cidx (pcls l) < 4 := by rcases cidx_bd (pcls l) with h | h <;> omega
      by_cases h1 : n < 0
      · rw [if_pos (.inr (.inl h1))]
        exact gen ⟨#[]⟩ n 0 0 0 6 false (.inr (.inr ⟨by omega, hk4, fun w _ => H32 w, .inl ⟨h1, rfl, rfl, rfl, rfl⟩⟩))
      · by_cases h2 : 268435455 < n
        · rw [if_pos (.inr (.inr (.inl h2)))]
          exact gen ⟨#[]⟩ n 0 0 0 6 false (.inr (.inr ⟨by omega, hk4, fun w _ => H32 w, .inr (.inl ⟨h2, rfl, rfl, rfl, rfl⟩)⟩))
        · have H28 := fun w hw => itoa_any n (by omega) (by omega) w hw
          by_cases h3 : Lib.itoa n = pdig l
          · rw [if_neg (by intro h; rcases h with h | h | h | h <;> contradiction)]
            rw [h3] at H28
            have H21 := fun w => check_any (cidx (pcls l)) (Lib.hasSuffix l sfx) n w
            by_cases h4 : chk (cidx (pcls l)) (Lib.hasSuffix l sfx) n = 0
            · rw [if_pos h4]
              rw [h4] at H21
              exact gen _ n 0 _ _ 0 _ (.inr (.inr ⟨by omega, hk4, fun w _ => H32 w, .inr (.inr ⟨by omega, by omega, H28, .inr ⟨rfl, H21, .inr ⟨rfl, rfl, rfl, rfl, rfl⟩⟩⟩)⟩))
            · rw [if_neg h4]
              exact gen _ n _ 0 0 _ false (.inr (.inr ⟨by omega, hk4, fun w _ => H32 w, .inr (.inr ⟨by omega, by omega, H28, .inr ⟨rfl, H21, .inl ⟨by simpa using h4, by simpa [bne] using h4, rfl, rfl, rfl, rfl⟩⟩⟩)⟩))
          · rw [if_pos (.inr (.inr (.inr h3)))]
            exact gen _ n 0 0 0 6 false (.inr (.inr ⟨by omega, hk4, fun w _ => H32 w, .inr (.inr ⟨by omega, by omega, H28, .inl ⟨bne_list h3, rfl, rfl, rfl, rfl⟩⟩)⟩))
end Go.Proofs.YtpdomckacfeffaaDoor
