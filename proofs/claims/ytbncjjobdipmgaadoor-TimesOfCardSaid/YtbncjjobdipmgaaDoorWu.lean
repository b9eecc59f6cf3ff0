/- Chapter 10 (times): contracts at given answers; lives. -/
import Derived.Test.YtbncjjobdipmgaaDoorWo
import Derived.Test.YtbncjjobdipmgaaDoorWt
import Derived.Test.YtbncjjobdipmgaaDoorPn
namespace Go.Proofs.YtbncjjobdipmgaaDoor
open Go.RowKit Pl

theorem secs_inj {t u : Tm} (ht : t.ok = true) (hu : u.ok = true) (h : t.secs = u.secs) : t = u := by
  obtain ⟨y, mo, d, hh, mi, s⟩ := t
  obtain ⟨y', mo', d', hh', mi', s'⟩ := u
  have a := okB_bounds (show okB y mo d hh mi s = true from ht)
  have b := okB_bounds (show okB y' mo' d' hh' mi' s' = true from hu)
  have h1 : secs y mo d hh mi s = secs y' mo' d' hh' mi' s' := h
  rw [secs_eq, secs_eq] at h1
  have hd : dayN y mo d = dayN y' mo' d' := by omega
  obtain ⟨rfl, rfl, rfl⟩ := day_inj a.1 a.2.2.1 a.2.2.2.1 a.2.2.2.2.1 a.2.2.2.2.2.1 b.1 b.2.2.1 b.2.2.2.1 b.2.2.2.2.1 b.2.2.2.2.2.1 hd
  congr 1 <;> omega
theorem at_is (n : Int) (t : Tm) (ht : t.ok = true) (hn : t.secs = n) (w : World) (hT : Tabs w) : Calls Tryd.prog 30 #[.int .i64 n] w (TmP t 0 w) := by
  obtain ⟨y, mo, d, h, mi, s⟩ := t
  have a := okB_bounds (show okB y mo d h mi s = true from ht)
  have hs : secs y mo d h mi s = n := hn
  rw [secs_eq] at hs
  have hd := day_in a.1 a.2.2.1 a.2.2.2.1 a.2.2.2.2.1 a.2.2.2.2.2.1
  have h0 := dby_bd y a.1 (by omega)
  have hm := dby_mono (y + 1) 10000 (by omega) (by omega)
  rw [dby_max] at hm
  refine (at_yes n w hT (by omega) (by omega) (by omega) (by omega)).mono fun e w' ⟨u, hu, hs', hP⟩ => ?_
  rw [secs_inj ht hu (hn.trans hs'.symm)]
  exact hP
theorem leap_is (y : Int) (b : Bool) (hb : leapB y = b) (w : World) : Calls Tryd.prog 10 #[.int .i64 y] w fun e w' => e = .returned (.bool b) ∧ w = w' := by rw [← hb]; exact leap_any y w
theorem days_is (y m v : Int) (hv : dim y m = v) (w : World) (hT : Tabs w) : Calls Tryd.prog 12 #[.int .i64 y, .int .i64 m] w fun e w' => e = .returned (.int .i64 v) ∧ w = w' := by
  rw [← hv]; exact (days_any y m w hT).mono fun e w' ⟨a, b⟩ => ⟨a, b.symm⟩
theorem secs_is (y mo d h mi s v : Int) (hk : okB y mo d h mi s = true) (hv : secs y mo d h mi s = v) (w : World) (hT : Tabs w) :
    Calls Tryd.prog 18 #[.agg #[.int .i64 y, .int .i64 mo, .int .i64 d, .int .i64 h, .int .i64 mi, .int .i64 s]] w fun e w' => e = .returned (.int .i64 v) ∧ Below w.heap.size w w' := by
  have a := okB_bounds hk
  obtain ⟨M, rfl⟩ : ∃ M : Nat, mo = (M : Int) + 1 := ⟨(mo - 1).toNat, by omega⟩
  rw [← hv]
  have := seconds_ok y d h mi s M w hT hk
  unfold secs
  rw [show ((M : Int) + 1 - 1).toNat = M by omega]
  exact this
theorem elem_is (y mo d h mi s num : Int) (L : List UInt8) (hk : okB y mo d h mi s = true) (hn : elNum y = num) (hL : elL y mo d h mi s = L) (w : World) (hT : Tabs w) :
    Calls Tryd.prog 17 #[.agg #[.int .i64 y, .int .i64 mo, .int .i64 d, .int .i64 h, .int .i64 mi, .int .i64 s]] w (ElP num L w) := by
  rw [← hn, ← hL]; exact elem_ok y mo d h mi s w hT hk
theorem text_is (y mo d h mi s : Int) (L : List UInt8) (hk : okB y mo d h mi s = true) (hL : textL y mo d h mi s = L) (w : World) (hT : Tabs w) :
    Calls Tryd.prog 19 #[.agg #[.int .i64 y, .int .i64 mo, .int .i64 d, .int .i64 h, .int .i64 mi, .int .i64 s]] w fun e w' => e = .returned (.string ⟨L.toArray⟩) ∧ Below w.heap.size w w' := by
  rw [← hL]; exact text_ok y mo d h mi s w hT hk

def L1 : List UInt8 := [57, 57, 49, 50, 51, 49, 50, 51, 53, 57, 53, 57, 90]
def L2 : List UInt8 := [50, 48, 53, 48, 48, 49, 48, 49, 48, 48, 48, 48, 48, 48, 90]
theorem hL1 : elL 1999 12 31 23 59 59 = L1 := by
  unfold elL ek
  rw [dg4 1999 (by decide) (by decide), dg2 12 (by decide) (by decide), dg2 31 (by decide) (by decide), dg2 23 (by decide) (by decide), dg2 59 (by decide) (by decide)]
  decide
theorem hL2 : elL 2050 1 1 0 0 0 = L2 := by
  unfold elL ek
  rw [dg4 2050 (by decide) (by decide), dg2 1 (by decide) (by decide), dg2 0 (by decide) (by decide)]
  decide
def L3 : List UInt8 := [49, 57, 57, 57, 45, 49, 50, 45, 51, 49, 84, 50, 51, 58, 53, 57, 58, 53, 57, 90]
theorem hL3 : textL 1999 12 31 23 59 59 = L3 := by
  unfold textL
  rw [dg4 1999 (by decide) (by decide), dg2 12 (by decide) (by decide), dg2 31 (by decide) (by decide), dg2 23 (by decide) (by decide), dg2 59 (by decide) (by decide)]
  decide
theorem f1 : ofF 23 [53, 48, 48, 49, 48, 49, 48, 48, 48, 48, 48, 48, 90] = (⟨1950, 1, 1, 0, 0, 0⟩, 0) := by decide
theorem f2 : ofF 23 [52, 57, 48, 49, 48, 49, 48, 48, 48, 48, 48, 48, 90] = (⟨2049, 1, 1, 0, 0, 0⟩, 0) := by decide
theorem f3 : ofF 23 [57, 57, 48, 50, 50, 57, 48, 48, 48, 48, 48, 48, 90] = (Tm.zero, 11) := by decide
theorem f4 : ofF 24 [50, 48, 52, 57, 48, 49, 48, 49, 48, 48, 48, 48, 48, 48, 90] = (Tm.zero, 11) := by decide
theorem f5 : ofF 23 [57, 57, 49, 50, 51, 49, 50, 51, 53, 57, 90] = (Tm.zero, 11) := by decide
theorem f6 : parseF [50, 48, 50, 52, 45, 48, 50, 45, 51, 48, 84, 48, 48, 58, 48, 48, 58, 48, 48, 90] = (Tm.zero, 6) := by decide
theorem f7 : parseF [50, 48, 50, 52, 45, 48, 50, 45, 50, 57, 84, 50, 52, 58, 48, 48, 58, 48, 48, 90] = (Tm.zero, 6) := by decide
end Go.Proofs.YtbncjjobdipmgaaDoor
