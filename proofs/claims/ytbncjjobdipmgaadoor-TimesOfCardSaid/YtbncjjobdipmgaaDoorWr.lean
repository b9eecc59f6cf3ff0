/- Chapter 10 (times): the law's own helpers: is, of, parsed. -/
import Derived.Test.YtbncjjobdipmgaaDoorWj
import Derived.Test.YtbncjjobdipmgaaDoorWk
import Derived.Test.YtbncjjobdipmgaaDoorWl
import Derived.Test.YtbncjjobdipmgaaDoorWm
import Derived.Test.YtbncjjobdipmgaaDoorWn
import Derived.Test.YtbncjjobdipmgaaDoorWp
namespace Go.Proofs.YtbncjjobdipmgaaDoor
open Go.RowKit Pl

theorem rdv_bd (many : Nat) (l : List UInt8) : rdv many l = -1 ∨ (0 ≤ rdv many l ∧ rdv many l + 1 ≤ 10 ^ many) := by
  unfold rdv
  split
  · left; rfl
  · rcases numA_bd (l.take many) 0 (by omega) with h | ⟨h0, h1⟩
    · left; exact h
    · right
      refine ⟨h0, ?_⟩
      rw [List.length_take, show min many l.length = many by omega] at h1
      omega
/-- What Of answers to an UTCTime's bytes; to a general time's. -/
def adj (v : Int) : Int := if v < 0 then v else if v < 50 then v + 1900 + 100 else v + 1900
def ofU (l : List UInt8) : Tm × Int := ofG true l (adj (rdv 2 l)) (rdr 2 l)
def ofN (l : List UInt8) : Tm × Int := ofG false l (rdv 4 l) (rdr 4 l)
def ofF (num : Int) (l : List UInt8) : Tm × Int := if num = 23 then ofU l else ofN l

/-- The bytes of a slice at W and wherever nothing below has turned. -/
def Bytes (a : Option Addr) (c : Nat) (l : List UInt8) (w : World) : Prop := ∀ W : World, Below w.heap.size w W → (convert 34 9 (.slice a l.length c)).run Tryd.prog W = .ok (.string ⟨l.toArray⟩) W

theorem of23 (l : List UInt8) (a sa : Option Addr) (c sc : Nat) (w : World) (hT : Tabs w) (hlen : l.length ≤ 1000000) (hc : Bytes a c l w) :
    Calls Tryd.prog 26 #[.agg #[.int .u8 0, .bool false, .int .u32 23, .slice a l.length c, .slice sa 0 sc]] w (TmP (ofU l).1 (ofU l).2 w) := by
  have hl' := Nat.le_trans (rdr_len 2 l) hlen
  have hb := rdv_bd 2 l
  rcases (show rdv 2 l < 0 ∨ (0 ≤ rdv 2 l ∧ rdv 2 l < 50) ∨ (50 ≤ rdv 2 l ∧ rdv 2 l ≤ 99) by omega) with h | ⟨h, h'⟩ | ⟨h, h'⟩
  · have := of_utc0 l (rdr 2 l) (rdv 2 l) a sa c sc w hT hlen rfl rfl hl' h hc
    unfold ofU adj
    rwa [if_pos h]
  · have := of_utc1 l (rdr 2 l) (rdv 2 l) a sa c sc w hT hlen rfl rfl hl' h h' hc
    unfold ofU adj
    rwa [if_neg (by omega), if_pos h']
  · have := of_utc2 l (rdr 2 l) (rdv 2 l) a sa c sc w hT hlen rfl rfl hl' h h' hc
    unfold ofU adj
    rwa [if_neg (by omega), if_neg (by omega)]
theorem of24 (l : List UInt8) (a sa : Option Addr) (c sc : Nat) (w : World) (hT : Tabs w) (hlen : l.length ≤ 1000000) (hc : Bytes a c l w) :
    Calls Tryd.prog 26 #[.agg #[.int .u8 0, .bool false, .int .u32 24, .slice a l.length c, .slice sa 0 sc]] w (TmP (ofN l).1 (ofN l).2 w) :=
  of_gen l (rdr 4 l) (rdv 4 l) a sa c sc w hT hlen rfl rfl (Nat.le_trans (rdr_len 4 l) hlen) hc

def parseF (l : List UInt8) : Tm × Int := parseG l (rdv 4 l) (mst 45 (rdr 4 l)) (msr 45 (rdr 4 l))
theorem parse_any (l : List UInt8) (w : World) (hT : Tabs w) (hlen : l.length ≤ 1000000) : Calls Tryd.prog 36 #[.string ⟨l.toArray⟩] w (TmP (parseF l).1 (parseF l).2 w) :=
  parse_gen l (rdr 4 l) (msr 45 (rdr 4 l)) (rdv 4 l) (mst 45 (rdr 4 l)) w hT hlen (Nat.le_trans (rdr_len 4 l) hlen) (Nat.le_trans (msr_len _ _) (Nat.le_trans (rdr_len 4 l) hlen)) rfl rfl rfl rfl

theorem bytes_world (w : World) (l : List UInt8) : Bytes (some ⟨w.heap.size, 0, none⟩) (grownCap w l.length 0 5) l (Lib.bytesWorld w 5 ⟨l.toArray⟩) := by
  intro W hb
  refine run_convert_bytes_back W 34 9 5 ⟨w.heap.size, 0, none⟩ _ l Tryd.underlying34 Tryd.underlying5 Tryd.underlying9 fun j hj => ?_
  have h1 := Lib.bytesWorld_cell w 5 ⟨l.toArray⟩ j (by rw [bytes_size]; exact hj)
  have h2 : W.cell? ⟨w.heap.size, j, none⟩ = (Lib.bytesWorld w 5 ⟨l.toArray⟩).cell? ⟨w.heap.size, j, none⟩ := hb.cell (p := ⟨w.heap.size, j, none⟩) (by rw [Lib.bytesWorld_size]; exact Nat.lt_succ_self _)
  rw [Lib.add_plain, Nat.zero_add, h2, h1, List.getD, List.getElem?_eq_getElem hj]
  rfl

theorem parsed_yes (l : List UInt8) (t : Tm) (f : Int) (w : World) (hT : Tabs w) (hl : l.length ≤ 1000000) (hp : parseF l = (t, f)) :
    Calls Tryd.prog 25 #[.string ⟨l.toArray⟩, t.val, .int .i64 f] w fun e w' => e = .returned (.bool true) ∧ Below w.heap.size w w' := by
  obtain ⟨y, mo, d, h, mi, s⟩ := t
  show Calls Tryd.prog 25 #[.string ⟨l.toArray⟩, .agg #[.int .i64 y, .int .i64 mo, .int .i64 d, .int .i64 h, .int .i64 mi, .int .i64 s], .int .i64 f] w _
  have hS := Lib.hid ((St.refl hT).alloc (.cells #[.int .i64 y, .int .i64 mo, .int .i64 d, .int .i64 h, .int .i64 mi, .int .i64 s] 23))
  have H' : Hid (∀ w, Tabs w → Calls Tryd.prog 36 #[.string ⟨l.toArray⟩] w fun e w' => e = .returned (.tuple #[.agg #[.int .i64 y, .int .i64 mo, .int .i64 d, .int .i64 h, .int .i64 mi, .int .i64 s], .int .i64 f]) ∧ Below w.heap.size w w') := fun w hT => by
    have := parse_any l w hT hl
    rw [hp] at this
    exact this
  clear hp
  go_enter Tryd.func25, Tryd.ntmps25
  go_wp2_with (go_at_call 36; refine (H'.out _ hS.out.t).mono ?_; rintro e w1 ⟨rfl, hb⟩; have hS1 := hS.out.next hb; have h6 := six_new hb hT; obtain ⟨c0, c1, c2, c3, c4, c5, -⟩ := h6; have hlt := cell_lt c0)
  go_ret
  exact ⟨rfl, (hS1.alloc _).b⟩

theorem of_yes (num : Int) (hnum : num = 23 ∨ num = 24) (l : List UInt8) (t : Tm) (f : Int) (w : World) (hT : Tabs w) (hl : l.length ≤ 1000000) (hp : ofF num l = (t, f)) :
    Calls Tryd.prog 23 #[.int .u32 num, .string ⟨l.toArray⟩, t.val, .int .i64 f] w fun e w' => e = .returned (.bool true) ∧ Below w.heap.size w w' := by
  obtain ⟨y, mo, d, h, mi, s⟩ := t
  show Calls Tryd.prog 23 #[.int .u32 num, .string ⟨l.toArray⟩, .agg #[.int .i64 y, .int .i64 mo, .int .i64 d, .int .i64 h, .int .i64 mi, .int .i64 s], .int .i64 f] w _
  have hS := Lib.hid ((St.refl hT).alloc (.cells #[.int .i64 y, .int .i64 mo, .int .i64 d, .int .i64 h, .int .i64 mi, .int .i64 s] 23))
  obtain ⟨w0, hw0⟩ : ∃ w0, w0 = w.alloc (.cells #[.int .i64 y, .int .i64 mo, .int .i64 d, .int .i64 h, .int .i64 mi, .int .i64 s] 23) := ⟨_, rfl⟩
  have hbw : Below w0.heap.size w0 (Lib.bytesWorld w0 5 ⟨l.toArray⟩) := ⟨rfl, rfl, rfl, by rw [Lib.bytesWorld_size]; exact Nat.le_succ _, fun k hk => Lib.bytesWorld_at_old w0 5 _ k hk⟩
  rw [← hw0] at hS
  have hS2 := hS.out.next hbw
  have hnew : Hid (w0.heap[w.heap.size]? = some (.cells #[.int .i64 y, .int .i64 mo, .int .i64 d, .int .i64 h, .int .i64 mi, .int .i64 s] 23 (0, 0))) := by rw [hw0]; exact blk_new _ _
  have H' : Hid (Calls Tryd.prog 26 #[.agg #[.int .u8 0, .bool false, .int .u32 num, .slice (some ⟨w0.heap.size, 0, none⟩) l.length (grownCap w0 l.length 0 5), .slice none 0 0]] (Lib.bytesWorld w0 5 ⟨l.toArray⟩) fun e w' => e = .returned (.tuple #[.agg #[.int .i64 y, .int .i64 mo, .int .i64 d, .int .i64 h, .int .i64 mi, .int .i64 s], .int .i64 f]) ∧ Below (Lib.bytesWorld w0 5 ⟨l.toArray⟩).heap.size (Lib.bytesWorld w0 5 ⟨l.toArray⟩) w') := by
    rcases hnum with rfl | rfl
    · have := of23 l (some ⟨w0.heap.size, 0, none⟩) none (grownCap w0 l.length 0 5) 0 _ hS2.t hl (bytes_world w0 l)
      rw [show ofU l = (⟨y, mo, d, h, mi, s⟩, f) from hp] at this
      exact this
    · have := of24 l (some ⟨w0.heap.size, 0, none⟩) none (grownCap w0 l.length 0 5) 0 _ hS2.t hl (bytes_world w0 l)
      rw [show ofN l = (⟨y, mo, d, h, mi, s⟩, f) from hp] at this
      exact this
  have hcv := fun (W : World) (s : ByteArray) => Lib.run_convert_string_bytes (P := Tryd.prog) W 9 34 5 s Tryd.underlying9 Tryd.underlying34 Tryd.underlying5
  have HBW := Lib.hid hbw
  have HS2 := Lib.hid hS2
  clear hp hnum hbw hS2
  have hz : w0.heap.size = w.heap.size + 1 := by rw [hw0]; simp
  have H2 := H'.out
  rw [hz] at H2
  have H'' := Lib.hid H2
  clear H2 hz H'
  subst hw0
  go_enter Tryd.func23, Tryd.ntmps23
  go_wp2_with (go_at_call 26; refine H''.out.mono ?_; rintro e w1 ⟨rfl, hb⟩; have hS1 := HS2.out.next hb; have hblk := blk_below (blk_below hnew.out HBW.out) hb; obtain ⟨c0, c1, c2, c3, c4, c5⟩ := six hblk; have hlt := cell_lt c0)
  go_ret
  exact ⟨rfl, (hS1.alloc _).b⟩
end Go.Proofs.YtbncjjobdipmgaaDoor
