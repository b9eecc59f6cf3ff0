/- Contracts of what the print does not cover, in the print's shape: Put, same, lives, Text, Parse. -/
import Derived.Test.YtpdomckacfeffaaDoorQk
import Derived.Test.YtpdomckacfeffaaDoorQb
import Derived.Test.YtpdomckacfeffaaDoorLg
namespace Go.Proofs.YtpdomckacfeffaaDoor.Pr
open Go.RowKit Go.Shelf Go.Proofs.YtpdomckacfeffaaDoorW.PrintWords
set_option linter.unusedSimpArgs false
set_option linter.unusedVariables false
set_option maxRecDepth 50000

def tags_Put.f (cl : Int) (co : Bool) (nu : Int) : Option (List Int × Int) := if 0 ≤ cl ∧ 0 ≤ nu ∧ chk cl co nu = 0 then some (enc cl co nu, 0) else none
theorem chk_bounds {cl nu : Int} {co : Bool} (h : chk cl co nu = 0) : cl ≤ 3 ∧ nu < 268435456 := by
  unfold chk at h
  split at h
  · cases h
  · omega
theorem cellLt {w : World} {a : Addr} {v : Value} (h : w.cell? a = some v) : a.block < w.heap.size := by
  by_cases hlt : a.block < w.heap.size
  · exact hlt
  · unfold World.cell? at h
    rw [Array.getElem?_eq_none (by omega)] at h
    cases h
theorem tags_Put.calls (a0_0 : Int) (a0_1 : Bool) (a0_2 : Int) (r1 : List Int) (r2 : Int) (w : World) (h : tags_Put.f a0_0 a0_1 a0_2 = some (r1, r2)) :
    Calls Tryd.prog 13 #[.agg #[.int .u8 a0_0, .bool a0_1, .int .u32 a0_2]] w fun e w' => ∃ v0_ : Value, e = .returned (.tuple #[v0_, .int .i64 r2]) ∧ KL.R (Kd.int .u8) 5 w' w.heap.size (fun _ => True) v0_ r1 ∧ Tight v0_ ∧ Below w.heap.size w w' := by
  unfold tags_Put.f at h
  split at h
  case isTrue hc =>
    obtain ⟨c0, n0, hr⟩ := hc
    obtain ⟨c1, n1⟩ := chk_bounds hr
    injection h with h
    injection h with h1 h2
    subst h1 h2
    have hlen := enc_len a0_0 a0_1 a0_2
    refine (put_ok a0_0 a0_1 a0_2 w c0 c1 n0 n1 hr).mono ?_
    rintro e w' ⟨g, rfl, hg, ho, hb⟩
    have hcell := ho 0 (by omega)
    have hlt : g < w'.heap.size := cellLt hcell
    refine ⟨_, rfl, ⟨fun k hk => ?_, _, _, rfl, Nat.le_refl _, fun W hW => ?_⟩, ⟨_, _, rfl⟩, hb⟩
    · have : g = k := by simpa [Value.ownBlock] using hk
      subst this
      exact ⟨trivial, hg, hlt⟩
    · refine read_of (by omega) (fun i hi => ?_)
      have := hW g (by simp [Value.ownBlock])
      rw [World.cell?_of_block (a := ⟨g, i, none⟩) this]
      exact ho i hi
  case isFalse hc => cases h

theorem u8s_inj : ∀ {a b : List Int}, Byt a → Byt b → u8s a = u8s b → a = b
  | [], [], _, _, _ => rfl
  | [], y :: b, _, _, h => by simp [u8s] at h
  | x :: a, [], _, _, h => by simp [u8s] at h
  | x :: a, y :: b, ha, hb, h => by
    have h' : UInt8.ofNat x.toNat = UInt8.ofNat y.toNat ∧ u8s a = u8s b := by simpa [u8s] using h
    have hx := ha x (by simp)
    have hy := hb y (by simp)
    have e := congrArg UInt8.toNat h'.1
    rw [UInt8.toNat_ofNat', UInt8.toNat_ofNat'] at e
    rw [u8s_inj (fun z hz => ha z (by simp [hz])) (fun z hz => hb z (by simp [hz])) h'.2, show x = y by omega]
theorem conv_C {w : World} {A : Option Addr} {c : Nat} {l : List Int} (hb : Byt l) (h : Kd.C (Kd.int .u8) w A l.length l) : (convert 22 9 (.slice A l.length c)).run Tryd.prog w = .ok (.string ⟨(u8s l).toArray⟩) w := by
  have hr := Kd.reads_of_C (enc := Value.int .u8) (d := (0 : Int)) (h1 := fun _ => rfl) h
  by_cases hl0 : l.length = 0
  · obtain rfl : l = [] := List.length_eq_zero_iff.mp hl0
    cases A with
    | none => exact run_convert_bytes_nil (P := Tryd.prog) w 22 5 Tryd.underlying22 Tryd.underlying5 0 c 9 Tryd.underlying9
    | some a => exact run_convert_bytes_back w 22 9 5 a c [] Tryd.underlying22 Tryd.underlying5 Tryd.underlying9 (fun j hj => by cases hj)
  · have hl : l.length = (u8s l).length := by simp [u8s]
    obtain ⟨a, rfl, _⟩ := hr.at_ 0 (by omega) (by omega)
    rw [hl]
    refine run_convert_bytes_back w 22 9 5 a c (u8s l) Tryd.underlying22 Tryd.underlying5 Tryd.underlying9 fun j hj => ?_
    have hj' : j < l.length := by omega
    obtain ⟨a', ha', hc⟩ := hr.at_ (j : Int) (by omega) (by omega)
    injection ha' with ha'
    subst ha'
    have hx := hb l[j] (List.getElem_mem hj')
    simp only [Int.toNat_natCast] at hc
    rw [hc]
    simp only [u8s, List.getElem_map, rdOf, List.getD, Int.toNat_natCast, List.getElem?_eq_getElem hj', Option.getD_some]
    rw [UInt8.toNat_ofNat', show ((l[j].toNat % 2 ^ 8 : Nat) : Int) = l[j] by omega]
def vidimuslaw02_same.f (l0 : List Int) (a1 : Int) (l2 : List Int) (a3 : Int) : Option (Bool) := if Byt l0 ∧ Byt l2 then some ((a1 == a3) && (l0 == l2)) else none
theorem vidimuslaw02_same.calls (A0 : Option Addr) (c0 : Nat) (l0 : List Int) (a1 : Int) (A2 : Option Addr) (c2 : Nat) (l2 : List Int) (a3 : Int) (r : Bool) (w : World) (hr0 : Kd.C (Kd.int .u8) w A0 l0.length l0) (hc0 : l0.length ≤ c0) (hr2 : Kd.C (Kd.int .u8) w A2 l2.length l2) (hc2 : l2.length ≤ c2) (h : vidimuslaw02_same.f l0 a1 l2 a3 = some r) (ht : Tight (.slice A0 l0.length c0)) :
    Calls Tryd.prog 14 #[.slice A0 l0.length c0, .int .i64 a1, .slice A2 l2.length c2, .int .i64 a3] w fun e w' => e = .returned (.bool r) ∧ Below w.heap.size w w' := by
  unfold vidimuslaw02_same.f at h
  split at h
  case isTrue hc =>
    obtain ⟨b0, b2⟩ := hc
    injection h with h
    obtain rfl := ht.cap
    refine (same_gen A0 A2 _ _ _ _ a1 a3 ⟨(u8s l0).toArray⟩ ⟨(u8s l2).toArray⟩ r w (fun W hW => by subst hW; exact conv_C b0 hr0) (fun W hW => by subst hW; exact conv_C b2 hr2) ?_).mono fun e w' ⟨he, hw⟩ => ⟨he, by rw [hw]; exact Below.refl _ _⟩
    rw [← h]
    have : ((⟨(u8s l0).toArray⟩ : ByteArray).toList == (⟨(u8s l2).toArray⟩ : ByteArray).toList) = (l0 == l2) := by
      rw [ByteArray.toList_mk, ByteArray.toList_mk]
      by_cases e : l0 = l2
      · subst e; simp
      · have e' : u8s l0 ≠ u8s l2 := fun h => e (u8s_inj b0 b2 h)
        rw [beq_eq_false_iff_ne.mpr e, beq_eq_false_iff_ne.mpr e']
    rw [this]
    simp
  case isFalse hc => cases h
def vidimuslaw02_lives.f : Option (Bool) := some true
theorem vidimuslaw02_lives.calls (r : Bool) (w : World) (h : vidimuslaw02_lives.f = some r) (hT_ : Tabs w) :
    Calls Tryd.prog 10 #[] w fun e w' => e = .returned (.bool r) ∧ Below w.heap.size w w' := by
  injection h with h
  subst h
  exact lives_yes w hT_
def tags_Text.f (cl : Int) (co : Bool) (nu : Int) : Option ByteArray := if 0 ≤ cl ∧ 0 ≤ nu ∧ chk cl co nu = 0 then some ⟨(txt cl co nu).toArray⟩ else none
theorem tags_Text.calls (a0_0 : Int) (a0_1 : Bool) (a0_2 : Int) (r : ByteArray) (w : World) (h : tags_Text.f a0_0 a0_1 a0_2 = some r) (hT_ : Tabs w) :
    Calls Tryd.prog 16 #[.agg #[.int .u8 a0_0, .bool a0_1, .int .u32 a0_2]] w fun e w' => e = .returned (.string r) ∧ Below w.heap.size w w' := by
  unfold tags_Text.f at h
  split at h
  case isTrue hc =>
    obtain ⟨c0, n0, hr⟩ := hc
    obtain ⟨c1, n1⟩ := chk_bounds hr
    injection h with h
    subst h
    exact text_ok a0_0 a0_1 a0_2 w hT_ c0 c1 n0 n1 hr
  case isFalse hc => cases h
def tags_Parse.f (s : ByteArray) : Option (Int × Bool × Int × Int) := if s.data.toList.length ≤ 1000000 then some ((prs s.data.toList).1.1, (prs s.data.toList).1.2.1, (prs s.data.toList).1.2.2, (prs s.data.toList).2) else none
theorem tags_Parse.calls (a0 : ByteArray) (r1 : Int) (r2 : Bool) (r3 : Int) (r4 : Int) (w : World) (h : tags_Parse.f a0 = some (r1, r2, r3, r4)) (hT_ : Tabs w) :
    Calls Tryd.prog 17 #[.string a0] w fun e w' => e = .returned (.tuple #[.agg #[.int .u8 r1, .bool r2, .int .u32 r3], .int .i64 r4]) ∧ Below w.heap.size w w' := by
  unfold tags_Parse.f at h
  split at h
  case isTrue hc =>
    injection h with h
    injection h with h1 h
    injection h with h2 h
    injection h with h3 h4
    have := parse_any a0.data.toList hc w hT_
    rw [show (⟨a0.data.toList.toArray⟩ : ByteArray) = a0 from rfl] at this
    refine this.mono fun e w' hp => ?_
    obtain ⟨he, hb⟩ := hp
    rw [h1, h2, h3, h4] at he
    exact ⟨he, hb⟩
  case isFalse hc => cases h
end Go.Proofs.YtpdomckacfeffaaDoor.Pr
