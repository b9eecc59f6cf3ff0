/- Chapters 6, 7 (oids, oidsets): Get. -/
import Derived.Test.YtacpcagijfacnaaDoorWf
import Derived.Laws.BitsLemmas
namespace Go.Proofs.YtacpcagijfacnaaDoor
open Go.RowKit Go.Shelf
open Go.Proofs.YtacpcagijfacnaaDoorW.PrintWords (results_ct rd Ev at_rounds gate_dst gate_store Kd.C_below Kd.C_of_reads Kd.reads_of_C ReadsOf.at_ rdOf blk_new blk_below blk_cell blk_alloc blk_lt blk_frozen blk_drew blk_set Kd.C Kd.int)
set_option linter.unusedSimpArgs false
set_option linter.unusedVariables false
set_option maxRecDepth 50000
def Byt (l : List Int) : Prop := ∀ x ∈ l, 0 ≤ x ∧ x < 256
theorem and127n' : ∀ v : Fin 256, bits .and .u8 ((v.val : Nat) : Int) 127 = ((v.val % 128 : Nat) : Int) := by decide +kernel
theorem and127' (v : Int) (h0 : 0 ≤ v) (h1 : v < 256) : bits .and .u8 v 127 = v % 128 := by
  have := and127n' ⟨v.toNat, by omega⟩
  simp only at this
  rw [show ((v.toNat : Nat) : Int) = v by omega] at this
  rw [this]; omega
theorem u64_or7 {x y : Int} (hx₀ : 0 ≤ x) (hx : x % 128 = 0) (hx₁ : x < 18446744073709551616) (h₀ : 0 ≤ y) (h₁ : y < 128) : bits .or .u64 x y = x + y :=
  bits_join .u64 64 (by decide) (fun n h0 h1 => by rw [IntKind.wrap_u64]; omega) 7 x y hx₀ hx (by omega) h₀ (by omega) (by omega)
/-- The subidentifiers of content octets, or the error. -/
def getL : List Int → List Int → Int → Bool → Except Int (List Int)
  | [], S, n, beg => if beg = true then .ok S else .error 7
  | x :: r, S, n, beg => if beg = true ∧ S.length = 15 then .error 3 else if beg = true ∧ x = 128 then .error 11 else if 4294967295 < n * 128 + x % 128 then .error 3
      else if x < 128 then getL r (S ++ [n * 128 + x % 128]) 0 true else getL r S (n * 128 + x % 128) false
/-- The arcs while they come. -/
def comeX (S : List Int) : List Int := 0 :: (S ++ List.replicate (15 - S.length) 0)
theorem comeX_len (S : List Int) (h : S.length ≤ 15) : (comeX S).length = 16 := by unfold comeX; simp; omega
theorem comeX_set (S : List Int) (v : Int) (h : S.length < 15) : (comeX S).set (1 + S.length) v = comeX (S ++ [v]) := by
  unfold comeX
  rw [Nat.add_comm 1, List.set_cons_succ, List.set_append_right _ _ (Nat.le_refl _), Nat.sub_self, show 15 - S.length = (14 - S.length) + 1 by omega, List.replicate_succ, List.set_cons_zero]
  simp [List.append_assoc]
/-- The arcs of subidentifiers. -/
def getX (S : List Int) : List Int := ((comeX S).set 0 (min (S.getD 0 0 / 40) 2)).set 1 (S.getD 0 0 - 40 * min (S.getD 0 0 / 40) 2)
def getT (l : List Int) : Int × List Int × Int :=
  if l = [] then (0, Z16, 7) else match getL l [] 0 true with
    | .error e => (0, Z16, e)
    | .ok S => (1 + (S.length : Int), getX S, 0)
theorem getT_err {l : List Int} {e : Int} (h0 : l ≠ []) (h : getL l [] 0 true = .error e) : getT l = (0, Z16, e) := by unfold getT; rw [if_neg h0, h]
theorem getT_ok {l S : List Int} (h0 : l ≠ []) (h : getL l [] 0 true = .ok S) : getT l = (1 + (S.length : Int), getX S, 0) := by unfold getT; rw [if_neg h0, h]
/-- What stands while Get works. -/
structure GtS (S : List Int) (w W : World) : Prop where
  b : Below w.heap.size w W
  r : W.heap[w.heap.size]? = some (.cells (oidC 0 Z16) 27 (0, 0))
  o : W.heap[w.heap.size + 1]? = some (.cells (oidC (1 + (S.length : Int)) (comeX S)) 27 (0, 0))
theorem oid_setN (n m : Int) (xs : List Int) : (oidC n xs).setIfInBounds 0 (.int .u8 m) = oidC m xs := rfl
theorem GtS.step {S : List Int} {w W : World} (h : GtS S w W) (v : Int) (hS : S.length < 15) :
    GtS (S ++ [v]) w ((W.setCell ⟨w.heap.size + 1, 1 + (1 + S.length), none⟩ (.int .u32 v)).setCell ⟨w.heap.size + 1, 0, none⟩ (.int .u8 (1 + (S.length : Int) + 1))) := by
  refine ⟨(h.b.setCell (by show _ ≤ w.heap.size + 1; omega) _).setCell (by show _ ≤ w.heap.size + 1; omega) _, ?_, ?_⟩
  · rw [Below.heap_setCell _ _ _ _ (by show w.heap.size ≠ w.heap.size + 1; omega), Below.heap_setCell _ _ _ _ (by show w.heap.size ≠ w.heap.size + 1; omega)]; exact h.r
  · have h1 := blk_set h.o (1 + (1 + S.length)) (.int .u32 v)
    rw [oid_set _ _ _ _ (by rw [comeX_len S (by omega)]; omega), comeX_set S v hS] at h1
    have h2 := blk_set h1 0 (.int .u8 (1 + (S.length : Int) + 1))
    rw [oid_setN] at h2
    rw [h2, List.length_append, List.length_singleton, show (1 + ((S.length + 1 : Nat) : Int)) = 1 + (S.length : Int) + 1 by omega]
theorem getD_bd {S : List Int} (h : ∀ s ∈ S, 0 ≤ s ∧ s ≤ 4294967295) : 0 ≤ S.getD 0 0 ∧ S.getD 0 0 ≤ 4294967295 := by
  cases S with
  | nil => exact ⟨by simp, by simp⟩
  | cons a r => exact h a (by simp)
theorem comeX_1 (S : List Int) : (comeX S).getD 1 0 = S.getD 0 0 := by
  unfold comeX
  cases S <;> rfl
theorem getX_len (S : List Int) (h : S.length ≤ 15) : (getX S).length = 16 := by unfold getX; rw [List.length_set, List.length_set, comeX_len S h]
theorem GtS.fin {S : List Int} {w W : World} (h : GtS S w W) (hS : S.length ≤ 15) : Below w.heap.size w ((W.setCell ⟨w.heap.size + 1, 1, none⟩ (.int .u32 (min (S.getD 0 0 / 40) 2))).setCell ⟨w.heap.size + 1, 2, none⟩ (.int .u32 (S.getD 0 0 - 40 * min (S.getD 0 0 / 40) 2))) ∧
    ((W.setCell ⟨w.heap.size + 1, 1, none⟩ (.int .u32 (min (S.getD 0 0 / 40) 2))).setCell ⟨w.heap.size + 1, 2, none⟩ (.int .u32 (S.getD 0 0 - 40 * min (S.getD 0 0 / 40) 2))).heap[w.heap.size]? = some (.cells (oidC 0 Z16) 27 (0, 0)) ∧
    ((W.setCell ⟨w.heap.size + 1, 1, none⟩ (.int .u32 (min (S.getD 0 0 / 40) 2))).setCell ⟨w.heap.size + 1, 2, none⟩ (.int .u32 (S.getD 0 0 - 40 * min (S.getD 0 0 / 40) 2))).heap[w.heap.size + 1]? = some (.cells (oidC (1 + (S.length : Int)) (getX S)) 27 (0, 0)) := by
  refine ⟨(h.b.setCell (by show _ ≤ w.heap.size + 1; omega) _).setCell (by show _ ≤ w.heap.size + 1; omega) _, ?_, ?_⟩
  · rw [Below.heap_setCell _ _ _ _ (by show w.heap.size ≠ w.heap.size + 1; omega), Below.heap_setCell _ _ _ _ (by show w.heap.size ≠ w.heap.size + 1; omega)]; exact h.r
  · have h1 := blk_set h.o 1 (.int .u32 (min (S.getD 0 0 / 40) 2))
    rw [show (1 : Nat) = 1 + 0 from rfl, oid_set _ _ _ _ (by rw [comeX_len S hS]; omega)] at h1
    have h2 := blk_set h1 2 (.int .u32 (S.getD 0 0 - 40 * min (S.getD 0 0 / 40) 2))
    rw [show (2 : Nat) = 1 + 1 from rfl, oid_set _ _ _ _ (by rw [List.length_set, comeX_len S hS]; omega)] at h2
    exact h2
set_option maxHeartbeats 4000000 in
theorem get_nil (A : Option Addr) (c : Nat) (w : World) : Calls Tryd.prog 24 #[.slice A 0 c] w fun e w' => e = .returned (.tuple #[oidV 0 Z16, .int .i64 7]) ∧ Below w.heap.size w w' := by
  have hb := (Below.refl w.heap.size w).alloc (Nat.le_refl _) (.cells (oidC 0 Z16) 27)
  have hB := blk_new w (.cells (oidC 0 Z16) 27)
  go_enter Tryd.func24, Tryd.ntmps24
  go_upto_region 1 with fail
  rw [zrow]
  generalize w.alloc (.cells (oidC 0 (List.replicate 16 0)) 27) = W at *
  go_wp2_with ((with_reducible refine gate_store rfl ?_); refine wpList_plain rfl fun K hK => ?_; refine wp_store_row 27 _ _ rfl w.heap.size (oidC 0 Z16) rfl rfl 27 (oidC 0 Z16) hB (oid_info _ _ rfl) rfl (oid_one _ _) ?_; refine hK _ _ ?_)
  refine bodyPost_ret (results_ct rfl _ _ w.heap.size 27 (oidC 0 Z16) (0, 0) _ rfl (setRow_heap _ _ _ _ _ _ hB) Tryd.underlying27 rfl (oid_info _ _ rfl)) rfl ?_
  exact ⟨rfl, below_setRow hb (Nat.le_refl _) _⟩
set_option maxHeartbeats 8000000 in
theorem get_some (A : Option Addr) (c : Nat) (l : List Int) (w : World) (hl0 : l ≠ []) (hl : l.length ≤ 1000000) (hby : Byt l) (hr : Kd.C (Kd.int .u8) w A l.length l) (rn er : Int) (rx : List Int) (hres : getT l = (rn, rx, er)) :
    Calls Tryd.prog 24 #[.slice A l.length c] w fun e w' => e = .returned (.tuple #[oidV rn rx, .int .i64 er]) ∧ Below w.heap.size w w' := by
  have HR := Lib.hid hr
  have HBY := Lib.hid hby
  have HRES := Lib.hid hres
  have h0 : ¬ l.length = 0 := fun h => hl0 (List.length_eq_zero_iff.mp h)
  have h0b : ((l.length : Int) == 0) = false := by simpa using hl0
  have HL0 := Lib.hid hl0
  clear hr hby hres hl0
  have hb := (Below.refl w.heap.size w).alloc (Nat.le_refl _) (.cells (oidC 0 Z16) 27)
  have hB := blk_new w (.cells (oidC 0 Z16) 27)
  have hsz : (w.alloc (.cells (oidC 0 Z16) 27)).heap.size = w.heap.size + 1 := by simp
  go_enter Tryd.func24, Tryd.ntmps24
  go_upto_region 1 with fail
  rw [zrow]
  generalize w.alloc (.cells (oidC 0 (List.replicate 16 0)) 27) = W at *
  have hb2 := hb.alloc (by omega) (.cells (oidC 1 Z16) 27)
  have S0 : Hid (GtS [] w (W.alloc (.cells (oidC 1 Z16) 27))) := ⟨hb2, blk_alloc hB _, by rw [← hsz]; exact blk_new W _⟩
  go_upto_region 7 with fail
  rw [show (#[.int .u8 1, .int .u32 0, .int .u32 0, .int .u32 0, .int .u32 0, .int .u32 0, .int .u32 0, .int .u32 0, .int .u32 0, .int .u32 0, .int .u32 0, .int .u32 0, .int .u32 0, .int .u32 0, .int .u32 0, .int .u32 0, .int .u32 0] : Array Value) = oidC 1 Z16 from rfl]
  generalize W.alloc (.cells (oidC 1 Z16) 27) = W2 at *
  go_loopw [5, 6, 16] (fun n b i wr => ∃ (k : Nat) (S : List Int) (m : Int) (beg : Bool), k ≤ l.length ∧ n = .int .u64 m ∧ b = .bool beg ∧ i = .int .i64 (k : Int) ∧ S.length ≤ 15 ∧ 0 ≤ m ∧ m ≤ 4294967295 ∧ Hid (GtS S w wr) ∧ Hid (getL (l.drop k) S m beg = getL l [] 0 true) ∧ (beg = false → S.length < 15) ∧ Hid (∀ s ∈ S, 0 ≤ s ∧ s ≤ 4294967295)) (fun _ _ i _ => l.length - (intOf i).toNat)
  case atStart => exact ⟨0, [], 0, true, Nat.zero_le _, rfl, rfl, rfl, by simp, by omega, by omega, S0, Lib.hid rfl, (fun h => by cases h), (by intro s hs; cases hs)⟩
  case round =>
    obtain ⟨k, S, m, beg, hk, rfl, rfl, rfl, hS, m0, m1, T, hc, hF, HB⟩ := hrel
    by_cases hlt : k < l.length
    · have hx := HBY.out (l.getD k 0) (by rw [List.getD_eq_getElem?_getD, List.getElem?_eq_getElem hlt, Option.getD_some]; exact List.getElem_mem hlt)
      obtain ⟨ad, rfl, hcl⟩ := (Kd.reads_of_C (enc := Value.int .u8) (d := (0 : Int)) (h1 := fun _ => rfl) (Kd.C_below HR.out T.out.b)).at_ (k : Int) (by omega) (by omega)
      simp only [Int.toNat_natCast, rdOf] at hcl
      have hd := hc.out
      rw [drop_at hlt, getL] at hd
      clear hc
      generalize l.getD k 0 = x at *
      cases beg
      case true =>
        by_cases hS15 : S.length = 15
        · rw [if_pos ⟨rfl, hS15⟩] at hd
          have c0 := (oid_cells T.out.o).1
          rw [hS15, show (1 + ((15 : Nat) : Int)) = 16 from rfl] at c0
          have hE := getT_err HL0.out (hd.symm)
          rw [HRES.out] at hE
          obtain ⟨rfl, rfl, rfl⟩ : rn = 0 ∧ rx = Z16 ∧ er = 3 := by injection hE with h1 h2; injection h2 with h2 h3; exact ⟨h1, h2, h3⟩
          clear hE HRES
          have hR := T.out.r
          have hTb := Lib.hid T.out.b
          go_wp2_with ((with_reducible refine gate_store rfl ?_); refine wpList_plain rfl fun K hK => ?_; refine wp_store_row 27 _ _ rfl w.heap.size (oidC 0 Z16) rfl rfl 27 (oidC 0 Z16) hR (oid_info _ _ rfl) rfl (oid_one _ _) ?_; refine hK _ _ ?_)
          refine bodyPost_ret (results_ct rfl _ _ w.heap.size 27 (oidC 0 Z16) (0, 0) _ rfl (setRow_heap _ _ _ _ _ _ hR) Tryd.underlying27 rfl (oid_info _ _ rfl)) rfl ?_
          exact ⟨rfl, below_setRow hTb.out (Nat.le_refl _) _⟩
        · rw [if_neg (fun h => hS15 h.2)] at hd
          have hS14 : S.length < 15 := by omega
          have c0 := (oid_cells T.out.o).1
          have hne : ¬ (1 + (S.length : Int)) = 16 := by omega
          by_cases h128 : x = 128
          · subst h128
            rw [if_pos ⟨rfl, rfl⟩] at hd
            have hE := getT_err HL0.out (hd.symm)
            rw [HRES.out] at hE
            obtain ⟨rfl, rfl, rfl⟩ : rn = 0 ∧ rx = Z16 ∧ er = 11 := by injection hE with h1 h2; injection h2 with h2 h3; exact ⟨h1, h2, h3⟩
            clear hE HRES
            have hR := T.out.r
            have hTb := Lib.hid T.out.b
            go_wp2_with ((with_reducible refine gate_store rfl ?_); refine wpList_plain rfl fun K hK => ?_; refine wp_store_row 27 _ _ rfl w.heap.size (oidC 0 Z16) rfl rfl 27 (oidC 0 Z16) hR (oid_info _ _ rfl) rfl (oid_one _ _) ?_; refine hK _ _ ?_)
            refine bodyPost_ret (results_ct rfl _ _ w.heap.size 27 (oidC 0 Z16) (0, 0) _ rfl (setRow_heap _ _ _ _ _ _ hR) Tryd.underlying27 rfl (oid_info _ _ rfl)) rfl ?_
            exact ⟨rfl, below_setRow hTb.out (Nat.le_refl _) _⟩
          · clear c0
            have c0 := (oid_cells T.out.o).1
            obtain ⟨v, hv⟩ : ∃ v, v = m * 128 + x % 128 := ⟨_, rfl⟩
            have hand := and127' x hx.1 hx.2
            have hor : bits .or .u64 (m * 128) (x % 128) = v := by rw [hv]; exact u64_or7 (by omega) (by omega) (by omega) (by omega) (by omega)
            have hsh : m * 128 % 18446744073709551616 = m * 128 := by omega
            rw [if_neg (fun h => h128 h.2), ← hv] at hd
            have hv0 : 0 ≤ v := by omega
            by_cases hbig : 4294967295 < v
            · rw [if_pos hbig] at hd
              clear hv
              have hE := getT_err HL0.out (hd.symm)
              rw [HRES.out] at hE
              obtain ⟨rfl, rfl, rfl⟩ : rn = 0 ∧ rx = Z16 ∧ er = 3 := by injection hE with h1 h2; injection h2 with h2 h3; exact ⟨h1, h2, h3⟩
              clear hE HRES
              have hR := T.out.r
              have hTb := Lib.hid T.out.b
              go_wp2_with ((with_reducible refine gate_store rfl ?_); refine wpList_plain rfl fun K hK => ?_; refine wp_store_row 27 _ _ rfl w.heap.size (oidC 0 Z16) rfl rfl 27 (oidC 0 Z16) hR (oid_info _ _ rfl) rfl (oid_one _ _) ?_; refine hK _ _ ?_)
              refine bodyPost_ret (results_ct rfl _ _ w.heap.size 27 (oidC 0 Z16) (0, 0) _ rfl (setRow_heap _ _ _ _ _ _ hR) Tryd.underlying27 rfl (oid_info _ _ rfl)) rfl ?_
              exact ⟨rfl, below_setRow hTb.out (Nat.le_refl _) _⟩
            · rw [if_neg hbig] at hd
              have hvw : v % 4294967296 = v := by omega
              by_cases hx2 : x < 128
              · rw [if_pos hx2] at hd
                clear hv
                have HD := Lib.hid hd
                clear hd
                have c0 := (oid_cells T.out.o).1
                have f0 := blk_frozen T.out.o 0
                have cS := (oid_cells T.out.o).2 (1 + S.length) (by rw [comeX_len S hS]; omega)
                have fS := blk_frozen T.out.o (1 + (1 + S.length))
                have hT := Lib.hid (T.out.step v hS14)
                have HB2 : Hid (∀ s ∈ S ++ [v], 0 ≤ s ∧ s ≤ 4294967295) := by
                  intro s hs
                  rcases List.mem_append.mp hs with hs | hs
                  · exact HB.out s hs
                  · obtain rfl := List.mem_singleton.mp hs
                    exact ⟨hv0, by omega⟩
                have hu8 : (1 + (S.length : Int) + 1) % 256 = 1 + (S.length : Int) + 1 := by omega
                go_wp2
                go_round
                case rel => exact ⟨k + 1, S ++ [v], 0, true, by omega, rfl, rfl, by go_num, by simp; omega, by omega, by omega, hT, HD, (fun h => by cases h), HB2⟩
                case measure => simp [intOf]; omega
              · rw [if_neg hx2] at hd
                clear hv
                have HD := Lib.hid hd
                clear hd
                go_wp2
                go_round
                case rel => exact ⟨k + 1, S, v, false, by omega, rfl, rfl, by go_num, hS, by omega, by omega, T, HD, fun _ => hS14, HB⟩
                case measure => simp [intOf]; omega
      case false =>
        have hS14 : S.length < 15 := hF rfl
        obtain ⟨v, hv⟩ : ∃ v, v = m * 128 + x % 128 := ⟨_, rfl⟩
        have hand := and127' x hx.1 hx.2
        have hor : bits .or .u64 (m * 128) (x % 128) = v := by rw [hv]; exact u64_or7 (by omega) (by omega) (by omega) (by omega) (by omega)
        have hsh : m * 128 % 18446744073709551616 = m * 128 := by omega
        rw [if_neg (fun h => by cases h.1), if_neg (fun h => by cases h.1), ← hv] at hd
        have hv0 : 0 ≤ v := by omega
        by_cases hbig : 4294967295 < v
        · rw [if_pos hbig] at hd
          clear hv
          have hE := getT_err HL0.out (hd.symm)
          rw [HRES.out] at hE
          obtain ⟨rfl, rfl, rfl⟩ : rn = 0 ∧ rx = Z16 ∧ er = 3 := by injection hE with h1 h2; injection h2 with h2 h3; exact ⟨h1, h2, h3⟩
          clear hE HRES
          have hR := T.out.r
          have hTb := Lib.hid T.out.b
          go_wp2_with ((with_reducible refine gate_store rfl ?_); refine wpList_plain rfl fun K hK => ?_; refine wp_store_row 27 _ _ rfl w.heap.size (oidC 0 Z16) rfl rfl 27 (oidC 0 Z16) hR (oid_info _ _ rfl) rfl (oid_one _ _) ?_; refine hK _ _ ?_)
          refine bodyPost_ret (results_ct rfl _ _ w.heap.size 27 (oidC 0 Z16) (0, 0) _ rfl (setRow_heap _ _ _ _ _ _ hR) Tryd.underlying27 rfl (oid_info _ _ rfl)) rfl ?_
          exact ⟨rfl, below_setRow hTb.out (Nat.le_refl _) _⟩
        · rw [if_neg hbig] at hd
          have hvw : v % 4294967296 = v := by omega
          by_cases hx2 : x < 128
          · rw [if_pos hx2] at hd
            clear hv
            have HD := Lib.hid hd
            clear hd
            have c0 := (oid_cells T.out.o).1
            have f0 := blk_frozen T.out.o 0
            have cS := (oid_cells T.out.o).2 (1 + S.length) (by rw [comeX_len S hS]; omega)
            have fS := blk_frozen T.out.o (1 + (1 + S.length))
            have hT := Lib.hid (T.out.step v hS14)
            have HB2 : Hid (∀ s ∈ S ++ [v], 0 ≤ s ∧ s ≤ 4294967295) := by
              intro s hs
              rcases List.mem_append.mp hs with hs | hs
              · exact HB.out s hs
              · obtain rfl := List.mem_singleton.mp hs
                exact ⟨hv0, by omega⟩
            have hu8 : (1 + (S.length : Int) + 1) % 256 = 1 + (S.length : Int) + 1 := by omega
            go_wp2
            go_round
            case rel => exact ⟨k + 1, S ++ [v], 0, true, by omega, rfl, rfl, by go_num, by simp; omega, by omega, by omega, hT, HD, (fun h => by cases h), HB2⟩
            case measure => simp [intOf]; omega
          · rw [if_neg hx2] at hd
            clear hv
            have HD := Lib.hid hd
            clear hd
            go_wp2
            go_round
            case rel => exact ⟨k + 1, S, v, false, by omega, rfl, rfl, by go_num, hS, by omega, by omega, T, HD, fun _ => hS14, HB⟩
            case measure => simp [intOf]; omega
    · obtain rfl : k = l.length := by omega
      have hd := hc.out
      rw [List.drop_length, getL] at hd
      clear hc
      cases beg
      case false =>
        rw [if_neg (by decide)] at hd
        have hE := getT_err HL0.out (hd.symm)
        rw [HRES.out] at hE
        obtain ⟨rfl, rfl, rfl⟩ : rn = 0 ∧ rx = Z16 ∧ er = 7 := by injection hE with h1 h2; injection h2 with h2 h3; exact ⟨h1, h2, h3⟩
        clear hE HRES
        have hR := T.out.r
        have hTb := Lib.hid T.out.b
        go_wp2_with ((with_reducible refine gate_store rfl ?_); refine wpList_plain rfl fun K hK => ?_; refine wp_store_row 27 _ _ rfl w.heap.size (oidC 0 Z16) rfl rfl 27 (oidC 0 Z16) hR (oid_info _ _ rfl) rfl (oid_one _ _) ?_; refine hK _ _ ?_)
        refine bodyPost_ret (results_ct rfl _ _ w.heap.size 27 (oidC 0 Z16) (0, 0) _ rfl (setRow_heap _ _ _ _ _ _ hR) Tryd.underlying27 rfl (oid_info _ _ rfl)) rfl ?_
        exact ⟨rfl, below_setRow hTb.out (Nat.le_refl _) _⟩
      case true =>
        rw [if_pos rfl] at hd
        have hE := getT_ok HL0.out hd.symm
        rw [HRES.out] at hE
        obtain ⟨rfl, rfl, rfl⟩ : rn = 1 + (S.length : Int) ∧ rx = getX S ∧ er = 0 := by injection hE with h1 h2; injection h2 with h2 h3; exact ⟨h1, h2, h3⟩
        clear hE HRES hd
        have hs0 : 0 ≤ S.getD 0 0 ∧ S.getD 0 0 ≤ 4294967295 := getD_bd HB.out
        have HX := Lib.hid (getX_len S hS)
        obtain ⟨hb9, hR9, hO9⟩ := T.out.fin hS
        have HB9 := Lib.hid hb9
        clear hb9
        have c1 := (oid_cells T.out.o).2 1 (by rw [comeX_len S hS]; omega)
        have c1' := (oid_cells T.out.o).2 0 (by rw [comeX_len S hS]; omega)
        rw [comeX_1] at c1
        have f1 := blk_frozen T.out.o 1
        have f2 := blk_frozen T.out.o 2
        generalize S.getD 0 0 = s0 at *
        have ht : Int.tdiv s0 40 = s0 / 40 := Int.tdiv_eq_ediv_of_nonneg hs0.1
        generalize hq : min (s0 / 40) 2 = q at *
        have hq0 : 0 ≤ q ∧ q ≤ 2 ∧ 40 * q ≤ s0 := by omega
        have hw1 : 40 * q % 4294967296 = 40 * q := by omega
        have hw2 : (s0 - 40 * q) % 4294967296 = s0 - 40 * q := by omega
        go_upto_region 26 with fail
        generalize ((wr.setCell ⟨w.heap.size + 1, 1, none⟩ (.int .u32 q)).setCell ⟨w.heap.size + 1, 2, none⟩ (.int .u32 (s0 - 40 * q))) = W9 at *
        go_wp2_with (first
          | ((with_reducible refine gate_dst (N := 78) rfl ?_); refine wpList_load_row rfl 27 _ rfl (w.heap.size + 1) rfl 27 (oidC (1 + (S.length : Int)) (getX S)) (0, 0) _ hO9 Tryd.underlying27 rfl (oid_info _ _ HX.out) ?_)
          | ((with_reducible refine gate_store rfl ?_); refine wpList_plain rfl fun K hK => ?_; refine wp_store_row 27 _ _ rfl w.heap.size (oidC (1 + (S.length : Int)) (getX S)) rfl rfl 27 (oidC 0 Z16) hR9 (oid_info _ _ HX.out) (by simp [HX.out]) (oid_one _ _) ?_; refine hK _ _ ?_))
        refine bodyPost_ret (results_ct rfl _ _ w.heap.size 27 (oidC (1 + (S.length : Int)) (getX S)) (0, 0) _ rfl (setRow_heap _ _ _ _ _ _ hR9) Tryd.underlying27 rfl (oid_info _ _ HX.out)) rfl ?_
        exact ⟨rfl, below_setRow HB9.out (Nat.le_refl _) _⟩
/-- GET, of any octets. -/
theorem get_any (A : Option Addr) (c : Nat) (l : List Int) (w : World) (hl : l.length ≤ 1000000) (hby : Byt l) (hr : Kd.C (Kd.int .u8) w A l.length l) :
    Calls Tryd.prog 24 #[.slice A l.length c] w fun e w' => e = .returned (.tuple #[oidV (getT l).1 (getT l).2.1, .int .i64 (getT l).2.2]) ∧ Below w.heap.size w w' := by
  by_cases h0 : l = []
  · subst h0
    exact get_nil A c w
  · exact get_some A c l w h0 hl hby hr _ _ _ rfl
end Go.Proofs.YtacpcagijfacnaaDoor
