/- Chapter 6 (oids): the walk of the law OidsKnown. -/
import Derived.Test.YtacpcagijfacnaaDoorWv
import Derived.Test.YtacpcagijfacnaaDoorWd
import Derived.Test.YtacpcagijfacnaaDoorPa
namespace Go.Proofs.YtacpcagijfacnaaDoor
open Go.RowKit Go.Shelf
open Go.Proofs.YtacpcagijfacnaaDoorW.PrintLast
open Go.Proofs.YtacpcagijfacnaaDoorW.PrintWords (gate_guard gate_dst gate_store Kd.C_below Kd.C_of_reads Kd.reads_of_C ReadsOf.at_ rdOf blk_new blk_below blk_cell blk_alloc blk_lt blk_frozen blk_drew blk_set Kd.C Kd.int)
set_option linter.unusedSimpArgs false
set_option linter.unusedVariables false
set_option maxRecDepth 50000
abbrev numK : List Int := [0, 127, 128, 16383, 16384, 2097151, 2097152, 268435455, 268435456, 4294967295]
abbrev sizK : List Int := [1, 1, 2, 2, 3, 3, 4, 4, 5, 5]
/-- The two lists of numbers, and the tables. -/
structure KN (w W : World) : Prop where
  st : St w W
  n : W.heap[w.heap.size]? = some (.cells (numK.map (Value.int .u32)).toArray 24 (0, 0))
  s : W.heap[w.heap.size + 1]? = some (.cells (sizK.map (Value.int .i64)).toArray 3 (0, 0))
theorem KN.next {w W W' : World} (h : KN w W) (hb : Below W.heap.size W W') : KN w W' := ⟨h.st.next hb, blk_below h.n hb, blk_below h.s hb⟩
theorem KN.start (w : World) (hT : Tabs w) : KN w ((w.alloc (.cells (numK.map (Value.int .u32)).toArray 24)).alloc (.cells (sizK.map (Value.int .i64)).toArray 3)) := by
  refine ⟨((St.refl hT).alloc _).alloc _, blk_alloc (blk_new w _) _, ?_⟩
  have := blk_new (w.alloc (.cells (numK.map (Value.int .u32)).toArray 24)) (.cells (sizK.map (Value.int .i64)).toArray 3)
  rwa [World.size_alloc] at this
theorem KN.nat {w W : World} (h : KN w W) (k : Nat) (hk : k < 10) : W.cell? ⟨w.heap.size, k, none⟩ = some (.int .u32 (numK.getD k 0)) := by
  rw [blk_cell h.n k]
  rcases k with _ | _ | _ | _ | _ | _ | _ | _ | _ | _ | k
  all_goals first | rfl | omega
theorem KN.sat {w W : World} (h : KN w W) (k : Nat) (hk : k < 10) : W.cell? ⟨w.heap.size + 1, k, none⟩ = some (.int .i64 (sizK.getD k 0)) := by
  rw [blk_cell h.s k]
  rcases k with _ | _ | _ | _ | _ | _ | _ | _ | _ | _ | k
  all_goals first | rfl | omega
theorem numK_u32 (k : Nat) (hk : k < 10) : 0 ≤ numK.getD k 0 ∧ numK.getD k 0 < 4294967296 := by
  rcases k with _ | _ | _ | _ | _ | _ | _ | _ | _ | _ | k
  all_goals first | (constructor <;> decide) | omega
theorem numK_len (k : Nat) (hk : k < 10) : ((gl (numK.getD k 0)).length : Int) = sizK.getD k 0 := by
  rcases k with _ | _ | _ | _ | _ | _ | _ | _ | _ | _ | k
  all_goals first | rfl | omega
theorem glb (n : Int) (h0 : 0 ≤ n) (h1 : n < 4294967296) : ∀ x ∈ gl n, 0 ≤ x ∧ x < 256 := by
  intro x hx
  unfold gl at hx
  repeat' split at hx
  all_goals (simp at hx; omega)
theorem pad3_chk (n : Int) : chkO 3 (pad [0, 0, n]) = 0 := by
  unfold chkO pad
  simp
theorem pad3_of (n : Int) : ofN [0, 0, n] = 3 ∧ ofX [0, 0, n] = pad [0, 0, n] := by
  have h := pad3_chk n
  unfold ofN ofX
  exact ⟨if_pos h, if_pos h⟩
theorem pad3_u32 (n : Int) (h : 0 ≤ n ∧ n < 4294967296) : U32 (pad [0, 0, n]) := by
  intro x hx
  unfold pad at hx
  simp at hx
  omega
theorem pad3_enc (n : Int) : encO 3 (pad [0, 0, n]) = 0 :: gl n := by
  show List.flatMap gl [(0 : Int) + 40 * 0, n] = _
  rw [show (0 : Int) + 40 * 0 = 0 from rfl, List.flatMap_cons, List.flatMap_cons, List.flatMap_nil, List.append_nil, gl_one (by decide)]
  rfl
abbrev arK : List Int := [2, 4294967215, 1, 1, 1, 1, 1, 1, 1, 1, 1, 1, 1, 1, 1, 4294967295]
abbrev arK7 : List Int := [2, 4294967215, 1, 1, 1, 1, 1, 1, 1, 1, 1, 1, 1, 1, 1, 4294967295] ++ [7]
abbrev encL : List Int := [143, 255, 255, 255, 127, 1, 1, 1, 1, 1, 1, 1, 1, 1, 1, 1, 1, 1, 143, 255, 255, 255, 127]
def txK : List UInt8 := [50, 46, 52, 50, 57, 52, 57, 54, 55, 50, 49, 53, 46, 49, 46, 49, 46, 49, 46, 49, 46, 49, 46, 49, 46, 49, 46, 49, 46, 49, 46, 49, 46, 49, 46, 49, 46, 49, 46, 52, 50, 57, 52, 57, 54, 55, 50, 57, 53]
theorem txK_len : txK.length ≤ 1000 := by decide
theorem txK_parse : parseL (splitP txK) = (16, arK, 0) := by decide +kernel
theorem txK_one : parseL (splitP (txK ++ [46, 49])) = (0, Z16, 3) := by decide +kernel
theorem txK_x : parseL (splitP (txK ++ [46, 120])) = (0, Z16, 6) := by decide +kernel
theorem tx_e : parseL (splitP []) = (0, Z16, 6) := by decide +kernel
theorem tx_d : parseL (splitP [49, 46, 46, 50]) = (0, Z16, 6) := by decide +kernel
theorem tx_b : parseL (splitP [50, 46, 52, 50, 57, 52, 57, 54, 55, 50, 49, 54]) = (0, Z16, 1) := by decide +kernel
theorem txK_txt : txtO 16 arK = txK := by
  obtain ⟨N, h1, -, -, -, h2⟩ := parse_back txK_parse
  obtain rfl : N = 16 := by omega
  exact h2
theorem encL_is : encO 16 arK = encL := by decide +kernel
theorem arK_u : U32 arK := by decide
theorem arK_c : chkO 16 arK = 0 := by decide +kernel
theorem getE : getT encL = (16, arK, 0) := by decide +kernel
theorem getE1 : getT (encL ++ [1]) = (0, Z16, 3) := by decide +kernel
theorem encL_b : Byt encL := by decide
theorem encL1_b : Byt (encL ++ [1]) := by decide
theorem strs (a b : List UInt8) : (⟨a.toArray⟩ : ByteArray) ++ ⟨b.toArray⟩ = ⟨(a ++ b).toArray⟩ := by
  apply ByteArray.ext
  simp
theorem pre16 {W : World} {g : Nat} (hB : W.heap[g]? = some (.cells (arK7.map (Value.int .u32)).toArray 24 (0, 0))) : Kd.C (Kd.int .u32) W (some ⟨g, 0, none⟩) arK.length arK := by
  refine Kd.C_of_reads (d := (0 : Int)) ⟨rfl, by decide, fun hn => ⟨⟨g, 0, none⟩, rfl, fun j hj => ?_⟩⟩
  rw [Lib.add_plain, Nat.zero_add, blk_cell hB]
  have hj' : j < 16 := hj
  rcases j with _ | _ | _ | _ | _ | _ | _ | _ | _ | _ | _ | _ | _ | _ | _ | _ | j
  all_goals first | rfl | omega
theorem ofAR {W : World} {g : Nat} (hB : W.heap[g]? = some (.cells (arK7.map (Value.int .u32)).toArray 24 (0, 0))) : Calls Tryd.prog 21 #[.slice (some ⟨g, 0, none⟩) 16 17] W fun e w' => e = .returned (oidV 16 arK) ∧ Below W.heap.size W w' := by
  have h := of_short (some ⟨g, 0, none⟩) 17 arK W (by decide) (pre16 hB) (by decide)
  rw [show ofN arK = 16 by decide +kernel, show ofX arK = arK by decide +kernel] at h
  exact h
theorem of17 (W : World) (g : Nat) : Calls Tryd.prog 21 #[.slice (some ⟨g, 0, none⟩) 17 17] W fun e w' => e = .returned (oidV 0 Z16) ∧ Below W.heap.size W w' := of_long (some ⟨g, 0, none⟩) 17 arK7 W (by decide)
theorem of0 (W : World) : Calls Tryd.prog 21 #[.slice none 0 0] W fun e w' => e = .returned (oidV 0 Z16) ∧ Below W.heap.size W w' := by
  have h := of_short none 0 [] W (by decide) (Kd.C_of_reads (d := (0 : Int)) (h1 := fun _ => rfl) ⟨rfl, by simp, fun hn => absurd hn (by simp)⟩) (by decide)
  rw [show ofN [] = 0 by decide, show ofX [] = Z16 by decide] at h
  exact h
/-- What the last two steps know. -/
structure KE (gz g8 gb : Nat) (w W : World) : Prop where
  st : St w W
  z : W.heap[gz]? = some (.cells (oidC 0 Z16) 27 (0, 0))
  o : W.heap[g8]? = some (.cells (oidC 16 arK) 27 (0, 0))
  b : Octs W gb encL
theorem KE.next {gz g8 gb : Nat} {w W W' : World} (h : KE gz g8 gb w W) (hb : Below W.heap.size W W') : KE gz g8 gb w W' := ⟨h.st.next hb, blk_below h.z hb, blk_below h.o hb, h.b.next hb⟩
theorem KE.alloc {gz g8 gb : Nat} {w W : World} (h : KE gz g8 gb w W) (o : Obj) : KE gz g8 gb w (W.alloc o) := h.next ((Below.refl _ _).alloc (Nat.le_refl _) o)
theorem octs_new (W : World) (x : Int) : Octs (W.alloc (.cells #[.int .u8 x] 5)) W.heap.size [x] := octs_of (l := [x]) (blk_new W _)
theorem append_in {ops : Array Oper} {o : Oper} {a : Act} {W : World} {K : Act → World → Prop} {Q : Exit → Act → World → Prop} (hw : Region.wanted o (yielded ops a.tmps) = true) (s x : Operand)
    (ho : o.op = .call { callee := .builtin .append, args := #[s, x], argTypes := #[22, 22] }) (gb gx : Nat) (L : List Int) (n : Nat) (hn : L.length = n) (hn2 : n ≤ 1000) (y : Int) (hs : a.eval s = .slice (some ⟨gb, 0, none⟩) n n) (hx : a.eval x = .slice (some ⟨gx, 0, none⟩) 1 1)
    (hO : Octs W gb L) (hX : Octs W gx [y]) (N : Option Tmp) (hN : o.dst = N) (h : ∀ g cap w', Octs w' g (L ++ [y]) → Below W.heap.size W w' → K (a.put N (.slice (some ⟨g, 0, none⟩) (n + 1) cap)) w') :
    if Region.wanted o (yielded ops a.tmps) = true then Oper.wp Tryd.prog o a W K Q else K (a.put N undef) W := by
  subst hN
  obtain ⟨i0, hi, hzz⟩ := Option.map_eq_some_iff.1 (show (Tryd.prog.info? 5).map (fun i => (i.zero, i.size, i.bytes)) = some (some (.int .u8 0), 1, 1) by kernel_rfl)
  simp only [Prod.mk.injEq] at hzz
  obtain ⟨hz0, hz1, hz2⟩ := hzz
  obtain ⟨v', w', hr, hown, hg⟩ := run_append_arg_grows (P := Tryd.prog) W 22 o.type 5 i0 (.int .u8 0) 1 1 Tryd.underlying22 hi hz0 hz1 hz2 rfl (by decide) ⟨gb, 0, none⟩ n n (L.map (Value.int .u8)) (by simp [hn])
    (fun j u hj => by
      rw [Lib.add_plain, Nat.zero_add]
      obtain ⟨hl, rfl⟩ := List.getElem?_eq_some_iff.1 hj
      have hl' : j < L.length := by simpa using hl
      rw [List.getElem_map, hO j hl', List.getD_eq_getElem?_getD, List.getElem?_eq_getElem hl', Option.getD_some])
    ⟨gx, 0, none⟩ 1 1 [.int .u8 y] rfl
    (fun j u hj => by
      rw [Lib.add_plain, Nat.zero_add]
      obtain ⟨hl, rfl⟩ := List.getElem?_eq_some_iff.1 hj
      obtain rfl : j = 0 := by simpa using hl
      exact hX 0 (by simp)) (by omega) (by simp only [maxLen]; omega) (by omega)
  rw [if_pos hw]
  unfold Oper.wp execOp
  simp only [ho, resolve, invoke, builtin, Sem.run_bind, Sem.run_pure, Result.andThen_ok, List.map_toArray, List.map_cons, List.map_nil, hs, hx, hr]
  obtain ⟨g, cap, rfl, hbg, hlt⟩ := hown.form (by omega)
  have ho2 := (octs_row (n := n + 1) (c := cap) (g := g) (base := W.heap.size) (l := L ++ [y]) (by rw [List.map_append]; exact hown)).2.2.2
  exact h g cap w' ho2 ((Below.refl _ _).grown hg (Nat.le_refl _) (fun k hk => by cases hk))
theorem eq_yieldsB (S : World → Prop) {oi : Oper} {a : Act} (x y : Operand) (ho : oi.op = .binOp .eql 27 x y 27) (n : Int) (xs : List Int) (m : Int) (ys : List Int) (hx : a.eval x = .agg (oidC n xs)) (hy : a.eval y = .agg (oidC m ys)) (lx : xs.length = 16) (ly : ys.length = 16) {b : Bool} (h : decide (n = m ∧ xs = ys) = b) : ∀ W, S W → (execOp a.eval oi).run Tryd.prog W = .ok (.value (.bool b)) W := by
  intro W hS
  have hq := eqlO n xs m ys lx ly W
  rw [h] at hq
  unfold execOp
  simp only [ho, hx, hy, Sem.run_bind, run_eqGuard_agg W .eql 27 x y _ _ guardO, hq, Result.andThen_ok, Sem.run_pure]
theorem neq_yieldsB (S : World → Prop) {oi : Oper} {a : Act} (x y : Operand) (ho : oi.op = .binOp .neq 27 x y 27) (n : Int) (xs : List Int) (m : Int) (ys : List Int) (hx : a.eval x = .agg (oidC n xs)) (hy : a.eval y = .agg (oidC m ys)) (lx : xs.length = 16) (ly : ys.length = 16) {b : Bool} (h : decide (n = m ∧ xs = ys) = b) : ∀ W, S W → (execOp a.eval oi).run Tryd.prog W = .ok (.value (.bool (!b))) W := by
  intro W hS
  have hq := neqO n xs m ys lx ly W
  rw [h] at hq
  unfold execOp
  simp only [ho, hx, hy, Sem.run_bind, run_eqGuard_agg W .neq 27 x y _ _ guardO, hq, Result.andThen_ok, Sem.run_pure]
theorem px_one (W : World) (h : Tabs W) : Calls Tryd.prog 14 #[.string (⟨txK.toArray⟩ ++ ⟨#[46, 49]⟩), oidV 0 Z16, .int .i64 3] W fun e w' => e = .returned (.bool true) ∧ Below W.heap.size W w' := by
  rw [show (⟨txK.toArray⟩ : ByteArray) ++ ⟨#[46, 49]⟩ = ⟨(txK ++ [46, 49]).toArray⟩ from strs txK [46, 49]]
  exact parsed_is (txK ++ [46, 49]) 0 Z16 3 0 3 Z16 true W (by decide) h rfl txK_one (by decide)
theorem px_x (W : World) (h : Tabs W) : Calls Tryd.prog 14 #[.string (⟨txK.toArray⟩ ++ ⟨#[46, 120]⟩), oidV 0 Z16, .int .i64 6] W fun e w' => e = .returned (.bool true) ∧ Below W.heap.size W w' := by
  rw [show (⟨txK.toArray⟩ : ByteArray) ++ ⟨#[46, 120]⟩ = ⟨(txK ++ [46, 120]).toArray⟩ from strs txK [46, 120]]
  exact parsed_is (txK ++ [46, 120]) 0 Z16 6 0 6 Z16 true W (by decide) h rfl txK_x (by decide)
def kn14T : Bool × List (List Nat × List Nat) := (true, [([], []), ([0], [0]), ([1], [1]), ([2], [2]), ([3, 2], [2, 3]), ([4, 2], [2, 4]), ([2, 5], [2, 5]), ([6, 2], [6]), ([7], [7]), ([8, 7, 7], [7, 8]), ([7], [7]), ([9, 10, 7], [7, 9, 10]), ([7, 11], [7, 11]), ([12, 9], [12]), ([13], [13]), ([13], [13]), ([14, 15, 13, 13], [13, 14, 15]), ([16, 13], [13, 16]), ([13, 17], [13, 17]), ([18, 16], [18]), ([19], [19]), ([19], [19]), ([20, 21, 19, 19], [19, 20, 21]), ([19], [19]), ([22, 23, 22, 19], [19, 22, 23]), ([24, 19], [19, 24]), ([19, 25], [19, 25]), ([26, 24], [26]), ([27], [27]), ([27], [27]), ([28, 29, 27, 27], [27, 28, 29]), ([30, 27], [27, 30]), ([27, 31], [27, 31]), ([32, 30], [32]), ([33], [33]), ([34, 33], [33, 34]), ([33], [33]), ([35, 36, 33, 33], [33, 35, 36]), ([37, 33], [33, 37]), ([33, 38], [33, 38]), ([39, 37], [39]), ([40], [40]), ([41, 40], [40, 41]), ([40], [40]), ([42, 43, 40, 40], [40, 42, 43]), ([44, 40], [40, 44]), ([40, 45], [40, 45])])
def kn14B : List Nat := [0, 1, 3, 7, 15, 31, 63, 127, 255, 511, 255, 2047, 4095, 8191, 16383, 16383, 65535, 131071, 262143, 524287, 1048575, 1048575, 4194303, 1048575, 16777215, 33554431, 67108863, 134217727, 268435455, 268435455, 1073741823, 2147483647, 4294967295, 8589934591, 17179869183, 34359738367, 17179869183, 137438953471, 274877906943, 549755813887, 1099511627775, 2199023255551, 4398046511103, 2199023255551, 17592186044415, 35184372088831, 70368744177663]
theorem kn14T_is : rtab .any (opsOf Tryd.f7 14) = kn14T := by kernel_rfl
theorem kn14B_is : waitsOk kn14T.2 kn14B = true := by kernel_rfl
def kn16T : Bool × List (List Nat × List Nat) := (true, [([], []), ([0], [0]), ([], []), ([1, 2], [1, 2]), ([3, 1], [3]), ([4], [4]), ([5, 4, 4], [4, 5]), ([4], [4]), ([6, 7, 4], [4, 6, 7]), ([4, 8], [4, 8]), ([9, 6], [9]), ([10], [10]), ([11, 10, 10], [10, 11]), ([10], [10]), ([12, 13, 10], [10, 12, 13]), ([10, 14], [10, 14]), ([15, 12], [15]), ([16], [16]), ([17, 16, 16], [16, 17]), ([16], [16]), ([18, 19, 16], [16, 18, 19]), ([16, 20], [16, 20]), ([21, 18], [21]), ([22], [22]), ([23, 22, 22], [22, 23]), ([22], [22]), ([24, 25, 22], [22, 24, 25]), ([22, 26], [22, 26]), ([27, 24], [27]), ([28], [28]), ([29, 28, 28], [28, 29]), ([28], [28]), ([30, 31, 28], [28, 30, 31]), ([28, 32], [28, 32]), ([33, 30], [33]), ([34, 34], [34]), ([34], [34]), ([35, 36, 34], [34, 35, 36]), ([34, 37], [34, 37]), ([38, 35], [38]), ([39], [39]), ([39], [39]), ([41, 39, 39], [39, 41]), ([40, 42, 42, 39], [39, 40, 42]), ([39, 43], [39, 43]), ([44, 43], [44]), ([45], [45]), ([45], [45]), ([47, 45, 45], [45, 47]), ([46, 48, 48, 45], [45, 46, 48]), ([45, 49], [45, 49]), ([50, 49], [50]), ([51], [51]), ([51], [51]), ([53, 51, 51], [51, 53]), ([52, 54, 54, 51], [51, 52, 54]), ([51, 55], [51, 55]), ([56, 55], [56]), ([57], [57]), ([58, 57, 57], [57, 58]), ([57, 59], [57, 59]), ([60, 59], [60]), ([61], [61]), ([62, 61, 61], [61, 62]), ([61, 63], [61, 63]), ([64, 63], [64]), ([65], [65]), ([66, 65, 65], [65, 66]), ([65, 67], [65, 67]), ([68, 67], [68]), ([69, 69], [69]), ([69, 70], [69, 70]), ([71, 70, 0, 1, 2, 3, 4, 5, 6, 7, 8, 9, 10, 11, 12, 13, 14, 15, 16, 17, 18, 19, 20, 21, 22, 23, 24, 25, 26, 27, 28, 29, 30, 31, 32, 33, 34, 35, 36, 37, 38, 39, 40, 41, 42, 43, 44, 45, 46, 47, 48, 49, 50, 51, 52, 53, 54, 55, 56, 57, 58, 59, 60, 61, 62, 63, 64, 65, 66, 67, 68, 69, 70, 71], [71])])
def kn16B : List Nat := [0, 1, 0, 7, 15, 31, 63, 31, 255, 511, 1023, 2047, 4095, 2047, 16383, 32767, 65535, 131071, 262143, 131071, 1048575, 2097151, 4194303, 8388607, 16777215, 8388607, 67108863, 134217727, 268435455, 536870911, 1073741823, 536870911, 4294967295, 8589934591, 17179869183, 34359738367, 34359738367, 137438953471, 274877906943, 549755813887, 1099511627775, 1099511627775, 3298534883327, 8796093022207, 17592186044415, 35184372088831, 70368744177663, 70368744177663, 211106232532991, 562949953421311, 1125899906842623, 2251799813685247, 4503599627370495, 4503599627370495, 13510798882111487, 36028797018963967, 72057594037927935, 144115188075855871, 288230376151711743, 576460752303423487, 1152921504606846975, 2305843009213693951, 4611686018427387903, 9223372036854775807, 18446744073709551615, 36893488147419103231, 73786976294838206463, 147573952589676412927, 295147905179352825855, 590295810358705651711, 1180591620717411303423, 2361183241434822606847, 4722366482869645213695]
theorem kn16T_is : rtab .any (opsOf Tryd.f7 16) = kn16T := by kernel_rfl
theorem kn16B_is : waitsOk kn16T.2 kn16B = true := by kernel_rfl
set_option maxHeartbeats 64000000 in
theorem oidsKnown_walk (w : World) (hT : Tabs w) :
    Calls Tryd.prog 7 #[] w fun e w' => e = .returned (.bool true) ∧ Below w.heap.size w w' := by
  have HK := KN.start w hT
  go_enter Tryd.func7, Tryd.ntmps7
  go_upto_region 3 with fail
  change Code.wp _ _ _ _ ((w.alloc (.cells (numK.map (Value.int .u32)).toArray 24)).alloc (.cells (sizK.map (Value.int .i64)).toArray 3))
  generalize (w.alloc (.cells (numK.map (Value.int .u32)).toArray 24)).alloc (.cells (sizK.map (Value.int .i64)).toArray 3) = W0 at *
  go_upto_region 4 with fail
  go_loopw [3] (fun i wr => ∃ k : Nat, k ≤ 10 ∧ i = .int .i64 (k : Int) ∧ Hid (KN w wr)) (fun i _ => 10 - (intOf i).toNat)
  case atStart => exact ⟨0, Nat.zero_le _, rfl, Lib.hid HK⟩
  case round =>
    obtain ⟨k, hk, rfl, T0⟩ := hrel
    by_cases hlt : k < 10
    · have cN := T0.out.nat k hlt
      have hu := numK_u32 k hlt
      have hsz := numK_len k hlt
      have H3 := Lib.hid (fun W (hW : KN w W) => hW.nat k hlt)
      have H4 := Lib.hid (fun W (hW : KN w W) => hW.sat k hlt)
      generalize numK.getD k 0 = n at *
      generalize sizK.getD k 0 = z at *
      have hx3 : (pad [0, 0, n]).length = 16 := pad_len _ (by simp)
      have HX3 := Lib.hid hx3
      have HP := Lib.hid (fun W => put_is 3 3 (pad [0, 0, n]) (0 :: gl n) ((gl n).length + 1) W rfl (by decide) hx3 (pad3_u32 n hu) (pad3_chk n) (pad3_enc n) rfl)
      have HGE := Lib.hid (show getT (0 :: gl n) = (3, pad [0, 0, n], 0) by rw [← pad3_enc n]; exact get_enc (N := 3) hx3 (pad3_u32 n hu) (pad3_chk n))
      have HBY := Lib.hid (show Byt (0 :: gl n) from fun x hx => by rcases List.mem_cons.mp hx with rfl | hx; exact ⟨by decide, by decide⟩; exact glb n hu.1 hu.2 x hx)
      have HOF := Lib.hid (fun W g (hB : W.heap[g]? = some (.cells ([0, 0, n].map (Value.int .u32)).toArray 24 (0, 0))) => of_blk [0, 0, n] 3 g 3 (pad [0, 0, n]) W rfl (by simp) (pad3_of n).1 (pad3_of n).2 hB)
      have hg5 : (gl n).length ≤ 5 := (gl_len n).2
      generalize pad [0, 0, n] = x3 at *
      generalize hG : gl n = G at *
      have hzl : (1 : Int) + z = ((G.length + 1 : Nat) : Int) := by omega
      clear hx3 hu hG
      go_upto_region 7 with (first
        | (go_at_call 21; refine (HOF.out _ _ (blk_new _ _)).mono ?_; rintro e w1 ⟨rfl, hq⟩; have T1 := Lib.hid ((T0.out.next ((Below.refl _ _).alloc (Nat.le_refl _) _)).next hq); clear hq)
        | (go_at_call 11; refine (HP.out _).mono ?_; rintro e w2 ⟨gb, rfl, -, ho, hq⟩; have T2 := Lib.hid (T1.out.next hq); have O2 := Lib.hid ho; clear ho hq))
      have cN2 := H3.out _ T2.out
      have cS2 := H4.out _ T2.out
      go_wp2_with (first
        | (go_at_call 21; refine (HOF.out _ _ (blk_new _ _)).mono ?_; rintro e w3 ⟨rfl, hq⟩; have T3 := Lib.hid ((T2.out.next ((Below.refl _ _).alloc (Nat.le_refl _) _)).next hq); have O3 := Lib.hid ((O2.out.next ((Below.refl _ _).alloc (Nat.le_refl _) _)).next hq); clear hq)
        | (go_at_call 10; refine (read_is (0 :: G) (G.length + 1) gb (G.length + 1) 3 x3 0 3 0 x3 true _ rfl (by simp; omega) HBY.out HX3.out HGE.out (by simp) O3.out).mono ?_; rintro e w4 ⟨rfl, hq⟩; have T4 := Lib.hid (T3.out.next hq); clear hq))
      go_round
      case rel => exact ⟨k + 1, by omega, by go_num, T4⟩
      case measure => simp [intOf]; omega
    · obtain rfl : k = 10 := by omega
      have S0 := T0.out.st
      clear T0 hlt hk
      go_upto_region 10 with fail
      rw [zrow]
      have Z0 := blk_new wr (.cells (oidC 0 Z16) 27)
      replace S0 := S0.alloc (.cells (oidC 0 Z16) 27)
      change Code.wp _ _ _ _ (wr.alloc (.cells (oidC 0 Z16) 27))
      generalize wr.alloc (.cells (oidC 0 Z16) 27) = w6 at *
      generalize wr.heap.size = gz at *
      go_upto_region 11 with fail
      have B7 := blk_new w6 (.cells (arK7.map (Value.int .u32)).toArray 24)
      replace S0 := S0.alloc (.cells (arK7.map (Value.int .u32)).toArray 24)
      replace Z0 := blk_alloc Z0 (.cells (arK7.map (Value.int .u32)).toArray 24)
      change Code.wp _ _ _ _ (w6.alloc (.cells (arK7.map (Value.int .u32)).toArray 24))
      generalize w6.alloc (.cells (arK7.map (Value.int .u32)).toArray 24) = w7 at *
      generalize w6.heap.size = g7 at *
      go_upto_region 12 with (first
        | (go_at_call 21; refine (ofAR B7).mono ?_; rintro e w8 ⟨rfl, hq⟩; replace S0 := S0.next hq; replace Z0 := blk_below Z0 hq; clear hq B7)
        | ((with_reducible refine gate_store rfl ?_); refine wpList_plain rfl fun K hK => ?_; refine wp_store_row 27 _ _ rfl w8.heap.size (oidC 16 arK) rfl rfl 27 (oidC 0 Z16) (blk_new w8 _) (oid_info _ _ rfl) rfl (oid_one _ _) ?_; refine hK _ _ ?_))
      have O0 := boxed_at w8 16 arK
      replace S0 := S0.next (boxed_below w8 16 arK)
      replace Z0 := blk_below Z0 (boxed_below w8 16 arK)
      rw [zrow]
      change Code.wp _ _ _ _ (boxed w8 16 arK)
      generalize boxed w8 16 arK = w9 at *
      generalize w8.heap.size = g8 at *
      go_upto_region 14 with (first
        | ((with_reducible refine gate_dst (N := 58) rfl ?_); (try (refine gate_guard (by rfl) ?_; dsimp only)); refine wpList_load_row rfl 27 _ rfl (g8) rfl 27 (oidC 16 arK) (0, 0) _ O0 Tryd.underlying27 rfl (oid_info _ _ rfl) ?_)
        | (go_at_call 11; refine (put_is 16 16 arK encL 23 _ rfl (by decide) rfl arK_u arK_c encL_is rfl).mono ?_; rintro e w10 ⟨gb, rfl, -, ho, hq⟩; replace S0 := S0.next hq; replace Z0 := blk_below Z0 hq; replace O0 := blk_below O0 hq; clear hq)
        | ((with_reducible refine gate_dst (N := 62) rfl ?_); (try (refine gate_guard (by rfl) ?_; dsimp only)); refine wpList_load_row rfl 27 _ rfl (g8) rfl 27 (oidC 16 arK) (0, 0) _ O0 Tryd.underlying27 rfl (oid_info _ _ rfl) ?_)
        | (go_at_call 15; refine (text_is 16 16 arK txK _ rfl (by decide) rfl arK_u arK_c S0.t txK_txt).mono ?_; rintro e w11 ⟨rfl, hq⟩; have HX : KE gz g8 gb w w11 := ⟨S0.next hq, blk_below Z0 hq, blk_below O0 hq, ho.next hq⟩; clear hq S0 Z0 O0 ho))
      replace HX := HX.next (Below.refl _ _).drew
      refine start_ (n := 47) (S := fun W => KE gz g8 gb w W) (ds := []) #[false, false, false, false, false, false, false, false, false, false, false, false, false, false, false, false, false, false, false, false, false, false, false, false, false, false, false, false, false, false, false, false, false, false, false, false, false, false, false, false, false, false, false, false, false, false, false] (by kernel_rfl) rfl rfl HX (fun HS => ?_)
      refine with_tabW kn14T_is kn14B_is (fun HT_ HW_ => ?_)
      generalize w11.drew = wd at *
      refine take_ (i := 0) (N := some 64) (v := ?_) (a' := ?_) #[true, false, false, false, false, false, false, false, false, false, false, false, false, false, false, false, false, false, false, false, false, false, false, false, false, false, false, false, false, false, false, false, false, false, false, false, false, false, false, false, false, false, false, false, false, false, false] rfl rfl (take_ofW HT_.out HW_.out (by kernel_rfl)) (fun _ _ _ h => h) (Or.inl ⟨by rfl, ?_⟩) (by assumption) ?_ ?_
      rotate_left
      · rintro W' hS'
        go_simp
        with_reducible rfl
      rotate_left
      · simp only [Act.put, List.setIfInBounds_toArray, List.set_cons_zero, List.set_cons_succ, i64_w, i32_w]
        rfl
      refine take_ (i := 1) (N := some 65) (v := ?_) (a' := ?_) #[true, true, false, false, false, false, false, false, false, false, false, false, false, false, false, false, false, false, false, false, false, false, false, false, false, false, false, false, false, false, false, false, false, false, false, false, false, false, false, false, false, false, false, false, false, false, false] rfl rfl (take_ofW HT_.out HW_.out (by kernel_rfl)) (fun _ _ _ h => h) (Or.inl ⟨by rfl, ?_⟩) (by assumption) ?_ ?_
      rotate_left
      · rintro W' hS'
        go_simp
        with_reducible rfl
      rotate_left
      · simp only [Act.put, List.setIfInBounds_toArray, List.set_cons_zero, List.set_cons_succ, i64_w, i32_w]
        rfl
      refine take_ (i := 2) (N := some 66) (v := ?_) (a' := ?_) #[true, true, true, false, false, false, false, false, false, false, false, false, false, false, false, false, false, false, false, false, false, false, false, false, false, false, false, false, false, false, false, false, false, false, false, false, false, false, false, false, false, false, false, false, false, false, false] rfl rfl (take_ofW HT_.out HW_.out (by kernel_rfl)) (fun _ _ _ h => h) (Or.inl ⟨by rfl, ?_⟩) (by assumption) ?_ ?_
      rotate_left
      · rintro W' hS'
        go_simp
        with_reducible rfl
      rotate_left
      · simp only [Act.put, List.setIfInBounds_toArray, List.set_cons_zero, List.set_cons_succ, i64_w, i32_w]
        rfl
      refine take_ (i := 3) (N := some 67) (v := ?_) (a' := ?_) #[true, true, true, true, false, false, false, false, false, false, false, false, false, false, false, false, false, false, false, false, false, false, false, false, false, false, false, false, false, false, false, false, false, false, false, false, false, false, false, false, false, false, false, false, false, false, false] rfl rfl (take_ofW HT_.out HW_.out (by kernel_rfl)) (fun _ _ _ h => h) (Or.inl ⟨by rfl, ?_⟩) (by assumption) ?_ ?_
      rotate_left
      · rintro W' hS'
        go_simp
        with_reducible rfl
      rotate_left
      · simp only [Act.put, List.setIfInBounds_toArray, List.set_cons_zero, List.set_cons_succ, i64_w, i32_w]
        rfl
      refine take_ (i := 4) (N := some 68) (v := ?_) (a' := ?_) #[true, true, true, true, true, false, false, false, false, false, false, false, false, false, false, false, false, false, false, false, false, false, false, false, false, false, false, false, false, false, false, false, false, false, false, false, false, false, false, false, false, false, false, false, false, false, false] rfl rfl (take_ofW HT_.out HW_.out (by kernel_rfl)) (fun _ _ _ h => h) (Or.inl ⟨by rfl, ?_⟩) (by assumption) ?_ ?_
      rotate_left
      · rintro W' hS'
        go_simp
        with_reducible rfl
      rotate_left
      · simp only [Act.put, List.setIfInBounds_toArray, List.set_cons_zero, List.set_cons_succ, i64_w, i32_w]
        rfl
      refine take_ (i := 5) (N := some 69) (v := ?_) (a' := ?_) #[true, true, true, true, true, true, false, false, false, false, false, false, false, false, false, false, false, false, false, false, false, false, false, false, false, false, false, false, false, false, false, false, false, false, false, false, false, false, false, false, false, false, false, false, false, false, false] rfl rfl (take_ofW HT_.out HW_.out (by kernel_rfl)) (fun _ _ _ h => h) (Or.inl ⟨by rfl, ?_⟩) (by assumption) ?_ ?_
      rotate_left
      · rintro W' hS'
        go_simp
        with_reducible rfl
      rotate_left
      · simp only [Act.put, List.setIfInBounds_toArray, List.set_cons_zero, List.set_cons_succ, i64_w, i32_w]
        rfl
      refine take_ (i := 6) (N := some 70) (v := ?_) (a' := ?_) #[true, true, true, true, true, true, true, false, false, false, false, false, false, false, false, false, false, false, false, false, false, false, false, false, false, false, false, false, false, false, false, false, false, false, false, false, false, false, false, false, false, false, false, false, false, false, false] rfl rfl (take_ofW HT_.out HW_.out (by kernel_rfl)) (fun _ _ _ h => h) (Or.inl ⟨by rfl, ?_⟩) (by assumption) ?_ ?_
      rotate_left
      · rintro W' hS'
        go_simp
        with_reducible rfl
      rotate_left
      · simp only [Act.put, List.setIfInBounds_toArray, List.set_cons_zero, List.set_cons_succ, i64_w, i32_w]
        rfl
      refine take_ (i := 7) (N := some 71) (v := ?_) (a' := ?_) #[true, true, true, true, true, true, true, true, false, false, false, false, false, false, false, false, false, false, false, false, false, false, false, false, false, false, false, false, false, false, false, false, false, false, false, false, false, false, false, false, false, false, false, false, false, false, false] rfl rfl (take_ofW HT_.out HW_.out (by kernel_rfl)) (fun _ _ _ h => h) (Or.inl ⟨by rfl, ?_⟩) (by assumption) ?_ ?_
      rotate_left
      · rintro W' hS'
        go_simp
        with_reducible rfl
      rotate_left
      · simp only [Act.put, List.setIfInBounds_toArray, List.set_cons_zero, List.set_cons_succ, i64_w, i32_w]
        rfl
      refine take_ (i := 8) (N := some 72) (v := ?_) (a' := ?_) #[true, true, true, true, true, true, true, true, true, false, false, false, false, false, false, false, false, false, false, false, false, false, false, false, false, false, false, false, false, false, false, false, false, false, false, false, false, false, false, false, false, false, false, false, false, false, false] rfl rfl (take_ofW HT_.out HW_.out (by kernel_rfl)) (fun _ _ _ h => h) (Or.inl ⟨by rfl, ?_⟩) (by assumption) ?_ ?_
      rotate_left
      · rintro W' hS'
        go_simp
        with_reducible rfl
      rotate_left
      · simp only [Act.put, List.setIfInBounds_toArray, List.set_cons_zero, List.set_cons_succ, i64_w, i32_w]
        rfl
      refine take_ (i := 10) (N := some 74) (v := ?_) (a' := ?_) #[true, true, true, true, true, true, true, true, true, false, true, false, false, false, false, false, false, false, false, false, false, false, false, false, false, false, false, false, false, false, false, false, false, false, false, false, false, false, false, false, false, false, false, false, false, false, false] rfl rfl (take_ofW HT_.out HW_.out (by kernel_rfl)) (fun _ _ _ h => h) (Or.inl ⟨by rfl, ?_⟩) (by assumption) ?_ ?_
      rotate_left
      · refine load_yields (fun W => KE gz g8 gb w W) 27 (.tmp 6) ?_ gz ?_ 27 (oidC 0 Z16) _ (fun W h => KE.z h) Tryd.underlying27 rfl (oid_info _ _ rfl)
        · rfl
        · rfl
      rotate_left
      · simp only [Act.put, List.setIfInBounds_toArray, List.set_cons_zero, List.set_cons_succ, i64_w, i32_w]
        rfl
      refine one_ (i := 9) (N := some 73) #[true, true, true, true, true, true, true, true, true, true, true, false, false, false, false, false, false, false, false, false, false, false, false, false, false, false, false, false, false, false, false, false, false, false, false, false, false, false, false, false, false, false, false, false, false, false, false] rfl rfl (one_of HT_.out (by kernel_rfl)) (by decide) (fun K hK => ?_)
      refine goes_ Tryd.func21 (by kernel_rfl) rfl #[.slice (some ⟨g7, 0, none⟩) 17 17] (by rfl) rfl rfl (by (try simp only [List.map_toArray, List.map_cons, List.map_nil]); first | done | rfl) ?_
      refine (of17 _ g7).mono ?_
      rintro e wd ⟨rfl, hq⟩
      refine ⟨_, rfl, ?_⟩
      replace HX := HX.next hq
      clear hq
      refine hK.out _ _ HX (fun HS => ?_)
      clear hK K
      refine norm_ (a' := ?_) ?_ ?_
      rotate_left
      · show Act.put _ (some 73) _ = _
        simp only [Act.put, List.setIfInBounds_toArray, List.set_cons_zero, List.set_cons_succ, i64_w, i32_w]
        rfl
      refine take_ (i := 11) (N := some 75) (v := ?_) (a' := ?_) #[true, true, true, true, true, true, true, true, true, true, true, true, false, false, false, false, false, false, false, false, false, false, false, false, false, false, false, false, false, false, false, false, false, false, false, false, false, false, false, false, false, false, false, false, false, false, false] rfl rfl (take_ofW HT_.out HW_.out (by kernel_rfl)) (fun _ _ _ h => h) (Or.inl ⟨by rfl, ?_⟩) (by assumption) ?_ ?_
      rotate_left
      · refine neq_yieldsB (fun W => KE gz g8 gb w W) (.tmp 73) (.tmp 74) ?_ 0 Z16 0 Z16 ?_ ?_ rfl rfl (b := true) (by decide)
        · rfl
        · rfl
        · rfl
      rotate_left
      · simp only [Act.put, List.setIfInBounds_toArray, List.set_cons_zero, List.set_cons_succ, i64_w, i32_w]
        rfl
      refine take_ (i := 12) (N := some 76) (v := ?_) (a' := ?_) #[true, true, true, true, true, true, true, true, true, true, true, true, true, false, false, false, false, false, false, false, false, false, false, false, false, false, false, false, false, false, false, false, false, false, false, false, false, false, false, false, false, false, false, false, false, false, false] rfl rfl (take_ofW HT_.out HW_.out (by kernel_rfl)) (fun _ _ _ h => h) (Or.inl ⟨by rfl, ?_⟩) (by assumption) ?_ ?_
      rotate_left
      · rintro W' hS'
        go_simp
        with_reducible rfl
      rotate_left
      · simp only [Act.put, List.setIfInBounds_toArray, List.set_cons_zero, List.set_cons_succ, i64_w, i32_w]
        rfl
      refine take_ (i := 13) (N := some 77) (v := ?_) (a' := ?_) #[true, true, true, true, true, true, true, true, true, true, true, true, true, true, false, false, false, false, false, false, false, false, false, false, false, false, false, false, false, false, false, false, false, false, false, false, false, false, false, false, false, false, false, false, false, false, false] rfl rfl (take_ofW HT_.out HW_.out (by kernel_rfl)) (fun _ _ _ h => h) (Or.inl ⟨by rfl, ?_⟩) (by assumption) ?_ ?_
      rotate_left
      · rintro W' hS'
        go_simp
        with_reducible rfl
      rotate_left
      · simp only [Act.put, List.setIfInBounds_toArray, List.set_cons_zero, List.set_cons_succ, i64_w, i32_w]
        rfl
      refine take_ (i := 14) (N := some 78) (v := ?_) (a' := ?_) #[true, true, true, true, true, true, true, true, true, true, true, true, true, true, true, false, false, false, false, false, false, false, false, false, false, false, false, false, false, false, false, false, false, false, false, false, false, false, false, false, false, false, false, false, false, false, false] rfl rfl (take_ofW HT_.out HW_.out (by kernel_rfl)) (fun _ _ _ h => h) (Or.inl ⟨by rfl, ?_⟩) (by assumption) ?_ ?_
      rotate_left
      · rintro W' hS'
        go_simp
        with_reducible rfl
      rotate_left
      · simp only [Act.put, List.setIfInBounds_toArray, List.set_cons_zero, List.set_cons_succ, i64_w, i32_w]
        rfl
      refine take_ (i := 15) (N := some 79) (v := ?_) (a' := ?_) #[true, true, true, true, true, true, true, true, true, true, true, true, true, true, true, true, false, false, false, false, false, false, false, false, false, false, false, false, false, false, false, false, false, false, false, false, false, false, false, false, false, false, false, false, false, false, false] rfl rfl (take_ofW HT_.out HW_.out (by kernel_rfl)) (fun _ _ _ h => h) (Or.inl ⟨by rfl, ?_⟩) (by assumption) ?_ ?_
      rotate_left
      · refine load_yields (fun W => KE gz g8 gb w W) 27 (.tmp 8) ?_ g8 ?_ 27 (oidC 16 arK) _ (fun W h => KE.o h) Tryd.underlying27 rfl (oid_info _ _ rfl)
        · rfl
        · rfl
      rotate_left
      · simp only [Act.put, List.setIfInBounds_toArray, List.set_cons_zero, List.set_cons_succ, i64_w, i32_w]
        rfl
      refine one_ (i := 16) (N := some 80) #[true, true, true, true, true, true, true, true, true, true, true, true, true, true, true, true, true, false, false, false, false, false, false, false, false, false, false, false, false, false, false, false, false, false, false, false, false, false, false, false, false, false, false, false, false, false, false] rfl rfl (one_of HT_.out (by kernel_rfl)) (by decide) (fun K hK => ?_)
      refine goes_ Tryd.func10 (by kernel_rfl) rfl #[.slice (some ⟨gb, 0, none⟩) 23 23, oidV 16 arK, .int .i64 0] (by rfl) rfl rfl (by (try simp only [List.map_toArray, List.map_cons, List.map_nil]); first | done | rfl) ?_
      refine (read_is encL 23 gb 23 16 arK 0 16 0 arK true _ rfl (by decide) encL_b rfl getE (by decide) HX.b).mono ?_
      rintro e wd ⟨rfl, hq⟩
      refine ⟨_, rfl, ?_⟩
      replace HX := HX.next hq
      clear hq
      refine hK.out _ _ HX (fun HS => ?_)
      clear hK K
      refine norm_ (a' := ?_) ?_ ?_
      rotate_left
      · show Act.put _ (some 80) _ = _
        simp only [Act.put, List.setIfInBounds_toArray, List.set_cons_zero, List.set_cons_succ, i64_w, i32_w]
        rfl
      refine take_ (i := 17) (N := some 81) (v := ?_) (a' := ?_) #[true, true, true, true, true, true, true, true, true, true, true, true, true, true, true, true, true, true, false, false, false, false, false, false, false, false, false, false, false, false, false, false, false, false, false, false, false, false, false, false, false, false, false, false, false, false, false] rfl rfl (take_ofW HT_.out HW_.out (by kernel_rfl)) (fun _ _ _ h => h) (Or.inl ⟨by rfl, ?_⟩) (by assumption) ?_ ?_
      rotate_left
      · rintro W' hS'
        go_simp
        with_reducible rfl
      rotate_left
      · simp only [Act.put, List.setIfInBounds_toArray, List.set_cons_zero, List.set_cons_succ, i64_w, i32_w]
        rfl
      refine take_ (i := 18) (N := some 82) (v := ?_) (a' := ?_) #[true, true, true, true, true, true, true, true, true, true, true, true, true, true, true, true, true, true, true, false, false, false, false, false, false, false, false, false, false, false, false, false, false, false, false, false, false, false, false, false, false, false, false, false, false, false, false] rfl rfl (take_ofW HT_.out HW_.out (by kernel_rfl)) (fun _ _ _ h => h) (Or.inl ⟨by rfl, ?_⟩) (by assumption) ?_ ?_
      rotate_left
      · rintro W' hS'
        go_simp
        with_reducible rfl
      rotate_left
      · simp only [Act.put, List.setIfInBounds_toArray, List.set_cons_zero, List.set_cons_succ, i64_w, i32_w]
        rfl
      refine take_ (i := 19) (N := some 83) (v := ?_) (a' := ?_) #[true, true, true, true, true, true, true, true, true, true, true, true, true, true, true, true, true, true, true, true, false, false, false, false, false, false, false, false, false, false, false, false, false, false, false, false, false, false, false, false, false, false, false, false, false, false, false] rfl rfl (take_ofW HT_.out HW_.out (by kernel_rfl)) (fun _ _ _ h => h) (Or.inl ⟨by rfl, ?_⟩) (by assumption) ?_ ?_
      rotate_left
      · rintro W' hS'
        go_simp
        with_reducible rfl
      rotate_left
      · simp only [Act.put, List.setIfInBounds_toArray, List.set_cons_zero, List.set_cons_succ, i64_w, i32_w]
        rfl
      refine take_ (i := 20) (N := some 84) (v := ?_) (a' := ?_) #[true, true, true, true, true, true, true, true, true, true, true, true, true, true, true, true, true, true, true, true, true, false, false, false, false, false, false, false, false, false, false, false, false, false, false, false, false, false, false, false, false, false, false, false, false, false, false] rfl rfl (take_ofW HT_.out HW_.out (by kernel_rfl)) (fun _ _ _ h => h) (Or.inl ⟨by rfl, ?_⟩) (by assumption) ?_ ?_
      rotate_left
      · rintro W' hS'
        go_simp
        with_reducible rfl
      rotate_left
      · simp only [Act.put, List.setIfInBounds_toArray, List.set_cons_zero, List.set_cons_succ, i64_w, i32_w]
        rfl
      refine take_ (i := 23) (N := some 87) (v := ?_) (a' := ?_) #[true, true, true, true, true, true, true, true, true, true, true, true, true, true, true, true, true, true, true, true, true, false, false, true, false, false, false, false, false, false, false, false, false, false, false, false, false, false, false, false, false, false, false, false, false, false, false] rfl rfl (take_ofW HT_.out HW_.out (by kernel_rfl)) (fun _ _ _ h => h) (Or.inl ⟨by rfl, ?_⟩) (by assumption) ?_ ?_
      rotate_left
      · refine load_yields (fun W => KE gz g8 gb w W) 27 (.tmp 6) ?_ gz ?_ 27 (oidC 0 Z16) _ (fun W h => KE.z h) Tryd.underlying27 rfl (oid_info _ _ rfl)
        · rfl
        · rfl
      rotate_left
      · simp only [Act.put, List.setIfInBounds_toArray, List.set_cons_zero, List.set_cons_succ, i64_w, i32_w]
        rfl
      refine one_ (i := 21) (N := some 85) #[true, true, true, true, true, true, true, true, true, true, true, true, true, true, true, true, true, true, true, true, true, true, false, true, false, false, false, false, false, false, false, false, false, false, false, false, false, false, false, false, false, false, false, false, false, false, false] rfl rfl (one_of HT_.out (by kernel_rfl)) (by decide) (fun K hK => ?_)
      refine value_ (by rfl) (N := some 85) rfl (v := .slice (some ⟨wd.heap.size, 0, none⟩) 1 1) (w1 := World.alloc wd (.cells #[.int .u8 1] 5)) (by go_simp) ?_
      replace HX := HX.alloc (.cells #[.int .u8 1] 5)
      have BX := Lib.hid (octs_new wd 1)
      generalize hsz : wd.heap.size = gx at *
      clear hsz
      generalize World.alloc wd (.cells #[.int .u8 1] 5) = we at *
      refine hK.out _ _ HX (fun HS => ?_)
      clear hK K
      refine norm_ (a' := ?_) ?_ ?_
      rotate_left
      · show Act.put _ (some 85) _ = _
        simp only [Act.put, List.setIfInBounds_toArray, List.set_cons_zero, List.set_cons_succ, i64_w, i32_w]
        rfl
      refine one_ (i := 22) (N := some 86) #[true, true, true, true, true, true, true, true, true, true, true, true, true, true, true, true, true, true, true, true, true, true, true, true, false, false, false, false, false, false, false, false, false, false, false, false, false, false, false, false, false, false, false, false, false, false, false] rfl rfl (one_of HT_.out (by kernel_rfl)) (by decide) (fun K hK => ?_)
      refine append_in (by rfl) (.tmp 84) (.tmp 85) rfl gb gx encL 23 rfl (by decide) 1 rfl rfl HX.b BX.out (some 86) rfl (fun gy cap wd hO hq => ?_)
      have OX := Lib.hid hO
      replace HX := HX.next hq
      clear hO hq BX HS
      refine hK.out _ _ HX (fun HS => ?_)
      clear hK K
      refine norm_ (a' := ?_) ?_ ?_
      rotate_left
      · show Act.put _ (some 86) _ = _
        simp only [Act.put, List.setIfInBounds_toArray, List.set_cons_zero, List.set_cons_succ, i64_w, i32_w]
        rfl
      refine one_ (i := 24) (N := some 88) #[true, true, true, true, true, true, true, true, true, true, true, true, true, true, true, true, true, true, true, true, true, true, true, true, true, false, false, false, false, false, false, false, false, false, false, false, false, false, false, false, false, false, false, false, false, false, false] rfl rfl (one_of HT_.out (by kernel_rfl)) (by decide) (fun K hK => ?_)
      refine goes_ Tryd.func10 (by kernel_rfl) rfl #[.slice (some ⟨gy, 0, none⟩) (23 + 1) cap, oidV 0 Z16, .int .i64 3] (by rfl) rfl rfl (by (try simp only [List.map_toArray, List.map_cons, List.map_nil]); first | done | rfl) ?_
      refine (read_is (encL ++ [1]) 24 gy cap 0 Z16 3 0 3 Z16 true _ rfl (by decide) encL1_b rfl getE1 (by decide) OX.out).mono ?_
      rintro e wd ⟨rfl, hq⟩
      refine ⟨_, rfl, ?_⟩
      replace HX := HX.next hq
      clear hq OX HS
      refine hK.out _ _ HX (fun HS => ?_)
      clear hK K
      refine norm_ (a' := ?_) ?_ ?_
      rotate_left
      · show Act.put _ (some 88) _ = _
        simp only [Act.put, List.setIfInBounds_toArray, List.set_cons_zero, List.set_cons_succ, i64_w, i32_w]
        rfl
      refine take_ (i := 25) (N := some 89) (v := ?_) (a' := ?_) #[true, true, true, true, true, true, true, true, true, true, true, true, true, true, true, true, true, true, true, true, true, true, true, true, true, true, false, false, false, false, false, false, false, false, false, false, false, false, false, false, false, false, false, false, false, false, false] rfl rfl (take_ofW HT_.out HW_.out (by kernel_rfl)) (fun _ _ _ h => h) (Or.inl ⟨by rfl, ?_⟩) (by assumption) ?_ ?_
      rotate_left
      · rintro W' hS'
        go_simp
        with_reducible rfl
      rotate_left
      · simp only [Act.put, List.setIfInBounds_toArray, List.set_cons_zero, List.set_cons_succ, i64_w, i32_w]
        rfl
      refine take_ (i := 26) (N := some 90) (v := ?_) (a' := ?_) #[true, true, true, true, true, true, true, true, true, true, true, true, true, true, true, true, true, true, true, true, true, true, true, true, true, true, true, false, false, false, false, false, false, false, false, false, false, false, false, false, false, false, false, false, false, false, false] rfl rfl (take_ofW HT_.out HW_.out (by kernel_rfl)) (fun _ _ _ h => h) (Or.inl ⟨by rfl, ?_⟩) (by assumption) ?_ ?_
      rotate_left
      · rintro W' hS'
        go_simp
        with_reducible rfl
      rotate_left
      · simp only [Act.put, List.setIfInBounds_toArray, List.set_cons_zero, List.set_cons_succ, i64_w, i32_w]
        rfl
      refine take_ (i := 27) (N := some 91) (v := ?_) (a' := ?_) #[true, true, true, true, true, true, true, true, true, true, true, true, true, true, true, true, true, true, true, true, true, true, true, true, true, true, true, true, false, false, false, false, false, false, false, false, false, false, false, false, false, false, false, false, false, false, false] rfl rfl (take_ofW HT_.out HW_.out (by kernel_rfl)) (fun _ _ _ h => h) (Or.inl ⟨by rfl, ?_⟩) (by assumption) ?_ ?_
      rotate_left
      · rintro W' hS'
        go_simp
        with_reducible rfl
      rotate_left
      · simp only [Act.put, List.setIfInBounds_toArray, List.set_cons_zero, List.set_cons_succ, i64_w, i32_w]
        rfl
      refine take_ (i := 28) (N := some 92) (v := ?_) (a' := ?_) #[true, true, true, true, true, true, true, true, true, true, true, true, true, true, true, true, true, true, true, true, true, true, true, true, true, true, true, true, true, false, false, false, false, false, false, false, false, false, false, false, false, false, false, false, false, false, false] rfl rfl (take_ofW HT_.out HW_.out (by kernel_rfl)) (fun _ _ _ h => h) (Or.inl ⟨by rfl, ?_⟩) (by assumption) ?_ ?_
      rotate_left
      · rintro W' hS'
        go_simp
        with_reducible rfl
      rotate_left
      · simp only [Act.put, List.setIfInBounds_toArray, List.set_cons_zero, List.set_cons_succ, i64_w, i32_w]
        rfl
      refine take_ (i := 29) (N := some 93) (v := ?_) (a' := ?_) #[true, true, true, true, true, true, true, true, true, true, true, true, true, true, true, true, true, true, true, true, true, true, true, true, true, true, true, true, true, true, false, false, false, false, false, false, false, false, false, false, false, false, false, false, false, false, false] rfl rfl (take_ofW HT_.out HW_.out (by kernel_rfl)) (fun _ _ _ h => h) (Or.inl ⟨by rfl, ?_⟩) (by assumption) ?_ ?_
      rotate_left
      · refine load_yields (fun W => KE gz g8 gb w W) 27 (.tmp 8) ?_ g8 ?_ 27 (oidC 16 arK) _ (fun W h => KE.o h) Tryd.underlying27 rfl (oid_info _ _ rfl)
        · rfl
        · rfl
      rotate_left
      · simp only [Act.put, List.setIfInBounds_toArray, List.set_cons_zero, List.set_cons_succ, i64_w, i32_w]
        rfl
      refine one_ (i := 30) (N := some 94) #[true, true, true, true, true, true, true, true, true, true, true, true, true, true, true, true, true, true, true, true, true, true, true, true, true, true, true, true, true, true, true, false, false, false, false, false, false, false, false, false, false, false, false, false, false, false, false] rfl rfl (one_of HT_.out (by kernel_rfl)) (by decide) (fun K hK => ?_)
      refine goes_ Tryd.func14 (by kernel_rfl) rfl #[.string ⟨txK.toArray⟩, oidV 16 arK, .int .i64 0] (by rfl) rfl rfl (by (try simp only [List.map_toArray, List.map_cons, List.map_nil]); first | done | rfl) ?_
      refine (parsed_is txK 16 arK 0 16 0 arK true _ (by decide) HX.st.t rfl txK_parse (by decide)).mono ?_
      rintro e wd ⟨rfl, hq⟩
      refine ⟨_, rfl, ?_⟩
      replace HX := HX.next hq
      clear hq
      refine hK.out _ _ HX (fun HS => ?_)
      clear hK K
      refine norm_ (a' := ?_) ?_ ?_
      rotate_left
      · show Act.put _ (some 94) _ = _
        simp only [Act.put, List.setIfInBounds_toArray, List.set_cons_zero, List.set_cons_succ, i64_w, i32_w]
        rfl
      refine take_ (i := 31) (N := some 95) (v := ?_) (a' := ?_) #[true, true, true, true, true, true, true, true, true, true, true, true, true, true, true, true, true, true, true, true, true, true, true, true, true, true, true, true, true, true, true, true, false, false, false, false, false, false, false, false, false, false, false, false, false, false, false] rfl rfl (take_ofW HT_.out HW_.out (by kernel_rfl)) (fun _ _ _ h => h) (Or.inl ⟨by rfl, ?_⟩) (by assumption) ?_ ?_
      rotate_left
      · rintro W' hS'
        go_simp
        with_reducible rfl
      rotate_left
      · simp only [Act.put, List.setIfInBounds_toArray, List.set_cons_zero, List.set_cons_succ, i64_w, i32_w]
        rfl
      refine take_ (i := 32) (N := some 96) (v := ?_) (a' := ?_) #[true, true, true, true, true, true, true, true, true, true, true, true, true, true, true, true, true, true, true, true, true, true, true, true, true, true, true, true, true, true, true, true, true, false, false, false, false, false, false, false, false, false, false, false, false, false, false] rfl rfl (take_ofW HT_.out HW_.out (by kernel_rfl)) (fun _ _ _ h => h) (Or.inl ⟨by rfl, ?_⟩) (by assumption) ?_ ?_
      rotate_left
      · rintro W' hS'
        go_simp
        with_reducible rfl
      rotate_left
      · simp only [Act.put, List.setIfInBounds_toArray, List.set_cons_zero, List.set_cons_succ, i64_w, i32_w]
        rfl
      refine take_ (i := 33) (N := some 97) (v := ?_) (a' := ?_) #[true, true, true, true, true, true, true, true, true, true, true, true, true, true, true, true, true, true, true, true, true, true, true, true, true, true, true, true, true, true, true, true, true, true, false, false, false, false, false, false, false, false, false, false, false, false, false] rfl rfl (take_ofW HT_.out HW_.out (by kernel_rfl)) (fun _ _ _ h => h) (Or.inl ⟨by rfl, ?_⟩) (by assumption) ?_ ?_
      rotate_left
      · rintro W' hS'
        go_simp
        with_reducible rfl
      rotate_left
      · simp only [Act.put, List.setIfInBounds_toArray, List.set_cons_zero, List.set_cons_succ, i64_w, i32_w]
        rfl
      refine take_ (i := 34) (N := some 98) (v := ?_) (a' := ?_) #[true, true, true, true, true, true, true, true, true, true, true, true, true, true, true, true, true, true, true, true, true, true, true, true, true, true, true, true, true, true, true, true, true, true, true, false, false, false, false, false, false, false, false, false, false, false, false] rfl rfl (take_ofW HT_.out HW_.out (by kernel_rfl)) (fun _ _ _ h => h) (Or.inl ⟨by rfl, ?_⟩) (by assumption) ?_ ?_
      rotate_left
      · rintro W' hS'
        go_simp
        with_reducible rfl
      rotate_left
      · simp only [Act.put, List.setIfInBounds_toArray, List.set_cons_zero, List.set_cons_succ, i64_w, i32_w]
        rfl
      refine take_ (i := 35) (N := some 99) (v := ?_) (a' := ?_) #[true, true, true, true, true, true, true, true, true, true, true, true, true, true, true, true, true, true, true, true, true, true, true, true, true, true, true, true, true, true, true, true, true, true, true, true, false, false, false, false, false, false, false, false, false, false, false] rfl rfl (take_ofW HT_.out HW_.out (by kernel_rfl)) (fun _ _ _ h => h) (Or.inl ⟨by rfl, ?_⟩) (by assumption) ?_ ?_
      rotate_left
      · rintro W' hS'
        go_simp
        rw [if_neg (by have := txK_len; omega)]
      rotate_left
      · simp only [Act.put, List.setIfInBounds_toArray, List.set_cons_zero, List.set_cons_succ, i64_w, i32_w]
        rfl
      refine take_ (i := 36) (N := some 100) (v := ?_) (a' := ?_) #[true, true, true, true, true, true, true, true, true, true, true, true, true, true, true, true, true, true, true, true, true, true, true, true, true, true, true, true, true, true, true, true, true, true, true, true, true, false, false, false, false, false, false, false, false, false, false] rfl rfl (take_ofW HT_.out HW_.out (by kernel_rfl)) (fun _ _ _ h => h) (Or.inl ⟨by rfl, ?_⟩) (by assumption) ?_ ?_
      rotate_left
      · refine load_yields (fun W => KE gz g8 gb w W) 27 (.tmp 6) ?_ gz ?_ 27 (oidC 0 Z16) _ (fun W h => KE.z h) Tryd.underlying27 rfl (oid_info _ _ rfl)
        · rfl
        · rfl
      rotate_left
      · simp only [Act.put, List.setIfInBounds_toArray, List.set_cons_zero, List.set_cons_succ, i64_w, i32_w]
        rfl
      refine one_ (i := 37) (N := some 101) #[true, true, true, true, true, true, true, true, true, true, true, true, true, true, true, true, true, true, true, true, true, true, true, true, true, true, true, true, true, true, true, true, true, true, true, true, true, true, false, false, false, false, false, false, false, false, false] rfl rfl (one_of HT_.out (by kernel_rfl)) (by decide) (fun K hK => ?_)
      refine goes_ Tryd.func14 (by kernel_rfl) rfl #[.string (⟨txK.toArray⟩ ++ ⟨#[46, 49]⟩), oidV 0 Z16, .int .i64 3] (by rfl) rfl rfl (by (try simp only [List.map_toArray, List.map_cons, List.map_nil]); first | done | rfl) ?_
      refine (px_one _ HX.st.t).mono ?_
      rintro e wd ⟨rfl, hq⟩
      refine ⟨_, rfl, ?_⟩
      replace HX := HX.next hq
      clear hq
      refine hK.out _ _ HX (fun HS => ?_)
      clear hK K
      refine norm_ (a' := ?_) ?_ ?_
      rotate_left
      · show Act.put _ (some 101) _ = _
        simp only [Act.put, List.setIfInBounds_toArray, List.set_cons_zero, List.set_cons_succ, i64_w, i32_w]
        rfl
      refine take_ (i := 38) (N := some 102) (v := ?_) (a' := ?_) #[true, true, true, true, true, true, true, true, true, true, true, true, true, true, true, true, true, true, true, true, true, true, true, true, true, true, true, true, true, true, true, true, true, true, true, true, true, true, true, false, false, false, false, false, false, false, false] rfl rfl (take_ofW HT_.out HW_.out (by kernel_rfl)) (fun _ _ _ h => h) (Or.inl ⟨by rfl, ?_⟩) (by assumption) ?_ ?_
      rotate_left
      · rintro W' hS'
        go_simp
        with_reducible rfl
      rotate_left
      · simp only [Act.put, List.setIfInBounds_toArray, List.set_cons_zero, List.set_cons_succ, i64_w, i32_w]
        rfl
      refine take_ (i := 39) (N := some 103) (v := ?_) (a' := ?_) #[true, true, true, true, true, true, true, true, true, true, true, true, true, true, true, true, true, true, true, true, true, true, true, true, true, true, true, true, true, true, true, true, true, true, true, true, true, true, true, true, false, false, false, false, false, false, false] rfl rfl (take_ofW HT_.out HW_.out (by kernel_rfl)) (fun _ _ _ h => h) (Or.inl ⟨by rfl, ?_⟩) (by assumption) ?_ ?_
      rotate_left
      · rintro W' hS'
        go_simp
        with_reducible rfl
      rotate_left
      · simp only [Act.put, List.setIfInBounds_toArray, List.set_cons_zero, List.set_cons_succ, i64_w, i32_w]
        rfl
      refine take_ (i := 40) (N := some 104) (v := ?_) (a' := ?_) #[true, true, true, true, true, true, true, true, true, true, true, true, true, true, true, true, true, true, true, true, true, true, true, true, true, true, true, true, true, true, true, true, true, true, true, true, true, true, true, true, true, false, false, false, false, false, false] rfl rfl (take_ofW HT_.out HW_.out (by kernel_rfl)) (fun _ _ _ h => h) (Or.inl ⟨by rfl, ?_⟩) (by assumption) ?_ ?_
      rotate_left
      · rintro W' hS'
        go_simp
        with_reducible rfl
      rotate_left
      · simp only [Act.put, List.setIfInBounds_toArray, List.set_cons_zero, List.set_cons_succ, i64_w, i32_w]
        rfl
      refine take_ (i := 41) (N := some 105) (v := ?_) (a' := ?_) #[true, true, true, true, true, true, true, true, true, true, true, true, true, true, true, true, true, true, true, true, true, true, true, true, true, true, true, true, true, true, true, true, true, true, true, true, true, true, true, true, true, true, false, false, false, false, false] rfl rfl (take_ofW HT_.out HW_.out (by kernel_rfl)) (fun _ _ _ h => h) (Or.inl ⟨by rfl, ?_⟩) (by assumption) ?_ ?_
      rotate_left
      · rintro W' hS'
        go_simp
        with_reducible rfl
      rotate_left
      · simp only [Act.put, List.setIfInBounds_toArray, List.set_cons_zero, List.set_cons_succ, i64_w, i32_w]
        rfl
      refine take_ (i := 42) (N := some 106) (v := ?_) (a' := ?_) #[true, true, true, true, true, true, true, true, true, true, true, true, true, true, true, true, true, true, true, true, true, true, true, true, true, true, true, true, true, true, true, true, true, true, true, true, true, true, true, true, true, true, true, false, false, false, false] rfl rfl (take_ofW HT_.out HW_.out (by kernel_rfl)) (fun _ _ _ h => h) (Or.inl ⟨by rfl, ?_⟩) (by assumption) ?_ ?_
      rotate_left
      · rintro W' hS'
        go_simp
        rw [if_neg (by have := txK_len; omega)]
      rotate_left
      · simp only [Act.put, List.setIfInBounds_toArray, List.set_cons_zero, List.set_cons_succ, i64_w, i32_w]
        rfl
      refine take_ (i := 43) (N := some 107) (v := ?_) (a' := ?_) #[true, true, true, true, true, true, true, true, true, true, true, true, true, true, true, true, true, true, true, true, true, true, true, true, true, true, true, true, true, true, true, true, true, true, true, true, true, true, true, true, true, true, true, true, false, false, false] rfl rfl (take_ofW HT_.out HW_.out (by kernel_rfl)) (fun _ _ _ h => h) (Or.inl ⟨by rfl, ?_⟩) (by assumption) ?_ ?_
      rotate_left
      · refine load_yields (fun W => KE gz g8 gb w W) 27 (.tmp 6) ?_ gz ?_ 27 (oidC 0 Z16) _ (fun W h => KE.z h) Tryd.underlying27 rfl (oid_info _ _ rfl)
        · rfl
        · rfl
      rotate_left
      · simp only [Act.put, List.setIfInBounds_toArray, List.set_cons_zero, List.set_cons_succ, i64_w, i32_w]
        rfl
      refine one_ (i := 44) (N := some 108) #[true, true, true, true, true, true, true, true, true, true, true, true, true, true, true, true, true, true, true, true, true, true, true, true, true, true, true, true, true, true, true, true, true, true, true, true, true, true, true, true, true, true, true, true, true, false, false] rfl rfl (one_of HT_.out (by kernel_rfl)) (by decide) (fun K hK => ?_)
      refine goes_ Tryd.func14 (by kernel_rfl) rfl #[.string (⟨txK.toArray⟩ ++ ⟨#[46, 120]⟩), oidV 0 Z16, .int .i64 6] (by rfl) rfl rfl (by (try simp only [List.map_toArray, List.map_cons, List.map_nil]); first | done | rfl) ?_
      refine (px_x _ HX.st.t).mono ?_
      rintro e wd ⟨rfl, hq⟩
      refine ⟨_, rfl, ?_⟩
      replace HX := HX.next hq
      clear hq
      refine hK.out _ _ HX (fun HS => ?_)
      clear hK K
      refine norm_ (a' := ?_) ?_ ?_
      rotate_left
      · show Act.put _ (some 108) _ = _
        simp only [Act.put, List.setIfInBounds_toArray, List.set_cons_zero, List.set_cons_succ, i64_w, i32_w]
        rfl
      refine take_ (i := 45) (N := some 109) (v := ?_) (a' := ?_) #[true, true, true, true, true, true, true, true, true, true, true, true, true, true, true, true, true, true, true, true, true, true, true, true, true, true, true, true, true, true, true, true, true, true, true, true, true, true, true, true, true, true, true, true, true, true, false] rfl rfl (take_ofW HT_.out HW_.out (by kernel_rfl)) (fun _ _ _ h => h) (Or.inl ⟨by rfl, ?_⟩) (by assumption) ?_ ?_
      rotate_left
      · rintro W' hS'
        go_simp
        with_reducible rfl
      rotate_left
      · simp only [Act.put, List.setIfInBounds_toArray, List.set_cons_zero, List.set_cons_succ, i64_w, i32_w]
        rfl
      refine take_ (i := 46) (N := some 110) (v := ?_) (a' := ?_) #[true, true, true, true, true, true, true, true, true, true, true, true, true, true, true, true, true, true, true, true, true, true, true, true, true, true, true, true, true, true, true, true, true, true, true, true, true, true, true, true, true, true, true, true, true, true, true] rfl rfl (take_ofW HT_.out HW_.out (by kernel_rfl)) (fun _ _ _ h => h) (Or.inl ⟨by rfl, ?_⟩) (by assumption) ?_ ?_
      rotate_left
      · rintro W' hS'
        go_simp
        with_reducible rfl
      rotate_left
      · simp only [Act.put, List.setIfInBounds_toArray, List.set_cons_zero, List.set_cons_succ, i64_w, i32_w]
        rfl
      refine done_ (done_of HT_.out (by kernel_rfl)) ?_
      go_upto_region 16 with fail
      clear HS
      replace HX := HX.next (Below.refl _ _).drew
      refine start_ (n := 73) (S := fun W => KE gz g8 gb w W) (ds := []) #[false, false, false, false, false, false, false, false, false, false, false, false, false, false, false, false, false, false, false, false, false, false, false, false, false, false, false, false, false, false, false, false, false, false, false, false, false, false, false, false, false, false, false, false, false, false, false, false, false, false, false, false, false, false, false, false, false, false, false, false, false, false, false, false, false, false, false, false, false, false, false, false, false] (by kernel_rfl) rfl rfl HX (fun HS => ?_)
      refine with_tabW kn16T_is kn16B_is (fun HT_ HW_ => ?_)
      generalize World.drew _ = wd at *
      refine take_ (i := 2) (N := some 113) (v := ?_) (a' := ?_) #[false, false, true, false, false, false, false, false, false, false, false, false, false, false, false, false, false, false, false, false, false, false, false, false, false, false, false, false, false, false, false, false, false, false, false, false, false, false, false, false, false, false, false, false, false, false, false, false, false, false, false, false, false, false, false, false, false, false, false, false, false, false, false, false, false, false, false, false, false, false, false, false, false] rfl rfl (take_ofW HT_.out HW_.out (by kernel_rfl)) (fun _ _ _ h => h) (Or.inl ⟨by rfl, ?_⟩) (by assumption) ?_ ?_
      rotate_left
      · refine load_yields (fun W => KE gz g8 gb w W) 27 (.tmp 6) ?_ gz ?_ 27 (oidC 0 Z16) _ (fun W h => KE.z h) Tryd.underlying27 rfl (oid_info _ _ rfl)
        · rfl
        · rfl
      rotate_left
      · simp only [Act.put, List.setIfInBounds_toArray, List.set_cons_zero, List.set_cons_succ, i64_w, i32_w]
        rfl
      refine one_ (i := 0) (N := some 111) #[true, false, true, false, false, false, false, false, false, false, false, false, false, false, false, false, false, false, false, false, false, false, false, false, false, false, false, false, false, false, false, false, false, false, false, false, false, false, false, false, false, false, false, false, false, false, false, false, false, false, false, false, false, false, false, false, false, false, false, false, false, false, false, false, false, false, false, false, false, false, false, false, false] rfl rfl (one_of HT_.out (by kernel_rfl)) (by decide) (fun K hK => ?_)
      refine value_ (by rfl) (N := some 111) rfl (v := .slice (some ⟨wd.heap.size, 0, none⟩) 2 2) (w1 := World.alloc wd (.cells #[.int .u32 2, .int .u32 4294967216] 24)) (by go_simp) ?_
      replace HX := HX.alloc (.cells #[.int .u32 2, .int .u32 4294967216] 24)
      have BX := Lib.hid (blk_new wd (.cells #[.int .u32 2, .int .u32 4294967216] 24))
      generalize hsz : wd.heap.size = gx at *
      clear hsz
      generalize World.alloc wd (.cells #[.int .u32 2, .int .u32 4294967216] 24) = we at *
      refine hK.out _ _ HX (fun HS => ?_)
      clear hK K
      refine norm_ (a' := ?_) ?_ ?_
      rotate_left
      · show Act.put _ (some 111) _ = _
        simp only [Act.put, List.setIfInBounds_toArray, List.set_cons_zero, List.set_cons_succ, i64_w, i32_w]
        rfl
      refine one_ (i := 1) (N := some 112) #[true, true, true, false, false, false, false, false, false, false, false, false, false, false, false, false, false, false, false, false, false, false, false, false, false, false, false, false, false, false, false, false, false, false, false, false, false, false, false, false, false, false, false, false, false, false, false, false, false, false, false, false, false, false, false, false, false, false, false, false, false, false, false, false, false, false, false, false, false, false, false, false, false] rfl rfl (one_of HT_.out (by kernel_rfl)) (by decide) (fun K hK => ?_)
      refine goes_ Tryd.func21 (by kernel_rfl) rfl #[.slice (some ⟨gx, 0, none⟩) 2 2] (by rfl) rfl rfl (by (try simp only [List.map_toArray, List.map_cons, List.map_nil]); first | done | rfl) ?_
      refine (of_blk [2, 4294967216] 2 _ 0 Z16 _ rfl (by decide) (by decide) (by decide) BX.out).mono ?_
      rintro e wd ⟨rfl, hq⟩
      refine ⟨_, rfl, ?_⟩
      replace HX := HX.next hq
      clear hq BX HS
      refine hK.out _ _ HX (fun HS => ?_)
      clear hK K
      refine norm_ (a' := ?_) ?_ ?_
      rotate_left
      · show Act.put _ (some 112) _ = _
        simp only [Act.put, List.setIfInBounds_toArray, List.set_cons_zero, List.set_cons_succ, i64_w, i32_w]
        rfl
      refine take_ (i := 3) (N := some 114) (v := ?_) (a' := ?_) #[true, true, true, true, false, false, false, false, false, false, false, false, false, false, false, false, false, false, false, false, false, false, false, false, false, false, false, false, false, false, false, false, false, false, false, false, false, false, false, false, false, false, false, false, false, false, false, false, false, false, false, false, false, false, false, false, false, false, false, false, false, false, false, false, false, false, false, false, false, false, false, false, false] rfl rfl (take_ofW HT_.out HW_.out (by kernel_rfl)) (fun _ _ _ h => h) (Or.inl ⟨by rfl, ?_⟩) (by assumption) ?_ ?_
      rotate_left
      · refine eq_yieldsB (fun W => KE gz g8 gb w W) (.tmp 112) (.tmp 113) ?_ 0 Z16 0 Z16 ?_ ?_ rfl rfl (b := true) (by decide)
        · rfl
        · rfl
        · rfl
      rotate_left
      · simp only [Act.put, List.setIfInBounds_toArray, List.set_cons_zero, List.set_cons_succ, i64_w, i32_w]
        rfl
      refine take_ (i := 4) (N := some 115) (v := ?_) (a' := ?_) #[true, true, true, true, true, false, false, false, false, false, false, false, false, false, false, false, false, false, false, false, false, false, false, false, false, false, false, false, false, false, false, false, false, false, false, false, false, false, false, false, false, false, false, false, false, false, false, false, false, false, false, false, false, false, false, false, false, false, false, false, false, false, false, false, false, false, false, false, false, false, false, false, false] rfl rfl (take_ofW HT_.out HW_.out (by kernel_rfl)) (fun _ _ _ h => h) (Or.inl ⟨by rfl, ?_⟩) (by assumption) ?_ ?_
      rotate_left
      · rintro W' hS'
        go_simp
        with_reducible rfl
      rotate_left
      · simp only [Act.put, List.setIfInBounds_toArray, List.set_cons_zero, List.set_cons_succ, i64_w, i32_w]
        rfl
      refine take_ (i := 7) (N := some 118) (v := ?_) (a' := ?_) #[true, true, true, true, true, false, false, true, false, false, false, false, false, false, false, false, false, false, false, false, false, false, false, false, false, false, false, false, false, false, false, false, false, false, false, false, false, false, false, false, false, false, false, false, false, false, false, false, false, false, false, false, false, false, false, false, false, false, false, false, false, false, false, false, false, false, false, false, false, false, false, false, false] rfl rfl (take_ofW HT_.out HW_.out (by kernel_rfl)) (fun _ _ _ h => h) (Or.inl ⟨by rfl, ?_⟩) (by assumption) ?_ ?_
      rotate_left
      · refine load_yields (fun W => KE gz g8 gb w W) 27 (.tmp 6) ?_ gz ?_ 27 (oidC 0 Z16) _ (fun W h => KE.z h) Tryd.underlying27 rfl (oid_info _ _ rfl)
        · rfl
        · rfl
      rotate_left
      · simp only [Act.put, List.setIfInBounds_toArray, List.set_cons_zero, List.set_cons_succ, i64_w, i32_w]
        rfl
      refine one_ (i := 5) (N := some 116) #[true, true, true, true, true, true, false, true, false, false, false, false, false, false, false, false, false, false, false, false, false, false, false, false, false, false, false, false, false, false, false, false, false, false, false, false, false, false, false, false, false, false, false, false, false, false, false, false, false, false, false, false, false, false, false, false, false, false, false, false, false, false, false, false, false, false, false, false, false, false, false, false, false] rfl rfl (one_of HT_.out (by kernel_rfl)) (by decide) (fun K hK => ?_)
      refine value_ (by rfl) (N := some 116) rfl (v := .slice (some ⟨wd.heap.size, 0, none⟩) 2 2) (w1 := World.alloc wd (.cells #[.int .u32 0, .int .u32 39] 24)) (by go_simp) ?_
      replace HX := HX.alloc (.cells #[.int .u32 0, .int .u32 39] 24)
      have BX := Lib.hid (blk_new wd (.cells #[.int .u32 0, .int .u32 39] 24))
      generalize hsz : wd.heap.size = gx at *
      clear hsz
      generalize World.alloc wd (.cells #[.int .u32 0, .int .u32 39] 24) = we at *
      refine hK.out _ _ HX (fun HS => ?_)
      clear hK K
      refine norm_ (a' := ?_) ?_ ?_
      rotate_left
      · show Act.put _ (some 116) _ = _
        simp only [Act.put, List.setIfInBounds_toArray, List.set_cons_zero, List.set_cons_succ, i64_w, i32_w]
        rfl
      refine one_ (i := 6) (N := some 117) #[true, true, true, true, true, true, true, true, false, false, false, false, false, false, false, false, false, false, false, false, false, false, false, false, false, false, false, false, false, false, false, false, false, false, false, false, false, false, false, false, false, false, false, false, false, false, false, false, false, false, false, false, false, false, false, false, false, false, false, false, false, false, false, false, false, false, false, false, false, false, false, false, false] rfl rfl (one_of HT_.out (by kernel_rfl)) (by decide) (fun K hK => ?_)
      refine goes_ Tryd.func21 (by kernel_rfl) rfl #[.slice (some ⟨gx, 0, none⟩) 2 2] (by rfl) rfl rfl (by (try simp only [List.map_toArray, List.map_cons, List.map_nil]); first | done | rfl) ?_
      refine (of_blk [0, 39] 2 _ 2 [0, 39, 0, 0, 0, 0, 0, 0, 0, 0, 0, 0, 0, 0, 0, 0] _ rfl (by decide) (by decide) (by decide) BX.out).mono ?_
      rintro e wd ⟨rfl, hq⟩
      refine ⟨_, rfl, ?_⟩
      replace HX := HX.next hq
      clear hq BX HS
      refine hK.out _ _ HX (fun HS => ?_)
      clear hK K
      refine norm_ (a' := ?_) ?_ ?_
      rotate_left
      · show Act.put _ (some 117) _ = _
        simp only [Act.put, List.setIfInBounds_toArray, List.set_cons_zero, List.set_cons_succ, i64_w, i32_w]
        rfl
      refine take_ (i := 8) (N := some 119) (v := ?_) (a' := ?_) #[true, true, true, true, true, true, true, true, true, false, false, false, false, false, false, false, false, false, false, false, false, false, false, false, false, false, false, false, false, false, false, false, false, false, false, false, false, false, false, false, false, false, false, false, false, false, false, false, false, false, false, false, false, false, false, false, false, false, false, false, false, false, false, false, false, false, false, false, false, false, false, false, false] rfl rfl (take_ofW HT_.out HW_.out (by kernel_rfl)) (fun _ _ _ h => h) (Or.inl ⟨by rfl, ?_⟩) (by assumption) ?_ ?_
      rotate_left
      · refine neq_yieldsB (fun W => KE gz g8 gb w W) (.tmp 117) (.tmp 118) ?_ 2 [0, 39, 0, 0, 0, 0, 0, 0, 0, 0, 0, 0, 0, 0, 0, 0] 0 Z16 ?_ ?_ rfl rfl (b := false) (by decide)
        · rfl
        · rfl
        · rfl
      rotate_left
      · simp only [Act.put, List.setIfInBounds_toArray, List.set_cons_zero, List.set_cons_succ, i64_w, i32_w]
        rfl
      refine take_ (i := 9) (N := some 120) (v := ?_) (a' := ?_) #[true, true, true, true, true, true, true, true, true, true, false, false, false, false, false, false, false, false, false, false, false, false, false, false, false, false, false, false, false, false, false, false, false, false, false, false, false, false, false, false, false, false, false, false, false, false, false, false, false, false, false, false, false, false, false, false, false, false, false, false, false, false, false, false, false, false, false, false, false, false, false, false, false] rfl rfl (take_ofW HT_.out HW_.out (by kernel_rfl)) (fun _ _ _ h => h) (Or.inl ⟨by rfl, ?_⟩) (by assumption) ?_ ?_
      rotate_left
      · rintro W' hS'
        go_simp
        with_reducible rfl
      rotate_left
      · simp only [Act.put, List.setIfInBounds_toArray, List.set_cons_zero, List.set_cons_succ, i64_w, i32_w]
        rfl
      refine take_ (i := 10) (N := some 121) (v := ?_) (a' := ?_) #[true, true, true, true, true, true, true, true, true, true, true, false, false, false, false, false, false, false, false, false, false, false, false, false, false, false, false, false, false, false, false, false, false, false, false, false, false, false, false, false, false, false, false, false, false, false, false, false, false, false, false, false, false, false, false, false, false, false, false, false, false, false, false, false, false, false, false, false, false, false, false, false, false] rfl rfl (take_ofW HT_.out HW_.out (by kernel_rfl)) (fun _ _ _ h => h) (Or.inl ⟨by rfl, ?_⟩) (by assumption) ?_ ?_
      rotate_left
      · rintro W' hS'
        go_simp
        with_reducible rfl
      rotate_left
      · simp only [Act.put, List.setIfInBounds_toArray, List.set_cons_zero, List.set_cons_succ, i64_w, i32_w]
        rfl
      refine take_ (i := 13) (N := some 124) (v := ?_) (a' := ?_) #[true, true, true, true, true, true, true, true, true, true, true, false, false, true, false, false, false, false, false, false, false, false, false, false, false, false, false, false, false, false, false, false, false, false, false, false, false, false, false, false, false, false, false, false, false, false, false, false, false, false, false, false, false, false, false, false, false, false, false, false, false, false, false, false, false, false, false, false, false, false, false, false, false] rfl rfl (take_ofW HT_.out HW_.out (by kernel_rfl)) (fun _ _ _ h => h) (Or.inl ⟨by rfl, ?_⟩) (by assumption) ?_ ?_
      rotate_left
      · refine load_yields (fun W => KE gz g8 gb w W) 27 (.tmp 6) ?_ gz ?_ 27 (oidC 0 Z16) _ (fun W h => KE.z h) Tryd.underlying27 rfl (oid_info _ _ rfl)
        · rfl
        · rfl
      rotate_left
      · simp only [Act.put, List.setIfInBounds_toArray, List.set_cons_zero, List.set_cons_succ, i64_w, i32_w]
        rfl
      refine one_ (i := 11) (N := some 122) #[true, true, true, true, true, true, true, true, true, true, true, true, false, true, false, false, false, false, false, false, false, false, false, false, false, false, false, false, false, false, false, false, false, false, false, false, false, false, false, false, false, false, false, false, false, false, false, false, false, false, false, false, false, false, false, false, false, false, false, false, false, false, false, false, false, false, false, false, false, false, false, false, false] rfl rfl (one_of HT_.out (by kernel_rfl)) (by decide) (fun K hK => ?_)
      refine value_ (by rfl) (N := some 122) rfl (v := .slice (some ⟨wd.heap.size, 0, none⟩) 2 2) (w1 := World.alloc wd (.cells #[.int .u32 1, .int .u32 39] 24)) (by go_simp) ?_
      replace HX := HX.alloc (.cells #[.int .u32 1, .int .u32 39] 24)
      have BX := Lib.hid (blk_new wd (.cells #[.int .u32 1, .int .u32 39] 24))
      generalize hsz : wd.heap.size = gx at *
      clear hsz
      generalize World.alloc wd (.cells #[.int .u32 1, .int .u32 39] 24) = we at *
      refine hK.out _ _ HX (fun HS => ?_)
      clear hK K
      refine norm_ (a' := ?_) ?_ ?_
      rotate_left
      · show Act.put _ (some 122) _ = _
        simp only [Act.put, List.setIfInBounds_toArray, List.set_cons_zero, List.set_cons_succ, i64_w, i32_w]
        rfl
      refine one_ (i := 12) (N := some 123) #[true, true, true, true, true, true, true, true, true, true, true, true, true, true, false, false, false, false, false, false, false, false, false, false, false, false, false, false, false, false, false, false, false, false, false, false, false, false, false, false, false, false, false, false, false, false, false, false, false, false, false, false, false, false, false, false, false, false, false, false, false, false, false, false, false, false, false, false, false, false, false, false, false] rfl rfl (one_of HT_.out (by kernel_rfl)) (by decide) (fun K hK => ?_)
      refine goes_ Tryd.func21 (by kernel_rfl) rfl #[.slice (some ⟨gx, 0, none⟩) 2 2] (by rfl) rfl rfl (by (try simp only [List.map_toArray, List.map_cons, List.map_nil]); first | done | rfl) ?_
      refine (of_blk [1, 39] 2 _ 2 [1, 39, 0, 0, 0, 0, 0, 0, 0, 0, 0, 0, 0, 0, 0, 0] _ rfl (by decide) (by decide) (by decide) BX.out).mono ?_
      rintro e wd ⟨rfl, hq⟩
      refine ⟨_, rfl, ?_⟩
      replace HX := HX.next hq
      clear hq BX HS
      refine hK.out _ _ HX (fun HS => ?_)
      clear hK K
      refine norm_ (a' := ?_) ?_ ?_
      rotate_left
      · show Act.put _ (some 123) _ = _
        simp only [Act.put, List.setIfInBounds_toArray, List.set_cons_zero, List.set_cons_succ, i64_w, i32_w]
        rfl
      refine take_ (i := 14) (N := some 125) (v := ?_) (a' := ?_) #[true, true, true, true, true, true, true, true, true, true, true, true, true, true, true, false, false, false, false, false, false, false, false, false, false, false, false, false, false, false, false, false, false, false, false, false, false, false, false, false, false, false, false, false, false, false, false, false, false, false, false, false, false, false, false, false, false, false, false, false, false, false, false, false, false, false, false, false, false, false, false, false, false] rfl rfl (take_ofW HT_.out HW_.out (by kernel_rfl)) (fun _ _ _ h => h) (Or.inl ⟨by rfl, ?_⟩) (by assumption) ?_ ?_
      rotate_left
      · refine neq_yieldsB (fun W => KE gz g8 gb w W) (.tmp 123) (.tmp 124) ?_ 2 [1, 39, 0, 0, 0, 0, 0, 0, 0, 0, 0, 0, 0, 0, 0, 0] 0 Z16 ?_ ?_ rfl rfl (b := false) (by decide)
        · rfl
        · rfl
        · rfl
      rotate_left
      · simp only [Act.put, List.setIfInBounds_toArray, List.set_cons_zero, List.set_cons_succ, i64_w, i32_w]
        rfl
      refine take_ (i := 15) (N := some 126) (v := ?_) (a' := ?_) #[true, true, true, true, true, true, true, true, true, true, true, true, true, true, true, true, false, false, false, false, false, false, false, false, false, false, false, false, false, false, false, false, false, false, false, false, false, false, false, false, false, false, false, false, false, false, false, false, false, false, false, false, false, false, false, false, false, false, false, false, false, false, false, false, false, false, false, false, false, false, false, false, false] rfl rfl (take_ofW HT_.out HW_.out (by kernel_rfl)) (fun _ _ _ h => h) (Or.inl ⟨by rfl, ?_⟩) (by assumption) ?_ ?_
      rotate_left
      · rintro W' hS'
        go_simp
        with_reducible rfl
      rotate_left
      · simp only [Act.put, List.setIfInBounds_toArray, List.set_cons_zero, List.set_cons_succ, i64_w, i32_w]
        rfl
      refine take_ (i := 16) (N := some 127) (v := ?_) (a' := ?_) #[true, true, true, true, true, true, true, true, true, true, true, true, true, true, true, true, true, false, false, false, false, false, false, false, false, false, false, false, false, false, false, false, false, false, false, false, false, false, false, false, false, false, false, false, false, false, false, false, false, false, false, false, false, false, false, false, false, false, false, false, false, false, false, false, false, false, false, false, false, false, false, false, false] rfl rfl (take_ofW HT_.out HW_.out (by kernel_rfl)) (fun _ _ _ h => h) (Or.inl ⟨by rfl, ?_⟩) (by assumption) ?_ ?_
      rotate_left
      · rintro W' hS'
        go_simp
        with_reducible rfl
      rotate_left
      · simp only [Act.put, List.setIfInBounds_toArray, List.set_cons_zero, List.set_cons_succ, i64_w, i32_w]
        rfl
      refine take_ (i := 19) (N := some 130) (v := ?_) (a' := ?_) #[true, true, true, true, true, true, true, true, true, true, true, true, true, true, true, true, true, false, false, true, false, false, false, false, false, false, false, false, false, false, false, false, false, false, false, false, false, false, false, false, false, false, false, false, false, false, false, false, false, false, false, false, false, false, false, false, false, false, false, false, false, false, false, false, false, false, false, false, false, false, false, false, false] rfl rfl (take_ofW HT_.out HW_.out (by kernel_rfl)) (fun _ _ _ h => h) (Or.inl ⟨by rfl, ?_⟩) (by assumption) ?_ ?_
      rotate_left
      · refine load_yields (fun W => KE gz g8 gb w W) 27 (.tmp 6) ?_ gz ?_ 27 (oidC 0 Z16) _ (fun W h => KE.z h) Tryd.underlying27 rfl (oid_info _ _ rfl)
        · rfl
        · rfl
      rotate_left
      · simp only [Act.put, List.setIfInBounds_toArray, List.set_cons_zero, List.set_cons_succ, i64_w, i32_w]
        rfl
      refine one_ (i := 17) (N := some 128) #[true, true, true, true, true, true, true, true, true, true, true, true, true, true, true, true, true, true, false, true, false, false, false, false, false, false, false, false, false, false, false, false, false, false, false, false, false, false, false, false, false, false, false, false, false, false, false, false, false, false, false, false, false, false, false, false, false, false, false, false, false, false, false, false, false, false, false, false, false, false, false, false, false] rfl rfl (one_of HT_.out (by kernel_rfl)) (by decide) (fun K hK => ?_)
      refine value_ (by rfl) (N := some 128) rfl (v := .slice (some ⟨wd.heap.size, 0, none⟩) 2 2) (w1 := World.alloc wd (.cells #[.int .u32 2, .int .u32 40] 24)) (by go_simp) ?_
      replace HX := HX.alloc (.cells #[.int .u32 2, .int .u32 40] 24)
      have BX := Lib.hid (blk_new wd (.cells #[.int .u32 2, .int .u32 40] 24))
      generalize hsz : wd.heap.size = gx at *
      clear hsz
      generalize World.alloc wd (.cells #[.int .u32 2, .int .u32 40] 24) = we at *
      refine hK.out _ _ HX (fun HS => ?_)
      clear hK K
      refine norm_ (a' := ?_) ?_ ?_
      rotate_left
      · show Act.put _ (some 128) _ = _
        simp only [Act.put, List.setIfInBounds_toArray, List.set_cons_zero, List.set_cons_succ, i64_w, i32_w]
        rfl
      refine one_ (i := 18) (N := some 129) #[true, true, true, true, true, true, true, true, true, true, true, true, true, true, true, true, true, true, true, true, false, false, false, false, false, false, false, false, false, false, false, false, false, false, false, false, false, false, false, false, false, false, false, false, false, false, false, false, false, false, false, false, false, false, false, false, false, false, false, false, false, false, false, false, false, false, false, false, false, false, false, false, false] rfl rfl (one_of HT_.out (by kernel_rfl)) (by decide) (fun K hK => ?_)
      refine goes_ Tryd.func21 (by kernel_rfl) rfl #[.slice (some ⟨gx, 0, none⟩) 2 2] (by rfl) rfl rfl (by (try simp only [List.map_toArray, List.map_cons, List.map_nil]); first | done | rfl) ?_
      refine (of_blk [2, 40] 2 _ 2 [2, 40, 0, 0, 0, 0, 0, 0, 0, 0, 0, 0, 0, 0, 0, 0] _ rfl (by decide) (by decide) (by decide) BX.out).mono ?_
      rintro e wd ⟨rfl, hq⟩
      refine ⟨_, rfl, ?_⟩
      replace HX := HX.next hq
      clear hq BX HS
      refine hK.out _ _ HX (fun HS => ?_)
      clear hK K
      refine norm_ (a' := ?_) ?_ ?_
      rotate_left
      · show Act.put _ (some 129) _ = _
        simp only [Act.put, List.setIfInBounds_toArray, List.set_cons_zero, List.set_cons_succ, i64_w, i32_w]
        rfl
      refine take_ (i := 20) (N := some 131) (v := ?_) (a' := ?_) #[true, true, true, true, true, true, true, true, true, true, true, true, true, true, true, true, true, true, true, true, true, false, false, false, false, false, false, false, false, false, false, false, false, false, false, false, false, false, false, false, false, false, false, false, false, false, false, false, false, false, false, false, false, false, false, false, false, false, false, false, false, false, false, false, false, false, false, false, false, false, false, false, false] rfl rfl (take_ofW HT_.out HW_.out (by kernel_rfl)) (fun _ _ _ h => h) (Or.inl ⟨by rfl, ?_⟩) (by assumption) ?_ ?_
      rotate_left
      · refine neq_yieldsB (fun W => KE gz g8 gb w W) (.tmp 129) (.tmp 130) ?_ 2 [2, 40, 0, 0, 0, 0, 0, 0, 0, 0, 0, 0, 0, 0, 0, 0] 0 Z16 ?_ ?_ rfl rfl (b := false) (by decide)
        · rfl
        · rfl
        · rfl
      rotate_left
      · simp only [Act.put, List.setIfInBounds_toArray, List.set_cons_zero, List.set_cons_succ, i64_w, i32_w]
        rfl
      refine take_ (i := 21) (N := some 132) (v := ?_) (a' := ?_) #[true, true, true, true, true, true, true, true, true, true, true, true, true, true, true, true, true, true, true, true, true, true, false, false, false, false, false, false, false, false, false, false, false, false, false, false, false, false, false, false, false, false, false, false, false, false, false, false, false, false, false, false, false, false, false, false, false, false, false, false, false, false, false, false, false, false, false, false, false, false, false, false, false] rfl rfl (take_ofW HT_.out HW_.out (by kernel_rfl)) (fun _ _ _ h => h) (Or.inl ⟨by rfl, ?_⟩) (by assumption) ?_ ?_
      rotate_left
      · rintro W' hS'
        go_simp
        with_reducible rfl
      rotate_left
      · simp only [Act.put, List.setIfInBounds_toArray, List.set_cons_zero, List.set_cons_succ, i64_w, i32_w]
        rfl
      refine take_ (i := 22) (N := some 133) (v := ?_) (a' := ?_) #[true, true, true, true, true, true, true, true, true, true, true, true, true, true, true, true, true, true, true, true, true, true, true, false, false, false, false, false, false, false, false, false, false, false, false, false, false, false, false, false, false, false, false, false, false, false, false, false, false, false, false, false, false, false, false, false, false, false, false, false, false, false, false, false, false, false, false, false, false, false, false, false, false] rfl rfl (take_ofW HT_.out HW_.out (by kernel_rfl)) (fun _ _ _ h => h) (Or.inl ⟨by rfl, ?_⟩) (by assumption) ?_ ?_
      rotate_left
      · rintro W' hS'
        go_simp
        with_reducible rfl
      rotate_left
      · simp only [Act.put, List.setIfInBounds_toArray, List.set_cons_zero, List.set_cons_succ, i64_w, i32_w]
        rfl
      refine take_ (i := 25) (N := some 136) (v := ?_) (a' := ?_) #[true, true, true, true, true, true, true, true, true, true, true, true, true, true, true, true, true, true, true, true, true, true, true, false, false, true, false, false, false, false, false, false, false, false, false, false, false, false, false, false, false, false, false, false, false, false, false, false, false, false, false, false, false, false, false, false, false, false, false, false, false, false, false, false, false, false, false, false, false, false, false, false, false] rfl rfl (take_ofW HT_.out HW_.out (by kernel_rfl)) (fun _ _ _ h => h) (Or.inl ⟨by rfl, ?_⟩) (by assumption) ?_ ?_
      rotate_left
      · refine load_yields (fun W => KE gz g8 gb w W) 27 (.tmp 6) ?_ gz ?_ 27 (oidC 0 Z16) _ (fun W h => KE.z h) Tryd.underlying27 rfl (oid_info _ _ rfl)
        · rfl
        · rfl
      rotate_left
      · simp only [Act.put, List.setIfInBounds_toArray, List.set_cons_zero, List.set_cons_succ, i64_w, i32_w]
        rfl
      refine one_ (i := 23) (N := some 134) #[true, true, true, true, true, true, true, true, true, true, true, true, true, true, true, true, true, true, true, true, true, true, true, true, false, true, false, false, false, false, false, false, false, false, false, false, false, false, false, false, false, false, false, false, false, false, false, false, false, false, false, false, false, false, false, false, false, false, false, false, false, false, false, false, false, false, false, false, false, false, false, false, false] rfl rfl (one_of HT_.out (by kernel_rfl)) (by decide) (fun K hK => ?_)
      refine value_ (by rfl) (N := some 134) rfl (v := .slice (some ⟨wd.heap.size, 0, none⟩) 2 2) (w1 := World.alloc wd (.cells #[.int .u32 3, .int .u32 0] 24)) (by go_simp) ?_
      replace HX := HX.alloc (.cells #[.int .u32 3, .int .u32 0] 24)
      have BX := Lib.hid (blk_new wd (.cells #[.int .u32 3, .int .u32 0] 24))
      generalize hsz : wd.heap.size = gx at *
      clear hsz
      generalize World.alloc wd (.cells #[.int .u32 3, .int .u32 0] 24) = we at *
      refine hK.out _ _ HX (fun HS => ?_)
      clear hK K
      refine norm_ (a' := ?_) ?_ ?_
      rotate_left
      · show Act.put _ (some 134) _ = _
        simp only [Act.put, List.setIfInBounds_toArray, List.set_cons_zero, List.set_cons_succ, i64_w, i32_w]
        rfl
      refine one_ (i := 24) (N := some 135) #[true, true, true, true, true, true, true, true, true, true, true, true, true, true, true, true, true, true, true, true, true, true, true, true, true, true, false, false, false, false, false, false, false, false, false, false, false, false, false, false, false, false, false, false, false, false, false, false, false, false, false, false, false, false, false, false, false, false, false, false, false, false, false, false, false, false, false, false, false, false, false, false, false] rfl rfl (one_of HT_.out (by kernel_rfl)) (by decide) (fun K hK => ?_)
      refine goes_ Tryd.func21 (by kernel_rfl) rfl #[.slice (some ⟨gx, 0, none⟩) 2 2] (by rfl) rfl rfl (by (try simp only [List.map_toArray, List.map_cons, List.map_nil]); first | done | rfl) ?_
      refine (of_blk [3, 0] 2 _ 0 Z16 _ rfl (by decide) (by decide) (by decide) BX.out).mono ?_
      rintro e wd ⟨rfl, hq⟩
      refine ⟨_, rfl, ?_⟩
      replace HX := HX.next hq
      clear hq BX HS
      refine hK.out _ _ HX (fun HS => ?_)
      clear hK K
      refine norm_ (a' := ?_) ?_ ?_
      rotate_left
      · show Act.put _ (some 135) _ = _
        simp only [Act.put, List.setIfInBounds_toArray, List.set_cons_zero, List.set_cons_succ, i64_w, i32_w]
        rfl
      refine take_ (i := 26) (N := some 137) (v := ?_) (a' := ?_) #[true, true, true, true, true, true, true, true, true, true, true, true, true, true, true, true, true, true, true, true, true, true, true, true, true, true, true, false, false, false, false, false, false, false, false, false, false, false, false, false, false, false, false, false, false, false, false, false, false, false, false, false, false, false, false, false, false, false, false, false, false, false, false, false, false, false, false, false, false, false, false, false, false] rfl rfl (take_ofW HT_.out HW_.out (by kernel_rfl)) (fun _ _ _ h => h) (Or.inl ⟨by rfl, ?_⟩) (by assumption) ?_ ?_
      rotate_left
      · refine eq_yieldsB (fun W => KE gz g8 gb w W) (.tmp 135) (.tmp 136) ?_ 0 Z16 0 Z16 ?_ ?_ rfl rfl (b := true) (by decide)
        · rfl
        · rfl
        · rfl
      rotate_left
      · simp only [Act.put, List.setIfInBounds_toArray, List.set_cons_zero, List.set_cons_succ, i64_w, i32_w]
        rfl
      refine take_ (i := 27) (N := some 138) (v := ?_) (a' := ?_) #[true, true, true, true, true, true, true, true, true, true, true, true, true, true, true, true, true, true, true, true, true, true, true, true, true, true, true, true, false, false, false, false, false, false, false, false, false, false, false, false, false, false, false, false, false, false, false, false, false, false, false, false, false, false, false, false, false, false, false, false, false, false, false, false, false, false, false, false, false, false, false, false, false] rfl rfl (take_ofW HT_.out HW_.out (by kernel_rfl)) (fun _ _ _ h => h) (Or.inl ⟨by rfl, ?_⟩) (by assumption) ?_ ?_
      rotate_left
      · rintro W' hS'
        go_simp
        with_reducible rfl
      rotate_left
      · simp only [Act.put, List.setIfInBounds_toArray, List.set_cons_zero, List.set_cons_succ, i64_w, i32_w]
        rfl
      refine take_ (i := 28) (N := some 139) (v := ?_) (a' := ?_) #[true, true, true, true, true, true, true, true, true, true, true, true, true, true, true, true, true, true, true, true, true, true, true, true, true, true, true, true, true, false, false, false, false, false, false, false, false, false, false, false, false, false, false, false, false, false, false, false, false, false, false, false, false, false, false, false, false, false, false, false, false, false, false, false, false, false, false, false, false, false, false, false, false] rfl rfl (take_ofW HT_.out HW_.out (by kernel_rfl)) (fun _ _ _ h => h) (Or.inl ⟨by rfl, ?_⟩) (by assumption) ?_ ?_
      rotate_left
      · rintro W' hS'
        go_simp
        with_reducible rfl
      rotate_left
      · simp only [Act.put, List.setIfInBounds_toArray, List.set_cons_zero, List.set_cons_succ, i64_w, i32_w]
        rfl
      refine take_ (i := 31) (N := some 142) (v := ?_) (a' := ?_) #[true, true, true, true, true, true, true, true, true, true, true, true, true, true, true, true, true, true, true, true, true, true, true, true, true, true, true, true, true, false, false, true, false, false, false, false, false, false, false, false, false, false, false, false, false, false, false, false, false, false, false, false, false, false, false, false, false, false, false, false, false, false, false, false, false, false, false, false, false, false, false, false, false] rfl rfl (take_ofW HT_.out HW_.out (by kernel_rfl)) (fun _ _ _ h => h) (Or.inl ⟨by rfl, ?_⟩) (by assumption) ?_ ?_
      rotate_left
      · refine load_yields (fun W => KE gz g8 gb w W) 27 (.tmp 6) ?_ gz ?_ 27 (oidC 0 Z16) _ (fun W h => KE.z h) Tryd.underlying27 rfl (oid_info _ _ rfl)
        · rfl
        · rfl
      rotate_left
      · simp only [Act.put, List.setIfInBounds_toArray, List.set_cons_zero, List.set_cons_succ, i64_w, i32_w]
        rfl
      refine one_ (i := 29) (N := some 140) #[true, true, true, true, true, true, true, true, true, true, true, true, true, true, true, true, true, true, true, true, true, true, true, true, true, true, true, true, true, true, false, true, false, false, false, false, false, false, false, false, false, false, false, false, false, false, false, false, false, false, false, false, false, false, false, false, false, false, false, false, false, false, false, false, false, false, false, false, false, false, false, false, false] rfl rfl (one_of HT_.out (by kernel_rfl)) (by decide) (fun K hK => ?_)
      refine value_ (by rfl) (N := some 140) rfl (v := .slice (some ⟨wd.heap.size, 0, none⟩) 1 1) (w1 := World.alloc wd (.cells #[.int .u32 1] 24)) (by go_simp) ?_
      replace HX := HX.alloc (.cells #[.int .u32 1] 24)
      have BX := Lib.hid (blk_new wd (.cells #[.int .u32 1] 24))
      generalize hsz : wd.heap.size = gx at *
      clear hsz
      generalize World.alloc wd (.cells #[.int .u32 1] 24) = we at *
      refine hK.out _ _ HX (fun HS => ?_)
      clear hK K
      refine norm_ (a' := ?_) ?_ ?_
      rotate_left
      · show Act.put _ (some 140) _ = _
        simp only [Act.put, List.setIfInBounds_toArray, List.set_cons_zero, List.set_cons_succ, i64_w, i32_w]
        rfl
      refine one_ (i := 30) (N := some 141) #[true, true, true, true, true, true, true, true, true, true, true, true, true, true, true, true, true, true, true, true, true, true, true, true, true, true, true, true, true, true, true, true, false, false, false, false, false, false, false, false, false, false, false, false, false, false, false, false, false, false, false, false, false, false, false, false, false, false, false, false, false, false, false, false, false, false, false, false, false, false, false, false, false] rfl rfl (one_of HT_.out (by kernel_rfl)) (by decide) (fun K hK => ?_)
      refine goes_ Tryd.func21 (by kernel_rfl) rfl #[.slice (some ⟨gx, 0, none⟩) 1 1] (by rfl) rfl rfl (by (try simp only [List.map_toArray, List.map_cons, List.map_nil]); first | done | rfl) ?_
      refine (of_blk [1] 1 _ 0 Z16 _ rfl (by decide) (by decide) (by decide) BX.out).mono ?_
      rintro e wd ⟨rfl, hq⟩
      refine ⟨_, rfl, ?_⟩
      replace HX := HX.next hq
      clear hq BX HS
      refine hK.out _ _ HX (fun HS => ?_)
      clear hK K
      refine norm_ (a' := ?_) ?_ ?_
      rotate_left
      · show Act.put _ (some 141) _ = _
        simp only [Act.put, List.setIfInBounds_toArray, List.set_cons_zero, List.set_cons_succ, i64_w, i32_w]
        rfl
      refine take_ (i := 32) (N := some 143) (v := ?_) (a' := ?_) #[true, true, true, true, true, true, true, true, true, true, true, true, true, true, true, true, true, true, true, true, true, true, true, true, true, true, true, true, true, true, true, true, true, false, false, false, false, false, false, false, false, false, false, false, false, false, false, false, false, false, false, false, false, false, false, false, false, false, false, false, false, false, false, false, false, false, false, false, false, false, false, false, false] rfl rfl (take_ofW HT_.out HW_.out (by kernel_rfl)) (fun _ _ _ h => h) (Or.inl ⟨by rfl, ?_⟩) (by assumption) ?_ ?_
      rotate_left
      · refine eq_yieldsB (fun W => KE gz g8 gb w W) (.tmp 141) (.tmp 142) ?_ 0 Z16 0 Z16 ?_ ?_ rfl rfl (b := true) (by decide)
        · rfl
        · rfl
        · rfl
      rotate_left
      · simp only [Act.put, List.setIfInBounds_toArray, List.set_cons_zero, List.set_cons_succ, i64_w, i32_w]
        rfl
      refine take_ (i := 33) (N := some 144) (v := ?_) (a' := ?_) #[true, true, true, true, true, true, true, true, true, true, true, true, true, true, true, true, true, true, true, true, true, true, true, true, true, true, true, true, true, true, true, true, true, true, false, false, false, false, false, false, false, false, false, false, false, false, false, false, false, false, false, false, false, false, false, false, false, false, false, false, false, false, false, false, false, false, false, false, false, false, false, false, false] rfl rfl (take_ofW HT_.out HW_.out (by kernel_rfl)) (fun _ _ _ h => h) (Or.inl ⟨by rfl, ?_⟩) (by assumption) ?_ ?_
      rotate_left
      · rintro W' hS'
        go_simp
        with_reducible rfl
      rotate_left
      · simp only [Act.put, List.setIfInBounds_toArray, List.set_cons_zero, List.set_cons_succ, i64_w, i32_w]
        rfl
      refine take_ (i := 34) (N := some 145) (v := ?_) (a' := ?_) #[true, true, true, true, true, true, true, true, true, true, true, true, true, true, true, true, true, true, true, true, true, true, true, true, true, true, true, true, true, true, true, true, true, true, true, false, false, false, false, false, false, false, false, false, false, false, false, false, false, false, false, false, false, false, false, false, false, false, false, false, false, false, false, false, false, false, false, false, false, false, false, false, false] rfl rfl (take_ofW HT_.out HW_.out (by kernel_rfl)) (fun _ _ _ h => h) (Or.inl ⟨by rfl, ?_⟩) (by assumption) ?_ ?_
      rotate_left
      · rintro W' hS'
        go_simp
        with_reducible rfl
      rotate_left
      · simp only [Act.put, List.setIfInBounds_toArray, List.set_cons_zero, List.set_cons_succ, i64_w, i32_w]
        rfl
      refine take_ (i := 36) (N := some 147) (v := ?_) (a' := ?_) #[true, true, true, true, true, true, true, true, true, true, true, true, true, true, true, true, true, true, true, true, true, true, true, true, true, true, true, true, true, true, true, true, true, true, true, false, true, false, false, false, false, false, false, false, false, false, false, false, false, false, false, false, false, false, false, false, false, false, false, false, false, false, false, false, false, false, false, false, false, false, false, false, false] rfl rfl (take_ofW HT_.out HW_.out (by kernel_rfl)) (fun _ _ _ h => h) (Or.inl ⟨by rfl, ?_⟩) (by assumption) ?_ ?_
      rotate_left
      · refine load_yields (fun W => KE gz g8 gb w W) 27 (.tmp 6) ?_ gz ?_ 27 (oidC 0 Z16) _ (fun W h => KE.z h) Tryd.underlying27 rfl (oid_info _ _ rfl)
        · rfl
        · rfl
      rotate_left
      · simp only [Act.put, List.setIfInBounds_toArray, List.set_cons_zero, List.set_cons_succ, i64_w, i32_w]
        rfl
      refine one_ (i := 35) (N := some 146) #[true, true, true, true, true, true, true, true, true, true, true, true, true, true, true, true, true, true, true, true, true, true, true, true, true, true, true, true, true, true, true, true, true, true, true, true, true, false, false, false, false, false, false, false, false, false, false, false, false, false, false, false, false, false, false, false, false, false, false, false, false, false, false, false, false, false, false, false, false, false, false, false, false] rfl rfl (one_of HT_.out (by kernel_rfl)) (by decide) (fun K hK => ?_)
      refine goes_ Tryd.func21 (by kernel_rfl) rfl #[.slice none 0 0] (by rfl) rfl rfl (by (try simp only [List.map_toArray, List.map_cons, List.map_nil]); first | done | rfl) ?_
      refine (of0 _).mono ?_
      rintro e wd ⟨rfl, hq⟩
      refine ⟨_, rfl, ?_⟩
      replace HX := HX.next hq
      clear hq
      refine hK.out _ _ HX (fun HS => ?_)
      clear hK K
      refine norm_ (a' := ?_) ?_ ?_
      rotate_left
      · show Act.put _ (some 146) _ = _
        simp only [Act.put, List.setIfInBounds_toArray, List.set_cons_zero, List.set_cons_succ, i64_w, i32_w]
        rfl
      refine take_ (i := 37) (N := some 148) (v := ?_) (a' := ?_) #[true, true, true, true, true, true, true, true, true, true, true, true, true, true, true, true, true, true, true, true, true, true, true, true, true, true, true, true, true, true, true, true, true, true, true, true, true, true, false, false, false, false, false, false, false, false, false, false, false, false, false, false, false, false, false, false, false, false, false, false, false, false, false, false, false, false, false, false, false, false, false, false, false] rfl rfl (take_ofW HT_.out HW_.out (by kernel_rfl)) (fun _ _ _ h => h) (Or.inl ⟨by rfl, ?_⟩) (by assumption) ?_ ?_
      rotate_left
      · refine eq_yieldsB (fun W => KE gz g8 gb w W) (.tmp 146) (.tmp 147) ?_ 0 Z16 0 Z16 ?_ ?_ rfl rfl (b := true) (by decide)
        · rfl
        · rfl
        · rfl
      rotate_left
      · simp only [Act.put, List.setIfInBounds_toArray, List.set_cons_zero, List.set_cons_succ, i64_w, i32_w]
        rfl
      refine take_ (i := 38) (N := some 149) (v := ?_) (a' := ?_) #[true, true, true, true, true, true, true, true, true, true, true, true, true, true, true, true, true, true, true, true, true, true, true, true, true, true, true, true, true, true, true, true, true, true, true, true, true, true, true, false, false, false, false, false, false, false, false, false, false, false, false, false, false, false, false, false, false, false, false, false, false, false, false, false, false, false, false, false, false, false, false, false, false] rfl rfl (take_ofW HT_.out HW_.out (by kernel_rfl)) (fun _ _ _ h => h) (Or.inl ⟨by rfl, ?_⟩) (by assumption) ?_ ?_
      rotate_left
      · rintro W' hS'
        go_simp
        with_reducible rfl
      rotate_left
      · simp only [Act.put, List.setIfInBounds_toArray, List.set_cons_zero, List.set_cons_succ, i64_w, i32_w]
        rfl
      refine take_ (i := 39) (N := some 150) (v := ?_) (a' := ?_) #[true, true, true, true, true, true, true, true, true, true, true, true, true, true, true, true, true, true, true, true, true, true, true, true, true, true, true, true, true, true, true, true, true, true, true, true, true, true, true, true, false, false, false, false, false, false, false, false, false, false, false, false, false, false, false, false, false, false, false, false, false, false, false, false, false, false, false, false, false, false, false, false, false] rfl rfl (take_ofW HT_.out HW_.out (by kernel_rfl)) (fun _ _ _ h => h) (Or.inl ⟨by rfl, ?_⟩) (by assumption) ?_ ?_
      rotate_left
      · rintro W' hS'
        go_simp
        with_reducible rfl
      rotate_left
      · simp only [Act.put, List.setIfInBounds_toArray, List.set_cons_zero, List.set_cons_succ, i64_w, i32_w]
        rfl
      refine join_ 30 #[true, true, true, true, true, true, true, true, true, true, true, true, true, true, true, true, true, true, true, true, true, true, true, true, true, true, true, true, true, true, true, true, true, true, true, true, true, true, true, true, true, true, true, false, false, false, false, false, false, false, false, false, false, false, false, false, false, false, false, false, false, false, false, false, false, false, false, false, false, false, false, false, false] (fun s : Nat × Nat => [(151, .slice (some ⟨s.1, 0, none⟩) 1 1), (152, .slice (some ⟨s.2, 0, none⟩) 2 2), (153, oidV 2 [0, 39, 0, 0, 0, 0, 0, 0, 0, 0, 0, 0, 0, 0, 0, 0])]) (fun s W => KE gz g8 gb w W ∧ Octs W s.1 [39]) ?_ (fun J0 => ?_)
      · rintro s wd ⟨HX, hO1⟩
        have O1 := Lib.hid hO1
        clear hO1
        refine norm_ (a' := ?_) ?_ ?_
        rotate_left
        · show putAll _ _ = _
          simp only [putAll, Act.put, List.setIfInBounds_toArray, List.set_cons_zero, List.set_cons_succ]
          rfl
        refine one_ (i := 43) (N := some 154) #[true, true, true, true, true, true, true, true, true, true, true, true, true, true, true, true, true, true, true, true, true, true, true, true, true, true, true, true, true, true, true, true, true, true, true, true, true, true, true, true, true, true, true, true, false, false, false, false, false, false, false, false, false, false, false, false, false, false, false, false, false, false, false, false, false, false, false, false, false, false, false, false, false] rfl rfl (one_of HT_.out (by kernel_rfl)) (by decide) (fun K hK => ?_)
        refine goes_ Tryd.func10 (by kernel_rfl) rfl #[.slice (some ⟨s.1, 0, none⟩) 1 1, oidV 2 [0, 39, 0, 0, 0, 0, 0, 0, 0, 0, 0, 0, 0, 0, 0, 0], .int .i64 0] (by rfl) rfl rfl (by (try simp only [List.map_toArray, List.map_cons, List.map_nil]); first | done | rfl) ?_
        refine (read_is [39] 1 s.1 1 2 [0, 39, 0, 0, 0, 0, 0, 0, 0, 0, 0, 0, 0, 0, 0, 0] 0 2 0 [0, 39, 0, 0, 0, 0, 0, 0, 0, 0, 0, 0, 0, 0, 0, 0] true _ rfl (by decide) (by decide) rfl (by decide +kernel) (by decide) O1.out).mono ?_
        rintro e wd ⟨rfl, hq⟩
        refine ⟨_, rfl, ?_⟩
        replace HX := HX.next hq
        clear hq O1 HS
        refine hK.out _ _ HX (fun HS => ?_)
        clear hK K
        refine norm_ (a' := ?_) ?_ ?_
        rotate_left
        · show Act.put _ (some 154) _ = _
          simp only [Act.put, List.setIfInBounds_toArray, List.set_cons_zero, List.set_cons_succ, i64_w, i32_w]
          rfl
        refine take_ (i := 44) (N := some 155) (v := ?_) (a' := ?_) #[true, true, true, true, true, true, true, true, true, true, true, true, true, true, true, true, true, true, true, true, true, true, true, true, true, true, true, true, true, true, true, true, true, true, true, true, true, true, true, true, true, true, true, true, true, false, false, false, false, false, false, false, false, false, false, false, false, false, false, false, false, false, false, false, false, false, false, false, false, false, false, false, false] rfl rfl (take_ofW HT_.out HW_.out (by kernel_rfl)) (fun _ _ _ h => h) (Or.inl ⟨by rfl, ?_⟩) (by assumption) ?_ ?_
        rotate_left
        · rintro W' hS'
          go_simp
          with_reducible rfl
        rotate_left
        · simp only [Act.put, List.setIfInBounds_toArray, List.set_cons_zero, List.set_cons_succ, i64_w, i32_w]
          rfl
        refine take_ (i := 45) (N := some 156) (v := ?_) (a' := ?_) #[true, true, true, true, true, true, true, true, true, true, true, true, true, true, true, true, true, true, true, true, true, true, true, true, true, true, true, true, true, true, true, true, true, true, true, true, true, true, true, true, true, true, true, true, true, true, false, false, false, false, false, false, false, false, false, false, false, false, false, false, false, false, false, false, false, false, false, false, false, false, false, false, false] rfl rfl (take_ofW HT_.out HW_.out (by kernel_rfl)) (fun _ _ _ h => h) (Or.inl ⟨by rfl, ?_⟩) (by assumption) ?_ ?_
        rotate_left
        · rintro W' hS'
          go_simp
          with_reducible rfl
        rotate_left
        · simp only [Act.put, List.setIfInBounds_toArray, List.set_cons_zero, List.set_cons_succ, i64_w, i32_w]
          rfl
        refine join_ 24 #[true, true, true, true, true, true, true, true, true, true, true, true, true, true, true, true, true, true, true, true, true, true, true, true, true, true, true, true, true, true, true, true, true, true, true, true, true, true, true, true, true, true, true, true, true, true, true, true, true, false, false, false, false, false, false, false, false, false, false, false, false, false, false, false, false, false, false, false, false, false, false, false, false] (fun s : Nat × Nat => [(157, .slice (some ⟨s.1, 0, none⟩) 1 1), (158, .slice (some ⟨s.2, 0, none⟩) 2 2), (159, oidV 2 [1, 39, 0, 0, 0, 0, 0, 0, 0, 0, 0, 0, 0, 0, 0, 0])]) (fun s W => KE gz g8 gb w W ∧ Octs W s.1 [79]) ?_ (fun J1 => ?_)
        · rintro s wd ⟨HX, hO1⟩
          have O1 := Lib.hid hO1
          clear hO1
          refine norm_ (a' := ?_) ?_ ?_
          rotate_left
          · show putAll _ _ = _
            simp only [putAll, Act.put, List.setIfInBounds_toArray, List.set_cons_zero, List.set_cons_succ]
            rfl
          refine one_ (i := 49) (N := some 160) #[true, true, true, true, true, true, true, true, true, true, true, true, true, true, true, true, true, true, true, true, true, true, true, true, true, true, true, true, true, true, true, true, true, true, true, true, true, true, true, true, true, true, true, true, true, true, true, true, true, true, false, false, false, false, false, false, false, false, false, false, false, false, false, false, false, false, false, false, false, false, false, false, false] rfl rfl (one_of HT_.out (by kernel_rfl)) (by decide) (fun K hK => ?_)
          refine goes_ Tryd.func10 (by kernel_rfl) rfl #[.slice (some ⟨s.1, 0, none⟩) 1 1, oidV 2 [1, 39, 0, 0, 0, 0, 0, 0, 0, 0, 0, 0, 0, 0, 0, 0], .int .i64 0] (by rfl) rfl rfl (by (try simp only [List.map_toArray, List.map_cons, List.map_nil]); first | done | rfl) ?_
          refine (read_is [79] 1 s.1 1 2 [1, 39, 0, 0, 0, 0, 0, 0, 0, 0, 0, 0, 0, 0, 0, 0] 0 2 0 [1, 39, 0, 0, 0, 0, 0, 0, 0, 0, 0, 0, 0, 0, 0, 0] true _ rfl (by decide) (by decide) rfl (by decide +kernel) (by decide) O1.out).mono ?_
          rintro e wd ⟨rfl, hq⟩
          refine ⟨_, rfl, ?_⟩
          replace HX := HX.next hq
          clear hq O1 HS
          refine hK.out _ _ HX (fun HS => ?_)
          clear hK K
          refine norm_ (a' := ?_) ?_ ?_
          rotate_left
          · show Act.put _ (some 160) _ = _
            simp only [Act.put, List.setIfInBounds_toArray, List.set_cons_zero, List.set_cons_succ, i64_w, i32_w]
            rfl
          refine take_ (i := 50) (N := some 161) (v := ?_) (a' := ?_) #[true, true, true, true, true, true, true, true, true, true, true, true, true, true, true, true, true, true, true, true, true, true, true, true, true, true, true, true, true, true, true, true, true, true, true, true, true, true, true, true, true, true, true, true, true, true, true, true, true, true, true, false, false, false, false, false, false, false, false, false, false, false, false, false, false, false, false, false, false, false, false, false, false] rfl rfl (take_ofW HT_.out HW_.out (by kernel_rfl)) (fun _ _ _ h => h) (Or.inl ⟨by rfl, ?_⟩) (by assumption) ?_ ?_
          rotate_left
          · rintro W' hS'
            go_simp
            with_reducible rfl
          rotate_left
          · simp only [Act.put, List.setIfInBounds_toArray, List.set_cons_zero, List.set_cons_succ, i64_w, i32_w]
            rfl
          refine take_ (i := 51) (N := some 162) (v := ?_) (a' := ?_) #[true, true, true, true, true, true, true, true, true, true, true, true, true, true, true, true, true, true, true, true, true, true, true, true, true, true, true, true, true, true, true, true, true, true, true, true, true, true, true, true, true, true, true, true, true, true, true, true, true, true, true, true, false, false, false, false, false, false, false, false, false, false, false, false, false, false, false, false, false, false, false, false, false] rfl rfl (take_ofW HT_.out HW_.out (by kernel_rfl)) (fun _ _ _ h => h) (Or.inl ⟨by rfl, ?_⟩) (by assumption) ?_ ?_
          rotate_left
          · rintro W' hS'
            go_simp
            with_reducible rfl
          rotate_left
          · simp only [Act.put, List.setIfInBounds_toArray, List.set_cons_zero, List.set_cons_succ, i64_w, i32_w]
            rfl
          refine join_ 18 #[true, true, true, true, true, true, true, true, true, true, true, true, true, true, true, true, true, true, true, true, true, true, true, true, true, true, true, true, true, true, true, true, true, true, true, true, true, true, true, true, true, true, true, true, true, true, true, true, true, true, true, true, true, true, true, false, false, false, false, false, false, false, false, false, false, false, false, false, false, false, false, false, false] (fun s : Nat × Nat => [(163, .slice (some ⟨s.1, 0, none⟩) 1 1), (164, .slice (some ⟨s.2, 0, none⟩) 2 2), (165, oidV 2 [2, 0, 0, 0, 0, 0, 0, 0, 0, 0, 0, 0, 0, 0, 0, 0])]) (fun s W => KE gz g8 gb w W ∧ Octs W s.1 [80]) ?_ (fun J2 => ?_)
          · rintro s wd ⟨HX, hO1⟩
            have O1 := Lib.hid hO1
            clear hO1
            refine norm_ (a' := ?_) ?_ ?_
            rotate_left
            · show putAll _ _ = _
              simp only [putAll, Act.put, List.setIfInBounds_toArray, List.set_cons_zero, List.set_cons_succ]
              rfl
            refine one_ (i := 55) (N := some 166) #[true, true, true, true, true, true, true, true, true, true, true, true, true, true, true, true, true, true, true, true, true, true, true, true, true, true, true, true, true, true, true, true, true, true, true, true, true, true, true, true, true, true, true, true, true, true, true, true, true, true, true, true, true, true, true, true, false, false, false, false, false, false, false, false, false, false, false, false, false, false, false, false, false] rfl rfl (one_of HT_.out (by kernel_rfl)) (by decide) (fun K hK => ?_)
            refine goes_ Tryd.func10 (by kernel_rfl) rfl #[.slice (some ⟨s.1, 0, none⟩) 1 1, oidV 2 [2, 0, 0, 0, 0, 0, 0, 0, 0, 0, 0, 0, 0, 0, 0, 0], .int .i64 0] (by rfl) rfl rfl (by (try simp only [List.map_toArray, List.map_cons, List.map_nil]); first | done | rfl) ?_
            refine (read_is [80] 1 s.1 1 2 [2, 0, 0, 0, 0, 0, 0, 0, 0, 0, 0, 0, 0, 0, 0, 0] 0 2 0 [2, 0, 0, 0, 0, 0, 0, 0, 0, 0, 0, 0, 0, 0, 0, 0] true _ rfl (by decide) (by decide) rfl (by decide +kernel) (by decide) O1.out).mono ?_
            rintro e wd ⟨rfl, hq⟩
            refine ⟨_, rfl, ?_⟩
            replace HX := HX.next hq
            clear hq O1 HS
            refine hK.out _ _ HX (fun HS => ?_)
            clear hK K
            refine norm_ (a' := ?_) ?_ ?_
            rotate_left
            · show Act.put _ (some 166) _ = _
              simp only [Act.put, List.setIfInBounds_toArray, List.set_cons_zero, List.set_cons_succ, i64_w, i32_w]
              rfl
            refine take_ (i := 56) (N := some 167) (v := ?_) (a' := ?_) #[true, true, true, true, true, true, true, true, true, true, true, true, true, true, true, true, true, true, true, true, true, true, true, true, true, true, true, true, true, true, true, true, true, true, true, true, true, true, true, true, true, true, true, true, true, true, true, true, true, true, true, true, true, true, true, true, true, false, false, false, false, false, false, false, false, false, false, false, false, false, false, false, false] rfl rfl (take_ofW HT_.out HW_.out (by kernel_rfl)) (fun _ _ _ h => h) (Or.inl ⟨by rfl, ?_⟩) (by assumption) ?_ ?_
            rotate_left
            · rintro W' hS'
              go_simp
              with_reducible rfl
            rotate_left
            · simp only [Act.put, List.setIfInBounds_toArray, List.set_cons_zero, List.set_cons_succ, i64_w, i32_w]
              rfl
            refine take_ (i := 57) (N := some 168) (v := ?_) (a' := ?_) #[true, true, true, true, true, true, true, true, true, true, true, true, true, true, true, true, true, true, true, true, true, true, true, true, true, true, true, true, true, true, true, true, true, true, true, true, true, true, true, true, true, true, true, true, true, true, true, true, true, true, true, true, true, true, true, true, true, true, false, false, false, false, false, false, false, false, false, false, false, false, false, false, false] rfl rfl (take_ofW HT_.out HW_.out (by kernel_rfl)) (fun _ _ _ h => h) (Or.inl ⟨by rfl, ?_⟩) (by assumption) ?_ ?_
            rotate_left
            · rintro W' hS'
              go_simp
              with_reducible rfl
            rotate_left
            · simp only [Act.put, List.setIfInBounds_toArray, List.set_cons_zero, List.set_cons_succ, i64_w, i32_w]
              rfl
            refine take_ (i := 58) (N := some 169) (v := ?_) (a' := ?_) #[true, true, true, true, true, true, true, true, true, true, true, true, true, true, true, true, true, true, true, true, true, true, true, true, true, true, true, true, true, true, true, true, true, true, true, true, true, true, true, true, true, true, true, true, true, true, true, true, true, true, true, true, true, true, true, true, true, true, true, false, false, false, false, false, false, false, false, false, false, false, false, false, false] rfl rfl (take_ofW HT_.out HW_.out (by kernel_rfl)) (fun _ _ _ h => h) (Or.inl ⟨by rfl, ?_⟩) (by assumption) ?_ ?_
            rotate_left
            · refine load_yields (fun W => KE gz g8 gb w W) 27 (.tmp 6) ?_ gz ?_ 27 (oidC 0 Z16) _ (fun W h => KE.z h) Tryd.underlying27 rfl (oid_info _ _ rfl)
              · rfl
              · rfl
            rotate_left
            · simp only [Act.put, List.setIfInBounds_toArray, List.set_cons_zero, List.set_cons_succ, i64_w, i32_w]
              rfl
            refine one_ (i := 59) (N := some 170) #[true, true, true, true, true, true, true, true, true, true, true, true, true, true, true, true, true, true, true, true, true, true, true, true, true, true, true, true, true, true, true, true, true, true, true, true, true, true, true, true, true, true, true, true, true, true, true, true, true, true, true, true, true, true, true, true, true, true, true, true, false, false, false, false, false, false, false, false, false, false, false, false, false] rfl rfl (one_of HT_.out (by kernel_rfl)) (by decide) (fun K hK => ?_)
            refine goes_ Tryd.func14 (by kernel_rfl) rfl #[.string ⟨#[]⟩, oidV 0 Z16, .int .i64 6] (by rfl) rfl rfl (by (try simp only [List.map_toArray, List.map_cons, List.map_nil]); first | done | rfl) ?_
            refine (parsed_is [] 0 Z16 6 0 6 Z16 true _ (by decide) HX.st.t rfl tx_e (by decide)).mono ?_
            rintro e wd ⟨rfl, hq⟩
            refine ⟨_, rfl, ?_⟩
            replace HX := HX.next hq
            clear hq
            refine hK.out _ _ HX (fun HS => ?_)
            clear hK K
            refine norm_ (a' := ?_) ?_ ?_
            rotate_left
            · show Act.put _ (some 170) _ = _
              simp only [Act.put, List.setIfInBounds_toArray, List.set_cons_zero, List.set_cons_succ, i64_w, i32_w]
              rfl
            refine take_ (i := 60) (N := some 171) (v := ?_) (a' := ?_) #[true, true, true, true, true, true, true, true, true, true, true, true, true, true, true, true, true, true, true, true, true, true, true, true, true, true, true, true, true, true, true, true, true, true, true, true, true, true, true, true, true, true, true, true, true, true, true, true, true, true, true, true, true, true, true, true, true, true, true, true, true, false, false, false, false, false, false, false, false, false, false, false, false] rfl rfl (take_ofW HT_.out HW_.out (by kernel_rfl)) (fun _ _ _ h => h) (Or.inl ⟨by rfl, ?_⟩) (by assumption) ?_ ?_
            rotate_left
            · rintro W' hS'
              go_simp
              with_reducible rfl
            rotate_left
            · simp only [Act.put, List.setIfInBounds_toArray, List.set_cons_zero, List.set_cons_succ, i64_w, i32_w]
              rfl
            refine take_ (i := 61) (N := some 172) (v := ?_) (a' := ?_) #[true, true, true, true, true, true, true, true, true, true, true, true, true, true, true, true, true, true, true, true, true, true, true, true, true, true, true, true, true, true, true, true, true, true, true, true, true, true, true, true, true, true, true, true, true, true, true, true, true, true, true, true, true, true, true, true, true, true, true, true, true, true, false, false, false, false, false, false, false, false, false, false, false] rfl rfl (take_ofW HT_.out HW_.out (by kernel_rfl)) (fun _ _ _ h => h) (Or.inl ⟨by rfl, ?_⟩) (by assumption) ?_ ?_
            rotate_left
            · rintro W' hS'
              go_simp
              with_reducible rfl
            rotate_left
            · simp only [Act.put, List.setIfInBounds_toArray, List.set_cons_zero, List.set_cons_succ, i64_w, i32_w]
              rfl
            refine take_ (i := 62) (N := some 173) (v := ?_) (a' := ?_) #[true, true, true, true, true, true, true, true, true, true, true, true, true, true, true, true, true, true, true, true, true, true, true, true, true, true, true, true, true, true, true, true, true, true, true, true, true, true, true, true, true, true, true, true, true, true, true, true, true, true, true, true, true, true, true, true, true, true, true, true, true, true, true, false, false, false, false, false, false, false, false, false, false] rfl rfl (take_ofW HT_.out HW_.out (by kernel_rfl)) (fun _ _ _ h => h) (Or.inl ⟨by rfl, ?_⟩) (by assumption) ?_ ?_
            rotate_left
            · refine load_yields (fun W => KE gz g8 gb w W) 27 (.tmp 6) ?_ gz ?_ 27 (oidC 0 Z16) _ (fun W h => KE.z h) Tryd.underlying27 rfl (oid_info _ _ rfl)
              · rfl
              · rfl
            rotate_left
            · simp only [Act.put, List.setIfInBounds_toArray, List.set_cons_zero, List.set_cons_succ, i64_w, i32_w]
              rfl
            refine one_ (i := 63) (N := some 174) #[true, true, true, true, true, true, true, true, true, true, true, true, true, true, true, true, true, true, true, true, true, true, true, true, true, true, true, true, true, true, true, true, true, true, true, true, true, true, true, true, true, true, true, true, true, true, true, true, true, true, true, true, true, true, true, true, true, true, true, true, true, true, true, true, false, false, false, false, false, false, false, false, false] rfl rfl (one_of HT_.out (by kernel_rfl)) (by decide) (fun K hK => ?_)
            refine goes_ Tryd.func14 (by kernel_rfl) rfl #[.string ⟨#[49, 46, 46, 50]⟩, oidV 0 Z16, .int .i64 6] (by rfl) rfl rfl (by (try simp only [List.map_toArray, List.map_cons, List.map_nil]); first | done | rfl) ?_
            refine (parsed_is [49, 46, 46, 50] 0 Z16 6 0 6 Z16 true _ (by decide) HX.st.t rfl tx_d (by decide)).mono ?_
            rintro e wd ⟨rfl, hq⟩
            refine ⟨_, rfl, ?_⟩
            replace HX := HX.next hq
            clear hq
            refine hK.out _ _ HX (fun HS => ?_)
            clear hK K
            refine norm_ (a' := ?_) ?_ ?_
            rotate_left
            · show Act.put _ (some 174) _ = _
              simp only [Act.put, List.setIfInBounds_toArray, List.set_cons_zero, List.set_cons_succ, i64_w, i32_w]
              rfl
            refine take_ (i := 64) (N := some 175) (v := ?_) (a' := ?_) #[true, true, true, true, true, true, true, true, true, true, true, true, true, true, true, true, true, true, true, true, true, true, true, true, true, true, true, true, true, true, true, true, true, true, true, true, true, true, true, true, true, true, true, true, true, true, true, true, true, true, true, true, true, true, true, true, true, true, true, true, true, true, true, true, true, false, false, false, false, false, false, false, false] rfl rfl (take_ofW HT_.out HW_.out (by kernel_rfl)) (fun _ _ _ h => h) (Or.inl ⟨by rfl, ?_⟩) (by assumption) ?_ ?_
            rotate_left
            · rintro W' hS'
              go_simp
              with_reducible rfl
            rotate_left
            · simp only [Act.put, List.setIfInBounds_toArray, List.set_cons_zero, List.set_cons_succ, i64_w, i32_w]
              rfl
            refine take_ (i := 65) (N := some 176) (v := ?_) (a' := ?_) #[true, true, true, true, true, true, true, true, true, true, true, true, true, true, true, true, true, true, true, true, true, true, true, true, true, true, true, true, true, true, true, true, true, true, true, true, true, true, true, true, true, true, true, true, true, true, true, true, true, true, true, true, true, true, true, true, true, true, true, true, true, true, true, true, true, true, false, false, false, false, false, false, false] rfl rfl (take_ofW HT_.out HW_.out (by kernel_rfl)) (fun _ _ _ h => h) (Or.inl ⟨by rfl, ?_⟩) (by assumption) ?_ ?_
            rotate_left
            · rintro W' hS'
              go_simp
              with_reducible rfl
            rotate_left
            · simp only [Act.put, List.setIfInBounds_toArray, List.set_cons_zero, List.set_cons_succ, i64_w, i32_w]
              rfl
            refine take_ (i := 66) (N := some 177) (v := ?_) (a' := ?_) #[true, true, true, true, true, true, true, true, true, true, true, true, true, true, true, true, true, true, true, true, true, true, true, true, true, true, true, true, true, true, true, true, true, true, true, true, true, true, true, true, true, true, true, true, true, true, true, true, true, true, true, true, true, true, true, true, true, true, true, true, true, true, true, true, true, true, true, false, false, false, false, false, false] rfl rfl (take_ofW HT_.out HW_.out (by kernel_rfl)) (fun _ _ _ h => h) (Or.inl ⟨by rfl, ?_⟩) (by assumption) ?_ ?_
            rotate_left
            · refine load_yields (fun W => KE gz g8 gb w W) 27 (.tmp 6) ?_ gz ?_ 27 (oidC 0 Z16) _ (fun W h => KE.z h) Tryd.underlying27 rfl (oid_info _ _ rfl)
              · rfl
              · rfl
            rotate_left
            · simp only [Act.put, List.setIfInBounds_toArray, List.set_cons_zero, List.set_cons_succ, i64_w, i32_w]
              rfl
            refine one_ (i := 67) (N := some 178) #[true, true, true, true, true, true, true, true, true, true, true, true, true, true, true, true, true, true, true, true, true, true, true, true, true, true, true, true, true, true, true, true, true, true, true, true, true, true, true, true, true, true, true, true, true, true, true, true, true, true, true, true, true, true, true, true, true, true, true, true, true, true, true, true, true, true, true, true, false, false, false, false, false] rfl rfl (one_of HT_.out (by kernel_rfl)) (by decide) (fun K hK => ?_)
            refine goes_ Tryd.func14 (by kernel_rfl) rfl #[.string ⟨#[50, 46, 52, 50, 57, 52, 57, 54, 55, 50, 49, 54]⟩, oidV 0 Z16, .int .i64 1] (by rfl) rfl rfl (by (try simp only [List.map_toArray, List.map_cons, List.map_nil]); first | done | rfl) ?_
            refine (parsed_is [50, 46, 52, 50, 57, 52, 57, 54, 55, 50, 49, 54] 0 Z16 1 0 1 Z16 true _ (by decide) HX.st.t rfl tx_b (by decide)).mono ?_
            rintro e wd ⟨rfl, hq⟩
            refine ⟨_, rfl, ?_⟩
            replace HX := HX.next hq
            clear hq
            refine hK.out _ _ HX (fun HS => ?_)
            clear hK K
            refine norm_ (a' := ?_) ?_ ?_
            rotate_left
            · show Act.put _ (some 178) _ = _
              simp only [Act.put, List.setIfInBounds_toArray, List.set_cons_zero, List.set_cons_succ, i64_w, i32_w]
              rfl
            refine take_ (i := 68) (N := some 179) (v := ?_) (a' := ?_) #[true, true, true, true, true, true, true, true, true, true, true, true, true, true, true, true, true, true, true, true, true, true, true, true, true, true, true, true, true, true, true, true, true, true, true, true, true, true, true, true, true, true, true, true, true, true, true, true, true, true, true, true, true, true, true, true, true, true, true, true, true, true, true, true, true, true, true, true, true, false, false, false, false] rfl rfl (take_ofW HT_.out HW_.out (by kernel_rfl)) (fun _ _ _ h => h) (Or.inl ⟨by rfl, ?_⟩) (by assumption) ?_ ?_
            rotate_left
            · rintro W' hS'
              go_simp
              with_reducible rfl
            rotate_left
            · simp only [Act.put, List.setIfInBounds_toArray, List.set_cons_zero, List.set_cons_succ, i64_w, i32_w]
              rfl
            refine take_ (i := 69) (N := some 180) (v := ?_) (a' := ?_) #[true, true, true, true, true, true, true, true, true, true, true, true, true, true, true, true, true, true, true, true, true, true, true, true, true, true, true, true, true, true, true, true, true, true, true, true, true, true, true, true, true, true, true, true, true, true, true, true, true, true, true, true, true, true, true, true, true, true, true, true, true, true, true, true, true, true, true, true, true, true, false, false, false] rfl rfl (take_ofW HT_.out HW_.out (by kernel_rfl)) (fun _ _ _ h => h) (Or.inl ⟨by rfl, ?_⟩) (by assumption) ?_ ?_
            rotate_left
            · rintro W' hS'
              go_simp
              with_reducible rfl
            rotate_left
            · simp only [Act.put, List.setIfInBounds_toArray, List.set_cons_zero, List.set_cons_succ, i64_w, i32_w]
              rfl
            refine one_ (i := 70) (N := some 181) #[true, true, true, true, true, true, true, true, true, true, true, true, true, true, true, true, true, true, true, true, true, true, true, true, true, true, true, true, true, true, true, true, true, true, true, true, true, true, true, true, true, true, true, true, true, true, true, true, true, true, true, true, true, true, true, true, true, true, true, true, true, true, true, true, true, true, true, true, true, true, true, false, false] rfl rfl (one_of HT_.out (by kernel_rfl)) (by decide) (fun K hK => ?_)
            refine goes_ Tryd.func8 (by kernel_rfl) rfl #[] (by rfl) rfl rfl (by (try simp only [List.map_toArray, List.map_cons, List.map_nil]); first | done | rfl) ?_
            refine (lives_yes _ HX.st.t).mono ?_
            rintro e wd ⟨rfl, hq⟩
            refine ⟨_, rfl, ?_⟩
            replace HX := HX.next hq
            clear hq
            refine hK.out _ _ HX (fun HS => ?_)
            clear hK K
            refine norm_ (a' := ?_) ?_ ?_
            rotate_left
            · show Act.put _ (some 181) _ = _
              simp only [Act.put, List.setIfInBounds_toArray, List.set_cons_zero, List.set_cons_succ, i64_w, i32_w]
              rfl
            refine take_ (i := 71) (N := some 182) (v := ?_) (a' := ?_) #[true, true, true, true, true, true, true, true, true, true, true, true, true, true, true, true, true, true, true, true, true, true, true, true, true, true, true, true, true, true, true, true, true, true, true, true, true, true, true, true, true, true, true, true, true, true, true, true, true, true, true, true, true, true, true, true, true, true, true, true, true, true, true, true, true, true, true, true, true, true, true, true, false] rfl rfl (take_ofW HT_.out HW_.out (by kernel_rfl)) (fun _ _ _ h => h) (Or.inl ⟨by rfl, ?_⟩) (by assumption) ?_ ?_
            rotate_left
            · rintro W' hS'
              go_simp
              with_reducible rfl
            rotate_left
            · simp only [Act.put, List.setIfInBounds_toArray, List.set_cons_zero, List.set_cons_succ, i64_w, i32_w]
              rfl
            refine take_ (i := 72) (N := some 0) (v := ?_) (a' := ?_) #[true, true, true, true, true, true, true, true, true, true, true, true, true, true, true, true, true, true, true, true, true, true, true, true, true, true, true, true, true, true, true, true, true, true, true, true, true, true, true, true, true, true, true, true, true, true, true, true, true, true, true, true, true, true, true, true, true, true, true, true, true, true, true, true, true, true, true, true, true, true, true, true, true] rfl rfl (take_ofW HT_.out HW_.out (by kernel_rfl)) (fun _ _ _ h => h) (Or.inl ⟨by rfl, ?_⟩) (by assumption) ?_ ?_
            rotate_left
            · rintro W' hS'
              go_simp
              with_reducible rfl
            rotate_left
            · simp only [Act.put, List.setIfInBounds_toArray, List.set_cons_zero, List.set_cons_succ, i64_w, i32_w]
              rfl
            refine done_ (done_of HT_.out (by kernel_rfl)) ?_
            go_wp2
            go_ret
            exact ⟨rfl, HX.st.b⟩
          · refine two_ (i := 52) (j := 53) (Ni := some 163) (Nj := some 164) #[true, true, true, true, true, true, true, true, true, true, true, true, true, true, true, true, true, true, true, true, true, true, true, true, true, true, true, true, true, true, true, true, true, true, true, true, true, true, true, true, true, true, true, true, true, true, true, true, true, true, true, true, true, false, false, false, false, false, false, false, false, false, false, false, false, false, false, false, false, false, false, false, false] #[true, true, true, true, true, true, true, true, true, true, true, true, true, true, true, true, true, true, true, true, true, true, true, true, true, true, true, true, true, true, true, true, true, true, true, true, true, true, true, true, true, true, true, true, true, true, true, true, true, true, true, true, false, true, false, false, false, false, false, false, false, false, false, false, false, false, false, false, false, false, false, false, false] rfl rfl rfl rfl (Go.Proofs.YtacpcagijfacnaaDoorW.PrintLast.two_of HT_.out (by kernel_rfl)) (by decide) (by decide) (fun K hK => ?_) (fun K hK => ?_)
            · refine value_ (by rfl) (N := some 163) rfl (v := .slice (some ⟨wd.heap.size, 0, none⟩) 1 1) (w1 := World.alloc wd (.cells #[.int .u8 80] 5)) (by go_simp) ?_
              replace HX := HX.alloc (.cells #[.int .u8 80] 5)
              have O1 := octs_new wd 80
              generalize hsz1 : wd.heap.size = gu at *
              clear hsz1
              generalize World.alloc wd (.cells #[.int .u8 80] 5) = wa at *
              refine hK.out _ _ HX (fun HS => ?_)
              clear hK K
              refine norm_ (a' := ?_) ?_ ?_
              rotate_left
              · show Act.put _ (some 163) _ = _
                simp only [Act.put, List.setIfInBounds_toArray, List.set_cons_zero, List.set_cons_succ, i64_w, i32_w]
                rfl
              refine one_ (i := 53) (N := some 164) #[true, true, true, true, true, true, true, true, true, true, true, true, true, true, true, true, true, true, true, true, true, true, true, true, true, true, true, true, true, true, true, true, true, true, true, true, true, true, true, true, true, true, true, true, true, true, true, true, true, true, true, true, true, true, false, false, false, false, false, false, false, false, false, false, false, false, false, false, false, false, false, false, false] rfl rfl (one_of HT_.out (by kernel_rfl)) (by decide) (fun K hK => ?_)
              refine value_ (by rfl) (N := some 164) rfl (v := .slice (some ⟨wa.heap.size, 0, none⟩) 2 2) (w1 := World.alloc wa (.cells #[.int .u32 2, .int .u32 0] 24)) (by go_simp) ?_
              have O2 := O1.next ((Below.refl _ _).alloc (Nat.le_refl _) (.cells #[.int .u32 2, .int .u32 0] 24))
              replace HX := HX.alloc (.cells #[.int .u32 2, .int .u32 0] 24)
              have B1 := blk_new wa (.cells #[.int .u32 2, .int .u32 0] 24)
              generalize hsz2 : wa.heap.size = gv at *
              clear hsz2
              generalize World.alloc wa (.cells #[.int .u32 2, .int .u32 0] 24) = wb at *
              refine hK.out _ _ HX (fun HS => ?_)
              clear hK K
              refine norm_ (a' := ?_) ?_ ?_
              rotate_left
              · show Act.put _ (some 164) _ = _
                simp only [Act.put, List.setIfInBounds_toArray, List.set_cons_zero, List.set_cons_succ, i64_w, i32_w]
                rfl
              refine one_ (i := 54) (N := some 165) #[true, true, true, true, true, true, true, true, true, true, true, true, true, true, true, true, true, true, true, true, true, true, true, true, true, true, true, true, true, true, true, true, true, true, true, true, true, true, true, true, true, true, true, true, true, true, true, true, true, true, true, true, true, true, true, false, false, false, false, false, false, false, false, false, false, false, false, false, false, false, false, false, false] rfl rfl (one_of HT_.out (by kernel_rfl)) (by decide) (fun K hK => ?_)
              refine goes_ Tryd.func21 (by kernel_rfl) rfl #[.slice (some ⟨gv, 0, none⟩) 2 2] (by rfl) rfl rfl (by (try simp only [List.map_toArray, List.map_cons, List.map_nil]); first | done | rfl) ?_
              refine (of_blk [2, 0] 2 _ 2 [2, 0, 0, 0, 0, 0, 0, 0, 0, 0, 0, 0, 0, 0, 0, 0] _ rfl (by decide) (by decide) (by decide) B1).mono ?_
              rintro e wc ⟨rfl, hq⟩
              refine ⟨_, rfl, ?_⟩
              refine hK.out _ _ (HX.next hq) (fun HS => ?_)
              refine norm_ ?_ (J2 (gu, gv) _ ⟨HX.next hq, O2.next hq⟩)
              simp only [putAll, Act.put, List.setIfInBounds_toArray, List.set_cons_zero, List.set_cons_succ]
            · refine value_ (by rfl) (N := some 164) rfl (v := .slice (some ⟨wd.heap.size, 0, none⟩) 2 2) (w1 := World.alloc wd (.cells #[.int .u32 2, .int .u32 0] 24)) (by go_simp) ?_
              replace HX := HX.alloc (.cells #[.int .u32 2, .int .u32 0] 24)
              have B1 := blk_new wd (.cells #[.int .u32 2, .int .u32 0] 24)
              generalize hsz2 : wd.heap.size = gv at *
              clear hsz2
              generalize World.alloc wd (.cells #[.int .u32 2, .int .u32 0] 24) = wa at *
              refine hK.out _ _ HX (fun HS => ?_)
              clear hK K
              refine norm_ (a' := ?_) ?_ ?_
              rotate_left
              · show Act.put _ (some 164) _ = _
                simp only [Act.put, List.setIfInBounds_toArray, List.set_cons_zero, List.set_cons_succ, i64_w, i32_w]
                rfl
              refine two_ (i := 52) (j := 54) (Ni := some 163) (Nj := some 165) #[true, true, true, true, true, true, true, true, true, true, true, true, true, true, true, true, true, true, true, true, true, true, true, true, true, true, true, true, true, true, true, true, true, true, true, true, true, true, true, true, true, true, true, true, true, true, true, true, true, true, true, true, true, true, false, false, false, false, false, false, false, false, false, false, false, false, false, false, false, false, false, false, false] #[true, true, true, true, true, true, true, true, true, true, true, true, true, true, true, true, true, true, true, true, true, true, true, true, true, true, true, true, true, true, true, true, true, true, true, true, true, true, true, true, true, true, true, true, true, true, true, true, true, true, true, true, false, true, true, false, false, false, false, false, false, false, false, false, false, false, false, false, false, false, false, false, false] rfl rfl rfl rfl (Go.Proofs.YtacpcagijfacnaaDoorW.PrintLast.two_of HT_.out (by kernel_rfl)) (by decide) (by decide) (fun K hK => ?_) (fun K hK => ?_)
              · refine value_ (by rfl) (N := some 163) rfl (v := .slice (some ⟨wa.heap.size, 0, none⟩) 1 1) (w1 := World.alloc wa (.cells #[.int .u8 80] 5)) (by go_simp) ?_
                have B2 := blk_alloc B1 (.cells #[.int .u8 80] 5)
                replace HX := HX.alloc (.cells #[.int .u8 80] 5)
                have O1 := octs_new wa 80
                generalize hsz1 : wa.heap.size = gu at *
                clear hsz1
                generalize World.alloc wa (.cells #[.int .u8 80] 5) = wb at *
                refine hK.out _ _ HX (fun HS => ?_)
                clear hK K
                refine norm_ (a' := ?_) ?_ ?_
                rotate_left
                · show Act.put _ (some 163) _ = _
                  simp only [Act.put, List.setIfInBounds_toArray, List.set_cons_zero, List.set_cons_succ, i64_w, i32_w]
                  rfl
                refine one_ (i := 54) (N := some 165) #[true, true, true, true, true, true, true, true, true, true, true, true, true, true, true, true, true, true, true, true, true, true, true, true, true, true, true, true, true, true, true, true, true, true, true, true, true, true, true, true, true, true, true, true, true, true, true, true, true, true, true, true, true, true, true, false, false, false, false, false, false, false, false, false, false, false, false, false, false, false, false, false, false] rfl rfl (one_of HT_.out (by kernel_rfl)) (by decide) (fun K hK => ?_)
                refine goes_ Tryd.func21 (by kernel_rfl) rfl #[.slice (some ⟨gv, 0, none⟩) 2 2] (by rfl) rfl rfl (by (try simp only [List.map_toArray, List.map_cons, List.map_nil]); first | done | rfl) ?_
                refine (of_blk [2, 0] 2 _ 2 [2, 0, 0, 0, 0, 0, 0, 0, 0, 0, 0, 0, 0, 0, 0, 0] _ rfl (by decide) (by decide) (by decide) B2).mono ?_
                rintro e wc ⟨rfl, hq⟩
                refine ⟨_, rfl, ?_⟩
                refine hK.out _ _ (HX.next hq) (fun HS => ?_)
                refine norm_ ?_ (J2 (gu, gv) _ ⟨HX.next hq, O1.next hq⟩)
                simp only [putAll, Act.put, List.setIfInBounds_toArray, List.set_cons_zero, List.set_cons_succ]
              · refine goes_ Tryd.func21 (by kernel_rfl) rfl #[.slice (some ⟨gv, 0, none⟩) 2 2] (by rfl) rfl rfl (by (try simp only [List.map_toArray, List.map_cons, List.map_nil]); first | done | rfl) ?_
                refine (of_blk [2, 0] 2 _ 2 [2, 0, 0, 0, 0, 0, 0, 0, 0, 0, 0, 0, 0, 0, 0, 0] _ rfl (by decide) (by decide) (by decide) B1).mono ?_
                rintro e wb ⟨rfl, hq⟩
                refine ⟨_, rfl, ?_⟩
                replace HX := HX.next hq
                clear hq
                refine hK.out _ _ HX (fun HS => ?_)
                clear hK K
                refine norm_ (a' := ?_) ?_ ?_
                rotate_left
                · show Act.put _ (some 165) _ = _
                  simp only [Act.put, List.setIfInBounds_toArray, List.set_cons_zero, List.set_cons_succ, i64_w, i32_w]
                  rfl
                refine one_ (i := 52) (N := some 163) #[true, true, true, true, true, true, true, true, true, true, true, true, true, true, true, true, true, true, true, true, true, true, true, true, true, true, true, true, true, true, true, true, true, true, true, true, true, true, true, true, true, true, true, true, true, true, true, true, true, true, true, true, true, true, true, false, false, false, false, false, false, false, false, false, false, false, false, false, false, false, false, false, false] rfl rfl (one_of HT_.out (by kernel_rfl)) (by decide) (fun K hK => ?_)
                refine value_ (by rfl) (N := some 163) rfl (v := .slice (some ⟨wb.heap.size, 0, none⟩) 1 1) (w1 := World.alloc wb (.cells #[.int .u8 80] 5)) (by go_simp) ?_
                refine hK.out _ _ (HX.alloc (.cells #[.int .u8 80] 5)) (fun HS => ?_)
                refine norm_ ?_ (J2 (wb.heap.size, gv) _ ⟨HX.alloc (.cells #[.int .u8 80] 5), octs_new wb 80⟩)
                simp only [putAll, Act.put, List.setIfInBounds_toArray, List.set_cons_zero, List.set_cons_succ]
        · refine two_ (i := 46) (j := 47) (Ni := some 157) (Nj := some 158) #[true, true, true, true, true, true, true, true, true, true, true, true, true, true, true, true, true, true, true, true, true, true, true, true, true, true, true, true, true, true, true, true, true, true, true, true, true, true, true, true, true, true, true, true, true, true, true, false, false, false, false, false, false, false, false, false, false, false, false, false, false, false, false, false, false, false, false, false, false, false, false, false, false] #[true, true, true, true, true, true, true, true, true, true, true, true, true, true, true, true, true, true, true, true, true, true, true, true, true, true, true, true, true, true, true, true, true, true, true, true, true, true, true, true, true, true, true, true, true, true, false, true, false, false, false, false, false, false, false, false, false, false, false, false, false, false, false, false, false, false, false, false, false, false, false, false, false] rfl rfl rfl rfl (Go.Proofs.YtacpcagijfacnaaDoorW.PrintLast.two_of HT_.out (by kernel_rfl)) (by decide) (by decide) (fun K hK => ?_) (fun K hK => ?_)
          · refine value_ (by rfl) (N := some 157) rfl (v := .slice (some ⟨wd.heap.size, 0, none⟩) 1 1) (w1 := World.alloc wd (.cells #[.int .u8 79] 5)) (by go_simp) ?_
            replace HX := HX.alloc (.cells #[.int .u8 79] 5)
            have O1 := octs_new wd 79
            generalize hsz1 : wd.heap.size = gu at *
            clear hsz1
            generalize World.alloc wd (.cells #[.int .u8 79] 5) = wa at *
            refine hK.out _ _ HX (fun HS => ?_)
            clear hK K
            refine norm_ (a' := ?_) ?_ ?_
            rotate_left
            · show Act.put _ (some 157) _ = _
              simp only [Act.put, List.setIfInBounds_toArray, List.set_cons_zero, List.set_cons_succ, i64_w, i32_w]
              rfl
            refine one_ (i := 47) (N := some 158) #[true, true, true, true, true, true, true, true, true, true, true, true, true, true, true, true, true, true, true, true, true, true, true, true, true, true, true, true, true, true, true, true, true, true, true, true, true, true, true, true, true, true, true, true, true, true, true, true, false, false, false, false, false, false, false, false, false, false, false, false, false, false, false, false, false, false, false, false, false, false, false, false, false] rfl rfl (one_of HT_.out (by kernel_rfl)) (by decide) (fun K hK => ?_)
            refine value_ (by rfl) (N := some 158) rfl (v := .slice (some ⟨wa.heap.size, 0, none⟩) 2 2) (w1 := World.alloc wa (.cells #[.int .u32 1, .int .u32 39] 24)) (by go_simp) ?_
            have O2 := O1.next ((Below.refl _ _).alloc (Nat.le_refl _) (.cells #[.int .u32 1, .int .u32 39] 24))
            replace HX := HX.alloc (.cells #[.int .u32 1, .int .u32 39] 24)
            have B1 := blk_new wa (.cells #[.int .u32 1, .int .u32 39] 24)
            generalize hsz2 : wa.heap.size = gv at *
            clear hsz2
            generalize World.alloc wa (.cells #[.int .u32 1, .int .u32 39] 24) = wb at *
            refine hK.out _ _ HX (fun HS => ?_)
            clear hK K
            refine norm_ (a' := ?_) ?_ ?_
            rotate_left
            · show Act.put _ (some 158) _ = _
              simp only [Act.put, List.setIfInBounds_toArray, List.set_cons_zero, List.set_cons_succ, i64_w, i32_w]
              rfl
            refine one_ (i := 48) (N := some 159) #[true, true, true, true, true, true, true, true, true, true, true, true, true, true, true, true, true, true, true, true, true, true, true, true, true, true, true, true, true, true, true, true, true, true, true, true, true, true, true, true, true, true, true, true, true, true, true, true, true, false, false, false, false, false, false, false, false, false, false, false, false, false, false, false, false, false, false, false, false, false, false, false, false] rfl rfl (one_of HT_.out (by kernel_rfl)) (by decide) (fun K hK => ?_)
            refine goes_ Tryd.func21 (by kernel_rfl) rfl #[.slice (some ⟨gv, 0, none⟩) 2 2] (by rfl) rfl rfl (by (try simp only [List.map_toArray, List.map_cons, List.map_nil]); first | done | rfl) ?_
            refine (of_blk [1, 39] 2 _ 2 [1, 39, 0, 0, 0, 0, 0, 0, 0, 0, 0, 0, 0, 0, 0, 0] _ rfl (by decide) (by decide) (by decide) B1).mono ?_
            rintro e wc ⟨rfl, hq⟩
            refine ⟨_, rfl, ?_⟩
            refine hK.out _ _ (HX.next hq) (fun HS => ?_)
            refine norm_ ?_ (J1 (gu, gv) _ ⟨HX.next hq, O2.next hq⟩)
            simp only [putAll, Act.put, List.setIfInBounds_toArray, List.set_cons_zero, List.set_cons_succ]
          · refine value_ (by rfl) (N := some 158) rfl (v := .slice (some ⟨wd.heap.size, 0, none⟩) 2 2) (w1 := World.alloc wd (.cells #[.int .u32 1, .int .u32 39] 24)) (by go_simp) ?_
            replace HX := HX.alloc (.cells #[.int .u32 1, .int .u32 39] 24)
            have B1 := blk_new wd (.cells #[.int .u32 1, .int .u32 39] 24)
            generalize hsz2 : wd.heap.size = gv at *
            clear hsz2
            generalize World.alloc wd (.cells #[.int .u32 1, .int .u32 39] 24) = wa at *
            refine hK.out _ _ HX (fun HS => ?_)
            clear hK K
            refine norm_ (a' := ?_) ?_ ?_
            rotate_left
            · show Act.put _ (some 158) _ = _
              simp only [Act.put, List.setIfInBounds_toArray, List.set_cons_zero, List.set_cons_succ, i64_w, i32_w]
              rfl
            refine two_ (i := 46) (j := 48) (Ni := some 157) (Nj := some 159) #[true, true, true, true, true, true, true, true, true, true, true, true, true, true, true, true, true, true, true, true, true, true, true, true, true, true, true, true, true, true, true, true, true, true, true, true, true, true, true, true, true, true, true, true, true, true, true, true, false, false, false, false, false, false, false, false, false, false, false, false, false, false, false, false, false, false, false, false, false, false, false, false, false] #[true, true, true, true, true, true, true, true, true, true, true, true, true, true, true, true, true, true, true, true, true, true, true, true, true, true, true, true, true, true, true, true, true, true, true, true, true, true, true, true, true, true, true, true, true, true, false, true, true, false, false, false, false, false, false, false, false, false, false, false, false, false, false, false, false, false, false, false, false, false, false, false, false] rfl rfl rfl rfl (Go.Proofs.YtacpcagijfacnaaDoorW.PrintLast.two_of HT_.out (by kernel_rfl)) (by decide) (by decide) (fun K hK => ?_) (fun K hK => ?_)
            · refine value_ (by rfl) (N := some 157) rfl (v := .slice (some ⟨wa.heap.size, 0, none⟩) 1 1) (w1 := World.alloc wa (.cells #[.int .u8 79] 5)) (by go_simp) ?_
              have B2 := blk_alloc B1 (.cells #[.int .u8 79] 5)
              replace HX := HX.alloc (.cells #[.int .u8 79] 5)
              have O1 := octs_new wa 79
              generalize hsz1 : wa.heap.size = gu at *
              clear hsz1
              generalize World.alloc wa (.cells #[.int .u8 79] 5) = wb at *
              refine hK.out _ _ HX (fun HS => ?_)
              clear hK K
              refine norm_ (a' := ?_) ?_ ?_
              rotate_left
              · show Act.put _ (some 157) _ = _
                simp only [Act.put, List.setIfInBounds_toArray, List.set_cons_zero, List.set_cons_succ, i64_w, i32_w]
                rfl
              refine one_ (i := 48) (N := some 159) #[true, true, true, true, true, true, true, true, true, true, true, true, true, true, true, true, true, true, true, true, true, true, true, true, true, true, true, true, true, true, true, true, true, true, true, true, true, true, true, true, true, true, true, true, true, true, true, true, true, false, false, false, false, false, false, false, false, false, false, false, false, false, false, false, false, false, false, false, false, false, false, false, false] rfl rfl (one_of HT_.out (by kernel_rfl)) (by decide) (fun K hK => ?_)
              refine goes_ Tryd.func21 (by kernel_rfl) rfl #[.slice (some ⟨gv, 0, none⟩) 2 2] (by rfl) rfl rfl (by (try simp only [List.map_toArray, List.map_cons, List.map_nil]); first | done | rfl) ?_
              refine (of_blk [1, 39] 2 _ 2 [1, 39, 0, 0, 0, 0, 0, 0, 0, 0, 0, 0, 0, 0, 0, 0] _ rfl (by decide) (by decide) (by decide) B2).mono ?_
              rintro e wc ⟨rfl, hq⟩
              refine ⟨_, rfl, ?_⟩
              refine hK.out _ _ (HX.next hq) (fun HS => ?_)
              refine norm_ ?_ (J1 (gu, gv) _ ⟨HX.next hq, O1.next hq⟩)
              simp only [putAll, Act.put, List.setIfInBounds_toArray, List.set_cons_zero, List.set_cons_succ]
            · refine goes_ Tryd.func21 (by kernel_rfl) rfl #[.slice (some ⟨gv, 0, none⟩) 2 2] (by rfl) rfl rfl (by (try simp only [List.map_toArray, List.map_cons, List.map_nil]); first | done | rfl) ?_
              refine (of_blk [1, 39] 2 _ 2 [1, 39, 0, 0, 0, 0, 0, 0, 0, 0, 0, 0, 0, 0, 0, 0] _ rfl (by decide) (by decide) (by decide) B1).mono ?_
              rintro e wb ⟨rfl, hq⟩
              refine ⟨_, rfl, ?_⟩
              replace HX := HX.next hq
              clear hq
              refine hK.out _ _ HX (fun HS => ?_)
              clear hK K
              refine norm_ (a' := ?_) ?_ ?_
              rotate_left
              · show Act.put _ (some 159) _ = _
                simp only [Act.put, List.setIfInBounds_toArray, List.set_cons_zero, List.set_cons_succ, i64_w, i32_w]
                rfl
              refine one_ (i := 46) (N := some 157) #[true, true, true, true, true, true, true, true, true, true, true, true, true, true, true, true, true, true, true, true, true, true, true, true, true, true, true, true, true, true, true, true, true, true, true, true, true, true, true, true, true, true, true, true, true, true, true, true, true, false, false, false, false, false, false, false, false, false, false, false, false, false, false, false, false, false, false, false, false, false, false, false, false] rfl rfl (one_of HT_.out (by kernel_rfl)) (by decide) (fun K hK => ?_)
              refine value_ (by rfl) (N := some 157) rfl (v := .slice (some ⟨wb.heap.size, 0, none⟩) 1 1) (w1 := World.alloc wb (.cells #[.int .u8 79] 5)) (by go_simp) ?_
              refine hK.out _ _ (HX.alloc (.cells #[.int .u8 79] 5)) (fun HS => ?_)
              refine norm_ ?_ (J1 (wb.heap.size, gv) _ ⟨HX.alloc (.cells #[.int .u8 79] 5), octs_new wb 79⟩)
              simp only [putAll, Act.put, List.setIfInBounds_toArray, List.set_cons_zero, List.set_cons_succ]
      · refine two_ (i := 40) (j := 41) (Ni := some 151) (Nj := some 152) #[true, true, true, true, true, true, true, true, true, true, true, true, true, true, true, true, true, true, true, true, true, true, true, true, true, true, true, true, true, true, true, true, true, true, true, true, true, true, true, true, true, false, false, false, false, false, false, false, false, false, false, false, false, false, false, false, false, false, false, false, false, false, false, false, false, false, false, false, false, false, false, false, false] #[true, true, true, true, true, true, true, true, true, true, true, true, true, true, true, true, true, true, true, true, true, true, true, true, true, true, true, true, true, true, true, true, true, true, true, true, true, true, true, true, false, true, false, false, false, false, false, false, false, false, false, false, false, false, false, false, false, false, false, false, false, false, false, false, false, false, false, false, false, false, false, false, false] rfl rfl rfl rfl (Go.Proofs.YtacpcagijfacnaaDoorW.PrintLast.two_of HT_.out (by kernel_rfl)) (by decide) (by decide) (fun K hK => ?_) (fun K hK => ?_)
        · refine value_ (by rfl) (N := some 151) rfl (v := .slice (some ⟨wd.heap.size, 0, none⟩) 1 1) (w1 := World.alloc wd (.cells #[.int .u8 39] 5)) (by go_simp) ?_
          replace HX := HX.alloc (.cells #[.int .u8 39] 5)
          have O1 := octs_new wd 39
          generalize hsz1 : wd.heap.size = gu at *
          clear hsz1
          generalize World.alloc wd (.cells #[.int .u8 39] 5) = wa at *
          refine hK.out _ _ HX (fun HS => ?_)
          clear hK K
          refine norm_ (a' := ?_) ?_ ?_
          rotate_left
          · show Act.put _ (some 151) _ = _
            simp only [Act.put, List.setIfInBounds_toArray, List.set_cons_zero, List.set_cons_succ, i64_w, i32_w]
            rfl
          refine one_ (i := 41) (N := some 152) #[true, true, true, true, true, true, true, true, true, true, true, true, true, true, true, true, true, true, true, true, true, true, true, true, true, true, true, true, true, true, true, true, true, true, true, true, true, true, true, true, true, true, false, false, false, false, false, false, false, false, false, false, false, false, false, false, false, false, false, false, false, false, false, false, false, false, false, false, false, false, false, false, false] rfl rfl (one_of HT_.out (by kernel_rfl)) (by decide) (fun K hK => ?_)
          refine value_ (by rfl) (N := some 152) rfl (v := .slice (some ⟨wa.heap.size, 0, none⟩) 2 2) (w1 := World.alloc wa (.cells #[.int .u32 0, .int .u32 39] 24)) (by go_simp) ?_
          have O2 := O1.next ((Below.refl _ _).alloc (Nat.le_refl _) (.cells #[.int .u32 0, .int .u32 39] 24))
          replace HX := HX.alloc (.cells #[.int .u32 0, .int .u32 39] 24)
          have B1 := blk_new wa (.cells #[.int .u32 0, .int .u32 39] 24)
          generalize hsz2 : wa.heap.size = gv at *
          clear hsz2
          generalize World.alloc wa (.cells #[.int .u32 0, .int .u32 39] 24) = wb at *
          refine hK.out _ _ HX (fun HS => ?_)
          clear hK K
          refine norm_ (a' := ?_) ?_ ?_
          rotate_left
          · show Act.put _ (some 152) _ = _
            simp only [Act.put, List.setIfInBounds_toArray, List.set_cons_zero, List.set_cons_succ, i64_w, i32_w]
            rfl
          refine one_ (i := 42) (N := some 153) #[true, true, true, true, true, true, true, true, true, true, true, true, true, true, true, true, true, true, true, true, true, true, true, true, true, true, true, true, true, true, true, true, true, true, true, true, true, true, true, true, true, true, true, false, false, false, false, false, false, false, false, false, false, false, false, false, false, false, false, false, false, false, false, false, false, false, false, false, false, false, false, false, false] rfl rfl (one_of HT_.out (by kernel_rfl)) (by decide) (fun K hK => ?_)
          refine goes_ Tryd.func21 (by kernel_rfl) rfl #[.slice (some ⟨gv, 0, none⟩) 2 2] (by rfl) rfl rfl (by (try simp only [List.map_toArray, List.map_cons, List.map_nil]); first | done | rfl) ?_
          refine (of_blk [0, 39] 2 _ 2 [0, 39, 0, 0, 0, 0, 0, 0, 0, 0, 0, 0, 0, 0, 0, 0] _ rfl (by decide) (by decide) (by decide) B1).mono ?_
          rintro e wc ⟨rfl, hq⟩
          refine ⟨_, rfl, ?_⟩
          refine hK.out _ _ (HX.next hq) (fun HS => ?_)
          refine norm_ ?_ (J0 (gu, gv) _ ⟨HX.next hq, O2.next hq⟩)
          simp only [putAll, Act.put, List.setIfInBounds_toArray, List.set_cons_zero, List.set_cons_succ]
        · refine value_ (by rfl) (N := some 152) rfl (v := .slice (some ⟨wd.heap.size, 0, none⟩) 2 2) (w1 := World.alloc wd (.cells #[.int .u32 0, .int .u32 39] 24)) (by go_simp) ?_
          replace HX := HX.alloc (.cells #[.int .u32 0, .int .u32 39] 24)
          have B1 := blk_new wd (.cells #[.int .u32 0, .int .u32 39] 24)
          generalize hsz2 : wd.heap.size = gv at *
          clear hsz2
          generalize World.alloc wd (.cells #[.int .u32 0, .int .u32 39] 24) = wa at *
          refine hK.out _ _ HX (fun HS => ?_)
          clear hK K
          refine norm_ (a' := ?_) ?_ ?_
          rotate_left
          · show Act.put _ (some 152) _ = _
            simp only [Act.put, List.setIfInBounds_toArray, List.set_cons_zero, List.set_cons_succ, i64_w, i32_w]
            rfl
          refine two_ (i := 40) (j := 42) (Ni := some 151) (Nj := some 153) #[true, true, true, true, true, true, true, true, true, true, true, true, true, true, true, true, true, true, true, true, true, true, true, true, true, true, true, true, true, true, true, true, true, true, true, true, true, true, true, true, true, true, false, false, false, false, false, false, false, false, false, false, false, false, false, false, false, false, false, false, false, false, false, false, false, false, false, false, false, false, false, false, false] #[true, true, true, true, true, true, true, true, true, true, true, true, true, true, true, true, true, true, true, true, true, true, true, true, true, true, true, true, true, true, true, true, true, true, true, true, true, true, true, true, false, true, true, false, false, false, false, false, false, false, false, false, false, false, false, false, false, false, false, false, false, false, false, false, false, false, false, false, false, false, false, false, false] rfl rfl rfl rfl (Go.Proofs.YtacpcagijfacnaaDoorW.PrintLast.two_of HT_.out (by kernel_rfl)) (by decide) (by decide) (fun K hK => ?_) (fun K hK => ?_)
          · refine value_ (by rfl) (N := some 151) rfl (v := .slice (some ⟨wa.heap.size, 0, none⟩) 1 1) (w1 := World.alloc wa (.cells #[.int .u8 39] 5)) (by go_simp) ?_
            have B2 := blk_alloc B1 (.cells #[.int .u8 39] 5)
            replace HX := HX.alloc (.cells #[.int .u8 39] 5)
            have O1 := octs_new wa 39
            generalize hsz1 : wa.heap.size = gu at *
            clear hsz1
            generalize World.alloc wa (.cells #[.int .u8 39] 5) = wb at *
            refine hK.out _ _ HX (fun HS => ?_)
            clear hK K
            refine norm_ (a' := ?_) ?_ ?_
            rotate_left
            · show Act.put _ (some 151) _ = _
              simp only [Act.put, List.setIfInBounds_toArray, List.set_cons_zero, List.set_cons_succ, i64_w, i32_w]
              rfl
            refine one_ (i := 42) (N := some 153) #[true, true, true, true, true, true, true, true, true, true, true, true, true, true, true, true, true, true, true, true, true, true, true, true, true, true, true, true, true, true, true, true, true, true, true, true, true, true, true, true, true, true, true, false, false, false, false, false, false, false, false, false, false, false, false, false, false, false, false, false, false, false, false, false, false, false, false, false, false, false, false, false, false] rfl rfl (one_of HT_.out (by kernel_rfl)) (by decide) (fun K hK => ?_)
            refine goes_ Tryd.func21 (by kernel_rfl) rfl #[.slice (some ⟨gv, 0, none⟩) 2 2] (by rfl) rfl rfl (by (try simp only [List.map_toArray, List.map_cons, List.map_nil]); first | done | rfl) ?_
            refine (of_blk [0, 39] 2 _ 2 [0, 39, 0, 0, 0, 0, 0, 0, 0, 0, 0, 0, 0, 0, 0, 0] _ rfl (by decide) (by decide) (by decide) B2).mono ?_
            rintro e wc ⟨rfl, hq⟩
            refine ⟨_, rfl, ?_⟩
            refine hK.out _ _ (HX.next hq) (fun HS => ?_)
            refine norm_ ?_ (J0 (gu, gv) _ ⟨HX.next hq, O1.next hq⟩)
            simp only [putAll, Act.put, List.setIfInBounds_toArray, List.set_cons_zero, List.set_cons_succ]
          · refine goes_ Tryd.func21 (by kernel_rfl) rfl #[.slice (some ⟨gv, 0, none⟩) 2 2] (by rfl) rfl rfl (by (try simp only [List.map_toArray, List.map_cons, List.map_nil]); first | done | rfl) ?_
            refine (of_blk [0, 39] 2 _ 2 [0, 39, 0, 0, 0, 0, 0, 0, 0, 0, 0, 0, 0, 0, 0, 0] _ rfl (by decide) (by decide) (by decide) B1).mono ?_
            rintro e wb ⟨rfl, hq⟩
            refine ⟨_, rfl, ?_⟩
            replace HX := HX.next hq
            clear hq
            refine hK.out _ _ HX (fun HS => ?_)
            clear hK K
            refine norm_ (a' := ?_) ?_ ?_
            rotate_left
            · show Act.put _ (some 153) _ = _
              simp only [Act.put, List.setIfInBounds_toArray, List.set_cons_zero, List.set_cons_succ, i64_w, i32_w]
              rfl
            refine one_ (i := 40) (N := some 151) #[true, true, true, true, true, true, true, true, true, true, true, true, true, true, true, true, true, true, true, true, true, true, true, true, true, true, true, true, true, true, true, true, true, true, true, true, true, true, true, true, true, true, true, false, false, false, false, false, false, false, false, false, false, false, false, false, false, false, false, false, false, false, false, false, false, false, false, false, false, false, false, false, false] rfl rfl (one_of HT_.out (by kernel_rfl)) (by decide) (fun K hK => ?_)
            refine value_ (by rfl) (N := some 151) rfl (v := .slice (some ⟨wb.heap.size, 0, none⟩) 1 1) (w1 := World.alloc wb (.cells #[.int .u8 39] 5)) (by go_simp) ?_
            refine hK.out _ _ (HX.alloc (.cells #[.int .u8 39] 5)) (fun HS => ?_)
            refine norm_ ?_ (J0 (wb.heap.size, gv) _ ⟨HX.alloc (.cells #[.int .u8 39] 5), octs_new wb 39⟩)
            simp only [putAll, Act.put, List.setIfInBounds_toArray, List.set_cons_zero, List.set_cons_succ]
end Go.Proofs.YtacpcagijfacnaaDoor
