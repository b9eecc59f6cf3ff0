/- Chapter 22 (armors): Decode. -/
import Derived.Test.YtbdccfjeeabpaaaNb
namespace Go.Proofs.Ytbdccfjeeabpaaa
open Go.RowKit Go.Shelf
set_option linter.unusedSimpArgs false
set_option linter.unusedVariables false
set_option maxRecDepth 50000
theorem size60 : (Try.prog.info? 60).map (·.size) = some (tabC 64).size := by kernel_rfl
theorem info60 : (Try.prog.info? 60).map (·.zero) = some (some (.agg (tabC 0))) := by kernel_rfl
theorem z60 (w : World) : (zeroValue 60).run Try.prog w = .ok (.agg (tabC 0)) w := by
  obtain ⟨i, hi, hz⟩ := Option.map_eq_some_iff.1 info60
  simp [zeroValue, Go.typeInfo, program, Sem.run, hi, hz, Result.andThen]
set_option maxHeartbeats 4000000 in
theorem decode17_any (s : ByteArray) (w : World) (hs : s.size ≤ 1099511627776) : Calls Try.prog 17 #[.string s] w (DecR s.data.toList w) := by
  have hz := z60
  go_enter Try.func17, Try.ntmps17
  go_upto_region 1 with fail
  go_wp2_with (first
    | (go_at_call 27; refine (numbers_is _).mono ?_; rintro e w1 ⟨rfl, hb⟩; have B1 := Lib.hid hb; clear hb)
    | (refine wpList_plain rfl fun K hK => ?_; refine wp_store_row 60 _ _ rfl w1.heap.size (tabC 64) rfl rfl 60 (tabC 0) (heap_alloc_new w1 _) size60 rfl one57 ?_; refine hK _ _ ?_))
  have B2 : Hid (Below w.heap.size w ((w1.alloc (.cells (tabC 0) 60)).setRow w1.heap.size (tabC 64))) := by
    show Below _ _ _
    exact below_setRow (B1.out.alloc B1.out.size _) B1.out.size _
  have C2 : Hid (((w1.alloc (.cells (tabC 0) 60)).setRow w1.heap.size (tabC 64)).heap[w1.heap.size]? = some (.cells (tabC 64) 60 (0, 0))) := setRow_heap _ _ _ _ _ _ (heap_alloc_new w1 _)
  generalize (w1.alloc (.cells (tabC 0) 60)).setRow w1.heap.size (tabC 64) = w2 at *
  refine (decode_any w1.heap.size s w2 hs C2.out).mono ?_
  rintro e w3 ⟨A, rfl, hx, hb⟩
  have B3 := Lib.hid (B2.out.trans (hb.mono B2.out.size))
  have X3 := Lib.hid hx
  clear hb hx
  go_wp2
  go_ret2
  refine ⟨A, rfl, ?_, B3.out⟩
  rcases X3.out with h | ⟨g, h1, h2, h3⟩
  · exact .inl h
  · exact .inr ⟨g, h1, Nat.le_trans B2.out.size h2, h3⟩
end Go.Proofs.Ytbdccfjeeabpaaa
