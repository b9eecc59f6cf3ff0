/- A region that draws its order, in a round of a range over a function, by the words for a region outside. -/
import Derived.Test.YtbdccfjeeabpaaaNk
import Derived.Test.YtbdccfjeeabpaaaWLast
namespace Go.Proofs.Ytbdccfjeeabpaaa
open Go.RowKit Go.Shelf
set_option linter.unusedSimpArgs false
set_option linter.unusedVariables false
theorem upon_in {P : Program} {o : Oper} {a : Act} {K : Act → World → Prop} {Q : Exit → Act → World → Prop} (lo n : Nat) : ∀ {r : Result Next}, o.upon P a K Q r → o.uponIn (Fence.wide.inRound lo) n P a K Q r
  | .ok (.value v) w, h => h
  | .ok .skip w, h => h
  | .ok (.defer d) w, h => h
  | .ok (.enter f args) w, h => ⟨(fun e => by cases e), CallsIn.inRound lo (callsIn_wide.2 h)⟩
  | .ok (.row row args) w, h => ⟨(fun e => by cases e), fun c cs _ => let ⟨v, w', r, s⟩ := h c cs; ⟨v, w', r, stepsIn_wide.2 s⟩⟩
  | .halt (.panic v) w, h => h
theorem wp_in {P : Program} {o : Oper} {a : Act} {w : World} {K : Act → World → Prop} {Q : Exit → Act → World → Prop} (lo n : Nat) (hd : ∀ c, o.op ≠ .defer c) (h : o.wp P a w K Q) : o.wpIn (Fence.wide.inRound lo) n P a w K Q := by
  refine ⟨fun _ _ => trivial, ?_⟩
  rw [Oper.semAt_eq _ _ _ hd]
  exact upon_in lo n h
theorem any_in {P : Program} {md : Region.Mode} {ops : Array Oper} {Q : Exit → Act → World → Prop} (lo n : Nat) (hd : ∀ (i : Nat) (o : Oper), ops[i]? = some o → ∀ c, o.op ≠ .defer c) (hQ : ¬ LetsOut Q) : ∀ (fuel : Nat) (l : Array Bool) (a : Act) (w : World), wpAny P md ops Q fuel l a w → wpAnyIn (Fence.wide.inRound lo) n P md ops Q fuel l a w
  | 0, l, a, w, h => h
  | fuel + 1, l, a, w, h => by
    refine ⟨h.1, fun i hi => ?_⟩
    have h2 := h.2 i hi
    unfold wpOp at h2
    unfold wpOpIn
    cases ho : ops[i]? with
    | none => rw [ho] at h2; exact any_in lo n hd hQ fuel _ _ _ h2
    | some o =>
      rw [ho] at h2
      simp only at h2 ⊢
      by_cases hw : Region.wanted o (yielded ops a.tmps) = true
      · rw [if_pos hw] at h2 ⊢
        rcases h2 with h2 | h2
        · exact wp_in lo n (hd i o ho) (Oper.wp_mono (fun a w h => any_in lo n hd hQ fuel _ _ _ h) h2)
        · exact absurd h2.2 hQ
      · rw [if_neg hw] at h2 ⊢
        exact ⟨fun _ _ => trivial, any_in lo n hd hQ fuel _ _ _ h2⟩
open Go.Proofs.YtbdccfjeeabpaaaW.PrintLast in
theorem start_in {P : Program} {ops : Array Oper} {Q : Exit → Act → World → Prop} {S : World → Prop} {ds : List Nat} {id n k lo : Nat} {a : Act} {w : World} (l : Array Bool) (hm : P.follows .mixedOrders = true) (hn : ops.size = n) (hl : Array.replicate n false = l)
    (hd : ∀ (i : Nat) (o : Oper), ops[i]? = some o → ∀ c, o.op ≠ .defer c) (hQ : ¬ LetsOut Q) (hS : S w.drew)
    (h : S w.drew → wpAnyLast P .any ops Q S ds n l a w.drew) : (Code.region id ops true).wpIn (Fence.wide.inRound lo) k P Q a w := by
  subst hn
  subst hl
  exact wpIn_region_any hm (any_in lo k hd hQ _ _ _ _ (wpAny_of_last _ _ _ _ (h hS)))
theorem appIn {P : Program} (lo n : Nat) {w W' : World} {ops : Array Oper} {rest : List Oper} {o : Oper} {a : Act} {Q : Exit → Act → World → Prop} (hg : o.guard = none) (s x : Operand) (t : TypeId)
    (ho : o.op = .call { callee := .builtin .append, args := #[s, x], argTypes := #[t, t] }) {vs vx v : Value} (hs : a.eval s = vs) (hx : a.eval x = vx) (hrun : (Builtin.append_ #[t, t] o.type #[vs, vx]).run P w = .ok v W')
    (h : wpListIn (Fence.wide.inRound lo) n P ops Q rest (a.put o.dst v) W') : wpListIn (Fence.wide.inRound lo) n P ops Q (o :: rest) a w := by
  refine wpListIn_plain hg fun K hK => wp_in lo n (fun c e => by rw [ho] at e; cases e) ?_
  unfold Oper.wp
  simp [execOp, ho, resolve, invoke, builtin, hs, hx, hrun, Result.andThen]
  exact hK _ _ h
theorem nodefer {ops : Array Oper} (h : (ops.toList.all fun o => match o.op with | .defer _ => false | _ => true) = true) (i : Nat) (o : Oper) (ho : ops[i]? = some o) (c : Call) : o.op ≠ .defer c := by
  intro e
  obtain ⟨hi, rfl⟩ := Array.getElem?_eq_some_iff.1 ho
  have := List.all_eq_true.1 h (ops[i]) (by simp)
  rw [e] at this
  cases this
end Go.Proofs.Ytbdccfjeeabpaaa
