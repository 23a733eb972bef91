/- Operations at an act that is a letter: what a slot holds behind a put, a call by its contract, an alloc, a store of a whole array; one operation that may come up at any time. Over whatever program. -/
import Derived.Test.YtekdekchbnacgaaRo
import Derived.Deep.MidRow
namespace Go.Proofs.Ytekdekchbnacgaa
open Go.RowKit

section
variable {P : Program} {ops : Array Oper} {Q : Exit → Act → World → Prop} {md : Region.Mode} {S : World → Prop}

theorem put_same {a : Act} {d : Nat} {v : Value} (h : d < a.tmps.size) : (a.put (some d) v).eval (.tmp d) = v := by
  show (a.tmps.setIfInBounds d v).getD d undef = v
  simp [Array.getD, h]
theorem put_ne {a : Act} {d e : Nat} {v : Value} (h : d ≠ e) : (a.put (some d) v).eval (.tmp e) = a.eval (.tmp e) := by
  show (a.tmps.setIfInBounds d v).getD e undef = a.tmps.getD e undef
  simp only [Array.getD_eq_getD_getElem?, Array.getElem?_setIfInBounds_ne h]
theorem put_size {a : Act} {d : Option Nat} {v : Value} : (a.put d v).tmps.size = a.tmps.size := by
  cases d <;> simp [Act.put]

theorem wpOp_of {i : Nat} {o : Oper} {K : Act → World → Prop} {a : Act} {w : World} (ho : ops[i]? = some o) (hg : o.guard = none) (h : o.wp P a w K Q) : wpOp P ops Q i K a w := by
  unfold wpOp
  rw [ho]
  show if Region.wanted o (yielded ops a.tmps) = true then _ else _
  rw [if_pos (by unfold Region.wanted; simp [hg])]
  exact .inl h
theorem wp_value {o : Oper} {a : Act} {w w' : World} {K : Act → World → Prop} {v : Value} (h : (execOp a.eval o).run P w = .ok (.value v) w') (hK : K (a.put o.dst v) w') : o.wp P a w K Q := by
  unfold Oper.wp
  rw [h]
  exact hK
theorem wp_callf {o : Oper} {a : Act} {w : World} {K : Act → World → Prop} (f : FuncId) (xs : Array Operand) (ts : Array TypeId) (ho : o.op = .call { callee := .value (.func f), args := xs, argTypes := ts })
    (hc : ∀ args w, (callFunc f args).run P w = .ok (.enter f args) w) {T : Ending → World → Prop} (h : Calls P f (xs.map a.eval) w T) (hT : ∀ e w', T e w' → ∃ v, e = .returned v ∧ K (a.put o.dst v) w') : o.wp P a w K Q := by
  have e : execOp a.eval o = callFunc f (#[] ++ xs.map a.eval ++ #[]) := by
    obtain ⟨dst, op, ty, pos, after, guard⟩ := o
    obtain rfl : op = _ := ho
    rfl
  unfold Oper.wp
  rw [e, hc]
  simp only [Array.empty_append, Array.append_empty]
  refine Calls.mono h fun e w' he => ?_
  obtain ⟨v, rfl, hK⟩ := hT e w' he
  exact hK
theorem wpList_value {l : List Oper} {o : Oper} {a : Act} {w : World} {v : Value} (hg : o.guard = none) (h : (execOp a.eval o).run P w = .ok (.value v) w) (hK : wpList P ops Q l (a.put o.dst v) w) : wpList P ops Q (o :: l) a w :=
  wpList_plain hg fun _ k => wp_value h (k _ _ hK)
theorem wpList_callf {l : List Oper} {o : Oper} {a : Act} {w : World} (hg : o.guard = none) (f : FuncId) (xs : Array Operand) (ts : Array TypeId) (ho : o.op = .call { callee := .value (.func f), args := xs, argTypes := ts })
    (hc : ∀ args w, (callFunc f args).run P w = .ok (.enter f args) w) (args : Array Value) (hargs : xs.map a.eval = args) {T : Ending → World → Prop} (h : Calls P f args w T)
    (hT : ∀ e w', T e w' → ∃ v, e = .returned v ∧ wpList P ops Q l (a.put o.dst v) w') : wpList P ops Q (o :: l) a w :=
  wpList_plain hg fun _ k => wp_callf f xs ts ho hc (hargs ▸ h) fun e w' ht => by
    obtain ⟨v, h1, h2⟩ := hT e w' ht
    exact ⟨v, h1, k _ _ h2⟩
theorem wp_alloc_as {o : Oper} {a : Act} {w : World} {K : Act → World → Prop} (t : TypeId) (ho : o.op = .alloc t) (Z : Array Value)
    (hz : ∀ w, (Instr.alloc t true (.tuple #[])).run P w = .ok (.pointer (some ⟨w.heap.size, 0, none⟩)) (w.alloc (.cells Z t))) (h : K (a.put o.dst (.pointer (some ⟨w.heap.size, 0, none⟩))) (w.alloc (.cells Z t))) : o.wp P a w K Q := by
  refine wp_value (v := .pointer (some ⟨w.heap.size, 0, none⟩)) (w' := w.alloc (.cells Z t)) ?_ h
  unfold execOp
  simp only [ho, Sem.run_bind, hz, Result.andThen_ok, Sem.run_pure]

theorem tree_float {i : Nat} {ks : List Nat} {r : Sch} {a : Act} {w : World} {o : Oper} (ho : ops[i]? = some o) (Inv : Nat → Act → World → Option Value → Prop) (h0 : Inv 0 a w none) (hS : ∀ j a w fv, Inv j a w fv → S w)
    (hO : ∀ (j k : Nat), ks[j]? = some k → ∀ a w fv, Inv j a w fv → wpOp P ops Q k (fun a' w' => Inv (j + 1) a' w' fv) a w)
    (hF : ∀ j, j ≤ ks.length → ∀ a w, Inv j a w none → wpOp P ops Q i (fun a' w' => ∃ v, a' = a.put o.dst v ∧ Inv j a w' (some v)) a w)
    (hR : ∀ a w v, Inv ks.length a w (some v) → wpTree P ops Q S r (a.put o.dst v) w) : wpTree P ops Q S (.float i ks r) a w :=
  ⟨o, Inv, ho, h0, hS, hO, hF, hR⟩
end
theorem lies_ne {v v' : Value} {h g : Nat} (hl : v'.ownBlock = v.ownBlock ∨ v'.ownBlock = some h) (hne : ∀ k, v.ownBlock = some k → k ≠ g) (hg : h = g → False) : ∀ k, v'.ownBlock = some k → k ≠ g := fun k e => by
  rcases hl with h1 | h1
  · exact hne k (h1 ▸ e)
  · rw [h1] at e
    cases e
    exact hg
theorem th_far {w w' : World} {g n : Nat} {own : Option Nat} (h : w.there g 0 n) (hg : w.grownBy w' own) (hne : ∀ k, own = some k → k ≠ g) (hl : g < w.heap.size) : w'.there g 0 n := fun j hj => by
  have e := hg.block g hl (fun e => hne g e.symm rfl)
  obtain ⟨h1, h2⟩ := h j hj
  refine ⟨?_, ?_⟩
  · rw [World.cell?_of_block (a := ⟨g, 0 + j, none⟩) e]; exact h1
  · rw [World.frozen?_of_block (a := ⟨g, 0 + j, none⟩) e]; exact h2
end Go.Proofs.Ytekdekchbnacgaa
