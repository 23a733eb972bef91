/- A region that draws its order, by a tree of schedules; a call that only reads may be taken first, too. Over whatever program. -/
import Derived.Test.YtcflnjmglanneaaRt
namespace Go.Proofs.Ytcflnjmglanneaa
open Go.RowKit

section
variable {P : Program} {ops : Array Oper} {Q : Exit → Act → World → Prop} {md : Region.Mode} {S : World → Prop}

/-- It leaves a value, or it calls what hands that value back; the world is as it was. -/
def Reads1 (P : Program) (r : Result Next) (v : Value) (w : World) : Prop :=
  r = .ok (.value v) w ∨ ∃ f args, r = .ok (.enter f args) w ∧ Calls P f args w fun e w' => e = .returned v ∧ w' = w
def YieldsQ (P : Program) (ops : Array Oper) (S : World → Prop) (o : Oper) (v : Value) (a : Act) : Prop :=
  (Region.wanted o (yielded ops a.tmps) = true ∧ ∀ w, S w → Reads1 P ((execOp a.eval o).run P w) v w) ∨
  (Region.wanted o (yielded ops a.tmps) = false ∧ v = undef)
theorem YieldsQ.wpOp {i : Nat} {o : Oper} {v : Value} {a : Act} (hi : ops[i]? = some o) (hy : YieldsQ P ops S o v a)
    {K : Act → World → Prop} {w : World} (hS : S w) (h : K (a.put o.dst v) w) : wpOp P ops Q i K a w := by
  unfold Go.wpOp
  simp only [hi]
  rcases hy with ⟨hw, hv⟩ | ⟨hw, rfl⟩
  · simp only [hw, if_true]
    refine .inl ?_
    unfold Oper.wp
    rcases hv w hS with hr | ⟨f, args, hr, hc⟩
    · rw [hr]; exact h
    · rw [hr]
      simp only [Oper.upon]
      refine hc.mono ?_
      rintro e w' ⟨rfl, rfl⟩
      exact h
  · simp only [hw, Bool.false_eq_true, if_false]; exact h
theorem YieldsQ.of_same {o : Oper} {v : Value} {a a' : Act} (hy : YieldsQ P ops S o v a) (he : execOp a'.eval o = execOp a.eval o)
    (hw : Region.wanted o (yielded ops a'.tmps) = Region.wanted o (yielded ops a.tmps)) : YieldsQ P ops S o v a' := by
  unfold YieldsQ at *
  rw [he, hw]
  exact hy

/-- What an operation leaves is its temporary, and perhaps a deferred call. -/
theorem wpOp_acts {j : Nat} {oj : Oper} (hj : ops[j]? = some oj) {K : Act → World → Prop} {a : Act} {w : World} (h : wpOp P ops Q j K a w) :
    wpOp P ops Q j (fun a' w' => (∃ d u, a' = Act.put { a with defers := d } oj.dst u) ∧ K a' w') a w := by
  unfold wpOp at *
  simp only [hj] at *
  split
  · rename_i hw
    simp only [hw, if_true] at h
    rcases h with h | h
    case inr => exact .inr h
    refine .inl ?_
    unfold Oper.wp at *
    generalize (execOp a.eval oj).run P w = r at *
    cases r with
    | halt x w' => cases x <;> exact h
    | ok n w' =>
      cases n <;> simp only [Oper.upon] at h ⊢
      case value u => exact ⟨⟨a.defers, u, rfl⟩, h⟩
      case skip => exact ⟨⟨a.defers, undef, rfl⟩, h⟩
      case defer d => exact ⟨⟨d :: a.defers, undef, rfl⟩, h⟩
      case enter f args =>
        refine Calls.mono h fun e w'' he => ?_
        cases e with
        | returned u => exact ⟨⟨a.defers, u, rfl⟩, he⟩
        | panicked c => exact he
        | outgrown => exact he
      case row row args => exact Rows.mono h fun u w'' he => ⟨⟨a.defers, u, rfl⟩, he⟩
  · rename_i hw
    simp only [hw] at h
    exact ⟨⟨a.defers, undef, rfl⟩, h⟩
/-- Number j, apart from number i: whether i's value is there already makes no difference to it, and it makes none to i. -/
theorem wpOp_putQ {j : Nat} {oi oj : Oper} {v : Value} (hj : ops[j]? = some oj) (hap : oi.apart ops oj = true)
    (hsi : ∀ cs b, oi.op ≠ .select cs b) (hsj : ∀ cs b, oj.op ≠ .select cs b)
    (hQ : ∀ c a w, Q (.panic c) (a.put oi.dst v) w → Q (.panic c) a w) {K : Act → World → Prop} {a : Act} {w : World}
    (hy : YieldsQ P ops S oi v a) (h : wpOp P ops Q j K (a.put oi.dst v) w) :
    wpOp P ops Q j (fun a' w' => YieldsQ P ops S oi v a' ∧ K (a'.put oi.dst v) w') a w := by
  have hz : YieldsIf P ops (fun _ => False) oi v a := hy.imp (fun ⟨h, _⟩ => ⟨h, fun _ h => h.elim⟩) id
  obtain ⟨_, _, h3⟩ := Oper.apart_spec hap
  refine wpOp_mono (fun a' w' h => ?_) (wpOp_acts hj (wpOp_putIf hj hap hsi hsj hQ hz h))
  obtain ⟨⟨d, u, rfl⟩, _, hK⟩ := h
  have hd : YieldsQ P ops S oi v { a with defers := d } := hy.of_same rfl rfl
  exact ⟨hd.of_same (execOp_put oi hsi _ oj.dst u h3) (wanted_put oi _ oj.dst u h3), hK⟩

theorem wpAnyE_firstQ {f i : Nat} {oi : Oper} {v : Value} (hi : ops[i]? = some oi) (hsel : ∀ (j : Nat) (o : Oper) cs b, ops[j]? = some o → o.op ≠ .select cs b)
    (hQ : ∀ c a a' w, Q (.panic c) a w → Q (.panic c) a' w) : ∀ (fuel : Nat) (listed : Array Bool) (a : Act) (w : World),
      (∀ j oj, ops[j]? = some oj → j ≠ i → listed.getD j true = false → (∀ e ∈ oj.after, Region.binds md e = true → e.on ≠ i) → oi.apart ops oj = true) →
      (∀ of, ops[f]? = some of → f ≠ i → ∃ e ∈ of.after, Region.binds md e = true ∧ e.on = i) →
      i ∈ Region.ready md ops listed → YieldsQ P ops S oi v a → S w →
      wpAnyE P md ops Q S f fuel (listed.setIfInBounds i true) (a.put oi.dst v) w → wpAnyE P md ops Q S f (fuel + 1) listed a w := by
  intro fuel
  induction fuel with
  | zero =>
    intro listed a w _ _ hr hy hS H
    refine ⟨fun h => (by rw [h] at hr; cases hr), fun j hj => ?_⟩
    by_cases hji : j = i
    · rw [hji]; exact hy.wpOp hi hS ⟨.inr hS, H⟩
    · have h1 := ready_mono hj hji
      rw [H.1] at h1
      cases h1
  | succ fuel ih =>
    intro listed a w hfree hwait hr hy hS H
    refine ⟨fun h => (by rw [h] at hr; cases hr), fun j hj => ?_⟩
    by_cases hji : j = i
    · rw [hji]; exact hy.wpOp hi hS ⟨.inr hS, H⟩
    · obtain ⟨hjun, oj, hoj, hall⟩ := mem_ready.1 hj
      have hnot : ∀ e ∈ oj.after, Region.binds md e = true → e.on ≠ i := fun e he hb heq => by
        have h1 := hall e he hb
        have h0 := (mem_ready.1 hr).1
        rw [heq] at h1
        rcases Nat.lt_or_ge i listed.size with h' | h'
        · simp [h'] at h0 h1; rw [h0] at h1; cases h1
        · simp [Array.getElem?_eq_none h'] at h1
      have hfree' : ∀ k ok, ops[k]? = some ok → k ≠ i → (listed.setIfInBounds j true).getD k true = false →
          (∀ e ∈ ok.after, Region.binds md e = true → e.on ≠ i) → oi.apart ops ok = true := fun k ok hk hki hun hno => by
        refine hfree k ok hk hki ?_ hno
        by_cases hjk : j = k
        · rw [← hjk]; exact hjun
        · rw [getD_set_ne true hjk] at hun; exact hun
      have hri : i ∈ Region.ready md ops (listed.setIfInBounds j true) := ready_mono hr (Ne.symm hji)
      refine wpOp_mono (fun a' w' h3 => ?_) (wpOp_putQ hoj (hfree j oj hoj hji hjun hnot) (fun cs b => hsel i oi cs b hi) (fun cs b => hsel j oj cs b hoj) (fun c a w => hQ c _ _ w) hy (H.2 j (ready_mono hj hji)))
      obtain ⟨hy', hS', h4⟩ := h3
      have hSw : S w' := by
        rcases hS' with h5 | h5
        · subst h5
          obtain ⟨e, he, hb, heq⟩ := hwait oj hoj hji
          exact absurd heq (hnot e he hb)
        · exact h5
      refine ⟨.inr hSw, ih (listed.setIfInBounds j true) a' w' hfree' hwait hri hy' hSw ?_⟩
      rw [Array.setIfInBounds_comm _ _ hji]
      exact h4

/-- What is owed along a tree. -/
def wpTreeQ (P : Program) (ops : Array Oper) (Q : Exit → Act → World → Prop) (S : World → Prop) : Sch → Act → World → Prop
  | .done, a, w => Q .normal a w
  | .take i r, a, w => ∃ o v, ops[i]? = some o ∧ YieldsQ P ops S o v a ∧ wpTreeQ P ops Q S r (a.put o.dst v) w
  | .one i r, a, w => wpOp P ops Q i (fun a' w' => S w' ∧ (S w' → wpTreeQ P ops Q S r a' w')) a w
  | .two i j x y, a, w => wpOp P ops Q i (fun a' w' => S w' ∧ (S w' → wpTreeQ P ops Q S x a' w')) a w ∧ wpOp P ops Q j (fun a' w' => S w' ∧ (S w' → wpTreeQ P ops Q S y a' w')) a w
  | .float _ _ _, _, _ => False

theorem wpTreeQ_sound (hs : Region.noSelect ops = true) (hQ : ∀ c a a' w, Q (.panic c) a w → Q (.panic c) a' w) :
    ∀ (t : Sch) (fuel : Nat) (listed : Array Bool) (a : Act) (w : World), t.len ≤ fuel → treeOk md ops t listed = true → S w → wpTreeQ P ops Q S t a w → wpAnyE P md ops Q S ops.size fuel listed a w
  | .done, fuel, listed, a, w, _, hk, _, h => by
    have hr : Region.ready md ops listed = [] := by simpa [treeOk] using hk
    cases fuel with
    | zero => exact ⟨hr, h⟩
    | succ n => exact ⟨fun _ => h, fun i hi => by rw [hr] at hi; cases hi⟩
  | .take i r, fuel, listed, a, w, hl, hk, hS, ⟨o, v, ho, hy, h⟩ => by
    cases fuel with
    | zero => simp [Sch.len] at hl
    | succ n =>
      simp only [treeOk, Bool.and_eq_true] at hk
      refine wpAnyE_firstQ ho (Region.noSelect_spec hs) hQ n listed a w (Region.free_spec ho hk.1.1) ?_ (by simpa using hk.1.2) hy hS (wpTreeQ_sound hs hQ r n _ _ _ (by simp [Sch.len] at hl; omega) hk.2 hS h)
      intro of hof _
      simp at hof
  | .one i r, fuel, listed, a, w, hl, hk, hS, h => by
    cases fuel with
    | zero => simp [Sch.len] at hl
    | succ n =>
      simp only [treeOk, Bool.and_eq_true, beq_iff_eq] at hk
      refine ⟨fun h0 => (by rw [h0] at hk; simp at hk), fun j hj => ?_⟩
      obtain rfl : j = i := by rw [hk.1] at hj; simpa using hj
      exact wpOp_mono (fun a' w' h' => ⟨.inr h'.1, wpTreeQ_sound hs hQ r n _ _ _ (by simp [Sch.len] at hl; omega) hk.2 h'.1 (h'.2 h'.1)⟩) h
  | .two i k x y, fuel, listed, a, w, hl, hk, hS, h => by
    cases fuel with
    | zero => simp [Sch.len] at hl
    | succ n =>
      simp only [treeOk, Bool.and_eq_true, beq_iff_eq] at hk
      refine ⟨fun h0 => (by rw [h0] at hk; simp at hk), fun j hj => ?_⟩
      rw [hk.1.1] at hj
      have hj' : j = i ∨ j = k := by simpa using hj
      rcases hj' with rfl | rfl
      · exact wpOp_mono (fun a' w' h' => ⟨.inr h'.1, wpTreeQ_sound hs hQ x n _ _ _ (by simp [Sch.len] at hl; omega) hk.1.2 h'.1 (h'.2 h'.1)⟩) h.1
      · exact wpOp_mono (fun a' w' h' => ⟨.inr h'.1, wpTreeQ_sound hs hQ y n _ _ _ (by simp [Sch.len] at hl; omega) hk.2 h'.1 (h'.2 h'.1)⟩) h.2
  | .float _ _ _, _, _, _, _, _, _, _, h => h.elim

/-- A region that draws, by a tree. -/
theorem region_treeQ {id : Nat} {a : Act} {w : World} (S : World → Prop) (t : Sch) (hm : P.follows .mixedOrders = true) (hs : Region.noSelect ops = true)
    (hk : treeOk .any ops t (Array.replicate ops.size false) = true) (hl : t.len ≤ ops.size) (hQ : ∀ c a a' w, Q (.panic c) a w → Q (.panic c) a' w)
    (hS : S w.drew) (h : wpTreeQ P ops Q S t a w.drew) : (Code.region id ops true).wp P Q a w :=
  wp_region_any hm (wpAny_of_E _ _ _ _ (wpTreeQ_sound hs hQ t _ _ _ _ hl hk hS h))

theorem treeQ_take {i : Nat} {o : Oper} {v : Value} {r : Sch} {a : Act} {w : World} (ho : ops[i]? = some o) (hw : Region.wanted o (yielded ops a.tmps) = true)
    (hv : ∀ w, S w → (execOp a.eval o).run P w = .ok (.value v) w) (h : wpTreeQ P ops Q S r (a.put o.dst v) w) : wpTreeQ P ops Q S (.take i r) a w :=
  ⟨o, v, ho, .inl ⟨hw, fun w hS => .inl (hv w hS)⟩, h⟩
theorem treeQ_skip {i : Nat} {o : Oper} {r : Sch} {a : Act} {w : World} (ho : ops[i]? = some o) (hw : Region.wanted o (yielded ops a.tmps) = false)
    (h : wpTreeQ P ops Q S r (a.put o.dst undef) w) : wpTreeQ P ops Q S (.take i r) a w :=
  ⟨o, undef, ho, .inr ⟨hw, rfl⟩, h⟩
theorem treeQ_one {i : Nat} {o : Oper} {r : Sch} {a : Act} {w : World} (ho : ops[i]? = some o)
    (h : ∀ K' : Act → World → Prop, Shut (∀ a w, S w → (S w → wpTreeQ P ops Q S r a w) → K' a w) → if Region.wanted o (yielded ops a.tmps) = true then Oper.wp P o a w K' Q else K' (a.put o.dst undef) w) :
    wpTreeQ P ops Q S (.one i r) a w :=
  wpOp_step ho fun K' hK => h K' (fun a w hS hW => hK a w ⟨hS, fun _ => hW hS⟩)
theorem treeQ_call {i : Nat} {o : Oper} {v : Value} {r : Sch} {a : Act} {w : World} {f : FuncId} {args : Array Value} (ho : ops[i]? = some o) (hw : Region.wanted o (yielded ops a.tmps) = true)
    (he : ∀ w, (execOp a.eval o).run P w = .ok (.enter f args) w) (hv : ∀ w, S w → Calls P f args w fun e w' => e = .returned v ∧ w' = w) (h : wpTreeQ P ops Q S r (a.put o.dst v) w) : wpTreeQ P ops Q S (.take i r) a w :=
  ⟨o, v, ho, .inl ⟨hw, fun w hS => .inr ⟨f, args, he w, hv w hS⟩⟩, h⟩
theorem treeQ_two {i j : Nat} {x y : Sch} {a : Act} {w : World} (hx : wpTreeQ P ops Q S (.one i x) a w) (hy : wpTreeQ P ops Q S (.one j y) a w) : wpTreeQ P ops Q S (.two i j x y) a w :=
  ⟨hx, hy⟩
end
end Go.Proofs.Ytcflnjmglanneaa
