/- A region that draws its order, by a tree of schedules: where two operations may come up, each has a branch of its own. Over whatever program. -/
import Derived.Test.YtklaancgnfkjlaaDoorRg
namespace Go.Proofs.YtklaancgnfkjlaaDoor
open Go.RowKit

section
variable {P : Program} {ops : Array Oper} {Q : Exit → Act → World → Prop} {md : Region.Mode} {S : World → Prop}

/-- take: a reader, in whatever world of S; one: this operation alone may come up; two: one of these two. -/
inductive Sch where
  | done : Sch
  | take (i : Nat) (r : Sch) : Sch
  | one (i : Nat) (r : Sch) : Sch
  | two (i j : Nat) (x y : Sch) : Sch

def Sch.len : Sch → Nat
  | .done => 0
  | .take _ r => r.len + 1
  | .one _ r => r.len + 1
  | .two _ _ x y => max x.len y.len + 1

def treeOk (md : Region.Mode) (ops : Array Oper) : Sch → Array Bool → Bool
  | .done, listed => Region.ready md ops listed == []
  | .take i r, listed => Region.free md ops listed i && (Region.ready md ops listed).contains i && treeOk md ops r (listed.setIfInBounds i true)
  | .one i r, listed => Region.ready md ops listed == [i] && treeOk md ops r (listed.setIfInBounds i true)
  | .two i j x y, listed => Region.ready md ops listed == [i, j] && treeOk md ops x (listed.setIfInBounds i true) && treeOk md ops y (listed.setIfInBounds j true)

/-- What is owed along a tree. -/
def wpTree (P : Program) (ops : Array Oper) (Q : Exit → Act → World → Prop) (S : World → Prop) : Sch → Act → World → Prop
  | .done, a, w => Q .normal a w
  | .take i r, a, w => ∃ o v, ops[i]? = some o ∧ YieldsIf P ops S o v a ∧ wpTree P ops Q S r (a.put o.dst v) w
  | .one i r, a, w => wpOp P ops Q i (fun a' w' => S w' ∧ (S w' → wpTree P ops Q S r a' w')) a w
  | .two i j x y, a, w => wpOp P ops Q i (fun a' w' => S w' ∧ (S w' → wpTree P ops Q S x a' w')) a w ∧ wpOp P ops Q j (fun a' w' => S w' ∧ (S w' → wpTree P ops Q S y a' w')) a w

theorem wpTree_sound (hs : Region.noSelect ops = true) (hQ : ∀ c a a' w, Q (.panic c) a w → Q (.panic c) a' w) :
    ∀ (t : Sch) (fuel : Nat) (listed : Array Bool) (a : Act) (w : World), t.len ≤ fuel → treeOk md ops t listed = true → S w → wpTree P ops Q S t a w → wpAnyE P md ops Q S ops.size fuel listed a w
  | .done, fuel, listed, a, w, _, hk, _, h => by
    have hr : Region.ready md ops listed = [] := by simpa [treeOk] using hk
    cases fuel with
    | zero => exact ⟨hr, h⟩
    | succ n => exact ⟨fun _ => h, fun i hi => by rw [hr] at hi; cases hi⟩
  | .take i r, fuel, listed, a, w, hl, hk, hS, ⟨o, v, ho, hy, h⟩ => by
    cases fuel with
    | zero => simp [Sch.len] at hl
    | succ n =>
      simp only [treeOk, Bool.and_eq_true] at hk
      refine wpAnyE_first ho (Region.noSelect_spec hs) hQ n listed a w (Region.free_spec ho hk.1.1) ?_ (by simpa using hk.1.2) hy hS (wpTree_sound hs hQ r n _ _ _ (by simp [Sch.len] at hl; omega) hk.2 hS h)
      intro of hof _
      simp at hof
  | .one i r, fuel, listed, a, w, hl, hk, hS, h => by
    cases fuel with
    | zero => simp [Sch.len] at hl
    | succ n =>
      simp only [treeOk, Bool.and_eq_true, beq_iff_eq] at hk
      refine ⟨fun h0 => (by rw [h0] at hk; simp at hk), fun j hj => ?_⟩
      obtain rfl : j = i := by rw [hk.1] at hj; simpa using hj
      exact wpOp_mono (fun a' w' h' => ⟨.inr h'.1, wpTree_sound hs hQ r n _ _ _ (by simp [Sch.len] at hl; omega) hk.2 h'.1 (h'.2 h'.1)⟩) h
  | .two i k x y, fuel, listed, a, w, hl, hk, hS, h => by
    cases fuel with
    | zero => simp [Sch.len] at hl
    | succ n =>
      simp only [treeOk, Bool.and_eq_true, beq_iff_eq] at hk
      refine ⟨fun h0 => (by rw [h0] at hk; simp at hk), fun j hj => ?_⟩
      rw [hk.1.1] at hj
      have hj' : j = i ∨ j = k := by simpa using hj
      rcases hj' with rfl | rfl
      · exact wpOp_mono (fun a' w' h' => ⟨.inr h'.1, wpTree_sound hs hQ x n _ _ _ (by simp [Sch.len] at hl; omega) hk.1.2 h'.1 (h'.2 h'.1)⟩) h.1
      · exact wpOp_mono (fun a' w' h' => ⟨.inr h'.1, wpTree_sound hs hQ y n _ _ _ (by simp [Sch.len] at hl; omega) hk.2 h'.1 (h'.2 h'.1)⟩) h.2

/-- A region that draws, by a tree. -/
theorem region_tree {id : Nat} {a : Act} {w : World} (S : World → Prop) (t : Sch) (hm : P.follows .mixedOrders = true) (hs : Region.noSelect ops = true)
    (hk : treeOk .any ops t (Array.replicate ops.size false) = true) (hl : t.len ≤ ops.size) (hQ : ∀ c a a' w, Q (.panic c) a w → Q (.panic c) a' w)
    (hS : S w.drew) (h : wpTree P ops Q S t a w.drew) : (Code.region id ops true).wp P Q a w :=
  wp_region_any hm (wpAny_of_E _ _ _ _ (wpTree_sound hs hQ t _ _ _ _ hl hk hS h))

theorem tree_take {i : Nat} {o : Oper} {v : Value} {r : Sch} {a : Act} {w : World} (ho : ops[i]? = some o) (hw : Region.wanted o (yielded ops a.tmps) = true)
    (hv : ∀ w, S w → (execOp a.eval o).run P w = .ok (.value v) w) (h : wpTree P ops Q S r (a.put o.dst v) w) : wpTree P ops Q S (.take i r) a w :=
  ⟨o, v, ho, .inl ⟨hw, hv⟩, h⟩
theorem tree_skip {i : Nat} {o : Oper} {r : Sch} {a : Act} {w : World} (ho : ops[i]? = some o) (hw : Region.wanted o (yielded ops a.tmps) = false)
    (h : wpTree P ops Q S r (a.put o.dst undef) w) : wpTree P ops Q S (.take i r) a w :=
  ⟨o, undef, ho, .inr ⟨hw, rfl⟩, h⟩
theorem tree_one {i : Nat} {o : Oper} {r : Sch} {a : Act} {w : World} (ho : ops[i]? = some o)
    (h : ∀ K' : Act → World → Prop, Shut (∀ a w, S w → (S w → wpTree P ops Q S r a w) → K' a w) → if Region.wanted o (yielded ops a.tmps) = true then Oper.wp P o a w K' Q else K' (a.put o.dst undef) w) :
    wpTree P ops Q S (.one i r) a w :=
  wpOp_step ho fun K' hK => h K' (fun a w hS hW => hK a w ⟨hS, fun _ => hW hS⟩)
theorem tree_two {i j : Nat} {x y : Sch} {a : Act} {w : World} (hx : wpTree P ops Q S (.one i x) a w) (hy : wpTree P ops Q S (.one j y) a w) : wpTree P ops Q S (.two i j x y) a w :=
  ⟨hx, hy⟩
end
end Go.Proofs.YtklaancgnfkjlaaDoor
