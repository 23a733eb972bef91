/- A region that draws its order, by a tree of schedules: where two operations may come up, each has a branch of its own. Over whatever program. -/
import Derived.Test.YtcflnjmglanneaaRg
namespace Go.Proofs.Ytcflnjmglanneaa
open Go.RowKit

section
variable {P : Program} {ops : Array Oper} {Q : Exit → Act → World → Prop} {md : Region.Mode} {S : World → Prop}

/-- take: a reader, in whatever world of S; one: this operation alone may come up; two: one of these two; float: number i may come up at any time among ks, which come up in this order. -/
inductive Sch where
  | done : Sch
  | take (i : Nat) (r : Sch) : Sch
  | one (i : Nat) (r : Sch) : Sch
  | two (i j : Nat) (x y : Sch) : Sch
  | float (i : Nat) (ks : List Nat) (r : Sch) : Sch

def Sch.len : Sch → Nat
  | .done => 0
  | .take _ r => r.len + 1
  | .one _ r => r.len + 1
  | .two _ _ x y => max x.len y.len + 1
  | .float _ ks r => ks.length + r.len + 1

/-- Number i and number k do not look at each other's temporaries. -/
def apartB (ops : Array Oper) (i k : Nat) : Bool :=
  match ops[i]?, ops[k]? with
  | some oi, some ok => oi.apart ops ok
  | _, _ => false

def doneOk (md : Region.Mode) (ops : Array Oper) (i : Nat) (r : Array Bool → Bool) : List Nat → Array Bool → Bool
  | [], listed => r listed
  | k :: ks, listed => Region.ready md ops listed == [k] && apartB ops i k && doneOk md ops i r ks (listed.setIfInBounds k true)

def openOk (md : Region.Mode) (ops : Array Oper) (i : Nat) (r : Array Bool → Bool) : List Nat → Array Bool → Bool
  | [], listed => Region.ready md ops listed == [i] && r (listed.setIfInBounds i true)
  | k :: ks, listed => (Region.ready md ops listed == [i, k] || Region.ready md ops listed == [k, i]) && openOk md ops i r ks (listed.setIfInBounds k true) && doneOk md ops i r (k :: ks) (listed.setIfInBounds i true)

def treeOk (md : Region.Mode) (ops : Array Oper) : Sch → Array Bool → Bool
  | .done, listed => Region.ready md ops listed == []
  | .take i r, listed => Region.free md ops listed i && (Region.ready md ops listed).contains i && treeOk md ops r (listed.setIfInBounds i true)
  | .one i r, listed => Region.ready md ops listed == [i] && treeOk md ops r (listed.setIfInBounds i true)
  | .two i j x y, listed => Region.ready md ops listed == [i, j] && treeOk md ops x (listed.setIfInBounds i true) && treeOk md ops y (listed.setIfInBounds j true)
  | .float i ks r, listed => openOk md ops i (treeOk md ops r) ks listed

/-- What is owed along a tree. -/
def wpTree (P : Program) (ops : Array Oper) (Q : Exit → Act → World → Prop) (S : World → Prop) : Sch → Act → World → Prop
  | .done, a, w => Q .normal a w
  | .take i r, a, w => ∃ o v, ops[i]? = some o ∧ YieldsIf P ops S o v a ∧ wpTree P ops Q S r (a.put o.dst v) w
  | .one i r, a, w => wpOp P ops Q i (fun a' w' => S w' ∧ (S w' → wpTree P ops Q S r a' w')) a w
  | .two i j x y, a, w => wpOp P ops Q i (fun a' w' => S w' ∧ (S w' → wpTree P ops Q S x a' w')) a w ∧ wpOp P ops Q j (fun a' w' => S w' ∧ (S w' → wpTree P ops Q S y a' w')) a w
  | .float i ks r, a, w => ∃ (o : Oper) (Inv : Nat → Act → World → Option Value → Prop), ops[i]? = some o ∧ Inv 0 a w none ∧ (∀ j a w fv, Inv j a w fv → S w) ∧
      (∀ (j k : Nat), ks[j]? = some k → ∀ a w fv, Inv j a w fv → wpOp P ops Q k (fun a' w' => Inv (j + 1) a' w' fv) a w) ∧
      (∀ j, j ≤ ks.length → ∀ a w, Inv j a w none → wpOp P ops Q i (fun a' w' => ∃ v, a' = a.put o.dst v ∧ Inv j a w' (some v)) a w) ∧
      (∀ a w v, Inv ks.length a w (some v) → wpTree P ops Q S r (a.put o.dst v) w)

theorem wpOp_beside {j : Nat} {oi oj : Oper} {v : Value} (hj : ops[j]? = some oj) (hap : oi.apart ops oj = true) (hsj : ∀ cs b, oj.op ≠ .select cs b)
    (hQ : ∀ c a a' w, Q (.panic c) a w → Q (.panic c) a' w) {K : Act → World → Prop} {a : Act} {w : World} (h : wpOp P ops Q j K a w) :
    wpOp P ops Q j (fun a'' w' => ∃ a', a'' = a'.put oi.dst v ∧ K a' w') (a.put oi.dst v) w := by
  obtain ⟨h1, h2, h3⟩ := Oper.apart_spec hap
  unfold wpOp at *
  simp only [hj] at *
  rw [wanted_put oj a oi.dst v h1]
  split
  · rename_i hw
    simp only [hw, if_true] at h
    rcases h with h | ⟨hasks, hlets⟩
    case inr => exact .inr ⟨by unfold Oper.asks at *; rw [execOp_put oj hsj a oi.dst v h1]; exact hasks, hlets⟩
    refine .inl ?_
    unfold Oper.wp at *
    rw [execOp_put oj hsj a oi.dst v h1]
    generalize (execOp a.eval oj).run P w = r at *
    cases r with
    | ok n w' =>
      cases n <;> simp only [Oper.upon] at h ⊢
      case value u => exact ⟨_, Act.put_comm a v u h2, h⟩
      case skip => exact ⟨_, Act.put_comm a v undef h2, h⟩
      case defer d =>
        exact ⟨_, (congrArg (fun b => Act.put b oj.dst undef) (Act.put_defers a oi.dst v d)).trans (Act.put_comm _ v undef h2), h⟩
      case enter f args =>
        refine Calls.mono h fun e w'' he => ?_
        cases e with
        | returned u => exact ⟨_, Act.put_comm a v u h2, he⟩
        | panicked c => exact hQ _ _ _ _ he
        | outgrown => exact he
      case row row args => exact Rows.mono h fun u w'' he => ⟨_, Act.put_comm a v u h2, he⟩
    | halt x w' =>
      cases x <;> simp only [Oper.upon] at h ⊢
      case panic u => exact hQ _ _ _ _ h
  · rename_i hw
    simp only [hw] at h
    exact ⟨_, Act.put_comm a v undef h2, h⟩

theorem apartB_spec {i k : Nat} {oi : Oper} (hi : ops[i]? = some oi) (h : apartB ops i k = true) : ∃ ok, ops[k]? = some ok ∧ oi.apart ops ok = true := by
  unfold apartB at h
  rw [hi] at h
  cases hk : ops[k]? with
  | none => rw [hk] at h; cases h
  | some ok => rw [hk] at h; exact ⟨ok, rfl, h⟩

theorem done_sound (hs : Region.noSelect ops = true) (hQ : ∀ c a a' w, Q (.panic c) a w → Q (.panic c) a' w) {f i : Nat} {o : Oper} (hi : ops[i]? = some o) {r : Array Bool → Bool} {n len : Nat} {Inv : Nat → Act → World → Option Value → Prop}
    (hS : ∀ j a w fv, Inv j a w fv → S w) (hR : ∀ fuel listed a w v, len ≤ fuel → r listed = true → Inv n a w (some v) → wpAnyE P md ops Q S f fuel listed (a.put o.dst v) w) :
    ∀ (ks : List Nat) (j fuel : Nat) (listed : Array Bool) (a : Act) (w : World) (v : Value), ks.length + len ≤ fuel → doneOk md ops i r ks listed = true → j + ks.length = n →
      (∀ (m k : Nat), ks[m]? = some k → ∀ a w fv, Inv (j + m) a w fv → wpOp P ops Q k (fun a' w' => Inv (j + m + 1) a' w' fv) a w) → Inv j a w (some v) → wpAnyE P md ops Q S f fuel listed (a.put o.dst v) w
  | [], j, fuel, listed, a, w, v, hl, hk, hj, _, hI => by
    obtain rfl : j = n := by simpa using hj
    exact hR _ _ _ _ _ (by simpa using hl) hk hI
  | k :: ks, j, fuel, listed, a, w, v, hl, hk, hj, hO, hI => by
    cases fuel with
    | zero => simp at hl
    | succ fuel =>
      simp only [doneOk, Bool.and_eq_true, beq_iff_eq] at hk
      obtain ⟨ok, hok, hap⟩ := apartB_spec hi hk.1.2
      refine ⟨fun h0 => (by rw [h0] at hk; simp at hk), fun x hx => ?_⟩
      obtain rfl : x = k := by rw [hk.1.1] at hx; simpa using hx
      refine wpOp_mono (fun a'' w' h' => ?_) (wpOp_beside (v := v) hok hap (fun cs b => Region.noSelect_spec hs x ok cs b hok) hQ (hO 0 x (by simp) a w (some v) hI))
      obtain ⟨a', rfl, hI'⟩ := h'
      refine ⟨.inr (hS _ _ _ _ hI'), done_sound hs hQ hi hS hR ks (j + 1) fuel _ a' w' v (by simp at hl; omega) hk.2 (by simp at hj; omega) (fun m k hm a w fv h => ?_) hI'⟩
      have := hO (m + 1) k (by simpa using hm) a w fv (by rw [show j + (m + 1) = j + 1 + m by omega]; exact h)
      rw [show j + (m + 1) = j + 1 + m by omega] at this
      exact this

theorem open_sound (hs : Region.noSelect ops = true) (hQ : ∀ c a a' w, Q (.panic c) a w → Q (.panic c) a' w) {f i : Nat} {o : Oper} (hi : ops[i]? = some o) {r : Array Bool → Bool} {n len : Nat} {Inv : Nat → Act → World → Option Value → Prop}
    (hS : ∀ j a w fv, Inv j a w fv → S w) (hR : ∀ fuel listed a w v, len ≤ fuel → r listed = true → Inv n a w (some v) → wpAnyE P md ops Q S f fuel listed (a.put o.dst v) w)
    (hF : ∀ j, j ≤ n → ∀ a w, Inv j a w none → wpOp P ops Q i (fun a' w' => ∃ v, a' = a.put o.dst v ∧ Inv j a w' (some v)) a w) :
    ∀ (ks : List Nat) (j fuel : Nat) (listed : Array Bool) (a : Act) (w : World), ks.length + len + 1 ≤ fuel → openOk md ops i r ks listed = true → j + ks.length = n →
      (∀ (m k : Nat), ks[m]? = some k → ∀ a w fv, Inv (j + m) a w fv → wpOp P ops Q k (fun a' w' => Inv (j + m + 1) a' w' fv) a w) → Inv j a w none → wpAnyE P md ops Q S f fuel listed a w
  | [], j, fuel, listed, a, w, hl, hk, hj, _, hI => by
    obtain rfl : j = n := by simpa using hj
    cases fuel with
    | zero => simp at hl
    | succ fuel =>
      simp only [openOk, Bool.and_eq_true, beq_iff_eq] at hk
      refine ⟨fun h0 => (by rw [h0] at hk; simp at hk), fun x hx => ?_⟩
      obtain rfl : x = i := by rw [hk.1] at hx; simpa using hx
      refine wpOp_mono (fun a'' w' h' => ?_) (hF j (Nat.le_refl _) a w hI)
      obtain ⟨v, rfl, hI'⟩ := h'
      exact ⟨.inr (hS _ _ _ _ hI'), hR _ _ _ _ _ (by simp at hl; omega) hk.2 hI'⟩
  | k :: ks, j, fuel, listed, a, w, hl, hk, hj, hO, hI => by
    cases fuel with
    | zero => simp at hl
    | succ fuel =>
      simp only [openOk, Bool.and_eq_true, Bool.or_eq_true, beq_iff_eq] at hk
      refine ⟨fun h0 => (by rw [h0] at hk; simp at hk), fun x hx => ?_⟩
      have hx2 : x = i ∨ x = k := by
        rcases hk.1.1 with h1 | h1
        · rw [h1] at hx; simpa using hx
        · rw [h1] at hx; simp at hx; exact hx.symm
      rcases hx2 with rfl | rfl
      · refine wpOp_mono (fun a'' w' h' => ?_) (hF j (by omega) a w hI)
        obtain ⟨v, rfl, hI'⟩ := h'
        exact ⟨.inr (hS _ _ _ _ hI'), done_sound hs hQ hi hS hR (k :: ks) j fuel _ a w' v (by simp at hl ⊢; omega) hk.2 hj hO hI'⟩
      · refine wpOp_mono (fun a' w' h' => ?_) (hO 0 x (by simp) a w none hI)
        refine ⟨.inr (hS _ _ _ _ h'), open_sound hs hQ hi hS hR hF ks (j + 1) fuel _ a' w' (by simp at hl; omega) hk.1.2 (by simp at hj; omega) (fun m k hm a w fv h => ?_) h'⟩
        have := hO (m + 1) k (by simpa using hm) a w fv (by rw [show j + (m + 1) = j + 1 + m by omega]; exact h)
        rw [show j + (m + 1) = j + 1 + m by omega] at this
        exact this

theorem wpTree_sound (hs : Region.noSelect ops = true) (hQ : ∀ c a a' w, Q (.panic c) a w → Q (.panic c) a' w) :
    ∀ (t : Sch) (fuel : Nat) (listed : Array Bool) (a : Act) (w : World), t.len ≤ fuel → treeOk md ops t listed = true → S w → wpTree P ops Q S t a w → wpAnyE P md ops Q S ops.size fuel listed a w
  | .done, fuel, listed, a, w, _, hk, _, h => by
    have hr : Region.ready md ops listed = [] := by simpa [treeOk] using hk
    cases fuel with
    | zero => exact ⟨hr, h⟩
    | succ n => exact ⟨fun _ => h, fun i hi => by rw [hr] at hi; cases hi⟩
  | .take i r, fuel, listed, a, w, hl, hk, hS, ⟨o, v, ho, hy, h⟩ => by
    cases fuel with
    | zero => simp [Sch.len] at hl
    | succ n =>
      simp only [treeOk, Bool.and_eq_true] at hk
      refine wpAnyE_first ho (Region.noSelect_spec hs) hQ n listed a w (Region.free_spec ho hk.1.1) ?_ (by simpa using hk.1.2) hy hS (wpTree_sound hs hQ r n _ _ _ (by simp [Sch.len] at hl; omega) hk.2 hS h)
      intro of hof _
      simp at hof
  | .one i r, fuel, listed, a, w, hl, hk, hS, h => by
    cases fuel with
    | zero => simp [Sch.len] at hl
    | succ n =>
      simp only [treeOk, Bool.and_eq_true, beq_iff_eq] at hk
      refine ⟨fun h0 => (by rw [h0] at hk; simp at hk), fun j hj => ?_⟩
      obtain rfl : j = i := by rw [hk.1] at hj; simpa using hj
      exact wpOp_mono (fun a' w' h' => ⟨.inr h'.1, wpTree_sound hs hQ r n _ _ _ (by simp [Sch.len] at hl; omega) hk.2 h'.1 (h'.2 h'.1)⟩) h
  | .two i k x y, fuel, listed, a, w, hl, hk, hS, h => by
    cases fuel with
    | zero => simp [Sch.len] at hl
    | succ n =>
      simp only [treeOk, Bool.and_eq_true, beq_iff_eq] at hk
      refine ⟨fun h0 => (by rw [h0] at hk; simp at hk), fun j hj => ?_⟩
      rw [hk.1.1] at hj
      have hj' : j = i ∨ j = k := by simpa using hj
      rcases hj' with rfl | rfl
      · exact wpOp_mono (fun a' w' h' => ⟨.inr h'.1, wpTree_sound hs hQ x n _ _ _ (by simp [Sch.len] at hl; omega) hk.1.2 h'.1 (h'.2 h'.1)⟩) h.1
      · exact wpOp_mono (fun a' w' h' => ⟨.inr h'.1, wpTree_sound hs hQ y n _ _ _ (by simp [Sch.len] at hl; omega) hk.2 h'.1 (h'.2 h'.1)⟩) h.2
  | .float i ks r, fuel, listed, a, w, hl, hk, hS, ⟨o, Inv, ho, hI, hSI, hO, hF, hR⟩ => by
    have hl' : ks.length + r.len + 1 ≤ fuel := hl
    exact open_sound (n := ks.length) hs hQ ho hSI (fun fuel listed a w v hl hk hI => wpTree_sound hs hQ r fuel listed _ _ hl hk (hSI _ _ _ _ hI) (hR _ _ _ hI)) hF ks 0 fuel listed a w hl' hk (by omega) (fun m k hm a w fv h => by rw [Nat.zero_add] at h ⊢; exact hO m k hm a w fv h) hI

/-- A region that draws, by a tree. -/
theorem region_tree {id : Nat} {a : Act} {w : World} (S : World → Prop) (t : Sch) (hm : P.follows .mixedOrders = true) (hs : Region.noSelect ops = true)
    (hk : treeOk .any ops t (Array.replicate ops.size false) = true) (hl : t.len ≤ ops.size) (hQ : ∀ c a a' w, Q (.panic c) a w → Q (.panic c) a' w)
    (hS : S w.drew) (h : wpTree P ops Q S t a w.drew) : (Code.region id ops true).wp P Q a w :=
  wp_region_any hm (wpAny_of_E _ _ _ _ (wpTree_sound hs hQ t _ _ _ _ hl hk hS h))

theorem tree_take {i : Nat} {o : Oper} {v : Value} {r : Sch} {a : Act} {w : World} (ho : ops[i]? = some o) (hw : Region.wanted o (yielded ops a.tmps) = true)
    (hv : ∀ w, S w → (execOp a.eval o).run P w = .ok (.value v) w) (h : wpTree P ops Q S r (a.put o.dst v) w) : wpTree P ops Q S (.take i r) a w :=
  ⟨o, v, ho, .inl ⟨hw, hv⟩, h⟩
theorem tree_skip {i : Nat} {o : Oper} {r : Sch} {a : Act} {w : World} (ho : ops[i]? = some o) (hw : Region.wanted o (yielded ops a.tmps) = false)
    (h : wpTree P ops Q S r (a.put o.dst undef) w) : wpTree P ops Q S (.take i r) a w :=
  ⟨o, undef, ho, .inr ⟨hw, rfl⟩, h⟩
theorem tree_one {i : Nat} {o : Oper} {r : Sch} {a : Act} {w : World} (ho : ops[i]? = some o)
    (h : ∀ K' : Act → World → Prop, Shut (∀ a w, S w → (S w → wpTree P ops Q S r a w) → K' a w) → if Region.wanted o (yielded ops a.tmps) = true then Oper.wp P o a w K' Q else K' (a.put o.dst undef) w) :
    wpTree P ops Q S (.one i r) a w :=
  wpOp_step ho fun K' hK => h K' (fun a w hS hW => hK a w ⟨hS, fun _ => hW hS⟩)
theorem tree_two {i j : Nat} {x y : Sch} {a : Act} {w : World} (hx : wpTree P ops Q S (.one i x) a w) (hy : wpTree P ops Q S (.one j y) a w) : wpTree P ops Q S (.two i j x y) a w :=
  ⟨hx, hy⟩
end
end Go.Proofs.Ytcflnjmglanneaa
