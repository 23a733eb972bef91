/- A region that draws its order, carried out by a given schedule; within a round of a range over a function, too. Over whatever program. -/
import Derived.RangeFuncNested
import Derived.WalkKit
import Derived.Deep.RegionHeld3
import Derived.OrdersIn
namespace Go.Proofs.Ytcflnjmglanneaa
open Go.RowKit

section
variable {P : Program} {ops : Array Oper} {Q : Exit → Act → World → Prop} {md : Region.Mode} {S : World → Prop}

/-- No operation is a defer statement. -/
def noDefer (ops : Array Oper) : Bool := ops.all fun o => match o.op with | .defer .. => false | _ => true

theorem noDefer_spec (h : noDefer ops = true) (j : Nat) (o : Oper) (c : Call) (ho : ops[j]? = some o) : o.op ≠ .defer c := by
  intro heq
  have := Array.all_eq_true_iff_forall_mem.1 h o (Array.mem_of_getElem? ho)
  simp [heq] at this

theorem wpOp_inRound {l n i : Nat} (hQ : ¬ LetsOut Q) (hd : noDefer ops = true) {K : Act → World → Prop} {a : Act} {w : World}
    (h : wpOp P ops Q i K a w) : wpOpIn (Fence.wide.inRound l) n P ops Q i K a w := by
  unfold wpOp at h
  unfold wpOpIn
  cases ho : ops[i]? with
  | none => simpa [ho] using h
  | some o =>
    simp only [ho] at h ⊢
    split
    · rename_i hw
      simp only [hw, if_true] at h
      rcases h with h | ⟨_, hl⟩
      · refine ⟨fun _ _ => trivial, ?_⟩
        show o.uponIn (Fence.wide.inRound l) n P a K Q ((o.semAt (some l) a.eval).run P w)
        rw [Oper.semAt_eq _ _ _ (fun c => noDefer_spec hd i o c ho)]
        unfold Oper.wp at h
        generalize (execOp a.eval o).run P w = r at *
        cases r with
        | ok x w' =>
          cases x <;> simp only [Oper.upon] at h <;> simp only [Oper.uponIn]
          case value u => exact h
          case skip => exact h
          case defer d => exact h
          case enter f args => exact ⟨by simp [Fence.inRound, Fence.wide], CallsIn.inRound l (callsIn_wide.2 h)⟩
          case row row args => exact ⟨by simp [Fence.inRound, Fence.wide], fun c cs _ => by
              obtain ⟨v, w'', r, s⟩ := h c cs
              exact ⟨v, w'', r, stepsIn_wide.2 s⟩⟩
        | halt x w' => cases x <;> simp only [Oper.upon] at h <;> simp only [Oper.uponIn] <;> exact h
      · exact absurd hl hQ
    · rename_i hw
      simp only [hw] at h
      exact ⟨fun _ _ => trivial, h⟩

theorem wpAny_inRound {l n : Nat} (hQ : ¬ LetsOut Q) (hd : noDefer ops = true) : ∀ (fuel : Nat) (listed : Array Bool) (a : Act) (w : World),
    wpAny P md ops Q fuel listed a w → wpAnyIn (Fence.wide.inRound l) n P md ops Q fuel listed a w
  | 0, _, _, _, h => h
  | fuel + 1, _, _, _, h => ⟨h.1, fun i hi => wpOp_inRound hQ hd (wpOp_mono (fun a' w' h' => wpAny_inRound hQ hd fuel _ a' w' h') (h.2 i hi))⟩

/-- Whatever order is picked from here on; S holds behind every operation but number f. -/
def wpAnyE (P : Program) (md : Region.Mode) (ops : Array Oper) (Q : Exit → Act → World → Prop) (S : World → Prop) (f : Nat) : Nat → Array Bool → Act → World → Prop
  | 0, listed, a, w => Region.ready md ops listed = [] ∧ Q .normal a w
  | fuel + 1, listed, a, w =>
    (Region.ready md ops listed = [] → Q .normal a w) ∧
    ∀ i ∈ Region.ready md ops listed, wpOp P ops Q i (fun a' w' => (i = f ∨ S w') ∧ wpAnyE P md ops Q S f fuel (listed.setIfInBounds i true) a' w') a w

theorem wpAny_of_E {f : Nat} : ∀ (fuel : Nat) (listed : Array Bool) (a : Act) (w : World), wpAnyE P md ops Q S f fuel listed a w → wpAny P md ops Q fuel listed a w
  | 0, _, _, _, h => h
  | fuel + 1, _, _, _, h => ⟨h.1, fun i hi => wpOp_mono (fun a' w' h' => wpAny_of_E fuel _ a' w' h'.2) (h.2 i hi)⟩

theorem wpAnyE_first {f i : Nat} {oi : Oper} {v : Value} (hi : ops[i]? = some oi) (hsel : ∀ (j : Nat) (o : Oper) cs b, ops[j]? = some o → o.op ≠ .select cs b)
    (hQ : ∀ c a a' w, Q (.panic c) a w → Q (.panic c) a' w) : ∀ (fuel : Nat) (listed : Array Bool) (a : Act) (w : World),
      (∀ j oj, ops[j]? = some oj → j ≠ i → listed.getD j true = false → (∀ e ∈ oj.after, Region.binds md e = true → e.on ≠ i) → oi.apart ops oj = true) →
      (∀ of, ops[f]? = some of → f ≠ i → ∃ e ∈ of.after, Region.binds md e = true ∧ e.on = i) →
      i ∈ Region.ready md ops listed → YieldsIf P ops S oi v a → S w →
      wpAnyE P md ops Q S f fuel (listed.setIfInBounds i true) (a.put oi.dst v) w → wpAnyE P md ops Q S f (fuel + 1) listed a w := by
  intro fuel
  induction fuel with
  | zero =>
    intro listed a w _ _ hr hy hS H
    refine ⟨fun h => (by rw [h] at hr; cases hr), fun j hj => ?_⟩
    by_cases hji : j = i
    · rw [hji]; exact hy.wpOp hi hS ⟨.inr hS, H⟩
    · have h1 := ready_mono hj hji
      rw [H.1] at h1
      cases h1
  | succ fuel ih =>
    intro listed a w hfree hwait hr hy hS H
    refine ⟨fun h => (by rw [h] at hr; cases hr), fun j hj => ?_⟩
    by_cases hji : j = i
    · rw [hji]; exact hy.wpOp hi hS ⟨.inr hS, H⟩
    · obtain ⟨hjun, oj, hoj, hall⟩ := mem_ready.1 hj
      have hnot : ∀ e ∈ oj.after, Region.binds md e = true → e.on ≠ i := fun e he hb heq => by
        have h1 := hall e he hb
        have h0 := (mem_ready.1 hr).1
        rw [heq] at h1
        rcases Nat.lt_or_ge i listed.size with h' | h'
        · simp [h'] at h0 h1; rw [h0] at h1; cases h1
        · simp [Array.getElem?_eq_none h'] at h1
      have hfree' : ∀ k ok, ops[k]? = some ok → k ≠ i → (listed.setIfInBounds j true).getD k true = false →
          (∀ e ∈ ok.after, Region.binds md e = true → e.on ≠ i) → oi.apart ops ok = true := fun k ok hk hki hun hno => by
        refine hfree k ok hk hki ?_ hno
        by_cases hjk : j = k
        · rw [← hjk]; exact hjun
        · rw [getD_set_ne true hjk] at hun; exact hun
      have hri : i ∈ Region.ready md ops (listed.setIfInBounds j true) := ready_mono hr (Ne.symm hji)
      refine wpOp_mono (fun a' w' h3 => ?_) (wpOp_putIf hoj (hfree j oj hoj hji hjun hnot) (fun cs b => hsel i oi cs b hi) (fun cs b => hsel j oj cs b hoj) (fun c a w => hQ c _ _ w) hy (H.2 j (ready_mono hj hji)))
      obtain ⟨hy', hS', h4⟩ := h3
      have hSw : S w' := by
        rcases hS' with h5 | h5
        · subst h5
          obtain ⟨e, he, hb, heq⟩ := hwait oj hoj hji
          exact absurd heq (hnot e he hb)
        · exact h5
      refine ⟨.inr hSw, ih (listed.setIfInBounds j true) a' w' hfree' hwait hri hy' hSw ?_⟩
      rw [Array.setIfInBounds_comm _ _ hji]
      exact h4

/-- A schedule: (i, true): number i yields its value in every world that meets S, and f waits for it; (i, false): number i alone may come up. -/
def schedOk (md : Region.Mode) (ops : Array Oper) (f : Nat) : List (Nat × Bool) → Array Bool → Bool
  | [], listed => Region.ready md ops listed == []
  | (i, true) :: rest, listed => Region.free md ops listed i && (Region.ready md ops listed).contains i && (match ops[f]? with | none => true | some o => f == i || o.after.any fun e => Region.binds md e && e.on == i) && schedOk md ops f rest (listed.setIfInBounds i true)
  | (i, false) :: rest, listed => Region.ready md ops listed == [i] && schedOk md ops f rest (listed.setIfInBounds i true)

/-- What is owed along a schedule. -/
def wpSched (P : Program) (ops : Array Oper) (Q : Exit → Act → World → Prop) (S : World → Prop) (f : Nat) : List (Nat × Bool) → Act → World → Prop
  | [], a, w => Q .normal a w
  | (i, true) :: rest, a, w => ∃ o v, ops[i]? = some o ∧ YieldsIf P ops S o v a ∧ wpSched P ops Q S f rest (a.put o.dst v) w
  | (i, false) :: rest, a, w => wpOp P ops Q i (fun a' w' => (i = f ∧ rest = [] ∧ wpSched P ops Q S f rest a' w') ∨ (S w' ∧ (S w' → wpSched P ops Q S f rest a' w'))) a w

theorem wpSched_sound {f : Nat} (hs : Region.noSelect ops = true) (hQ : ∀ c a a' w, Q (.panic c) a w → Q (.panic c) a' w) :
    ∀ (l : List (Nat × Bool)) (listed : Array Bool) (a : Act) (w : World), schedOk md ops f l listed = true → (l = [] ∨ S w) → wpSched P ops Q S f l a w → wpAnyE P md ops Q S f l.length listed a w
  | [], listed, a, w, hk, _, h => ⟨by simpa [schedOk] using hk, h⟩
  | (i, true) :: rest, listed, a, w, hk, hS, ⟨o, v, ho, hy, h⟩ => by
    have hS : S w := hS.resolve_left (by simp)
    simp only [schedOk, Bool.and_eq_true] at hk
    refine wpAnyE_first ho (Region.noSelect_spec hs) hQ rest.length listed a w (Region.free_spec ho hk.1.1.1) ?_ (by simpa using hk.1.1.2) hy hS (wpSched_sound hs hQ rest _ _ _ hk.2 (.inr hS) h)
    intro of hof hne
    have := hk.1.2
    rw [hof] at this
    simp only [Bool.or_eq_true, beq_iff_eq, hne, false_or, Array.any_eq_true'] at this
    obtain ⟨e, he, h2⟩ := this
    simp only [Bool.and_eq_true, beq_iff_eq] at h2
    exact ⟨e, he, h2.1, h2.2⟩
  | (i, false) :: rest, listed, a, w, hk, hS, h => by
    simp only [schedOk, Bool.and_eq_true, beq_iff_eq] at hk
    refine ⟨fun h0 => (by rw [h0] at hk; simp at hk), fun j hj => ?_⟩
    obtain rfl : j = i := by rw [hk.1] at hj; simpa using hj
    refine wpOp_mono (fun a' w' h' => ?_) h
    rcases h' with ⟨h1, h2, h3⟩ | h'
    · exact ⟨.inl h1, wpSched_sound hs hQ rest _ _ _ hk.2 (.inl h2) h3⟩
    · exact ⟨.inr h'.1, wpSched_sound hs hQ rest _ _ _ hk.2 (.inr h'.1) (h'.2 h'.1)⟩

/-- A region that draws, by a schedule. -/
theorem region_sched {id : Nat} {a : Act} {w : World} (S : World → Prop) (f : Nat) (l : List (Nat × Bool)) (hm : P.follows .mixedOrders = true) (hs : Region.noSelect ops = true)
    (hk : schedOk .any ops f l (Array.replicate ops.size false) = true) (hl : l.length = ops.size) (hQ : ∀ c a a' w, Q (.panic c) a w → Q (.panic c) a' w)
    (hS : S w.drew) (h : wpSched P ops Q S f l a w.drew) : (Code.region id ops true).wp P Q a w :=
  wp_region_any hm (wpAny_of_E _ _ _ _ (by have := wpSched_sound hs hQ l _ a _ hk (.inr hS) h; rw [hl] at this; exact this))

/-- The same in a round. -/
theorem region_sched_round {r n : Nat} {id : Nat} {a : Act} {w : World} (S : World → Prop) (f : Nat) (l : List (Nat × Bool)) (hm : P.follows .mixedOrders = true) (hs : Region.noSelect ops = true) (hd : noDefer ops = true)
    (hk : schedOk .any ops f l (Array.replicate ops.size false) = true) (hl : l.length = ops.size) (hQ : ∀ c a a' w, Q (.panic c) a w → Q (.panic c) a' w) (hQ' : ¬ LetsOut Q)
    (hS : S w.drew) (h : wpSched P ops Q S f l a w.drew) : (Code.region id ops true).wpIn (Fence.wide.inRound r) n P Q a w :=
  wpIn_region_any hm (wpAny_inRound hQ' hd _ _ _ _ (wpAny_of_E _ _ _ _ (by have := wpSched_sound hs hQ l _ a _ hk (.inr hS) h; rw [hl] at this; exact this)))

theorem sched_take {f i : Nat} {o : Oper} {v : Value} {rest : List (Nat × Bool)} {a : Act} {w : World} (ho : ops[i]? = some o) (hw : Region.wanted o (yielded ops a.tmps) = true)
    (hv : ∀ w, S w → (execOp a.eval o).run P w = .ok (.value v) w) (h : wpSched P ops Q S f rest (a.put o.dst v) w) : wpSched P ops Q S f ((i, true) :: rest) a w :=
  ⟨o, v, ho, .inl ⟨hw, hv⟩, h⟩

theorem sched_skip {f i : Nat} {o : Oper} {rest : List (Nat × Bool)} {a : Act} {w : World} (ho : ops[i]? = some o) (hw : Region.wanted o (yielded ops a.tmps) = false)
    (h : wpSched P ops Q S f rest (a.put o.dst undef) w) : wpSched P ops Q S f ((i, true) :: rest) a w :=
  ⟨o, undef, ho, .inr ⟨hw, rfl⟩, h⟩

theorem sched_do {f i : Nat} {o : Oper} {rest : List (Nat × Bool)} {a : Act} {w : World} (ho : ops[i]? = some o)
    (h : ∀ K' : Act → World → Prop, Shut (∀ a w, S w → (S w → wpSched P ops Q S f rest a w) → K' a w) → if Region.wanted o (yielded ops a.tmps) = true then Oper.wp P o a w K' Q else K' (a.put o.dst undef) w) :
    wpSched P ops Q S f ((i, false) :: rest) a w :=
  wpOp_step ho fun K' hK => h K' (fun a w hS hW => hK a w (.inr ⟨hS, fun _ => hW hS⟩))

/-- The last operation: S is not asked behind it. -/
theorem sched_end {f : Nat} {o : Oper} {a : Act} {w : World} (ho : ops[f]? = some o)
    (h : ∀ K' : Act → World → Prop, Shut (∀ a w, Q .normal a w → K' a w) → if Region.wanted o (yielded ops a.tmps) = true then Oper.wp P o a w K' Q else K' (a.put o.dst undef) w) :
    wpSched P ops Q S f [(f, false)] a w :=
  wpOp_step ho fun K' hK => h K' (fun a w hW => hK a w (.inl ⟨rfl, rfl, hW⟩))
end
end Go.Proofs.Ytcflnjmglanneaa
