/- Folders: the plain facts of a place that is later than all of them. -/
import Derived.Test.YtcflnjmglanneaaUr
namespace Go.Proofs.Ytcflnjmglanneaa
open Go.RowKit Go.Maps Go.Sort
set_option maxRecDepth 100000
set_option linter.unusedVariables false
set_option linter.unusedSimpArgs false

theorem lt_last {e p : Pl} (h : e.t < p.t) : ltOf cmpP e p = true := by
  have h1 : cmpP e p = -1 := by
    show orL (Lib.compareInt e.t p.t :: _) = -1
    have h2 : Lib.compareInt e.t p.t = -1 := by unfold Lib.compareInt; rw [if_pos h]
    rw [h2]
    rfl
  unfold ltOf
  rw [h1]
  rfl
theorem last_step {l : List Pl} {p : Pl} (hk : okP p) (h : ∀ e ∈ l, e.t < p.t) : treeP (l ++ [p]) = stepT (treeP l) p :=
  treeL_last cmp_tot hk fun e he => lt_last (h e he)
theorem last_new {l : List Pl} {p : Pl} (h : ∀ e ∈ l, e.t < p.t) : p ∉ treeP l := fun hm => by
  have := h _ (mem_treeL cmp_tot hm).1
  omega
theorem eff_none {T : List Pl} {p : Pl} (h : (putT T p).isSome = false) : stepT T p = T := by
  unfold stepT
  cases hp : putT T p with
  | none => rfl
  | some o => rw [hp] at h; cases h
theorem eff_some {T : List Pl} {p : Pl} (h : (putT T p).isSome = true) : stepT T p = insT p T ∧ ¬ BadP T p := by
  unfold stepT
  unfold putT at *
  by_cases hb : BadP T p
  · rw [if_pos hb] at h; cases h
  · rw [if_neg hb] at h ⊢
    by_cases hd : DeepT (insT p T)
    · rw [if_pos hd] at h; cases h
    · rw [if_neg hd]; exact ⟨rfl, hb⟩
theorem eff_in {T : List Pl} {p : Pl} (hs : SortT T) (hn : p ∉ T) : decide (p ∈ stepT T p) = (putT T p).isSome := by
  cases h : (putT T p).isSome with
  | false => rw [eff_none h]; exact decide_eq_false hn
  | true => rw [(eff_some h).1]; exact decide_eq_true ((mem_insT hs p).2 (.inl rfl))
theorem eff_out {T : List Pl} {L : Int → Nat} {p : Pl} (hF : Frst T L) (hk : okP p) (hb : ¬ BadP T p) : p.p ∉ belowT T p.f ∧ p.p ≠ p.f := by
  have hkf := hk.2.2.1
  have hne : p.p ≠ p.f := fun e => hb ⟨by omega, .inr (.inl e)⟩
  refine ⟨fun hm => ?_, hne⟩
  obtain ⟨h1, h2, h3⟩ := (mem_belowT hF).1 hm
  obtain ⟨e, he⟩ := Option.isSome_iff_exists.1 h2
  obtain ⟨m1, m2⟩ := placeT_some he
  have hok := (hF.ok e m1).2.2.1
  refine hb ⟨by omega, .inr (.inr ?_)⟩
  rcases (hF.wi (n := 32) (by decide)).2 h3 with h4 | h4
  · exact absurd h4 hne
  · exact h4
theorem belowT_few2 (l : List Pl) (x : Int) : (belowT (treeP l) x).length ≤ 1000000 := by
  have h16 := treeP_few l
  unfold belowT
  split
  · rw [List.length_map]; have := List.length_filter_le (fun e : Pl => decide (e.f = x ∨ x ∈ upT (treeP l) 32 e.f)) (treeP l); omega
  · simp
theorem take_mem {α : Type} [DecidableEq α] {l : List α} {k : Nat} {x e : α} (ht : l.take (k + 1) = l.take k ++ [x]) : decide (e ∈ l.take (k + 1)) = (decide (e ∈ l.take k) || decide (x = e)) := by
  rw [ht, Bool.eq_iff_iff]
  simp only [decide_eq_true_eq, List.mem_append, List.mem_singleton, Bool.or_eq_true]
  constructor
  · rintro (h | h)
    · exact .inl h
    · exact .inr h.symm
  · rintro (h | h)
    · exact .inl h
    · exact .inr h.symm
end Go.Proofs.Ytcflnjmglanneaa
