/- bytes.Clone. -/
import Derived.Test.YtklaancgnfkjlaaDoorCe
import Derived.Maps.AppendAt
import Derived.Lib.SliceRun
namespace Go.Proofs.YtklaancgnfkjlaaDoor
open Go.RowKit
set_option maxRecDepth 100000
set_option maxHeartbeats 4000000
set_option linter.unusedVariables false
set_option linter.unusedSimpArgs false

/-- A slice of bytes as it lies: nil and empty slices too. -/
def BytesAt (w : World) (v : Value) (l : List (BitVec 8)) : Prop :=
  ∃ (p : Option Addr) (c : Nat), v = .slice p l.length c ∧ l.length ≤ c ∧ (p = none → c = 0) ∧
    (0 < l.length → ∃ g o, p = some ⟨g, o, none⟩ ∧ ∀ j, j < l.length → w.cell? ⟨g, o + j, none⟩ = some (.int .u8 (l.getD j 0).toNat))

theorem clone_nil (w : World) :
    Calls Tryd.prog 23 #[.slice none 0 0] w fun e w' => e = .returned (.slice none 0 0) ∧ w = w' := by
  have q22 : ∀ (w : World) (a : Option Addr) (n c n' c' : Nat), (binOp .eql 28 (.slice a n c) (.slice none n' c')).run Tryd.prog w = .ok (.bool a.isNone) w := fun w a n c n' c' => Lib.run_eql_slice_nil w _ _ a n c n' c' Tryd.underlying28
  go_enter Tryd.func23, Tryd.ntmps23
  go_wp2
  go_ret
  exact ⟨rfl, rfl⟩

theorem clone_ok (g o c : Nat) (l : List (BitVec 8)) (hl : l.length ≤ 1000000) (w : World) (h : ∀ j, j < l.length → w.cell? ⟨g, o + j, none⟩ = some (.int .u8 (l.getD j 0).toNat)) :
    Calls Tryd.prog 23 #[.slice (some ⟨g, o, none⟩) l.length c] w fun e w' => ∃ v, e = .returned v ∧ w'.ownsRow w.heap.size 5 1 v l.length (l.map v8) ∧ Below w.heap.size w w' := by
  have q22 : ∀ (w : World) (a : Option Addr) (n c n' c' : Nat), (binOp .eql 28 (.slice a n c) (.slice none n' c')).run Tryd.prog w = .ok (.bool a.isNone) w := fun w a n c n' c' => Lib.run_eql_slice_nil w _ _ a n c n' c' Tryd.underlying28
  obtain ⟨i0, hi0, hz0, hz1, hz2⟩ := info_parts info_u8
  have hnews : ∀ j u, (l.map v8)[j]? = some u → (w.alloc (.cells #[] 5)).cell? ((⟨g, o, none⟩ : Addr).add j) = some u := by
    intro j u hj
    have hjl : j < l.length := by
      have := (List.getElem?_eq_some_iff.1 hj).1
      simpa using this
    have hadd : (⟨g, o, none⟩ : Addr).add j = ⟨g, o + j, none⟩ := by unfold Addr.add; split <;> simp_all
    rw [hadd]
    have hu : u = .int .u8 (l.getD j 0).toNat := by
      simp [hjl] at hj
      simp [← hj, v8, hjl, List.getD]
    rw [hu]
    exact cell_old (h j hjl) (Below.heap_alloc _ _ _ (cell_lt (h j hjl)))
  have hown0 : (w.alloc (.cells #[] 5)).ownsRow w.heap.size 5 1 (.slice (some ⟨w.heap.size, 0, none⟩) 0 0) 0 [] :=
    ⟨rfl, .inr ⟨w.heap.size, 0, #[], rfl, Nat.le_refl _, World.alloc_heap_new w _, Nat.le_refl _, by unfold maxLen; omega, rfl, rfl⟩⟩
  have ho1 : ∀ u ∈ l.map v8, u.oneCell' = true := by
    intro u hu
    obtain ⟨x, _, rfl⟩ := List.mem_map.1 hu
    rfl
  have HNW := Lib.hid hnews
  have HOW := Lib.hid hown0
  have HO1 := Lib.hid ho1
  have hlm : (l.map v8).length = l.length * 1 := by simp
  have HLM := Lib.hid hlm
  clear hnews hown0 ho1 hlm h
  obtain ⟨L, hL⟩ : ∃ L, L = l.map v8 := ⟨_, rfl⟩
  rw [← hL] at HNW HO1 HLM ⊢
  clear hL
  generalize l.length = n at hl HLM ⊢
  go_enter Tryd.func23, Tryd.ntmps23
  go_wp2_with (at_builtin; refine wpList_append_own _ rfl _ _ 28 rfl w.heap.size 5 i0 (.int .u8 0) 1 1 Tryd.underlying28 hi0 hz0 hz1 hz2 rfl (by decide) _ _ _ rfl HOW.out ⟨g, o, none⟩ n c L rfl HLM.out HNW.out HO1.out (by unfold maxLen; omega) (by omega) (by simp) ?_; intro v' w1 hown' hgrow _)
  go_ret
  refine ⟨v', rfl, by simpa using hown', ?_⟩
  exact Below.grown (w := w.alloc (.cells #[] 5)) ⟨rfl, rfl, rfl, by simp, fun k hk => Below.heap_alloc _ _ _ hk⟩ hgrow (by simp) (fun k e => (HOW.out.lt k e).1)
end Go.Proofs.YtklaancgnfkjlaaDoor
