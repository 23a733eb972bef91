/- What comes in: a tree, a slice of ints. -/
import Derived.Test.YtekdekchbnacgaaLp
import Derived.Deep.SlicePairs
import Derived.ChangeSlices
import Derived.WideShapes
import Derived.Below
namespace Go.Proofs.Ytekdekchbnacgaa
open Go.RowKit Go.ChangeShapes Go.WideShapes Go.Deep
set_option maxRecDepth 100000
set_option linter.unusedVariables false
set_option linter.unusedSimpArgs false

theorem array1 {α : Type} {cs : Array α} (h : cs.size = 1) : ∃ c0, cs = #[c0] := by
  obtain ⟨l⟩ := cs
  match l, h with
  | [c0], _ => exact ⟨c0, rfl⟩
theorem addr_add2 (g o j : Nat) : (⟨g, o, none⟩ : Addr).add j = ⟨g, o + j, none⟩ := by unfold Addr.add; split <;> simp_all
theorem treeIn {H : Type} {enc : TypeId × Value → H} {W : World} {base : Nat} {v : Value} {d : DataW H} {p : List MemPlace} (h : DataW.Trod enc Try.prog W 0 (fun _ => true) true 24 v d p) (hv : Value.okWide Try.prog W .any base 24 v) :
    ∃ u t, v = .agg #[u] ∧ NodesAt W u t ∧ t.length ≤ maxLen := by
  obtain ⟨cs, rfl, hsz⟩ := okWide_struct Try.underlying24 hv
  obtain ⟨u, rfl⟩ := array1 (hsz.trans (by kernel_rfl))
  obtain ⟨fuel, hf⟩ := h
  obtain ⟨y0, n, hx, -, h0⟩ := trod_struct1 Try.underlying24 hf
  have h1 : DataW.trod enc Try.prog W 0 (fun _ => true) true n 22 [u] = some y0 := by
    have e : Try.prog.cellsOf 22 = 1 := by kernel_rfl
    simpa [Value.cells, e] using h0
  rcases open_slice_pairs Try.underlying22 Try.underlying48 (by kernel_rfl) rfl rfl (by kernel_rfl) (by kernel_rfl) h1 with ⟨hcs, hx⟩ | ⟨a, len, cap, m, n', V0, V1, D0, D1, P0, P1, hcs, -, hl, hm, hmm, -, hcell⟩
  · obtain rfl : u = .slice none 0 0 := by simpa using hcs
    exact ⟨_, [], rfl, nodes_nil W, Nat.zero_le _⟩
  · obtain rfl : u = .slice (some a) len cap := by simpa using hcs
    have hm2 : m = cap := by simpa using hmm
    have each : ∀ i, i < len → V0 i = .int .i64 (intOf (V0 i)) ∧ V1 i = .int .i64 (intOf (V1 i)) ∧ I64 (intOf (V0 i)) ∧ I64 (intOf (V1 i)) := fun i hi => by
      obtain ⟨-, -, t0, t1⟩ := hcell i (by omega)
      obtain ⟨x, hx1, -, hx2⟩ := DataW.trod_int Try.underlying3 t0
      obtain ⟨y, hy1, -, hy2⟩ := DataW.trod_int Try.underlying3 t1
      have e1 : V0 i = .int .i64 x := by simpa using hx1
      have e2 : V1 i = .int .i64 y := by simpa using hy1
      rw [e1, e2]
      exact ⟨rfl, rfl, hx2, hy2⟩
    have hlen : ((List.range len).map fun i => (intOf (V0 i), intOf (V1 i))).length = len := by simp
    have hget : ∀ j, j < len → ((List.range len).map fun i => (intOf (V0 i), intOf (V1 i))).getD j (0, 0) = (intOf (V0 j), intOf (V1 j)) := fun j hj => by
      simp [List.getD, hj]
    refine ⟨_, (List.range len).map fun i => (intOf (V0 i), intOf (V1 i)), rfl, ⟨some a, cap, by rw [hlen], by rw [hlen]; exact hl, fun h => (by cases h), fun h0 => ?_, fun x hx => ?_⟩, by rw [hlen]; omega⟩
    · rw [hlen] at h0
      obtain ⟨g, o, spot⟩ := a
      have hspot : spot = none := by
        have h := (hcell 0 (by omega)).1
        simpa [Addr.add] using World.cell?_spot h
      subst hspot
      refine ⟨g, o, rfl, fun j hj => ?_⟩
      rw [hlen] at hj
      obtain ⟨k1, k2, -, -⟩ := hcell j (by omega)
      obtain ⟨e1, e2, -, -⟩ := each j hj
      rw [addr_add2] at k1 k2
      rw [hget j hj, k1, ← e1]
      rw [← Nat.add_assoc] at k2
      exact ⟨rfl, by rw [k2, ← e2]⟩
    · obtain ⟨i, hi, rfl⟩ := List.mem_map.1 hx
      obtain ⟨-, -, h1, h2⟩ := each i (List.mem_range.1 hi)
      exact ⟨h1, h2⟩
theorem intsIn {H : Type} {enc : TypeId × Value → H} {W : World} {base : Nat} {v : Value} {d : DataW H} {p : List MemPlace} (h : DataW.Trod enc Try.prog W 0 (fun _ => true) true 27 v d p) (hv : Value.okWide Try.prog W .any base 27 v) :
    ∃ l, IntsAt W v l ∧ l.length ≤ maxLen ∧ ∀ j, I64 (l.getD j 0) := by
  obtain ⟨a1, len, cap, rfl⟩ := okWide_slice Try.underlying27 hv
  obtain ⟨fuel, hf⟩ := h
  rcases open_ints Try.underlying27 Try.underlying3 (by kernel_rfl) hf with ⟨hcs, hx⟩ | ⟨a, len', cap', zs, hcs, _, hl, hm, hz, hx, hcell, hwz⟩
  · simp [Value.cells] at hcs
    obtain ⟨rfl, rfl, rfl⟩ := hcs
    exact ⟨[], ⟨none, 0, rfl, Nat.le_refl _, fun h => by simp at h⟩, Nat.zero_le _, fun j => by simp [List.getD]; exact I64.of (by decide)⟩
  · simp [Value.cells] at hcs
    obtain ⟨rfl, rfl, rfl⟩ := hcs
    have hz2 : zs.length = cap := by simpa using hz
    have hll : (zs.take len).length = len := by simp; omega
    refine ⟨zs.take len, ⟨some a, cap, by rw [hll], by rw [hll]; exact hl, fun h0 => ?_⟩, by rw [hll]; omega, fun j => ?_⟩
    · rw [hll] at h0
      obtain ⟨g, o, spot⟩ := a
      have hspot : spot = none := by
        have h := hcell 0 (by omega)
        simpa [Addr.add] using World.cell?_spot h
      subst hspot
      refine ⟨g, o, rfl, fun j hj => ?_⟩
      rw [hll] at hj
      have h := hcell j (by omega)
      rw [addr_add2] at h
      rw [h]
      simp [List.getD, hj]
    · by_cases hj : j < len
      · have : (zs.take len).getD j 0 = zs.getD j 0 := by simp [List.getD, hj]
        rw [this]
        exact hwz _ (by simp [List.getD, show j < zs.length by omega])
      · have : (zs.take len).getD j 0 = 0 := by simp only [List.getD]; rw [List.getElem?_eq_none (by omega)]; rfl
        rw [this]; exact I64.of (by decide)
end Go.Proofs.Ytekdekchbnacgaa
