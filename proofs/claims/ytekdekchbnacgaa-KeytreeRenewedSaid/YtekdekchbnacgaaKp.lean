/- Plain laws: a sorted list without repetitions; the members of a tree; lists of nodes in order. -/
import Derived.Lib.SlKeysI
import Derived.Lib.SlicesCompact
namespace Go.Proofs.Ytekdekchbnacgaa
open Go
set_option linter.unusedVariables false
set_option linter.unusedSimpArgs false

theorem compact_step (d : Array Int) (hs : ∀ i j, i ≤ j → j < d.size → d[i]! ≤ d[j]!) : ∀ m, m ≤ d.size →
    (Lib.compactUpTo d m).Pairwise (· < ·) ∧ (∀ x ∈ Lib.compactUpTo d m, ∃ j, j < m ∧ x = d[j]!) ∧ ∀ j, j < m → d[j]! ∈ Lib.compactUpTo d m
  | 0, _ => by simp [Lib.compactUpTo]
  | m + 1, hm => by
    obtain ⟨h1, h2, h3⟩ := compact_step d hs m (by omega)
    rw [Lib.compactUpTo_succ]
    by_cases hk : m = 0 ∨ d[m]! ≠ d[m - 1]!
    · have hk' : Lib.keeps d m = true := by simp only [Lib.keeps, decide_eq_true_eq]; exact hk
      rw [hk', if_pos rfl]
      refine ⟨List.pairwise_append.2 ⟨h1, by simp, fun a ha b hb => ?_⟩, fun x hx => ?_, fun j hj => ?_⟩
      · simp only [List.mem_singleton] at hb
        subst hb
        obtain ⟨j, hj, rfl⟩ := h2 a ha
        rcases hk with h0 | h0
        · omega
        · have e1 := hs j (m - 1) (by omega) (by omega)
          have e2 := hs (m - 1) m (by omega) (by omega)
          omega
      · rcases List.mem_append.1 hx with h | h
        · obtain ⟨j, hj, e⟩ := h2 x h
          exact ⟨j, by omega, e⟩
        · simp only [List.mem_singleton] at h
          exact ⟨m, by omega, h⟩
      · rcases Nat.lt_or_eq_of_le (Nat.le_of_lt_succ hj) with h | rfl
        · exact List.mem_append.2 (.inl (h3 j h))
        · exact List.mem_append.2 (.inr (by simp))
    · have hk' : Lib.keeps d m = false := by simp only [Lib.keeps, decide_eq_false_iff_not]; exact hk
      rw [hk', if_neg (by decide), List.append_nil]
      refine ⟨h1, fun x hx => ?_, fun j hj => ?_⟩
      · obtain ⟨j, hj, e⟩ := h2 x hx
        exact ⟨j, by omega, e⟩
      · rcases Nat.lt_or_eq_of_le (Nat.le_of_lt_succ hj) with h | rfl
        · exact h3 j h
        · have : j ≠ 0 := fun h => hk (.inl h)
          have e : d[j]! = d[j - 1]! := by
            rcases Classical.em (d[j]! = d[j - 1]!) with h | h
            · exact h
            · exact absurd (.inr h) hk
          rw [e]
          exact h3 (j - 1) (by omega)
theorem compact_sorted (xs : List Int) (h : xs.Pairwise (· ≤ ·)) : (Lib.compact xs).Pairwise (· < ·) ∧ ∀ x, x ∈ Lib.compact xs ↔ x ∈ xs := by
  have hs : ∀ i j, i ≤ j → j < xs.toArray.size → xs.toArray[i]! ≤ xs.toArray[j]! := fun i j hij hj => by
    have hj' : j < xs.length := by simpa using hj
    rcases Nat.lt_or_eq_of_le hij with g | rfl
    · have := List.pairwise_iff_getElem.1 h i j (by omega) hj' g
      simpa [getElem!_pos, show i < xs.length by omega, hj'] using this
    · exact Int.le_refl _
  obtain ⟨h1, h2, h3⟩ := compact_step xs.toArray hs xs.length (by simp)
  refine ⟨h1, fun x => ⟨fun hx => ?_, fun hx => ?_⟩⟩
  · obtain ⟨j, hj, rfl⟩ := h2 x hx
    simp [getElem!_pos, hj]
  · obtain ⟨j, hj, rfl⟩ := List.getElem_of_mem hx
    have := h3 j hj
    have e : xs.toArray[j]! = xs[j] := by simp [getElem!_pos, hj]
    rw [e] at this
    exact this
/-- Two lists in strict order with the same members are one. -/
theorem strict_ext {l m : List Int} (hl : l.Pairwise (· < ·)) (hm : m.Pairwise (· < ·)) (h : ∀ x, x ∈ l ↔ x ∈ m) : l = m := by
  have nl : l.Nodup := hl.imp (fun h => by omega)
  have nm : m.Nodup := hm.imp (fun h => by omega)
  exact List.Perm.eq_of_pairwise (le := (· < ·)) (fun a b _ _ h1 h2 => by omega) hl hm ((List.perm_ext_iff_of_nodup nl nm).2 h)
theorem sort_pairwise (l : List Int) : (l.mergeSort leI).Pairwise (· ≤ ·) := by
  have tr : ∀ a b c : Int, leI a b = true → leI b c = true → leI a c = true := fun a b c h1 h2 => by simp only [leI, decide_eq_true_eq] at *; omega
  have to : ∀ a b : Int, (leI a b || leI b a) = true := fun a b => by simp only [leI, Bool.or_eq_true, decide_eq_true_eq]; omega
  exact (List.pairwise_mergeSort tr to l).imp (fun h => by simpa [leI] using h)
theorem sort_mem (l : List Int) (x : Int) : x ∈ l.mergeSort leI ↔ x ∈ l := (List.mergeSort_perm l leI).mem_iff
/-- The members, from the nodes as they stand. -/
def devs (t : List (Int × Int)) : List Int := (t.filter fun x => decide (512 ≤ x.1) && decide (x.1 ≤ 1023)).map fun x => x.1 - 512
def memZ (t : List (Int × Int)) : List Int := Lib.compact ((devs t).mergeSort leI)
theorem memZ_strict (t : List (Int × Int)) : (memZ t).Pairwise (· < ·) := (compact_sorted _ (sort_pairwise _)).1
theorem memZ_mem (t : List (Int × Int)) (d : Int) : d ∈ memZ t ↔ 0 ≤ d ∧ d < 512 ∧ ∃ x ∈ t, x.1 = 512 + d := by
  unfold memZ
  rw [(compact_sorted _ (sort_pairwise _)).2, sort_mem]
  unfold devs
  simp only [List.mem_map, List.mem_filter, Bool.and_eq_true, decide_eq_true_eq]
  constructor
  · rintro ⟨x, ⟨hx, h1, h2⟩, rfl⟩
    exact ⟨by omega, by omega, x, hx, by omega⟩
  · rintro ⟨h1, h2, x, hx, e⟩
    exact ⟨x, ⟨hx, by omega, by omega⟩, by omega⟩
end Go.Proofs.Ytekdekchbnacgaa
