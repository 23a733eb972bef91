/- Package keytree: Renew. -/
import Derived.Test.YtekdekchbnacgaaKz
namespace Go.Proofs.Ytekdekchbnacgaa
open Go.RowKit
set_option maxRecDepth 100000
set_option linter.unusedVariables false
set_option linter.unusedSimpArgs false

/-- The map behind Renew, after k nodes above the leaf. -/
def renM (t : List (Int × Int)) (d : Int) (l : List Int) : Nat → Int → Option Int
  | 0, y => if y = 512 + d then some (l.getD 0 0) else delF (ofF t) ((512 + d) :: pathZ d) y
  | k + 1, y => if y = (pathZ d).getD k 0 then some (l.getD (k + 1) 0) else renM t d l k y
theorem renM_dom {t : List (Int × Int)} {d : Int} {l : List Int} : ∀ k y, (renM t d l k y).isSome = true → y ∈ (512 + d) :: ((List.range k).map fun j => (pathZ d).getD j 0) ++ t.map (·.1)
  | 0, y, h => by
    unfold renM at h
    split at h
    · rename_i e; rw [e]; simp
    · obtain ⟨v, hv⟩ := Option.isSome_iff_exists.1 h
      simp only [List.mem_append, List.mem_cons, List.mem_map]
      exact .inr ⟨_, ofF_mem (delF_some hv).1, rfl⟩
  | k + 1, y, h => by
    unfold renM at h
    split at h
    · rename_i e
      simp only [List.mem_append, List.mem_cons, List.mem_map, List.mem_range]
      exact .inl (.inr ⟨k, by omega, e.symm⟩)
    · have := renM_dom k y h
      simp only [List.mem_append, List.mem_cons, List.mem_map, List.mem_range] at this ⊢
      rcases this with (h1 | ⟨j, h1, h2⟩) | h1
      · exact .inl (.inl h1)
      · exact .inl (.inr ⟨j, by omega, h2⟩)
      · exact .inr h1
theorem renM_keys {t : List (Int × Int)} {d : Int} {l : List Int} {k : Nat} {xs : List Int} (h : KeysOf (renM t d l k) xs) : xs.length ≤ t.length + k + 1 := by
  have hs : xs ⊆ (512 + d) :: ((List.range k).map fun j => (pathZ d).getD j 0) ++ t.map (·.1) := fun y hy => renM_dom k y (h.2.1 y hy).2
  have := h.1.length_le_of_subset hs
  simp at this
  omega
theorem renM_val {t : List (Int × Int)} {d : Int} {l : List Int} (hwf : ∀ e ∈ t, I64 e.1 ∧ I64 e.2) (hl : ∀ j, I64 (l.getD j 0)) : ∀ k y v, I64 y → renM t d l k y = some v → I64 v
  | 0, y, v, _, h => by
    unfold renM at h
    split at h
    · cases h; exact hl 0
    · exact (hwf _ (ofF_mem (delF_some h).1)).2
  | k + 1, y, v, hy, h => by
    unfold renM at h
    split at h
    · cases h; exact hl (k + 1)
    · exact renM_val hwf hl k y v hy h

end Go.Proofs.Ytekdekchbnacgaa
