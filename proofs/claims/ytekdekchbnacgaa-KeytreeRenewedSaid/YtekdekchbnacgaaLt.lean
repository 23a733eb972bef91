/- Keytree, plain: what is valid stays valid; members. -/
import Derived.Test.YtekdekchbnacgaaLn
namespace Go.Proofs.Ytekdekchbnacgaa
open Go.RowKit
set_option maxRecDepth 100000
set_option linter.unusedVariables false
set_option linter.unusedSimpArgs false

theorem chkE_grp {n : Int} (h : chkE n = 0) : GrpOk n := by
  rcases Classical.em (GrpOk n) with h1 | h1
  · exact h1
  · rw [chkE_no h1] at h; exact absurd h (by decide)
theorem withL_self (z : Int × Int) : ∀ l, z ∈ withL z l
  | [] => by simp [withL]
  | x :: r => by
    unfold withL
    split
    · exact List.mem_cons_self ..
    · exact List.mem_cons_of_mem _ (withL_self z r)
theorem withL_old {z e : Int × Int} : ∀ {l}, e ∈ l → e ∈ withL z l
  | [], h => by cases h
  | x :: r, h => by
    unfold withL
    split
    · exact List.mem_cons_of_mem _ h
    · rcases List.mem_cons.1 h with rfl | h
      · exact List.mem_cons_self ..
      · exact List.mem_cons_of_mem _ (withL_old h)
theorem und_leaf {d x : Int} (h0 : 0 ≤ d) (h1 : d < 512) (hx : 512 ≤ x) (h : Und (512 + d) x) : x = 512 + d := by
  obtain ⟨k, hk, rfl⟩ := und_half h0 h1 h
  cases k with
  | zero => simp
  | succ k =>
    have h2 := (half_lt h0 h1 hk).2 0 (Nat.succ_pos k)
    have h3 : (512 + d) / 2 ^ (k + 1) ≤ (512 + d) / 2 := by
      rw [Int.pow_succ, Int.mul_comm, ← Int.ediv_ediv_of_nonneg (by decide)]
      exact Int.ediv_le_self _ (by omega)
    omega
theorem without_mem {t : List (Int × Int)} {d : Int} {e : Int × Int} (he : e ∈ t) (hu : ¬ Und (512 + d) e.1) : e ∈ withoutL t d := by
  unfold withoutL
  exact List.mem_filter.2 ⟨he, by rw [undB_no hu]; rfl⟩
theorem und_trans {a b c : Int} (h1 : Und a b) (h2 : Und b c) : Und a c := by
  obtain ⟨-, j, rfl⟩ := h1
  obtain ⟨hc, k, rfl⟩ := h2
  exact ⟨hc, j + k, by rw [Int.pow_add, Int.ediv_ediv_of_nonneg (by exact_mod_cast Nat.zero_le (2 ^ j))]⟩
theorem met_without {t : List (Int × Int)} {d : Int} (h0 : 0 ≤ d) (h1 : d < 512) {e : Int × Int} (hm : MetR t e.1) (hu : ¬ Und (512 + d) e.1) : MetR (withoutL t d) e.1 := by
  obtain ⟨f, hf, h5, hfe⟩ := hm
  refine ⟨f, without_mem hf (fun h => hu ?_), h5, hfe⟩
  rw [← und_leaf h0 h1 h5 h]; exact hfe
theorem good_without {t : List (Int × Int)} {d : Int} (h : Good t) (h0 : 0 ≤ d) (h1 : d < 512) : Good (withoutL t d) := by
  refine ⟨str_without h.1 d, fun e he => ?_⟩
  obtain ⟨he1, he2⟩ := without_key he
  obtain ⟨g1, g2, g3, g4⟩ := h.2 e he1
  exact ⟨g1, g2, g3, met_without h0 h1 g4 he2⟩
theorem met_mono {s t : List (Int × Int)} {a : Int} (h : MetR s a) (hst : ∀ e ∈ s, e ∈ t) : MetR t a := by
  obtain ⟨f, hf, h⟩ := h
  exact ⟨f, hst f hf, h⟩
theorem good_set {t : List (Int × Int)} {d x : Int} (h : Good t) (h0 : 0 ≤ d) (h1 : d < 512) (hx : GrpOk x) : Good (withL (512 + d, x) (withoutL t d)) := by
  refine ⟨str_with (str_without h.1 d) (without_ne (und_self (by omega))), fun e he => ?_⟩
  rcases withL_mem he with rfl | he
  · refine ⟨?_, ?_, hx, (512 + d, x), withL_self _ _, ?_, und_self ?_⟩ <;> show _ ≤ _ <;> omega
  · obtain ⟨g1, g2, g3, g4⟩ := (good_without h h0 h1).2 e he
    exact ⟨g1, g2, g3, met_mono g4 (fun f hf => withL_old hf)⟩
theorem renL_old {t : List (Int × Int)} {d : Int} {l : List Int} {e : Int × Int} (he : e ∈ withoutL t d) : ∀ k, e ∈ renL t d l k
  | 0 => he
  | k + 1 => withL_old (renL_old he k)
theorem renL_new {t : List (Int × Int)} {d : Int} {l : List Int} {j : Nat} : ∀ {k}, j < k → ((512 + d) / 2 ^ j, l.getD j 0) ∈ renL t d l k
  | 0, h => absurd h (Nat.not_lt_zero _)
  | k + 1, h => by
    unfold renL
    rcases Nat.lt_or_eq_of_le (Nat.le_of_lt_succ h) with h2 | rfl
    · exact withL_old (renL_new h2)
    · exact withL_self _ _
theorem good_ren {t : List (Int × Int)} {d : Int} {l : List Int} (h : Good t) (h0 : 0 ≤ d) (h1 : d < 512) (hl : l.length = 10) (ha : AllOk l) : Good (renL t d l 10) := by
  refine ⟨str_renL h.1 h0 h1 (Nat.le_refl 10), fun e he => ?_⟩
  have hleaf : (512 + d, l.getD 0 0) ∈ renL t d l 10 := by
    have := renL_new (t := t) (d := d) (l := l) (j := 0) (k := 10) (by decide)
    simpa using this
  rcases renL_key he with he | ⟨j, hj, rfl⟩
  · obtain ⟨g1, g2, g3, g4⟩ := (good_without h h0 h1).2 e he
    exact ⟨g1, g2, g3, met_mono g4 (fun f hf => renL_old hf 10)⟩
  · have hr := und_range (k := j) h0 h1
    exact ⟨(half_lt h0 h1 (by omega)).1, hr.2, chkE_grp (ha j (by omega)), _, hleaf, by show 512 ≤ 512 + d; omega, half_und h0 h1 (by omega)⟩

theorem mem_iff (t : List (Int × Int)) (d : Int) : d ∈ memZ t ↔ 0 ≤ d ∧ d < 512 ∧ (ofF t (512 + d)).isSome = true := by
  rw [memZ_mem, ofF_isSome]
theorem mem_none {t : List (Int × Int)} (h : Good t) (hm : memZ t = []) : t = [] := by
  cases t with
  | nil => rfl
  | cons e r =>
    obtain ⟨-, -, -, f, hf, h5, -⟩ := h.2 e (List.mem_cons_self ..)
    have hr := h.2 f hf
    have : f.1 - 512 ∈ memZ (e :: r) := (memZ_mem _ _).2 ⟨by omega, by omega, f, hf, by omega⟩
    rw [hm] at this
    cases this
theorem resL_isSome {f : Int → Option Int} {m : Int} : ∀ {h n : Nat}, m ∈ resL f h n → (f m).isSome = true
  | 0, n, hm => by
    unfold resL at hm
    split at hm
    · rw [List.mem_singleton.1 hm]; assumption
    · cases hm
  | h + 1, n, hm => by
    unfold resL at hm
    split at hm
    · rw [List.mem_singleton.1 hm]; assumption
    · rcases List.mem_append.1 hm with hm | hm
      · exact resL_isSome hm
      · exact resL_isSome hm
theorem resV_isSome {t : List (Int × Int)} {x m : Int} (h : m ∈ resV t x) : (ofF t m).isSome = true := by
  unfold resV at h
  split at h
  · exact resL_isSome h
  · cases h
theorem chg_mem {t : List (Int × Int)} {d : Int} (hg : chkT t = 0) (h : d ∈ memZ t) (b : Bool) : chgE t d b = 0 := by
  obtain ⟨h0, h1, h2⟩ := (mem_iff _ _).1 h
  unfold chgE
  rw [if_pos hg, if_neg]
  rintro (h | h | ⟨-, h⟩)
  · omega
  · omega
  · rw [h] at h2; cases h2
theorem mem_without {t : List (Int × Int)} {d : Int} (h0 : 0 ≤ d) (h1 : d < 512) (x : Int) : x ∈ memZ (withoutL t d) ↔ x ≠ d ∧ x ∈ memZ t := by
  rw [mem_iff, mem_iff, ofF_without]
  constructor
  · rintro ⟨a, b, c⟩
    split at c
    · cases c
    · rename_i hu
      refine ⟨fun e => hu ?_, a, b, c⟩
      rw [e]; exact undB_yes (und_self (by omega))
  · rintro ⟨hne, a, b, c⟩
    refine ⟨a, b, ?_⟩
    rw [if_neg]
    · exact c
    · intro hu
      have := und_leaf h0 h1 (by omega) ((undB_iff _ _).1 hu)
      omega
theorem strict_nodup {l : List Int} (h : l.Pairwise (· < ·)) : l.Nodup := h.imp (fun h => by omega)
theorem mem_len {t : List (Int × Int)} {d : Int} (h : d ∈ memZ t) : (memZ (withoutL t d)).length + 1 = (memZ t).length := by
  obtain ⟨h0, h1, -⟩ := (mem_iff _ _).1 h
  have hs := memZ_strict t
  have hn := strict_nodup hs
  have e : memZ (withoutL t d) = (memZ t).erase d := strict_ext (memZ_strict _) (hs.sublist List.erase_sublist) (fun x => by
    rw [mem_without h0 h1, hn.mem_erase_iff])
  rw [e, List.length_erase_of_mem h]
  have : 0 < (memZ t).length := List.length_pos_of_mem h
  omega
end Go.Proofs.Ytekdekchbnacgaa
