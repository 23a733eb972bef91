/- slices.Sorted over an iterator; package keytree: Members. -/
import Derived.Test.YtekdekchbnacgaaKi
import Derived.Test.YtekdekchbnacgaaKs
import Derived.Test.YtekdekchbnacgaaKp
import Derived.Test.YtekdekchbnacgaaPc
namespace Go.Proofs.Ytekdekchbnacgaa
open Go.RowKit Go.Sort
set_option maxRecDepth 100000
set_option linter.unusedVariables false
set_option linter.unusedSimpArgs false

/-- slices.Sort at a slice that owns its row. -/
theorem sort_row (v : Value) (xs : List Int) (base nb : Nat) (w : World) (h : w.ownsRow base 3 1 v xs.length (xs.map (Value.int .i64))) (hb : nb ≤ base) (hl : xs.length ≤ 1000000) :
    Calls Try.prog 42 #[v] w fun e w' => e = .returned (.tuple #[]) ∧ w'.ownsRow base 3 1 v xs.length ((xs.mergeSort leI).map (Value.int .i64)) ∧ Below nb w w' := by
  rcases h.2 with ⟨rfl, hn⟩ | ⟨g, cap, cur, rfl, hbase, hg, h1, h2, h3, h4⟩
  · refine (Tryx.slices_Sort_int_none none 0 w).mono ?_
    rintro e w' ⟨rfl, rfl⟩
    have : xs = [] := List.eq_nil_of_length_eq_zero hn
    subst this
    exact ⟨rfl, by simpa using h, Below.refl _ _⟩
  · refine (Tryx.slices_Sort_int g 0 cap xs w (holds_of_block_i hg (by simpa using h4)) (Array.getElem?_eq_some_iff.1 hg).1 (by omega)).mono ?_
    rintro e w' ⟨rfl, n, os, rfl⟩
    exact ⟨rfl, ownsRow_sorted_i (by simp) hbase hg h1 h2 h3, (Below.refl nb w).grown (grownBy_sorted_i _) (by have := (Array.getElem?_eq_some_iff.1 hg).1; omega) (fun k e => by cases e; omega)⟩

set_option maxHeartbeats 1000000 in
theorem sorted_ok {gf : Nat} {lb : Array Value} (eg : ∀ args w, (callFunc gf args).run Try.prog w = .ok (.enter gf args) w) {Ψ0 : Nat → Prop} {n₀ : Nat} {S Sp V : List Int → Prop} {w : World}
    (hit : IterC Try.prog gf lb (fun x : Int => #[.int .i64 x]) Ψ0 n₀ S Sp V w) (hn₀ : n₀ ≤ w.heap.size) (hΨ0 : ∀ k, Ψ0 k → k < w.heap.size) (hV : ∀ ys, V ys → ys.length ≤ 1000000) (hS : ∀ xs, S xs → xs.length ≤ 1000000) (nb : Nat) (hnb : nb ≤ w.heap.size) (hΨn : ∀ k, Ψ0 k → nb ≤ k) :
    Calls Try.prog 65 #[.func (.func gf) #[] lb] w fun e w' => ∃ v xs, e = .returned v ∧ S xs ∧ w'.ownsRow w.heap.size 3 1 v xs.length ((xs.mergeSort leI).map (Value.int .i64)) ∧ Below nb w w' := by
  have HA := Lib.hid (collect_ok eg hit hn₀ hΨ0 hV nb hnb hΨn)
  have HS := Lib.hid hS
  clear eg hit hn₀ hΨ0 hV hΨn hS
  go_enter Try.func65, Try.ntmps65
  go_wp2_with fail
  refine HA.out.mono ?_
  rintro e w1 ⟨v, xs, rfl, hS, hrow, hB⟩
  have HSO := Lib.hid (sort_row v xs w.heap.size nb w1 hrow hnb (HS.out xs hS))
  have HB := Lib.hid hB
  clear hrow hB
  go_wp2_with fail
  refine HSO.out.mono ?_
  rintro e w2 ⟨rfl, hrow2, hB2⟩
  have HR2 := Lib.hid hrow2
  have HB2 := Lib.hid hB2
  clear hrow2 hB2
  go_wp2
  go_ret
  exact ⟨v, xs, rfl, hS, HR2.out, HB.out.trans HB2.out⟩

/-- Ints as they lie in a slice. -/
theorem compact_row (v : Value) (xs : List Int) (base nb : Nat) (w : World) (h : w.ownsRow base 3 1 v xs.length (xs.map (Value.int .i64))) (hb : nb ≤ base) (hl : xs.length ≤ 1000000) :
    Calls Try.prog 43 #[v] w fun e w' => ∃ u, e = .returned u ∧ w'.ownsRow base 3 1 u (Lib.compact xs).length ((Lib.compact xs).map (Value.int .i64)) ∧ Below nb w w' := by
  rcases h.2 with ⟨rfl, hn⟩ | ⟨g, cap, cur, rfl, hbase, hg, h1, h2, h3, h4⟩
  · refine (Tryx.slices_Compact_int_empty none 0 w).mono ?_
    rintro e w' ⟨rfl, rfl⟩
    have : xs = [] := List.eq_nil_of_length_eq_zero hn
    subst this
    exact ⟨_, rfl, by simpa [Lib.compact, Lib.compactUpTo] using h, Below.refl _ _⟩
  · have hlt := (Array.getElem?_eq_some_iff.1 hg).1
    refine (Tryx.slices_Compact_int g 0 cap xs w (holds_of_block_i hg (by simpa using h4)) (by omega) (by omega)).mono ?_
    rintro e w' ⟨rfl, q, rfl⟩
    have hcl : (Lib.compact xs).length ≤ xs.length := by
      unfold Lib.compact Lib.compactUpTo
      rw [List.length_map]
      exact Nat.le_trans (List.length_filter_le _ _) (by simp)
    have hg0 : ∀ W : World, grow W #[] = W := fun W => by simp [grow]
    have e1 := heap_sorted_i (n := q) (os := #[]) (Lib.compact xs ++ List.replicate (xs.length - (Lib.compact xs).length) 0).toArray hg
    have e2 := grownBy_sorted_i (w := w) (g := g) (n := q) (os := #[]) (Lib.compact xs ++ List.replicate (xs.length - (Lib.compact xs).length) 0).toArray
    rw [hg0] at e1 e2
    refine ⟨_, rfl, ⟨by simp, .inr ⟨g, cap, _, rfl, hbase, e1, by omega, h2, by simp [putCells, h3], ?_⟩⟩, (Below.refl nb w).grown e2 (by omega) (fun k e => by cases e; omega)⟩
    have hts : (Lib.compact xs ++ List.replicate (xs.length - (Lib.compact xs).length) 0).length = xs.length := by simp; omega
    have e3 := take_putCells_i cur (Lib.compact xs ++ List.replicate (xs.length - (Lib.compact xs).length) 0) (by rw [hts, h3]; omega)
    rw [hts] at e3
    have e4 := congrArg (List.take (Lib.compact xs).length) e3
    rw [List.take_take, Nat.min_eq_left hcl] at e4
    rw [Nat.mul_one, e4, ← List.map_take, List.take_left']
    rfl
end Go.Proofs.Ytekdekchbnacgaa
