/- Package keytree: the keys of no map. -/
import Derived.Test.YtekdekchbnacgaaKv
namespace Go.Proofs.Ytekdekchbnacgaa
open Go.RowKit
set_option maxRecDepth 100000
set_option linter.unusedVariables false
set_option linter.unusedSimpArgs false

set_option maxHeartbeats 1000000 in
theorem keys_none0 (Bm n₀ : Nat) (w : World) (hm : Boxed w Bm 59 (.map none)) (h2 : Bm < n₀) :
    IterC Try.prog 84 #[.pointer (some ⟨Bm, 0, none⟩)] (fun x : Int => #[.int .i64 x]) (fun _ => False) n₀ (fun xs => xs = []) (fun _ => True) (fun ys => ys.length ≤ 0) w := by
  intro l J Jx W hW hJ hJx hY h0
  have hbW : Boxed W Bm 59 (.map none) := (hW.block Bm hm.lt).trans hm
  have hc := hbW.cell
  refine (callsIn_wide (n := 0)).1 ?_
  refine callsIn_of_wp Try.func84 rfl trivial ?_ rfl
  simp only [Try.ntmps84, List.size_toArray, List.length_cons, List.length_nil, Nat.reduceAdd, Nat.reduceSub, Array.replicate_succ, Array.replicate_zero, List.push_toArray, List.append_toArray, List.nil_append, List.cons_append]
  clear hY
  have hrg := run_range_nilMap (P := Try.prog) W 59 3 3 Try.underlying59
  have hnx : ∀ ty, (Instr.next (.pointer (some ⟨W.heap.size, 0, none⟩)) false ty).run Try.prog (W.alloc (.mapIter none 0 #[] 0)) = _ := fun ty => run_next_nilMap W ty 0 0 #[]
  have HJ : Hid (J [] (fun k => k = W.heap.size) (W.alloc (.mapIter none 0 #[] 0))) := Lib.hid (hJ [] _ _ W _ h0 (Turns.ofGrown (World.grownBy_alloc W _ none) (fun k e => by cases e)) (fun _ h => h.elim) (fun k e => .inr (by have := World.size_alloc W (.mapIter none 0 #[] 0); omega)))
  clear hJ hJx
  gi_wp2
  gi_loopw [3] (fun _ wr => wr = W.alloc (.mapIter none 0 #[] 0)) (fun _ wr => 0)
  case atStart => rfl
  case round =>
    subst hrel
    gi_wp2
    refine bodyPost_end (results_none rfl _ _ _) rfl ?_
    exact ⟨⟨_, rfl⟩, .inl ⟨[], _, rfl, HJ.out⟩⟩
set_option maxHeartbeats 1000000 in
theorem tree_none (w : World) : Calls Try.prog 46 #[.map none] w fun e w' => e = .returned (.agg #[.slice none 0 0]) ∧ Below w.heap.size w w' := by
  go_enter Try.func46, Try.ntmps46
  go_wp2_with fail
  have hbt : Boxed (w.alloc (.cells #[.slice none 0 0] 24)) w.heap.size 24 (.slice none 0 0) := World.alloc_heap_new w _
  have hB0 : Below w.heap.size w (w.alloc (.cells #[.slice none 0 0] 24)) := (Below.refl _ w).alloc (Nat.le_refl _) _
  have hs0 : w.heap.size < (w.alloc (.cells #[.slice none 0 0] 24)).heap.size := by simp
  obtain ⟨W0, hW0⟩ : ∃ W0, W0 = w.alloc (.cells #[.slice none 0 0] 24) := ⟨_, rfl⟩
  rw [← hW0] at hbt hB0 hs0 ⊢
  clear hW0
  refine (keys_any none W0).mono ?_
  rintro e w1 ⟨rfl, rfl⟩
  have hs1 : W0.heap.size < (W0.alloc (.cells #[.map none] 59)).heap.size := by simp
  have hbm : Boxed (W0.alloc (.cells #[.map none] 59)) W0.heap.size 59 (.map none) := World.alloc_heap_new W0 _
  have hbt1 : Boxed (W0.alloc (.cells #[.map none] 59)) w.heap.size 24 (.slice none 0 0) := (Below.heap_alloc _ _ _ (by omega)).trans hbt
  have hB1 := hB0.alloc hB0.size (.cells #[.map none] 59)
  obtain ⟨W1, hW1⟩ : ∃ W1, W1 = W0.alloc (.cells #[.map none] 59) := ⟨_, rfl⟩
  rw [← hW1] at hs1 hbm hbt1 hB1 ⊢
  clear hW1 hbt hB0
  have HSO := Lib.hid (sorted_ok (V := fun ys => ys.length ≤ 0) (fun _ _ => rfl) (keys_none0 W0.heap.size W1.heap.size W1 hbm hbm.lt) (Nat.le_refl _) (fun _ h => h.elim) (fun ys h => by omega) (fun xs h => by rw [h]; simp) W1.heap.size (Nat.le_refl _) (fun _ h => h.elim))
  have HB1 := Lib.hid hB1
  have HBT1 := Lib.hid hbt1
  clear hB1 hbt1 hbm
  go_wp2_with fail
  refine HSO.out.mono ?_
  rintro e w2 ⟨u, xs, rfl, rfl, hrow, hB2⟩
  rw [show ([] : List Int).mergeSort leI = [] from by simp] at hrow
  obtain ⟨pu, cu, rfl, -, -⟩ := ints_form (l := []) hrow
  have HBT2 : Hid (Boxed w2 w.heap.size 24 (.slice none 0 0)) := Lib.hid ((hB2.block _ (by omega)).trans HBT1.out)
  have HB2 := Lib.hid (HB1.out.trans (hB2.mono (by omega)))
  have cb := HBT2.out.cell
  have cf := HBT2.out.frozen
  clear hrow hB2 HSO
  go_wp2_with fail
  go_loopw [9] (fun i wr => i = .int .i64 0 ∧ wr = w2) (fun i _ => 0)
  case atStart => exact ⟨rfl, rfl⟩
  case round =>
    obtain ⟨rfl, rfl⟩ := hrel
    go_wp2_with fail
    have cb5 := (Boxed.set (.slice none 0 0) HBT2.out).cell
    refine bodyPost_ret (v := .agg #[.slice none 0 0]) (by simp [results, Try.results46, go_sem, cb5]) rfl ?_
    exact ⟨rfl, HB2.out.grown (grownBy_setCell' _ w.heap.size _) (by have := HB2.out.size; omega) (fun j e => by cases e; exact Nat.le_refl _)⟩
end Go.Proofs.Ytekdekchbnacgaa
