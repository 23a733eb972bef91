/- slices.Grow at nil. -/
import Derived.Test.YtklaancgnfkjlaaDoorCg
import Derived.Lib.AppendZeros
namespace Go.Proofs.YtklaancgnfkjlaaDoor
open Go.RowKit
set_option maxRecDepth 100000
set_option maxHeartbeats 4000000
set_option linter.unusedVariables false
set_option linter.unusedSimpArgs false

theorem grow_ok (n : Nat) (hn : n ≤ 1000000) (w : World) :
    Calls Tryd.prog 39 #[.slice none 0 0, .int .i64 n] w fun e w' => ∃ v, e = .returned v ∧ w'.ownsRow w.heap.size 5 1 v 0 [] ∧ Below w.heap.size w w' := by
  rcases Nat.eq_zero_or_pos n with h0 | h0
  · subst h0
    go_enter Tryd.func39, Tryd.ntmps39
    go_wp2
    go_ret
    exact ⟨_, rfl, World.ownsRow_nil _ _ _ _, Below.refl _ _⟩
  · obtain ⟨i0, hi0, hz0, hz1, hz2⟩ := info_parts info_u8
    have hr := Lib.run_append_nil_zeros (P := Tryd.prog) w 28 3 28 5 i0 (.int .u8 0) .i64 .i64 Tryd.underlying28 Tryd.underlying3 hi0 hz0 n h0 (by omega) (by omega) (by rw [hz2]; omega)
    have hge := grownCap_ge w n 0 5
    have hle := grownCap_le_maxLen w n 0 5 (by unfold maxLen; omega)
    generalize grownCap w n 0 5 = C at hr hge hle
    have hsz : (Builtin.zeroCells (Value.int .u8 0).cells n ++ Builtin.zeroCells (Value.int .u8 0).cells (C - n)).size = C * 1 := by
      simp [Builtin.zeroCells, Value.cells]; omega
    generalize Builtin.zeroCells (Value.int .u8 0).cells n ++ Builtin.zeroCells (Value.int .u8 0).cells (C - n) = Z at hr hsz
    have HR := Lib.hid hr
    have HSZ := Lib.hid hsz
    have HLE := Lib.hid hle
    clear hr hsz hle hi0 hz0 hz1 hz2
    have hpos : (0 : Int) < (n : Int) := by omega
    go_enter Tryd.func39, Tryd.ntmps39
    go_wp2_with (at_builtin; refine Lib.wpList_append_run _ rfl _ _ 28 3 rfl _ _ rfl rfl _ _ HR.out ?_)
    go_ret
    refine ⟨_, rfl, ⟨rfl, .inr ⟨w.heap.size, C, Z, rfl, Nat.le_refl _, World.alloc_heap_new w.drew _, Nat.zero_le _, HLE.out, HSZ.out, rfl⟩⟩, ?_⟩
    exact ⟨rfl, rfl, rfl, by simp, fun k hk => Below.heap_alloc w.drew _ _ hk⟩
end Go.Proofs.YtklaancgnfkjlaaDoor
