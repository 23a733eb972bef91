/- The reference cipher: Seal. -/
import Derived.Test.YtklaancgnfkjlaaDoorGg
namespace Go.Proofs.YtklaancgnfkjlaaDoor
open Go.RowKit
set_option maxRecDepth 100000
set_option maxHeartbeats 2000000
set_option linter.unusedVariables false
set_option linter.unusedSimpArgs false

theorem rseal_bad (kc nc : Array Value) (hks : kc.size = 32) (hns : nc.size = 12) (vh : Value) (p : Option Addr) (n c : Nat) (hn : 65536 < n) (w : World) :
    Calls Tryd.prog 17 #[.agg kc, .agg nc, vh, .slice p n c] w fun e w' => e = .returned (.tuple #[.slice none 0 0, .int .i64 60]) ∧ Below w.heap.size w w' := by
  have hB : Below w.heap.size w ((w.alloc (.cells kc 23)).alloc (.cells nc 25)) :=
    ⟨rfl, rfl, rfl, by simp; omega, fun k hk => by rw [Below.heap_alloc _ _ _ (by simp; omega), Below.heap_alloc _ _ _ hk]⟩
  have HB := Lib.hid hB
  have HKS := Lib.hid hks
  have HNS := Lib.hid hns
  clear hB hks hns
  go_enter Tryd.func17, Tryd.ntmps17
  go_upto_region 1 with fail
  refine wp_region_lit ?_
  refine wpList_load_row rfl 23 _ rfl w.heap.size rfl 23 kc (0, 0) _ ((Below.heap_alloc _ _ _ (by simp)).trans (World.alloc_heap_new w _)) Tryd.underlying23 rfl (by rw [HKS.out]; rfl) ?_
  refine wpList_load_row rfl 25 _ rfl (w.heap.size + 1) rfl 25 nc (0, 0) _ (alloc_new2 w _ _) Tryd.underlying25 rfl (by rw [HNS.out]; rfl) ?_
  go_wp2_with fail
  refine (rstream_bad kc nc p n c hn _).mono ?_
  rintro e w1 ⟨rfl, hB1⟩
  have HB1 := Lib.hid (HB.out.trans (hB1.mono HB.out.size))
  clear hB1
  go_wp2
  go_ret2
  exact ⟨rfl, HB1.out⟩
end Go.Proofs.YtklaancgnfkjlaaDoor
