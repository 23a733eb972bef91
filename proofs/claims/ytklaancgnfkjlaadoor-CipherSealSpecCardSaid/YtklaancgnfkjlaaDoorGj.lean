/- The reference cipher: Open. -/
import Derived.Test.YtklaancgnfkjlaaDoorGi
namespace Go.Proofs.YtklaancgnfkjlaaDoor
open Go.RowKit
set_option maxRecDepth 100000
set_option maxHeartbeats 2000000
set_option linter.unusedVariables false
set_option linter.unusedSimpArgs false

theorem ropen_out (kc nc : Array Value) (vh : Value) (p : Option Addr) (n c : Nat) (hn : n < 16 ∨ 65552 < n) (w : World) :
    Calls Tryd.prog 19 #[.agg kc, .agg nc, vh, .slice p n c] w fun e w' => e = .returned (.tuple #[.slice none 0 0, .int .i64 60]) ∧ Below w.heap.size w w' := by
  have HB := Lib.hid (below_two w kc nc)
  rcases hn with h | h
  · have hd2 : decide ((n : Int) < 16) = true := by simp; omega
    go_enter Tryd.func19, Tryd.ntmps19
    go_wp2
    go_ret2
    exact ⟨rfl, HB.out⟩
  · have hd2 : decide ((n : Int) < 16) = false := by simp; omega
    have hd3 : decide ((65552 : Int) < (n : Int)) = true := by simp; omega
    go_enter Tryd.func19, Tryd.ntmps19
    go_wp2
    go_ret2
    exact ⟨rfl, HB.out⟩
end Go.Proofs.YtklaancgnfkjlaaDoor
