/- Contracts of package paths: Leaf, isNode, level, Level, bits.Len. -/
import Derived.Test.YtekdekchbnacgaaRows
import Derived.WalkKit
import Derived.ProofKit
import Derived.Deep.QuietTactic
import Derived.BigQuiet
import Derived.Laws.MathBits
namespace Go.Proofs.Ytekdekchbnacgaa
open Go.RowKit

theorem ret_int {k : IntKind} {a b : Int} (h : a = b) : Ending.returned (.int k a) = .returned (.int k b) := by rw [h]

theorem leaf_ok (d : Int) (h0 : 0 ≤ d) (h1 : d < 512) (w : World) :
    Calls Try.prog 28 #[.int .i64 d] w fun e w' => e = .returned (.tuple #[.int .i64 (512 + d), .int .i64 0]) ∧ w = w' := by
  go_enter Try.func28, Try.ntmps28
  go_wp2
  go_ret2
  exact ⟨rfl, rfl⟩

theorem leaf_no (d : Int) (h : d < 0 ∨ 512 ≤ d) (w : World) :
    Calls Try.prog 28 #[.int .i64 d] w fun e w' => e = .returned (.tuple #[.int .i64 0, .int .i64 200]) ∧ w = w' := by
  by_cases h0 : d < 0
  · go_enter Try.func28, Try.ntmps28
    go_wp2
    go_ret2
    exact ⟨rfl, rfl⟩
  · have h1 : 512 ≤ d := by omega
    go_enter Try.func28, Try.ntmps28
    go_wp2
    go_ret2
    exact ⟨rfl, rfl⟩

theorem isNode_yes (n : Int) (h0 : 1 ≤ n) (h1 : n < 1024) (w : World) :
    Calls Try.prog 55 #[.int .i64 n] w fun e w' => e = .returned (.bool true) ∧ w = w' := by
  go_enter Try.func55, Try.ntmps55
  go_wp2
  go_ret
  exact ⟨rfl, rfl⟩

theorem isNode_no (n : Int) (h : n < 1 ∨ 1024 ≤ n) (w : World) :
    Calls Try.prog 55 #[.int .i64 n] w fun e w' => e = .returned (.bool false) ∧ w = w' := by
  by_cases h0 : n < 1
  · go_enter Try.func55, Try.ntmps55
    go_wp2
    go_ret
    exact ⟨rfl, rfl⟩
  · have h1 : decide (n < 1024) = false := by simp; omega
    go_enter Try.func55, Try.ntmps55
    go_wp2
    go_ret
    exact ⟨rfl, rfl⟩

theorem wrap64_id (n : Int) (h0 : 0 ≤ n) (h1 : n < 4611686018427387904) : wrap64 n = n   := IntWalk.wrap64_in n ⟨by omega, by omega⟩
theorem bl_close (n : Int) (k : Nat) (hn : 0 ≤ n) (m : Int) (hm : m = n / 2 ^ k) (h8 : m < 256) (hk : k = 0 ∨ 1 ≤ m) (hk2 : k ≤ 64 := by omega) :
    wrap64 ((k : Int) + wrap64 (bitLen m.toNat)) = bitLen n.toNat := by
  obtain ⟨N, rfl⟩ := Int.eq_ofNat_of_zero_le hn
  have hm' : m = ((N / 2 ^ k : Nat) : Int) := by rw [hm]; simp
  subst hm'
  simp only [Int.toNat_natCast] at *
  have hb := bitLen_le8 (N / 2 ^ k) (by omega)
  have e := wrap64_id (bitLen (N / 2 ^ k) : Int) (by omega) (by omega)
  rw [e, wrap64_id _ (by omega) (by omega)]
  rcases hk with rfl | hk
  · simp
  · have := bitLen_shift N k (by omega)
    omega
set_option maxRecDepth 100000 in
theorem len64_any (n : Int) (h0 : 0 ≤ n) (h1 : n ≤ 18446744073709551615) (w : World) :
    Calls Try.prog 83 #[.int .u64 n] w fun e w' => e = .returned (.int .i64 (bitLen n.toNat)) ∧ w = w' := by
  go_enter Try.func83, Try.ntmps83
  go_wp2
  all_goals go_ret
  all_goals (refine ⟨?_, rfl⟩)
  all_goals simp only [len8tab_get]
  all_goals (refine congrArg (fun z => Ending.returned (.int .i64 z)) ?_)
  · exact bl_close n 56 h0 _ (by omega) (by omega) (by omega)
  · exact bl_close n 48 h0 _ (by omega) (by omega) (by omega)
  · exact bl_close n 40 h0 _ (by omega) (by omega) (by omega)
  · exact bl_close n 32 h0 _ (by omega) (by omega) (by omega)
  · exact bl_close n 24 h0 _ (by omega) (by omega) (by omega)
  · exact bl_close n 16 h0 _ (by omega) (by omega) (by omega)
  · exact bl_close n 8 h0 _ (by omega) (by omega) (by omega)
  · simpa using bl_close n 0 h0 n (by simp) (by omega) (.inl rfl)

theorem len_any (n : Int) (h0 : 0 ≤ n) (h1 : n ≤ 18446744073709551615) (w : World) :
    Calls Try.prog 63 #[.int .u64 n] w fun e w' => e = .returned (.int .i64 (bitLen n.toNat)) ∧ w = w' := by
  go_enter Try.func63, Try.ntmps63
  go_wp2_with (go_at_call 83; refine (len64_any _ (by omega) (by omega) _).mono ?_; rintro e w' ⟨rfl, rfl⟩)
  go_ret
  exact ⟨rfl, rfl⟩
end Go.Proofs.Ytekdekchbnacgaa
