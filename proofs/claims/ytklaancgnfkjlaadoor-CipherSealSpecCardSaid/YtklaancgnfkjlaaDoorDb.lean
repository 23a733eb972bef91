/- eight. -/
import Derived.Test.YtklaancgnfkjlaaDoorDa
import Derived.OwnWalk
import Derived.Maps.AppendAt
namespace Go.Proofs.YtklaancgnfkjlaaDoor
open Go.RowKit
set_option maxRecDepth 100000
set_option maxHeartbeats 4000000
set_option linter.unusedVariables false
set_option linter.unusedSimpArgs false

theorem info_u8' : (Tryd.prog.info? 5).map (fun i => (i.zero, i.size, i.bytes)) = some (some (.int .u8 0), 1, 1) := by kernel_rfl
def eightL (n : Nat) : Nat → List (BitVec 8)
  | 0 => []
  | j + 1 => eightL n j ++ [BitVec.ofNat 8 (n / 2 ^ (56 - 8 * j))]
theorem eightL_length (n j) : (eightL n j).length = j := by induction j with
  | zero => rfl
  | succ j ih => simp [eightL, ih]
theorem eight_byte (n k : Nat) : (n : Int) / 2 ^ (56 - 8 * k) % 256 = ((BitVec.ofNat 8 (n / 2 ^ (56 - 8 * k))).toNat : Int) := by
  rw [BitVec.toNat_ofNat]; simp
theorem eight_snoc (n k : Nat) : (eightL n (k + 1)).map v8 = (eightL n k).map v8 ++ [.int .u8 ((n : Int) / 2 ^ (56 - 8 * k) % 256)] := by
  rw [eight_byte, eightL, List.map_append]; rfl
theorem eight_ok (n : Nat) (hn : n < 9223372036854775808) (w : World) :
    Calls Tryd.prog 35 #[.int .i64 n] w fun e w' => ∃ v, e = .returned v ∧ w'.ownsRow w.heap.size 5 1 v 8 ((eightL n 8).map v8) ∧ Below w.heap.size w w' := by
  obtain ⟨i0, hi0, hz0, hz1, hz2⟩ := info_parts info_u8'
  go_enter Tryd.func35, Tryd.ntmps35
  go_wp2_with fail
  go_loopw [2, 4] (fun l t wr => ∃ k : Nat, t = .int .i64 k ∧ k ≤ 8 ∧ wr.ownsRow w.heap.size 5 1 l k ((eightL n k).map v8) ∧ Below w.heap.size w wr) (fun _ t _ => (8 - intOf t).toNat)
  case atStart => exact ⟨0, rfl, by omega, World.ownsRow_nil _ _ _ _, Below.refl _ _⟩
  case round =>
    obtain ⟨k, rfl, hk, hown, hB⟩ := hrel
    by_cases hlt : k < 8
    · have hsz := hB.size
      replace hB := Lib.hid hB
      go_wp2_with (at_builtin; refine wpList_append_own _ rfl _ _ 28 rfl w.heap.size 5 i0 (.int .u8 0) 1 1 Tryd.underlying28 hi0 hz0 hz1 hz2 rfl (by decide) _ _ _ rfl (hown.alloc _) ⟨wr.heap.size, 0, none⟩ 1 1 [.int .u8 ((n : Int) / 2 ^ (56 - 8 * k) % 256)] rfl rfl (cell_one_new _ _ _) (by simp [Value.oneCell']) (by unfold maxLen; omega) (by omega) (by simp; omega) ?_; intro v' w1 hown' hgrow _)
      go_roundw
      case rel =>
        refine ⟨k + 1, by go_num, by omega, ?_, ?_⟩
        · rw [eight_snoc]; exact hown'
        · exact (hB.out.alloc hsz _).grown hgrow (by simp; omega) (fun k e => (hown.lt k e).1)
      case measure => simp [intOf]; omega
    · have hk8 : k = 8 := by omega
      rw [hk8] at hown
      have HOW := Lib.hid hown
      replace hB := Lib.hid hB
      clear hown
      go_wp2
      go_ret
      exact ⟨_, rfl, HOW.out, hB.out⟩
end Go.Proofs.YtklaancgnfkjlaaDoor
