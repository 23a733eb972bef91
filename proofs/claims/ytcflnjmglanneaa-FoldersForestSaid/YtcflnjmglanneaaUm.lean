/- Folders: the laws' helpers put and few; the examples, plain. -/
import Derived.Test.YtcflnjmglanneaaUl
namespace Go.Proofs.Ytcflnjmglanneaa
open Go.RowKit Go.Maps Go.Sort
set_option maxRecDepth 100000
set_option linter.unusedVariables false
set_option linter.unusedSimpArgs false

theorem lput_ok (t f p : Int) (n : ByteArray) (w : World) :
    Calls Try.prog 26 #[.int .i64 t, .int .i64 f, .int .i64 p, .string n] w fun e w' => e = .returned (Pl.mk t 0 f p n).ev ∧ Below w.heap.size w w' := by
  have HB := Lib.hid (below_alloc w (.cells #[.int .i64 t, .int .i64 0, .int .i64 f, .int .i64 p, .string n] 24))
  have hx := World.alloc_heap_new w (.cells #[.int .i64 t, .int .i64 0, .int .i64 f, .int .i64 p, .string n] 24)
  go_enter Try.func26, Try.ntmps26
  go_wp2_with fail
  refine bodyPost_ret_by (results_cell_row rfl _ _ w.heap.size 24 #[.int .i64 t, .int .i64 0, .int .i64 f, .int .i64 p, .string n] (0, 0) _ rfl hx Try.underlying24 rfl place_size) rfl ⟨rfl, HB.out⟩
theorem few_ok (p q : Option Addr) (n c m d : Nat) (w : World) (hn : n ≤ maxLen) (hm : m ≤ maxLen) :
    Calls Try.prog 11 #[.slice p n c, .slice q m d] w fun e w' => e = .returned (.bool (decide (n ≤ 30 ∧ m ≤ 30))) ∧ w = w' := by
  have hn2 : n ≤ 9223372036854775807 := by unfold maxLen at hn; omega
  have hm2 : m ≤ 9223372036854775807 := by unfold maxLen at hm; omega
  by_cases h1 : n ≤ 30
  case neg =>
    have hd := decide_eq_false (show ¬ ((n : Int) ≤ 30) by omega)
    have hd' := decide_eq_false h1
    have HR : Hid (decide (n ≤ 30 ∧ m ≤ 30) = false) := Lib.hid (decide_eq_false fun h => h1 h.1)
    clear h1
    go_enter Try.func11, Try.ntmps11
    go_wp2_with fail
    go_ret
    exact ⟨by rw [HR.out]; rfl, rfl⟩
  have hd := decide_eq_true (show ((n : Int) ≤ 30) by omega)
  have hd' := decide_eq_true h1
  by_cases h2 : m ≤ 30
  case neg =>
    have he := decide_eq_false (show ¬ ((m : Int) ≤ 30) by omega)
    have he' := decide_eq_false h2
    have HR : Hid (decide (n ≤ 30 ∧ m ≤ 30) = false) := Lib.hid (decide_eq_false fun h => h2 h.2)
    clear h1 h2
    go_enter Try.func11, Try.ntmps11
    go_wp2_with fail
    go_ret
    exact ⟨by rw [HR.out]; rfl, rfl⟩
  have he := decide_eq_true (show ((m : Int) ≤ 30) by omega)
  have he' := decide_eq_true h2
  have HR : Hid (decide (n ≤ 30 ∧ m ≤ 30) = true) := Lib.hid (decide_eq_true ⟨h1, h2⟩)
  clear h1 h2
  go_enter Try.func11, Try.ntmps11
  go_wp2_with fail
  go_ret
  exact ⟨by rw [HR.out]; rfl, rfl⟩

def exL : List Pl := [⟨2, 0, 2, -1, ⟨#[98]⟩⟩, ⟨1, 0, 1, -1, ⟨#[97]⟩⟩, ⟨6, 0, 2, 1, ⟨#[100]⟩⟩, ⟨5, 0, 1, 2, ⟨#[99]⟩⟩]
def exT : List Pl := [⟨1, 0, 5, -1, ⟨#[97]⟩⟩, ⟨1, 0, 3, -1, ⟨#[97]⟩⟩]
def exR : List Pl := [⟨5, 0, 1, 2, ⟨#[99]⟩⟩, ⟨2, 0, 2, -1, ⟨#[98]⟩⟩]
theorem ex_tree : treeP exL = exR := by kernel_rfl
theorem ex_twins : treeP exT = [⟨1, 0, 3, -1, ⟨#[97]⟩⟩, ⟨1, 0, 5, -1, ⟨#[97]⟩⟩] := by kernel_rfl
theorem ex_find1 : findT (treeP exT) [⟨#[97]⟩] = (3, true) := by kernel_rfl
theorem ex_find2 : findT (treeP exT) [] = (0, false) := by kernel_rfl
theorem ex_find3 : findT (treeP exL) [⟨#[98]⟩, ⟨#[99]⟩] = (1, true) := by kernel_rfl
theorem ex_below1 : belowT (treeP exL) 2 = [1, 2] := by kernel_rfl
theorem ex_above1 : upT (treeP exL) 32 1 = [2] := by kernel_rfl
theorem ex_below2 : belowT (treeP exT) 5 = [5] := by kernel_rfl
theorem ex_above2 : upT (treeP exT) 32 5 = [] := by kernel_rfl
theorem ex_below0 : belowT (treeP []) 0 = [] := by kernel_rfl
theorem ex_chk0 : chkP pl0 = 270 := by kernel_rfl
theorem ex_chk1 : chkP ⟨2, 0, 2, -1, ⟨#[98]⟩⟩ = 0 := by kernel_rfl
end Go.Proofs.Ytcflnjmglanneaa
