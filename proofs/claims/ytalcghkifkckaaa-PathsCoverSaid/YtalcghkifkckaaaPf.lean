/- Contracts of the reference of paths, part 2: Path, Copath. -/
import Derived.Test.YtalcghkifkckaaaPe
namespace Go.Proofs.Ytalcghkifkckaaa
open Go.RowKit
set_option maxRecDepth 100000

theorem rsib_any (n : Nat) (h0 : 1 < n) (h : n < 1024) (w : World) :
    Calls Try.prog 31 #[.int .i64 n] w fun e w' => e = .returned (.int .i64 (sibN n)) ∧ w = w' := by
  have hs : sibN n = if n % 2 = 0 then n + 1 else n - 1 := by
    have h : ∀ n : Fin 1024, 1 < n.val → sibN n.val = if n.val % 2 = 0 then n.val + 1 else n.val - 1 := by decide +kernel
    exact h ⟨n, by assumption⟩ h0
  by_cases hm : n % 2 = 0
  · rw [if_pos hm] at hs
    have hb : ((n : Int) % 2 == 0) = true := by simp; omega
    rw [hs]
    clear hs
    go_enter Try.func31, Try.ntmps31
    go_wp2
    go_ret
    exact ⟨rfl, rfl⟩
  · rw [if_neg hm] at hs
    have hb : ((n : Int) % 2 == 0) = false := by simp; omega
    rw [hs]
    clear hs
    go_enter Try.func31, Try.ntmps31
    go_wp2
    go_ret
    exact ⟨ret_int (by omega), rfl⟩

theorem upL_cons {j m : Nat} (h : 1 < m) (hj : m < 2 ^ j) (f : Nat → Nat) (pre : List Nat) (L : List Nat) (e : pre ++ (upL j m).map f = L) :
    ∃ i, j = i + 1 ∧ m / 2 < 2 ^ i ∧ (pre ++ [f m]) ++ (upL i (m / 2)).map f = L := by
  obtain ⟨i, rfl, hu, hi⟩ := upL_big h hj
  refine ⟨i, rfl, hi, ?_⟩
  rw [← e, hu]; simp
theorem upL_end {j m : Nat} (h : m ≤ 1) (f : Nat → Nat) (pre : List Nat) (L : List Nat) (e : pre ++ (upL j m).map f = L) : pre = L := by
  rw [upL_small h] at e; simpa using e

theorem iv_snoc (l : List Nat) (x : Nat) : iv (l ++ [x]) = iv l ++ [.int .i64 x] := by simp [iv]
theorem iv_length (l : List Nat) : (iv l).length = l.length := by simp [iv]
theorem pathN_length (d : Nat) (hd : d < 512) : (pathN d).length = 9 := by simp [pathN, upL_nine d hd]
theorem copN_length (d : Nat) (hd : d < 512) : (copN d).length = 9 := by simp [copN, upL_nine d hd]

theorem rpath_ok (d : Nat) (hd : d < 512) (w : World) :
    Calls Try.prog 16 #[.int .i64 d] w fun e w' => ∃ v, e = .returned (.tuple #[v, .int .i64 0]) ∧ w'.ownsRow w.heap.size 3 1 v 9 (iv (pathN d)) ∧ Below w.heap.size w w' := by
  obtain ⟨i0, hi, hz0, hz1, hz2⟩ := info_parts info_int
  go_enter Try.func16, Try.ntmps16
  go_wp2_with fail
  refine (rleaf_ok _ (by omega) (by omega) _).mono ?_
  rintro e w' ⟨rfl, rfl⟩
  go_wp2
  go_loopw [4, 6] (fun n l wr => ∃ (pre : List Nat) (j m : Nat), n = .int .i64 m ∧ m < 1024 ∧ m < 2 ^ j ∧ pre.length + j = 10 ∧ Hid (pre ++ (upL j m).map parN = pathN d) ∧ wr.ownsRow w.heap.size 3 1 l pre.length (iv pre) ∧ Below w.heap.size w wr)
    (fun n _ _ => (intOf n).toNat)
  case atStart => exact ⟨[], 10, 512 + d, by go_num, by omega, by omega, rfl, rfl, World.ownsRow_nil _ _ _ _, Below.refl _ _⟩
  case round =>
    obtain ⟨pre, j, m, rfl, hm, hmj, hpj, HP, hown, hB⟩ := hrel
    by_cases h1 : 1 < m
    · obtain ⟨i, rfl, hmi, hpi⟩ := upL_cons h1 hmj parN pre _ HP.out
      have HPI := Lib.hid hpi
      clear hpi
      have hsz := hB.size
      have HB := Lib.hid hB
      clear hB
      go_wp2_with (at_builtin; refine wpList_append_own _ rfl _ _ 26 rfl w.heap.size 3 i0 (.int .i64 0) 1 8 Try.underlying26 hi hz0 hz1 hz2 rfl (by decide) _ _ _ rfl (hown.alloc _) ⟨wr.heap.size, 0, none⟩ 1 1 [.int .i64 ((m : Int) / 2)] rfl rfl (cell_one_new _ _ _) (by simp [Value.oneCell']) (by unfold maxLen; omega) (by omega) (by simp; omega) ?_; intro v' w1 hown' hgrow _)
      go_roundw
      case rel =>
        refine ⟨pre ++ [parN m], i, m / 2, by go_num, by omega, hmi, by simp; omega, HPI.out, ?_, ?_⟩
        · rw [iv_snoc]
          have : (m : Int) / 2 = ((parN m : Nat) : Int) := by simp [parN]
          rw [this] at hown'
          simpa using hown'
        · exact (HB.out.alloc hsz _).grown hgrow (by simp; omega) (fun k e => (hown.lt k e).1)
      case measure => simp [intOf]; omega
    · have HPI := Lib.hid (upL_end (by omega) parN pre _ HP.out)
      go_wp2
      go_ret2
      have e := HPI.out
      subst e
      rw [pathN_length d hd] at hown
      exact ⟨_, rfl, hown, hB⟩

theorem rcopath_ok (d : Nat) (hd : d < 512) (w : World) :
    Calls Try.prog 18 #[.int .i64 d] w fun e w' => ∃ v, e = .returned (.tuple #[v, .int .i64 0]) ∧ w'.ownsRow w.heap.size 3 1 v 9 (iv (copN d)) ∧ Below w.heap.size w w' := by
  obtain ⟨i0, hi, hz0, hz1, hz2⟩ := info_parts info_int
  go_enter Try.func18, Try.ntmps18
  go_wp2_with fail
  refine (rleaf_ok _ (by omega) (by omega) _).mono ?_
  rintro e w' ⟨rfl, rfl⟩
  go_wp2
  go_loopw [4, 6] (fun n l wr => ∃ (pre : List Nat) (j m : Nat), n = .int .i64 m ∧ m < 1024 ∧ m < 2 ^ j ∧ pre.length + j = 10 ∧ Hid (pre ++ (upL j m).map sibN = copN d) ∧ wr.ownsRow w.heap.size 3 1 l pre.length (iv pre) ∧ Below w.heap.size w wr)
    (fun n _ _ => (intOf n).toNat)
  case atStart => exact ⟨[], 10, 512 + d, by go_num, by omega, by omega, rfl, rfl, World.ownsRow_nil _ _ _ _, Below.refl _ _⟩
  case round =>
    obtain ⟨pre, j, m, rfl, hm, hmj, hpj, HP, hown, hB⟩ := hrel
    by_cases h1 : 1 < m
    · obtain ⟨i, rfl, hmi, hpi⟩ := upL_cons h1 hmj sibN pre _ HP.out
      have HPI := Lib.hid hpi
      clear hpi
      have hsz := hB.size
      have HB := Lib.hid hB
      clear hB
      go_wp2_with fail
      refine (rsib_any m h1 hm _).mono ?_
      rintro e w' ⟨rfl, rfl⟩
      go_wp2_with (at_builtin; refine wpList_append_own _ rfl _ _ 26 rfl w.heap.size 3 i0 (.int .i64 0) 1 8 Try.underlying26 hi hz0 hz1 hz2 rfl (by decide) _ _ _ rfl (hown.alloc _) ⟨wr.heap.size, 0, none⟩ 1 1 [.int .i64 (sibN m : Nat)] rfl rfl (cell_one_new _ _ _) (by simp [Value.oneCell']) (by unfold maxLen; omega) (by omega) (by simp; omega) ?_; intro v' w1 hown' hgrow _)
      go_roundw
      case rel =>
        refine ⟨pre ++ [sibN m], i, m / 2, by go_num, by omega, hmi, by simp; omega, HPI.out, ?_, ?_⟩
        · rw [iv_snoc]
          simpa using hown'
        · exact (HB.out.alloc hsz _).grown hgrow (by simp; omega) (fun k e => (hown.lt k e).1)
      case measure => simp [intOf]; omega
    · have HPI := Lib.hid (upL_end (by omega) sibN pre _ HP.out)
      go_wp2
      go_ret2
      have e := HPI.out
      subst e
      rw [copN_length d hd] at hown
      exact ⟨_, rfl, hown, hB⟩

theorem rpath_no (d : Int) (h : d < 0 ∨ 512 ≤ d) (w : World) :
    Calls Try.prog 16 #[.int .i64 d] w fun e w' => e = .returned (.tuple #[.slice none 0 0, .int .i64 200]) ∧ w = w' := by
  go_enter Try.func16, Try.ntmps16
  go_wp2_with fail
  refine (rleaf_no _ h _).mono ?_
  rintro e w' ⟨rfl, rfl⟩
  go_wp2
  go_ret2
  exact ⟨rfl, rfl⟩
theorem rcopath_no (d : Int) (h : d < 0 ∨ 512 ≤ d) (w : World) :
    Calls Try.prog 18 #[.int .i64 d] w fun e w' => e = .returned (.tuple #[.slice none 0 0, .int .i64 200]) ∧ w = w' := by
  go_enter Try.func18, Try.ntmps18
  go_wp2_with fail
  refine (rleaf_no _ h _).mono ?_
  rintro e w' ⟨rfl, rfl⟩
  go_wp2
  go_ret2
  exact ⟨rfl, rfl⟩
end Go.Proofs.Ytalcghkifkckaaa
