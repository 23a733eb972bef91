/- Contracts of package paths, part 4: level, Level, Under, Common. -/
import Derived.Test.YtalcghkifkckaaaPb
import Derived.Deep.QuietTactic
import Derived.BigQuiet
import Derived.Lib.Hide
namespace Go.Proofs.Ytalcghkifkckaaa
open Go.RowKit

def levN (n : Nat) : Nat := 10 - bitLen n
theorem bitLen_bd (n : Nat) (h0 : 1 ≤ n) (h1 : n < 1024) : 1 ≤ bitLen n ∧ bitLen n ≤ 10 := by
  unfold bitLen
  rw [if_neg (by omega)]
  have := (Nat.log2_lt (by omega : n ≠ 0)).2 (show n < 2 ^ 10 from h1)
  omega

theorem levelm_any (n : Nat) (h0 : 1 ≤ n) (h1 : n < 1024) (w : World) :
    Calls Try.prog 26 #[.int .i64 n] w fun e w' => e = .returned (.int .i64 (levN n)) ∧ w = w' := by
  have hb := bitLen_bd n h0 h1
  go_enter Try.func26, Try.ntmps26
  go_wp2_with fail
  refine (len_any _ (by omega) (by omega) _).mono ?_
  rintro e w' ⟨rfl, rfl⟩
  simp only [Int.toNat_natCast]
  go_wp2
  go_ret
  exact ⟨ret_int (by unfold levN; omega), rfl⟩

theorem level_ok (n : Nat) (h0 : 1 ≤ n) (h1 : n < 1024) (w : World) :
    Calls Try.prog 13 #[.int .i64 n] w fun e w' => e = .returned (.tuple #[.int .i64 (levN n), .int .i64 0]) ∧ w = w' := by
  go_enter Try.func13, Try.ntmps13
  go_wp2_with fail
  refine (isNode_yes _ (by omega) (by omega) _).mono ?_
  rintro e w' ⟨rfl, rfl⟩
  go_wp2_with fail
  refine (levelm_any n h0 h1 _).mono ?_
  rintro e w' ⟨rfl, rfl⟩
  go_wp2
  go_ret2
  exact ⟨rfl, rfl⟩

theorem level_no (n : Int) (h : n < 1 ∨ 1024 ≤ n) (w : World) :
    Calls Try.prog 13 #[.int .i64 n] w fun e w' => e = .returned (.tuple #[.int .i64 0, .int .i64 200]) ∧ w = w' := by
  go_enter Try.func13, Try.ntmps13
  go_wp2_with fail
  refine (isNode_no _ h _).mono ?_
  rintro e w' ⟨rfl, rfl⟩
  go_wp2
  go_ret2
  exact ⟨rfl, rfl⟩

theorem under_no (n : Int) (h : n < 1 ∨ 1024 ≤ n) (w : World) :
    Calls Try.prog 20 #[.int .i64 n] w fun e w' => e = .returned (.tuple #[.int .i64 0, .int .i64 0, .int .i64 200]) ∧ w = w' := by
  go_enter Try.func20, Try.ntmps20
  go_wp2_with fail
  refine (isNode_no _ h _).mono ?_
  rintro e w' ⟨rfl, rfl⟩
  go_wp2
  go_ret3
  exact ⟨rfl, rfl⟩

/-- The devices under a node. -/
def froN (n : Nat) : Nat := n * 2 ^ levN n - 512
def toN (n : Nat) : Nat := (n + 1) * 2 ^ levN n - 512
theorem under_bd (n : Nat) (h0 : 1 ≤ n) (h1 : n < 1024) : 512 ≤ n * 2 ^ levN n ∧ (n + 1) * 2 ^ levN n ≤ 1024 ∧ levN n ≤ 9 := by
  have h : ∀ n : Fin 1024, 1 ≤ n.val → 512 ≤ n.val * 2 ^ levN n.val ∧ (n.val + 1) * 2 ^ levN n.val ≤ 1024 ∧ levN n.val ≤ 9 := by decide +kernel
  exact h ⟨n, h1⟩ h0

theorem cast_mul_pow (n k : Nat) : ((n * 2 ^ k : Nat) : Int) = (n : Int) * 2 ^ k := by
  rw [Int.natCast_mul, Int.natCast_pow]; rfl
theorem cast_mul_pow1 (n k : Nat) : (((n + 1) * 2 ^ k : Nat) : Int) = ((n : Int) + 1) * 2 ^ k := by
  rw [Int.natCast_mul, Int.natCast_pow]; rfl
theorem wr_sub (A : Nat) (h : 512 ≤ A) (h2 : A ≤ 1024) : wrap64 (wrap64 (A : Int) - 512) = ((A - 512 : Nat) : Int) := by
  have e := wrap64_id (A : Int) (by omega) (by omega)
  rw [e, wrap64_id _ (by omega) (by omega)]; omega

theorem under_e1 (n k : Nat) (hk : levN n = k) (h5 : 512 ≤ n * 2 ^ k) (h7 : n * 2 ^ k ≤ 1024) : wrap64 (wrap64 ((n : Int) * 2 ^ k) - 512) = ((froN n : Nat) : Int) := by
  unfold froN
  rw [← cast_mul_pow, hk]
  exact wr_sub _ h5 h7
theorem under_e2 (n k : Nat) (hk : levN n = k) (h5 : 512 ≤ (n + 1) * 2 ^ k) (h7 : (n + 1) * 2 ^ k ≤ 1024) : wrap64 (wrap64 (((n : Int) + 1) * 2 ^ k) - 512) = ((toN n : Nat) : Int) := by
  unfold toN
  rw [← cast_mul_pow1, hk]
  exact wr_sub _ h5 h7

theorem under_ok (n : Nat) (h0 : 1 ≤ n) (h1 : n < 1024) (w : World) :
    Calls Try.prog 20 #[.int .i64 n] w fun e w' => e = .returned (.tuple #[.int .i64 (froN n), .int .i64 (toN n), .int .i64 0]) ∧ ∃ q, w' = w.drewN q := by
  obtain ⟨hb1, hb2, hb3⟩ := under_bd n h0 h1
  have hb4 : n * 2 ^ levN n ≤ 1024 := by have : n * 2 ^ levN n ≤ (n + 1) * 2 ^ levN n := Nat.mul_le_mul_right _ (by omega); omega
  have HB := Lib.hid (And.intro hb1 (And.intro hb2 hb4))
  clear hb1 hb2 hb4
  go_enter Try.func20, Try.ntmps20
  go_wp2_with fail
  refine (isNode_yes _ (by omega) (by omega) _).mono ?_
  rintro e w' ⟨rfl, rfl⟩
  go_wp2_with fail
  refine (levelm_any n h0 h1 _).mono ?_
  rintro e w' ⟨rfl, rfl⟩
  generalize hk : levN n = k at HB hb3
  have HK := Lib.hid hk
  clear hk
  go_wp2
  go_quiet (fail)
  go_wp2
  go_ret3
  obtain ⟨h5, h6, h7⟩ := HB.out
  have e1 := under_e1 n k HK.out h5 h7
  have e2 := under_e2 n k HK.out (Nat.le_trans h5 (Nat.mul_le_mul_right _ (by omega))) h6
  exact ⟨by rw [← e1, ← e2]; rfl, _, rfl⟩

/-- The common node of two leaves. -/
def comN (x y : Nat) : Nat := x / 2 ^ bitLen (x ^^^ y)

theorem xor_i64 (x y : Nat) (hx : x < 1024) (hy : y < 1024) : bits .xor .i64 (x : Int) (y : Int) = ((x ^^^ y : Nat) : Int) :=
  bits_xor_nat .i64 10 (by decide) (fun n h0 h1 => IntWalk.i64_in n (by omega)) x y (by omega) (by omega)

theorem bitLen_le (n j : Nat) (h : n < 2 ^ j) : bitLen n ≤ j := by
  unfold bitLen
  split
  · omega
  · rename_i h0
    have := (Nat.log2_lt h0).2 h
    omega

set_option maxRecDepth 100000 in
theorem common_ok (a b : Nat) (ha : a < 512) (hb : b < 512) (w : World) :
    Calls Try.prog 22 #[.int .i64 a, .int .i64 b] w fun e w' => e = .returned (.tuple #[.int .i64 (comN (512 + a) (512 + b)), .int .i64 0]) ∧ w = w' := by
  have hx : (512 + a) ^^^ (512 + b) < 1024 := Nat.xor_lt_two_pow (n := 10) (by omega) (by omega)
  have hxe := xor_i64 (512 + a) (512 + b) (by omega) (by omega)
  have hbl := bitLen_le _ 10 hx
  generalize hX : (512 + a) ^^^ (512 + b) = X at hx hxe hbl
  have HX := Lib.hid hX
  clear hX
  push_cast at hxe
  go_enter Try.func22, Try.ntmps22
  go_wp2_with fail
  refine (leaf_ok _ (by omega) (by omega) _).mono ?_
  rintro e w' ⟨rfl, rfl⟩
  go_wp2_with fail
  refine (leaf_ok _ (by omega) (by omega) _).mono ?_
  rintro e w' ⟨rfl, rfl⟩
  go_wp2_with fail
  refine (len_any _ (by omega) (by omega) _).mono ?_
  rintro e w' ⟨rfl, rfl⟩
  simp only [Int.toNat_natCast]
  go_wp2
  go_ret2
  have e1 : (512 + (a : Int)) / 2 ^ bitLen X = ((comN (512 + a) (512 + b) : Nat) : Int) := by unfold comN; rw [HX.out]; simp
  exact ⟨by rw [← e1]; rfl, rfl⟩

theorem common_no (a b : Int) (h : a < 0 ∨ 512 ≤ a ∨ b < 0 ∨ 512 ≤ b) (w : World) :
    Calls Try.prog 22 #[.int .i64 a, .int .i64 b] w fun e w' => e = .returned (.tuple #[.int .i64 0, .int .i64 200]) ∧ w = w' := by
  by_cases h0 : a < 0 ∨ 512 ≤ a
  · go_enter Try.func22, Try.ntmps22
    go_wp2_with fail
    refine (leaf_no _ h0 _).mono ?_
    rintro e w' ⟨rfl, rfl⟩
    go_wp2
    go_ret2
    exact ⟨rfl, rfl⟩
  · have h1 : 0 ≤ a := by omega
    have h2 : a < 512 := by omega
    have h3 : b < 0 ∨ 512 ≤ b := by omega
    clear h h0
    go_enter Try.func22, Try.ntmps22
    go_wp2_with fail
    refine (leaf_ok _ h1 h2 _).mono ?_
    rintro e w' ⟨rfl, rfl⟩
    go_wp2_with fail
    refine (leaf_no _ h3 _).mono ?_
    rintro e w' ⟨rfl, rfl⟩
    go_wp2
    go_ret2
    exact ⟨rfl, rfl⟩
end Go.Proofs.Ytalcghkifkckaaa
