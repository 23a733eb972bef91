/- Contracts of package paths, part 4: level, Level, Under, Common. -/
import Derived.Test.YtekdekchbnacgaaPb
import Derived.Deep.QuietTactic
import Derived.BigQuiet
import Derived.Lib.Hide
namespace Go.Proofs.Ytekdekchbnacgaa
open Go.RowKit

def levN (n : Nat) : Nat := 10 - bitLen n
theorem bitLen_bd (n : Nat) (h0 : 1 ≤ n) (h1 : n < 1024) : 1 ≤ bitLen n ∧ bitLen n ≤ 10 := by
  unfold bitLen
  rw [if_neg (by omega)]
  have := (Nat.log2_lt (by omega : n ≠ 0)).2 (show n < 2 ^ 10 from h1)
  omega

theorem levelm_any (n : Nat) (h0 : 1 ≤ n) (h1 : n < 1024) (w : World) :
    Calls Try.prog 56 #[.int .i64 n] w fun e w' => e = .returned (.int .i64 (levN n)) ∧ w = w' := by
  have hb := bitLen_bd n h0 h1
  go_enter Try.func56, Try.ntmps56
  go_wp2_with fail
  refine (len_any _ (by omega) (by omega) _).mono ?_
  rintro e w' ⟨rfl, rfl⟩
  simp only [Int.toNat_natCast]
  go_wp2
  go_ret
  exact ⟨ret_int (by unfold levN; omega), rfl⟩

theorem level_ok (n : Nat) (h0 : 1 ≤ n) (h1 : n < 1024) (w : World) :
    Calls Try.prog 31 #[.int .i64 n] w fun e w' => e = .returned (.tuple #[.int .i64 (levN n), .int .i64 0]) ∧ w = w' := by
  go_enter Try.func31, Try.ntmps31
  go_wp2_with fail
  refine (isNode_yes _ (by omega) (by omega) _).mono ?_
  rintro e w' ⟨rfl, rfl⟩
  go_wp2_with fail
  refine (levelm_any n h0 h1 _).mono ?_
  rintro e w' ⟨rfl, rfl⟩
  go_wp2
  go_ret2
  exact ⟨rfl, rfl⟩

theorem level_no (n : Int) (h : n < 1 ∨ 1024 ≤ n) (w : World) :
    Calls Try.prog 31 #[.int .i64 n] w fun e w' => e = .returned (.tuple #[.int .i64 0, .int .i64 200]) ∧ w = w' := by
  go_enter Try.func31, Try.ntmps31
  go_wp2_with fail
  refine (isNode_no _ h _).mono ?_
  rintro e w' ⟨rfl, rfl⟩
  go_wp2
  go_ret2
  exact ⟨rfl, rfl⟩

theorem under_no (n : Int) (h : n < 1 ∨ 1024 ≤ n) (w : World) :
    Calls Try.prog 32 #[.int .i64 n] w fun e w' => e = .returned (.tuple #[.int .i64 0, .int .i64 0, .int .i64 200]) ∧ w = w' := by
  go_enter Try.func32, Try.ntmps32
  go_wp2_with fail
  refine (isNode_no _ h _).mono ?_
  rintro e w' ⟨rfl, rfl⟩
  go_wp2
  go_ret3
  exact ⟨rfl, rfl⟩

/-- The devices under a node. -/
def froN (n : Nat) : Nat := n * 2 ^ levN n - 512
def toN (n : Nat) : Nat := (n + 1) * 2 ^ levN n - 512
theorem under_bd (n : Nat) (h0 : 1 ≤ n) (h1 : n < 1024) : 512 ≤ n * 2 ^ levN n ∧ (n + 1) * 2 ^ levN n ≤ 1024 ∧ levN n ≤ 9 := by
  have h : ∀ n : Fin 1024, 1 ≤ n.val → 512 ≤ n.val * 2 ^ levN n.val ∧ (n.val + 1) * 2 ^ levN n.val ≤ 1024 ∧ levN n.val ≤ 9 := by decide +kernel
  exact h ⟨n, h1⟩ h0

theorem cast_mul_pow (n k : Nat) : ((n * 2 ^ k : Nat) : Int) = (n : Int) * 2 ^ k := by
  rw [Int.natCast_mul, Int.natCast_pow]; rfl
theorem cast_mul_pow1 (n k : Nat) : (((n + 1) * 2 ^ k : Nat) : Int) = ((n : Int) + 1) * 2 ^ k := by
  rw [Int.natCast_mul, Int.natCast_pow]; rfl
theorem wr_sub (A : Nat) (h : 512 ≤ A) (h2 : A ≤ 1024) : wrap64 (wrap64 (A : Int) - 512) = ((A - 512 : Nat) : Int) := by
  have e := wrap64_id (A : Int) (by omega) (by omega)
  rw [e, wrap64_id _ (by omega) (by omega)]; omega

theorem under_e1 (n k : Nat) (hk : levN n = k) (h5 : 512 ≤ n * 2 ^ k) (h7 : n * 2 ^ k ≤ 1024) : wrap64 (wrap64 ((n : Int) * 2 ^ k) - 512) = ((froN n : Nat) : Int) := by
  unfold froN
  rw [← cast_mul_pow, hk]
  exact wr_sub _ h5 h7
theorem under_e2 (n k : Nat) (hk : levN n = k) (h5 : 512 ≤ (n + 1) * 2 ^ k) (h7 : (n + 1) * 2 ^ k ≤ 1024) : wrap64 (wrap64 (((n : Int) + 1) * 2 ^ k) - 512) = ((toN n : Nat) : Int) := by
  unfold toN
  rw [← cast_mul_pow1, hk]
  exact wr_sub _ h5 h7

theorem under_ok (n : Nat) (h0 : 1 ≤ n) (h1 : n < 1024) (w : World) :
    Calls Try.prog 32 #[.int .i64 n] w fun e w' => e = .returned (.tuple #[.int .i64 (froN n), .int .i64 (toN n), .int .i64 0]) ∧ ∃ q, w' = w.drewN q := by
  obtain ⟨hb1, hb2, hb3⟩ := under_bd n h0 h1
  have hb4 : n * 2 ^ levN n ≤ 1024 := by have : n * 2 ^ levN n ≤ (n + 1) * 2 ^ levN n := Nat.mul_le_mul_right _ (by omega); omega
  have HB := Lib.hid (And.intro hb1 (And.intro hb2 hb4))
  clear hb1 hb2 hb4
  go_enter Try.func32, Try.ntmps32
  go_wp2_with fail
  refine (isNode_yes _ (by omega) (by omega) _).mono ?_
  rintro e w' ⟨rfl, rfl⟩
  go_wp2_with fail
  refine (levelm_any n h0 h1 _).mono ?_
  rintro e w' ⟨rfl, rfl⟩
  generalize hk : levN n = k at HB hb3
  have HK := Lib.hid hk
  clear hk
  go_wp2
  go_quiet (fail)
  go_wp2
  go_ret3
  obtain ⟨h5, h6, h7⟩ := HB.out
  have e1 := under_e1 n k HK.out h5 h7
  have e2 := under_e2 n k HK.out (Nat.le_trans h5 (Nat.mul_le_mul_right _ (by omega))) h6
  exact ⟨by rw [← e1, ← e2]; rfl, _, rfl⟩

/-- The common node of two leaves. -/
def comN (x y : Nat) : Nat := x / 2 ^ bitLen (x ^^^ y)
end Go.Proofs.Ytekdekchbnacgaa
