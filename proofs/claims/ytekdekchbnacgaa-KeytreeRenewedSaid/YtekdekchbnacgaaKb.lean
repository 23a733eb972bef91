/- Package group: times, digits. -/
import Derived.Test.YtekdekchbnacgaaKa
import Derived.Test.YtekdekchbnacgaaRf
import Derived.Test.YtekdekchbnacgaaRg
import Derived.RangeFuncNested
import Derived.RangeFuncBound
import Derived.RangeFuncCalls
import Derived.RangeFuncLeaves
import Derived.Shelf.Abstract
import Derived.Shelf.RegionOpen
import Derived.WalkKit
import Derived.OwnWalkIn
import Derived.TacticsInMore
import Derived.LoopNIn
import Derived.LoopIn
import Derived.Maps.AppendAt
import Derived.Lib.Hide
import Derived.Deep.AppendLies
namespace Go.Proofs.Ytekdekchbnacgaa
open Go.RowKit Go.Shelf
attribute [local go_sem] Oper.semAt_some
set_option maxRecDepth 100000
set_option linter.unusedVariables false
set_option linter.unusedSimpArgs false

/-- The modulus. -/
def PN : Nat := 4611686018427377339
theorem PN_eq : PN = 4611686018427377339 := rfl

theorem mul64_ex (a b : Nat) (ha : a < PN) (hb : b < PN) (w : World) :
    Calls Try.prog 87 #[.int .u64 a, .int .u64 b] w fun e w' => ∃ hi lo : Nat, e = .returned (.tuple #[.int .u64 hi, .int .u64 lo]) ∧ hi < 4611686018427377339 ∧ lo < 18446744073709551616 ∧ Hid (hi * 18446744073709551616 + lo = a * b) ∧ w = w' := by
  rw [PN_eq] at ha hb
  refine (mul64_any a b (by omega) (by omega) w).mono ?_
  rintro e w' ⟨rfl, rfl⟩
  have h : a * b ≤ 4611686018427377338 * 4611686018427377338 := Nat.mul_le_mul (by omega) (by omega)
  refine ⟨_, _, rfl, ?_, Nat.mod_lt _ (by decide), Lib.hid (by rw [Nat.mul_comm]; exact Nat.div_add_mod _ _), rfl⟩
  generalize a * b = m at h
  omega
theorem div64_ex (hi lo : Nat) (hhi : hi < 4611686018427377339) (hlo : lo < 18446744073709551616) (w : World) :
    Calls Try.prog 88 #[.int .u64 hi, .int .u64 lo, .int .u64 4611686018427377339] w fun e w' =>
      ∃ (q : Int) (r : Nat), e = .returned (.tuple #[.int .u64 q, .int .u64 r]) ∧ Hid (r = (hi * 18446744073709551616 + lo) % PN) ∧ Below w.heap.size w w' := by
  rcases Nat.eq_zero_or_pos hi with rfl | h
  · refine (div64_0 lo hlo w).mono ?_
    rintro e w' ⟨q, rfl, hB⟩
    exact ⟨q, _, rfl, Lib.hid (by rw [Nat.zero_mul, Nat.zero_add, PN_eq]), hB⟩
  · refine (div64_1 hi lo h hhi hlo w).mono ?_
    rintro e w' ⟨q, rfl, hB⟩
    exact ⟨q, _, rfl, Lib.hid (by rw [PN_eq]), hB⟩

theorem times_ok (a b : Nat) (ha : a < PN) (hb : b < PN) (w : World) :
    Calls Try.prog 71 #[.int .u64 a, .int .u64 b] w fun e w' => ∃ c : Nat, e = .returned (.int .u64 c) ∧ Hid (c = a * b % PN) ∧ Below w.heap.size w w' := by
  have hM := Lib.hid (mul64_ex a b ha hb)
  clear ha hb
  go_enter Try.func71, Try.ntmps71
  go_wp2_with fail
  refine (hM.out _).mono ?_
  rintro e w1 ⟨hi, lo, rfl, h1, h2, HE, rfl⟩
  have hD := Lib.hid (div64_ex hi lo h1 h2)
  clear h1 h2
  go_wp2_with fail
  refine (hD.out _).mono ?_
  rintro e w2 ⟨q, r, rfl, HR, hB⟩
  have HB := Lib.hid hB
  clear hB
  go_wp2_with fail
  go_ret
  exact ⟨r, rfl, Lib.hid (by rw [HR.out, HE.out]), HB.out⟩

/-- The bits below the place n, the greatest first; the power by them. -/
def bitsL (k : Nat) : Nat → List Bool
  | 0 => []
  | n + 1 => (k / 2 ^ n % 2 == 1) :: bitsL k n
def pwL (a : Nat) (l : List Bool) : Nat := l.foldl (fun c b => if b = true then c * c % PN * a % PN else c * c % PN) 1
theorem pwL_snoc (a : Nat) (l : List Bool) (b : Bool) : pwL a (l ++ [b]) = if b = true then pwL a l * pwL a l % PN * a % PN else pwL a l * pwL a l % PN := by
  simp [pwL]
theorem pw_fold_lt (a : Nat) : ∀ (l : List Bool) (c : Nat), c < PN → l.foldl (fun c b => if b = true then c * c % PN * a % PN else c * c % PN) c < PN
  | [], c, h => h
  | b :: r, c, h => by
    rw [List.foldl_cons]
    refine pw_fold_lt a r _ ?_
    split <;> exact Nat.mod_lt _ (by rw [PN_eq]; decide)
theorem pwL_lt (a : Nat) (l : List Bool) : pwL a l < PN := pw_fold_lt a l 1 (by rw [PN_eq]; decide)
theorem sq_mod (a m : Nat) : a ^ m % PN * (a ^ m % PN) % PN = a ^ (2 * m) % PN := by
  rw [← Nat.mul_mod, ← Nat.pow_add, Nat.two_mul]
theorem pwL_bits (a k : Nat) : ∀ n (l : List Bool) (m : Nat), pwL a l = a ^ m % PN → pwL a (l ++ bitsL k n) = a ^ (m * 2 ^ n + k % 2 ^ n) % PN
  | 0, l, m, h => by simp [bitsL, Nat.mod_one, h]
  | n + 1, l, m, h => by
    have hk := Nat.mod_pow_succ (b := 2) (k := n) (x := k)
    have e : l ++ bitsL k (n + 1) = (l ++ [(k / 2 ^ n % 2 == 1)]) ++ bitsL k n := by simp [bitsL]
    rw [e]
    rcases Nat.mod_two_eq_zero_or_one (k / 2 ^ n) with h0 | h1
    · rw [pwL_bits a k n _ (2 * m) (by rw [pwL_snoc, h0, h]; simp [← Nat.pow_add, Nat.two_mul])]
      rw [hk, h0, Nat.pow_succ, Nat.mul_zero, Nat.add_zero, Nat.mul_comm 2 m, Nat.mul_assoc, Nat.mul_comm 2]
    · rw [pwL_bits a k n _ (2 * m + 1) (by
        rw [pwL_snoc, h1, h]
        simp only [beq_self_eq_true, if_true, sq_mod]
        rw [Nat.pow_succ, Nat.mul_mod, Nat.mod_mod, ← Nat.mul_mod])]
      rw [hk, h1, Nat.pow_succ, Nat.mul_one, Nat.add_mul, Nat.one_mul]
      congr 2
      rw [Nat.mul_comm 2 m, Nat.mul_assoc, Nat.mul_comm 2]
      omega
theorem pwL_all (a k n : Nat) (hk : k < 2 ^ n) : pwL a (bitsL k n) = a ^ k % PN := by
  have h := pwL_bits a k n [] 0 (by simp [pwL, PN_eq])
  rw [List.nil_append, Nat.zero_mul, Nat.zero_add, Nat.mod_eq_of_lt hk] at h
  exact h

theorem digits_any (k : Int) (w : World) :
    Calls Try.prog 70 #[.int .u64 k] w fun e w' => e = .returned (.func (.func 86) #[] #[.pointer (some ⟨w.heap.size, 0, none⟩)]) ∧ w' = w.alloc (.cells #[.int .u64 k] 82) := by
  go_enter Try.func70, Try.ntmps70
  go_wp2
  go_ret
  exact ⟨rfl, rfl⟩

set_option maxHeartbeats 1000000 in
theorem digits_iter (k n : Nat) (hk : k < 18446744073709551616) (hn : bitLen k = n) (hn64 : n ≤ 64) (b : Nat) (w : World) (hb : Boxed w b 82 (.int .u64 k)) :
    IterC Try.prog 86 #[.pointer (some ⟨b, 0, none⟩)] (fun m : Bool => #[.bool m]) (· = b) 0 (fun xs => xs = bitsL k n) (fun _ => True) (fun _ => True) w := by
  intro l J Jx W hW hJ hJx hY h0
  have hbW : Boxed W b 82 (.int .u64 k) := (hW.block b hb.lt).trans hb
  have hL := Lib.hid (len64_any k (by omega) (by omega))
  rw [Int.toNat_natCast] at hL
  rw [hn] at hL
  have hc := hbW.cell
  refine (callsIn_wide (n := 0)).1 ?_
  refine callsIn_of_wp Try.func86 rfl trivial ?_ rfl
  simp only [Try.ntmps86, List.size_toArray, List.length_cons, List.length_nil, Nat.reduceAdd, Nat.reduceSub, Array.replicate_succ, Array.replicate_zero, List.push_toArray, List.append_toArray, List.nil_append, List.cons_append]
  gi_wp2_with fail
  refine ⟨trivial, rfl, (callsIn_wide.2 (hL.out _)).mono ?_⟩
  rintro e w' ⟨rfl, rfl⟩
  have hN := Lib.hid hn
  clear hn hc
  gi_wp2_with fail
  gi_loopw [3] (fun s wr => W.heap.size ≤ wr.heap.size ∧ ∃ (pre : List Bool) (j : Nat) (i : Int), s = .int .i64 i ∧ -1 ≤ i ∧ i ≤ 63 ∧ Hid (i = (j : Int) - 1) ∧ Hid (pre ++ bitsL k j = bitsL k n) ∧ J pre (· = b) wr ∧ Boxed wr b 82 (.int .u64 k))
    (fun s wr => (intOf s + 1).toNat)
  case atStart =>
    exact ⟨Nat.le_refl _, [], n, _, rfl, by omega, by omega, Lib.hid rfl, Lib.hid rfl, h0, hbW⟩
  case round =>
    obtain ⟨hsz, pre, j, i, rfl, hi1, hi2, HI, HP, hJs, hbx⟩ := hrel
    have hc := hbx.cell
    by_cases h1 : 0 ≤ i
    · obtain ⟨m, rfl⟩ := Int.eq_ofNat_of_zero_le h1
      have hd : decide ((0 : Int) ≤ (m : Int)) = true := by simp
      obtain rfl : j = m + 1 := by have := HI.out; omega
      have hm : m ≤ 63 := by omega
      have hbit : bits .and .u64 ((k : Int) / 2 ^ m) 1 = ((k / 2 ^ m % 2 : Nat) : Int) := by
        have e : (k : Int) / 2 ^ m = ((k / 2 ^ m : Nat) : Int) := by simp
        have h2 := Nat.div_le_self k (2 ^ m)
        rw [e, show (1 : Int) = ((1 : Nat) : Int) from rfl, bits_and_u64_nat _ 1 (by omega) (by decide), Nat.and_one_is_mod]
      have hbe : (bits .and .u64 ((k : Int) / 2 ^ m) 1 == 1) = (k / 2 ^ m % 2 == 1) := by
        rw [hbit]
        rcases Nat.mod_two_eq_zero_or_one (k / 2 ^ m) with h | h <;> rw [h] <;> rfl
      obtain ⟨bb, hbb⟩ : ∃ bb, bb = (k / 2 ^ m % 2 == 1) := ⟨_, rfl⟩
      rw [← hbb] at hbe
      have HBB := Lib.hid hbb
      clear hbit hbb
      obtain ⟨fn, tmps, assign, body, hy, hR⟩ := hY pre bb (· = b) wr hJs (by rintro _ rfl; exact hbx.lt) trivial
      have HJ : Hid (Stable W.heap.size J) := hJ
      clear hJ hY h0 hJx hW h1 hL
      gi_wp2
      refine ⟨rfl, hR.mono ?_⟩
      rintro e W3 (⟨rfl, hJ3, hB3, hk3⟩ | ⟨rfl, hJx3, hB3, hk3⟩)
      · have hb3 : Boxed W3 b 82 (.int .u64 k) := (hk3 b rfl).trans hbx
        have hs3 := hB3.size
        clear hk3 hB3 hR hy
        gi_wp2
        go_roundw
        case rel =>
          refine ⟨Nat.le_trans hsz hs3, pre ++ [bb], m, (m : Int) - 1, rfl, by omega, by omega, Lib.hid rfl, ?_, hJ3, hb3⟩
          exact Lib.hid (by rw [← HP.out, HBB.out]; simp [bitsL])
        case measure => simp only [intOf]; omega
      · gi_wp2
        refine bodyPost_ret (results_none rfl _ _ _) rfl ?_
        exact ⟨⟨_, rfl⟩, .inr ⟨_, _, trivial, hJx3⟩⟩
    · have hd : decide (0 ≤ i) = false := by simp; omega
      have hj0 : j = 0 := by have := HI.out; omega
      clear hY h0 hJ hJx hW hL
      gi_wp2
      refine bodyPost_end (results_none rfl _ _ _) rfl ?_
      have hp := HP.out
      rw [hj0, bitsL, List.append_nil] at hp
      rw [hp] at hJs
      exact ⟨⟨_, rfl⟩, .inl ⟨_, hJs⟩⟩
end Go.Proofs.Ytekdekchbnacgaa
