/- Package group: Check; the reference's group: sum, Product, Power, Check. -/
import Derived.Test.YtekdekchbnacgaaKc
namespace Go.Proofs.Ytekdekchbnacgaa
open Go.RowKit
set_option maxRecDepth 100000
set_option linter.unusedVariables false
set_option linter.unusedSimpArgs false

theorem p_odd (c a b m : Nat) (h : b % 2 = 1) : ((c + a) % m + (a + a) % m * (b / 2)) % m = (c + a * b) % m := by
  obtain ⟨q, hq⟩ : ∃ q, b = 2 * q + 1 := ⟨b / 2, by omega⟩
  subst hq
  rw [show (2 * q + 1) / 2 = q by omega, Nat.add_mod, Nat.mod_mod, Nat.mul_mod, Nat.mod_mod, ← Nat.mul_mod, ← Nat.add_mod]
  congr 1
  rw [Nat.mul_add, Nat.mul_one, Nat.add_mul, Nat.two_mul, Nat.mul_add]
  omega
theorem p_even (c a b m : Nat) (h : b % 2 = 0) : (c + (a + a) % m * (b / 2)) % m = (c + a * b) % m := by
  obtain ⟨q, hq⟩ : ∃ q, b = 2 * q := ⟨b / 2, by omega⟩
  subst hq
  rw [show (2 * q) / 2 = q by omega, Nat.add_mod, Nat.mul_mod, Nat.mod_mod, ← Nat.mul_mod, ← Nat.add_mod]
  congr 1
  rw [Nat.add_mul, Nat.two_mul, Nat.mul_add]
theorem w_odd (c a k m : Nat) (h : k % 2 = 1) : (c * a % m) * (a * a % m) ^ (k / 2) % m = c * a ^ k % m := by
  obtain ⟨q, hq⟩ : ∃ q, k = 2 * q + 1 := ⟨k / 2, by omega⟩
  subst hq
  rw [show (2 * q + 1) / 2 = q by omega, Nat.mul_mod, Nat.mod_mod, ← Nat.pow_mod, ← Nat.mul_mod]
  congr 1
  rw [Nat.pow_succ, Nat.pow_mul, Nat.pow_two, Nat.mul_assoc, Nat.mul_comm a]
theorem w_even (c a k m : Nat) (h : k % 2 = 0) : c * (a * a % m) ^ (k / 2) % m = c * a ^ k % m := by
  obtain ⟨q, hq⟩ : ∃ q, k = 2 * q := ⟨k / 2, by omega⟩
  subst hq
  rw [show (2 * q) / 2 = q by omega, Nat.mul_mod, ← Nat.pow_mod, ← Nat.mul_mod, Nat.pow_mul, Nat.pow_two]
/-- The exponent. -/
def QN : Nat := 2305843009213688669
def GrpOk (n : Int) : Prop := 1 ≤ n ∧ n < 4611686018427377339 ∧ n.toNat ^ QN % PN = 1
/-- What Check of the group answers. -/
noncomputable def chkE (n : Int) : Int := by classical exact if GrpOk n then 0 else 40
theorem chkE_yes {n : Int} (h : GrpOk n) : chkE n = 0 := by unfold chkE; rw [if_pos h]
theorem chkE_no {n : Int} (h : ¬ GrpOk n) : chkE n = 40 := by unfold chkE; rw [if_neg h]

theorem power_Q (a : Nat) (ha : a < PN) (w : World) :
    Calls Try.prog 60 #[.int .u64 a, .int .u64 2305843009213688669] w fun e w' => ∃ c : Nat, e = .returned (.int .u64 c) ∧ Hid (c = a ^ QN % PN) ∧ Below w.heap.size w w' := by
  have h := power_ok a QN ha (by unfold QN; decide) w
  rw [show ((QN : Nat) : Int) = 2305843009213688669 from rfl] at h
  exact h
set_option maxHeartbeats 1000000 in
theorem gcheck_ok (n : Int) (w : World) :
    Calls Try.prog 39 #[.int .i64 n] w fun e w' => e = .returned (.int .i64 (chkE n)) ∧ Below w.heap.size w w' := by
  by_cases h1 : n < 1
  · have hd : decide (n < 1) = true := by simp; omega
    have HE := Lib.hid (chkE_no (n := n) (fun h => by unfold GrpOk at h; omega))
    go_enter Try.func39, Try.ntmps39
    go_wp2
    go_ret
    exact ⟨by rw [HE.out]; rfl, Below.refl _ _⟩
  have hd : decide (n < 1) = false := by simp; omega
  by_cases h2 : 4611686018427377339 ≤ n
  · have hd2 : decide (4611686018427377339 ≤ n) = true := by simp; omega
    have HE := Lib.hid (chkE_no (n := n) (fun h => by unfold GrpOk at h; omega))
    go_enter Try.func39, Try.ntmps39
    go_wp2
    go_ret
    exact ⟨by rw [HE.out]; rfl, Below.refl _ _⟩
  have hd2 : decide (4611686018427377339 ≤ n) = false := by simp; omega
  obtain ⟨m, rfl⟩ := Int.eq_ofNat_of_zero_le (show 0 ≤ n by omega)
  have hP := Lib.hid (power_Q m (by rw [PN_eq]; omega))
  have HE : Hid (m ^ QN % PN = 1 → chkE m = 0) := Lib.hid fun h => chkE_yes ⟨by omega, by omega, by rw [Int.toNat_natCast]; exact h⟩
  have HE2 : Hid (m ^ QN % PN ≠ 1 → chkE m = 40) := Lib.hid fun h => chkE_no (fun g => h (by have := g.2.2; rwa [Int.toNat_natCast] at this))
  go_enter Try.func39, Try.ntmps39
  go_wp2_with fail
  refine (hP.out _).mono ?_
  rintro e w1 ⟨c, rfl, HC, hB⟩
  have HB := Lib.hid hB
  clear hB
  by_cases hc : c = 1
  · have h4 : ((c : Int) == 1) = true := by rw [hc]; rfl
    have h5 : ((c : Int) != 1) = false := by rw [hc]; rfl
    have HC1 := Lib.hid hc
    clear hc
    go_wp2
    go_ret
    exact ⟨by rw [HE.out (by rw [← HC.out, HC1.out])]; rfl, HB.out⟩
  · have h4 : ((c : Int) == 1) = false := by simpa using fun h => hc (by omega)
    have h5 : ((c : Int) != 1) = true := by simpa using fun h => hc (by omega)
    have HC1 := Lib.hid hc
    clear hc
    go_wp2
    go_ret
    exact ⟨by rw [HE2.out (by rw [← HC.out]; exact HC1.out)]; rfl, HB.out⟩

theorem sum_ok (a b m : Nat) (ha : a < m) (hb : b < m) (hm : m < 4611686018427387904) (w : World) :
    Calls Try.prog 89 #[.int .i64 a, .int .i64 b, .int .i64 m] w fun e w' => ∃ c : Nat, e = .returned (.int .i64 c) ∧ c < m ∧ Hid (c = (a + b) % m) ∧ w = w' := by
  by_cases h : m ≤ a + b
  · have hd : decide ((m : Int) ≤ (a : Int) + (b : Int)) = true := by simp; omega
    have HR : Hid (a + b - m = (a + b) % m) := Lib.hid (by rw [Nat.mod_eq_sub_mod h, Nat.mod_eq_of_lt (by omega)])
    go_enter Try.func89, Try.ntmps89
    go_wp2
    go_ret
    exact ⟨a + b - m, congrArg (fun z => Ending.returned (.int .i64 z)) (by omega), by omega, HR, rfl⟩
  · have hd : decide ((m : Int) ≤ (a : Int) + (b : Int)) = false := by simp; omega
    have HR : Hid (a + b = (a + b) % m) := Lib.hid (by rw [Nat.mod_eq_of_lt (by omega)])
    go_enter Try.func89, Try.ntmps89
    go_wp2
    go_ret
    exact ⟨a + b, congrArg (fun z => Ending.returned (.int .i64 z)) (by omega), by omega, HR, rfl⟩

set_option maxHeartbeats 1000000 in
theorem product_ok (a b m : Nat) (ha : a < m) (hb : b ≤ 9223372036854775807) (hm : m < 4611686018427387904) (w : World) :
    Calls Try.prog 72 #[.int .i64 a, .int .i64 b, .int .i64 m] w fun e w' => ∃ c : Nat, e = .returned (.int .i64 c) ∧ c < m ∧ Hid (c = a * b % m) ∧ w = w' := by
  go_enter Try.func72, Try.ntmps72
  go_wp2
  go_loop [0, 1, 7] (fun s0 s1 s7 => ∃ a' b' c : Nat, s0 = .int .i64 a' ∧ s1 = .int .i64 b' ∧ s7 = .int .i64 c ∧ a' < m ∧ b' ≤ 9223372036854775807 ∧ c < m ∧ Hid ((c + a' * b') % m = a * b % m)) (fun _ s1 _ => (intOf s1).toNat)
  case atStart => exact ⟨a, b, 0, rfl, rfl, rfl, ha, hb, by omega, Lib.hid (by rw [Nat.zero_add])⟩
  case round =>
    obtain ⟨a', b', c, rfl, rfl, rfl, ha', hb', hc, HI⟩ := hrel
    clear ha hb
    by_cases h0 : 0 < b'
    · have hd : decide ((0 : Int) < (b' : Int)) = true := by simp; omega
      have hd' : decide (0 < b') = true := by simp; omega
      rcases Nat.mod_two_eq_zero_or_one b' with h2 | h2
      · have h3 : ((b' : Int) % 2 == 1) = false := by simp; omega
        have HS2 := Lib.hid (sum_ok a' a' m ha' ha' hm)
        have HQ := Lib.hid (p_even c a' b' m h2)
        clear h2
        go_wp2_with fail
        refine (HS2.out _).mono ?_
        rintro e w' ⟨a2, rfl, ha2, HA2, rfl⟩
        go_wp2
        refine ⟨⟨a2, b' / 2, c, rfl, congrArg (Value.int .i64) (by omega), rfl, ha2, by omega, hc, Lib.hid ?_⟩, by simp only [intOf]; omega⟩
        rw [HA2.out, HQ.out, HI.out]
      · have h3 : ((b' : Int) % 2 == 1) = true := by simp; omega
        have HS1 := Lib.hid (sum_ok c a' m hc ha' hm)
        have HS2 := Lib.hid (sum_ok a' a' m ha' ha' hm)
        have HQ := Lib.hid (p_odd c a' b' m h2)
        clear h2
        go_wp2_with fail
        refine (HS1.out _).mono ?_
        rintro e w' ⟨c2, rfl, hc2, HC2, rfl⟩
        go_wp2_with fail
        refine (HS2.out _).mono ?_
        rintro e w' ⟨a2, rfl, ha2, HA2, rfl⟩
        go_wp2
        refine ⟨⟨a2, b' / 2, c2, rfl, congrArg (Value.int .i64) (by omega), rfl, ha2, by omega, hc2, Lib.hid ?_⟩, by simp only [intOf]; omega⟩
        rw [HC2.out, HA2.out, HQ.out, HI.out]
    · have hd : decide ((0 : Int) < (b' : Int)) = false := by simp; omega
      have hd' : decide (0 < b') = false := by simp; omega
      have hb0 : b' = 0 := by omega
      have HF : Hid (c = a * b % m) := Lib.hid (by have h := HI.out; rw [hb0, Nat.mul_zero, Nat.add_zero, Nat.mod_eq_of_lt hc] at h; exact h)
      clear hb0
      go_wp2
      go_ret
      exact ⟨c, rfl, hc, HF, rfl⟩
theorem product_P (a b : Nat) (ha : a < PN) (hb : b < PN) (w : World) :
    Calls Try.prog 72 #[.int .i64 a, .int .i64 b, .int .i64 4611686018427377339] w fun e w' => ∃ c : Nat, e = .returned (.int .i64 c) ∧ c < PN ∧ Hid (c = a * b % PN) ∧ w = w' := by
  rw [PN_eq] at ha hb
  have h := product_ok a b 4611686018427377339 ha (by omega) (by decide) w
  rw [PN_eq]
  exact h
set_option maxHeartbeats 1000000 in
theorem rpower_ok (a k : Nat) (ha : a < PN) (hk : k ≤ 9223372036854775807) (w : World) :
    Calls Try.prog 61 #[.int .i64 a, .int .i64 k] w fun e w' => ∃ c : Nat, e = .returned (.int .i64 c) ∧ c < PN ∧ Hid (c = a ^ k % PN) ∧ w = w' := by
  have h1P : 1 < PN := by rw [PN_eq]; decide
  go_enter Try.func61, Try.ntmps61
  go_wp2
  go_loop [0, 1, 5] (fun s0 s1 s7 => ∃ a' b' c : Nat, s0 = .int .i64 a' ∧ s1 = .int .i64 b' ∧ s7 = .int .i64 c ∧ a' < PN ∧ b' ≤ 9223372036854775807 ∧ c < PN ∧ Hid (c * a' ^ b' % PN = a ^ k % PN)) (fun _ s1 _ => (intOf s1).toNat)
  case atStart => exact ⟨a, k, 1, rfl, rfl, rfl, ha, hk, h1P, Lib.hid (by rw [Nat.one_mul])⟩
  case round =>
    obtain ⟨a', b', c, rfl, rfl, rfl, ha', hb', hc, HI⟩ := hrel
    have HS2 := Lib.hid (product_P a' a' ha' ha')
    have HS1 := Lib.hid (product_P c a' hc ha')
    have HA' := Lib.hid ha'
    have HC' := Lib.hid hc
    clear ha hk ha' hc h1P
    by_cases h0 : 0 < b'
    · have hd : decide ((0 : Int) < (b' : Int)) = true := by simp; omega
      have hd' : decide (0 < b') = true := by simp; omega
      rcases Nat.mod_two_eq_zero_or_one b' with h2 | h2
      · have h3 : ((b' : Int) % 2 == 1) = false := by simp; omega
        have HQ := Lib.hid (w_even c a' b' PN h2)
        clear h2
        go_wp2_with fail
        refine (HS2.out _).mono ?_
        rintro e w' ⟨a2, rfl, ha2, HA2, rfl⟩
        go_wp2
        refine ⟨⟨a2, b' / 2, c, rfl, congrArg (Value.int .i64) (by omega), rfl, ha2, by omega, HC'.out, Lib.hid ?_⟩, by simp only [intOf]; omega⟩
        rw [HA2.out, HQ.out, HI.out]
      · have h3 : ((b' : Int) % 2 == 1) = true := by simp; omega
        have HQ := Lib.hid (w_odd c a' b' PN h2)
        clear h2
        go_wp2_with fail
        refine (HS1.out _).mono ?_
        rintro e w' ⟨c2, rfl, hc2, HC2, rfl⟩
        have HC2' := Lib.hid hc2
        clear hc2
        go_wp2_with fail
        refine (HS2.out _).mono ?_
        rintro e w' ⟨a2, rfl, ha2, HA2, rfl⟩
        go_wp2
        refine ⟨⟨a2, b' / 2, c2, rfl, congrArg (Value.int .i64) (by omega), rfl, ha2, by omega, HC2'.out, Lib.hid ?_⟩, by simp only [intOf]; omega⟩
        rw [HC2.out, HA2.out, HQ.out, HI.out]
    · have hd : decide ((0 : Int) < (b' : Int)) = false := by simp; omega
      have hd' : decide (0 < b') = false := by simp; omega
      have hb0 : b' = 0 := by omega
      have HF : Hid (c = a ^ k % PN) := Lib.hid (by have h := HI.out; rw [hb0, Nat.pow_zero, Nat.mul_one, Nat.mod_eq_of_lt HC'.out] at h; exact h)
      clear hb0
      go_wp2
      go_ret
      exact ⟨c, rfl, HC'.out, HF, rfl⟩
theorem rpower_Q (a : Nat) (ha : a < PN) (w : World) :
    Calls Try.prog 61 #[.int .i64 a, .int .i64 2305843009213688669] w fun e w' => ∃ c : Nat, e = .returned (.int .i64 c) ∧ c < PN ∧ Hid (c = a ^ QN % PN) ∧ w = w' := by
  have h := rpower_ok a QN ha (by unfold QN; decide) w
  rw [show ((QN : Nat) : Int) = 2305843009213688669 from rfl] at h
  exact h
set_option maxHeartbeats 1000000 in
theorem rgcheck_ok (n : Int) (w : World) :
    Calls Try.prog 40 #[.int .i64 n] w fun e w' => e = .returned (.int .i64 (chkE n)) ∧ w = w' := by
  by_cases h1 : n < 1
  · have hd : decide (n < 1) = true := by simp; omega
    have HE := Lib.hid (chkE_no (n := n) (fun h => by unfold GrpOk at h; omega))
    go_enter Try.func40, Try.ntmps40
    go_wp2
    go_ret
    exact ⟨by rw [HE.out]; rfl, rfl⟩
  have hd : decide (n < 1) = false := by simp; omega
  by_cases h2 : 4611686018427377339 ≤ n
  · have hd2 : decide (4611686018427377339 ≤ n) = true := by simp; omega
    have HE := Lib.hid (chkE_no (n := n) (fun h => by unfold GrpOk at h; omega))
    go_enter Try.func40, Try.ntmps40
    go_wp2
    go_ret
    exact ⟨by rw [HE.out]; rfl, rfl⟩
  have hd2 : decide (4611686018427377339 ≤ n) = false := by simp; omega
  obtain ⟨m, rfl⟩ := Int.eq_ofNat_of_zero_le (show 0 ≤ n by omega)
  have hP := Lib.hid (rpower_Q m (by rw [PN_eq]; omega))
  have HE : Hid (m ^ QN % PN = 1 → chkE m = 0) := Lib.hid fun h => chkE_yes ⟨by omega, by omega, by rw [Int.toNat_natCast]; exact h⟩
  have HE2 : Hid (m ^ QN % PN ≠ 1 → chkE m = 40) := Lib.hid fun h => chkE_no (fun g => h (by have := g.2.2; rwa [Int.toNat_natCast] at this))
  go_enter Try.func40, Try.ntmps40
  go_wp2_with fail
  refine (hP.out _).mono ?_
  rintro e w1 ⟨c, rfl, -, HC, rfl⟩
  by_cases hc : c = 1
  · have h4 : ((c : Int) == 1) = true := by rw [hc]; rfl
    have h5 : ((c : Int) != 1) = false := by rw [hc]; rfl
    have HC1 := Lib.hid hc
    clear hc
    go_wp2
    go_ret
    exact ⟨by rw [HE.out (by rw [← HC.out, HC1.out])]; rfl, rfl⟩
  · have h4 : ((c : Int) == 1) = false := by simpa using fun h => hc (by omega)
    have h5 : ((c : Int) != 1) = true := by simpa using fun h => hc (by omega)
    have HC1 := Lib.hid hc
    clear hc
    go_wp2
    go_ret
    exact ⟨by rw [HE2.out (by rw [← HC.out]; exact HC1.out)]; rfl, rfl⟩
end Go.Proofs.Ytekdekchbnacgaa
