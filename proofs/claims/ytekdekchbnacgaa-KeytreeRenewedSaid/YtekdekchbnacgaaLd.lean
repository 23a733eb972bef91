/- The reference: Under. -/
import Derived.Test.YtekdekchbnacgaaKe
namespace Go.Proofs.Ytekdekchbnacgaa
open Go.RowKit
set_option maxRecDepth 100000
set_option linter.unusedVariables false
set_option linter.unusedSimpArgs false

/-- Node n is node a, or under it. -/
def Und (n a : Int) : Prop := 1 ≤ a ∧ ∃ j : Nat, n / 2 ^ j = a
noncomputable def undB (n a : Int) : Bool := by classical exact decide (Und n a)
theorem undB_yes {n a : Int} (h : Und n a) : undB n a = true := by unfold undB; simpa using h
theorem undB_no {n a : Int} (h : ¬ Und n a) : undB n a = false := by unfold undB; simpa using h
theorem undB_iff (n a : Int) : undB n a = true ↔ Und n a := by unfold undB; simp
theorem und_self {n : Int} (h : 1 ≤ n) : Und n n := ⟨h, 0, by simp⟩
theorem und_low {n a : Int} (h : n < 1) : ¬ Und n a := by
  rintro ⟨h1, j, h2⟩
  have hp : (0 : Int) < 2 ^ j := by exact_mod_cast Nat.two_pow_pos j
  have h0 : n / 2 ^ j ≤ 0 := by
    rcases Int.lt_or_le n 0 with h | h
    · exact Int.le_of_lt (Int.ediv_neg_of_neg_of_pos h hp)
    · rw [show n = 0 by omega, Int.zero_ediv]; exact Int.le_refl _
  omega
theorem und_step {n a : Int} (h : n ≠ a) : Und n a ↔ Und (n / 2) a := by
  have e : ∀ j : Nat, n / 2 ^ (j + 1) = n / 2 / 2 ^ j := fun j => by
    rw [Int.pow_succ, Int.mul_comm, ← Int.ediv_ediv_of_nonneg (by decide)]
  constructor
  · rintro ⟨h1, j, h2⟩
    refine ⟨h1, ?_⟩
    cases j with
    | zero => exact absurd (by simpa using h2) h
    | succ j => exact ⟨j, by rw [← e]; exact h2⟩
  · rintro ⟨h1, j, h2⟩
    exact ⟨h1, j + 1, by rw [e]; exact h2⟩

set_option maxHeartbeats 1000000 in
theorem runder_ok (n a : Int) (hn : I64 n) (w : World) :
    Calls Try.prog 41 #[.int .i64 n, .int .i64 a] w fun e w' => e = .returned (.bool (undB n a)) ∧ w = w' := by
  have hn1 : n ≤ 9223372036854775807 := by
    have h := hn
    simp [I64, Lit.wf, IntKind.min, IntKind.max, IntKind.signed, IntKind.bits] at h
    omega
  clear hn
  go_enter Try.func41, Try.ntmps41
  go_wp2
  go_loop [5] (fun s => ∃ m : Int, s = .int .i64 m ∧ m ≤ 9223372036854775807 ∧ Hid (undB m a = undB n a)) (fun s => (intOf s).toNat)
  case atStart => exact ⟨n, rfl, hn1, Lib.hid rfl⟩
  case round =>
    obtain ⟨m, rfl, hm, HI⟩ := hrel
    clear hn1
    by_cases h0 : 1 ≤ m
    · have hd : decide ((1 : Int) ≤ m) = true := by simp; omega
      by_cases h1 : m = a
      · have hd1 : (m == a) = true := by simp; omega
        have hd2 : decide (m = a) = true := by simp; omega
        have HR : Hid (undB n a = true) := Lib.hid (by rw [← HI.out]; exact undB_yes (by rw [h1]; exact und_self (by omega)))
        clear h1
        go_wp2
        go_ret
        exact ⟨by rw [HR.out]; rfl, rfl⟩
      · have hd1 : (m == a) = false := by simp; omega
        have hd2 : decide (m = a) = false := by simp; omega
        have HR : Hid (undB (m / 2) a = undB n a) := Lib.hid (by
          rw [← HI.out]
          have h := und_step (n := m) (a := a) h1
          cases hb : undB m a with
          | true => exact undB_yes (h.1 ((undB_iff _ _).1 hb))
          | false => exact undB_no (fun hx => by have := undB_yes (h.2 hx); rw [hb] at this; cases this))
        clear h1
        obtain ⟨k, rfl⟩ := Int.eq_ofNat_of_zero_le (show 0 ≤ m by omega)
        go_wp2
        refine ⟨⟨(k : Int) / 2, congrArg (Value.int .i64) (by omega), by omega, HR⟩, by simp only [intOf]; omega⟩
    · have hd : decide ((1 : Int) ≤ m) = false := by simp; omega
      have HR : Hid (undB n a = false) := Lib.hid (by rw [← HI.out]; exact undB_no (und_low (by omega)))
      clear h0
      go_wp2
      go_ret
      exact ⟨by rw [HR.out]; rfl, rfl⟩
end Go.Proofs.Ytekdekchbnacgaa
