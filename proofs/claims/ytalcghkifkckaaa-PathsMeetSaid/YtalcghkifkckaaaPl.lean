/- The walks of the laws of stage 20, part 5: PathsMeet. -/
import Derived.Test.YtalcghkifkckaaaPj
namespace Go.Proofs.Ytalcghkifkckaaa
open Go.RowKit
set_option maxRecDepth 100000
set_option linter.unusedVariables false

theorem meet_under2 (a b : Nat) (ha : a < 512) (hb : b < 512) (h : a ≠ b) (n : Nat) (hn : n = comN (512 + a) (512 + b)) :
    2 * n + 1 < 1024 ∧ 1 ≤ n ∧ toN (2 * n) = froN (2 * n + 1) ∧ (froN (2 * n) ≤ a ∧ froN (2 * n) ≤ b) ∧ (a < b → a < toN (2 * n) ∧ toN (2 * n) ≤ b ∧ b < toN (2 * n + 1)) ∧ (b < a → b < toN (2 * n) ∧ toN (2 * n) ≤ a ∧ a < toN (2 * n + 1)) := by
  rcases Nat.lt_or_ge a b with h1 | h1
  · have := meet_under a b ha hb h1 n hn
    omega
  · have := meet_under b a hb ha (by omega) n (by rw [hn, com_comm])
    omega

set_option maxHeartbeats 4000000 in
theorem meet_valid (a b : Nat) (ha : a < 512) (hb : b < 512) (hab : a ≠ b) (w : World) :
    Calls Try.prog 8 #[.int .i64 a, .int .i64 b] w fun e w' => e = .returned (.bool true) ∧ Below w.heap.size w w' := by
  have hl1 := lenD_pos a b hab
  have hl2 := lenD_le a b ha hb
  have hat := meet_at a b ha hb hab
  have hpq := meet_path a b
  obtain ⟨c1, c2, c3⟩ := com_lev a b ha hb
  obtain ⟨u1, u2, u3, ⟨u4, u5⟩, u6, u7⟩ := meet_under2 a b ha hb hab _ rfl
  have hC := common_ok a b ha hb
  generalize comN (512 + a) (512 + b) = n at hat c1 c2 c3 u1 u2 u3 u4 u5 u6 u7 hC
  have hV := level_ok n c2 c3
  rw [c1] at hV
  have hU1 := under_okB (2 * n) (by omega) (by omega)
  have hU2 := under_okB (2 * n + 1) (by omega) (by omega)
  rw [← u3] at hU2
  push_cast at hU1 hU2
  generalize froN (2 * n) = F at hU1 u4 u5
  generalize toN (2 * n) = T at hU1 hU2 u3 u6 u7
  generalize toN (2 * n + 1) = R at hU2 u6 u7
  generalize lenD a b = L at hl1 hl2 hat hpq c1 hV
  have HAT := Lib.hid hat
  have HPQ := Lib.hid hpq
  have HV := Lib.hid hV
  have HC := Lib.hid hC
  have HU1 := Lib.hid hU1
  have HU2 := Lib.hid hU2
  have HO := Lib.hid (And.intro u6 u7)
  have hab1 : ((a : Int) == (b : Int)) = false := by simp; omega
  clear hat hpq hV hC hU1 hU2 c1 u3 u6 u7
  go_enter Try.func8, Try.ntmps8
  go_wp2_with fail
  refine (sane_true _).mono ?_
  rintro e w1 ⟨rfl, hB1⟩
  go_wp2_with fail
  refine (path_ok a ha _).mono ?_
  rintro e w2 ⟨v, rfl, hrow, hB2⟩
  obtain ⟨g1, cap1, rfl, -, -, -, -, hcP⟩ := row_nat hrow
  clear hrow
  have HcP := Lib.hid hcP
  clear hcP
  go_wp2_with fail
  refine (path_ok b hb _).mono ?_
  rintro e w3 ⟨v, rfl, hrow, hB3⟩
  obtain ⟨g2, cap2, rfl, -, -, -, -, hcQ⟩ := row_nat hrow
  clear hrow
  have HcQ := Lib.hid hcQ
  clear hcQ
  have HcP3 := Lib.hid (cells_below HcP.out hB3)
  have HB := Lib.hid (Below.then hB1 (Below.then hB2 hB3))
  clear HcP hB1 hB2 hB3
  go_wp2_with fail
  refine (HC.out _).mono ?_
  rintro e w' ⟨rfl, rfl⟩
  go_wp2_with fail
  refine (HV.out _).mono ?_
  rintro e w' ⟨rfl, rfl⟩
  have h1 := HcP3.out (L - 1) (by omega)
  rw [HAT.out] at h1
  go_wp2
  clear h1
  go_loopw [13] (fun i wr => ∃ (j q : Nat), i = .int .i64 j ∧ j ≤ 9 ∧ wr = w3.drewN q) (fun i _ => (9 - intOf i).toNat)
  case atStart => exact ⟨0, 0, rfl, by omega, rfl⟩
  case round =>
    obtain ⟨j, q, rfl, hj, rfl⟩ := hrel
    by_cases hlt : j < 9
    · have f1 := HcP3.out j (by omega)
      have f2 := HcQ.out j (by omega)
      have f3 := HPQ.out j ha hb (by omega)
      generalize (pathN a).getD j 0 = P at f1 f3
      generalize (pathN b).getD j 0 = Q at f2 f3
      by_cases hL : L - 1 ≤ j
      · have e : P = Q := f3.2 hL
        subst e
        have hLd : decide ((L : Int) - 1 ≤ (j : Int)) = true := by simp; omega
        have hLi : (L : Int) - 1 ≤ j := by omega
        clear f3
        go_wp2
        go_quiet (fail)
        go_wp2
        exact ⟨⟨j + 1, _, by go_num, by omega, rfl⟩, by simp [intOf]; omega⟩
      · have e : ((P : Int) == (Q : Int)) = false := by simp; intro h; exact hL (f3.1 (by omega))
        have hLd : decide ((L : Int) - 1 ≤ (j : Int)) = false := by simp; omega
        have hLi : (j : Int) < L - 1 := by omega
        clear f3
        go_wp2
        go_quiet (fail)
        go_wp2
        exact ⟨⟨j + 1, _, by go_num, by omega, rfl⟩, by simp [intOf]; omega⟩
    · have HB3 := Lib.hid (HB.out.trans ((below_drewN' w3 q).mono HB.out.size))
      go_wp2_with fail
      refine (HU1.out _).mono ?_
      rintro e w4 ⟨rfl, hB4⟩
      go_wp2_with fail
      refine (HU2.out _).mono ?_
      rintro e w5 ⟨rfl, hB5⟩
      have HB5 := Lib.hid (HB3.out.trans ((Below.then hB4 hB5).mono HB3.out.size))
      clear hB4 hB5
      have HO := HO.out
      rcases Nat.lt_or_ge a b with h1 | h1
      · obtain ⟨o1, o2, o3⟩ := HO.1 h1
        clear HO
        go_wp2
        go_ret
        exact ⟨ret_bool (by first | rfl | (simp; done) | (simp; omega)), HB5.out⟩
      · obtain ⟨o1, o2, o3⟩ := HO.2 (by omega)
        clear HO
        go_wp2
        go_ret
        exact ⟨ret_bool (by first | rfl | (simp; done) | (simp; omega)), HB5.out⟩

set_option maxHeartbeats 2000000 in
theorem walk_PathsMeet (a : Int) (ha : (Lit.int .i64 a).wf = true) (b : Int) (hb : (Lit.int .i64 b).wf = true) (w : World) :
    Calls Try.prog 8 #[.int .i64 a, .int .i64 b] w fun e w' => e = .returned (.bool true) ∧ Below w.heap.size w w' := by
  clear ha hb
  have h : (okD a ∧ okD b ∧ a ≠ b) ∨ a < 0 ∨ (0 ≤ a ∧ 512 ≤ a) ∨ (0 ≤ a ∧ a < 512 ∧ b < 0) ∨ (0 ≤ a ∧ a < 512 ∧ 0 ≤ b ∧ 512 ≤ b) ∨ (0 ≤ a ∧ a < 512 ∧ 0 ≤ b ∧ b < 512 ∧ a = b) := by
    unfold okD; omega
  rcases h with ⟨h1, h2, h3⟩ | h1 | ⟨h1, h2⟩ | ⟨h1, h2, h3⟩ | ⟨h1, h2, h3, h4⟩ | ⟨h1, h2, h3, h4, rfl⟩
  · obtain ⟨m, rfl⟩ := Int.eq_ofNat_of_zero_le h1.1
    obtain ⟨k, rfl⟩ := Int.eq_ofNat_of_zero_le h2.1
    exact meet_valid m k (by have := h1.2; omega) (by have := h2.2; omega) (by omega) w
  all_goals
    go_enter Try.func8, Try.ntmps8
    go_wp2_with fail
    refine (sane_true _).mono ?_
    rintro e w1 ⟨rfl, hB1⟩
    go_wp2
    go_ret
    exact ⟨rfl, hB1⟩
end Go.Proofs.Ytalcghkifkckaaa
