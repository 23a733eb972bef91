/- The walks of the laws of stage 20, part 2: PathsSame, PathsChildren. -/
import Derived.Test.YtalcghkifkckaaaPm
namespace Go.Proofs.Ytalcghkifkckaaa
open Go.RowKit
set_option maxRecDepth 100000
set_option linter.unusedVariables false

theorem same_math (a b n : Nat) (ha : a < 512) (hb : b < 512) (h0 : 1 ≤ n) (h1 : n < 1024) (h2 : froN n ≤ a) (h3 : a < toN n) (h4 : froN n ≤ b) (h5 : b < toN n) : lenD a b ≤ levN n := by
  have e1 := (under_iff n a h0 h1).1 ⟨h2, h3⟩
  have e2 := (under_iff n b h0 h1).1 ⟨h4, h5⟩
  exact (half_eq _ _ _).1 (by omega)

set_option maxHeartbeats 2000000 in
theorem walk_PathsSame (a : Int) (ha : (Lit.int .i64 a).wf = true) (b : Int) (hb : (Lit.int .i64 b).wf = true) (node : Int) (hn : (Lit.int .i64 node).wf = true) (w : World) :
    Calls Try.prog 9 #[.int .i64 a, .int .i64 b, .int .i64 node] w fun e w' => e = .returned (.bool true) ∧ Below w.heap.size w w' := by
  by_cases hok : okD a ∧ okD b
  · obtain ⟨m, rfl⟩ := Int.eq_ofNat_of_zero_le hok.1.1
    obtain ⟨k, rfl⟩ := Int.eq_ofNat_of_zero_le hok.2.1
    have hm : m < 512 := by have := hok.1.2; omega
    have hk : k < 512 := by have := hok.2.2; omega
    clear hok ha hb
    obtain ⟨hl1, hl2, hl3⟩ := com_lev m k hm hk
    have hcc := com_comm m k
    have hcs : m = k → comN (512 + m) (512 + k) = 512 + m := fun e => by rw [← e]; exact com_self m
    have Hc1 := (common_ok m k hm hk)
    have Hc2 := (common_ok k m hk hm)
    rw [← hcc] at Hc2
    generalize comN (512 + m) (512 + k) = n at hl1 hl2 hl3 hcs Hc1 Hc2
    have HCS := Lib.hid hcs
    have HL1 := Lib.hid hl1
    have HC1 := Lib.hid Hc1
    have HC2 := Lib.hid Hc2
    clear hcs hl1 Hc1 Hc2 hcc
    have HLF := leaf_ok m (by omega) (by omega)
    have HLV := level_ok n hl2 hl3
    rw [HL1.out] at HLV
    have HLF' := Lib.hid HLF
    have HLV' := Lib.hid HLV
    clear HLF HLV
    have hb1 : ((m : Int) == (k : Int) && ((n : Int) != 512 + (m : Int))) = false := by
      by_cases e : m = k
      · have := HCS.out e; subst e; simp; omega
      · simp; intro h; omega
    have hb2 : (m : Int) = k → ((n : Int) != 512 + (m : Int)) = false := fun e => by simpa [e] using hb1
    have HB2 := Lib.hid hb2
    clear hb1 hb2
    go_enter Try.func9, Try.ntmps9
    go_wp2_with fail
    refine (sane_true _).mono ?_
    rintro e w1 ⟨rfl, hB1⟩
    go_wp2_with fail
    refine (HC1.out _).mono ?_
    rintro e w' ⟨rfl, rfl⟩
    go_wp2_with fail
    refine (HC2.out _).mono ?_
    rintro e w' ⟨rfl, rfl⟩
    go_wp2_with fail
    refine (HLF'.out _).mono ?_
    rintro e w' ⟨rfl, rfl⟩
    go_wp2_with fail
    refine (HLV'.out _).mono ?_
    rintro e w' ⟨rfl, rfl⟩
    have hcase : ((m : Int) == (k : Int)) = true ∧ (((n : Int) == 512 + (m : Int)) = true ∧ ((n : Int) != 512 + (m : Int)) = false) ∨ ((m : Int) == (k : Int)) = false := by
      by_cases hmk : m = k
      · left; have := HB2.out (by omega); exact ⟨by simp; omega, by simpa using this, this⟩
      · right; simp; omega
    have hnode : okN node ∨ ¬ okN node := Classical.em _
    rcases hcase with ⟨g1, g2, g3⟩ | g1
    all_goals
      rcases hnode with hno | hno
      · obtain ⟨q, rfl⟩ := Int.eq_ofNat_of_zero_le (by have := hno.1; omega : 0 ≤ node)
        have hq0 : 1 ≤ q := by have := hno.1; omega
        have hq1 : q < 1024 := by have := hno.2; omega
        have HM := Lib.hid (same_math m k q hm hk hq0 hq1)
        clear hno
        go_wp2_with fail
        refine (under_okB q hq0 hq1 _).mono ?_
        rintro e w2 ⟨rfl, hB2⟩
        go_wp2_with fail
        refine (level_ok q hq0 hq1 _).mono ?_
        rintro e w' ⟨rfl, rfl⟩
        have HB := Lib.hid (Below.then hB1 hB2)
        clear hB1 hB2
        go_wp2
        all_goals go_ret
        all_goals first
          | exact ⟨rfl, HB.out⟩
          | (refine ⟨?_, HB.out⟩
             have := HM.out
             have h : lenD m k ≤ levN q := HM.out (by omega) (by omega) (by omega) (by omega)
             simp [h])
      · have hno' : node < 1 ∨ 1024 ≤ node := by unfold okN at hno; omega
        clear hno
        go_wp2_with fail
        refine (under_no node hno' _).mono ?_
        rintro e w2 ⟨rfl, rfl⟩
        go_wp2_with fail
        refine (level_no node hno' _).mono ?_
        rintro e w' ⟨rfl, rfl⟩
        go_wp2
        go_ret
        exact ⟨rfl, hB1⟩
  · have h1 : a < 0 ∨ 512 ≤ a ∨ b < 0 ∨ 512 ≤ b := by unfold okD at hok; omega
    have h2 : b < 0 ∨ 512 ≤ b ∨ a < 0 ∨ 512 ≤ a := by omega
    clear hok
    go_enter Try.func9, Try.ntmps9
    go_wp2_with fail
    refine (sane_true _).mono ?_
    rintro e w1 ⟨rfl, hB1⟩
    go_wp2_with fail
    refine (common_no a b h1 _).mono ?_
    rintro e w' ⟨rfl, rfl⟩
    go_wp2_with fail
    refine (common_no b a h2 _).mono ?_
    rintro e w' ⟨rfl, rfl⟩
    go_wp2
    go_ret
    exact ⟨rfl, hB1⟩
end Go.Proofs.Ytalcghkifkckaaa
