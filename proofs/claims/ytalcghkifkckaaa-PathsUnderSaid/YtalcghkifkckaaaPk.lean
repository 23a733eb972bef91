/- The walks of the laws of stage 20, part 4: PathsUnder. -/
import Derived.Test.YtalcghkifkckaaaPj
namespace Go.Proofs.Ytalcghkifkckaaa
open Go.RowKit
set_option maxRecDepth 100000
set_option linter.unusedVariables false

theorem pow_wrap (F T L : Nat) (h : L ≤ 9) (h1 : F < T) (h2 : T - F = 2 ^ L) : (T : Int) - F = wrap64 (2 ^ L) := by
  have e : ((2 : Int) ^ L) = ((2 ^ L : Nat) : Int) := by rw [Int.natCast_pow]; rfl
  have hp : 2 ^ L ≤ 2 ^ 9 := Nat.pow_le_pow_right (by decide) h
  rw [e, ← h2, wrap64_id _ (by omega) (by omega)]; omega

theorem onS (q m j : Nat) (b : Bool) (hb : b = true ↔ (512 + m = q ∨ ∃ i, i < j ∧ (pathN m).getD i 0 = q)) :
    ((b || ((((pathN m).getD j 0 : Nat) : Int) == (q : Int))) = true ↔ (512 + m = q ∨ ∃ i, i < j + 1 ∧ (pathN m).getD i 0 = q)) := by
  rw [Bool.or_eq_true, hb, beq_iff_eq]
  constructor
  · rintro ((h | ⟨i, hi, h⟩) | h)
    · exact .inl h
    · exact .inr ⟨i, by omega, h⟩
    · exact .inr ⟨j, by omega, by omega⟩
  · rintro (h | ⟨i, hi, h⟩)
    · exact .inl (.inl h)
    · by_cases e : i = j
      · subst e; exact .inr (by omega)
      · exact .inl (.inr ⟨i, by omega, h⟩)

set_option maxHeartbeats 2000000 in
theorem walk_PathsUnder (n : Int) (hn : (Lit.int .i64 n).wf = true) (d : Int) (hd : (Lit.int .i64 d).wf = true) (w : World) :
    Calls Try.prog 7 #[.int .i64 n, .int .i64 d] w fun e w' => e = .returned (.bool true) ∧ Below w.heap.size w w' := by
  clear hn hd
  by_cases hno : okN n
  · obtain ⟨q, rfl⟩ := Int.eq_ofNat_of_zero_le (by have := hno.1; omega : 0 ≤ n)
    have hq0 : 1 ≤ q := by have := hno.1; omega
    have hq1 : q < 1024 := by have := hno.2; omega
    clear hno
    have hU := under_okB q hq0 hq1
    have hV := level_ok q hq0 hq1
    obtain ⟨r1, r2, r3⟩ := under_range q hq0 hq1
    have r4 := (under_bd q hq0 hq1).2.2
    have hon := on_iff q
    generalize froN q = F at hU r1 r2 r3 hon
    generalize toN q = T at hU r1 r2 r3 hon
    generalize levN q = L at hV r3 r4
    have HU := Lib.hid hU
    have HV := Lib.hid hV
    have HON := Lib.hid hon
    have hsh := pow_wrap F T L r4 r2 r3
    clear hU hV hon r3
    by_cases hok : okD d
    · obtain ⟨m, rfl⟩ := Int.eq_ofNat_of_zero_le hok.1
      have hm : m < 512 := by have := hok.2; omega
      clear hok
      go_enter Try.func7, Try.ntmps7
      go_wp2_with fail
      refine (sane_true _).mono ?_
      rintro e w1 ⟨rfl, hB1⟩
      go_wp2_with fail
      refine (HU.out _).mono ?_
      rintro e w2 ⟨rfl, hB2⟩
      go_wp2_with fail
      refine (HV.out _).mono ?_
      rintro e w' ⟨rfl, rfl⟩
      go_wp2_with fail
      refine (path_ok m hm _).mono ?_
      rintro e w3 ⟨v, rfl, hrow, hB3⟩
      obtain ⟨g1, cap1, rfl, -, -, -, -, hcP⟩ := row_nat hrow
      clear hrow hsh
      have HcP := Lib.hid hcP
      clear hcP
      have HB := Lib.hid (Below.then hB1 (Below.then hB2 hB3))
      clear hB1 hB2 hB3
      go_wp2_with fail
      refine (leaf_ok m (by omega) (by omega) _).mono ?_
      rintro e w' ⟨rfl, rfl⟩
      go_wp2
      go_loop [14, 15] (fun on i => ∃ (b : Bool) (j : Nat), on = .bool b ∧ i = .int .i64 j ∧ j ≤ 9 ∧ Hid (b = true ↔ (512 + m = q ∨ ∃ i, i < j ∧ (pathN m).getD i 0 = q))) (fun _ i => (9 - intOf i).toNat)
      case atStart =>
        refine ⟨_, 0, rfl, rfl, by omega, ?_⟩
        show _ ↔ _
        rw [beq_iff_eq]
        constructor
        · intro h; left; omega
        · rintro (h | ⟨i, hi, _⟩)
          · omega
          · omega
      case round =>
        obtain ⟨b, j, rfl, rfl, hj, HBJ⟩ := hrel
        by_cases hlt : j < 9
        · have h1 := HcP.out j (by omega)
          have HS := Lib.hid (onS q m j b HBJ.out)
          generalize (pathN m).getD j 0 = P at h1 HS
          cases b
          · go_wp2
            go_round
            case rel => exact ⟨_, j + 1, rfl, by go_num, by omega, by simpa [Hid] using HS.out⟩
            case measure => simp [intOf]; omega
          · go_wp2
            go_round
            case rel => exact ⟨true, j + 1, rfl, by go_num, by omega, by simpa [Hid] using HS.out⟩
            case measure => simp [intOf]; omega
        · have e : j = 9 := by omega
          subst e
          have hfin := HBJ.out.trans (HON.out m hq0 hq1 hm)
          by_cases hF : F ≤ m
          · by_cases hT : m < T
            · have hb : b = true := hfin.2 ⟨hF, hT⟩
              subst hb
              clear hfin
              go_wp2
              go_ret
              exact ⟨ret_bool (by first | (simp; done) | (simp; omega)), HB.out⟩
            · have hb : b = false := by cases b with
                | false => rfl
                | true => exact absurd (hfin.1 rfl).2 hT
              subst hb
              clear hfin
              go_wp2
              go_ret
              exact ⟨ret_bool (by first | (simp; done) | (simp; omega)), HB.out⟩
          · have hb : b = false := by cases b with
              | false => rfl
              | true => exact absurd (hfin.1 rfl).1 hF
            subst hb
            clear hfin
            go_wp2
            go_ret
            exact ⟨ret_bool (by simp), HB.out⟩
    · have h1 : d < 0 ∨ 512 ≤ d := by unfold okD at hok; omega
      clear hok
      have HD := Lib.hid h1
      have h2 : (decide (d < 0) || decide (512 ≤ d)) = true := by simp; omega
      have h1 : d < 0 ∨ (¬ d < 0 ∧ 512 ≤ d) := by omega
      rcases h1 with h3 | ⟨h3, h4⟩
      all_goals
          go_enter Try.func7, Try.ntmps7
          go_wp2_with fail
          refine (sane_true _).mono ?_
          rintro e w1 ⟨rfl, hB1⟩
          go_wp2_with fail
          refine (HU.out _).mono ?_
          rintro e w2 ⟨rfl, hB2⟩
          go_wp2_with fail
          refine (HV.out _).mono ?_
          rintro e w' ⟨rfl, rfl⟩
          go_wp2_with fail
          refine (path_no d HD.out _).mono ?_
          rintro e w3 ⟨rfl, hB3⟩
          go_wp2_with fail
          refine (leaf_no d HD.out _).mono ?_
          rintro e w' ⟨rfl, rfl⟩
          have HB := Lib.hid (Below.then hB1 (Below.then hB2 hB3))
          clear hB1 hB2 hB3 hsh
          go_wp2
          go_ret
          exact ⟨ret_bool (by first | (simp; done) | (simp; omega)), HB.out⟩
  · have hno' : n < 1 ∨ 1024 ≤ n := by unfold okN at hno; omega
    clear hno
    rcases hno' with h1 | h1
    · go_enter Try.func7, Try.ntmps7
      go_wp2_with fail
      refine (sane_true _).mono ?_
      rintro e w1 ⟨rfl, hB1⟩
      go_wp2_with fail
      refine (under_no n (.inl h1) _).mono ?_
      rintro e w2 ⟨rfl, rfl⟩
      go_wp2_with fail
      refine (level_no n (.inl h1) _).mono ?_
      rintro e w' ⟨rfl, rfl⟩
      go_wp2
      go_ret
      exact ⟨rfl, hB1⟩
    · have h2 : ¬ n < 1 := by omega
      go_enter Try.func7, Try.ntmps7
      go_wp2_with fail
      refine (sane_true _).mono ?_
      rintro e w1 ⟨rfl, hB1⟩
      go_wp2_with fail
      refine (under_no n (.inr h1) _).mono ?_
      rintro e w2 ⟨rfl, rfl⟩
      go_wp2_with fail
      refine (level_no n (.inr h1) _).mono ?_
      rintro e w' ⟨rfl, rfl⟩
      go_wp2
      go_ret
      exact ⟨rfl, hB1⟩
end Go.Proofs.Ytalcghkifkckaaa
