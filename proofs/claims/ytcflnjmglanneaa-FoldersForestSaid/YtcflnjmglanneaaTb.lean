/- Folders: places; Check of the program and of the reference. -/
import Derived.Test.YtcflnjmglanneaaRows
import Derived.Test.YtcflnjmglanneaaTa
import Derived.WalkKit
import Derived.Below
namespace Go.Proofs.Ytcflnjmglanneaa
open Go.RowKit Go.Maps
set_option maxRecDepth 100000
set_option linter.unusedVariables false
set_option linter.unusedSimpArgs false

/-- A place: time, device, folder, parent, name. -/
structure Pl where
  t : Int
  d : Int
  f : Int
  p : Int
  n : ByteArray
def Pl.cells (x : Pl) : List Value := [.int .i64 x.t, .int .i64 x.d, .int .i64 x.f, .int .i64 x.p, .string x.n]
def Pl.ev (x : Pl) : Value := .agg #[.int .i64 x.t, .int .i64 x.d, .int .i64 x.f, .int .i64 x.p, .string x.n]
def okP (x : Pl) : Prop := (1 ≤ x.t ∧ x.t ≤ 1099511627776) ∧ (0 ≤ x.d ∧ x.d ≤ 511) ∧ (0 ≤ x.f ∧ x.f ≤ 15) ∧ (-1 ≤ x.p ∧ x.p ≤ 15) ∧ (1 ≤ x.n.size ∧ x.n.size ≤ 64)
instance (x : Pl) : Decidable (okP x) := by unfold okP; infer_instance
def chkP (x : Pl) : Int := if okP x then 0 else 270

theorem win_ok (n lo hi : Int) (w : World) :
    Calls Try.prog 32 #[.int .i64 n, .int .i64 lo, .int .i64 hi] w fun e w' => e = .returned (.bool (decide (lo ≤ n ∧ n ≤ hi))) ∧ w = w' := by
  by_cases h1 : lo ≤ n
  · by_cases h2 : n ≤ hi
    · rw [decide_eq_true (show lo ≤ n ∧ n ≤ hi from ⟨h1, h2⟩)]
      have e1 := decide_eq_true h1
      have e2 := decide_eq_true h2
      clear h1 h2
      go_enter Try.func32, Try.ntmps32
      go_wp2_with fail
      go_ret
      exact ⟨rfl, rfl⟩
    · rw [decide_eq_false (show ¬ (lo ≤ n ∧ n ≤ hi) from fun h => h2 h.2)]
      have e1 := decide_eq_true h1
      have e2 := decide_eq_false h2
      clear h1 h2
      go_enter Try.func32, Try.ntmps32
      go_wp2_with fail
      go_ret
      exact ⟨rfl, rfl⟩
  · rw [decide_eq_false (show ¬ (lo ≤ n ∧ n ≤ hi) from fun h => h1 h.1)]
    have e1 := decide_eq_false h1
    clear h1
    go_enter Try.func32, Try.ntmps32
    go_wp2_with fail
    go_ret
    exact ⟨rfl, rfl⟩

set_option maxHeartbeats 2000000 in
theorem fcheck_ok (x : Pl) (w : World) :
    Calls Try.prog 15 #[x.ev] w fun e w' => e = .returned (.int .i64 (chkP x)) ∧ Below w.heap.size w w' := by
  obtain ⟨t, d, f, p, n⟩ := x
  obtain ⟨m, hm⟩ : ∃ m, m = n.size := ⟨_, rfl⟩
  have H1 := Lib.hid (fun W => win_ok t 1 1099511627776 W)
  have H2 := Lib.hid (fun W => win_ok d 0 511 W)
  have H3 := Lib.hid (fun W => win_ok f 0 15 W)
  have H4 := Lib.hid (fun W => win_ok p (-1) 15 W)
  have H5 := Lib.hid (fun W => win_ok (m : Int) 1 64 W)
  have hB : Below w.heap.size w (w.alloc (.cells #[.int .i64 t, .int .i64 d, .int .i64 f, .int .i64 p, .string n] 24)) := (Below.refl _ w).alloc (Nat.le_refl _) _
  have HB := Lib.hid hB
  have hc : chkP ⟨t, d, f, p, n⟩ = if (decide (1 ≤ t ∧ t ≤ 1099511627776) && (decide (0 ≤ d ∧ d ≤ 511) && (decide (0 ≤ f ∧ f ≤ 15) && (decide (-1 ≤ p ∧ p ≤ 15) && decide ((1 : Int) ≤ m ∧ (m : Int) ≤ 64))))) = true then 0 else 270 := by
    unfold chkP okP
    dsimp only
    rw [hm]
    have e : (1 ≤ n.size ∧ n.size ≤ 64) ↔ ((1 : Int) ≤ n.size ∧ (n.size : Int) ≤ 64) := by omega
    simp only [Bool.and_eq_true, decide_eq_true_eq, e]
  rw [hc]
  unfold Pl.ev
  dsimp only
  obtain ⟨b1, hb1⟩ : ∃ b, b = decide (1 ≤ t ∧ t ≤ 1099511627776) := ⟨_, rfl⟩
  obtain ⟨b2, hb2⟩ : ∃ b, b = decide (0 ≤ d ∧ d ≤ 511) := ⟨_, rfl⟩
  obtain ⟨b3, hb3⟩ : ∃ b, b = decide (0 ≤ f ∧ f ≤ 15) := ⟨_, rfl⟩
  obtain ⟨b4, hb4⟩ : ∃ b, b = decide (-1 ≤ p ∧ p ≤ 15) := ⟨_, rfl⟩
  obtain ⟨b5, hb5⟩ : ∃ b, b = decide ((1 : Int) ≤ m ∧ (m : Int) ≤ 64) := ⟨_, rfl⟩
  rw [← hb1, ← hb2, ← hb3, ← hb4, ← hb5]
  rw [← hb1] at H1
  rw [← hb2] at H2
  rw [← hb3] at H3
  rw [← hb4] at H4
  rw [← hb5] at H5
  have hms := hm.symm
  clear hb1 hb2 hb3 hb4 hb5 hc hB hm
  go_enter Try.func15, Try.ntmps15
  go_wp2_with fail
  refine (H1.out _).mono ?_
  rintro e w1 ⟨rfl, rfl⟩
  cases b1 with
  | false =>
    clear H1 H2 H3 H4 H5
    go_wp2_with fail
    go_ret
    exact ⟨rfl, HB.out⟩
  | true =>
    go_wp2_with fail
    refine (H2.out _).mono ?_
    rintro e w1 ⟨rfl, rfl⟩
    cases b2 with
    | false =>
      clear H1 H2 H3 H4 H5
      go_wp2_with fail
      go_ret
      exact ⟨rfl, HB.out⟩
    | true =>
      go_wp2_with fail
      refine (H3.out _).mono ?_
      rintro e w1 ⟨rfl, rfl⟩
      cases b3 with
      | false =>
        clear H1 H2 H3 H4 H5
        go_wp2_with fail
        go_ret
        exact ⟨rfl, HB.out⟩
      | true =>
        go_wp2_with fail
        refine (H4.out _).mono ?_
        rintro e w1 ⟨rfl, rfl⟩
        cases b4 with
        | false =>
          clear H1 H2 H3 H4 H5
          go_wp2_with fail
          go_ret
          exact ⟨rfl, HB.out⟩
        | true =>
          go_wp2_with fail
          refine (H5.out _).mono ?_
          rintro e w1 ⟨rfl, rfl⟩
          cases b5 with
          | false =>
            clear H1 H2 H3 H4 H5
            go_wp2_with fail
            go_ret
            exact ⟨rfl, HB.out⟩
          | true =>
            clear H1 H2 H3 H4 H5
            go_wp2_with fail
            go_ret
            exact ⟨rfl, HB.out⟩

set_option maxHeartbeats 2000000 in
theorem rcheck_ok (x : Pl) (w : World) :
    Calls Try.prog 16 #[x.ev] w fun e w' => e = .returned (.int .i64 (chkP x)) ∧ Below w.heap.size w w' := by
  obtain ⟨t, d, f, p, n⟩ := x
  obtain ⟨m, hm⟩ : ∃ m, m = n.size := ⟨_, rfl⟩
  have hB : Below w.heap.size w (w.alloc (.cells #[.int .i64 t, .int .i64 d, .int .i64 f, .int .i64 p, .string n] 24)) := (Below.refl _ w).alloc (Nat.le_refl _) _
  have HB := Lib.hid hB
  have hms := hm.symm
  have hc : chkP ⟨t, d, f, p, n⟩ = if (1 ≤ t ∧ t ≤ 1099511627776) ∧ (0 ≤ d ∧ d ≤ 511) ∧ (0 ≤ f ∧ f ≤ 15) ∧ (-1 ≤ p ∧ p ≤ 15) ∧ (1 ≤ m ∧ m ≤ 64) then 0 else 270 := by
    unfold chkP okP
    rw [hm]
  rw [hc]
  unfold Pl.ev
  dsimp only
  clear hc hB hm
  by_cases h0 : t < 1
  · rw [if_neg (by omega)]
    have e0 := decide_eq_true h0
    clear h0
    go_enter Try.func16, Try.ntmps16
    go_wp2_with fail
    go_ret
    exact ⟨rfl, HB.out⟩
  by_cases h1 : 1099511627776 < t
  · rw [if_neg (by omega)]
    have e0 := decide_eq_false h0
    have e1 := decide_eq_true h1
    clear h0 h1
    go_enter Try.func16, Try.ntmps16
    go_wp2_with fail
    go_ret
    exact ⟨rfl, HB.out⟩
  by_cases h2 : d < 0
  · rw [if_neg (by omega)]
    have e0 := decide_eq_false h0
    have e1 := decide_eq_false h1
    have e2 := decide_eq_true h2
    clear h0 h1 h2
    go_enter Try.func16, Try.ntmps16
    go_wp2_with fail
    go_ret
    exact ⟨rfl, HB.out⟩
  by_cases h3 : 512 ≤ d
  · rw [if_neg (by omega)]
    have e0 := decide_eq_false h0
    have e1 := decide_eq_false h1
    have e2 := decide_eq_false h2
    have e3 := decide_eq_true h3
    clear h0 h1 h2 h3
    go_enter Try.func16, Try.ntmps16
    go_wp2_with fail
    go_ret
    exact ⟨rfl, HB.out⟩
  by_cases h4 : f < 0
  · rw [if_neg (by omega)]
    have e0 := decide_eq_false h0
    have e1 := decide_eq_false h1
    have e2 := decide_eq_false h2
    have e3 := decide_eq_false h3
    have e4 := decide_eq_true h4
    clear h0 h1 h2 h3 h4
    go_enter Try.func16, Try.ntmps16
    go_wp2_with fail
    go_ret
    exact ⟨rfl, HB.out⟩
  by_cases h5 : 16 ≤ f
  · rw [if_neg (by omega)]
    have e0 := decide_eq_false h0
    have e1 := decide_eq_false h1
    have e2 := decide_eq_false h2
    have e3 := decide_eq_false h3
    have e4 := decide_eq_false h4
    have e5 := decide_eq_true h5
    clear h0 h1 h2 h3 h4 h5
    go_enter Try.func16, Try.ntmps16
    go_wp2_with fail
    go_ret
    exact ⟨rfl, HB.out⟩
  by_cases h6 : p < -1
  · rw [if_neg (by omega)]
    have e0 := decide_eq_false h0
    have e1 := decide_eq_false h1
    have e2 := decide_eq_false h2
    have e3 := decide_eq_false h3
    have e4 := decide_eq_false h4
    have e5 := decide_eq_false h5
    have e6 := decide_eq_true h6
    clear h0 h1 h2 h3 h4 h5 h6
    go_enter Try.func16, Try.ntmps16
    go_wp2_with fail
    go_ret
    exact ⟨rfl, HB.out⟩
  by_cases h7 : 16 ≤ p
  · rw [if_neg (by omega)]
    have e0 := decide_eq_false h0
    have e1 := decide_eq_false h1
    have e2 := decide_eq_false h2
    have e3 := decide_eq_false h3
    have e4 := decide_eq_false h4
    have e5 := decide_eq_false h5
    have e6 := decide_eq_false h6
    have e7 := decide_eq_true h7
    clear h0 h1 h2 h3 h4 h5 h6 h7
    go_enter Try.func16, Try.ntmps16
    go_wp2_with fail
    go_ret
    exact ⟨rfl, HB.out⟩
  by_cases h8 : (m : Int) < 1
  · rw [if_neg (by omega)]
    have e0 := decide_eq_false h0
    have e1 := decide_eq_false h1
    have e2 := decide_eq_false h2
    have e3 := decide_eq_false h3
    have e4 := decide_eq_false h4
    have e5 := decide_eq_false h5
    have e6 := decide_eq_false h6
    have e7 := decide_eq_false h7
    have e8 := decide_eq_true h8
    clear h0 h1 h2 h3 h4 h5 h6 h7 h8
    go_enter Try.func16, Try.ntmps16
    go_wp2_with fail
    go_ret
    exact ⟨rfl, HB.out⟩
  by_cases h9 : (64 : Int) < m
  · rw [if_neg (by omega)]
    have e0 := decide_eq_false h0
    have e1 := decide_eq_false h1
    have e2 := decide_eq_false h2
    have e3 := decide_eq_false h3
    have e4 := decide_eq_false h4
    have e5 := decide_eq_false h5
    have e6 := decide_eq_false h6
    have e7 := decide_eq_false h7
    have e8 := decide_eq_false h8
    have e9 := decide_eq_true h9
    clear h0 h1 h2 h3 h4 h5 h6 h7 h8 h9
    go_enter Try.func16, Try.ntmps16
    go_wp2_with fail
    go_ret
    exact ⟨rfl, HB.out⟩
  rw [if_pos (by omega)]
  have e0 := decide_eq_false h0
  have e1 := decide_eq_false h1
  have e2 := decide_eq_false h2
  have e3 := decide_eq_false h3
  have e4 := decide_eq_false h4
  have e5 := decide_eq_false h5
  have e6 := decide_eq_false h6
  have e7 := decide_eq_false h7
  have e8 := decide_eq_false h8
  have e9 := decide_eq_false h9
  clear h0 h1 h2 h3 h4 h5 h6 h7 h8 h9
  go_enter Try.func16, Try.ntmps16
  go_wp2_with fail
  go_ret
  exact ⟨rfl, HB.out⟩
end Go.Proofs.Ytcflnjmglanneaa
