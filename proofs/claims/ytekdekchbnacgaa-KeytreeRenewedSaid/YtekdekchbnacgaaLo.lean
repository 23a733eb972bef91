/- The examples of the chapter, plain. -/
import Derived.Test.YtekdekchbnacgaaLn
namespace Go.Proofs.Ytekdekchbnacgaa
open Go.RowKit
set_option maxRecDepth 100000
set_option linter.unusedVariables false
set_option linter.unusedSimpArgs false

theorem grp4 : GrpOk 4 := by
  refine ⟨by decide, by decide, ?_⟩
  rw [← pwL_all _ QN 62 (by decide)]
  decide +kernel
theorem grp16 : GrpOk 16 := by
  refine ⟨by decide, by decide, ?_⟩
  rw [← pwL_all _ QN 62 (by decide)]
  decide +kernel
theorem undB_dec {d : Int} (h0 : 0 ≤ d) (h1 : d < 512) (x : Int) : undB (512 + d) x = decide (x ∈ (512 + d) :: pathZ d) := by
  by_cases h : x ∈ (512 + d) :: pathZ d
  · rw [decide_eq_true h, undB_yes ((path_und d h0 h1 x).1 h)]
  · rw [decide_eq_false h, undB_no (fun h' => h ((path_und d h0 h1 x).2 h'))]
def withoutC (t : List (Int × Int)) (d : Int) : List (Int × Int) := t.filter fun e => !decide (e.1 ∈ (512 + d) :: pathZ d)
theorem withoutC_eq {d : Int} (h0 : 0 ≤ d) (h1 : d < 512) (t : List (Int × Int)) : withoutL t d = withoutC t d := by
  unfold withoutL withoutC
  refine List.filter_congr fun e _ => ?_
  rw [undB_dec h0 h1]
def renC (b : List (Int × Int)) (d : Int) (l : List Int) : Nat → List (Int × Int)
  | 0 => b
  | k + 1 => withL ((512 + d) / 2 ^ k, l.getD k 0) (renC b d l k)
theorem renC_eq (t : List (Int × Int)) (d : Int) (l : List Int) : ∀ k, renL t d l k = renC (withoutL t d) d l k
  | 0 => rfl
  | k + 1 => by unfold renL renC; rw [renC_eq t d l k]
def strC : List (Int × Int) → Bool
  | [] => true
  | [_] => true
  | x :: y :: r => decide (x.1 < y.1) && strC (y :: r)
theorem strC_head : ∀ {t : List (Int × Int)} {x : Int × Int}, strC (x :: t) = true → ∀ e ∈ t, x.1 < e.1
  | [], x, _, e, he => by cases he
  | y :: r, x, h, e, he => by
    simp only [strC, Bool.and_eq_true, decide_eq_true_eq] at h
    rcases List.mem_cons.1 he with rfl | he
    · exact h.1
    · have := strC_head h.2 e he; omega
theorem strC_str : ∀ {t : List (Int × Int)}, strC t = true → Str t
  | [], _ => List.Pairwise.nil
  | [x], _ => List.pairwise_singleton _ _
  | x :: y :: r, h => by
    refine List.pairwise_cons.2 ⟨strC_head h, strC_str ?_⟩
    simp only [strC, Bool.and_eq_true] at h
    exact h.2
def goodC (t : List (Int × Int)) : Bool :=
  strC t && t.all fun e => decide (1 ≤ e.1) && decide (e.1 ≤ 1023) && (decide (e.2 = 4) || decide (e.2 = 16)) && t.any fun f => decide (512 ≤ f.1) && decide (f.1 ≤ 1023) && decide (e.1 ∈ f.1 :: pathZ (f.1 - 512))
theorem goodC_good {t : List (Int × Int)} (h : goodC t = true) : Good t := by
  unfold goodC at h
  simp only [Bool.and_eq_true, List.all_eq_true, List.any_eq_true, decide_eq_true_eq, Bool.or_eq_true] at h
  refine ⟨strC_str h.1, fun e he => ?_⟩
  obtain ⟨⟨⟨h1, h2⟩, h3⟩, f, hf, ⟨h4, h5⟩, h6⟩ := h.2 e he
  refine ⟨h1, h2, ?_, f, hf, h4, ?_⟩
  · rcases h3 with h3 | h3
    · rw [h3]; exact grp4
    · rw [h3]; exact grp16
  · have := (path_und (f.1 - 512) (by omega) (by omega) e.1).1
    rw [show 512 + (f.1 - 512) = f.1 by omega] at this
    exact this h6
def tenL : List Int := [4, 16, 4, 16, 4, 16, 4, 16, 4, 16]
def exA : List (Int × Int) := [(515, 4)]
def exB : List (Int × Int) := [(513, 16), (515, 4)]
def exC : List (Int × Int) := [(1, 16), (2, 4), (4, 16), (8, 4), (16, 16), (32, 4), (64, 16), (128, 4), (257, 16), (513, 16), (515, 4)]
theorem chk_nil : chkT [] = 0 := good_chk (goodC_good (by decide +kernel))
theorem chk_A : chkT exA = 0 := good_chk (goodC_good (by decide +kernel))
theorem chk_B : chkT exB = 0 := good_chk (goodC_good (by decide +kernel))
theorem chk_C : chkT exC = 0 := good_chk (goodC_good (by decide +kernel))
theorem res_nil : resE [] 1024 = 200 := by unfold resE; rw [if_pos chk_nil, if_pos (by decide)]
theorem res_nil1 : resE [] 1 = 0 ∧ resV [] 1 = [] := by
  have h : resE [] 1 = 0 := by unfold resE; rw [if_pos chk_nil, if_neg (by decide)]
  exact ⟨h, by unfold resV; rw [if_pos h]; decide +kernel⟩
theorem rem_nil : chgE [] 0 true = 200 := by unfold chgE; rw [if_pos chk_nil, if_pos (by decide)]
theorem set_A : setE [] 3 4 = 0 ∧ setL [] 3 4 = exA := by
  have h : setE [] 3 4 = 0 := by
    have : chgE [] 3 false = 0 := by unfold chgE; rw [if_pos chk_nil, if_neg (by decide)]
    unfold setE; rw [if_pos this, if_pos (chkE_yes grp4)]
  refine ⟨h, ?_⟩
  unfold setL
  rw [if_pos h, withoutC_eq (by decide) (by decide)]
  decide +kernel
theorem set_B : setE exA 1 16 = 0 ∧ setL exA 1 16 = exB := by
  have h : setE exA 1 16 = 0 := by
    have : chgE exA 1 false = 0 := by unfold chgE; rw [if_pos chk_A, if_neg (by decide)]
    unfold setE; rw [if_pos this, if_pos (chkE_yes grp16)]
  refine ⟨h, ?_⟩
  unfold setL
  rw [if_pos h, withoutC_eq (by decide) (by decide)]
  decide +kernel
theorem res_B : resE exB 1 = 0 ∧ resV exB 1 = [513, 515] := by
  have h : resE exB 1 = 0 := by unfold resE; rw [if_pos chk_B, if_neg (by decide)]
  exact ⟨h, by unfold resV; rw [if_pos h]; decide +kernel⟩
theorem ten_ok' : AllOk tenL := by
  intro j hj
  have : ∀ j : Fin 10, tenL.getD j.val 0 = 4 ∨ tenL.getD j.val 0 = 16 := by decide
  rcases this ⟨j, hj⟩ with h | h
  · rw [h]; exact chkE_yes grp4
  · rw [h]; exact chkE_yes grp16
theorem ren_C : renE exB 3 tenL = 0 ∧ renR exB 3 tenL = exC := by
  have h : renE exB 3 tenL = 0 := by
    have : chgE exB 3 true = 0 := by unfold chgE; rw [if_pos chk_B, if_neg (by decide)]
    unfold renE; rw [if_pos this, if_pos ⟨rfl, ten_ok'⟩]
  refine ⟨h, ?_⟩
  unfold renR
  rw [if_pos h, renC_eq, withoutC_eq (by decide) (by decide)]
  decide +kernel
theorem res_C : resE exC 1 = 0 ∧ resV exC 1 = [1] := by
  have h : resE exC 1 = 0 := by unfold resE; rw [if_pos chk_C, if_neg (by decide)]
  exact ⟨h, by unfold resV; rw [if_pos h]; decide +kernel⟩
theorem pub_C : ofF exC 515 = some 4 := by decide +kernel
theorem mem_C : memZ exC = [1, 3] := by rw [← memP_all]; decide +kernel
theorem chk_D : chkT [(1, 4)] = 210 := by
  refine chkT_badR (i := 0) (by decide) ?_
  refine .inr (.inr (.inr (.inr ?_)))
  rintro ⟨e, he, h5, -⟩
  rw [List.mem_singleton.1 he] at h5
  exact absurd h5 (by decide)
end Go.Proofs.Ytekdekchbnacgaa
