/- Keytree, plain: changes of different devices can be exchanged. -/
import Derived.Test.YtekdekchbnacgaaLt
namespace Go.Proofs.Ytekdekchbnacgaa
open Go.RowKit
set_option maxRecDepth 100000
set_option linter.unusedVariables false
set_option linter.unusedSimpArgs false

theorem ofF_set {t : List (Int × Int)} {d x : Int} (h0 : 0 ≤ d) (y : Int) : ofF (withL (512 + d, x) (withoutL t d)) y = if y = 512 + d then some x else if undB (512 + d) y = true then none else ofF t y := by
  rw [ofF_with (without_ne (und_self (by omega))), ofF_without]
theorem setE_parts {t : List (Int × Int)} {d x : Int} (h : setE t d x = 0) : chkT t = 0 ∧ 0 ≤ d ∧ d < 512 ∧ GrpOk x ∧ setL t d x = withL (512 + d, x) (withoutL t d) := by
  have hs : setL t d x = withL (512 + d, x) (withoutL t d) := by unfold setL; rw [if_pos h]
  unfold setE at h
  split at h
  · rename_i hc
    split at h
    · rename_i hx
      obtain ⟨a, b, c⟩ := chgE_ok hc
      exact ⟨a, b, c, chkE_grp hx, hs⟩
    · exact absurd h (by decide)
  · rename_i hc; exact absurd h hc
theorem setE_ok {t : List (Int × Int)} {d x : Int} (hg : Good t) (h0 : 0 ≤ d) (h1 : d < 512) (hx : GrpOk x) : setE t d x = 0 := by
  have hc : chgE t d false = 0 := by
    unfold chgE
    rw [if_pos (good_chk hg), if_neg]
    rintro (h | h | ⟨h, -⟩)
    · omega
    · omega
    · cases h
  unfold setE
  rw [if_pos hc, if_pos (chkE_yes hx)]
theorem remE_ok {t : List (Int × Int)} {d x : Int} (hg : Good t) (h0 : 0 ≤ d) (h1 : d < 512) (hx : ofF t (512 + d) = some x) : chgE t d true = 0 ∧ remL t d = withoutL t d := by
  have hc : chgE t d true = 0 := by
    unfold chgE
    rw [if_pos (good_chk hg), if_neg]
    rintro (h | h | ⟨-, h⟩)
    · omega
    · omega
    · rw [hx] at h; cases h
  exact ⟨hc, by unfold remL; rw [if_pos hc]⟩
theorem undB_other {a b : Int} (ha : 0 ≤ a) (ha1 : a < 512) (hb : 0 ≤ b) (hab : a ≠ b) : undB (512 + a) (512 + b) = false := by
  refine undB_no (fun h => hab ?_)
  have := und_leaf ha ha1 (by omega) h
  omega
/-- All that KeytreeExchange needs. -/
theorem exchange {t : List (Int × Int)} {a b p q : Int} (wt : Wf t) (wp : I64 p) (wq : I64 q) (hab : a ≠ b) (e1 : setE t a p = 0) (e2 : setE t b q = 0) :
    ∃ X Y U S, setL t a p = X ∧ setL t b q = Y ∧ Wf X ∧ Wf Y ∧ setE X b q = 0 ∧ setL X b q = U ∧ setE Y a p = 0 ∧ setL Y a p = U ∧ Wf U ∧
      chgE U a true = 0 ∧ chgE X a true = 0 ∧ remL X a = S ∧ Wf S ∧ setE S b q = 0 ∧ setL S b q = remL U a ∧ S.length ≤ t.length := by
  obtain ⟨hc, a0, a1, gp, hX⟩ := setE_parts e1
  obtain ⟨-, b0, b1, gq, hY⟩ := setE_parts e2
  have hg := chk_good hc
  have hwf : ∀ {s : List (Int × Int)} {d x : Int}, Wf s → 0 ≤ d → d < 512 → I64 x → Wf (withL (512 + d, x) (withoutL s d)) := fun hs h0 h1 hx e he => by
    rcases withL_mem he with rfl | he
    · exact ⟨I64.of (by dsimp only; omega), hx⟩
    · exact withoutL_wf hs e he
  have gX : Good (setL t a p) := by rw [hX]; exact good_set hg a0 a1 gp
  have gY : Good (setL t b q) := by rw [hY]; exact good_set hg b0 b1 gq
  have wX : Wf (setL t a p) := by rw [hX]; exact hwf wt a0 a1 wp
  have wY : Wf (setL t b q) := by rw [hY]; exact hwf wt b0 b1 wq
  have eU := setE_ok gX b0 b1 gq
  have eV := setE_ok gY a0 a1 gp
  obtain ⟨-, -, -, -, hU⟩ := setE_parts eU
  obtain ⟨-, -, -, -, hV⟩ := setE_parts eV
  have gU : Good (setL (setL t a p) b q) := by rw [hU]; exact good_set gX b0 b1 gq
  have gV : Good (setL (setL t b q) a p) := by rw [hV]; exact good_set gY a0 a1 gp
  have wU : Wf (setL (setL t a p) b q) := by rw [hU]; exact hwf wX b0 b1 wq
  have wV : Wf (setL (setL t b q) a p) := by rw [hV]; exact hwf wY a0 a1 wp
  have uab := undB_other a0 a1 b0 hab
  have uba := undB_other b0 b1 a0 (fun h => hab h.symm)
  have fX : ∀ y, ofF (setL t a p) y = if y = 512 + a then some p else if undB (512 + a) y = true then none else ofF t y := fun y => by rw [hX]; exact ofF_set a0 y
  have fY : ∀ y, ofF (setL t b q) y = if y = 512 + b then some q else if undB (512 + b) y = true then none else ofF t y := fun y => by rw [hY]; exact ofF_set b0 y
  have fU : ∀ y, ofF (setL (setL t a p) b q) y = if y = 512 + b then some q else if undB (512 + b) y = true then none else ofF (setL t a p) y := fun y => by rw [hU]; exact ofF_set b0 y
  have fV : ∀ y, ofF (setL (setL t b q) a p) y = if y = 512 + a then some p else if undB (512 + a) y = true then none else ofF (setL t b q) y := fun y => by rw [hV]; exact ofF_set a0 y
  have hUV : setL (setL t b q) a p = setL (setL t a p) b q := str_ext gV.1 gU.1 wV wU (fun y _ => by
    rw [fU, fV, fX, fY]
    by_cases h1 : y = 512 + a
    · have h2 : ¬ 512 + a = 512 + b := by omega
      subst h1; simp [h2, uba]
    · by_cases h2 : y = 512 + b
      · subst h2; simp [uab, h1]
      · simp only [h1, h2, if_false]
        by_cases h3 : undB (512 + a) y = true <;> by_cases h4 : undB (512 + b) y = true <;> simp [h3, h4])
  have uaa : undB (512 + a) (512 + a) = true := undB_yes (und_self (by omega))
  have rU : ofF (setL (setL t a p) b q) (512 + a) = some p := by
    rw [fU, fX, if_neg (by omega), if_neg (by rw [uba]; decide), if_pos rfl]
  have rX : ofF (setL t a p) (512 + a) = some p := by rw [fX, if_pos rfl]
  obtain ⟨cU, lU⟩ := remE_ok gU a0 a1 rU
  obtain ⟨cX, lX⟩ := remE_ok gX a0 a1 rX
  have gS : Good (remL (setL t a p) a) := by rw [lX]; exact good_without gX a0 a1
  have wS : Wf (remL (setL t a p) a) := by rw [lX]; exact withoutL_wf wX
  have eW := setE_ok gS b0 b1 gq
  obtain ⟨-, -, -, -, hW⟩ := setE_parts eW
  have hS : remL (setL t a p) a = withoutL t a := str_ext gS.1 (str_without hg.1 a) wS (withoutL_wf wt) (fun y _ => by
    rw [lX, ofF_without, ofF_without, fX]
    by_cases h3 : undB (512 + a) y = true
    · rw [if_pos h3, if_pos h3]
    · rw [if_neg h3, if_neg h3, if_neg (fun h => h3 (by rw [h]; exact uaa))]
      try rw [if_neg h3])
  refine ⟨_, _, _, _, rfl, rfl, wX, wY, eU, rfl, eV, hUV, wU, cU, cX, rfl, wS, eW, ?_, ?_⟩
  · refine str_ext ?_ ?_ ?_ ?_ (fun y _ => ?_)
    · rw [hW]; exact (good_set gS b0 b1 gq).1
    · rw [lU]; exact (good_without gU a0 a1).1
    · rw [hW]; exact hwf wS b0 b1 wq
    · rw [lU]; exact withoutL_wf wU
    · rw [hW, ofF_set b0, lU, ofF_without, fU, lX, ofF_without]
      by_cases h3 : undB (512 + a) y = true
      · have h2 : ¬ y = 512 + b := fun h => by rw [h, uab] at h3; cases h3
        simp [h3, h2]
      · simp [h3]
  · rw [hS]; exact withoutL_length t a
end Go.Proofs.Ytekdekchbnacgaa
