/- The walks of the laws of stage 20, part 3: PathsChildren. -/
import Derived.Test.YtalcghkifkckaaaPm
import Derived.Deep.QuietTactic
import Derived.BigQuiet
namespace Go.Proofs.Ytalcghkifkckaaa
open Go.RowKit
set_option maxRecDepth 100000
set_option linter.unusedVariables false

theorem ret_bool {b : Bool} (h : b = true) : Ending.returned (.bool b) = .returned (.bool true) := by rw [h]

/-- A row that is read number by number. -/
theorem row_nat {w : World} {base : Nat} {e : TypeId} {v : Value} {n : Nat} {L : List Nat} (h : w.ownsRow base e 1 v (n + 1) (iv L)) :
    ∃ g cap, v = .slice (some ⟨g, 0, none⟩) (n + 1) cap ∧ n + 1 ≤ cap ∧ cap ≤ maxLen ∧ base ≤ g ∧ g < w.heap.size ∧ ∀ j, j < n + 1 → w.cell? ⟨g, j, none⟩ = some (.int .i64 (L.getD j 0 : Nat)) := by
  have hl : L.length = n + 1 := by have := h.1; rw [iv_length] at this; simpa using this
  rcases h.2 with ⟨rfl, h0⟩ | ⟨g, cap, cur, rfl, hb, hg, hn, hm, hs, ht⟩
  · omega
  · refine ⟨g, cap, rfl, hn, hm, hb, (Array.getElem?_eq_some_iff.1 hg).1, fun j hj => ?_⟩
    have := h.cells (g := g) rfl j (.int .i64 (L.getD j 0 : Nat)) (by simp [iv, hl, hj])
    unfold Addr.add at this
    split at this
    · rename_i h0; subst h0; exact this
    · simpa using this

theorem cells_below {w w' : World} {g : Nat} {n : Nat} {f : Nat → Value} (h : ∀ j, j < n → w.cell? ⟨g, j, none⟩ = some (f j)) (hB : Below w.heap.size w w') : ∀ j, j < n → w'.cell? ⟨g, j, none⟩ = some (f j) := by
  intro j hj
  have h1 := h j hj
  rw [hB.cell (p := ⟨g, j, none⟩) (World.block_lt_of_cell? w ⟨g, j, none⟩ h1)]
  exact h1

set_option maxHeartbeats 2000000 in
theorem walk_PathsChildren (d : Int) (hd : (Lit.int .i64 d).wf = true) (k : Int) (hk : (Lit.int .u8 k).wf = true) (w : World) :
    Calls Try.prog 6 #[.int .i64 d, .int .u8 k] w fun e w' => e = .returned (.bool true) ∧ Below w.heap.size w w' := by
  have hkb := bounds_u8 hk
  clear hk hd
  by_cases hok : okD d
  · obtain ⟨m, rfl⟩ := Int.eq_ofNat_of_zero_le hok.1
    have hm : m < 512 := by have := hok.2; omega
    obtain ⟨q, rfl⟩ := Int.eq_ofNat_of_zero_le hkb.1
    have hq : q ≤ 255 := by omega
    clear hok hkb
    have hi9 : q % 9 < 9 := by omega
    obtain ⟨c1, c2, c3, c4⟩ := children m (q % 9) hm hi9
    obtain ⟨b1, b2, b3, b4⟩ := c4 _ rfl
    have p8 : (pathN m).getD 8 0 = 1 := by rw [pathN_get m hm 8 (by omega)]; omega
    have hpre : 0 < q % 9 → (pathN m).getD (q % 9 - 1) 0 = (512 + m) / 2 ^ (q % 9) := fun h => by rw [pathN_get m hm _ (by omega), show q % 9 - 1 + 1 = q % 9 by omega]
    have hpre0 : q % 9 = 0 → (512 + m) / 2 ^ (q % 9) = 512 + m := fun h => by rw [h]; simp
    have HP8 := Lib.hid p8
    clear c4 p8
    have Hbl : (512 + m) / 2 ^ (q % 9) < 1024 := Nat.lt_of_le_of_lt (Nat.div_le_self _ _) (by omega)
    have Hc : (copN m).getD (q % 9) 0 < 1025 := by omega
    generalize hBl : (512 + m) / 2 ^ (q % 9) = Bl at b1 b3 b4 hpre hpre0 Hbl
    have HPJ := Lib.hid (rfl : (pathN m).getD (q % 9) 0 = (pathN m).getD (q % 9) 0)
    generalize hPP : (pathN m).getD (q % 9) 0 = P at c1 c2 c3 b1 b2 b4
    generalize hCC : (copN m).getD (q % 9) 0 = C at b2 b3 b4 Hc
    have e9 : ((q : Int) % 9) = ((q % 9 : Nat) : Int) := by omega
    generalize hj : q % 9 = j at hi9 c1 hpre hpre0 hPP hCC e9
    have HC1 := Lib.hid c1
    have HLV := level_ok P c2 c3
    rw [c1] at HLV
    push_cast at HLV
    have HLV := Lib.hid HLV
    have HE9 := Lib.hid e9
    have HPP := Lib.hid hPP
    have HCC := Lib.hid hCC
    have Hpre := Lib.hid hpre
    have Hpre0 := Lib.hid hpre0
    have f1 : (Bl : Int) / 2 = P := by omega
    have f2 : (C : Int) / 2 = P := by omega
    have f3 : ((Bl : Int) != (C : Int)) = true := by simp; omega
    have f4 : max (Bl : Int) (C : Int) = 2 * P + 1 := by omega
    have F1 := Lib.hid f1
    have F2 := Lib.hid f2
    have F3 := Lib.hid f3
    have F4 := Lib.hid f4
    clear e9 hPP hCC hpre hpre0 c1 b1 b2 b3 b4 f1 f2 f3 f4 hBl hj HPJ
    go_enter Try.func6, Try.ntmps6
    go_wp2_with fail
    refine (sane_true _).mono ?_
    rintro e w1 ⟨rfl, hB1⟩
    go_wp2_with fail
    refine (path_ok m hm _).mono ?_
    rintro e w2 ⟨v, rfl, hrow, hB2⟩
    obtain ⟨g1, cap1, rfl, -, -, -, -, hcP⟩ := row_nat hrow
    clear hrow
    have HcP := Lib.hid hcP
    clear hcP
    go_wp2_with fail
    refine (copath_ok m hm _).mono ?_
    rintro e w3 ⟨v, rfl, hrow, hB3⟩
    obtain ⟨g2, cap2, rfl, -, -, -, -, hcC⟩ := row_nat hrow
    clear hrow
    have HcC := Lib.hid hcC
    clear hcC
    have HcP3 := Lib.hid (cells_below HcP.out hB3)
    have HB := Lib.hid (Below.then hB1 (Below.then hB2 hB3))
    clear HcP hB1 hB2 hB3
    go_wp2_with fail
    refine (leaf_ok m (by omega) (by omega) _).mono ?_
    rintro e w' ⟨rfl, rfl⟩
    have h1 := HcP3.out j (by omega)
    rw [HPP.out] at h1
    have h2 := HcC.out j (by omega)
    rw [HCC.out] at h2
    have h3 := HcP3.out 8 (by omega)
    rw [HP8.out] at h3
    have h4 : 0 < j → w3.cell? ⟨g1, j - 1, none⟩ = some (.int .i64 (Bl : Nat)) := fun h => by have := HcP3.out (j - 1) (by omega); rwa [Hpre.out h] at this
    have H4 := Lib.hid h4
    clear h4
    have f1 := F1.out
    have f2 := F2.out
    have f3 := F3.out
    rcases Nat.eq_zero_or_pos j with hj0 | hj0
    · have hbl := Hpre0.out hj0
      have HLV0 := level_ok P c2 c3
      rw [show levN P = 1 by rw [HC1.out, hj0]] at HLV0
      have e9 : (q : Int) % 9 = 0 := by have := HE9.out; omega
      have g1' : w3.cell? ⟨g1, 0, none⟩ = some (.int .i64 (P : Nat)) := by rw [← hj0]; exact h1
      have g2' : w3.cell? ⟨g2, 0, none⟩ = some (.int .i64 (C : Nat)) := by rw [← hj0]; exact h2
      have G0 : (512 : Int) + m = (Bl : Nat) := by omega
      have HLV0 := Lib.hid HLV0
      clear h1 h2 hbl hj0
      go_wp2_with fail
      refine (HLV0.out _).mono ?_
      rintro e w' ⟨rfl, rfl⟩
      go_wp2
      go_quiet (fail)
      go_wp2
      all_goals
        go_ret
        have f4 := F4.out
        exact ⟨ret_bool (by rw [beq_iff_eq]; omega), HB.out.trans (below_drewN' _ _ |>.mono HB.out.size)⟩
    · have h4 := H4.out hj0
      have e9 := HE9.out
      go_wp2_with fail
      refine (HLV.out _).mono ?_
      rintro e w' ⟨rfl, rfl⟩
      clear h4
      go_wp2
      go_quiet (fail)
      go_wp2
      all_goals
        go_ret
        have f4 := F4.out
        exact ⟨ret_bool (by rw [beq_iff_eq]; omega), HB.out.trans (below_drewN' _ _ |>.mono HB.out.size)⟩
  · have h1 : d < 0 ∨ 512 ≤ d := by unfold okD at hok; omega
    clear hok
    rcases h1 with h1 | h1
    · go_enter Try.func6, Try.ntmps6
      go_wp2_with fail
      refine (sane_true _).mono ?_
      rintro e w1 ⟨rfl, hB1⟩
      go_wp2
      go_ret
      exact ⟨rfl, hB1⟩
    · have h2 : ¬ d < 0 := by omega
      go_enter Try.func6, Try.ntmps6
      go_wp2_with fail
      refine (sane_true _).mono ?_
      rintro e w1 ⟨rfl, hB1⟩
      go_wp2
      go_ret
      exact ⟨rfl, hB1⟩
end Go.Proofs.Ytalcghkifkckaaa
