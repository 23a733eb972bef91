/- Package keytree: is there a key that is none? -/
import Derived.Test.YtekdekchbnacgaaKx
namespace Go.Proofs.Ytekdekchbnacgaa
open Go.RowKit
set_option maxRecDepth 100000
set_option linter.unusedVariables false
set_option linter.unusedSimpArgs false

/-- A slice of ints, as it lies. -/
def IntsAt (w : World) (v : Value) (l : List Int) : Prop :=
  ∃ p c, v = .slice p l.length c ∧ l.length ≤ c ∧ (0 < l.length → ∃ g o, p = some ⟨g, o, none⟩ ∧ ∀ j, j < l.length → w.cell? ⟨g, o + j, none⟩ = some (.int .i64 (l.getD j 0)))

theorem renew1_ok (x : Int) (w : World) : Calls Try.prog 51 #[.int .i64 x] w fun e w' => e = .returned (.bool (decide (chkE x ≠ 0))) ∧ Below w.heap.size w w' := by
  go_enter Try.func51, Try.ntmps51
  go_wp2_with fail
  refine (gcheck_ok x w).mono ?_
  rintro e w1 ⟨rfl, hB1⟩
  have HB1 := Lib.hid hB1
  clear hB1
  obtain ⟨ck, hck⟩ : ∃ ck, ck = chkE x := ⟨_, rfl⟩
  rw [← hck]
  have HCK := Lib.hid hck
  clear hck
  by_cases h : ck = 0
  · subst h
    go_wp2_with fail
    go_ret
    exact ⟨by rw [← HCK.out]; rfl, HB1.out⟩
  · have hd : decide (ck = 0) = false := by simp; omega
    have HH := Lib.hid h
    clear h
    go_wp2_with fail
    go_ret
    exact ⟨by rw [← HCK.out]; simp [HH.out, bne], HB1.out⟩

/-- No key of l is none. -/
def AllOk (l : List Int) : Prop := ∀ j, j < l.length → chkE (l.getD j 0) = 0

set_option maxHeartbeats 1000000 in
theorem indexFunc_ok (l : List Int) (v : Value) (w : World) (h : IntsAt w v l) (hl : l.length ≤ 1000000) :
    Calls Try.prog 67 #[v, .func (.func 51) #[] #[]] w fun e w' => ∃ r, e = .returned (.int .i64 r) ∧ Hid ((AllOk l → r = -1) ∧ (¬ AllOk l → 0 ≤ r)) ∧ Below w.heap.size w w' := by
  obtain ⟨p, c, rfl, hc, hcs⟩ := h
  have HC := Lib.hid hcs
  obtain ⟨n, hn⟩ : ∃ n, n = l.length := ⟨_, rfl⟩
  have HN := Lib.hid hn
  rw [← hn] at hl hc ⊢
  clear hcs hn
  go_enter Try.func67, Try.ntmps67
  go_wp2_with fail
  go_loopw [8] (fun i wr => ∃ k : Nat, i = .int .i64 k ∧ k ≤ n ∧ Hid (∀ j, j < k → chkE (l.getD j 0) = 0) ∧ Hid (Below w.heap.size w wr)) (fun i _ => n - (intOf i).toNat)
  case atStart => exact ⟨0, rfl, Nat.zero_le _, Lib.hid (fun _ h => absurd h (by omega)), Lib.hid (Below.refl _ _)⟩
  case round =>
    obtain ⟨k, rfl, hk, HG, HB⟩ := hrel
    by_cases hlt : k < n
    · have hd : decide ((k : Int) < (n : Int)) = true := by simp; omega
      have hd' : decide (k < n) = true := by simp; omega
      obtain ⟨g, o, rfl, hcs⟩ := HC.out (by rw [← HN.out]; omega)
      have c0 := hcs k (by rw [← HN.out]; exact hlt)
      have c1 : wr.cell? ⟨g, o + k, none⟩ = some (.int .i64 (l.getD k 0)) := cellOld c0 (HB.out.block g (cellLt c0))
      obtain ⟨x, hx⟩ : ∃ x, x = l.getD k 0 := ⟨_, rfl⟩
      rw [← hx] at c1
      have HX := Lib.hid hx
      clear hcs c0 hx
      go_wp2_with fail
      refine (renew1_ok x wr).mono ?_
      rintro e w1 ⟨rfl, hB1⟩
      have HB1 := Lib.hid (HB.out.trans (hB1.mono HB.out.size))
      clear hB1
      by_cases h0 : chkE x = 0
      · have hd0 : decide (chkE x ≠ 0) = false := by simp [h0]
        rw [hd0]
        have H0 := Lib.hid h0
        clear hd0 h0
        go_wp2_with fail
        refine ⟨⟨k + 1, by go_num, by omega, Lib.hid (fun j hj => ?_), HB1⟩, by simp only [intOf]; omega⟩
        rcases Nat.lt_or_ge j k with h1 | h1
        · exact HG.out j h1
        · obtain rfl : j = k := by omega
          rw [← HX.out]; exact H0.out
      · have hd0 : decide (chkE x ≠ 0) = true := by simp [h0]
        rw [hd0]
        have H0 := Lib.hid h0
        clear hd0 h0
        go_wp2_with fail
        go_ret
        exact ⟨_, rfl, Lib.hid ⟨fun h => absurd (by rw [HX.out]; exact h k (by rw [← HN.out]; exact hlt)) H0.out, fun _ => by omega⟩, HB1.out⟩
    · have hd : decide ((k : Int) < (n : Int)) = false := by simp; omega
      have hd' : decide (k < n) = false := by simp; omega
      obtain rfl : k = n := by omega
      go_wp2_with fail
      go_ret
      exact ⟨_, rfl, Lib.hid ⟨fun _ => rfl, fun h => absurd (fun j hj => HG.out j (by rw [HN.out]; exact hj)) h⟩, HB.out⟩
end Go.Proofs.Ytekdekchbnacgaa
