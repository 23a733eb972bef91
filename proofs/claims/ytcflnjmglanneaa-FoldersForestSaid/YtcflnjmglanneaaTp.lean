/- Folders: the reference's within. -/
import Derived.Test.YtcflnjmglanneaaTo
namespace Go.Proofs.Ytcflnjmglanneaa
open Go.RowKit Go.Maps
set_option maxRecDepth 100000
set_option linter.unusedVariables false
set_option linter.unusedSimpArgs false

set_option maxHeartbeats 2000000 in
theorem rwithin_ok (t : List Pl) (v : Value) (x y : Int) (N : Nat) (w : World) (ht : PlAt w v t) (hl : t.length ≤ 1000000) (hN : (upT t N x).length < N) (hN2 : N ≤ 100000) :
    Calls Try.prog 36 #[v, .int .i64 x, .int .i64 y] w fun e w' => e = .returned (.bool (decide (x = y ∨ y ∈ upT t N x))) ∧ Below w.heap.size w w' := by
  by_cases hxy : x = y
  · rw [decide_eq_true (.inl hxy)]
    have he1 : (x == y) = true := by simpa using hxy
    have he2 : decide (x = y) = true := by simpa using hxy
    clear hxy
    go_enter Try.func36, Try.ntmps36
    go_wp2_with fail
    go_ret
    exact ⟨rfl, Below.refl _ _⟩
  have he1 : (x == y) = false := by simpa using hxy
  have he2 : decide (x = y) = false := by simpa using hxy
  have HXY := Lib.hid hxy
  have HP := Lib.hid (rup_ok t v x N w ht hl hN hN2)
  have hlen : (upT t N x).length ≤ 1000000 := by omega
  obtain ⟨s, hs⟩ : ∃ s, s = upT t N x := ⟨_, rfl⟩
  rw [← hs] at HP hlen ⊢
  clear ht hl hN hN2 hs hxy
  go_enter Try.func36, Try.ntmps36
  go_wp2_with fail
  refine (HP.out).mono ?_
  rintro e w1 ⟨u, rfl, hrow, hB⟩
  obtain ⟨p, c, rfl, hc, hcell⟩ := ints_of_row hrow
  have HC := Lib.hid hcell
  have HB := Lib.hid hB
  obtain ⟨n, hn⟩ : ∃ n, n = s.length := ⟨_, rfl⟩
  have HN := Lib.hid hn
  rw [← hn] at hc hlen ⊢
  clear hcell hn hrow hB HP
  go_wp2_with fail
  go_loopw [8] (fun i wr => ∃ k : Nat, i = .int .i64 k ∧ k ≤ n ∧ Hid (y ∉ s.take k) ∧ wr = w1) (fun i _ => n - (intOf i).toNat)
  case atStart => exact ⟨0, rfl, Nat.zero_le _, Lib.hid (by simp), rfl⟩
  case round =>
    obtain ⟨k, rfl, hk, HE, hwr⟩ := hrel
    rw [hwr]
    clear hwr
    by_cases hkn : k < n
    · have hd : decide ((k : Int) < (n : Int)) = true := by simp; omega
      have hd' : decide (k < n) = true := by simp; omega
      obtain ⟨g, o, rfl, hcs⟩ := HC.out (by rw [← HN.out]; omega)
      obtain ⟨a, c11, -, ht1⟩ := ints_at hcs (by rw [← HN.out]; exact hkn) (Below.refl _ _)
      have HT1 := Lib.hid ht1
      clear hcs ht1
      by_cases hab : a = y
      case neg =>
        have HE2 : Hid (y ∉ s.take (k + 1)) := Lib.hid (by rw [HT1.out]; simp only [List.mem_append, List.mem_singleton, not_or]; exact ⟨HE.out, fun e => hab e.symm⟩)
        have hf1 : (a == y) = false := by simpa using hab
        have hf2 : decide (a = y) = false := by simpa using hab
        clear hab
        go_wp2_with fail
        exact ⟨⟨k + 1, by go_num, by omega, HE2, by trivial⟩, by simp only [intOf]; omega⟩
      have HR : Hid (decide (x = y ∨ y ∈ s) = true) := Lib.hid (decide_eq_true (.inr (by
        have h : y ∈ s.take (k + 1) := by rw [HT1.out, hab]; simp
        exact List.mem_of_mem_take h)))
      subst hab
      go_wp2_with fail
      go_ret
      exact ⟨by rw [HR.out]; rfl, HB.out⟩
    · have hd : decide ((k : Int) < (n : Int)) = false := by simp; omega
      have hd' : decide (k < n) = false := by simp; omega
      obtain rfl : k = n := by omega
      have HR : Hid (decide (x = y ∨ y ∈ s) = false) := Lib.hid (decide_eq_false (by
        have h := HE.out
        rw [List.take_of_length_le (by rw [← HN.out]; exact Nat.le_refl _)] at h
        exact fun k => k.elim HXY.out h))
      go_wp2_with fail
      go_ret
      exact ⟨by rw [HR.out]; rfl, HB.out⟩
end Go.Proofs.Ytcflnjmglanneaa
