/- Folders: the reference's SameInts and Has. -/
import Derived.Test.YtcflnjmglanneaaTf
import Derived.LoopTactic
import Derived.Deep.QuietTactic
import Derived.BigQuiet
namespace Go.Proofs.Ytcflnjmglanneaa
open Go.RowKit Go.Maps
set_option maxRecDepth 100000
set_option linter.unusedVariables false
set_option linter.unusedSimpArgs false

theorem take_eq_snoc {α : Type} {s t : List α} {k : Nat} {x y : α} (h : s.take k = t.take k) (hs : s.take (k + 1) = s.take k ++ [x]) (ht : t.take (k + 1) = t.take k ++ [y]) (hxy : x = y) : s.take (k + 1) = t.take (k + 1) := by
  rw [hs, ht, h, hxy]
theorem take_ne_snoc {α : Type} {s t : List α} {k : Nat} {x y : α} (h : s.take k = t.take k) (hs : s.take (k + 1) = s.take k ++ [x]) (ht : t.take (k + 1) = t.take k ++ [y]) (hxy : x ≠ y) : s ≠ t := by
  rintro rfl
  rw [hs] at ht
  exact hxy (by simpa using ht)

set_option maxHeartbeats 1000000 in
theorem sameints_ok (s t : List Int) (u v : Value) (w : World) (hs : IntsAt w u s) (ht : IntsAt w v t) (hls : s.length ≤ 1000000) (hlt : t.length ≤ 1000000) :
    Calls Try.prog 17 #[u, v] w fun e w' => e = .returned (.bool (decide (s = t))) ∧ Below w.heap.size w w' := by
  obtain ⟨p, c, rfl, hc, hcell⟩ := hs
  obtain ⟨p2, c2, rfl, hc2, hcell2⟩ := ht
  have HC := Lib.hid hcell
  have HC2 := Lib.hid hcell2
  obtain ⟨n, hn⟩ : ∃ n, n = s.length := ⟨_, rfl⟩
  obtain ⟨m, hm⟩ : ∃ m, m = t.length := ⟨_, rfl⟩
  have HN := Lib.hid hn
  have HM := Lib.hid hm
  rw [← hn] at hc hls ⊢
  rw [← hm] at hc2 hlt ⊢
  clear hcell hcell2 hn hm
  go_enter Try.func17, Try.ntmps17
  by_cases hnm : n = m
  case neg =>
    have hd1 : ((n : Int) == (m : Int)) = false := by simp; omega
    have hd2 : decide ((n : Int) = (m : Int)) = false := by simp; omega
    have hd3 : decide (n = m) = false := by simpa using hnm
    have HR : Hid (decide (s = t) = false) := Lib.hid (decide_eq_false (fun h => hnm (by rw [HN.out, HM.out, h])))
    clear hnm
    go_wp2_with fail
    go_ret
    exact ⟨by rw [HR.out]; rfl, Below.refl _ _⟩
  subst hnm
  go_wp2_with fail
  go_loopw [5] (fun i wr => ∃ k : Nat, i = .int .i64 k ∧ k ≤ n ∧ Hid (s.take k = t.take k) ∧ Hid (Below w.heap.size w wr)) (fun i _ => n - (intOf i).toNat)
  case atStart => exact ⟨0, rfl, Nat.zero_le _, Lib.hid rfl, Lib.hid (Below.refl _ _)⟩
  case round =>
    obtain ⟨k, rfl, hk, HE, HB⟩ := hrel
    by_cases hkn : k < n
    · have hd : decide ((k : Int) < (n : Int)) = true := by simp; omega
      have hd' : decide (k < n) = true := by simp; omega
      obtain ⟨g, o, rfl, hcs⟩ := HC.out (by rw [← HN.out]; omega)
      obtain ⟨g2, o2, rfl, hcs2⟩ := HC2.out (by rw [← HM.out]; omega)
      obtain ⟨a, c11, -, ht1⟩ := ints_at hcs (by rw [← HN.out]; exact hkn) HB.out
      obtain ⟨b, c21, -, ht2⟩ := ints_at hcs2 (by rw [← HM.out]; exact hkn) HB.out
      have HT1 := Lib.hid ht1
      have HT2 := Lib.hid ht2
      clear hcs hcs2 ht1 ht2
      by_cases hab : a = b
      case neg =>
        have HR : Hid (decide (s = t) = false) := Lib.hid (decide_eq_false (take_ne_snoc HE.out HT1.out HT2.out hab))
        have he1 : (a == b) = false := by simpa using hab
        have he2 : decide (a = b) = false := by simpa using hab
        clear hab
        go_upto_region 6 with fail
        go_quiet (fail)
        go_wp2_with fail
        go_ret
        exact ⟨by rw [HR.out]; rfl, HB.out.trans ⟨rfl, rfl, rfl, Nat.le_refl _, fun _ _ => rfl⟩⟩
      subst hab
      have HE2 := Lib.hid (take_eq_snoc HE.out HT1.out HT2.out rfl)
      go_upto_region 6 with fail
      go_quiet (fail)
      go_wp2_with fail
      exact ⟨⟨k + 1, by go_num, by omega, HE2, Lib.hid (HB.out.trans ⟨rfl, rfl, rfl, Nat.le_refl _, fun _ _ => rfl⟩)⟩, by simp only [intOf]; omega⟩
    · have hd : decide ((k : Int) < (n : Int)) = false := by simp; omega
      have hd' : decide (k < n) = false := by simp; omega
      obtain rfl : k = n := by omega
      have HR : Hid (decide (s = t) = true) := Lib.hid (decide_eq_true (by
        have h := HE.out
        rw [List.take_of_length_le (by rw [← HN.out]; exact Nat.le_refl _), List.take_of_length_le (by rw [← HM.out]; exact Nat.le_refl _)] at h
        exact h))
      go_wp2_with fail
      go_ret
      exact ⟨by rw [HR.out]; rfl, HB.out⟩
set_option maxHeartbeats 1000000 in
theorem has_ok (s : List Int) (u : Value) (x : Int) (w : World) (hs : IntsAt w u s) (hls : s.length ≤ 1000000) :
    Calls Try.prog 24 #[u, .int .i64 x] w fun e w' => e = .returned (.bool (decide (x ∈ s))) ∧ Below w.heap.size w w' := by
  obtain ⟨p, c, rfl, hc, hcell⟩ := hs
  have HC := Lib.hid hcell
  obtain ⟨n, hn⟩ : ∃ n, n = s.length := ⟨_, rfl⟩
  have HN := Lib.hid hn
  rw [← hn] at hc hls ⊢
  clear hcell hn
  go_enter Try.func24, Try.ntmps24
  go_wp2_with fail
  go_loopw [5] (fun i wr => ∃ k : Nat, i = .int .i64 k ∧ k ≤ n ∧ Hid (x ∉ s.take k) ∧ wr = w) (fun i _ => n - (intOf i).toNat)
  case atStart => exact ⟨0, rfl, Nat.zero_le _, Lib.hid (by simp), rfl⟩
  case round =>
    obtain ⟨k, rfl, hk, HE, hwr⟩ := hrel
    rw [hwr]
    clear hwr
    by_cases hkn : k < n
    · have hd : decide ((k : Int) < (n : Int)) = true := by simp; omega
      have hd' : decide (k < n) = true := by simp; omega
      obtain ⟨g, o, rfl, hcs⟩ := HC.out (by rw [← HN.out]; omega)
      obtain ⟨a, c11, -, ht1⟩ := ints_at hcs (by rw [← HN.out]; exact hkn) (Below.refl _ _)
      have HT1 := Lib.hid ht1
      clear hcs ht1
      by_cases hab : a = x
      case neg =>
        have HE2 : Hid (x ∉ s.take (k + 1)) := Lib.hid (by rw [HT1.out]; simp only [List.mem_append, List.mem_singleton, not_or]; exact ⟨HE.out, fun e => hab e.symm⟩)
        have he1 : (a == x) = false := by simpa using hab
        have he2 : decide (a = x) = false := by simpa using hab
        clear hab
        go_wp2_with fail
        exact ⟨⟨k + 1, by go_num, by omega, HE2, by trivial⟩, by simp only [intOf]; omega⟩
      have HR : Hid (decide (x ∈ s) = true) := Lib.hid (decide_eq_true (by
        have h : x ∈ s.take (k + 1) := by rw [HT1.out, hab]; simp
        exact List.mem_of_mem_take h))
      subst hab
      go_wp2_with fail
      go_ret
      exact ⟨by rw [HR.out]; rfl, Below.refl _ _⟩
    · have hd : decide ((k : Int) < (n : Int)) = false := by simp; omega
      have hd' : decide (k < n) = false := by simp; omega
      obtain rfl : k = n := by omega
      have HR : Hid (decide (x ∈ s) = false) := Lib.hid (decide_eq_false (by
        have h := HE.out
        rw [List.take_of_length_le (by rw [← HN.out]; exact Nat.le_refl _)] at h
        exact h))
      go_wp2_with fail
      go_ret
      exact ⟨by rw [HR.out]; rfl, Below.refl _ _⟩
end Go.Proofs.Ytcflnjmglanneaa
