/- The reference: device, Same, SameInts, Few. -/
import Derived.Test.YtekdekchbnacgaaLf
import Derived.Test.YtekdekchbnacgaaKy
import Derived.BigQuiet
namespace Go.Proofs.Ytekdekchbnacgaa
open Go.RowKit
set_option maxRecDepth 100000
set_option linter.unusedVariables false
set_option linter.unusedSimpArgs false

theorem device_ok (d : Int) (w : World) :
    Calls Try.prog 47 #[.int .i64 d] w fun e w' => e = .returned (.bool (decide (0 ≤ d ∧ d < 512))) ∧ w' = w := by
  by_cases h0 : 0 ≤ d
  · have hd : decide (0 ≤ d) = true := by simp; omega
    by_cases h1 : d < 512
    · have hd1 : decide (d < 512) = true := by simp; omega
      have HR := Lib.hid (decide_eq_true (p := 0 ≤ d ∧ d < 512) ⟨h0, h1⟩)
      clear h0 h1
      go_enter Try.func47, Try.ntmps47
      go_wp2
      go_ret
      exact ⟨by rw [HR.out]; rfl, rfl⟩
    · have hd1 : decide (d < 512) = false := by simp; omega
      have HR := Lib.hid (decide_eq_false (p := 0 ≤ d ∧ d < 512) (fun h => h1 h.2))
      clear h0 h1
      go_enter Try.func47, Try.ntmps47
      go_wp2
      go_ret
      exact ⟨by rw [HR.out]; rfl, rfl⟩
  · have hd : decide (0 ≤ d) = false := by simp; omega
    have HR := Lib.hid (decide_eq_false (p := 0 ≤ d ∧ d < 512) (fun h => h0 h.1))
    clear h0
    go_enter Try.func47, Try.ntmps47
    go_wp2
    go_ret
    exact ⟨by rw [HR.out]; rfl, rfl⟩

theorem few_ok (t : List (Int × Int)) (v : Value) (w : World) (ht : NodesAt w v t) (hl : t.length ≤ maxLen) :
    Calls Try.prog 11 #[.agg #[v]] w fun e w' => e = .returned (.bool (decide (t.length ≤ 80))) ∧ Below w.heap.size w w' := by
  obtain ⟨p, c, rfl, hc, -, -, -⟩ := ht
  have HB := Lib.hid ((Below.refl _ w).alloc (Nat.le_refl _) (.cells #[.slice p t.length c] 24))
  by_cases h : t.length ≤ 80
  · have hd : decide ((t.length : Int) ≤ 80) = true := by simp; omega
    have HR := Lib.hid (decide_eq_true h)
    generalize t.length = n at *
    go_enter Try.func11, Try.ntmps11
    go_wp2
    go_ret
    exact ⟨by rw [HR.out]; rfl, HB.out⟩
  · have hd : decide ((t.length : Int) ≤ 80) = false := by simp; omega
    have HR := Lib.hid (decide_eq_false h)
    generalize t.length = n at *
    go_enter Try.func11, Try.ntmps11
    go_wp2
    go_ret
    exact ⟨by rw [HR.out]; rfl, HB.out⟩

theorem take_eq_snoc {α : Type} {s t : List α} {k : Nat} {x y : α} (h : s.take k = t.take k) (hs : s.take (k + 1) = s.take k ++ [x]) (ht : t.take (k + 1) = t.take k ++ [y]) (hxy : x = y) : s.take (k + 1) = t.take (k + 1) := by
  rw [hs, ht, h, hxy]
theorem take_ne_snoc {α : Type} {s t : List α} {k : Nat} {x y : α} (h : s.take k = t.take k) (hs : s.take (k + 1) = s.take k ++ [x]) (ht : t.take (k + 1) = t.take k ++ [y]) (hxy : x ≠ y) : s ≠ t := by
  rintro rfl
  rw [hs] at ht
  exact hxy (by simpa using ht)

set_option maxHeartbeats 1000000 in
theorem same_ok (s t : List (Int × Int)) (u v : Value) (w : World) (hs : NodesAt w u s) (ht : NodesAt w v t) (hls : s.length ≤ 1000000) (hlt : t.length ≤ 1000000) :
    Calls Try.prog 27 #[.agg #[u], .agg #[v]] w fun e w' => e = .returned (.bool (decide (s = t))) ∧ Below w.heap.size w w' := by
  obtain ⟨p, c, rfl, hc, -, hcell, hwf⟩ := hs
  obtain ⟨p2, c2, rfl, hc2, -, hcell2, hwf2⟩ := ht
  have hb1 : Below w.heap.size w ((w.alloc (.cells #[.slice p s.length c] 24)).alloc (.cells #[.slice p2 t.length c2] 24)) := ((Below.refl _ w).alloc (Nat.le_refl _) _).alloc (by simp) _
  have HC := Lib.hid hcell
  have HWF := Lib.hid hwf
  have HC2 := Lib.hid hcell2
  have HWF2 := Lib.hid hwf2
  obtain ⟨W0, hW0⟩ : ∃ W0, W0 = (w.alloc (.cells #[.slice p s.length c] 24)).alloc (.cells #[.slice p2 t.length c2] 24) := ⟨_, rfl⟩
  have cb : W0.cell? ⟨w.heap.size, 0, none⟩ = some (.slice p s.length c) := by rw [hW0]; unfold World.cell?; rw [Below.heap_alloc _ _ _ (by simp), World.alloc_heap_new]; rfl
  have cd : W0.cell? ⟨w.heap.size + 1, 0, none⟩ = some (.slice p2 t.length c2) := by
    rw [hW0]; unfold World.cell?
    have h := World.alloc_heap_new (w.alloc (.cells #[.slice p s.length c] 24)) (.cells #[.slice p2 t.length c2] 24)
    rw [World.size_alloc] at h
    rw [h]; rfl
  clear hcell hwf hcell2 hwf2
  go_enter Try.func27, Try.ntmps27
  go_upto_region 1 with fail
  rw [← hW0] at hb1 ⊢
  have HB0 := Lib.hid hb1
  obtain ⟨n, hn⟩ : ∃ n, n = s.length := ⟨_, rfl⟩
  obtain ⟨m, hm⟩ : ∃ m, m = t.length := ⟨_, rfl⟩
  have HN := Lib.hid hn
  have HM := Lib.hid hm
  rw [← hn] at hc hls cb ⊢
  rw [← hm] at hc2 hlt cd ⊢
  clear hW0 hb1 hn hm
  by_cases hnm : n = m
  case neg =>
    have hd1 : ((n : Int) == (m : Int)) = false := by simp; omega
    have hd2 : decide ((n : Int) = (m : Int)) = false := by simp; omega
    have hd3 : decide (n = m) = false := by simpa using hnm
    have HR : Hid (decide (s = t) = false) := Lib.hid (decide_eq_false (fun h => hnm (by rw [HN.out, HM.out, h])))
    clear hnm
    go_wp2_with fail
    go_ret
    exact ⟨by rw [HR.out]; rfl, HB0.out⟩
  subst hnm
  go_wp2_with fail
  go_loopw [5] (fun i wr => ∃ k : Nat, i = .int .i64 k ∧ k ≤ n ∧ Hid (s.take k = t.take k) ∧ Hid (Below w.heap.size w wr) ∧ wr.cell? ⟨w.heap.size, 0, none⟩ = some (.slice p n c) ∧ wr.cell? ⟨w.heap.size + 1, 0, none⟩ = some (.slice p2 n c2)) (fun i _ => n - (intOf i).toNat)
  case atStart => exact ⟨0, rfl, Nat.zero_le _, Lib.hid rfl, HB0, cb, cd⟩
  case round =>
    obtain ⟨k, rfl, hk, HE, HB, cbr, cdr⟩ := hrel
    clear cb cd
    by_cases hkn : k < n
    · have hd : decide ((k : Int) < (n : Int)) = true := by simp; omega
      have hd' : decide (k < n) = true := by simp; omega
      obtain ⟨g, o, rfl, hcs⟩ := HC.out (by rw [← HN.out]; omega)
      obtain ⟨g2, o2, rfl, hcs2⟩ := HC2.out (by rw [← HM.out]; omega)
      obtain ⟨a, q, c11, c12, -, -, -, ht1, -⟩ := node_at hcs HWF.out (by rw [← HN.out]; exact hkn) HB.out
      obtain ⟨b, r, c21, c22, -, -, -, ht2, -⟩ := node_at hcs2 HWF2.out (by rw [← HM.out]; exact hkn) HB.out
      have HT1 := Lib.hid ht1
      have HT2 := Lib.hid ht2
      clear hcs hcs2 ht1 ht2
      by_cases hab : a = b
      case neg =>
        have HR : Hid (decide (s = t) = false) := Lib.hid (decide_eq_false (take_ne_snoc HE.out HT1.out HT2.out (fun h => hab (by cases h; rfl))))
        have he1 : (a == b) = false := by simpa using hab
        have he2 : decide (a = b) = false := by simpa using hab
        clear hab
        go_upto_region 6 with fail
        go_quiet (fail)
        go_wp2_with fail
        go_ret
        exact ⟨by rw [HR.out]; rfl, HB.out.trans ⟨rfl, rfl, rfl, Nat.le_refl _, fun _ _ => rfl⟩⟩
      subst hab
      by_cases hqr : q = r
      case neg =>
        have HR : Hid (decide (s = t) = false) := Lib.hid (decide_eq_false (take_ne_snoc HE.out HT1.out HT2.out (fun h => hqr (by cases h; rfl))))
        have he1 : (q == r) = false := by simpa using hqr
        have he2 : decide (q = r) = false := by simpa using hqr
        clear hqr
        go_upto_region 6 with fail
        go_quiet (fail)
        go_wp2_with fail
        go_ret
        exact ⟨by rw [HR.out]; rfl, HB.out.trans ⟨rfl, rfl, rfl, Nat.le_refl _, fun _ _ => rfl⟩⟩
      subst hqr
      have HE2 := Lib.hid (take_eq_snoc HE.out HT1.out HT2.out rfl)
      go_upto_region 6 with fail
      go_quiet (fail)
      go_wp2_with fail
      exact ⟨⟨k + 1, by go_num, by omega, HE2, Lib.hid (HB.out.trans ⟨rfl, rfl, rfl, Nat.le_refl _, fun _ _ => rfl⟩), cbr, cdr⟩, by simp only [intOf]; omega⟩
    · have hd : decide ((k : Int) < (n : Int)) = false := by simp; omega
      have hd' : decide (k < n) = false := by simp; omega
      obtain rfl : k = n := by omega
      have HR : Hid (decide (s = t) = true) := Lib.hid (decide_eq_true (by
        have h := HE.out
        rw [List.take_of_length_le (by rw [← HN.out]; exact Nat.le_refl _), List.take_of_length_le (by rw [← HM.out]; exact Nat.le_refl _)] at h
        exact h))
      go_wp2_with fail
      go_ret
      exact ⟨by rw [HR.out]; rfl, HB.out⟩

theorem ints_at {w wr : World} {l : List Int} {g o k : Nat} (hcs : ∀ j, j < l.length → w.cell? ⟨g, o + j, none⟩ = some (.int .i64 (l.getD j 0))) (hk : k < l.length) (hB : Below w.heap.size w wr) :
    ∃ a, wr.cell? ⟨g, o + k, none⟩ = some (.int .i64 a) ∧ l.getD k 0 = a ∧ l.take (k + 1) = l.take k ++ [a] := by
  have c := hcs k hk
  have hg : l.getD k 0 = l[k] := by simp [List.getD, hk]
  exact ⟨l[k], by rw [← hg]; exact cellOld c (hB.block g (cellLt c)), hg, List.take_succ_eq_append_getElem hk⟩

set_option maxHeartbeats 1000000 in
theorem sameints_ok (s t : List Int) (u v : Value) (w : World) (hs : IntsAt w u s) (ht : IntsAt w v t) (hls : s.length ≤ 1000000) (hlt : t.length ≤ 1000000) :
    Calls Try.prog 16 #[u, v] w fun e w' => e = .returned (.bool (decide (s = t))) ∧ Below w.heap.size w w' := by
  obtain ⟨p, c, rfl, hc, hcell⟩ := hs
  obtain ⟨p2, c2, rfl, hc2, hcell2⟩ := ht
  have HC := Lib.hid hcell
  have HC2 := Lib.hid hcell2
  obtain ⟨n, hn⟩ : ∃ n, n = s.length := ⟨_, rfl⟩
  obtain ⟨m, hm⟩ : ∃ m, m = t.length := ⟨_, rfl⟩
  have HN := Lib.hid hn
  have HM := Lib.hid hm
  rw [← hn] at hc hls ⊢
  rw [← hm] at hc2 hlt ⊢
  clear hcell hcell2 hn hm
  go_enter Try.func16, Try.ntmps16
  by_cases hnm : n = m
  case neg =>
    have hd1 : ((n : Int) == (m : Int)) = false := by simp; omega
    have hd2 : decide ((n : Int) = (m : Int)) = false := by simp; omega
    have hd3 : decide (n = m) = false := by simpa using hnm
    have HR : Hid (decide (s = t) = false) := Lib.hid (decide_eq_false (fun h => hnm (by rw [HN.out, HM.out, h])))
    clear hnm
    go_wp2_with fail
    go_ret
    exact ⟨by rw [HR.out]; rfl, Below.refl _ _⟩
  subst hnm
  go_wp2_with fail
  go_loopw [5] (fun i wr => ∃ k : Nat, i = .int .i64 k ∧ k ≤ n ∧ Hid (s.take k = t.take k) ∧ Hid (Below w.heap.size w wr)) (fun i _ => n - (intOf i).toNat)
  case atStart => exact ⟨0, rfl, Nat.zero_le _, Lib.hid rfl, Lib.hid (Below.refl _ _)⟩
  case round =>
    obtain ⟨k, rfl, hk, HE, HB⟩ := hrel
    by_cases hkn : k < n
    · have hd : decide ((k : Int) < (n : Int)) = true := by simp; omega
      have hd' : decide (k < n) = true := by simp; omega
      obtain ⟨g, o, rfl, hcs⟩ := HC.out (by rw [← HN.out]; omega)
      obtain ⟨g2, o2, rfl, hcs2⟩ := HC2.out (by rw [← HM.out]; omega)
      obtain ⟨a, c11, -, ht1⟩ := ints_at hcs (by rw [← HN.out]; exact hkn) HB.out
      obtain ⟨b, c21, -, ht2⟩ := ints_at hcs2 (by rw [← HM.out]; exact hkn) HB.out
      have HT1 := Lib.hid ht1
      have HT2 := Lib.hid ht2
      clear hcs hcs2 ht1 ht2
      by_cases hab : a = b
      case neg =>
        have HR : Hid (decide (s = t) = false) := Lib.hid (decide_eq_false (take_ne_snoc HE.out HT1.out HT2.out hab))
        have he1 : (a == b) = false := by simpa using hab
        have he2 : decide (a = b) = false := by simpa using hab
        clear hab
        go_upto_region 6 with fail
        go_quiet (fail)
        go_wp2_with fail
        go_ret
        exact ⟨by rw [HR.out]; rfl, HB.out.trans ⟨rfl, rfl, rfl, Nat.le_refl _, fun _ _ => rfl⟩⟩
      subst hab
      have HE2 := Lib.hid (take_eq_snoc HE.out HT1.out HT2.out rfl)
      go_upto_region 6 with fail
      go_quiet (fail)
      go_wp2_with fail
      exact ⟨⟨k + 1, by go_num, by omega, HE2, Lib.hid (HB.out.trans ⟨rfl, rfl, rfl, Nat.le_refl _, fun _ _ => rfl⟩)⟩, by simp only [intOf]; omega⟩
    · have hd : decide ((k : Int) < (n : Int)) = false := by simp; omega
      have hd' : decide (k < n) = false := by simp; omega
      obtain rfl : k = n := by omega
      have HR : Hid (decide (s = t) = true) := Lib.hid (decide_eq_true (by
        have h := HE.out
        rw [List.take_of_length_le (by rw [← HN.out]; exact Nat.le_refl _), List.take_of_length_le (by rw [← HM.out]; exact Nat.le_refl _)] at h
        exact h))
      go_wp2_with fail
      go_ret
      exact ⟨by rw [HR.out]; rfl, HB.out⟩
end Go.Proofs.Ytekdekchbnacgaa
