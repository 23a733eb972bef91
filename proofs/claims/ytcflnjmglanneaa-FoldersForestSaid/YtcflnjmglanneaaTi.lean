/- Folders: two places compared; the reference's Same. -/
import Derived.Test.YtcflnjmglanneaaTh
import Derived.Laws.StructEq
namespace Go.Proofs.Ytcflnjmglanneaa
open Go.RowKit Go.Maps
set_option maxRecDepth 100000
set_option linter.unusedVariables false
set_option linter.unusedSimpArgs false

instance : DecidableEq Pl := fun x y =>
  decidable_of_iff (x.t = y.t ∧ x.d = y.d ∧ x.f = y.f ∧ x.p = y.p ∧ x.n = y.n) (by cases x; cases y; simp)
theorem place_held : Try.prog.stoodInHeld 24 = false := by kernel_rfl
theorem place_guard : Try.prog.eqGuardType Try.prog.depth 24 = false := by kernel_rfl
theorem bytes_toList {a b : ByteArray} : a.toList = b.toList ↔ a = b := by
  rw [ByteArray.toList_eq, ByteArray.toList_eq]
  constructor
  · intro h
    cases a with | mk a => cases b with | mk b => congr 1; exact Array.toList_inj.1 h
  · intro h; rw [h]

set_option maxHeartbeats 4000000 in
theorem rsame_ok (s t : List Pl) (u v : Value) (w : World) (hs : PlAt w u s) (ht : PlAt w v t) (hls : s.length ≤ 1000000) (hlt : t.length ≤ 1000000) :
    Calls Try.prog 12 #[u, v] w fun e w' => e = .returned (.bool (decide (s = t))) ∧ Below w.heap.size w w' := by
  obtain ⟨p, c, rfl, hc, -⟩ := hs.form
  obtain ⟨p2, c2, rfl, hc2, -⟩ := ht.form
  obtain ⟨-, -, hcell⟩ := hs.cells
  obtain ⟨-, -, hcell2⟩ := ht.cells
  have HC := Lib.hid hcell
  have HC2 := Lib.hid hcell2
  obtain ⟨n, hn⟩ : ∃ n, n = s.length := ⟨_, rfl⟩
  obtain ⟨m, hm⟩ : ∃ m, m = t.length := ⟨_, rfl⟩
  have HN := Lib.hid hn
  have HM := Lib.hid hm
  rw [← hn] at hc hls HC ⊢
  rw [← hm] at hc2 hlt HC2 ⊢
  clear hcell hcell2 hn hm hs ht
  go_enter Try.func12, Try.ntmps12
  by_cases hnm : n = m
  case neg =>
    have hd1 : ((n : Int) == (m : Int)) = false := by simp; omega
    have hd2 : decide ((n : Int) = (m : Int)) = false := by simp; omega
    have hd3 : decide (n = m) = false := by simpa using hnm
    have HR : Hid (decide (s = t) = false) := Lib.hid (decide_eq_false (fun h => hnm (by rw [HN.out, HM.out, h])))
    clear hnm
    go_wp2_with fail
    go_ret
    exact ⟨by rw [HR.out]; rfl, Below.refl _ _⟩
  subst hnm
  have hpl := place_held
  have hpg := place_guard
  go_wp2_with fail
  go_loopw [5] (fun i wr => ∃ k : Nat, i = .int .i64 k ∧ k ≤ n ∧ Hid (s.take k = t.take k) ∧ Hid (Below w.heap.size w wr)) (fun i _ => n - (intOf i).toNat)
  case atStart => exact ⟨0, rfl, Nat.zero_le _, Lib.hid rfl, Lib.hid (Below.refl _ _)⟩
  case round =>
    obtain ⟨k, rfl, hk, HE, HB⟩ := hrel
    by_cases hkn : k < n
    · have hd : decide ((k : Int) < (n : Int)) = true := by simp; omega
      have hd' : decide (k < n) = true := by simp; omega
      obtain ⟨g, o, rfl, hcs⟩ := HC.out (by omega)
      obtain ⟨g2, o2, rfl, hcs2⟩ := HC2.out (by omega)
      obtain ⟨x, hx, ht1⟩ := take_at (l := s) (j := k) (by rw [← HN.out]; exact hkn)
      obtain ⟨y, hy, ht2⟩ := take_at (l := t) (j := k) (by rw [← HM.out]; exact hkn)
      obtain ⟨a0, a1, a2, a3, a4⟩ := (hcs k x hx).below HB.out
      obtain ⟨b0, b1, b2, b3, b4⟩ := (hcs2 k y hy).below HB.out
      obtain ⟨xt, xd, xf, xp, xn⟩ := x
      obtain ⟨yt, yd, yf, yp, yn⟩ := y
      dsimp only at a0 a1 a2 a3 a4 b0 b1 b2 b3 b4
      have HT1 := Lib.hid ht1
      have HT2 := Lib.hid ht2
      clear hcs hcs2 ht1 ht2 hx hy
      by_cases ht : xt = yt
      case neg =>
        have HR : Hid (decide (s = t) = false) := Lib.hid (decide_eq_false (take_ne_snoc HE.out HT1.out HT2.out (fun h => ht (by cases h; rfl))))
        have he1 : (xt == yt) = false := by simpa using ht
        have he2 : decide (xt = yt) = false := by simpa using ht
        clear ht
        go_upto_region 6 with fail
        go_quiet (fail)
        go_wp2_with fail
        go_ret
        exact ⟨by rw [HR.out]; rfl, HB.out.trans ⟨rfl, rfl, rfl, Nat.le_refl _, fun _ _ => rfl⟩⟩
      subst ht
      by_cases hd : xd = yd
      case neg =>
        have HR : Hid (decide (s = t) = false) := Lib.hid (decide_eq_false (take_ne_snoc HE.out HT1.out HT2.out (fun h => hd (by cases h; rfl))))
        have he1 : (xd == yd) = false := by simpa using hd
        have he2 : decide (xd = yd) = false := by simpa using hd
        clear hd
        go_upto_region 6 with fail
        go_quiet (fail)
        go_wp2_with fail
        go_ret
        exact ⟨by rw [HR.out]; rfl, HB.out.trans ⟨rfl, rfl, rfl, Nat.le_refl _, fun _ _ => rfl⟩⟩
      subst hd
      by_cases hf : xf = yf
      case neg =>
        have HR : Hid (decide (s = t) = false) := Lib.hid (decide_eq_false (take_ne_snoc HE.out HT1.out HT2.out (fun h => hf (by cases h; rfl))))
        have he1 : (xf == yf) = false := by simpa using hf
        have he2 : decide (xf = yf) = false := by simpa using hf
        clear hf
        go_upto_region 6 with fail
        go_quiet (fail)
        go_wp2_with fail
        go_ret
        exact ⟨by rw [HR.out]; rfl, HB.out.trans ⟨rfl, rfl, rfl, Nat.le_refl _, fun _ _ => rfl⟩⟩
      subst hf
      by_cases hp : xp = yp
      case neg =>
        have HR : Hid (decide (s = t) = false) := Lib.hid (decide_eq_false (take_ne_snoc HE.out HT1.out HT2.out (fun h => hp (by cases h; rfl))))
        have he1 : (xp == yp) = false := by simpa using hp
        have he2 : decide (xp = yp) = false := by simpa using hp
        clear hp
        go_upto_region 6 with fail
        go_quiet (fail)
        go_wp2_with fail
        go_ret
        exact ⟨by rw [HR.out]; rfl, HB.out.trans ⟨rfl, rfl, rfl, Nat.le_refl _, fun _ _ => rfl⟩⟩
      subst hp
      by_cases hn : xn = yn
      case neg =>
        have HR : Hid (decide (s = t) = false) := Lib.hid (decide_eq_false (take_ne_snoc HE.out HT1.out HT2.out (fun h => hn (by cases h; rfl))))
        have he0 : ¬ xn.toList = yn.toList := fun h => hn (bytes_toList.1 h)
        have he1 : (xn.toList == yn.toList) = false := by simpa using he0
        have he2 : decide (xn.toList = yn.toList) = false := by simpa using he0
        clear hn
        go_upto_region 6 with fail
        go_quiet (fail)
        go_wp2_with fail
        go_ret
        exact ⟨by rw [HR.out]; rfl, HB.out.trans ⟨rfl, rfl, rfl, Nat.le_refl _, fun _ _ => rfl⟩⟩
      subst hn
      have HE2 := Lib.hid (take_eq_snoc HE.out HT1.out HT2.out rfl)
      go_upto_region 6 with fail
      go_quiet (fail)
      go_wp2_with fail
      exact ⟨⟨k + 1, by go_num, by omega, HE2, Lib.hid (HB.out.trans ⟨rfl, rfl, rfl, Nat.le_refl _, fun _ _ => rfl⟩)⟩, by simp only [intOf]; omega⟩
    · have hd : decide ((k : Int) < (n : Int)) = false := by simp; omega
      have hd' : decide (k < n) = false := by simp; omega
      obtain rfl : k = n := by omega
      have HR : Hid (decide (s = t) = true) := Lib.hid (decide_eq_true (by
        have h := HE.out
        rw [List.take_of_length_le (by rw [← HN.out]; exact Nat.le_refl _), List.take_of_length_le (by rw [← HM.out]; exact Nat.le_refl _)] at h
        exact h))
      go_wp2_with fail
      go_ret
      exact ⟨by rw [HR.out]; rfl, HB.out⟩
end Go.Proofs.Ytcflnjmglanneaa
