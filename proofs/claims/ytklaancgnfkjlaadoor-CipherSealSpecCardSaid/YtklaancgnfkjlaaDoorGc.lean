/- The reference digest: the bytes with their end. -/
import Derived.Test.YtklaancgnfkjlaaDoorGb
import Derived.Test.YtklaancgnfkjlaaDoorEj
namespace Go.Proofs.YtklaancgnfkjlaaDoor
open Go.RowKit
set_option maxRecDepth 100000
set_option maxHeartbeats 2000000
set_option linter.unusedVariables false
set_option linter.unusedSimpArgs false

def padZ (n : Nat) : Nat := (119 - n % 64) % 64
def padA (l : List (BitVec 8)) (j : Nat) : List (BitVec 8) := l ++ [0x80] ++ List.replicate j 0
def padL (l : List (BitVec 8)) (k : Nat) : List (BitVec 8) := padA l (padZ l.length) ++ eightL (l.length * 8) k
theorem padA_length (l j) : (padA l j).length = l.length + 1 + j := by simp [padA]; omega
theorem padA_succ (l j) : (padA l (j + 1)).map v8 = (padA l j).map v8 ++ [.int .u8 0] := by
  simp [padA, List.replicate_succ', v8]
theorem padL_length (l k) : (padL l k).length = l.length + 1 + padZ l.length + k := by simp [padL, padA_length, eightL_length]
theorem padL_succ (l : List (BitVec 8)) (k : Nat) : (padL l (k + 1)).map v8 = (padL l k).map v8 ++ [.int .u8 (((l.length * 8 : Nat) : Int) / 2 ^ (56 - 8 * k) % 256)] := by
  unfold padL
  rw [List.map_append, eight_snoc, List.map_append, List.append_assoc]

theorem rpad_ok (v : Value) (l : List (BitVec 8)) (hl : l.length ≤ 1000000) (w : World) (hv : BytesAt w v l) :
    Calls Tryd.prog 46 #[v] w fun e w' => ∃ u, e = .returned u ∧ w'.ownsRow w.heap.size 5 1 u (l.length + 1 + padZ l.length + 8) ((padL l 8).map v8) ∧ Below w.heap.size w w' := by
  obtain ⟨i0, hi0, hz0, hz1, hz2⟩ := info_parts info_u8
  have HV := Lib.hid hv
  obtain ⟨p, c, rfl, hc, -⟩ := bytes_form hv
  clear hv
  have hox : (w.alloc (.cells #[] 5)).ownsRow w.heap.size 5 1 (.slice (some ⟨w.heap.size, 0, none⟩) 0 0) 0 [] := own_nil w (Nat.le_refl _)
  have hrx : RowAt (w.alloc (.cells #[] 5)) (.slice p l.length c) 1 l.length (l.map v8) := row_bytes HV.out (Below.al (Below.refl _ _) _)
  have HOX := Lib.hid hox
  have HRX := Lib.hid hrx
  clear hox hrx
  go_enter Tryd.func46, Tryd.ntmps46
  go_upto_region 2 with (first
    | (at_builtin; refine wpList_append_row rfl _ _ 28 rfl w.heap.size 5 i0 (.int .u8 0) 1 1 Tryd.underlying28 hi0 hz0 hz1 hz2 rfl (by decide) _ _ _ rfl HOX.out _ _ _ rfl HRX.out (v8_one _) (by unfold maxLen; omega) (by omega) (by simp) ?_; intro v1 w1 hown hgrow; have HO1 := Lib.hid hown; have HB1 := Lib.hid ((Below.al (Below.refl _ w) (.cells #[] 5)).grown hgrow (by simp) (fun k e => (HOX.out.lt k e).1)); clear hown hgrow)
    | (at_builtin; refine wpList_append_row rfl _ _ 28 rfl w.heap.size 5 i0 (.int .u8 0) 1 1 Tryd.underlying28 hi0 hz0 hz1 hz2 rfl (by decide) _ _ _ rfl (HO1.out.alloc _) _ _ _ rfl (row_fresh w1 _ 5 (0, 0) 1 (Nat.le_refl _)) (by simp [Value.oneCell']) (by unfold maxLen; simp; omega) (by simp; omega) (HB1.out.alloc HB1.out.size _).size ?_; intro v2 w2 hown hgrow; have hb2 := (HB1.out.alloc HB1.out.size _).grown hgrow (HB1.out.alloc HB1.out.size _).size (fun k e => (HO1.out.lt k e).1); obtain ⟨p2, c2, rfl, -, -⟩ := own_form hown))
  have ho2 : w2.ownsRow w.heap.size 5 1 (.slice p2 (l.length + 1) c2) (l.length + 1) ((padA l 0).map v8) := by
    have h := hown
    simp only [Nat.zero_add, List.nil_append, List.length_cons, List.length_nil] at h
    have e : (padA l 0).map v8 = l.map v8 ++ [.int .u8 128] := by simp [padA, v8]
    rw [e]
    exact h
  have HO2 := Lib.hid ho2
  have HB2 := Lib.hid hb2
  clear ho2 hb2 hown hgrow HO1 HB1 HOX HRX HV
  obtain ⟨n, hn⟩ : ∃ n, n = l.length := ⟨_, rfl⟩
  obtain ⟨z, hz⟩ : ∃ z, z = padZ n := ⟨_, rfl⟩
  have hz64 : z < 64 := by rw [hz, padZ]; omega
  have hzq : ∀ j, j ≤ z → ((n + 1 + j) % 64 = 56 ↔ j = z) := fun j hj => by
    rw [hz] at hj ⊢
    unfold padZ at hj ⊢
    omega
  have HZQ := Lib.hid hzq
  have HZD := Lib.hid hz
  rw [← hn] at hl hc HO2 ⊢
  have HN := Lib.hid hn
  clear hzq hz hn
  go_loopw [3] (fun vo wr => ∃ (j m : Nat) (pj : Option Addr) (cj : Nat), j ≤ z ∧ vo = .slice pj m cj ∧ Hid (m = n + 1 + j) ∧ Hid (wr.ownsRow w.heap.size 5 1 (.slice pj m cj) m ((padA l j).map v8)) ∧ Hid (Below w.heap.size w wr)) (fun vo _ => n + 1 + z - lenOf vo)
  case atStart => exact ⟨0, n + 1, p2, c2, Nat.zero_le _, rfl, rfl, HO2, HB2⟩
  case round =>
    obtain ⟨j, m, pj, cj, hj, rfl, HM, HOj, HBj⟩ := hrel
    have hm1 : m ≤ 1000100 := by have := HM.out; omega
    obtain ⟨q, hq⟩ : ∃ q, q = m % 64 := ⟨_, rfl⟩
    have e1 : (m : Int) % 64 = (q : Int) := by omega
    have HQ := Lib.hid hq
    clear hq
    by_cases hlt : j < z
    · have hne : q ≠ 56 := fun e => by
        have h1 := HQ.out
        have h2 := HM.out
        have h3 := (HZQ.out j hj).1 (by omega)
        omega
      have hb1 : ((q : Int) != 56) = true := by rw [bne_iff_ne]; omega
      have hb2 : ((q : Int) == 56) = false := by simp; omega
      have hb3 : decide ((q : Int) = 56) = false := by simp; omega
      have HNE := Lib.hid hne
      clear hne
      go_wp2_with (at_builtin; refine wpList_append_row rfl _ _ 28 rfl w.heap.size 5 i0 (.int .u8 0) 1 1 Tryd.underlying28 hi0 hz0 hz1 hz2 rfl (by decide) _ _ _ rfl (HOj.out.alloc _) _ _ _ rfl (row_fresh wr _ 5 (0, 0) 1 (Nat.le_refl _)) (by simp [Value.oneCell']) (by unfold maxLen; simp; omega) (by simp; omega) (HBj.out.alloc HBj.out.size _).size ?_; intro v2 w3 hown hgrow; have hb3' := (HBj.out.alloc HBj.out.size _).grown hgrow (HBj.out.alloc HBj.out.size _).size (fun k e => (HOj.out.lt k e).1); obtain ⟨p3, c3, rfl, -, -⟩ := own_form hown)
      have ho3 : w3.ownsRow w.heap.size 5 1 (.slice p3 (m + 1) c3) (m + 1) ((padA l (j + 1)).map v8) := by
        rw [padA_succ]
        exact hown
      clear hown hgrow
      go_roundw
      case rel => exact ⟨j + 1, m + 1, p3, c3, by omega, rfl, Lib.hid (by have := HM.out; omega), ho3, hb3'⟩
      case measure => have := HM.out; simp [lenOf]; omega
    · have hjz : j = z := by omega
      have hq56 : q = 56 := by
        have h1 := HQ.out
        have h2 := HM.out
        have h3 := (HZQ.out j hj).2 hjz
        omega
      have hb1 : ((q : Int) != 56) = false := by rw [bne_eq_false_iff_eq]; omega
      have hb2 : ((q : Int) == 56) = true := by simp; omega
      have hb3 : decide ((q : Int) = 56) = true := by simp; omega
      have HO4 : Hid (wr.ownsRow w.heap.size 5 1 (.slice pj m cj) m ((padL l 0).map v8)) := by
        have h := HOj
        rw [hjz, HZD.out, HN.out] at h
        have e : padL l 0 = padA l (padZ l.length) := by simp [padL, eightL]
        rw [e]
        exact h
      have HMZ : Hid (m = n + 1 + z) := Lib.hid (by have := HM.out; omega)
      clear hjz hq56 HOj HM hj
      go_upto_region 6 with fail
      have hn8 : (n : Int) * 8 < 8000001 := by omega
      clear e1 hb1 hb2 hb3
      go_loopw [3, 5] (fun vo ti wx => ∃ (k : Nat) (i : Int) (pk : Option Addr) (ck mk : Nat), k ≤ 8 ∧ ti = .int .i64 i ∧ i ≤ 7 ∧ -1 ≤ i ∧ vo = .slice pk mk ck ∧ Hid (i = 7 - (k : Int)) ∧ Hid (mk = m + k) ∧ Hid (wx.ownsRow w.heap.size 5 1 (.slice pk mk ck) mk ((padL l k).map v8)) ∧ Hid (Below w.heap.size w wx)) (fun _ ti _ => (intOf ti + 1).toNat)
      case atStart => exact ⟨0, 7, pj, cj, m, by omega, rfl, by omega, by omega, rfl, Lib.hid (by omega), Lib.hid (by omega), HO4, HBj⟩
      case round =>
        obtain ⟨k, i, pk, ck, mk, hk, rfl, hi7, hi1, rfl, HI, HMK, HOk, HBk⟩ := hrel
        have hmk : mk ≤ 1000200 := by have := HMK.out; omega
        by_cases hki : 0 ≤ i
        · have hd1 : decide (0 ≤ i) = true := by simp; omega
          go_wp2_with (at_builtin; refine wpList_append_row rfl _ _ 28 rfl w.heap.size 5 i0 (.int .u8 0) 1 1 Tryd.underlying28 hi0 hz0 hz1 hz2 rfl (by decide) _ _ _ rfl (HOk.out.alloc _) _ _ _ rfl (row_fresh wr _ 5 (0, 0) 1 (Nat.le_refl _)) (by simp [Value.oneCell']) (by unfold maxLen; simp; omega) (by simp; omega) (HBk.out.alloc HBk.out.size _).size ?_; intro v2 w3 hown hgrow; have hb3' := (HBk.out.alloc HBk.out.size _).grown hgrow (HBk.out.alloc HBk.out.size _).size (fun k e => (HOk.out.lt k e).1); obtain ⟨p3, c3, rfl, -, -⟩ := own_form hown)
          have he : (8 * i).toNat = 56 - 8 * k := by have := HI.out; omega
          have ho3 : w3.ownsRow w.heap.size 5 1 (.slice p3 (mk + 1) c3) (mk + 1) ((padL l (k + 1)).map v8) := by
            rw [padL_succ, ← HN.out]
            rw [he] at hown
            rw [show ((n * 8 : Nat) : Int) = (n : Int) * 8 by omega]
            exact hown
          clear hown hgrow he
          go_roundw
          case rel => exact ⟨k + 1, i - 1, p3, c3, mk + 1, by have := HI.out; omega, by go_num, by omega, by omega, rfl, Lib.hid (by have := HI.out; omega), Lib.hid (by have := HMK.out; omega), ho3, hb3'⟩
          case measure => simp [intOf]; omega
        · have hd1 : decide (0 ≤ i) = false := by simp; omega
          have hk8 : k = 8 := by have := HI.out; omega
          have hfin := HOk.out
          rw [hk8] at hfin
          have HFIN := Lib.hid hfin
          clear hfin hk8 HOk
          go_wp2
          go_ret
          refine ⟨_, rfl, ?_, HBk.out⟩
          have e : mk = l.length + 1 + padZ l.length + 8 := by
            have h1 := HMK.out
            have h2 := HMZ.out
            have h3 := HZD.out
            have h4 := HN.out
            have h5 := HI.out
            rw [h4] at h2 h3
            omega
          rw [← e]
          exact HFIN.out
end Go.Proofs.YtklaancgnfkjlaaDoor
