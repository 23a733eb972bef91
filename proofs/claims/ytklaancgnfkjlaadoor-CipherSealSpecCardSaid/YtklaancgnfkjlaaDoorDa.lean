/- digest: word, rotated. -/
import Derived.Test.YtklaancgnfkjlaaDoorCc
namespace Go.Proofs.YtklaancgnfkjlaaDoor
open Go.RowKit
set_option maxRecDepth 100000
set_option maxHeartbeats 4000000
set_option linter.unusedVariables false
set_option linter.unusedSimpArgs false

theorem rotated_e (x : BitVec 32) (w : World) :
    Calls Tryd.prog 45 #[.int .u32 x.toNat, .int .i64 6, .int .i64 11, .int .i64 25] w fun e w' =>
      e = .returned (.int .u32 (x.rotateRight 6 ^^^ x.rotateRight 11 ^^^ x.rotateRight 25).toNat) ∧ w = w' := by
  obtain ⟨a, ha⟩ : ∃ a, a = x.rotateRight 6 := ⟨_, rfl⟩
  obtain ⟨b, hb⟩ : ∃ b, b = x.rotateRight 11 := ⟨_, rfl⟩
  obtain ⟨c, hc⟩ : ∃ c, c = x.rotateRight 25 := ⟨_, rfl⟩
  have h1 := rotr_6 x
  have h2 := rotr_11 x
  have h3 := rotr_25 x
  rw [← ha] at h1 ⊢
  rw [← hb] at h2 ⊢
  rw [← hc] at h3 ⊢
  clear ha hb hc
  go_enter Tryd.func45, Tryd.ntmps45
  go_wp2_with fail
  refine (h1 _).mono ?_
  rintro e w' ⟨rfl, rfl⟩
  go_wp2_with fail
  refine (h2 _).mono ?_
  rintro e w' ⟨rfl, rfl⟩
  go_wp2_with fail
  refine (h3 _).mono ?_
  rintro e w' ⟨rfl, rfl⟩
  go_wp2
  go_ret
  exact ⟨ret_u32 (by rw [bxor, bxor]), rfl⟩
theorem rotated_a (x : BitVec 32) (w : World) :
    Calls Tryd.prog 45 #[.int .u32 x.toNat, .int .i64 2, .int .i64 13, .int .i64 22] w fun e w' =>
      e = .returned (.int .u32 (x.rotateRight 2 ^^^ x.rotateRight 13 ^^^ x.rotateRight 22).toNat) ∧ w = w' := by
  obtain ⟨a, ha⟩ : ∃ a, a = x.rotateRight 2 := ⟨_, rfl⟩
  obtain ⟨b, hb⟩ : ∃ b, b = x.rotateRight 13 := ⟨_, rfl⟩
  obtain ⟨c, hc⟩ : ∃ c, c = x.rotateRight 22 := ⟨_, rfl⟩
  have h1 := rotr_2 x
  have h2 := rotr_13 x
  have h3 := rotr_22 x
  rw [← ha] at h1 ⊢
  rw [← hb] at h2 ⊢
  rw [← hc] at h3 ⊢
  clear ha hb hc
  go_enter Tryd.func45, Tryd.ntmps45
  go_wp2_with fail
  refine (h1 _).mono ?_
  rintro e w' ⟨rfl, rfl⟩
  go_wp2_with fail
  refine (h2 _).mono ?_
  rintro e w' ⟨rfl, rfl⟩
  go_wp2_with fail
  refine (h3 _).mono ?_
  rintro e w' ⟨rfl, rfl⟩
  go_wp2
  go_ret
  exact ⟨ret_u32 (by rw [bxor, bxor]), rfl⟩

/-- The number after j bytes. -/
def wacc (l : List (BitVec 8)) : Nat → BitVec 32
  | 0 => 0
  | j + 1 => wacc l j <<< 8 ||| (l.getD j 0).setWidth 32
theorem wacc_step (a : BitVec 32) (y : BitVec 8) : bits .or .u32 ((a.toNat : Int) * 256 % 4294967296) (y.toNat : Int) = ((a <<< 8 ||| y.setWidth 32).toNat : Int) := by
  have e1 : ((a.toNat : Int) * (256 : Int) % (4294967296 : Int)) = ((a <<< 8).toNat : Int) := by
    rw [BitVec.toNat_shiftLeft, Nat.shiftLeft_eq]; simp
  rw [e1, bext8 y, bor]
theorem dword_any (g o c n : Nat) (hc : 4 ≤ c) (l : List (BitVec 8)) (w : World) (hl : ∀ j, j < 4 → w.cell? ⟨g, o + j, none⟩ = some (.int .u8 (l.getD j 0).toNat)) :
    Calls Tryd.prog 44 #[.slice (some ⟨g, o, none⟩) n c] w fun e w' => e = .returned (.int .u32 (wacc l 4).toNat) ∧ w = w' := by
  replace hl := Lib.hid hl
  have hc2 : (4 : Int) ≤ (c : Int) := by omega
  have h4c : c ≠ 0 := by omega
  have h4c2 : (0 == c) = false := by simp; omega
  go_enter Tryd.func44, Tryd.ntmps44
  go_wp2_with fail
  go_loopw [2, 8] (fun m t wr => ∃ j : Nat, t = .int .i64 j ∧ j ≤ 4 ∧ m = .int .u32 (wacc l j).toNat ∧ wr = w) (fun _ t _ => (4 - intOf t).toNat)
  case atStart => exact ⟨0, rfl, by omega, rfl, rfl⟩
  case round =>
    obtain ⟨j, rfl, hj, rfl, rfl⟩ := hrel
    by_cases hlt : j < 4
    · have hcell := hl.out j hlt
      have hs : wacc l (j + 1) = wacc l j <<< 8 ||| (l.getD j 0).setWidth 32 := rfl
      generalize l.getD j 0 = y at hcell hs
      have HS := Lib.hid hs
      clear hs
      go_wp2
      refine ⟨⟨j + 1, by go_num, by omega, ?_, trivial⟩, by simp [intOf]; omega⟩
      rw [wacc_step, HS.out]
    · go_wp2
      go_ret
      have : j = 4 := by omega
      subst this
      exact ⟨rfl, rfl⟩

theorem Arr8.frozen {W : World} {g : Nat} {t : TypeId} {v : List (BitVec 8)} (h : Arr8 W g t v) (i : Nat) : W.frozen? ⟨g, i, none⟩ = false := by
  simp [World.frozen?, show W.heap[g]? = _ from h]
theorem Arr8.lt {W : World} {g : Nat} {t : TypeId} {v : List (BitVec 8)} (h : Arr8 W g t v) : g < W.heap.size := (Array.getElem?_eq_some_iff.1 h).1
theorem Arr8.set {W : World} {g : Nat} {t : TypeId} {v : List (BitVec 8)} (h : Arr8 W g t v) (i : Nat) (x : BitVec 8) :
    Arr8 (W.setCell ⟨g, i, none⟩ (.int .u8 x.toNat)) g t (v.set i x) := by
  have hl := h.lt
  have h' : W.heap[g] = _ := (Array.getElem?_eq_some_iff.1 h).2
  show (W.heap.modify g _)[g]? = _
  rw [Array.getElem?_modify]
  simp [hl, h', List.map_set]
/-- A number written into n bytes from place o on, after j of them. -/
def putL (cur : List (BitVec 8)) (o n : Nat) (x : BitVec 64) : Nat → List (BitVec 8)
  | 0 => cur
  | j + 1 => (putL cur o n x j).set (o + (n - 1 - j)) ((x >>> (8 * j)).setWidth 8)
theorem putL_length (cur o n x j) : (putL cur o n x j).length = cur.length := by induction j with
  | zero => rfl
  | succ j ih => simp [putL, ih]
theorem put_byte (x : BitVec 64) (j : Nat) : (x.toNat : Int) / 2 ^ (8 * j) % 256 = (((x >>> (8 * j)).setWidth 8).toNat : Int) := by
  rw [BitVec.toNat_setWidth, BitVec.toNat_ushiftRight, Nat.shiftRight_eq_div_pow]; simp
theorem put_ok (g o c n : Nat) (t : TypeId) (hn : n ≤ 8) (cur : List (BitVec 8)) (x : BitVec 64) (w : World) (h : Arr8 w g t cur) (ho : o + n ≤ cur.length) (hnc : n ≤ c) :
    Calls Tryd.prog 38 #[.slice (some ⟨g, o, none⟩) n c, .int .u64 x.toNat] w fun e w' => e = .returned (.tuple #[]) ∧ OnlyAt g w w' ∧ Arr8 w' g t (putL cur o n x n) := by
  replace h := Lib.hid h
  go_enter Tryd.func38, Tryd.ntmps38
  go_wp2_with fail
  go_loopw [7] (fun t' wr => ∃ j : Nat, t' = .int .i64 j ∧ j ≤ n ∧ Hid (Arr8 wr g t (putL cur o n x j)) ∧ Hid (OnlyAt g w wr)) (fun t' _ => (n - intOf t').toNat)
  case atStart => exact ⟨0, rfl, by omega, h, OnlyAt.refl _ _⟩
  case round =>
    obtain ⟨j, rfl, hj, HA, HO⟩ := hrel
    by_cases hlt : j < n
    · have hcell := HA.out.cell (i := o + (n - 1 - j)) (by rw [putL_length]; omega)
      have hfz := HA.out.frozen (o + (n - 1 - j))
      go_wp2
      go_roundw
      case rel =>
        refine ⟨j + 1, by go_num, by omega, ?_, HO.out.trans (OnlyAt.setCell _ _ _ _)⟩
        rw [put_byte]
        exact HA.out.set _ _
      case measure => simp [intOf]; omega
    · have hjn : j = n := by omega
      rw [hjn] at HA
      go_wp2
      go_end0
      exact ⟨rfl, HO.out, HA.out⟩

def be4 (b0 b1 b2 b3 : BitVec 8) : BitVec 32 := b0.setWidth 32 <<< 24 ||| b1.setWidth 32 <<< 16 ||| b2.setWidth 32 <<< 8 ||| b3.setWidth 32
end Go.Proofs.YtklaancgnfkjlaaDoor
