/- The reference digest: what is hashed block by block is what the program hashes: plain laws. -/
import Derived.Test.YtklaancgnfkjlaaDoorGc
namespace Go.Proofs.YtklaancgnfkjlaaDoor
open Go.RowKit
set_option maxRecDepth 100000
set_option maxHeartbeats 1000000
set_option linter.unusedVariables false
set_option linter.unusedSimpArgs false

theorem set_mid {α : Type} (X Y : List α) (a v : α) (i : Nat) (h : i = X.length) : (X ++ a :: Y).set i v = X ++ v :: Y := by
  subst h
  simp
theorem putL_eight (X Y : List (BitVec 8)) (b0 b1 b2 b3 b4 b5 b6 b7 : BitVec 8) (x : BitVec 64) (o : Nat) (ho : o = X.length) :
    putL (X ++ [b0, b1, b2, b3, b4, b5, b6, b7] ++ Y) o 8 x 8 =
      X ++ [(x >>> 56).setWidth 8, (x >>> 48).setWidth 8, (x >>> 40).setWidth 8, (x >>> 32).setWidth 8, (x >>> 24).setWidth 8, (x >>> 16).setWidth 8, (x >>> 8).setWidth 8, (x >>> 0).setWidth 8] ++ Y := by
  subst ho
  simp only [putL]
  simp
theorem eight_bits (m : Nat) (hm : m < 18446744073709551616) : eightL m 8 =
    [(BitVec.ofNat 64 m >>> 56).setWidth 8, (BitVec.ofNat 64 m >>> 48).setWidth 8, (BitVec.ofNat 64 m >>> 40).setWidth 8, (BitVec.ofNat 64 m >>> 32).setWidth 8, (BitVec.ofNat 64 m >>> 24).setWidth 8, (BitVec.ofNat 64 m >>> 16).setWidth 8, (BitVec.ofNat 64 m >>> 8).setWidth 8, (BitVec.ofNat 64 m >>> 0).setWidth 8] := by
  have e : ∀ k, BitVec.ofNat 8 (m / 2 ^ k) = (BitVec.ofNat 64 m >>> k).setWidth 8 := fun k => by
    apply BitVec.eq_of_toNat_eq
    rw [BitVec.toNat_ofNat, BitVec.toNat_setWidth, BitVec.toNat_ushiftRight, BitVec.toNat_ofNat, Nat.shiftRight_eq_div_pow, Nat.mod_eq_of_lt (show m < 2 ^ 64 from hm)]
  simp only [eightL, List.nil_append, List.cons_append, e]
/-- The end, laid out. -/
theorem endL_take (l : List (BitVec 8)) (hl : l.length ≤ 1000000) : (endL l).take (endE l.length) = l.drop (64 * (l.length / 64)) ++ [0x80] ++ List.replicate (padZ l.length) 0 ++ eightL (l.length * 8) 8 := by
  obtain ⟨r, hr⟩ : ∃ r, r = l.drop (64 * (l.length / 64)) := ⟨_, rfl⟩
  have hrl : r.length = l.length % 64 := by rw [hr, List.length_drop]; omega
  have hq : l.length % 64 < 64 := by omega
  have hE : endE l.length = l.length % 64 + 1 + padZ l.length + 8 := by unfold endE padZ; split <;> omega
  have hA : endA l = r ++ [0x80] ++ List.replicate (127 - r.length) 0 := by
    unfold endA
    rw [← hr, ← hrl]
    have e : splice (List.replicate 128 (0 : BitVec 8)) 0 r = r ++ (0 :: List.replicate (127 - r.length) 0) := by
      unfold splice
      rw [List.take_zero, List.nil_append, Nat.zero_add, List.drop_replicate, show 128 - r.length = (127 - r.length) + 1 by omega, List.replicate_succ]
    rw [e, set_mid _ _ _ _ _ rfl]
    simp
  have hsplit : List.replicate (127 - r.length) (0 : BitVec 8) = List.replicate (padZ l.length) 0 ++ [0, 0, 0, 0, 0, 0, 0, 0] ++ List.replicate (128 - endE l.length) 0 := by
    have e8 : [(0 : BitVec 8), 0, 0, 0, 0, 0, 0, 0] = List.replicate 8 0 := rfl
    rw [e8, List.replicate_append_replicate, List.replicate_append_replicate]
    congr 1
    have : endE l.length ≤ 128 := by unfold endE; split <;> omega
    omega
  have hL : endL l = (r ++ [0x80] ++ List.replicate (padZ l.length) 0) ++ eightL (l.length * 8) 8 ++ List.replicate (128 - endE l.length) 0 := by
    unfold endL
    rw [hA, hsplit, eight_bits _ (by omega), ← putL_eight _ _ 0 0 0 0 0 0 0 0 _ (endE l.length - 8) (by simp; omega)]
    congr 1
    simp
  rw [hL, ← hr]
  exact List.take_left' (by simp [eightL_length]; omega)
theorem pad_split (l : List (BitVec 8)) (hl : l.length ≤ 1000000) : padL l 8 = l.take (64 * (l.length / 64)) ++ (endL l).take (endE l.length) := by
  rw [endL_take l hl]
  unfold padL padA
  simp only [← List.append_assoc]
  rw [List.take_append_drop]
theorem absN_pre (s : List (BitVec 32)) (l m : List (BitVec 8)) : ∀ k, (∀ i, i < k → (l.drop (64 * i)).take 64 = (m.drop (64 * i)).take 64) → absN s l k = absN s m k
  | 0, _ => rfl
  | k + 1, h => by
    simp only [absN]
    rw [absN_pre s l m k (fun i hi => h i (by omega)), h k (by omega)]
theorem absN_add (s : List (BitVec 32)) (A B : List (BitVec 8)) (d : Nat) (hA : A.length = 64 * d) : ∀ k, absN s (A ++ B) (d + k) = absN (absN s (A ++ B) d) B k
  | 0 => rfl
  | k + 1 => by
    show absorbS (absN s (A ++ B) (d + k)) _ = absorbS _ _
    rw [absN_add s A B d hA k]
    have hd : List.drop (64 * (d + k)) (A ++ B) = List.drop (64 * k) B := by
      rw [show 64 * (d + k) = A.length + 64 * k by omega, List.drop_append]
      simp
    congr 2
/-- The hash, over the padded bytes. -/
theorem sum_pad (l : List (BitVec 8)) (hl : l.length ≤ 1000000) : sumL l = outL (absN hNums (padL l 8) (l.length / 64 + endE l.length / 64)) 8 := by
  unfold sumL
  congr 1
  have hd : (l.take (64 * (l.length / 64))).length = 64 * (l.length / 64) := by rw [List.length_take]; omega
  rw [pad_split l hl, absN_add _ _ _ _ hd]
  have e1 : absN hNums (l.take (64 * (l.length / 64)) ++ (endL l).take (endE l.length)) (l.length / 64) = absN hNums l (l.length / 64) := by
    refine absN_pre _ _ _ _ fun i hi => ?_
    rw [List.drop_append_of_le_length (by rw [hd]; omega), List.take_append_of_le_length (by rw [List.length_drop, hd]; omega), List.drop_take, List.take_take, Nat.min_eq_left (by omega)]
  rw [e1]
  refine absN_pre _ _ _ _ fun i hi => ?_
  have hE : endE l.length = 64 ∨ endE l.length = 128 := by unfold endE; split <;> simp
  rw [List.drop_take, List.take_take, Nat.min_eq_left (by omega)]
theorem pad_len (l : List (BitVec 8)) : l.length + 1 + padZ l.length + 8 = 64 * (l.length / 64 + endE l.length / 64) := by
  unfold padZ endE
  split <;> omega
end Go.Proofs.YtklaancgnfkjlaaDoor
