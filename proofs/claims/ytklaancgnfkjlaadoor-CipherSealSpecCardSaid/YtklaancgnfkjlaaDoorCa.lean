/- Words of 32 bits: the walk's numbers as BitVec; the rotations; word. -/
import Derived.Test.YtklaancgnfkjlaaDoorRows
import Derived.WalkKit
import Derived.ProofKit
import Derived.Outline
import Derived.Deep.QuietTactic
import Derived.BigQuiet
namespace Go.Proofs.YtklaancgnfkjlaaDoor
open Go.RowKit
set_option maxRecDepth 100000
set_option linter.unusedVariables false
set_option linter.unusedSimpArgs false

theorem or_nat32 (a b : Nat) (ha : a < 4294967296) (hb : b < 4294967296) : bits .or .u32 (a : Int) (b : Int) = ((a ||| b : Nat) : Int) :=
  (bits_nat .u32 32 (by decide) (fun n h0 h1 => IntWalk.u32_in n (by omega)) a b (by omega) (by omega)).2
theorem and_nat32 (a b : Nat) (ha : a < 4294967296) (hb : b < 4294967296) : bits .and .u32 (a : Int) (b : Int) = ((a &&& b : Nat) : Int) :=
  (bits_nat .u32 32 (by decide) (fun n h0 h1 => IntWalk.u32_in n (by omega)) a b (by omega) (by omega)).1
theorem xor_nat32 (a b : Nat) (ha : a < 4294967296) (hb : b < 4294967296) : bits .xor .u32 (a : Int) (b : Int) = ((a ^^^ b : Nat) : Int) := by
  have ha' : a % 2 ^ 32 = a := Nat.mod_eq_of_lt ha
  have hb' : b % 2 ^ 32 = b := Nat.mod_eq_of_lt hb
  have hx : a ^^^ b < 2 ^ 32 := Nat.xor_lt_two_pow ha hb
  show IntKind.u32.wrap ((BitVec.ofInt 32 (a : Int) ^^^ BitVec.ofInt 32 (b : Int)).toNat : Int) = _
  simp only [BitVec.ofInt_natCast, BitVec.toNat_xor, BitVec.toNat_ofNat, ha', hb']
  exact IntWalk.u32_in _ (by omega)

theorem bor (x y : BitVec 32) : bits .or .u32 (x.toNat : Int) (y.toNat : Int) = ((x ||| y).toNat : Int) := by rw [or_nat32 _ _ x.isLt y.isLt, BitVec.toNat_or]
theorem band (x y : BitVec 32) : bits .and .u32 (x.toNat : Int) (y.toNat : Int) = ((x &&& y).toNat : Int) := by rw [and_nat32 _ _ x.isLt y.isLt, BitVec.toNat_and]
theorem bxor (x y : BitVec 32) : bits .xor .u32 (x.toNat : Int) (y.toNat : Int) = ((x ^^^ y).toNat : Int) := by rw [xor_nat32 _ _ x.isLt y.isLt, BitVec.toNat_xor]
theorem badd (x y : BitVec 32) : ((x.toNat : Int) + (y.toNat : Int)) % 4294967296 = ((x + y).toNat : Int) := by rw [BitVec.toNat_add]; simp
theorem bshr (x : BitVec 32) (n d : Nat) (hd : d = 2 ^ n) : (x.toNat : Int) / (d : Int) = ((x >>> n).toNat : Int) := by rw [BitVec.toNat_ushiftRight, Nat.shiftRight_eq_div_pow, hd]; simp
theorem bshl8 (x : BitVec 8) (n d : Nat) (hn : n ≤ 24) (hd : d = 2 ^ n) : (x.toNat : Int) * (d : Int) = ((x.setWidth 32 <<< n).toNat : Int) := by
  have hx := x.isLt
  have h2 : 2 ^ n ≤ 2 ^ 24 := Nat.pow_le_pow_right (by decide) hn
  have h3 : x.toNat * 2 ^ n < 2 ^ 32 := by
    have : x.toNat * 2 ^ n ≤ 255 * 2 ^ 24 := Nat.mul_le_mul (by omega) h2
    omega
  have h4 : x.toNat % 2 ^ 32 = x.toNat := Nat.mod_eq_of_lt (by omega)
  rw [BitVec.toNat_shiftLeft, BitVec.toNat_setWidth, Nat.shiftLeft_eq, h4, Nat.mod_eq_of_lt h3, hd]; simp
theorem bext8 (x : BitVec 8) : (x.toNat : Int) = ((x.setWidth 32).toNat : Int) := by
  have hx := x.isLt
  rw [BitVec.toNat_setWidth, Nat.mod_eq_of_lt (by omega)]

theorem rot_close (x : BitVec 32) (k m d : Nat) (hk2 : k < 32) (hm : m = 2 ^ k) (hd : d = 2 ^ (32 - k)) :
    bits .or .u32 ((x.toNat : Int) * (m : Int) % 4294967296) ((x.toNat : Int) / (d : Int)) = ((x.rotateLeft k).toNat : Int) := by
  have e1 : ((x.toNat : Int) * (m : Int) % 4294967296) = ((x.toNat * m % 4294967296 : Nat) : Int) := by simp
  have e2 : ((x.toNat : Int) / (d : Int)) = ((x.toNat / d : Nat) : Int) := by simp
  have hl : x.toNat / d < 4294967296 := Nat.lt_of_le_of_lt (Nat.div_le_self _ _) (by have := x.isLt; omega)
  rw [e1, e2, or_nat32 _ _ (Nat.mod_lt _ (by decide)) hl, BitVec.rotateLeft_def, Nat.mod_eq_of_lt hk2, BitVec.toNat_or, BitVec.toNat_shiftLeft, BitVec.toNat_ushiftRight, Nat.shiftLeft_eq, Nat.shiftRight_eq_div_pow, ← hm, ← hd]
theorem rotr_close (x : BitVec 32) (k m d : Nat) (hk2 : k < 32) (hm : m = 2 ^ (32 - k)) (hd : d = 2 ^ k) :
    bits .or .u32 ((x.toNat : Int) / (d : Int)) ((x.toNat : Int) * (m : Int) % 4294967296) = ((x.rotateRight k).toNat : Int) := by
  have e1 : ((x.toNat : Int) * (m : Int) % 4294967296) = ((x.toNat * m % 4294967296 : Nat) : Int) := by simp
  have e2 : ((x.toNat : Int) / (d : Int)) = ((x.toNat / d : Nat) : Int) := by simp
  have hl : x.toNat / d < 4294967296 := Nat.lt_of_le_of_lt (Nat.div_le_self _ _) (by have := x.isLt; omega)
  rw [e1, e2, or_nat32 _ _ hl (Nat.mod_lt _ (by decide)), BitVec.rotateRight_def, Nat.mod_eq_of_lt hk2, BitVec.toNat_or, BitVec.toNat_shiftLeft, BitVec.toNat_ushiftRight, Nat.shiftLeft_eq, Nat.shiftRight_eq_div_pow, ← hm, ← hd]
theorem rot_lr (x : BitVec 32) (k : Nat) (h : 0 < k) (hk : k < 32) : x.rotateLeft (32 - k) = x.rotateRight k := by
  rw [BitVec.rotateLeft_def, BitVec.rotateRight_def, Nat.mod_eq_of_lt hk, Nat.mod_eq_of_lt (by omega : 32 - k < 32), show 32 - (32 - k) = k by omega, BitVec.or_comm]
theorem ret_u32 {a b : Int} (h : a = b) : Ending.returned (.int .u32 a) = .returned (.int .u32 b) := by rw [h]

theorem rotl_16 (x : BitVec 32) (w : World) :
    Calls Tryd.prog 41 #[.int .u32 x.toNat, .int .i64 16] w fun e w' => e = .returned (.int .u32 (x.rotateLeft 16).toNat) ∧ w = w' := by
  have hb : bits .and .u64 16 31 = 16 := by decide
  go_enter Tryd.func41, Tryd.ntmps41
  go_wp2
  go_ret
  exact ⟨ret_u32 (rot_close x 16 65536 65536 (by decide) (by decide) (by decide)), rfl⟩
theorem rol_16 (x : BitVec 32) (w : World) :
    Calls Tryd.prog 42 #[.int .u32 x.toNat, .int .i64 16] w fun e w' => e = .returned (.int .u32 (x.rotateLeft 16).toNat) ∧ ∃ q, w' = w.drewN q := by
  go_enter Tryd.func42, Tryd.ntmps42
  go_wp2
  go_quiet (fail)
  go_wp2
  go_ret
  exact ⟨ret_u32 (rot_close x 16 65536 65536 (by decide) (by decide) (by decide)), _, rfl⟩

theorem rotl_12 (x : BitVec 32) (w : World) :
    Calls Tryd.prog 41 #[.int .u32 x.toNat, .int .i64 12] w fun e w' => e = .returned (.int .u32 (x.rotateLeft 12).toNat) ∧ w = w' := by
  have hb : bits .and .u64 12 31 = 12 := by decide
  go_enter Tryd.func41, Tryd.ntmps41
  go_wp2
  go_ret
  exact ⟨ret_u32 (rot_close x 12 4096 1048576 (by decide) (by decide) (by decide)), rfl⟩
theorem rol_12 (x : BitVec 32) (w : World) :
    Calls Tryd.prog 42 #[.int .u32 x.toNat, .int .i64 12] w fun e w' => e = .returned (.int .u32 (x.rotateLeft 12).toNat) ∧ ∃ q, w' = w.drewN q := by
  go_enter Tryd.func42, Tryd.ntmps42
  go_wp2
  go_quiet (fail)
  go_wp2
  go_ret
  exact ⟨ret_u32 (rot_close x 12 4096 1048576 (by decide) (by decide) (by decide)), _, rfl⟩

theorem rotl_8 (x : BitVec 32) (w : World) :
    Calls Tryd.prog 41 #[.int .u32 x.toNat, .int .i64 8] w fun e w' => e = .returned (.int .u32 (x.rotateLeft 8).toNat) ∧ w = w' := by
  have hb : bits .and .u64 8 31 = 8 := by decide
  go_enter Tryd.func41, Tryd.ntmps41
  go_wp2
  go_ret
  exact ⟨ret_u32 (rot_close x 8 256 16777216 (by decide) (by decide) (by decide)), rfl⟩
theorem rol_8 (x : BitVec 32) (w : World) :
    Calls Tryd.prog 42 #[.int .u32 x.toNat, .int .i64 8] w fun e w' => e = .returned (.int .u32 (x.rotateLeft 8).toNat) ∧ ∃ q, w' = w.drewN q := by
  go_enter Tryd.func42, Tryd.ntmps42
  go_wp2
  go_quiet (fail)
  go_wp2
  go_ret
  exact ⟨ret_u32 (rot_close x 8 256 16777216 (by decide) (by decide) (by decide)), _, rfl⟩

theorem rotl_7 (x : BitVec 32) (w : World) :
    Calls Tryd.prog 41 #[.int .u32 x.toNat, .int .i64 7] w fun e w' => e = .returned (.int .u32 (x.rotateLeft 7).toNat) ∧ w = w' := by
  have hb : bits .and .u64 7 31 = 7 := by decide
  go_enter Tryd.func41, Tryd.ntmps41
  go_wp2
  go_ret
  exact ⟨ret_u32 (rot_close x 7 128 33554432 (by decide) (by decide) (by decide)), rfl⟩
theorem rol_7 (x : BitVec 32) (w : World) :
    Calls Tryd.prog 42 #[.int .u32 x.toNat, .int .i64 7] w fun e w' => e = .returned (.int .u32 (x.rotateLeft 7).toNat) ∧ ∃ q, w' = w.drewN q := by
  go_enter Tryd.func42, Tryd.ntmps42
  go_wp2
  go_quiet (fail)
  go_wp2
  go_ret
  exact ⟨ret_u32 (rot_close x 7 128 33554432 (by decide) (by decide) (by decide)), _, rfl⟩

theorem rotr_7 (x : BitVec 32) (w : World) :
    Calls Tryd.prog 41 #[.int .u32 x.toNat, .int .i64 (-7)] w fun e w' => e = .returned (.int .u32 (x.rotateRight 7).toNat) ∧ w = w' := by
  rw [← rot_lr x 7 (by decide) (by decide)]
  have hb : bits .and .u64 (IntKind.u64.wrap (-7)) 31 = 25 := by decide
  go_enter Tryd.func41, Tryd.ntmps41
  go_wp2
  go_ret
  exact ⟨ret_u32 (rot_close x 25 33554432 128 (by decide) (by decide) (by decide)), rfl⟩
theorem ror_7 (x : BitVec 32) (w : World) :
    Calls Tryd.prog 49 #[.int .u32 x.toNat, .int .i64 7] w fun e w' => e = .returned (.int .u32 (x.rotateRight 7).toNat) ∧ ∃ q, w' = w.drewN q := by
  go_enter Tryd.func49, Tryd.ntmps49
  go_wp2
  go_quiet (fail)
  go_wp2
  go_ret
  exact ⟨ret_u32 (rotr_close x 7 33554432 128 (by decide) (by decide) (by decide)), _, rfl⟩

theorem rotr_18 (x : BitVec 32) (w : World) :
    Calls Tryd.prog 41 #[.int .u32 x.toNat, .int .i64 (-18)] w fun e w' => e = .returned (.int .u32 (x.rotateRight 18).toNat) ∧ w = w' := by
  rw [← rot_lr x 18 (by decide) (by decide)]
  have hb : bits .and .u64 (IntKind.u64.wrap (-18)) 31 = 14 := by decide
  go_enter Tryd.func41, Tryd.ntmps41
  go_wp2
  go_ret
  exact ⟨ret_u32 (rot_close x 14 16384 262144 (by decide) (by decide) (by decide)), rfl⟩
theorem ror_18 (x : BitVec 32) (w : World) :
    Calls Tryd.prog 49 #[.int .u32 x.toNat, .int .i64 18] w fun e w' => e = .returned (.int .u32 (x.rotateRight 18).toNat) ∧ ∃ q, w' = w.drewN q := by
  go_enter Tryd.func49, Tryd.ntmps49
  go_wp2
  go_quiet (fail)
  go_wp2
  go_ret
  exact ⟨ret_u32 (rotr_close x 18 16384 262144 (by decide) (by decide) (by decide)), _, rfl⟩

theorem rotr_17 (x : BitVec 32) (w : World) :
    Calls Tryd.prog 41 #[.int .u32 x.toNat, .int .i64 (-17)] w fun e w' => e = .returned (.int .u32 (x.rotateRight 17).toNat) ∧ w = w' := by
  rw [← rot_lr x 17 (by decide) (by decide)]
  have hb : bits .and .u64 (IntKind.u64.wrap (-17)) 31 = 15 := by decide
  go_enter Tryd.func41, Tryd.ntmps41
  go_wp2
  go_ret
  exact ⟨ret_u32 (rot_close x 15 32768 131072 (by decide) (by decide) (by decide)), rfl⟩
theorem ror_17 (x : BitVec 32) (w : World) :
    Calls Tryd.prog 49 #[.int .u32 x.toNat, .int .i64 17] w fun e w' => e = .returned (.int .u32 (x.rotateRight 17).toNat) ∧ ∃ q, w' = w.drewN q := by
  go_enter Tryd.func49, Tryd.ntmps49
  go_wp2
  go_quiet (fail)
  go_wp2
  go_ret
  exact ⟨ret_u32 (rotr_close x 17 32768 131072 (by decide) (by decide) (by decide)), _, rfl⟩

theorem rotr_19 (x : BitVec 32) (w : World) :
    Calls Tryd.prog 41 #[.int .u32 x.toNat, .int .i64 (-19)] w fun e w' => e = .returned (.int .u32 (x.rotateRight 19).toNat) ∧ w = w' := by
  rw [← rot_lr x 19 (by decide) (by decide)]
  have hb : bits .and .u64 (IntKind.u64.wrap (-19)) 31 = 13 := by decide
  go_enter Tryd.func41, Tryd.ntmps41
  go_wp2
  go_ret
  exact ⟨ret_u32 (rot_close x 13 8192 524288 (by decide) (by decide) (by decide)), rfl⟩
theorem ror_19 (x : BitVec 32) (w : World) :
    Calls Tryd.prog 49 #[.int .u32 x.toNat, .int .i64 19] w fun e w' => e = .returned (.int .u32 (x.rotateRight 19).toNat) ∧ ∃ q, w' = w.drewN q := by
  go_enter Tryd.func49, Tryd.ntmps49
  go_wp2
  go_quiet (fail)
  go_wp2
  go_ret
  exact ⟨ret_u32 (rotr_close x 19 8192 524288 (by decide) (by decide) (by decide)), _, rfl⟩

theorem rotr_6 (x : BitVec 32) (w : World) :
    Calls Tryd.prog 41 #[.int .u32 x.toNat, .int .i64 (-6)] w fun e w' => e = .returned (.int .u32 (x.rotateRight 6).toNat) ∧ w = w' := by
  rw [← rot_lr x 6 (by decide) (by decide)]
  have hb : bits .and .u64 (IntKind.u64.wrap (-6)) 31 = 26 := by decide
  go_enter Tryd.func41, Tryd.ntmps41
  go_wp2
  go_ret
  exact ⟨ret_u32 (rot_close x 26 67108864 64 (by decide) (by decide) (by decide)), rfl⟩
theorem ror_6 (x : BitVec 32) (w : World) :
    Calls Tryd.prog 49 #[.int .u32 x.toNat, .int .i64 6] w fun e w' => e = .returned (.int .u32 (x.rotateRight 6).toNat) ∧ ∃ q, w' = w.drewN q := by
  go_enter Tryd.func49, Tryd.ntmps49
  go_wp2
  go_quiet (fail)
  go_wp2
  go_ret
  exact ⟨ret_u32 (rotr_close x 6 67108864 64 (by decide) (by decide) (by decide)), _, rfl⟩

theorem rotr_11 (x : BitVec 32) (w : World) :
    Calls Tryd.prog 41 #[.int .u32 x.toNat, .int .i64 (-11)] w fun e w' => e = .returned (.int .u32 (x.rotateRight 11).toNat) ∧ w = w' := by
  rw [← rot_lr x 11 (by decide) (by decide)]
  have hb : bits .and .u64 (IntKind.u64.wrap (-11)) 31 = 21 := by decide
  go_enter Tryd.func41, Tryd.ntmps41
  go_wp2
  go_ret
  exact ⟨ret_u32 (rot_close x 21 2097152 2048 (by decide) (by decide) (by decide)), rfl⟩
theorem ror_11 (x : BitVec 32) (w : World) :
    Calls Tryd.prog 49 #[.int .u32 x.toNat, .int .i64 11] w fun e w' => e = .returned (.int .u32 (x.rotateRight 11).toNat) ∧ ∃ q, w' = w.drewN q := by
  go_enter Tryd.func49, Tryd.ntmps49
  go_wp2
  go_quiet (fail)
  go_wp2
  go_ret
  exact ⟨ret_u32 (rotr_close x 11 2097152 2048 (by decide) (by decide) (by decide)), _, rfl⟩

theorem rotr_25 (x : BitVec 32) (w : World) :
    Calls Tryd.prog 41 #[.int .u32 x.toNat, .int .i64 (-25)] w fun e w' => e = .returned (.int .u32 (x.rotateRight 25).toNat) ∧ w = w' := by
  rw [← rot_lr x 25 (by decide) (by decide)]
  have hb : bits .and .u64 (IntKind.u64.wrap (-25)) 31 = 7 := by decide
  go_enter Tryd.func41, Tryd.ntmps41
  go_wp2
  go_ret
  exact ⟨ret_u32 (rot_close x 7 128 33554432 (by decide) (by decide) (by decide)), rfl⟩
theorem ror_25 (x : BitVec 32) (w : World) :
    Calls Tryd.prog 49 #[.int .u32 x.toNat, .int .i64 25] w fun e w' => e = .returned (.int .u32 (x.rotateRight 25).toNat) ∧ ∃ q, w' = w.drewN q := by
  go_enter Tryd.func49, Tryd.ntmps49
  go_wp2
  go_quiet (fail)
  go_wp2
  go_ret
  exact ⟨ret_u32 (rotr_close x 25 128 33554432 (by decide) (by decide) (by decide)), _, rfl⟩

theorem rotr_2 (x : BitVec 32) (w : World) :
    Calls Tryd.prog 41 #[.int .u32 x.toNat, .int .i64 (-2)] w fun e w' => e = .returned (.int .u32 (x.rotateRight 2).toNat) ∧ w = w' := by
  rw [← rot_lr x 2 (by decide) (by decide)]
  have hb : bits .and .u64 (IntKind.u64.wrap (-2)) 31 = 30 := by decide
  go_enter Tryd.func41, Tryd.ntmps41
  go_wp2
  go_ret
  exact ⟨ret_u32 (rot_close x 30 1073741824 4 (by decide) (by decide) (by decide)), rfl⟩
theorem ror_2 (x : BitVec 32) (w : World) :
    Calls Tryd.prog 49 #[.int .u32 x.toNat, .int .i64 2] w fun e w' => e = .returned (.int .u32 (x.rotateRight 2).toNat) ∧ ∃ q, w' = w.drewN q := by
  go_enter Tryd.func49, Tryd.ntmps49
  go_wp2
  go_quiet (fail)
  go_wp2
  go_ret
  exact ⟨ret_u32 (rotr_close x 2 1073741824 4 (by decide) (by decide) (by decide)), _, rfl⟩

theorem rotr_13 (x : BitVec 32) (w : World) :
    Calls Tryd.prog 41 #[.int .u32 x.toNat, .int .i64 (-13)] w fun e w' => e = .returned (.int .u32 (x.rotateRight 13).toNat) ∧ w = w' := by
  rw [← rot_lr x 13 (by decide) (by decide)]
  have hb : bits .and .u64 (IntKind.u64.wrap (-13)) 31 = 19 := by decide
  go_enter Tryd.func41, Tryd.ntmps41
  go_wp2
  go_ret
  exact ⟨ret_u32 (rot_close x 19 524288 8192 (by decide) (by decide) (by decide)), rfl⟩
theorem ror_13 (x : BitVec 32) (w : World) :
    Calls Tryd.prog 49 #[.int .u32 x.toNat, .int .i64 13] w fun e w' => e = .returned (.int .u32 (x.rotateRight 13).toNat) ∧ ∃ q, w' = w.drewN q := by
  go_enter Tryd.func49, Tryd.ntmps49
  go_wp2
  go_quiet (fail)
  go_wp2
  go_ret
  exact ⟨ret_u32 (rotr_close x 13 524288 8192 (by decide) (by decide) (by decide)), _, rfl⟩

theorem rotr_22 (x : BitVec 32) (w : World) :
    Calls Tryd.prog 41 #[.int .u32 x.toNat, .int .i64 (-22)] w fun e w' => e = .returned (.int .u32 (x.rotateRight 22).toNat) ∧ w = w' := by
  rw [← rot_lr x 22 (by decide) (by decide)]
  have hb : bits .and .u64 (IntKind.u64.wrap (-22)) 31 = 10 := by decide
  go_enter Tryd.func41, Tryd.ntmps41
  go_wp2
  go_ret
  exact ⟨ret_u32 (rot_close x 10 1024 4194304 (by decide) (by decide) (by decide)), rfl⟩
theorem ror_22 (x : BitVec 32) (w : World) :
    Calls Tryd.prog 49 #[.int .u32 x.toNat, .int .i64 22] w fun e w' => e = .returned (.int .u32 (x.rotateRight 22).toNat) ∧ ∃ q, w' = w.drewN q := by
  go_enter Tryd.func49, Tryd.ntmps49
  go_wp2
  go_quiet (fail)
  go_wp2
  go_ret
  exact ⟨ret_u32 (rotr_close x 22 1024 4194304 (by decide) (by decide) (by decide)), _, rfl⟩

/-- The number that four bytes are, the least significant one first. -/
def le4 (b0 b1 b2 b3 : BitVec 8) : BitVec 32 := b0.setWidth 32 ||| b1.setWidth 32 <<< 8 ||| b2.setWidth 32 <<< 16 ||| b3.setWidth 32 <<< 24
theorem le4_close (b0 b1 b2 b3 : BitVec 8) : bits .or .u32 (bits .or .u32 (bits .or .u32 (b0.toNat : Int) ((b1.toNat : Int) * 256)) ((b2.toNat : Int) * 65536)) ((b3.toNat : Int) * 16777216) = ((le4 b0 b1 b2 b3).toNat : Int) := by
  rw [bext8 b0, show ((b1.toNat : Int) * 256) = _ from bshl8 b1 8 256 (by decide) (by decide), show ((b2.toNat : Int) * 65536) = _ from bshl8 b2 16 65536 (by decide) (by decide),
    show ((b3.toNat : Int) * 16777216) = _ from bshl8 b3 24 16777216 (by decide) (by decide), bor, bor, bor]; rfl

theorem word_any (g o c n : Nat) (hn : 4 ≤ n) (hn2 : n < 4611686018427387904) (b0 b1 b2 b3 : BitVec 8) (w : World) (h0 : w.cell? ⟨g, o, none⟩ = some (.int .u8 b0.toNat)) (h1 : w.cell? ⟨g, o + 1, none⟩ = some (.int .u8 b1.toNat))
    (h2 : w.cell? ⟨g, o + 2, none⟩ = some (.int .u8 b2.toNat)) (h3 : w.cell? ⟨g, o + 3, none⟩ = some (.int .u8 b3.toNat)) :
    Calls Tryd.prog 40 #[.slice (some ⟨g, o, none⟩) n c] w fun e w' => e = .returned (.int .u32 (le4 b0 b1 b2 b3).toNat) ∧ ∃ q, w' = w.drewN q := by
  go_enter Tryd.func40, Tryd.ntmps40
  go_wp2
  go_quiet (fail)
  go_wp2
  go_ret
  exact ⟨ret_u32 (le4_close b0 b1 b2 b3), _, rfl⟩

theorem rword_any (g o c n : Nat) (hn : 4 ≤ n) (hn2 : n < 4611686018427387904) (b0 b1 b2 b3 : BitVec 8) (w : World) (h0 : w.cell? ⟨g, o, none⟩ = some (.int .u8 b0.toNat)) (h1 : w.cell? ⟨g, o + 1, none⟩ = some (.int .u8 b1.toNat))
    (h2 : w.cell? ⟨g, o + 2, none⟩ = some (.int .u8 b2.toNat)) (h3 : w.cell? ⟨g, o + 3, none⟩ = some (.int .u8 b3.toNat)) :
    Calls Tryd.prog 32 #[.slice (some ⟨g, o, none⟩) n c] w fun e w' => e = .returned (.int .u32 (le4 b0 b1 b2 b3).toNat) ∧ ∃ q, w' = w.drewN q := by
  go_enter Tryd.func32, Tryd.ntmps32
  go_wp2
  go_quiet (fail)
  go_wp2
  go_ret
  exact ⟨ret_u32 (le4_close b0 b1 b2 b3), _, rfl⟩
end Go.Proofs.YtklaancgnfkjlaaDoor
