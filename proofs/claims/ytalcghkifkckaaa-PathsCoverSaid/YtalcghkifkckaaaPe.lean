/- Contracts of the reference of paths. -/
import Derived.Test.YtalcghkifkckaaaPc
import Derived.Test.YtalcghkifkckaaaPd
import Derived.Deep.QuietTactic
import Derived.BigQuiet
import Derived.Lib.Hide
import Derived.Maps.AppendAt
namespace Go.Proofs.Ytalcghkifkckaaa
open Go.RowKit
set_option maxRecDepth 100000

theorem isDevice_yes (n : Int) (h0 : 0 ≤ n) (h1 : n < 512) (w : World) :
    Calls Try.prog 24 #[.int .i64 n] w fun e w' => e = .returned (.bool true) ∧ w = w' := by
  go_enter Try.func24, Try.ntmps24
  go_wp2
  go_ret
  exact ⟨rfl, rfl⟩
theorem isDevice_no (n : Int) (h : n < 0 ∨ 512 ≤ n) (w : World) :
    Calls Try.prog 24 #[.int .i64 n] w fun e w' => e = .returned (.bool false) ∧ w = w' := by
  by_cases h0 : n < 0
  · go_enter Try.func24, Try.ntmps24
    go_wp2
    go_ret
    exact ⟨rfl, rfl⟩
  · have h1 : decide (n < 512) = false := by simp; omega
    go_enter Try.func24, Try.ntmps24
    go_wp2
    go_ret
    exact ⟨rfl, rfl⟩
theorem risNode_yes (n : Int) (h0 : 1 ≤ n) (h1 : n < 1024) (w : World) :
    Calls Try.prog 27 #[.int .i64 n] w fun e w' => e = .returned (.bool true) ∧ w = w' := by
  go_enter Try.func27, Try.ntmps27
  go_wp2
  go_ret
  exact ⟨rfl, rfl⟩
theorem risNode_no (n : Int) (h : n < 1 ∨ 1024 ≤ n) (w : World) :
    Calls Try.prog 27 #[.int .i64 n] w fun e w' => e = .returned (.bool false) ∧ w = w' := by
  by_cases h0 : n < 1
  · go_enter Try.func27, Try.ntmps27
    go_wp2
    go_ret
    exact ⟨rfl, rfl⟩
  · have h1 : decide (n < 1024) = false := by simp; omega
    go_enter Try.func27, Try.ntmps27
    go_wp2
    go_ret
    exact ⟨rfl, rfl⟩
theorem rleaf_ok (d : Int) (h0 : 0 ≤ d) (h1 : d < 512) (w : World) :
    Calls Try.prog 12 #[.int .i64 d] w fun e w' => e = .returned (.tuple #[.int .i64 (512 + d), .int .i64 0]) ∧ w = w' := by
  go_enter Try.func12, Try.ntmps12
  go_wp2_with fail
  refine (isDevice_yes _ h0 h1 _).mono ?_
  rintro e w' ⟨rfl, rfl⟩
  go_wp2
  go_ret2
  exact ⟨rfl, rfl⟩
theorem rleaf_no (d : Int) (h : d < 0 ∨ 512 ≤ d) (w : World) :
    Calls Try.prog 12 #[.int .i64 d] w fun e w' => e = .returned (.tuple #[.int .i64 0, .int .i64 200]) ∧ w = w' := by
  go_enter Try.func12, Try.ntmps12
  go_wp2_with fail
  refine (isDevice_no _ h _).mono ?_
  rintro e w' ⟨rfl, rfl⟩
  go_wp2
  go_ret2
  exact ⟨rfl, rfl⟩

theorem bitLen_dbl (m : Nat) (h : 1 ≤ m) : bitLen (2 * m) = bitLen m + 1 := by
  have := bitLen_shift (2 * m) 1 (by omega)
  rw [this]; simp; omega
theorem bitLen_big (m : Nat) (h0 : 512 ≤ m) (h1 : m < 1024) : bitLen m = 10 := by
  have h : ∀ n : Fin 1024, 512 ≤ n.val → bitLen n.val = 10 := by decide +kernel
  exact h ⟨m, h1⟩ h0

theorem rlevel_ok (n : Nat) (h0 : 1 ≤ n) (h1 : n < 1024) (w : World) :
    Calls Try.prog 14 #[.int .i64 n] w fun e w' => e = .returned (.tuple #[.int .i64 (levN n), .int .i64 0]) ∧ w = w' := by
  go_enter Try.func14, Try.ntmps14
  go_wp2_with fail
  refine (risNode_yes _ (by omega) (by omega) _).mono ?_
  rintro e w' ⟨rfl, rfl⟩
  go_wp2
  go_loop [0, 4] (fun x l => ∃ m k : Nat, x = .int .i64 m ∧ l = .int .i64 k ∧ 1 ≤ m ∧ m < 1024 ∧ k ≤ 9 ∧ bitLen m = bitLen n + k) (fun x _ => (1024 - intOf x).toNat)
  case atStart => exact ⟨n, 0, rfl, rfl, h0, h1, by omega, rfl⟩
  case round =>
    obtain ⟨m, k, rfl, rfl, hm0, hm1, hk, hbl⟩ := hrel
    have hbm := bitLen_bd m hm0 hm1
    have hbn := bitLen_bd n h0 h1
    have HB := Lib.hid hbl
    clear hbl
    by_cases hlt : m < 512
    · go_wp2
      go_round
      case rel => exact ⟨2 * m, k + 1, by go_num, by go_num, by omega, by omega, by have := HB.out; have := bitLen_dbl m hm0; have := (bitLen_bd (2 * m) (by omega) (by omega)); omega, by rw [bitLen_dbl m hm0, HB.out]; omega⟩
      case measure => simp [intOf]; omega
    · go_wp2
      go_ret2
      have := bitLen_big m (by omega) hm1
      have hl : k = levN n := by unfold levN; have := HB.out; omega
      subst hl
      exact ⟨rfl, rfl⟩
theorem rlevel_no (n : Int) (h : n < 1 ∨ 1024 ≤ n) (w : World) :
    Calls Try.prog 14 #[.int .i64 n] w fun e w' => e = .returned (.tuple #[.int .i64 0, .int .i64 200]) ∧ w = w' := by
  go_enter Try.func14, Try.ntmps14
  go_wp2_with fail
  refine (risNode_no _ h _).mono ?_
  rintro e w' ⟨rfl, rfl⟩
  go_wp2
  go_ret2
  exact ⟨rfl, rfl⟩

theorem under_step (n k : Nat) (h : n * 2 ^ k < 512) : 2 * (n * 2 ^ k) = n * 2 ^ (k + 1) := by rw [Nat.pow_succ, ← Nat.mul_assoc n, Nat.mul_comm 2]
/-- n * 2^k reaches 512 just at the level. -/
theorem lev_iff (n k : Nat) (h0 : 1 ≤ n) (h1 : n < 1024) (hk : k ≤ 9) (h : n * 2 ^ k < 1024) : (n * 2 ^ k < 512 → k < levN n) ∧ (512 ≤ n * 2 ^ k → k = levN n) := by
  have h : ∀ n : Fin 1024, ∀ k : Fin 10, 1 ≤ n.val → n.val * 2 ^ k.val < 1024 → (n.val * 2 ^ k.val < 512 → k.val < levN n.val) ∧ (512 ≤ n.val * 2 ^ k.val → k.val = levN n.val) := by decide +kernel
  exact h ⟨n, h1⟩ ⟨k, by omega⟩ h0 (by assumption)

theorem runder_ok (n : Nat) (h0 : 1 ≤ n) (h1 : n < 1024) (w : World) :
    Calls Try.prog 21 #[.int .i64 n] w fun e w' => e = .returned (.tuple #[.int .i64 (froN n), .int .i64 (toN n), .int .i64 0]) ∧ w = w' := by
  go_enter Try.func21, Try.ntmps21
  go_wp2_with fail
  refine (risNode_yes _ (by omega) (by omega) _).mono ?_
  rintro e w' ⟨rfl, rfl⟩
  go_wp2
  go_loop [5, 6] (fun x y => ∃ m l k : Nat, x = .int .i64 m ∧ y = .int .i64 l ∧ m < 1024 ∧ l < 1024 ∧ 1 ≤ m ∧ 1 ≤ l ∧ Hid (m = n * 2 ^ k ∧ l + 1 = (n + 1) * 2 ^ k ∧ k ≤ 9)) (fun x _ => (1024 - intOf x).toNat)
  case atStart => exact ⟨n, n, 0, rfl, rfl, h1, h1, h0, h0, by simp [Hid]⟩
  case round =>
    obtain ⟨m, l, k, rfl, rfl, hm, hl, hm1, hl1, HK⟩ := hrel
    by_cases hlt : m < 512
    · go_wp2
      go_round
      case rel =>
        obtain ⟨e1, e2, e3⟩ := HK.out
        have hlev := (lev_iff n k h0 h1 e3 (by omega)).1 (by omega)
        have hbd := under_bd n h0 h1
        have hp : (n + 1) * 2 ^ (k + 1) ≤ (n + 1) * 2 ^ levN n := Nat.mul_le_mul_left _ (Nat.pow_le_pow_right (by decide) (by omega))
        have s1 := under_step n k (by omega)
        have s2 : 2 * ((n + 1) * 2 ^ k) = (n + 1) * 2 ^ (k + 1) := by rw [Nat.pow_succ, ← Nat.mul_assoc (n + 1), Nat.mul_comm 2]
        exact ⟨2 * m, 2 * l + 1, k + 1, by go_num, by go_num, by omega, by omega, by omega, by omega, ⟨by omega, by omega, by omega⟩⟩
      case measure => simp [intOf]; omega
    · go_wp2
      go_ret3
      obtain ⟨e1, e2, e3⟩ := HK.out
      have hlev := (lev_iff n k h0 h1 e3 (by omega)).2 (by omega)
      have e4 : (m : Int) - 512 = (froN n : Nat) := by unfold froN; rw [← hlev, ← e1]; omega
      have e6 : n * 2 ^ k ≤ (n + 1) * 2 ^ k := Nat.mul_le_mul_right _ (by omega)
      have e5 : (l : Int) - 512 + 1 = (toN n : Nat) := by unfold toN; rw [← hlev, ← e2]; omega
      exact ⟨by rw [← e4, ← e5]; rfl, rfl⟩

theorem runder_no (n : Int) (h : n < 1 ∨ 1024 ≤ n) (w : World) :
    Calls Try.prog 21 #[.int .i64 n] w fun e w' => e = .returned (.tuple #[.int .i64 0, .int .i64 0, .int .i64 200]) ∧ w = w' := by
  go_enter Try.func21, Try.ntmps21
  go_wp2_with fail
  refine (risNode_no _ h _).mono ?_
  rintro e w' ⟨rfl, rfl⟩
  go_wp2
  go_ret3
  exact ⟨rfl, rfl⟩

/-- Halving two numbers makes them equal just where their xor's length is reached. -/
theorem half_eq (x y k : Nat) : x / 2 ^ k = y / 2 ^ k ↔ bitLen (x ^^^ y) ≤ k := by
  have e : (x ^^^ y) >>> k = (x >>> k) ^^^ (y >>> k) := Nat.shiftRight_xor_distrib ..
  simp only [Nat.shiftRight_eq_div_pow] at e
  constructor
  · intro h
    rw [h, Nat.xor_self] at e
    apply bitLen_le
    exact (Nat.div_eq_zero_iff_lt (Nat.two_pow_pos k)).1 e
  · intro h
    have h1 : x ^^^ y < 2 ^ k := Nat.lt_of_lt_of_le (bitLen_spec _).1 (Nat.pow_le_pow_right (by decide) h)
    rw [Nat.div_eq_of_lt h1] at e
    have h2 := congrArg (x / 2 ^ k ^^^ ·) e
    simpa [← Nat.xor_assoc] using h2

theorem rcommon_ok (a b : Nat) (ha : a < 512) (hb : b < 512) (w : World) :
    Calls Try.prog 23 #[.int .i64 a, .int .i64 b] w fun e w' => e = .returned (.tuple #[.int .i64 (comN (512 + a) (512 + b)), .int .i64 0]) ∧ w = w' := by
  go_enter Try.func23, Try.ntmps23
  go_wp2_with fail
  refine (rleaf_ok _ (by omega) (by omega) _).mono ?_
  rintro e w' ⟨rfl, rfl⟩
  go_wp2_with fail
  refine (rleaf_ok _ (by omega) (by omega) _).mono ?_
  rintro e w' ⟨rfl, rfl⟩
  go_wp2
  go_loop [6, 8] (fun x y => ∃ m l k : Nat, x = .int .i64 m ∧ y = .int .i64 l ∧ m < 1024 ∧ l < 1024 ∧ Hid (m = (512 + a) / 2 ^ k ∧ l = (512 + b) / 2 ^ k ∧ k ≤ bitLen ((512 + a) ^^^ (512 + b)))) (fun x y => (intOf x + intOf y).toNat)
  case atStart => exact ⟨512 + a, 512 + b, 0, by go_num, by go_num, by omega, by omega, by simp [Hid]⟩
  case round =>
    obtain ⟨m, l, k, rfl, rfl, hm, hl, HK⟩ := hrel
    by_cases hlt : m = l
    · subst hlt
      go_wp2
      go_ret2
      obtain ⟨e1, e2, e3⟩ := HK.out
      have := (half_eq (512 + a) (512 + b) k).1 (by omega)
      have e4 : m = comN (512 + a) (512 + b) := by unfold comN; rw [e1]; congr 2; omega
      subst e4
      exact ⟨rfl, rfl⟩
    · have hne : (!((m : Int) == (l : Int))) = true := by simp; omega
      have hne2 : ((m : Int) == (l : Int)) = false := by simp; omega
      go_wp2
      go_round
      case rel =>
        obtain ⟨e1, e2, e3⟩ := HK.out
        refine ⟨m / 2, l / 2, k + 1, by go_num, by go_num, by omega, by omega, ?_, ?_, ?_⟩
        · rw [e1, Nat.div_div_eq_div_mul, Nat.pow_succ]
        · rw [e2, Nat.div_div_eq_div_mul, Nat.pow_succ]
        · have := mt (half_eq (512 + a) (512 + b) k).2 (by omega)
          omega
      case measure => simp [intOf]; omega

theorem rcommon_no (a b : Int) (h : a < 0 ∨ 512 ≤ a ∨ b < 0 ∨ 512 ≤ b) (w : World) :
    Calls Try.prog 23 #[.int .i64 a, .int .i64 b] w fun e w' => e = .returned (.tuple #[.int .i64 0, .int .i64 200]) ∧ w = w' := by
  by_cases h0 : a < 0 ∨ 512 ≤ a
  · go_enter Try.func23, Try.ntmps23
    go_wp2_with fail
    refine (rleaf_no _ h0 _).mono ?_
    rintro e w' ⟨rfl, rfl⟩
    go_wp2
    go_ret2
    exact ⟨rfl, rfl⟩
  · have h1 : 0 ≤ a := by omega
    have h2 : a < 512 := by omega
    have h3 : b < 0 ∨ 512 ≤ b := by omega
    clear h h0
    go_enter Try.func23, Try.ntmps23
    go_wp2_with fail
    refine (rleaf_ok _ h1 h2 _).mono ?_
    rintro e w' ⟨rfl, rfl⟩
    go_wp2_with fail
    refine (rleaf_no _ h3 _).mono ?_
    rintro e w' ⟨rfl, rfl⟩
    go_wp2
    go_ret2
    exact ⟨rfl, rfl⟩

/-- Same of equal lists. -/
theorem same_nil (a b : Option Addr) (c1 c2 : Nat) (w : World) :
    Calls Try.prog 19 #[.slice a 0 c1, .slice b 0 c2] w fun e w' => e = .returned (.bool true) ∧ w = w' := by
  go_enter Try.func19, Try.ntmps19
  go_wp2
  go_loop [5] (fun x => x = .int .i64 0) (fun _ => 0)
  case atStart => rfl
  case round =>
    subst hrel
    go_wp2
    go_ret
    exact ⟨rfl, rfl⟩

theorem same_cells (b1 o1 c1 b2 o2 c2 : Nat) (xs : List Nat) (w : World) (hl : xs.length < 1000000)
    (h1 : ∀ j u, (iv xs)[j]? = some u → w.cell? ⟨b1, o1 + j, none⟩ = some u) (h2 : ∀ j u, (iv xs)[j]? = some u → w.cell? ⟨b2, o2 + j, none⟩ = some u) :
    Calls Try.prog 19 #[.slice (some ⟨b1, o1, none⟩) xs.length c1, .slice (some ⟨b2, o2, none⟩) xs.length c2] w fun e w' => e = .returned (.bool true) ∧ ∃ q, w' = w.drewN q := by
  have g1 : Hid (∀ j, j < xs.length → w.cell? ⟨b1, o1 + j, none⟩ = some (.int .i64 (xs.getD j 0 : Nat))) := fun j hj => h1 j _ (by simp [iv, hj])
  have g2 : Hid (∀ j, j < xs.length → w.cell? ⟨b2, o2 + j, none⟩ = some (.int .i64 (xs.getD j 0 : Nat))) := fun j hj => h2 j _ (by simp [iv, hj])
  clear h1 h2
  generalize xs.length = n at hl g1 g2 ⊢
  go_enter Try.func19, Try.ntmps19
  go_wp2
  go_loopw [5] (fun x wr => ∃ (k q : Nat), x = .int .i64 k ∧ k ≤ n ∧ wr = w.drewN q) (fun x _ => n - (intOf x).toNat)
  case atStart => exact ⟨0, 0, rfl, Nat.zero_le _, rfl⟩
  case round =>
    obtain ⟨k, q, rfl, hk, rfl⟩ := hrel
    by_cases hlt : k < n
    · have f1 := g1.out k hlt
      have f2 := g2.out k hlt
      have hk0 : (0 : Int) ≤ k := by omega
      have hkn : (k : Int) < n := by omega
      generalize xs.getD k 0 = y at f1 f2
      go_wp2
      go_quiet (fail)
      go_wp2
      exact ⟨⟨k + 1, _, by go_num, by omega, rfl⟩, by simp [intOf]; omega⟩
    · go_wp2
      go_ret
      exact ⟨rfl, _, rfl⟩

theorem same_eq (a b : Value) (xs : List Nat) (w : World) (ha : SliceAt w a (iv xs)) (hb : SliceAt w b (iv xs)) (hl : xs.length < 1000000) :
    Calls Try.prog 19 #[a, b] w fun e w' => e = .returned (.bool true) ∧ ∃ q, w' = w.drewN q := by
  have hn : (iv xs).length = xs.length := by simp [iv]
  rcases ha with ⟨rfl, ha⟩ | ⟨b1, o1, c1, rfl, ha⟩
  · have hx : xs = [] := by simpa [iv] using ha
    subst hx
    rcases hb with ⟨rfl, hb⟩ | ⟨b2, o2, c2, rfl, hb⟩
    · exact (same_nil _ _ _ _ w).mono fun e w' ⟨h1, h2⟩ => ⟨h1, 0, h2.symm⟩
    · exact (same_nil _ _ _ _ w).mono fun e w' ⟨h1, h2⟩ => ⟨h1, 0, h2.symm⟩
  · rcases hb with ⟨rfl, hb⟩ | ⟨b2, o2, c2, rfl, hb⟩
    · have hx : xs = [] := by simpa [iv] using hb
      subst hx
      exact (same_nil _ _ _ _ w).mono fun e w' ⟨h1, h2⟩ => ⟨h1, 0, h2.symm⟩
    · rw [hn]
      exact same_cells b1 o1 c1 b2 o2 c2 xs w hl ha hb
end Go.Proofs.Ytalcghkifkckaaa
