/- math/bits: Mul64, LeadingZeros64, Div64 by the modulus of the group. -/
import Derived.Test.YtekdekchbnacgaaPa
import Derived.Lib.Mul64
import Derived.Laws.Bits64b
import Derived.Lib.Hide
import Derived.Deep.RegionWith
import Derived.BigGuardPart
import Derived.Deep.CutBlock
import Derived.Deep.DeepCutAuto
namespace Go.Proofs.Ytekdekchbnacgaa
open Go.RowKit
set_option maxRecDepth 100000
set_option linter.unusedVariables false
set_option linter.unusedSimpArgs false

theorem maskN (a : Nat) (ha : a < 18446744073709551616) : bits .and .u64 (a : Int) 4294967295 = ((a % 4294967296 : Nat) : Int) := by
  have h := bits_and_u64_nat a 4294967295 ha (by omega)
  have e : a &&& 4294967295 = a % 4294967296 := Nat.and_two_pow_sub_one_eq_mod a 32
  rw [e] at h
  exact h
theorem divN (a : Nat) : (a : Int) / 4294967296 = ((a / 4294967296 : Nat) : Int) := by omega
theorem mulN (a b : Nat) : (a : Int) * (b : Int) = ((a * b : Nat) : Int) := (Int.natCast_mul a b).symm
theorem addN (a b : Nat) : (a : Int) + (b : Int) = ((a + b : Nat) : Int) := (Int.natCast_add a b).symm
theorem wrapN (a : Nat) (ha : a < 18446744073709551616) : IntKind.u64.wrap (a : Int) = (a : Int) := by rw [IntKind.wrap_u64]; omega
theorem wrapM (a : Nat) : IntKind.u64.wrap (a : Int) = ((a % 18446744073709551616 : Nat) : Int) := by rw [IntKind.wrap_u64]; omega

set_option maxHeartbeats 1000000 in
theorem mul64_any (x y : Nat) (hx : x < 18446744073709551616) (hy : y < 18446744073709551616) (w : World) :
    Calls Try.prog 87 #[.int .u64 x, .int .u64 y] w fun e w' => e = .returned (.tuple #[.int .u64 ((x * y / 18446744073709551616 : Nat) : Int), .int .u64 ((x * y % 18446744073709551616 : Nat) : Int)]) ∧ w = w' := by
  obtain ⟨bd, bt, bw, hhi⟩ := Lib.mul64_hi x y hx hy
  have ba := Lib.half_mul_le (a := x / 4294967296) (b := y / 4294967296) (by omega) (by omega)
  have bb := Lib.half_mul_le (a := x / 4294967296) (b := y % 4294967296) (by omega) (by omega)
  have bc := Lib.half_mul_le (a := x % 4294967296) (b := y / 4294967296) (by omega) (by omega)
  have ba' : x / 4294967296 * (y / 4294967296) < 18446744073709551616 := by omega
  have bb' : x / 4294967296 * (y % 4294967296) < 18446744073709551616 := by omega
  have bc' : x % 4294967296 * (y / 4294967296) < 18446744073709551616 := by omega
  have bh1 : x / 4294967296 * (y / 4294967296) + (x / 4294967296 * (y % 4294967296) + x % 4294967296 * (y % 4294967296) / 4294967296) / 4294967296 < 18446744073709551616 := by omega
  have bh : x / 4294967296 * (y / 4294967296) + (x / 4294967296 * (y % 4294967296) + x % 4294967296 * (y % 4294967296) / 4294967296) / 4294967296 + ((x / 4294967296 * (y % 4294967296) + x % 4294967296 * (y % 4294967296) / 4294967296) % 4294967296 + x % 4294967296 * (y / 4294967296)) / 4294967296 < 18446744073709551616 := by omega
  go_enter Try.func87, Try.ntmps87
  go_wp2
  simp only [maskN x hx, maskN y hy, divN, mulN, addN, wrapN _ bd, wrapN _ bb', wrapN _ bt, maskN _ bt, wrapN _ bc', wrapN _ bw, wrapN _ ba', wrapN _ bh1, wrapN _ bh, wrapM (x * y)]
  rw [hhi]
  go_ret2
  exact ⟨rfl, rfl⟩

theorem lz_P (w : World) : Calls Try.prog 96 #[.int .u64 4611686018427377339] w fun e w' => e = .returned (.int .i64 2) ∧ w = w' := by
  have hL := fun w => len64_any 4611686018427377339 (by decide) (by decide) w
  have e : bitLen (4611686018427377339 : Int).toNat = 62 := by decide +kernel
  rw [e] at hL
  go_enter Try.func96, Try.ntmps96
  go_wp2_with (go_at_call 83; refine (hL _).mono ?_; rintro e w' ⟨rfl, rfl⟩)
  go_ret
  exact ⟨rfl, rfl⟩

theorem t_step (q r u d : Nat) (h1 : q * 4294967295 + r = u) (hG : u * 4294967296 + d < q * 18446744073709509356) (hz : r = 0) : (q - 1) * 4294967295 + (r + 4294967295) = u ∧ u * 4294967296 + d < (q - 1 + 1) * 18446744073709509356 := by omega
theorem t_break (q r u d : Nat) (h1 : q * 4294967295 + r = u) (hu : u < 18446744073709509356) (hG : u * 4294967296 + d < q * 18446744073709509356) (hz : ¬ r = 0) (hq : q ≤ 4294967297) : (q - 1) * 18446744073709509356 ≤ u * 4294967296 + d ∧ u * 4294967296 + d < (q - 1 + 1) * 18446744073709509356 := by omega
theorem t_big (q r u d : Nat) (hd : d ≤ 4294967295) (hu : u < 18446744073709509356) (hb : 4294967296 ≤ q) : u * 4294967296 + d < q * 18446744073709509356 := by omega
theorem t_prod (q r u d : Nat) (h1 : q * 4294967295 + r = u) (hp : 4294967296 * r + d < q * 4294925036) : u * 4294967296 + d < q * 18446744073709509356 := by omega
theorem t_exit (q r u d : Nat) (h1 : q * 4294967295 + r = u) (hp : ¬ 4294967296 * r + d < q * 4294925036) : q * 18446744073709509356 ≤ u * 4294967296 + d := by omega
theorem t_start (u d : Nat) (hd : d ≤ 4294967295) (hu : u < 18446744073709509356) : u / 4294967295 * 4294967295 + u % 4294967295 = u ∧ u * 4294967296 + d < (u / 4294967295 + 1) * 18446744073709509356 := by omega
theorem t_v (u d k v : Nat) (h1 : k * 18446744073709509356 ≤ u * 4294967296 + d) (h2 : u * 4294967296 + d < (k + 1) * 18446744073709509356) (hv : v = u * 4294967296 + d - k * 18446744073709509356) : v < 18446744073709509356 ∧ v + k * 18446744073709509356 = u * 4294967296 + d := by omega
theorem t_qr (v q r : Nat) (hv : v < 18446744073709509356) (hq : q = v / 4294967295) (hr : r = v % 4294967295) :
    (v : Int) / 4294967295 = (q : Int) ∧ (v : Int) - (q : Int) * 4294967295 = (r : Int) ∧ q ≤ 4294967297 ∧ (q : Int) * 4294967295 ≤ (v : Int) ∧ r ≤ 4294967294 := by omega
theorem t_w (u d k v : Nat) (hv : v + k * 18446744073709509356 = u * 4294967296 + d) (bv : v < 18446744073709509356) :
    IntKind.u64.wrap (IntKind.u64.wrap (IntKind.u64.wrap ((u : Int) * 4294967296) + (d : Int)) - IntKind.u64.wrap ((k : Int) * 18446744073709509356)) = (v : Int) := by
  simp only [IntKind.wrap_u64]
  omega
theorem t_fin (hi lo u l d1 d0 k m v z : Nat) (hlo : lo < 18446744073709551616) (hhi : hi < 4611686018427377339) (hu : u = 4 * hi + lo / 4611686018427387904) (hl : l = lo * 4 % 18446744073709551616) (hd1 : d1 = l / 4294967296) (hd0 : d0 = l % 4294967296)
   (hve : v + k * 18446744073709509356 = u * 4294967296 + d1) (hm1 : m * 18446744073709509356 ≤ v * 4294967296 + d0) (hm2 : v * 4294967296 + d0 < (m + 1) * 18446744073709509356) (hz : z = (v * 4294967296 + d0 - m * 18446744073709509356) / 4) :
   hi * 18446744073709551616 + lo = (k * 4294967296 + m) * 4611686018427377339 + z ∧ z < 4611686018427377339 ∧ 4 * z + m * 18446744073709509356 = v * 4294967296 + d0 := by
  have h1 : l = d1 * 4294967296 + d0 := by omega
  have h2 : u * 18446744073709551616 + l = 4 * (hi * 18446744073709551616 + lo) := by omega
  clear hu hl hd1 hd0
  obtain ⟨A, hA⟩ : ∃ A, A = v * 4294967296 + d0 := ⟨_, rfl⟩
  obtain ⟨B, hB⟩ : ∃ B, B = hi * 18446744073709551616 + lo := ⟨_, rfl⟩
  obtain ⟨K, hK⟩ : ∃ K, K = k * 4294967296 := ⟨_, rfl⟩
  have h4 : A + K * 18446744073709509356 = 4 * B := by omega
  rw [← hA] at hm1 hm2 hz
  rw [← hA, ← hB, ← hK]
  clear hve h1 h2 hA hB hK
  omega
set_option maxHeartbeats 1000000 in
theorem div64_0 (lo : Nat) (hlo : lo < 18446744073709551616) (w : World) :
    Calls Try.prog 88 #[.int .u64 0, .int .u64 lo, .int .u64 4611686018427377339] w fun e w' =>
      ∃ q : Int, e = .returned (.tuple #[.int .u64 q, .int .u64 ((lo % 4611686018427377339 : Nat) : Int)]) ∧ Below w.heap.size w w' := by
  have h1 : (0 : Int) ≤ lo := by omega
  go_enter Try.func88, Try.ntmps88
  go_upto_region 6 with fail
  go_quiet (fail)
  go_wp2
  go_ret2
  exact ⟨_, rfl, rfl, rfl, rfl, Nat.le_refl _, fun _ _ => rfl⟩
set_option maxHeartbeats 1000000 in
theorem div64_1 (hi lo : Nat) (h0 : 1 ≤ hi) (hhi : hi < 4611686018427377339) (hlo : lo < 18446744073709551616) (w : World) :
    Calls Try.prog 88 #[.int .u64 hi, .int .u64 lo, .int .u64 4611686018427377339] w fun e w' =>
      ∃ q : Int, e = .returned (.tuple #[.int .u64 q, .int .u64 (((hi * 18446744073709551616 + lo) % 4611686018427377339 : Nat) : Int)]) ∧ Below w.heap.size w w' := by
  obtain ⟨u, hu⟩ : ∃ u : Nat, u = 4 * hi + lo / 4611686018427387904 := ⟨_, rfl⟩
  obtain ⟨l, hl⟩ : ∃ l : Nat, l = lo * 4 % 18446744073709551616 := ⟨_, rfl⟩
  obtain ⟨d1, hd1⟩ : ∃ d1 : Nat, d1 = l / 4294967296 := ⟨_, rfl⟩
  obtain ⟨d0, hd0⟩ : ∃ d0 : Nat, d0 = l % 4294967296 := ⟨_, rfl⟩
  obtain ⟨q, hq⟩ : ∃ q : Nat, q = u / 4294967295 := ⟨_, rfl⟩
  obtain ⟨r, hr⟩ : ∃ r : Nat, r = u % 4294967295 := ⟨_, rfl⟩
  have E0 : bits .and .u64 18446744073709509356 4294967295 = 4294925036 := by decide +kernel
  have E1 : bits .or .u64 ((hi : Int) * 4) ((lo : Int) / 4611686018427387904) = (u : Int) := by
    have e1 : (hi : Int) * 4 = ((hi * 4 : Nat) : Int) := by omega
    have e2 : (lo : Int) / 4611686018427387904 = ((lo / 4611686018427387904 : Nat) : Int) := by omega
    rw [e1, e2, bits_or_u64_nat _ _ (by omega) (by omega), hu]
    have h := Nat.two_pow_add_eq_or_of_lt (i := 2) (b := lo / 4611686018427387904) (by omega) hi
    rw [show 2 ^ 2 * hi = hi * 4 by omega] at h
    rw [← h]
    omega
  have E2 : IntKind.u64.wrap ((lo : Int) * 4) = (l : Int) := by rw [IntKind.wrap_u64, hl]; omega
  have E3 : (l : Int) / 4294967296 = (d1 : Int) := by omega
  have E4 : bits .and .u64 (l : Int) 4294967295 = (d0 : Int) := by rw [maskN l (by omega), hd0]
  have bu : u < 18446744073709509356 := by omega
  have bd1 : d1 ≤ 4294967295 := by omega
  have bd0 : d0 ≤ 4294967295 := by omega
  obtain ⟨E5, E6, bq, bq1, br⟩ := t_qr u q r bu hq hr
  have HJ : Hid (q * 4294967295 + r = u ∧ u * 4294967296 + d1 < (q + 1) * 18446744073709509356) := Lib.hid (by rw [hq, hr]; exact t_start u d1 bd1 bu)
  have HU := Lib.hid hu
  have HL := Lib.hid hl
  have HD1 := Lib.hid hd1
  have HD0 := Lib.hid hd0
  clear hu hl hd1 hd0 hq hr
  have HLZ := Lib.hid lz_P
  have hd1 : decide ((4611686018427377339 : Int) ≤ (hi : Int)) = false := by simp; omega
  have hd2 : decide (hi = 0) = false := by simp; omega
  have hd3 : decide ((hi : Int) = 0) = false := by simp; omega
  go_enter Try.func88, Try.ntmps88
  go_upto_block 0 with (go_at_call 96; refine (HLZ.out _).mono ?_; rintro e w' ⟨rfl, rfl⟩)
  clear E0 E1 E2 E3 E4 E5 E6 hd1 hd2 hd3
  go_cut [15, 16] (fun sq s16 wx => ∃ k : Nat, sq = .int .u64 k ∧ Hid (k * 18446744073709509356 ≤ u * 4294967296 + d1 ∧ u * 4294967296 + d1 < (k + 1) * 18446744073709509356) ∧ w = wx)
  case first =>
    go_wp2_with fail
    go_loop [15, 16] (fun sq s16 => ∃ q r : Nat, sq = .int .u64 q ∧ s16 = .int .u64 r ∧ q ≤ 4294967297 ∧ r ≤ 4294967295 ∧ Hid (q * 4294967295 + r = u ∧ u * 4294967296 + d1 < (q + 1) * 18446744073709509356)) (fun sq _ => (intOf sq).toNat)
    case atStart => exact ⟨q, r, rfl, rfl, bq, by omega, HJ⟩
    case round =>
      clear bq bq1 br HJ
      have bd := bd1
      have bu := bu
      obtain ⟨q, r, rfl, rfl, bq, br, HJ⟩ := hrel
      obtain ⟨HJ1, HJ2⟩ := HJ.out
      by_cases hb : 4294967296 ≤ q
      · have hb1 : decide ((4294967296 : Int) ≤ (q : Int)) = true := by simp; omega
        have HGh := Lib.hid (t_big q r u d1 bd bu hb)
        have H1 := Lib.hid HJ1
        clear HJ1 HJ2 HJ
        go_upto_region 20 with fail
        by_cases hz : r = 0
        · have hb2 : decide ((4294967296 : Int) ≤ (r : Int) + 4294967295) = false := by simp; omega
          go_wp2_with fail
          refine ⟨⟨q - 1, r + 4294967295, ?_, ?_, by omega, by omega, Lib.hid (t_step q r _ _ H1.out HGh.out hz)⟩, ?_⟩
          · exact congrArg (Value.int .u64) (by omega)
          · exact congrArg (Value.int .u64) (by omega)
          · simp only [intOf]; omega
        · have hb2 : decide ((4294967296 : Int) ≤ (r : Int) + 4294967295) = true := by simp; omega
          go_wp2_with fail
          go_meet
          exact ⟨q - 1, congrArg (Value.int .u64) (by omega), Lib.hid (t_break q r _ _ H1.out bu HGh.out hz bq), rfl⟩
      · have hb1 : decide ((4294967296 : Int) ≤ (q : Int)) = false := by simp; omega
        by_cases hp : 4294967296 * r + d1 < q * 4294925036
        · have hb3 : decide ((4294967296 : Int) * (r : Int) + (d1 : Int) < (q : Int) * 4294925036) = true := by simp; omega
          have bq0 : 1 ≤ q := by omega
          have HGh := Lib.hid (t_prod q r u d1 HJ1 hp)
          have H1 := Lib.hid HJ1
          clear HJ1 HJ2 HJ hp
          go_upto_region 20 with fail
          by_cases hz : r = 0
          · have hb2 : decide ((4294967296 : Int) ≤ (r : Int) + 4294967295) = false := by simp; omega
            go_wp2_with fail
            refine ⟨⟨q - 1, r + 4294967295, ?_, ?_, by omega, by omega, Lib.hid (t_step q r _ _ H1.out HGh.out hz)⟩, ?_⟩
            · exact congrArg (Value.int .u64) (by omega)
            · exact congrArg (Value.int .u64) (by omega)
            · simp only [intOf]; omega
          · have hb2 : decide ((4294967296 : Int) ≤ (r : Int) + 4294967295) = true := by simp; omega
            go_wp2_with fail
            go_meet
            exact ⟨q - 1, congrArg (Value.int .u64) (by omega), Lib.hid (t_break q r _ _ H1.out bu HGh.out hz bq), rfl⟩
        · have hb3 : decide ((4294967296 : Int) * (r : Int) + (d1 : Int) < (q : Int) * 4294925036) = false := by simp; omega
          have HF : Hid (q * 18446744073709509356 ≤ u * 4294967296 + d1 ∧ u * 4294967296 + d1 < (q + 1) * 18446744073709509356) := Lib.hid ⟨t_exit q r _ _ HJ1 hp, HJ2⟩
          clear HJ1 HJ2 HJ hp
          go_wp2_with fail
          go_meet
          exact ⟨q, rfl, HF, rfl⟩
  obtain ⟨k, rfl, HK, rfl⟩ := hcut
  obtain ⟨v, hv⟩ : ∃ v : Nat, v = u * 4294967296 + d1 - k * 18446744073709509356 := ⟨_, rfl⟩
  obtain ⟨bv, hve⟩ := t_v u d1 k v HK.out.1 HK.out.2 hv
  have HVE := Lib.hid hve
  clear hv hve
  have E7 := t_w u d1 k v HVE.out bv
  obtain ⟨q2, hq2⟩ : ∃ q2 : Nat, q2 = v / 4294967295 := ⟨_, rfl⟩
  obtain ⟨r2, hr2⟩ : ∃ r2 : Nat, r2 = v % 4294967295 := ⟨_, rfl⟩
  clear bq bq1 br HJ
  obtain ⟨E8, E9, bq, bq1, br⟩ := t_qr v q2 r2 bv hq2 hr2
  have HJ : Hid (q2 * 4294967295 + r2 = v ∧ v * 4294967296 + d0 < (q2 + 1) * 18446744073709509356) := Lib.hid (by rw [hq2, hr2]; exact t_start v d0 bd0 bv)
  clear hq2 hr2
  go_upto_block 2 with fail
  clear E7 E8 E9
  go_cut [18, 16] (fun sq s16 wx => ∃ k : Nat, sq = .int .u64 k ∧ Hid (k * 18446744073709509356 ≤ v * 4294967296 + d0 ∧ v * 4294967296 + d0 < (k + 1) * 18446744073709509356) ∧ w = wx)
  case first =>
    go_wp2_with fail
    go_loop [18, 16] (fun sq s16 => ∃ q r : Nat, sq = .int .u64 q ∧ s16 = .int .u64 r ∧ q ≤ 4294967297 ∧ r ≤ 4294967295 ∧ Hid (q * 4294967295 + r = v ∧ v * 4294967296 + d0 < (q + 1) * 18446744073709509356)) (fun sq _ => (intOf sq).toNat)
    case atStart => exact ⟨q2, r2, rfl, rfl, bq, by omega, HJ⟩
    case round =>
      clear bq bq1 br HJ
      have bd := bd0
      have bu := bv
      obtain ⟨q, r, rfl, rfl, bq, br, HJ⟩ := hrel
      obtain ⟨HJ1, HJ2⟩ := HJ.out
      by_cases hb : 4294967296 ≤ q
      · have hb1 : decide ((4294967296 : Int) ≤ (q : Int)) = true := by simp; omega
        have HGh := Lib.hid (t_big q r v d0 bd bu hb)
        have H1 := Lib.hid HJ1
        clear HJ1 HJ2 HJ
        go_upto_region 27 with fail
        by_cases hz : r = 0
        · have hb2 : decide ((4294967296 : Int) ≤ (r : Int) + 4294967295) = false := by simp; omega
          go_wp2_with fail
          refine ⟨⟨q - 1, r + 4294967295, ?_, ?_, by omega, by omega, Lib.hid (t_step q r _ _ H1.out HGh.out hz)⟩, ?_⟩
          · exact congrArg (Value.int .u64) (by omega)
          · exact congrArg (Value.int .u64) (by omega)
          · simp only [intOf]; omega
        · have hb2 : decide ((4294967296 : Int) ≤ (r : Int) + 4294967295) = true := by simp; omega
          go_wp2_with fail
          go_meet
          exact ⟨q - 1, congrArg (Value.int .u64) (by omega), Lib.hid (t_break q r _ _ H1.out bu HGh.out hz bq), rfl⟩
      · have hb1 : decide ((4294967296 : Int) ≤ (q : Int)) = false := by simp; omega
        by_cases hp : 4294967296 * r + d0 < q * 4294925036
        · have hb3 : decide ((4294967296 : Int) * (r : Int) + (d0 : Int) < (q : Int) * 4294925036) = true := by simp; omega
          have bq0 : 1 ≤ q := by omega
          have HGh := Lib.hid (t_prod q r v d0 HJ1 hp)
          have H1 := Lib.hid HJ1
          clear HJ1 HJ2 HJ hp
          go_upto_region 27 with fail
          by_cases hz : r = 0
          · have hb2 : decide ((4294967296 : Int) ≤ (r : Int) + 4294967295) = false := by simp; omega
            go_wp2_with fail
            refine ⟨⟨q - 1, r + 4294967295, ?_, ?_, by omega, by omega, Lib.hid (t_step q r _ _ H1.out HGh.out hz)⟩, ?_⟩
            · exact congrArg (Value.int .u64) (by omega)
            · exact congrArg (Value.int .u64) (by omega)
            · simp only [intOf]; omega
          · have hb2 : decide ((4294967296 : Int) ≤ (r : Int) + 4294967295) = true := by simp; omega
            go_wp2_with fail
            go_meet
            exact ⟨q - 1, congrArg (Value.int .u64) (by omega), Lib.hid (t_break q r _ _ H1.out bu HGh.out hz bq), rfl⟩
        · have hb3 : decide ((4294967296 : Int) * (r : Int) + (d0 : Int) < (q : Int) * 4294925036) = false := by simp; omega
          have HF : Hid (q * 18446744073709509356 ≤ v * 4294967296 + d0 ∧ v * 4294967296 + d0 < (q + 1) * 18446744073709509356) := Lib.hid ⟨t_exit q r _ _ HJ1 hp, HJ2⟩
          clear HJ1 HJ2 HJ hp
          go_wp2_with fail
          go_meet
          exact ⟨q, rfl, HF, rfl⟩
  obtain ⟨m, rfl, HM, rfl⟩ := hcut
  obtain ⟨z, hz⟩ : ∃ z : Nat, z = (v * 4294967296 + d0 - m * 18446744073709509356) / 4 := ⟨_, rfl⟩
  obtain ⟨hf1, hf2, hf3⟩ := t_fin hi lo u l d1 d0 k m v z hlo hhi HU.out HL.out HD1.out HD0.out HVE.out HM.out.1 HM.out.2 hz
  have hfin : ((hi * 18446744073709551616 + lo) % 4611686018427377339 : Nat) = z := by
    rw [hf1, Nat.mul_comm, Nat.mul_add_mod, Nat.mod_eq_of_lt hf2]
  obtain ⟨y4, hy4⟩ : ∃ y4 : Nat, y4 = 4 * z := ⟨_, rfl⟩
  rw [← hy4] at hf3
  have E10 := t_w v d0 m y4 hf3 (by omega)
  have E11 : (y4 : Int) / 4 = (z : Int) := by omega
  have HFIN := Lib.hid hfin
  clear hz hf1 hf2 hf3 hfin hy4
  go_wp2_with fail
  go_ret2
  rw [HFIN.out]
  exact ⟨_, rfl, Below.refl _ _⟩
end Go.Proofs.Ytekdekchbnacgaa
