/- The walks of the laws of stage 20, part 1: PathsSpec, PathsUnderSpec. -/
import Derived.Test.YtalcghkifkckaaaPg
import Derived.OpenShut
namespace Go.Proofs.Ytalcghkifkckaaa
open Go.RowKit
set_option maxRecDepth 100000
set_option linter.unusedVariables false

/-- The answers at whatever number: a device's leaf, its error, its path, its copath; a node's level, its error, the devices under it; the common node. -/
def okD (d : Int) : Prop := 0 ≤ d ∧ d < 512
def okN (n : Int) : Prop := 1 ≤ n ∧ n < 1024
instance (d : Int) : Decidable (okD d) := by unfold okD; infer_instance
instance (d : Int) : Decidable (okN d) := by unfold okN; infer_instance
def lfV (d : Int) : Int := if okD d then 512 + d else 0
def erD (d : Int) : Int := if okD d then 0 else 200
def pathV (d : Int) : List Nat := if okD d then pathN d.toNat else []
def copV (d : Int) : List Nat := if okD d then copN d.toNat else []
def lvV (n : Int) : Int := if okN n then levN n.toNat else 0
def erN (n : Int) : Int := if okN n then 0 else 200
def frV (n : Int) : Int := if okN n then froN n.toNat else 0
def toV (n : Int) : Int := if okN n then toN n.toNat else 0
def cmV (a b : Int) : Int := if okD a ∧ okD b then comN (512 + a.toNat) (512 + b.toNat) else 0
def erC (a b : Int) : Int := if okD a ∧ okD b then 0 else 200

theorem leaf_all (d : Int) (w : World) : Calls Try.prog 11 #[.int .i64 d] w fun e w' => e = .returned (.tuple #[.int .i64 (lfV d), .int .i64 (erD d)]) ∧ w = w' := by
  unfold lfV erD
  by_cases h : okD d
  · rw [if_pos h, if_pos h]; exact leaf_ok d h.1 h.2 w
  · rw [if_neg h, if_neg h]; exact leaf_no d (by unfold okD at h; omega) w
theorem rleaf_all (d : Int) (w : World) : Calls Try.prog 12 #[.int .i64 d] w fun e w' => e = .returned (.tuple #[.int .i64 (lfV d), .int .i64 (erD d)]) ∧ w = w' := by
  unfold lfV erD
  by_cases h : okD d
  · rw [if_pos h, if_pos h]; exact rleaf_ok d h.1 h.2 w
  · rw [if_neg h, if_neg h]; exact rleaf_no d (by unfold okD at h; omega) w
theorem level_all (n : Int) (w : World) : Calls Try.prog 13 #[.int .i64 n] w fun e w' => e = .returned (.tuple #[.int .i64 (lvV n), .int .i64 (erN n)]) ∧ w = w' := by
  unfold lvV erN
  by_cases h : okN n
  · obtain ⟨m, rfl⟩ := Int.eq_ofNat_of_zero_le (by have := h.1; omega : 0 ≤ n)
    rw [if_pos h, if_pos h, Int.toNat_natCast]; exact level_ok m (by have := h.1; omega) (by have := h.2; omega) w
  · rw [if_neg h, if_neg h]; exact level_no n (by unfold okN at h; omega) w
theorem rlevel_all (n : Int) (w : World) : Calls Try.prog 14 #[.int .i64 n] w fun e w' => e = .returned (.tuple #[.int .i64 (lvV n), .int .i64 (erN n)]) ∧ w = w' := by
  unfold lvV erN
  by_cases h : okN n
  · obtain ⟨m, rfl⟩ := Int.eq_ofNat_of_zero_le (by have := h.1; omega : 0 ≤ n)
    rw [if_pos h, if_pos h, Int.toNat_natCast]; exact rlevel_ok m (by have := h.1; omega) (by have := h.2; omega) w
  · rw [if_neg h, if_neg h]; exact rlevel_no n (by unfold okN at h; omega) w
theorem under_all (n : Int) (w : World) : Calls Try.prog 20 #[.int .i64 n] w fun e w' => e = .returned (.tuple #[.int .i64 (frV n), .int .i64 (toV n), .int .i64 (erN n)]) ∧ Below w.heap.size w w' := by
  unfold frV toV erN
  by_cases h : okN n
  · obtain ⟨m, rfl⟩ := Int.eq_ofNat_of_zero_le (by have := h.1; omega : 0 ≤ n)
    rw [if_pos h, if_pos h, if_pos h, Int.toNat_natCast]; exact under_okB m (by have := h.1; omega) (by have := h.2; omega) w
  · rw [if_neg h, if_neg h, if_neg h]; exact (under_no n (by unfold okN at h; omega) w).mono fun _ _ ⟨h1, h2⟩ => ⟨h1, h2 ▸ Below.refl _ _⟩
theorem runder_all (n : Int) (w : World) : Calls Try.prog 21 #[.int .i64 n] w fun e w' => e = .returned (.tuple #[.int .i64 (frV n), .int .i64 (toV n), .int .i64 (erN n)]) ∧ w = w' := by
  unfold frV toV erN
  by_cases h : okN n
  · obtain ⟨m, rfl⟩ := Int.eq_ofNat_of_zero_le (by have := h.1; omega : 0 ≤ n)
    rw [if_pos h, if_pos h, if_pos h, Int.toNat_natCast]; exact runder_ok m (by have := h.1; omega) (by have := h.2; omega) w
  · rw [if_neg h, if_neg h, if_neg h]; exact runder_no n (by unfold okN at h; omega) w
theorem common_all (a b : Int) (w : World) : Calls Try.prog 22 #[.int .i64 a, .int .i64 b] w fun e w' => e = .returned (.tuple #[.int .i64 (cmV a b), .int .i64 (erC a b)]) ∧ w = w' := by
  unfold cmV erC
  by_cases h : okD a ∧ okD b
  · obtain ⟨m, rfl⟩ := Int.eq_ofNat_of_zero_le h.1.1
    obtain ⟨k, rfl⟩ := Int.eq_ofNat_of_zero_le h.2.1
    rw [if_pos h, if_pos h, Int.toNat_natCast, Int.toNat_natCast]; exact common_ok m k (by have := h.1.2; omega) (by have := h.2.2; omega) w
  · rw [if_neg h, if_neg h]; exact common_no a b (by unfold okD at h; omega) w
theorem rcommon_all (a b : Int) (w : World) : Calls Try.prog 23 #[.int .i64 a, .int .i64 b] w fun e w' => e = .returned (.tuple #[.int .i64 (cmV a b), .int .i64 (erC a b)]) ∧ w = w' := by
  unfold cmV erC
  by_cases h : okD a ∧ okD b
  · obtain ⟨m, rfl⟩ := Int.eq_ofNat_of_zero_le h.1.1
    obtain ⟨k, rfl⟩ := Int.eq_ofNat_of_zero_le h.2.1
    rw [if_pos h, if_pos h, Int.toNat_natCast, Int.toNat_natCast]; exact rcommon_ok m k (by have := h.1.2; omega) (by have := h.2.2; omega) w
  · rw [if_neg h, if_neg h]; exact rcommon_no a b (by unfold okD at h; omega) w
theorem path_all (d : Int) (w : World) : Calls Try.prog 15 #[.int .i64 d] w fun e w' => ∃ v, e = .returned (.tuple #[v, .int .i64 (erD d)]) ∧ SliceAt w' v (iv (pathV d)) ∧ Below w.heap.size w w' := by
  unfold pathV erD
  by_cases h : okD d
  · obtain ⟨m, rfl⟩ := Int.eq_ofNat_of_zero_le h.1
    rw [if_pos h, if_pos h, Int.toNat_natCast]; exact (path_ok m (by have := h.2; omega) w).mono fun _ _ ⟨v, h1, h2, h3⟩ => ⟨v, h1, .of_row h2, h3⟩
  · rw [if_neg h, if_neg h]; exact (path_no d (by unfold okD at h; omega) w).mono fun _ _ ⟨h1, h3⟩ => ⟨_, h1, .inl ⟨rfl, rfl⟩, h3⟩
theorem rpath_all (d : Int) (w : World) : Calls Try.prog 16 #[.int .i64 d] w fun e w' => ∃ v, e = .returned (.tuple #[v, .int .i64 (erD d)]) ∧ SliceAt w' v (iv (pathV d)) ∧ Below w.heap.size w w' := by
  unfold pathV erD
  by_cases h : okD d
  · obtain ⟨m, rfl⟩ := Int.eq_ofNat_of_zero_le h.1
    rw [if_pos h, if_pos h, Int.toNat_natCast]; exact (rpath_ok m (by have := h.2; omega) w).mono fun _ _ ⟨v, h1, h2, h3⟩ => ⟨v, h1, .of_row h2, h3⟩
  · rw [if_neg h, if_neg h]; exact (rpath_no d (by unfold okD at h; omega) w).mono fun _ _ ⟨h1, h3⟩ => ⟨_, h1, .inl ⟨rfl, rfl⟩, h3 ▸ Below.refl _ _⟩
theorem copath_all (d : Int) (w : World) : Calls Try.prog 17 #[.int .i64 d] w fun e w' => ∃ v, e = .returned (.tuple #[v, .int .i64 (erD d)]) ∧ SliceAt w' v (iv (copV d)) ∧ Below w.heap.size w w' := by
  unfold copV erD
  by_cases h : okD d
  · obtain ⟨m, rfl⟩ := Int.eq_ofNat_of_zero_le h.1
    rw [if_pos h, if_pos h, Int.toNat_natCast]; exact (copath_ok m (by have := h.2; omega) w).mono fun _ _ ⟨v, h1, h2, h3⟩ => ⟨v, h1, .of_row h2, h3⟩
  · rw [if_neg h, if_neg h]; exact (copath_no d (by unfold okD at h; omega) w).mono fun _ _ ⟨h1, h3⟩ => ⟨_, h1, .inl ⟨rfl, rfl⟩, h3⟩
theorem rcopath_all (d : Int) (w : World) : Calls Try.prog 18 #[.int .i64 d] w fun e w' => ∃ v, e = .returned (.tuple #[v, .int .i64 (erD d)]) ∧ SliceAt w' v (iv (copV d)) ∧ Below w.heap.size w w' := by
  unfold copV erD
  by_cases h : okD d
  · obtain ⟨m, rfl⟩ := Int.eq_ofNat_of_zero_le h.1
    rw [if_pos h, if_pos h, Int.toNat_natCast]; exact (rcopath_ok m (by have := h.2; omega) w).mono fun _ _ ⟨v, h1, h2, h3⟩ => ⟨v, h1, .of_row h2, h3⟩
  · rw [if_neg h, if_neg h]; exact (rcopath_no d (by unfold okD at h; omega) w).mono fun _ _ ⟨h1, h3⟩ => ⟨_, h1, .inl ⟨rfl, rfl⟩, h3 ▸ Below.refl _ _⟩
theorem pathV_len (d : Int) : (pathV d).length < 1000000 := by
  unfold pathV
  split
  · rename_i h; have := pathN_length d.toNat (by have := h.1; have := h.2; omega); omega
  · decide
theorem copV_len (d : Int) : (copV d).length < 1000000 := by
  unfold copV
  split
  · rename_i h; have := copN_length d.toNat (by have := h.1; have := h.2; omega); omega
  · decide

/-- Worlds one behind the other. -/
theorem Below.then {a b c : World} (h : Below a.heap.size a b) (k : Below b.heap.size b c) : Below a.heap.size a c := h.trans (k.mono h.size)

set_option maxHeartbeats 2000000 in
theorem walk_PathsSpec (d : Int) (hd : (Lit.int .i64 d).wf = true) (n : Int) (hn : (Lit.int .i64 n).wf = true) (w : World) :
    Calls Try.prog 3 #[.int .i64 d, .int .i64 n] w fun e w' => e = .returned (.bool true) ∧ Below w.heap.size w w' := by
  go_enter Try.func3, Try.ntmps3
  go_wp2_with fail
  refine (sane_true _).mono ?_
  rintro e w1 ⟨rfl, hB1⟩
  go_wp2_with fail
  refine (leaf_all _ _).mono ?_
  rintro e w' ⟨rfl, rfl⟩
  go_wp2_with fail
  refine (rleaf_all _ _).mono ?_
  rintro e w' ⟨rfl, rfl⟩
  go_wp2_with fail
  refine (level_all _ _).mono ?_
  rintro e w' ⟨rfl, rfl⟩
  go_wp2_with fail
  refine (rlevel_all _ _).mono ?_
  rintro e w' ⟨rfl, rfl⟩
  go_wp2_with fail
  refine (path_all _ _).mono ?_
  rintro e w2 ⟨p, rfl, hp, hB2⟩
  go_wp2_with fail
  refine (rpath_all _ _).mono ?_
  rintro e w3 ⟨q, rfl, hq, hB3⟩
  go_wp2_with fail
  refine (copath_all _ _).mono ?_
  rintro e w4 ⟨x, rfl, hx, hB4⟩
  go_wp2_with fail
  refine (rcopath_all _ _).mono ?_
  rintro e w5 ⟨y, rfl, hy, hB5⟩
  have HP := Lib.hid ((hp.below hB3).below (Below.then hB4 hB5))
  have HQ := Lib.hid (hq.below (Below.then hB4 hB5))
  have HX := Lib.hid (hx.below hB5)
  have HY := Lib.hid hy
  have HB := Lib.hid (Below.then hB1 (Below.then hB2 (Below.then hB3 (Below.then hB4 hB5))))
  clear hp hq hx hy hB1 hB2 hB3 hB4 hB5
  go_wp2_with fail
  refine (same_eqB p q _ _ HP.out HQ.out (pathV_len d)).mono ?_
  rintro e w6 ⟨rfl, hB6⟩
  have HX6 := Lib.hid (HX.out.below hB6)
  have HY6 := Lib.hid (HY.out.below hB6)
  have HB6 := Lib.hid (Below.then HB.out hB6)
  clear HX HY HB HP HQ hB6
  go_wp2_with fail
  refine (same_eqB x y _ _ HX6.out HY6.out (copV_len d)).mono ?_
  rintro e w7 ⟨rfl, hB7⟩
  have HB7 := Lib.hid (Below.then HB6.out hB7)
  clear hB7
  go_wp2
  go_ret
  exact ⟨rfl, HB7.out⟩

set_option maxHeartbeats 2000000 in
theorem walk_PathsUnderSpec (n : Int) (hn : (Lit.int .i64 n).wf = true) (a : Int) (ha : (Lit.int .i64 a).wf = true) (b : Int) (hb : (Lit.int .i64 b).wf = true) (w : World) :
    Calls Try.prog 4 #[.int .i64 n, .int .i64 a, .int .i64 b] w fun e w' => e = .returned (.bool true) ∧ Below w.heap.size w w' := by
  go_enter Try.func4, Try.ntmps4
  go_wp2_with fail
  refine (sane_true _).mono ?_
  rintro e w1 ⟨rfl, hB1⟩
  go_wp2_with fail
  refine (under_all _ _).mono ?_
  rintro e w2 ⟨rfl, hB2⟩
  go_wp2_with fail
  refine (runder_all _ _).mono ?_
  rintro e w' ⟨rfl, rfl⟩
  go_wp2_with fail
  refine (common_all _ _ _).mono ?_
  rintro e w' ⟨rfl, rfl⟩
  go_wp2_with fail
  refine (rcommon_all _ _ _).mono ?_
  rintro e w' ⟨rfl, rfl⟩
  have HB := Lib.hid (Below.then hB1 hB2)
  clear hB1 hB2
  go_wp2
  go_ret
  exact ⟨rfl, HB.out⟩
end Go.Proofs.Ytalcghkifkckaaa
