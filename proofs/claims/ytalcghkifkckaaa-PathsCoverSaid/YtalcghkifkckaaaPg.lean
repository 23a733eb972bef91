/- The law's own check of the chapter's examples returns true. -/
import Derived.Test.YtalcghkifkckaaaPf
import Derived.WalkSmall
namespace Go.Proofs.Ytalcghkifkckaaa
open Go.RowKit
set_option maxRecDepth 100000

theorem SliceAt.new (w : World) (xs : List Value) (t : TypeId) (n : Nat) (hn : xs.length = n) : SliceAt (w.alloc (.cells xs.toArray t)) (.slice (some ⟨w.heap.size, 0, none⟩) n n) xs := by
  subst hn
  refine .inr ⟨w.heap.size, 0, xs.length, rfl, fun j u hj => ?_⟩
  have hb : (w.alloc (.cells xs.toArray t)).heap[w.heap.size]? = some (.cells xs.toArray t) := World.alloc_heap_new w _
  simp only [World.cell?]
  rw [hb]
  simpa using hj

theorem below_drewN' (w : World) (q : Nat) : Below w.heap.size w (w.drewN q) := below_drewN (Below.refl _ _) q

theorem same_eqB (a b : Value) (xs : List Nat) (w : World) (ha : SliceAt w a (iv xs)) (hb : SliceAt w b (iv xs)) (hl : xs.length < 1000000) :
    Calls Try.prog 19 #[a, b] w fun e w' => e = .returned (.bool true) ∧ Below w.heap.size w w' :=
  (same_eq a b xs w ha hb hl).mono fun _ _ ⟨h, q, e⟩ => ⟨h, by rw [e]; exact below_drewN' w q⟩

theorem under_okB (n : Nat) (h0 : 1 ≤ n) (h1 : n < 1024) (w : World) :
    Calls Try.prog 20 #[.int .i64 n] w fun e w' => e = .returned (.tuple #[.int .i64 (froN n), .int .i64 (toN n), .int .i64 0]) ∧ Below w.heap.size w w' :=
  (under_ok n h0 h1 w).mono fun _ _ ⟨h, q, e⟩ => ⟨h, by rw [e]; exact below_drewN' w q⟩

theorem s_path (w : World) : Calls Try.prog 15 #[.int .i64 3] w fun e w' => ∃ v, e = .returned (.tuple #[v, .int .i64 0]) ∧ SliceAt w' v (iv [257, 128, 64, 32, 16, 8, 4, 2, 1]) ∧ Below w.heap.size w w' :=
  (path_ok 3 (by decide) w).mono fun _ _ ⟨v, h1, h2, h3⟩ => ⟨v, h1, (show pathN 3 = [257, 128, 64, 32, 16, 8, 4, 2, 1] by decide) ▸ SliceAt.of_row h2, h3⟩
theorem s_copath (w : World) : Calls Try.prog 17 #[.int .i64 3] w fun e w' => ∃ v, e = .returned (.tuple #[v, .int .i64 0]) ∧ SliceAt w' v (iv [514, 256, 129, 65, 33, 17, 9, 5, 3]) ∧ Below w.heap.size w w' :=
  (copath_ok 3 (by decide) w).mono fun _ _ ⟨v, h1, h2, h3⟩ => ⟨v, h1, (show copN 3 = [514, 256, 129, 65, 33, 17, 9, 5, 3] by decide) ▸ SliceAt.of_row h2, h3⟩
theorem s_level (w : World) : Calls Try.prog 13 #[.int .i64 2] w fun e w' => e = .returned (.tuple #[.int .i64 8, .int .i64 0]) ∧ w = w' := by
  have h := level_ok 2 (by decide) (by decide) w
  rw [show levN 2 = 8 by decide] at h
  exact h
theorem s_under (w : World) : Calls Try.prog 20 #[.int .i64 257] w fun e w' => e = .returned (.tuple #[.int .i64 2, .int .i64 4, .int .i64 0]) ∧ Below w.heap.size w w' := by
  have h := under_okB 257 (by decide) (by decide) w
  rw [show froN 257 = 2 by decide, show toN 257 = 4 by decide] at h
  exact h
theorem s_common1 (w : World) : Calls Try.prog 22 #[.int .i64 2, .int .i64 3] w fun e w' => e = .returned (.tuple #[.int .i64 257, .int .i64 0]) ∧ w = w' := by
  have h := common_ok 2 3 (by decide) (by decide) w
  rw [show comN (512 + 2) (512 + 3) = 257 by decide] at h
  exact h
theorem s_common2 (w : World) : Calls Try.prog 22 #[.int .i64 0, .int .i64 511] w fun e w' => e = .returned (.tuple #[.int .i64 1, .int .i64 0]) ∧ w = w' := by
  have h := common_ok 0 511 (by decide) (by decide) w
  rw [show comN (512 + 0) (512 + 511) = 1 by decide] at h
  exact h
theorem s_common3 (w : World) : Calls Try.prog 22 #[.int .i64 7, .int .i64 7] w fun e w' => e = .returned (.tuple #[.int .i64 519, .int .i64 0]) ∧ w = w' := by
  have h := common_ok 7 7 (by decide) (by decide) w
  rw [show comN (512 + 7) (512 + 7) = 519 by decide] at h
  exact h

set_option maxHeartbeats 2000000 in
theorem sane_true (w : World) : Calls Try.prog 10 #[] w fun e w' => e = .returned (.bool true) ∧ Below w.heap.size w w' := by
  go_enter Try.func10, Try.ntmps10
  go_wp2_with fail
  refine (s_path _).mono ?_
  rintro e w1 ⟨p, rfl, hp, hB1⟩
  go_wp2_with fail
  refine (s_copath _).mono ?_
  rintro e w2 ⟨c, rfl, hc, hB2⟩
  go_wp2_with fail
  refine (leaf_ok 3 (by decide) (by decide) _).mono ?_
  rintro e w' ⟨rfl, rfl⟩
  go_wp2_with fail
  refine (s_level _).mono ?_
  rintro e w' ⟨rfl, rfl⟩
  go_wp2_with fail
  refine (s_under _).mono ?_
  rintro e w3 ⟨rfl, hB3⟩
  go_wp2_with fail
  refine (s_common1 _).mono ?_
  rintro e w' ⟨rfl, rfl⟩
  go_wp2_with fail
  refine (s_common2 _).mono ?_
  rintro e w' ⟨rfl, rfl⟩
  go_wp2_with fail
  refine (s_common3 _).mono ?_
  rintro e w' ⟨rfl, rfl⟩
  go_wp2_with fail
  refine (leaf_no 512 (by decide) _).mono ?_
  rintro e w' ⟨rfl, rfl⟩
  go_wp2_with fail
  refine (level_no 0 (by decide) _).mono ?_
  rintro e w' ⟨rfl, rfl⟩
  go_wp2_with fail
  refine (under_no 1024 (by decide) _).mono ?_
  rintro e w' ⟨rfl, rfl⟩
  go_wp2_with fail
  refine (common_no 0 (-1) (by decide) _).mono ?_
  rintro e w' ⟨rfl, rfl⟩
  have hp3 := (hp.below hB2).below hB3
  have hc3 := hc.below hB3
  have HB := Lib.hid ((hB1.trans (hB2.mono hB1.size)).trans (hB3.mono (Nat.le_trans hB1.size hB2.size)))
  have HP := Lib.hid hp3
  have HC := Lib.hid hc3
  clear hp hc hp3 hc3 hB1 hB2 hB3
  go_wp2_with fail
  refine (same_eqB p _ [257, 128, 64, 32, 16, 8, 4, 2, 1] _ (HP.out.below ((Below.refl _ _).alloc (Nat.le_refl _) _)) (SliceAt.new w3 (iv [257, 128, 64, 32, 16, 8, 4, 2, 1]) _ 9 rfl) (by decide)).mono ?_
  rintro e w4 ⟨rfl, hB4⟩
  have hB5 := ((Below.refl w3.heap.size w3).alloc (Nat.le_refl _) _).trans (hB4.mono (by simp))
  have hc5 := HC.out.below hB5
  have HC5 := Lib.hid hc5
  have HB5 := Lib.hid (HB.out.trans (hB5.mono (HB.out.size)))
  clear HB HP HC hB4 hB5 hc5
  go_wp2_with fail
  refine (same_eqB c _ [514, 256, 129, 65, 33, 17, 9, 5, 3] _ (HC5.out.below ((Below.refl _ _).alloc (Nat.le_refl _) _)) (SliceAt.new w4 (iv [514, 256, 129, 65, 33, 17, 9, 5, 3]) _ 9 rfl) (by decide)).mono ?_
  rintro e w5 ⟨rfl, hB4⟩
  have HB6 := Lib.hid (HB5.out.trans ((((Below.refl w4.heap.size w4).alloc (Nat.le_refl _) _).trans (hB4.mono (by simp))).mono HB5.out.size))
  clear HB5 HC5 hB4
  go_wp2
  go_ret
  exact ⟨rfl, HB6.out⟩
end Go.Proofs.Ytalcghkifkckaaa
