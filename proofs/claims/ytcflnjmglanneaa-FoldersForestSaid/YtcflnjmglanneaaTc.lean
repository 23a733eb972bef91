/- Folders: cmp.Or, compare. -/
import Derived.Test.YtcflnjmglanneaaTg
import Derived.Test.YtcflnjmglanneaaTb
import Derived.Test.YtcflnjmglanneaaTl
import Derived.Shelf.GgSortFunc.RowK
import Derived.Deep.RegionWith
import Derived.Deep.CutBlock
import Derived.Deep.DeepCutAuto
import Derived.Test.YtcflnjmglanneaaRq
import Derived.LoopTactic
namespace Go.Proofs.Ytcflnjmglanneaa
open Go.RowKit Go.Maps Go.Sort
set_option maxRecDepth 100000
set_option linter.unusedVariables false
set_option linter.unusedSimpArgs false

/-- The first of a list that is not 0. -/
def orL : List Int → Int
  | [] => 0
  | x :: l => if x = 0 then orL l else x
theorem orL_at : ∀ {l : List Int} {j : Nat}, j < l.length → (∀ k, k < j → l.getD k 0 = 0) → l.getD j 0 ≠ 0 → orL l = l.getD j 0
  | [], j, h, _, _ => by simp at h
  | x :: l, 0, _, _, h => by
    have hx : x ≠ 0 := by simpa using h
    unfold orL
    rw [if_neg hx]
    simp
  | x :: l, j + 1, h, h0, h1 => by
    have hx : x = 0 := by simpa using h0 0 (by omega)
    unfold orL
    rw [if_pos hx]
    have := orL_at (l := l) (j := j) (by simpa using h) (fun k hk => by simpa using h0 (k + 1) (by omega)) (by simpa using h1)
    simpa using this
theorem orL_zero : ∀ {l : List Int}, (∀ k, k < l.length → l.getD k 0 = 0) → orL l = 0
  | [], _ => rfl
  | x :: l, h => by
    have hx : x = 0 := by simpa using h 0 (by simp)
    unfold orL
    rw [if_pos hx]
    exact orL_zero fun k hk => by simpa using h (k + 1) (by simpa using hk)

theorem zero_snoc {l : List Int} {k : Nat} (h : ∀ m, m < k → l.getD m 0 = 0) (h2 : l.getD k 0 = 0) : ∀ m, m < k + 1 → l.getD m 0 = 0 := fun m hm => by
  rcases Nat.lt_or_ge m k with h3 | h3
  · exact h m h3
  · have e : m = k := by omega
    rw [e]; exact h2

set_option maxHeartbeats 1000000 in
theorem or_ok (l : List Int) (n g c : Nat) (w : World) (hn : n = l.length) (hl : n ≤ 1000) (hc : ∀ j, j < n → w.cell? ⟨g, j, none⟩ = some (.int .i64 (l.getD j 0))) :
    Calls Try.prog 56 #[.slice (some ⟨g, 0, none⟩) n c] w fun e w' => e = .returned (.int .i64 (orL l)) ∧ w' = w := by
  have HC := Lib.hid hc
  have HN := Lib.hid hn
  clear hc hn
  go_enter Try.func56, Try.ntmps56
  go_wp2_with fail
  go_loopw [8] (fun i wr => ∃ k : Nat, i = .int .i64 k ∧ k ≤ n ∧ Hid (∀ m, m < k → l.getD m 0 = 0) ∧ wr = w) (fun i _ => n - (intOf i).toNat)
  case atStart => exact ⟨0, rfl, Nat.zero_le _, Lib.hid (fun m hm => by omega), rfl⟩
  case round =>
    obtain ⟨k, rfl, hk, HZ, hwr⟩ := hrel
    rw [hwr]
    clear hwr
    by_cases hkn : k < n
    · have hd : decide ((k : Int) < (n : Int)) = true := by simp; omega
      have hd' : decide (k < n) = true := by simp; omega
      have hki : (k : Int) < (n : Int) := by omega
      have cx := HC.out k hkn
      obtain ⟨y, hy⟩ : ∃ y, y = l.getD k 0 := ⟨_, rfl⟩
      rw [← hy] at cx
      have HY := Lib.hid hy
      clear hy
      by_cases hy0 : y = 0
      · subst hy0
        have HZ2 : Hid (∀ m, m < k + 1 → l.getD m 0 = 0) := Lib.hid (zero_snoc HZ.out HY.out.symm)
        go_wp2_with fail
        exact ⟨⟨k + 1, by go_num, by omega, HZ2, by trivial⟩, by simp only [intOf]; omega⟩
      · have he1 : (y == 0) = false := by simpa using hy0
        have he2 : decide (y = 0) = false := by simpa using hy0
        have he3 : (y != 0) = true := by simpa using hy0
        have HR : Hid (orL l = y) := Lib.hid (by rw [HY.out]; exact orL_at (by rw [← HN.out]; exact hkn) HZ.out (by rw [← HY.out]; exact hy0))
        clear hy0
        go_wp2_with fail
        go_ret
        exact ⟨by rw [HR.out]; rfl, rfl⟩
    · have hd : decide ((k : Int) < (n : Int)) = false := by simp; omega
      have hd' : decide (k < n) = false := by simp; omega
      have HR : Hid (orL l = 0) := Lib.hid (orL_zero fun m hm => HZ.out m (by rw [← HN.out] at hm; omega))
      go_wp2_with fail
      go_ret
      exact ⟨by rw [HR.out]; rfl, rfl⟩

theorem grow3 (w : World) (a b c : Obj) : (((w.alloc a).alloc b).alloc c).drew = grow (w.drewN 1) #[a, b, c] := by
  unfold grow World.drew World.drewN
  simp only [World.alloc]
  congr 1

def cmpL (x y : Pl) : List Int := [Lib.compareInt x.t y.t, Lib.compareInt x.d y.d, Lib.compareInt x.f y.f, Lib.compareInt x.p y.p, Lib.compareBytes x.n.data.toList y.n.data.toList]
def cmpP (x y : Pl) : Int := orL (cmpL x y)

set_option maxHeartbeats 8000000 in
theorem compare_ok (x y : Pl) (w : World) :
    Calls Try.prog 46 #[x.ev, y.ev] w fun e w' => e = .returned (.int .i64 (cmpP x y)) ∧ ∃ q os, w' = grow (w.drewN q) os := by
  obtain ⟨xt, xd, xf, xp, xn⟩ := x
  obtain ⟨yt, yd, yf, yp, yn⟩ := y
  have H1 := Lib.hid (fun W => Tryx.cmp_Compare_int xt yt W)
  have H2 := Lib.hid (fun W => Tryx.cmp_Compare_int xd yd W)
  have H3 := Lib.hid (fun W => Tryx.cmp_Compare_int xf yf W)
  have H4 := Lib.hid (fun W => Tryx.cmp_Compare_int xp yp W)
  have H5 := Lib.hid (fun W => Tryx.strings_Compare xn yn W)
  have HO := Lib.hid (fun (g c : Nat) (W : World) hc => or_ok (cmpL ⟨xt, xd, xf, xp, xn⟩ ⟨yt, yd, yf, yp, yn⟩) 5 g c W rfl (by decide) hc)
  have HR : Hid (cmpP ⟨xt, xd, xf, xp, xn⟩ ⟨yt, yd, yf, yp, yn⟩ = orL (cmpL ⟨xt, xd, xf, xp, xn⟩ ⟨yt, yd, yf, yp, yn⟩)) := Lib.hid rfl
  obtain ⟨rr, hrr⟩ : ∃ r, r = orL (cmpL ⟨xt, xd, xf, xp, xn⟩ ⟨yt, yd, yf, yp, yn⟩) := ⟨_, rfl⟩
  rw [← hrr] at HO HR
  rw [HR.out]
  unfold cmpL at HO
  dsimp only at HO
  obtain ⟨r1, hr1⟩ : ∃ r, r = Lib.compareInt xt yt := ⟨_, rfl⟩
  obtain ⟨r2, hr2⟩ : ∃ r, r = Lib.compareInt xd yd := ⟨_, rfl⟩
  obtain ⟨r3, hr3⟩ : ∃ r, r = Lib.compareInt xf yf := ⟨_, rfl⟩
  obtain ⟨r4, hr4⟩ : ∃ r, r = Lib.compareInt xp yp := ⟨_, rfl⟩
  obtain ⟨r5, hr5⟩ : ∃ r, r = Lib.compareBytes xn.data.toList yn.data.toList := ⟨_, rfl⟩
  rw [← hr1, ← hr2, ← hr3, ← hr4, ← hr5] at HO
  rw [← hr1] at H1
  rw [← hr2] at H2
  rw [← hr3] at H3
  rw [← hr4] at H4
  rw [← hr5] at H5
  unfold Pl.ev
  dsimp only
  clear hr1 hr2 hr3 hr4 hr5 hrr HR
  go_enter Try.func46, Try.ntmps46
  go_upto_region 1 with fail
  obtain ⟨Ba, hBa⟩ : ∃ b, b = w.heap.size := ⟨_, rfl⟩
  have hs1 : (w.alloc (.cells #[.int .i64 xt, .int .i64 xd, .int .i64 xf, .int .i64 xp, .string xn] 24)).heap.size = Ba + 1 := by rw [hBa]; exact World.size_alloc _ _
  have hA0 := cells_new_at w [.int .i64 xt, .int .i64 xd, .int .i64 xf, .int .i64 xp, .string xn] 24
  have hB0 := cells_new_at (w.alloc (.cells #[.int .i64 xt, .int .i64 xd, .int .i64 xf, .int .i64 xp, .string xn] 24)) [.int .i64 yt, .int .i64 yd, .int .i64 yf, .int .i64 yp, .string yn] 24
  rw [hs1] at hB0
  rw [← hBa] at hA0 ⊢
  obtain ⟨W2, hW2⟩ : ∃ W, W = (w.alloc (.cells #[.int .i64 xt, .int .i64 xd, .int .i64 xf, .int .i64 xp, .string xn] 24)).alloc (.cells #[.int .i64 yt, .int .i64 yd, .int .i64 yf, .int .i64 yp, .string yn] 24) := ⟨_, rfl⟩
  have hk : ∀ j v, [.int .i64 xt, .int .i64 xd, .int .i64 xf, .int .i64 xp, .string xn][j]? = some v → W2.cell? ⟨Ba, j, none⟩ = some v := fun j v h => by
    rw [hW2]
    exact cellOld (hA0 j v h) ((below_alloc _ _).block _ (cellLt (hA0 j v h)))
  have hk2 : ∀ j v, [.int .i64 yt, .int .i64 yd, .int .i64 yf, .int .i64 yp, .string yn][j]? = some v → W2.cell? ⟨Ba + 1, j, none⟩ = some v := fun j v h => by
    rw [hW2]
    exact hB0 j v h
  have c0 := hk 0 _ rfl
  have c1 := hk 1 _ rfl
  have c2 := hk 2 _ rfl
  have c3 := hk 3 _ rfl
  have c4 := hk 4 _ rfl
  have d0 := hk2 0 _ rfl
  have d1 := hk2 1 _ rfl
  have d2 := hk2 2 _ rfl
  have d3 := hk2 3 _ rfl
  have d4 := hk2 4 _ rfl
  have HW := Lib.hid hW2
  rw [← hW2]
  clear hk hk2 hA0 hB0 hs1 hW2 hBa
  refine wp_region_noPanic ?_
  refine region_treeQ (fun W' => W'.cell? ⟨Ba, 0, none⟩ = some (.int .i64 xt) ∧ W'.cell? ⟨Ba, 1, none⟩ = some (.int .i64 xd) ∧ W'.cell? ⟨Ba, 2, none⟩ = some (.int .i64 xf) ∧ W'.cell? ⟨Ba, 3, none⟩ = some (.int .i64 xp) ∧ W'.cell? ⟨Ba, 4, none⟩ = some (.string xn) ∧ W'.cell? ⟨Ba + 1, 0, none⟩ = some (.int .i64 yt) ∧ W'.cell? ⟨Ba + 1, 1, none⟩ = some (.int .i64 yd) ∧ W'.cell? ⟨Ba + 1, 2, none⟩ = some (.int .i64 yf) ∧ W'.cell? ⟨Ba + 1, 3, none⟩ = some (.int .i64 yp) ∧ W'.cell? ⟨Ba + 1, 4, none⟩ = some (.string yn)) (.take 0 (.take 1 (.take 2 (.take 3 (.take 4 (.take 5 (.take 6 (.take 7 (.take 8 (.take 9 (.take 10 (.take 11 (.take 12 (.take 13 (.take 14 (.take 15 (.take 16 (.take 17 (.take 18 (.take 19 (.take 20 (.take 21 (.take 22 (.take 23 (.take 24 (.one 25 (.one 26 (.one 27 .done)))))))))))))))))))))))))))) (by kernel_rfl) (by kernel_rfl) (by kernel_rfl) (by decide) (fun _ _ _ _ h => h) ⟨c0, c1, c2, c3, c4, d0, d1, d2, d3, d4⟩ ?_
  (refine treeQ_take (v := ?_) rfl (by rfl) (fun W' hS => ?_) ?_; rotate_left; (obtain ⟨a0, a1, a2, a3, a4, b0, b1, b2, b3, b4⟩ := hS; go_simp; with_reducible rfl); (try simp only [Act.put, List.getElem_toArray, List.getElem_cons_succ, List.getElem_cons_zero, List.setIfInBounds_toArray, List.set_cons_zero, List.set_cons_succ]))
  (refine treeQ_take (v := ?_) rfl (by rfl) (fun W' hS => ?_) ?_; rotate_left; (obtain ⟨a0, a1, a2, a3, a4, b0, b1, b2, b3, b4⟩ := hS; go_simp; with_reducible rfl); (try simp only [Act.put, List.getElem_toArray, List.getElem_cons_succ, List.getElem_cons_zero, List.setIfInBounds_toArray, List.set_cons_zero, List.set_cons_succ]))
  (refine treeQ_take (v := ?_) rfl (by rfl) (fun W' hS => ?_) ?_; rotate_left; (obtain ⟨a0, a1, a2, a3, a4, b0, b1, b2, b3, b4⟩ := hS; go_simp; with_reducible rfl); (try simp only [Act.put, List.getElem_toArray, List.getElem_cons_succ, List.getElem_cons_zero, List.setIfInBounds_toArray, List.set_cons_zero, List.set_cons_succ]))
  (refine treeQ_take (v := ?_) rfl (by rfl) (fun W' hS => ?_) ?_; rotate_left; (obtain ⟨a0, a1, a2, a3, a4, b0, b1, b2, b3, b4⟩ := hS; go_simp; with_reducible rfl); (try simp only [Act.put, List.getElem_toArray, List.getElem_cons_succ, List.getElem_cons_zero, List.setIfInBounds_toArray, List.set_cons_zero, List.set_cons_succ]))
  (refine treeQ_call (v := .int .i64 r1) (f := 57) (args := #[.int .i64 xt, .int .i64 yt]) rfl (by rfl) (fun W' => ?_) (fun W' _ => H1.out W') ?_; · (go_simp; try with_reducible rfl))
  (try simp only [Act.put, List.getElem_toArray, List.getElem_cons_succ, List.getElem_cons_zero, List.setIfInBounds_toArray, List.set_cons_zero, List.set_cons_succ])
  (refine treeQ_take (v := ?_) rfl (by rfl) (fun W' hS => ?_) ?_; rotate_left; (obtain ⟨a0, a1, a2, a3, a4, b0, b1, b2, b3, b4⟩ := hS; go_simp; with_reducible rfl); (try simp only [Act.put, List.getElem_toArray, List.getElem_cons_succ, List.getElem_cons_zero, List.setIfInBounds_toArray, List.set_cons_zero, List.set_cons_succ]))
  (refine treeQ_take (v := ?_) rfl (by rfl) (fun W' hS => ?_) ?_; rotate_left; (obtain ⟨a0, a1, a2, a3, a4, b0, b1, b2, b3, b4⟩ := hS; go_simp; with_reducible rfl); (try simp only [Act.put, List.getElem_toArray, List.getElem_cons_succ, List.getElem_cons_zero, List.setIfInBounds_toArray, List.set_cons_zero, List.set_cons_succ]))
  (refine treeQ_take (v := ?_) rfl (by rfl) (fun W' hS => ?_) ?_; rotate_left; (obtain ⟨a0, a1, a2, a3, a4, b0, b1, b2, b3, b4⟩ := hS; go_simp; with_reducible rfl); (try simp only [Act.put, List.getElem_toArray, List.getElem_cons_succ, List.getElem_cons_zero, List.setIfInBounds_toArray, List.set_cons_zero, List.set_cons_succ]))
  (refine treeQ_take (v := ?_) rfl (by rfl) (fun W' hS => ?_) ?_; rotate_left; (obtain ⟨a0, a1, a2, a3, a4, b0, b1, b2, b3, b4⟩ := hS; go_simp; with_reducible rfl); (try simp only [Act.put, List.getElem_toArray, List.getElem_cons_succ, List.getElem_cons_zero, List.setIfInBounds_toArray, List.set_cons_zero, List.set_cons_succ]))
  (refine treeQ_call (v := .int .i64 r2) (f := 57) (args := #[.int .i64 xd, .int .i64 yd]) rfl (by rfl) (fun W' => ?_) (fun W' _ => H2.out W') ?_; · (go_simp; try with_reducible rfl))
  (try simp only [Act.put, List.getElem_toArray, List.getElem_cons_succ, List.getElem_cons_zero, List.setIfInBounds_toArray, List.set_cons_zero, List.set_cons_succ])
  (refine treeQ_take (v := ?_) rfl (by rfl) (fun W' hS => ?_) ?_; rotate_left; (obtain ⟨a0, a1, a2, a3, a4, b0, b1, b2, b3, b4⟩ := hS; go_simp; with_reducible rfl); (try simp only [Act.put, List.getElem_toArray, List.getElem_cons_succ, List.getElem_cons_zero, List.setIfInBounds_toArray, List.set_cons_zero, List.set_cons_succ]))
  (refine treeQ_take (v := ?_) rfl (by rfl) (fun W' hS => ?_) ?_; rotate_left; (obtain ⟨a0, a1, a2, a3, a4, b0, b1, b2, b3, b4⟩ := hS; go_simp; with_reducible rfl); (try simp only [Act.put, List.getElem_toArray, List.getElem_cons_succ, List.getElem_cons_zero, List.setIfInBounds_toArray, List.set_cons_zero, List.set_cons_succ]))
  (refine treeQ_take (v := ?_) rfl (by rfl) (fun W' hS => ?_) ?_; rotate_left; (obtain ⟨a0, a1, a2, a3, a4, b0, b1, b2, b3, b4⟩ := hS; go_simp; with_reducible rfl); (try simp only [Act.put, List.getElem_toArray, List.getElem_cons_succ, List.getElem_cons_zero, List.setIfInBounds_toArray, List.set_cons_zero, List.set_cons_succ]))
  (refine treeQ_take (v := ?_) rfl (by rfl) (fun W' hS => ?_) ?_; rotate_left; (obtain ⟨a0, a1, a2, a3, a4, b0, b1, b2, b3, b4⟩ := hS; go_simp; with_reducible rfl); (try simp only [Act.put, List.getElem_toArray, List.getElem_cons_succ, List.getElem_cons_zero, List.setIfInBounds_toArray, List.set_cons_zero, List.set_cons_succ]))
  (refine treeQ_call (v := .int .i64 r3) (f := 57) (args := #[.int .i64 xf, .int .i64 yf]) rfl (by rfl) (fun W' => ?_) (fun W' _ => H3.out W') ?_; · (go_simp; try with_reducible rfl))
  (try simp only [Act.put, List.getElem_toArray, List.getElem_cons_succ, List.getElem_cons_zero, List.setIfInBounds_toArray, List.set_cons_zero, List.set_cons_succ])
  (refine treeQ_take (v := ?_) rfl (by rfl) (fun W' hS => ?_) ?_; rotate_left; (obtain ⟨a0, a1, a2, a3, a4, b0, b1, b2, b3, b4⟩ := hS; go_simp; with_reducible rfl); (try simp only [Act.put, List.getElem_toArray, List.getElem_cons_succ, List.getElem_cons_zero, List.setIfInBounds_toArray, List.set_cons_zero, List.set_cons_succ]))
  (refine treeQ_take (v := ?_) rfl (by rfl) (fun W' hS => ?_) ?_; rotate_left; (obtain ⟨a0, a1, a2, a3, a4, b0, b1, b2, b3, b4⟩ := hS; go_simp; with_reducible rfl); (try simp only [Act.put, List.getElem_toArray, List.getElem_cons_succ, List.getElem_cons_zero, List.setIfInBounds_toArray, List.set_cons_zero, List.set_cons_succ]))
  (refine treeQ_take (v := ?_) rfl (by rfl) (fun W' hS => ?_) ?_; rotate_left; (obtain ⟨a0, a1, a2, a3, a4, b0, b1, b2, b3, b4⟩ := hS; go_simp; with_reducible rfl); (try simp only [Act.put, List.getElem_toArray, List.getElem_cons_succ, List.getElem_cons_zero, List.setIfInBounds_toArray, List.set_cons_zero, List.set_cons_succ]))
  (refine treeQ_take (v := ?_) rfl (by rfl) (fun W' hS => ?_) ?_; rotate_left; (obtain ⟨a0, a1, a2, a3, a4, b0, b1, b2, b3, b4⟩ := hS; go_simp; with_reducible rfl); (try simp only [Act.put, List.getElem_toArray, List.getElem_cons_succ, List.getElem_cons_zero, List.setIfInBounds_toArray, List.set_cons_zero, List.set_cons_succ]))
  (refine treeQ_call (v := .int .i64 r4) (f := 57) (args := #[.int .i64 xp, .int .i64 yp]) rfl (by rfl) (fun W' => ?_) (fun W' _ => H4.out W') ?_; · (go_simp; try with_reducible rfl))
  (try simp only [Act.put, List.getElem_toArray, List.getElem_cons_succ, List.getElem_cons_zero, List.setIfInBounds_toArray, List.set_cons_zero, List.set_cons_succ])
  (refine treeQ_take (v := ?_) rfl (by rfl) (fun W' hS => ?_) ?_; rotate_left; (obtain ⟨a0, a1, a2, a3, a4, b0, b1, b2, b3, b4⟩ := hS; go_simp; with_reducible rfl); (try simp only [Act.put, List.getElem_toArray, List.getElem_cons_succ, List.getElem_cons_zero, List.setIfInBounds_toArray, List.set_cons_zero, List.set_cons_succ]))
  (refine treeQ_take (v := ?_) rfl (by rfl) (fun W' hS => ?_) ?_; rotate_left; (obtain ⟨a0, a1, a2, a3, a4, b0, b1, b2, b3, b4⟩ := hS; go_simp; with_reducible rfl); (try simp only [Act.put, List.getElem_toArray, List.getElem_cons_succ, List.getElem_cons_zero, List.setIfInBounds_toArray, List.set_cons_zero, List.set_cons_succ]))
  (refine treeQ_take (v := ?_) rfl (by rfl) (fun W' hS => ?_) ?_; rotate_left; (obtain ⟨a0, a1, a2, a3, a4, b0, b1, b2, b3, b4⟩ := hS; go_simp; with_reducible rfl); (try simp only [Act.put, List.getElem_toArray, List.getElem_cons_succ, List.getElem_cons_zero, List.setIfInBounds_toArray, List.set_cons_zero, List.set_cons_succ]))
  (refine treeQ_take (v := ?_) rfl (by rfl) (fun W' hS => ?_) ?_; rotate_left; (obtain ⟨a0, a1, a2, a3, a4, b0, b1, b2, b3, b4⟩ := hS; go_simp; with_reducible rfl); (try simp only [Act.put, List.getElem_toArray, List.getElem_cons_succ, List.getElem_cons_zero, List.setIfInBounds_toArray, List.set_cons_zero, List.set_cons_succ]))
  (refine treeQ_call (v := .int .i64 r5) (f := 58) (args := #[.string xn, .string yn]) rfl (by rfl) (fun W' => ?_) (fun W' _ => H5.out W') ?_; · (go_simp; try with_reducible rfl))
  (try simp only [Act.put, List.getElem_toArray, List.getElem_cons_succ, List.getElem_cons_zero, List.setIfInBounds_toArray, List.set_cons_zero, List.set_cons_succ])
  have HW0 := below_drew (Below.refl W2.heap.size W2)
  refine treeQ_one rfl (fun K' hK => ?_)
  go_simp
  have hA := below_alloc W2.drew (.cells #[.int .i64 r1, .int .i64 r2, .int .i64 r3, .int .i64 r4, .int .i64 r5] 3)
  refine hK _ _ ⟨cellOld c0 (hA.block _ (cellLt c0)), cellOld c1 (hA.block _ (cellLt c1)), cellOld c2 (hA.block _ (cellLt c2)), cellOld c3 (hA.block _ (cellLt c3)), cellOld c4 (hA.block _ (cellLt c4)), cellOld d0 (hA.block _ (cellLt d0)), cellOld d1 (hA.block _ (cellLt d1)), cellOld d2 (hA.block _ (cellLt d2)), cellOld d3 (hA.block _ (cellLt d3)), cellOld d4 (hA.block _ (cellLt d4))⟩ fun hS => ?_
  clear hK hA HW0
  (try simp only [Act.put, List.getElem_toArray, List.getElem_cons_succ, List.getElem_cons_zero, List.setIfInBounds_toArray, List.set_cons_zero, List.set_cons_succ])
  have hc : ∀ j, j < 5 → ((W2.alloc (.cells #[.int .i64 r1, .int .i64 r2, .int .i64 r3, .int .i64 r4, .int .i64 r5] 3)).drew).cell? ⟨W2.heap.size, j, none⟩ = some (.int .i64 ([r1, r2, r3, r4, r5].getD j 0)) := fun j hj => by
    refine cells_new_at W2 [.int .i64 r1, .int .i64 r2, .int .i64 r3, .int .i64 r4, .int .i64 r5] 3 j _ ?_
    match j, hj with
    | 0, _ => rfl
    | 1, _ => rfl
    | 2, _ => rfl
    | 3, _ => rfl
    | 4, _ => rfl
  refine treeQ_one rfl (fun K' hK => ?_)
  go_simp
  refine (HO.out _ _ _ hc).mono ?_
  rintro e w9 ⟨rfl, rfl⟩
  refine hK _ _ hS fun _ => ?_
  clear hK hc
  (try simp only [Act.put, List.getElem_toArray, List.getElem_cons_succ, List.getElem_cons_zero, List.setIfInBounds_toArray, List.set_cons_zero, List.set_cons_succ])
  refine treeQ_one rfl (fun K' hK => ?_)
  go_simp
  refine hK _ _ hS fun _ => ?_
  clear hK
  (try simp only [Act.put, List.getElem_toArray, List.getElem_cons_succ, List.getElem_cons_zero, List.setIfInBounds_toArray, List.set_cons_zero, List.set_cons_succ])
  refine NoPanic.normal ?_
  go_wp2_with fail
  go_ret
  refine ⟨rfl, 1, #[.cells #[.int .i64 xt, .int .i64 xd, .int .i64 xf, .int .i64 xp, .string xn] 24, .cells #[.int .i64 yt, .int .i64 yd, .int .i64 yf, .int .i64 yp, .string yn] 24, .cells #[.int .i64 r1, .int .i64 r2, .int .i64 r3, .int .i64 r4, .int .i64 r5] 3], ?_⟩
  rw [HW.out]
  exact grow3 _ _ _ _
end Go.Proofs.Ytcflnjmglanneaa
