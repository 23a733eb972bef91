/- The walk of KeytreeCheckSpec. -/
import Derived.Test.YtekdekchbnacgaaLq
namespace Go.Proofs.Ytekdekchbnacgaa
open Go.RowKit
set_option maxRecDepth 100000
set_option linter.unusedVariables false
set_option linter.unusedSimpArgs false

theorem below_drew {w w' : World} (h : Below w.heap.size w w') : Below w.heap.size w w'.drew := h.trans ⟨rfl, rfl, rfl, Nat.le_refl _, fun _ _ => rfl⟩
theorem memZ_length (t : List (Int × Int)) : (memZ t).length ≤ 512 := by rw [← memP_all]; exact memP_length t 512
theorem resV_length (t : List (Int × Int)) (x : Int) : (resV t x).length ≤ 1000000 := by
  unfold resV
  split
  · rename_i h
    have hx : 1 ≤ x ∧ x ≤ 1023 := by
      unfold resE at h
      split at h
      · split at h
        · exact absurd h (by decide)
        · omega
      · rename_i h'; exact absurd h h'
    have := resL_length (ofF t) (hgt x.toNat) x.toNat
    have := hgt_pow (n := x.toNat) (h := hgt x.toNat) (by omega) (hgt_ok (by omega) (by omega)).2
    omega
  · simp

set_option maxHeartbeats 4000000 in
theorem checkSpec_walk (t : List (Int × Int)) (u : Value) (x : Int) (w : World) (ht : NodesAt w u t) (hl : t.length ≤ maxLen) (hx : I64 x) :
    Calls Try.prog 3 #[.agg #[u], .int .i64 x] w fun e w' => e = .returned (.bool true) ∧ Below w.heap.size w w' := by
  obtain ⟨B, hB⟩ : ∃ B, B = w.heap.size := ⟨_, rfl⟩
  obtain ⟨W0, hW0⟩ : ∃ W0, W0 = w.alloc (.cells #[u] 24) := ⟨_, rfl⟩
  have hb1 : Below w.heap.size w W0 := by rw [hW0]; exact below_alloc _ _
  have cb : W0.cell? ⟨B, 0, none⟩ = some u := by rw [hW0, hB]; unfold World.cell?; rw [World.alloc_heap_new]; rfl
  have HS := Lib.hid (sane_ok W0)
  have HT := Lib.hid ht
  have HX := Lib.hid hx
  obtain ⟨p, c, rfl⟩ := nodes_form ht
  obtain ⟨u, hu⟩ : ∃ u, u = Value.slice p t.length c := ⟨_, rfl⟩
  have hl2 := hl
  clear ht hl hx
  go_enter Try.func3, Try.ntmps3
  go_wp2_with fail
  rw [← hW0, ← hB]
  have HBW := Lib.hid hB
  clear hW0 hB
  refine HS.out.mono ?_
  rintro e w1 ⟨rfl, hB1⟩
  have cb1 := cellOld cb (hB1.block _ (cellLt cb))
  have HB1 := Lib.hid (below_trans hb1 hB1)
  have HF := Lib.hid (few_ok t (.slice p t.length c) w1 (HT.out.below HB1.out) hl2)
  clear hB1 hb1 cb HS
  by_cases hfew : t.length ≤ 80
  case neg =>
    rw [decide_eq_false hfew] at HF
    clear hfew hl2
    generalize t.length = n at *
    go_wp2_with fail
    refine HF.out.mono ?_
    rintro e w2 ⟨rfl, hB2⟩
    have HB2 := Lib.hid (below_trans HB1.out hB2)
    clear hB2 HF
    go_wp2_with fail
    go_ret
    exact ⟨rfl, HB2.out⟩
  rw [decide_eq_true hfew] at HF
  have HL : Hid (t.length ≤ 1000000) := Lib.hid (by omega)
  clear hl2
  rw [← hu] at HT HF cb1 ⊢
  have HUU := Lib.hid hu
  clear hu hfew
  generalize Value.agg #[Value.slice p t.length c] = arg0
  go_wp2_with fail
  refine HF.out.mono ?_
  rintro e w2 ⟨rfl, hB2⟩
  have cb2 := cellOld cb1 (hB2.block _ (cellLt cb1))
  have HB2 := Lib.hid (below_trans HB1.out hB2)
  clear hB2 cb1 HB1 HF
  obtain ⟨E, hE⟩ : ∃ E, E = resE t x := ⟨_, rfl⟩
  have HR1 := Lib.hid (resolution_ok t u x w2 (HT.out.below HB2.out) HL.out)
  rw [← hE] at HR1
  go_wp2_with fail
  refine HR1.out.mono ?_
  rintro e w3 ⟨a, rfl, hra, hB3⟩
  have HA3 := Lib.hid (ints_of_row hra)
  have cb3 := cellOld cb2 (hB3.block _ (cellLt cb2))
  have HB3 := Lib.hid (below_trans HB2.out hB3)
  have HR2 := Lib.hid (rresolution_ok t u x w3 (HT.out.below HB3.out) HL.out)
  rw [← hE] at HR2
  clear hB3 cb2 HB2 HR1 hra hE
  go_wp2_with fail
  refine HR2.out.mono ?_
  rintro e w4 ⟨b, rfl, hrb, hB4⟩
  have HA4 := Lib.hid (ints_below HA3.out hB4)
  have HC4 := Lib.hid (ints_of_row hrb)
  have cb4 := cellOld cb3 (hB4.block _ (cellLt cb3))
  have HB4 := Lib.hid (below_trans HB3.out hB4)
  obtain ⟨G, hG⟩ : ∃ G, G = (ofF t x).getD 0 := ⟨_, rfl⟩
  obtain ⟨sb, hsb⟩ : ∃ sb, sb = (ofF t x).isSome := ⟨_, rfl⟩
  have HP1 := Lib.hid (public_ok t u x w4 (HT.out.below HB4.out) HL.out HX.out)
  rw [← hG, ← hsb] at HP1
  clear hB4 cb3 HB3 HR2 hrb HA3
  go_wp2_with fail
  refine HP1.out.mono ?_
  rintro e w5 ⟨rfl, hB5⟩
  have HA5 := Lib.hid (ints_below HA4.out hB5)
  have HC5 := Lib.hid (ints_below HC4.out hB5)
  have cb5 := cellOld cb4 (hB5.block _ (cellLt cb4))
  have HB5 := Lib.hid (below_trans HB4.out hB5)
  have HP2 := Lib.hid (rpublic_ok t u x w5 (HT.out.below HB5.out) HL.out)
  rw [← hG, ← hsb] at HP2
  clear hB5 cb4 HB4 HP1 HA4 HC4 hG hsb
  go_wp2_with fail
  refine HP2.out.mono ?_
  rintro e w6 ⟨rfl, hB6⟩
  have HA6 := Lib.hid (ints_below HA5.out hB6)
  have HC6 := Lib.hid (ints_below HC5.out hB6)
  have cb6 := cellOld cb5 (hB6.block _ (cellLt cb5))
  have HB6 := Lib.hid (below_trans HB5.out hB6)
  clear hB6 cb5 HB5 HP2 HA5 HC5
  go_upto_region 9 with fail
  refine wp_region_noPanic ?_
  refine region_sched (fun W' => Below w6.heap.size w6 W' ∧ W'.cell? ⟨B, 0, none⟩ = some u) 100 [(0, true), (1, true), (2, false), (3, true), (4, true), (5, true), (6, true), (7, true), (8, true), (9, true), (10, true), (11, true), (12, true), (13, true), (14, true), (15, true), (16, true), (17, true), (18, true), (19, true), (21, true), (20, false), (22, false), (23, true), (24, true), (25, true), (26, true), (28, true), (27, false), (29, false), (30, false), (31, true), (32, true)]
    (by kernel_rfl) (by kernel_rfl) (by kernel_rfl) rfl (fun _ _ _ _ h => h) ⟨below_drew (Below.refl _ _), cb6⟩ ?_
  (refine sched_take (v := ?_) rfl (by rfl) (fun W' hS => ?_) ?_; rotate_left; (obtain ⟨s0, s1⟩ := hS; go_simp; with_reducible rfl); (try simp only [Act.put, List.getElem_toArray, List.getElem_cons_succ, List.getElem_cons_zero, List.setIfInBounds_toArray, List.set_cons_zero, List.set_cons_succ]))
  (refine sched_take (v := ?_) rfl (by rfl) (fun W' hS => ?_) ?_; rotate_left; (obtain ⟨s0, s1⟩ := hS; go_simp; with_reducible rfl); (try simp only [Act.put, List.getElem_toArray, List.getElem_cons_succ, List.getElem_cons_zero, List.setIfInBounds_toArray, List.set_cons_zero, List.set_cons_succ]))
  obtain ⟨wd, hwd⟩ : ∃ W, W = w6.drew := ⟨_, rfl⟩
  have HD0 : Hid (Below w6.heap.size w6 wd) := Lib.hid (by rw [hwd]; exact below_drew (Below.refl _ _))
  have cb0 : wd.cell? ⟨B, 0, none⟩ = some u := by rw [hwd]; exact cb6
  rw [← hwd]
  clear hwd
  refine sched_do rfl (fun K' hK => ?_)
  go_simp
  refine (sameints_self (resV t x) a b wd (ints_below HA6.out HD0.out) (ints_below HC6.out HD0.out) (resV_length t x)).mono ?_
  rintro e w7 ⟨rfl, hB7⟩
  have HD7 := Lib.hid (below_trans HD0.out hB7)
  have cb7 := cellOld cb0 (hB7.block _ (cellLt cb0))
  refine hK.out _ _ ⟨HD7.out, cb7⟩ fun _ => ?_
  clear hK hB7
  (try simp only [Act.put, List.getElem_toArray, List.getElem_cons_succ, List.getElem_cons_zero, List.setIfInBounds_toArray, List.set_cons_zero, List.set_cons_succ])
  (refine sched_take (v := ?_) rfl (by rfl) (fun W' hS => ?_) ?_; rotate_left; (obtain ⟨s0, s1⟩ := hS; go_simp; with_reducible rfl); (try simp only [Act.put, List.getElem_toArray, List.getElem_cons_succ, List.getElem_cons_zero, List.setIfInBounds_toArray, List.set_cons_zero, List.set_cons_succ]))
  (refine sched_take (v := ?_) rfl (by rfl) (fun W' hS => ?_) ?_; rotate_left; (obtain ⟨s0, s1⟩ := hS; go_simp; with_reducible rfl); (try simp only [Act.put, List.getElem_toArray, List.getElem_cons_succ, List.getElem_cons_zero, List.setIfInBounds_toArray, List.set_cons_zero, List.set_cons_succ]))
  (refine sched_take (v := ?_) rfl (by rfl) (fun W' hS => ?_) ?_; rotate_left; (obtain ⟨s0, s1⟩ := hS; go_simp; with_reducible rfl); (try simp only [Act.put, List.getElem_toArray, List.getElem_cons_succ, List.getElem_cons_zero, List.setIfInBounds_toArray, List.set_cons_zero, List.set_cons_succ]))
  (refine sched_take (v := ?_) rfl (by rfl) (fun W' hS => ?_) ?_; rotate_left; (obtain ⟨s0, s1⟩ := hS; go_simp; with_reducible rfl); (try simp only [Act.put, List.getElem_toArray, List.getElem_cons_succ, List.getElem_cons_zero, List.setIfInBounds_toArray, List.set_cons_zero, List.set_cons_succ]))
  (refine sched_take (v := ?_) rfl (by rfl) (fun W' hS => ?_) ?_; rotate_left; (obtain ⟨s0, s1⟩ := hS; go_simp; with_reducible rfl); (try simp only [Act.put, List.getElem_toArray, List.getElem_cons_succ, List.getElem_cons_zero, List.setIfInBounds_toArray, List.set_cons_zero, List.set_cons_succ]))
  (refine sched_take (v := ?_) rfl (by rfl) (fun W' hS => ?_) ?_; rotate_left; (obtain ⟨s0, s1⟩ := hS; go_simp; with_reducible rfl); (try simp only [Act.put, List.getElem_toArray, List.getElem_cons_succ, List.getElem_cons_zero, List.setIfInBounds_toArray, List.set_cons_zero, List.set_cons_succ]))
  (refine sched_take (v := ?_) rfl (by rfl) (fun W' hS => ?_) ?_; rotate_left; (obtain ⟨s0, s1⟩ := hS; go_simp; with_reducible rfl); (try simp only [Act.put, List.getElem_toArray, List.getElem_cons_succ, List.getElem_cons_zero, List.setIfInBounds_toArray, List.set_cons_zero, List.set_cons_succ]))
  (refine sched_take (v := ?_) rfl (by rfl) (fun W' hS => ?_) ?_; rotate_left; (obtain ⟨s0, s1⟩ := hS; go_simp; with_reducible rfl); (try simp only [Act.put, List.getElem_toArray, List.getElem_cons_succ, List.getElem_cons_zero, List.setIfInBounds_toArray, List.set_cons_zero, List.set_cons_succ]))
  (refine sched_take (v := ?_) rfl (by rfl) (fun W' hS => ?_) ?_; rotate_left; (obtain ⟨s0, s1⟩ := hS; go_simp; with_reducible rfl); (try simp only [Act.put, List.getElem_toArray, List.getElem_cons_succ, List.getElem_cons_zero, List.setIfInBounds_toArray, List.set_cons_zero, List.set_cons_succ]))
  (refine sched_take (v := ?_) rfl (by rfl) (fun W' hS => ?_) ?_; rotate_left; (obtain ⟨s0, s1⟩ := hS; go_simp; with_reducible rfl); (try simp only [Act.put, List.getElem_toArray, List.getElem_cons_succ, List.getElem_cons_zero, List.setIfInBounds_toArray, List.set_cons_zero, List.set_cons_succ]))
  (refine sched_take (v := ?_) rfl (by rfl) (fun W' hS => ?_) ?_; rotate_left; (obtain ⟨s0, s1⟩ := hS; go_simp; with_reducible rfl); (try simp only [Act.put, List.getElem_toArray, List.getElem_cons_succ, List.getElem_cons_zero, List.setIfInBounds_toArray, List.set_cons_zero, List.set_cons_succ]))
  (refine sched_take (v := ?_) rfl (by rfl) (fun W' hS => ?_) ?_; rotate_left; (obtain ⟨s0, s1⟩ := hS; go_simp; with_reducible rfl); (try simp only [Act.put, List.getElem_toArray, List.getElem_cons_succ, List.getElem_cons_zero, List.setIfInBounds_toArray, List.set_cons_zero, List.set_cons_succ]))
  (refine sched_take (v := ?_) rfl (by rfl) (fun W' hS => ?_) ?_; rotate_left; (obtain ⟨s0, s1⟩ := hS; go_simp; with_reducible rfl); (try simp only [Act.put, List.getElem_toArray, List.getElem_cons_succ, List.getElem_cons_zero, List.setIfInBounds_toArray, List.set_cons_zero, List.set_cons_succ]))
  (refine sched_take (v := ?_) rfl (by rfl) (fun W' hS => ?_) ?_; rotate_left; (obtain ⟨s0, s1⟩ := hS; go_simp; with_reducible rfl); (try simp only [Act.put, List.getElem_toArray, List.getElem_cons_succ, List.getElem_cons_zero, List.setIfInBounds_toArray, List.set_cons_zero, List.set_cons_succ]))
  (refine sched_take (v := ?_) rfl (by rfl) (fun W' hS => ?_) ?_; rotate_left; (obtain ⟨s0, s1⟩ := hS; go_simp; with_reducible rfl); (try simp only [Act.put, List.getElem_toArray, List.getElem_cons_succ, List.getElem_cons_zero, List.setIfInBounds_toArray, List.set_cons_zero, List.set_cons_succ]))
  (refine sched_take (v := ?_) rfl (by rfl) (fun W' hS => ?_) ?_; rotate_left; (obtain ⟨s0, s1⟩ := hS; go_simp; with_reducible rfl); (try simp only [Act.put, List.getElem_toArray, List.getElem_cons_succ, List.getElem_cons_zero, List.setIfInBounds_toArray, List.set_cons_zero, List.set_cons_succ]))
  (refine sched_take (v := ?_) rfl (by rfl) (fun W' hS => ?_) ?_; rotate_left; (obtain ⟨s0, s1⟩ := hS; go_simp; with_reducible rfl); (try simp only [Act.put, List.getElem_toArray, List.getElem_cons_succ, List.getElem_cons_zero, List.setIfInBounds_toArray, List.set_cons_zero, List.set_cons_succ]))
  (refine sched_take (v := ?_) rfl (by rfl) (fun W' hS => ?_) ?_; rotate_left; (obtain ⟨s0, s1⟩ := hS; go_simp; with_reducible rfl); (try simp only [Act.put, List.getElem_toArray, List.getElem_cons_succ, List.getElem_cons_zero, List.setIfInBounds_toArray, List.set_cons_zero, List.set_cons_succ]))
  refine sched_do rfl (fun K' hK => ?_)
  go_simp
  refine (check_ok t u w7 (HT.out.below (below_trans HB6.out HD7.out)) HL.out).mono ?_
  rintro e w8 ⟨rfl, hB8⟩
  have HD8 := Lib.hid (below_trans HD7.out hB8)
  have cb8 := cellOld cb7 (hB8.block _ (cellLt cb7))
  refine hK.out _ _ ⟨HD8.out, cb8⟩ fun _ => ?_
  clear hK hB8
  (try simp only [Act.put, List.getElem_toArray, List.getElem_cons_succ, List.getElem_cons_zero, List.setIfInBounds_toArray, List.set_cons_zero, List.set_cons_succ])
  refine sched_do rfl (fun K' hK => ?_)
  go_simp
  refine (rcheck_ok t u w8 (HT.out.below (below_trans HB6.out HD8.out)) HL.out).mono ?_
  rintro e w9 ⟨rfl, hB9⟩
  have HD9 := Lib.hid (below_trans HD8.out hB9)
  have cb9 := cellOld cb8 (hB9.block _ (cellLt cb8))
  refine hK.out _ _ ⟨HD9.out, cb9⟩ fun _ => ?_
  clear hK hB9
  (try simp only [Act.put, List.getElem_toArray, List.getElem_cons_succ, List.getElem_cons_zero, List.setIfInBounds_toArray, List.set_cons_zero, List.set_cons_succ])
  (refine sched_take (v := ?_) rfl (by rfl) (fun W' hS => ?_) ?_; rotate_left; (obtain ⟨s0, s1⟩ := hS; go_simp; with_reducible rfl); (try simp only [Act.put, List.getElem_toArray, List.getElem_cons_succ, List.getElem_cons_zero, List.setIfInBounds_toArray, List.set_cons_zero, List.set_cons_succ]))
  (refine sched_take (v := ?_) rfl (by rfl) (fun W' hS => ?_) ?_; rotate_left; (obtain ⟨s0, s1⟩ := hS; go_simp; with_reducible rfl); (try simp only [Act.put, List.getElem_toArray, List.getElem_cons_succ, List.getElem_cons_zero, List.setIfInBounds_toArray, List.set_cons_zero, List.set_cons_succ]))
  (refine sched_take (v := ?_) rfl (by rfl) (fun W' hS => ?_) ?_; rotate_left; (obtain ⟨s0, s1⟩ := hS; go_simp; with_reducible rfl); (try simp only [Act.put, List.getElem_toArray, List.getElem_cons_succ, List.getElem_cons_zero, List.setIfInBounds_toArray, List.set_cons_zero, List.set_cons_succ]))
  (refine sched_take (v := ?_) rfl (by rfl) (fun W' hS => ?_) ?_; rotate_left; (obtain ⟨s0, s1⟩ := hS; go_simp; with_reducible rfl); (try simp only [Act.put, List.getElem_toArray, List.getElem_cons_succ, List.getElem_cons_zero, List.setIfInBounds_toArray, List.set_cons_zero, List.set_cons_succ]))
  (refine sched_take (v := ?_) rfl (by rfl) (fun W' hS => ?_) ?_; rotate_left; (obtain ⟨s0, s1⟩ := hS; go_simp; with_reducible rfl); (try simp only [Act.put, List.getElem_toArray, List.getElem_cons_succ, List.getElem_cons_zero, List.setIfInBounds_toArray, List.set_cons_zero, List.set_cons_succ]))
  refine sched_do rfl (fun K' hK => ?_)
  go_simp
  refine (members_ok t u w9 (HT.out.below (below_trans HB6.out HD9.out)) HL.out).mono ?_
  rintro e w10 ⟨u10, rfl, hr10, hB10⟩
  have HD10 := Lib.hid (below_trans HD9.out hB10)
  have cb10 := cellOld cb9 (hB10.block _ (cellLt cb9))
  have HM10 := Lib.hid (ints_of_row hr10)
  clear hr10
  refine hK.out _ _ ⟨HD10.out, cb10⟩ fun _ => ?_
  clear hK hB10
  (try simp only [Act.put, List.getElem_toArray, List.getElem_cons_succ, List.getElem_cons_zero, List.setIfInBounds_toArray, List.set_cons_zero, List.set_cons_succ])
  refine sched_do rfl (fun K' hK => ?_)
  go_simp
  refine (rmembers_ok t u w10 (HT.out.below (below_trans HB6.out HD10.out)) HL.out).mono ?_
  rintro e w11 ⟨u11, rfl, hr11, hB11⟩
  have HD11 := Lib.hid (below_trans HD10.out hB11)
  have cb11 := cellOld cb10 (hB11.block _ (cellLt cb10))
  have HM11 := Lib.hid (ints_of_row hr11)
  have HN11 := Lib.hid (ints_below HM10.out hB11)
  clear hr11
  refine hK.out _ _ ⟨HD11.out, cb11⟩ fun _ => ?_
  clear hK hB11
  (try simp only [Act.put, List.getElem_toArray, List.getElem_cons_succ, List.getElem_cons_zero, List.setIfInBounds_toArray, List.set_cons_zero, List.set_cons_succ])
  refine sched_do rfl (fun K' hK => ?_)
  go_simp
  refine (sameints_self (memZ t) u10 u11 w11 HN11.out HM11.out (by have := memZ_length t; omega)).mono ?_
  rintro e w12 ⟨rfl, hB12⟩
  have HD12 := Lib.hid (below_trans HD11.out hB12)
  have cb12 := cellOld cb11 (hB12.block _ (cellLt cb11))
  refine hK.out _ _ ⟨HD12.out, cb12⟩ fun _ => ?_
  clear hK hB12
  (try simp only [Act.put, List.getElem_toArray, List.getElem_cons_succ, List.getElem_cons_zero, List.setIfInBounds_toArray, List.set_cons_zero, List.set_cons_succ])
  (refine sched_take (v := ?_) rfl (by rfl) (fun W' hS => ?_) ?_; rotate_left; (obtain ⟨s0, s1⟩ := hS; go_simp; with_reducible rfl); (try simp only [Act.put, List.getElem_toArray, List.getElem_cons_succ, List.getElem_cons_zero, List.setIfInBounds_toArray, List.set_cons_zero, List.set_cons_succ]))
  (refine sched_take (v := ?_) rfl (by rfl) (fun W' hS => ?_) ?_; rotate_left; (obtain ⟨s0, s1⟩ := hS; go_simp; with_reducible rfl); (try simp only [Act.put, List.getElem_toArray, List.getElem_cons_succ, List.getElem_cons_zero, List.setIfInBounds_toArray, List.set_cons_zero, List.set_cons_succ]))
  refine NoPanic.normal ?_
  go_wp2_with fail
  go_ret
  exact ⟨rfl, below_trans HB6.out HD12.out⟩
theorem checkSpec_w {H : Type} {enc : TypeId × Value → H} {base : Nat} (v0 : Value) (d0 : DataW H) (p0 : List MemPlace) {W : World} (h0 : DataW.Trod enc Try.prog W 0 (fun _ => true) true 24 v0 d0 p0) (o0 : Value.okWide Try.prog W .any base 24 v0)
    (a1 : Int) (w1 : (Lit.int .i64 a1).wf = true) : Calls Try.prog 3 #[v0, .int .i64 a1] W fun e w' => e = .returned (.bool true) ∧ Below W.heap.size W w' := by
  obtain ⟨u, t, rfl, ht, hl⟩ := treeIn h0 o0
  exact checkSpec_walk t u a1 W ht hl w1
end Go.Proofs.Ytekdekchbnacgaa
