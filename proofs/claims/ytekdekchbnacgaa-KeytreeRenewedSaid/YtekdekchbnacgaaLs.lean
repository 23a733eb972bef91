/- The walk of KeytreeSetSpec. -/
import Derived.Test.YtekdekchbnacgaaLr
namespace Go.Proofs.Ytekdekchbnacgaa
open Go.RowKit
set_option maxRecDepth 100000
set_option linter.unusedVariables false
set_option linter.unusedSimpArgs false

theorem setL_length (t : List (Int × Int)) (d x : Int) : (setL t d x).length ≤ t.length + 1 := by
  unfold setL
  split
  · rw [withL_length]; have := withoutL_length t d; omega
  · simp
theorem remL_length (t : List (Int × Int)) (d : Int) : (remL t d).length ≤ t.length := by
  unfold remL
  split
  · exact withoutL_length t d
  · simp
theorem renR_length (t : List (Int × Int)) (d : Int) (l : List Int) : (renR t d l).length ≤ t.length + 10 := by
  unfold renR
  split
  · exact renL_length t d l 10
  · simp

set_option maxHeartbeats 4000000 in
theorem setSpec_walk (t : List (Int × Int)) (u : Value) (d x : Int) (l : List Int) (pv : Value) (w : World) (ht : NodesAt w u t) (hl : t.length ≤ maxLen) (hd : I64 d) (hx : I64 x) (hp : IntsAt w pv l) (hpl : l.length ≤ maxLen) (hli : ∀ j, I64 (l.getD j 0)) :
    Calls Try.prog 4 #[.agg #[u], .int .i64 d, .int .i64 x, pv] w fun e w' => e = .returned (.bool true) ∧ Below w.heap.size w w' := by
  obtain ⟨B, hB⟩ : ∃ B, B = w.heap.size := ⟨_, rfl⟩
  obtain ⟨W0, hW0⟩ : ∃ W0, W0 = w.alloc (.cells #[u] 24) := ⟨_, rfl⟩
  have hb1 : Below w.heap.size w W0 := by rw [hW0]; exact below_alloc _ _
  have cb : W0.cell? ⟨B, 0, none⟩ = some u := by rw [hW0, hB]; unfold World.cell?; rw [World.alloc_heap_new]; rfl
  have HS := Lib.hid (sane_ok W0)
  have HT := Lib.hid ht
  have HD := Lib.hid hd
  have HX := Lib.hid hx
  have HP := Lib.hid hp
  have HLI := Lib.hid hli
  obtain ⟨p, c, rfl⟩ := nodes_form ht
  obtain ⟨pp, cp, rfl, hcp, -⟩ := hp
  obtain ⟨u, hu⟩ : ∃ u, u = Value.slice p t.length c := ⟨_, rfl⟩
  have hl2 := hl
  clear ht hl hx hd hli hpl
  go_enter Try.func4, Try.ntmps4
  go_wp2_with fail
  rw [← hW0, ← hB]
  have HBW := Lib.hid hB
  clear hW0 hB
  refine HS.out.mono ?_
  rintro e w1 ⟨rfl, hB1⟩
  have cb1 := cellOld cb (hB1.block _ (cellLt cb))
  have HB1 := Lib.hid (below_trans hb1 hB1)
  have HF := Lib.hid (few_ok t (.slice p t.length c) w1 (HT.out.below HB1.out) hl2)
  clear hB1 hb1 cb HS
  by_cases hfew : t.length ≤ 80
  case neg =>
    rw [decide_eq_false hfew] at HF
    clear hfew hl2
    generalize t.length = n at *
    generalize l.length = m at *
    go_wp2_with fail
    refine HF.out.mono ?_
    rintro e w2 ⟨rfl, hB2⟩
    have HB2 := Lib.hid (below_trans HB1.out hB2)
    clear hB2 HF
    go_wp2_with fail
    go_ret
    exact ⟨rfl, HB2.out⟩
  rw [decide_eq_true hfew] at HF
  have HL : Hid (t.length ≤ 80) := Lib.hid hfew
  clear hl2
  rw [← hu] at HT HF cb1 ⊢
  have HUU := Lib.hid hu
  clear hu hfew
  generalize Value.agg #[Value.slice p t.length c] = arg0
  obtain ⟨m, hm⟩ : ∃ m, m = l.length := ⟨_, rfl⟩
  have HM := Lib.hid hm
  by_cases hm20 : 20 < m
  · have hd1 : decide ((20 : Int) < (m : Int)) = true := by simp; omega
    have hd2 : decide (20 < m) = true := by simp; omega
    rw [← hm] at hcp ⊢
    clear hm hm20
    go_wp2_with fail
    refine HF.out.mono ?_
    rintro e w2 ⟨rfl, hB2⟩
    have HB2 := Lib.hid (below_trans HB1.out hB2)
    clear hB2 HF
    go_wp2_with fail
    go_ret
    exact ⟨rfl, HB2.out⟩
  have hd1 : decide ((20 : Int) < (m : Int)) = false := by simp; omega
  have hd2 : decide (20 < m) = false := by simp; omega
  have HLL : Hid (l.length ≤ 20) := Lib.hid (by omega)
  rw [← hm] at hcp ⊢
  obtain ⟨pv, hpv⟩ : ∃ pv, pv = Value.slice pp m cp := ⟨_, rfl⟩
  have HPV := Lib.hid hpv
  have HP' : Hid (IntsAt w pv l) := Lib.hid (by rw [hpv, HM.out]; exact HP.out)
  clear hm hm20 hpv
  go_wp2_with fail
  refine HF.out.mono ?_
  rintro e w2 ⟨rfl, hB2⟩
  have cb2 := cellOld cb1 (hB2.block _ (cellLt cb1))
  have HB2 := Lib.hid (below_trans HB1.out hB2)
  clear hB2 cb1 HB1 HF HP
  go_upto_region 5 with fail
  rw [← HPV.out]
  clear hd1 hd2 hcp
  obtain ⟨E1, hE1⟩ : ∃ E, E = setE t d x := ⟨_, rfl⟩
  obtain ⟨E2, hE2⟩ : ∃ E, E = chgE t d true := ⟨_, rfl⟩
  obtain ⟨E3, hE3⟩ : ∃ E, E = renE t d l := ⟨_, rfl⟩
  obtain ⟨L1, hL1⟩ : ∃ L, L = setL t d x := ⟨_, rfl⟩
  obtain ⟨L2, hL2⟩ : ∃ L, L = remL t d := ⟨_, rfl⟩
  obtain ⟨L3, hL3⟩ : ∃ L, L = renR t d l := ⟨_, rfl⟩
  have HL1 : Hid (L1.length ≤ 1000000) := Lib.hid (by rw [hL1]; have := setL_length t d x; have := HL.out; omega)
  have HL2 : Hid (L2.length ≤ 1000000) := Lib.hid (by rw [hL2]; have := remL_length t d; have := HL.out; omega)
  have HL3 : Hid (L3.length ≤ 1000000) := Lib.hid (by rw [hL3]; have := renR_length t d l; have := HL.out; omega)
  have HE := Lib.hid (And.intro hE1 (And.intro hE2 (And.intro hE3 (And.intro hL1 (And.intro hL2 hL3)))))
  clear hE1 hE2 hE3 hL1 hL2 hL3
  have HK3 := Lib.hid (set_list t u d x w2 (HT.out.below HB2.out) (by have := HL.out; omega) HD.out HX.out)
  rw [← HE.out.1, ← HE.out.2.2.2.1] at HK3
  go_wp2_with fail
  refine HK3.out.mono ?_
  rintro e v3 ⟨u3, rfl, hn, hB⟩
  obtain ⟨p3, c3, rfl⟩ := nodes_form hn
  obtain ⟨b3, hb⟩ : ∃ b, b = v3.heap.size := ⟨_, rfl⟩
  have hA := below_trans hB (below_alloc v3 (.cells #[.slice p3 L1.length c3] 24))
  have HN3 := Lib.hid (hn.below (below_alloc v3 (.cells #[.slice p3 L1.length c3] 24)))
  have cc3 : (v3.alloc (.cells #[.slice p3 L1.length c3] 24)).cell? ⟨b3, 0, none⟩ = some (.slice p3 L1.length c3) := by rw [hb]; unfold World.cell?; rw [World.alloc_heap_new]; rfl
  have cb3 := cellOld cb2 (hA.block _ (cellLt cb2))
  have HB3 := Lib.hid (below_trans HB2.out hA)
  clear hn hB hA cb2 HB2 HK3
  go_upto_region 6 with fail
  rw [← hb]
  obtain ⟨w3, hw⟩ : ∃ W, W = v3.alloc (.cells #[.slice p3 L1.length c3] 24) := ⟨_, rfl⟩
  rw [← hw] at HN3 cc3 cb3 HB3 ⊢
  clear hw hb
  have HK4 := Lib.hid (rset_ok t u d x w3 (HT.out.below HB3.out) (by have := HL.out; omega) HX.out)
  rw [← HE.out.1, ← HE.out.2.2.2.1] at HK4
  go_wp2_with fail
  refine HK4.out.mono ?_
  rintro e v4 ⟨u4, rfl, hn, hB⟩
  obtain ⟨p4, c4, rfl⟩ := nodes_form hn
  obtain ⟨b4, hb⟩ : ∃ b, b = v4.heap.size := ⟨_, rfl⟩
  have hA := below_trans hB (below_alloc v4 (.cells #[.slice p4 L1.length c4] 24))
  have HN4 := Lib.hid (hn.below (below_alloc v4 (.cells #[.slice p4 L1.length c4] 24)))
  have cc4 : (v4.alloc (.cells #[.slice p4 L1.length c4] 24)).cell? ⟨b4, 0, none⟩ = some (.slice p4 L1.length c4) := by rw [hb]; unfold World.cell?; rw [World.alloc_heap_new]; rfl
  have cb4 := cellOld cb3 (hA.block _ (cellLt cb3))
  have HB4 := Lib.hid (below_trans HB3.out hA)
  have HM3 := Lib.hid (HN3.out.below hA)
  have dd3 := cellOld cc3 (hA.block _ (cellLt cc3))
  clear HN3 cc3
  have HN3 := HM3
  have cc3 := dd3
  clear HM3 dd3
  clear hn hB hA cb3 HB3 HK4
  go_upto_region 7 with fail
  rw [← hb]
  obtain ⟨w4, hw⟩ : ∃ W, W = v4.alloc (.cells #[.slice p4 L1.length c4] 24) := ⟨_, rfl⟩
  rw [← hw] at HN3 cc3 HN4 cc4 cb4 HB4 ⊢
  clear hw hb
  have HK5 := Lib.hid (remove_list t u d w4 (HT.out.below HB4.out) (by have := HL.out; omega) HD.out)
  rw [← HE.out.2.1, ← HE.out.2.2.2.2.1] at HK5
  go_wp2_with fail
  refine HK5.out.mono ?_
  rintro e v5 ⟨u5, rfl, hn, hB⟩
  obtain ⟨p5, c5, rfl⟩ := nodes_form hn
  obtain ⟨b5, hb⟩ : ∃ b, b = v5.heap.size := ⟨_, rfl⟩
  have hA := below_trans hB (below_alloc v5 (.cells #[.slice p5 L2.length c5] 24))
  have HN5 := Lib.hid (hn.below (below_alloc v5 (.cells #[.slice p5 L2.length c5] 24)))
  have cc5 : (v5.alloc (.cells #[.slice p5 L2.length c5] 24)).cell? ⟨b5, 0, none⟩ = some (.slice p5 L2.length c5) := by rw [hb]; unfold World.cell?; rw [World.alloc_heap_new]; rfl
  have cb5 := cellOld cb4 (hA.block _ (cellLt cb4))
  have HB5 := Lib.hid (below_trans HB4.out hA)
  have HM3 := Lib.hid (HN3.out.below hA)
  have dd3 := cellOld cc3 (hA.block _ (cellLt cc3))
  clear HN3 cc3
  have HN3 := HM3
  have cc3 := dd3
  clear HM3 dd3
  have HM4 := Lib.hid (HN4.out.below hA)
  have dd4 := cellOld cc4 (hA.block _ (cellLt cc4))
  clear HN4 cc4
  have HN4 := HM4
  have cc4 := dd4
  clear HM4 dd4
  clear hn hB hA cb4 HB4 HK5
  go_upto_region 8 with fail
  rw [← hb]
  obtain ⟨w5, hw⟩ : ∃ W, W = v5.alloc (.cells #[.slice p5 L2.length c5] 24) := ⟨_, rfl⟩
  rw [← hw] at HN3 cc3 HN4 cc4 HN5 cc5 cb5 HB5 ⊢
  clear hw hb
  have HK6 := Lib.hid (rremove_ok t u d w5 (HT.out.below HB5.out) (by have := HL.out; omega))
  rw [← HE.out.2.1, ← HE.out.2.2.2.2.1] at HK6
  go_wp2_with fail
  refine HK6.out.mono ?_
  rintro e v6 ⟨u6, rfl, hn, hB⟩
  obtain ⟨p6, c6, rfl⟩ := nodes_form hn
  obtain ⟨b6, hb⟩ : ∃ b, b = v6.heap.size := ⟨_, rfl⟩
  have hA := below_trans hB (below_alloc v6 (.cells #[.slice p6 L2.length c6] 24))
  have HN6 := Lib.hid (hn.below (below_alloc v6 (.cells #[.slice p6 L2.length c6] 24)))
  have cc6 : (v6.alloc (.cells #[.slice p6 L2.length c6] 24)).cell? ⟨b6, 0, none⟩ = some (.slice p6 L2.length c6) := by rw [hb]; unfold World.cell?; rw [World.alloc_heap_new]; rfl
  have cb6 := cellOld cb5 (hA.block _ (cellLt cb5))
  have HB6 := Lib.hid (below_trans HB5.out hA)
  have HM3 := Lib.hid (HN3.out.below hA)
  have dd3 := cellOld cc3 (hA.block _ (cellLt cc3))
  clear HN3 cc3
  have HN3 := HM3
  have cc3 := dd3
  clear HM3 dd3
  have HM4 := Lib.hid (HN4.out.below hA)
  have dd4 := cellOld cc4 (hA.block _ (cellLt cc4))
  clear HN4 cc4
  have HN4 := HM4
  have cc4 := dd4
  clear HM4 dd4
  have HM5 := Lib.hid (HN5.out.below hA)
  have dd5 := cellOld cc5 (hA.block _ (cellLt cc5))
  clear HN5 cc5
  have HN5 := HM5
  have cc5 := dd5
  clear HM5 dd5
  clear hn hB hA cb5 HB5 HK6
  go_upto_region 9 with fail
  rw [← hb]
  obtain ⟨w6, hw⟩ : ∃ W, W = v6.alloc (.cells #[.slice p6 L2.length c6] 24) := ⟨_, rfl⟩
  rw [← hw] at HN3 cc3 HN4 cc4 HN5 cc5 HN6 cc6 cb6 HB6 ⊢
  clear hw hb
  have HK7 := Lib.hid (renew_list t u d l pv w6 (HT.out.below HB6.out) (by have := HL.out; omega) HD.out (ints_below HP'.out HB6.out) (by have := HLL.out; omega) HLI.out)
  rw [← HE.out.2.2.1, ← HE.out.2.2.2.2.2] at HK7
  go_wp2_with fail
  refine HK7.out.mono ?_
  rintro e v7 ⟨u7, rfl, hn, hB⟩
  obtain ⟨p7, c7, rfl⟩ := nodes_form hn
  obtain ⟨b7, hb⟩ : ∃ b, b = v7.heap.size := ⟨_, rfl⟩
  have hA := below_trans hB (below_alloc v7 (.cells #[.slice p7 L3.length c7] 24))
  have HN7 := Lib.hid (hn.below (below_alloc v7 (.cells #[.slice p7 L3.length c7] 24)))
  have cc7 : (v7.alloc (.cells #[.slice p7 L3.length c7] 24)).cell? ⟨b7, 0, none⟩ = some (.slice p7 L3.length c7) := by rw [hb]; unfold World.cell?; rw [World.alloc_heap_new]; rfl
  have cb7 := cellOld cb6 (hA.block _ (cellLt cb6))
  have HB7 := Lib.hid (below_trans HB6.out hA)
  have HM3 := Lib.hid (HN3.out.below hA)
  have dd3 := cellOld cc3 (hA.block _ (cellLt cc3))
  clear HN3 cc3
  have HN3 := HM3
  have cc3 := dd3
  clear HM3 dd3
  have HM4 := Lib.hid (HN4.out.below hA)
  have dd4 := cellOld cc4 (hA.block _ (cellLt cc4))
  clear HN4 cc4
  have HN4 := HM4
  have cc4 := dd4
  clear HM4 dd4
  have HM5 := Lib.hid (HN5.out.below hA)
  have dd5 := cellOld cc5 (hA.block _ (cellLt cc5))
  clear HN5 cc5
  have HN5 := HM5
  have cc5 := dd5
  clear HM5 dd5
  have HM6 := Lib.hid (HN6.out.below hA)
  have dd6 := cellOld cc6 (hA.block _ (cellLt cc6))
  clear HN6 cc6
  have HN6 := HM6
  have cc6 := dd6
  clear HM6 dd6
  clear hn hB hA cb6 HB6 HK7
  go_upto_region 10 with fail
  rw [← hb]
  obtain ⟨w7, hw⟩ : ∃ W, W = v7.alloc (.cells #[.slice p7 L3.length c7] 24) := ⟨_, rfl⟩
  rw [← hw] at HN3 cc3 HN4 cc4 HN5 cc5 HN6 cc6 HN7 cc7 cb7 HB7 ⊢
  clear hw hb
  have HK8 := Lib.hid (rrenew_ok t u d l pv w7 (HT.out.below HB7.out) (by have := HL.out; omega) (ints_below HP'.out HB7.out) (by have := HLL.out; omega) HLI.out)
  rw [← HE.out.2.2.1, ← HE.out.2.2.2.2.2] at HK8
  go_wp2_with fail
  refine HK8.out.mono ?_
  rintro e v8 ⟨u8, rfl, hn, hB⟩
  obtain ⟨p8, c8, rfl⟩ := nodes_form hn
  obtain ⟨b8, hb⟩ : ∃ b, b = v8.heap.size := ⟨_, rfl⟩
  have hA := below_trans hB (below_alloc v8 (.cells #[.slice p8 L3.length c8] 24))
  have HN8 := Lib.hid (hn.below (below_alloc v8 (.cells #[.slice p8 L3.length c8] 24)))
  have cc8 : (v8.alloc (.cells #[.slice p8 L3.length c8] 24)).cell? ⟨b8, 0, none⟩ = some (.slice p8 L3.length c8) := by rw [hb]; unfold World.cell?; rw [World.alloc_heap_new]; rfl
  have cb8 := cellOld cb7 (hA.block _ (cellLt cb7))
  have HB8 := Lib.hid (below_trans HB7.out hA)
  have HM3 := Lib.hid (HN3.out.below hA)
  have dd3 := cellOld cc3 (hA.block _ (cellLt cc3))
  clear HN3 cc3
  have HN3 := HM3
  have cc3 := dd3
  clear HM3 dd3
  have HM4 := Lib.hid (HN4.out.below hA)
  have dd4 := cellOld cc4 (hA.block _ (cellLt cc4))
  clear HN4 cc4
  have HN4 := HM4
  have cc4 := dd4
  clear HM4 dd4
  have HM5 := Lib.hid (HN5.out.below hA)
  have dd5 := cellOld cc5 (hA.block _ (cellLt cc5))
  clear HN5 cc5
  have HN5 := HM5
  have cc5 := dd5
  clear HM5 dd5
  have HM6 := Lib.hid (HN6.out.below hA)
  have dd6 := cellOld cc6 (hA.block _ (cellLt cc6))
  clear HN6 cc6
  have HN6 := HM6
  have cc6 := dd6
  clear HM6 dd6
  have HM7 := Lib.hid (HN7.out.below hA)
  have dd7 := cellOld cc7 (hA.block _ (cellLt cc7))
  clear HN7 cc7
  have HN7 := HM7
  have cc7 := dd7
  clear HM7 dd7
  clear hn hB hA cb7 HB7 HK8
  go_upto_region 11 with fail
  rw [← hb]
  obtain ⟨w8, hw⟩ : ∃ W, W = v8.alloc (.cells #[.slice p8 L3.length c8] 24) := ⟨_, rfl⟩
  rw [← hw] at HN3 cc3 HN4 cc4 HN5 cc5 HN6 cc6 HN7 cc7 HN8 cc8 cb8 HB8 ⊢
  clear hw hb
  have HK9 := Lib.hid (same_self L1 (.slice p3 L1.length c3) (.slice p4 L1.length c4) w8 HN3.out HN4.out HL1.out)
  go_wp2_with fail
  refine HK9.out.mono ?_
  rintro e w9 ⟨rfl, hA⟩
  have HB9 := Lib.hid (below_trans HB8.out hA)
  have HM5 := Lib.hid (HN5.out.below hA)
  have dd5 := cellOld cc5 (hA.block _ (cellLt cc5))
  clear HN5 cc5
  have HN5 := HM5
  have cc5 := dd5
  clear HM5 dd5
  have HM6 := Lib.hid (HN6.out.below hA)
  have dd6 := cellOld cc6 (hA.block _ (cellLt cc6))
  clear HN6 cc6
  have HN6 := HM6
  have cc6 := dd6
  clear HM6 dd6
  have HM7 := Lib.hid (HN7.out.below hA)
  have dd7 := cellOld cc7 (hA.block _ (cellLt cc7))
  clear HN7 cc7
  have HN7 := HM7
  have cc7 := dd7
  clear HM7 dd7
  have HM8 := Lib.hid (HN8.out.below hA)
  have dd8 := cellOld cc8 (hA.block _ (cellLt cc8))
  clear HN8 cc8
  have HN8 := HM8
  have cc8 := dd8
  clear HM8 dd8
  clear hA HB8 HK9 HN3 HN4 cc3 cc4 cb8
  have HK10 := Lib.hid (same_self L2 (.slice p5 L2.length c5) (.slice p6 L2.length c6) w9 HN5.out HN6.out HL2.out)
  go_wp2_with fail
  refine HK10.out.mono ?_
  rintro e w10 ⟨rfl, hA⟩
  have HB10 := Lib.hid (below_trans HB9.out hA)
  have HM7 := Lib.hid (HN7.out.below hA)
  have dd7 := cellOld cc7 (hA.block _ (cellLt cc7))
  clear HN7 cc7
  have HN7 := HM7
  have cc7 := dd7
  clear HM7 dd7
  have HM8 := Lib.hid (HN8.out.below hA)
  have dd8 := cellOld cc8 (hA.block _ (cellLt cc8))
  clear HN8 cc8
  have HN8 := HM8
  have cc8 := dd8
  clear HM8 dd8
  clear hA HB9 HK10 HN5 HN6 cc5 cc6
  have HK11 := Lib.hid (same_self L3 (.slice p7 L3.length c7) (.slice p8 L3.length c8) w10 HN7.out HN8.out HL3.out)
  go_wp2_with fail
  refine HK11.out.mono ?_
  rintro e w11 ⟨rfl, hA⟩
  have HB11 := Lib.hid (below_trans HB10.out hA)
  clear hA HB10 HK11 HN7 HN8 cc7 cc8
  go_wp2_with fail
  go_ret
  exact ⟨rfl, HB11.out⟩
theorem setSpec_w {H : Type} {enc : TypeId × Value → H} {base : Nat} (v0 : Value) (d0 : DataW H) (p0 : List MemPlace) {W : World} (h0 : DataW.Trod enc Try.prog W 0 (fun _ => true) true 24 v0 d0 p0) (o0 : Value.okWide Try.prog W .any base 24 v0)
    (a1 : Int) (w1 : (Lit.int .i64 a1).wf = true) (a2 : Int) (w2 : (Lit.int .i64 a2).wf = true) (v3 : Value) (d3 : DataW H) (p3 : List MemPlace) (h3 : DataW.Trod enc Try.prog W 0 (fun _ => true) true 27 v3 d3 p3) (o3 : Value.okWide Try.prog W .any base 27 v3) :
    Calls Try.prog 4 #[v0, .int .i64 a1, .int .i64 a2, v3] W fun e w' => e = .returned (.bool true) ∧ Below W.heap.size W w' := by
  obtain ⟨u, t, rfl, ht, hl⟩ := treeIn h0 o0
  obtain ⟨l, hp, hpl, hli⟩ := intsIn h3 o3
  exact setSpec_walk t u a1 a2 l v3 W ht hl w1 w2 hp hpl hli
end Go.Proofs.Ytekdekchbnacgaa
