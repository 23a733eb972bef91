/- The walk of KeytreeExchange. -/
import Derived.Test.YtekdekchbnacgaaLw
import Derived.Test.YtekdekchbnacgaaLs
namespace Go.Proofs.Ytekdekchbnacgaa
open Go.RowKit
set_option maxRecDepth 100000
set_option linter.unusedVariables false
set_option linter.unusedSimpArgs false

set_option maxHeartbeats 4000000 in
theorem exchange_walk (t : List (Int × Int)) (u : Value) (a b P Q : Int) (w : World) (ht : NodesAt w u t) (hl : t.length ≤ maxLen) (ha : I64 a) (hb : I64 b) (hP : I64 P) (hQ : I64 Q) :
    Calls Try.prog 6 #[.agg #[u], .int .i64 a, .int .i64 b, .int .i64 P, .int .i64 Q] w fun e w' => e = .returned (.bool true) ∧ Below w.heap.size w w' := by
  obtain ⟨B, hB⟩ : ∃ B, B = w.heap.size := ⟨_, rfl⟩
  obtain ⟨W0, hW0⟩ : ∃ W0, W0 = w.alloc (.cells #[u] 24) := ⟨_, rfl⟩
  have hb1 : Below w.heap.size w W0 := by rw [hW0]; exact below_alloc _ _
  have cb : W0.cell? ⟨B, 0, none⟩ = some u := by rw [hW0, hB]; unfold World.cell?; rw [World.alloc_heap_new]; rfl
  have HS := Lib.hid (sane_ok W0)
  have HT := Lib.hid ht
  have HIa := Lib.hid ha
  have HIb := Lib.hid hb
  have HIp := Lib.hid hP
  have HIq := Lib.hid hQ
  obtain ⟨p, c, rfl⟩ := nodes_form ht
  obtain ⟨u, hu⟩ : ∃ u, u = Value.slice p t.length c := ⟨_, rfl⟩
  have hl2 := hl
  clear ht hl ha hb hP hQ
  go_enter Try.func6, Try.ntmps6
  go_wp2_with fail
  rw [← hW0, ← hB]
  have HBW := Lib.hid hB
  clear hW0 hB
  refine HS.out.mono ?_
  rintro e w1 ⟨rfl, hB1⟩
  have cb1 := cellOld cb (hB1.block _ (cellLt cb))
  have HB1 := Lib.hid (below_trans hb1 hB1)
  have HF := Lib.hid (few_ok t (.slice p t.length c) w1 (HT.out.below HB1.out) hl2)
  clear hB1 hb1 cb HS
  by_cases hfew : t.length ≤ 80
  case neg =>
    rw [decide_eq_false hfew] at HF
    clear hfew hl2
    generalize t.length = n at *
    go_wp2_with fail
    refine HF.out.mono ?_
    rintro e w2 ⟨rfl, hB2⟩
    have HB2 := Lib.hid (below_trans HB1.out hB2)
    clear hB2 HF
    go_wp2_with fail
    go_ret
    exact ⟨rfl, HB2.out⟩
  rw [decide_eq_true hfew] at HF
  have HL : Hid (t.length ≤ 80) := Lib.hid hfew
  clear hl2
  obtain ⟨nt, hnt⟩ : ∃ nt, nt = t.length := ⟨_, rfl⟩
  have HNT := Lib.hid hnt
  rw [← hnt] at HF cb1 hu ⊢
  clear hnt hfew
  go_wp2_with fail
  refine HF.out.mono ?_
  rintro e w2 ⟨rfl, hB2⟩
  have cb2 := cellOld cb1 (hB2.block _ (cellLt cb1))
  have HB2 := Lib.hid (below_trans HB1.out hB2)
  clear hB2 cb1 HB1 HF
  by_cases hab : a = b
  · have hd1 : (a == b) = true := by simpa using hab
    have hd2 : decide (a = b) = true := by simpa using hab
    clear hab
    go_wp2_with fail
    go_ret
    exact ⟨rfl, HB2.out⟩
  have hd1 : (a == b) = false := by simpa using hab
  have hd2 : decide (a = b) = false := by simpa using hab
  have HAB := Lib.hid hab
  clear hab
  go_upto_region 5 with fail
  rw [HNT.out] at hu
  rw [HNT.out, ← hu] at cb2
  rw [← hu] at HT
  have HUU := Lib.hid hu
  clear hd1 hd2 hu
  obtain ⟨E1, hE1⟩ : ∃ E, E = setE t a P := ⟨_, rfl⟩
  obtain ⟨E2, hE2⟩ : ∃ E, E = setE t b Q := ⟨_, rfl⟩
  obtain ⟨X, hX⟩ : ∃ L, L = setL t a P := ⟨_, rfl⟩
  obtain ⟨Y, hY⟩ : ∃ L, L = setL t b Q := ⟨_, rfl⟩
  have HLX : Hid (X.length ≤ 81) := Lib.hid (by rw [hX]; have := setL_length t a P; have := HL.out; omega)
  have HLY : Hid (Y.length ≤ 81) := Lib.hid (by rw [hY]; have := setL_length t b Q; have := HL.out; omega)
  have HE := Lib.hid (And.intro hE1 (And.intro hE2 (And.intro hX hY)))
  clear hE1 hE2 hX hY
  have HK3 := Lib.hid (set_list t u a P w2 (HT.out.below HB2.out) (by have := HL.out; omega) HIa.out HIp.out)
  rw [← HE.out.1, ← HE.out.2.2.1] at HK3
  go_wp2_with fail
  refine HK3.out.mono ?_
  rintro e v3 ⟨u3, rfl, hn, hB⟩
  obtain ⟨p3, c3, rfl⟩ := nodes_form hn
  obtain ⟨b3, hb⟩ : ∃ b, b = v3.heap.size := ⟨_, rfl⟩
  have hA := below_trans hB (below_alloc v3 (.cells #[.slice p3 X.length c3] 24))
  have HN3 := Lib.hid (hn.below (below_alloc v3 (.cells #[.slice p3 X.length c3] 24)))
  have cc3 : (v3.alloc (.cells #[.slice p3 X.length c3] 24)).cell? ⟨b3, 0, none⟩ = some (.slice p3 X.length c3) := by rw [hb]; unfold World.cell?; rw [World.alloc_heap_new]; rfl
  have cb3 := cellOld cb2 (hA.block _ (cellLt cb2))
  have HB3 := Lib.hid (below_trans HB2.out hA)
  clear hn hB hA cb2 HB2 HK3
  go_upto_region 6 with fail
  rw [← hb]
  obtain ⟨w3, hw⟩ : ∃ W, W = v3.alloc (.cells #[.slice p3 X.length c3] 24) := ⟨_, rfl⟩
  rw [← hw] at HN3 cc3  cb3 HB3 ⊢
  clear hw hb
  have HK4 := Lib.hid (set_list t u b Q w3 (HT.out.below HB3.out) (by have := HL.out; omega) HIb.out HIq.out)
  rw [← HE.out.2.1, ← HE.out.2.2.2] at HK4
  go_wp2_with fail
  refine HK4.out.mono ?_
  rintro e v4 ⟨u4, rfl, hn, hB⟩
  obtain ⟨p4, c4, rfl⟩ := nodes_form hn
  obtain ⟨b4, hb⟩ : ∃ b, b = v4.heap.size := ⟨_, rfl⟩
  have hA := below_trans hB (below_alloc v4 (.cells #[.slice p4 Y.length c4] 24))
  have HN4 := Lib.hid (hn.below (below_alloc v4 (.cells #[.slice p4 Y.length c4] 24)))
  have cc4 : (v4.alloc (.cells #[.slice p4 Y.length c4] 24)).cell? ⟨b4, 0, none⟩ = some (.slice p4 Y.length c4) := by rw [hb]; unfold World.cell?; rw [World.alloc_heap_new]; rfl
  have cb4 := cellOld cb3 (hA.block _ (cellLt cb3))
  have HB4 := Lib.hid (below_trans HB3.out hA)
  have HM3 := Lib.hid (HN3.out.below hA)
  have dd3 := cellOld cc3 (hA.block _ (cellLt cc3))
  clear HN3 cc3
  have HN3 := HM3
  have cc3 := dd3
  clear HM3 dd3
  clear hn hB hA cb3 HB3 HK4
  go_upto_region 7 with fail
  rw [← hb]
  obtain ⟨w4, hw⟩ : ∃ W, W = v4.alloc (.cells #[.slice p4 Y.length c4] 24) := ⟨_, rfl⟩
  rw [← hw] at HN3 cc3 HN4 cc4  cb4 HB4 ⊢
  clear hw hb
  by_cases h1 : E1 = 0
  case neg =>
    have hd1 : (E1 == 0) = false := by simpa using h1
    have hd2 : decide (E1 = 0) = false := by simpa using h1
    have hd3 : (E1 != 0) = true := by simpa using h1
    clear h1
    go_wp2_with fail
    go_ret
    exact ⟨rfl, HB4.out⟩
  subst h1
  by_cases h2 : E2 = 0
  case neg =>
    have hd1 : (E2 == 0) = false := by simpa using h2
    have hd2 : decide (E2 = 0) = false := by simpa using h2
    have hd3 : (E2 != 0) = true := by simpa using h2
    clear h2
    go_wp2_with fail
    go_ret
    exact ⟨rfl, HB4.out⟩
  subst h2
  obtain ⟨X', Y', U, S, hX', hY', -, -, e3, l3, e4, l4, wU, e5, e6, l6, wS, e7, l7, hle⟩ := exchange (nodes_wf HT.out) HIp.out HIq.out HAB.out HE.out.1.symm HE.out.2.1.symm
  obtain rfl : X = X' := HE.out.2.2.1.trans hX'
  obtain rfl : Y = Y' := HE.out.2.2.2.trans hY'
  obtain ⟨R, hR⟩ : ∃ R, R = remL U a := ⟨_, rfl⟩
  have HLU : Hid (U.length ≤ 82) := Lib.hid (by rw [← l3]; have := setL_length X b Q; have := HLX.out; omega)
  have HLS : Hid (S.length ≤ 80) := Lib.hid (by have := HL.out; omega)
  have HLR : Hid (R.length ≤ 82) := Lib.hid (by rw [hR]; have := remL_length U a; have := HLU.out; omega)
  have HX2 := Lib.hid (And.intro e3 (And.intro l3 (And.intro e4 (And.intro l4 (And.intro e5 (And.intro e6 (And.intro l6 (And.intro e7 (And.intro l7 (And.intro hle hR))))))))))
  clear hX' hY' e3 l3 e4 l4 wU e5 e6 l6 wS e7 l7 hle hR
  go_upto_region 9 with fail
  have HK5 := Lib.hid (set_list X (.slice p3 X.length c3) b Q w4 HN3.out (by have := HLX.out; omega) HIb.out HIq.out)
  rw [HX2.out.1, HX2.out.2.1] at HK5
  go_wp2_with fail
  refine HK5.out.mono ?_
  rintro e v5 ⟨u5, rfl, hn, hB⟩
  obtain ⟨p5, c5, rfl⟩ := nodes_form hn
  obtain ⟨b5, hb⟩ : ∃ b, b = v5.heap.size := ⟨_, rfl⟩
  have hA := below_trans hB (below_alloc v5 (.cells #[.slice p5 U.length c5] 24))
  have HN5 := Lib.hid (hn.below (below_alloc v5 (.cells #[.slice p5 U.length c5] 24)))
  have cc5 : (v5.alloc (.cells #[.slice p5 U.length c5] 24)).cell? ⟨b5, 0, none⟩ = some (.slice p5 U.length c5) := by rw [hb]; unfold World.cell?; rw [World.alloc_heap_new]; rfl
  have cb5 := cellOld cb4 (hA.block _ (cellLt cb4))
  have HB5 := Lib.hid (below_trans HB4.out hA)
  have HM3 := Lib.hid (HN3.out.below hA)
  have dd3 := cellOld cc3 (hA.block _ (cellLt cc3))
  clear HN3 cc3
  have HN3 := HM3
  have cc3 := dd3
  clear HM3 dd3
  have HM4 := Lib.hid (HN4.out.below hA)
  have dd4 := cellOld cc4 (hA.block _ (cellLt cc4))
  clear HN4 cc4
  have HN4 := HM4
  have cc4 := dd4
  clear HM4 dd4
  clear hn hB hA cb4 HB4 HK5
  go_upto_region 10 with fail
  rw [← hb]
  obtain ⟨w5, hw⟩ : ∃ W, W = v5.alloc (.cells #[.slice p5 U.length c5] 24) := ⟨_, rfl⟩
  rw [← hw] at HN3 cc3 HN4 cc4 HN5 cc5  cb5 HB5 ⊢
  clear hw hb
  have HK6 := Lib.hid (set_list Y (.slice p4 Y.length c4) a P w5 HN4.out (by have := HLY.out; omega) HIa.out HIp.out)
  rw [HX2.out.2.2.1, HX2.out.2.2.2.1] at HK6
  go_wp2_with fail
  refine HK6.out.mono ?_
  rintro e v6 ⟨u6, rfl, hn, hB⟩
  obtain ⟨p6, c6, rfl⟩ := nodes_form hn
  obtain ⟨b6, hb⟩ : ∃ b, b = v6.heap.size := ⟨_, rfl⟩
  have hA := below_trans hB (below_alloc v6 (.cells #[.slice p6 U.length c6] 24))
  have HN6 := Lib.hid (hn.below (below_alloc v6 (.cells #[.slice p6 U.length c6] 24)))
  have cc6 : (v6.alloc (.cells #[.slice p6 U.length c6] 24)).cell? ⟨b6, 0, none⟩ = some (.slice p6 U.length c6) := by rw [hb]; unfold World.cell?; rw [World.alloc_heap_new]; rfl
  have cb6 := cellOld cb5 (hA.block _ (cellLt cb5))
  have HB6 := Lib.hid (below_trans HB5.out hA)
  have HM3 := Lib.hid (HN3.out.below hA)
  have dd3 := cellOld cc3 (hA.block _ (cellLt cc3))
  clear HN3 cc3
  have HN3 := HM3
  have cc3 := dd3
  clear HM3 dd3
  have HM4 := Lib.hid (HN4.out.below hA)
  have dd4 := cellOld cc4 (hA.block _ (cellLt cc4))
  clear HN4 cc4
  have HN4 := HM4
  have cc4 := dd4
  clear HM4 dd4
  have HM5 := Lib.hid (HN5.out.below hA)
  have dd5 := cellOld cc5 (hA.block _ (cellLt cc5))
  clear HN5 cc5
  have HN5 := HM5
  have cc5 := dd5
  clear HM5 dd5
  clear hn hB hA cb5 HB5 HK6
  go_upto_region 11 with fail
  rw [← hb]
  obtain ⟨w6, hw⟩ : ∃ W, W = v6.alloc (.cells #[.slice p6 U.length c6] 24) := ⟨_, rfl⟩
  rw [← hw] at HN3 cc3 HN4 cc4 HN5 cc5 HN6 cc6  cb6 HB6 ⊢
  clear hw hb
  have HK7 := Lib.hid (remove_list U (.slice p5 U.length c5) a w6 HN5.out (by have := HLU.out; omega) HIa.out)
  rw [HX2.out.2.2.2.2.1, ← HX2.out.2.2.2.2.2.2.2.2.2.2] at HK7
  go_wp2_with fail
  refine HK7.out.mono ?_
  rintro e v7 ⟨u7, rfl, hn, hB⟩
  obtain ⟨p7, c7, rfl⟩ := nodes_form hn
  obtain ⟨b7, hb⟩ : ∃ b, b = v7.heap.size := ⟨_, rfl⟩
  have hA := below_trans hB (below_alloc v7 (.cells #[.slice p7 R.length c7] 24))
  have HN7 := Lib.hid (hn.below (below_alloc v7 (.cells #[.slice p7 R.length c7] 24)))
  have cc7 : (v7.alloc (.cells #[.slice p7 R.length c7] 24)).cell? ⟨b7, 0, none⟩ = some (.slice p7 R.length c7) := by rw [hb]; unfold World.cell?; rw [World.alloc_heap_new]; rfl
  have cb7 := cellOld cb6 (hA.block _ (cellLt cb6))
  have HB7 := Lib.hid (below_trans HB6.out hA)
  have HM3 := Lib.hid (HN3.out.below hA)
  have dd3 := cellOld cc3 (hA.block _ (cellLt cc3))
  clear HN3 cc3
  have HN3 := HM3
  have cc3 := dd3
  clear HM3 dd3
  have HM4 := Lib.hid (HN4.out.below hA)
  have dd4 := cellOld cc4 (hA.block _ (cellLt cc4))
  clear HN4 cc4
  have HN4 := HM4
  have cc4 := dd4
  clear HM4 dd4
  have HM5 := Lib.hid (HN5.out.below hA)
  have dd5 := cellOld cc5 (hA.block _ (cellLt cc5))
  clear HN5 cc5
  have HN5 := HM5
  have cc5 := dd5
  clear HM5 dd5
  have HM6 := Lib.hid (HN6.out.below hA)
  have dd6 := cellOld cc6 (hA.block _ (cellLt cc6))
  clear HN6 cc6
  have HN6 := HM6
  have cc6 := dd6
  clear HM6 dd6
  clear hn hB hA cb6 HB6 HK7
  go_upto_region 12 with fail
  rw [← hb]
  obtain ⟨w7, hw⟩ : ∃ W, W = v7.alloc (.cells #[.slice p7 R.length c7] 24) := ⟨_, rfl⟩
  rw [← hw] at HN3 cc3 HN4 cc4 HN5 cc5 HN6 cc6 HN7 cc7  cb7 HB7 ⊢
  clear hw hb
  have HK8 := Lib.hid (remove_list X (.slice p3 X.length c3) a w7 HN3.out (by have := HLX.out; omega) HIa.out)
  rw [HX2.out.2.2.2.2.2.1, HX2.out.2.2.2.2.2.2.1] at HK8
  go_wp2_with fail
  refine HK8.out.mono ?_
  rintro e v8 ⟨u8, rfl, hn, hB⟩
  obtain ⟨p8, c8, rfl⟩ := nodes_form hn
  obtain ⟨b8, hb⟩ : ∃ b, b = v8.heap.size := ⟨_, rfl⟩
  have hA := below_trans hB (below_alloc v8 (.cells #[.slice p8 S.length c8] 24))
  have HN8 := Lib.hid (hn.below (below_alloc v8 (.cells #[.slice p8 S.length c8] 24)))
  have cc8 : (v8.alloc (.cells #[.slice p8 S.length c8] 24)).cell? ⟨b8, 0, none⟩ = some (.slice p8 S.length c8) := by rw [hb]; unfold World.cell?; rw [World.alloc_heap_new]; rfl
  have cb8 := cellOld cb7 (hA.block _ (cellLt cb7))
  have HB8 := Lib.hid (below_trans HB7.out hA)
  have HM3 := Lib.hid (HN3.out.below hA)
  have dd3 := cellOld cc3 (hA.block _ (cellLt cc3))
  clear HN3 cc3
  have HN3 := HM3
  have cc3 := dd3
  clear HM3 dd3
  have HM4 := Lib.hid (HN4.out.below hA)
  have dd4 := cellOld cc4 (hA.block _ (cellLt cc4))
  clear HN4 cc4
  have HN4 := HM4
  have cc4 := dd4
  clear HM4 dd4
  have HM5 := Lib.hid (HN5.out.below hA)
  have dd5 := cellOld cc5 (hA.block _ (cellLt cc5))
  clear HN5 cc5
  have HN5 := HM5
  have cc5 := dd5
  clear HM5 dd5
  have HM6 := Lib.hid (HN6.out.below hA)
  have dd6 := cellOld cc6 (hA.block _ (cellLt cc6))
  clear HN6 cc6
  have HN6 := HM6
  have cc6 := dd6
  clear HM6 dd6
  have HM7 := Lib.hid (HN7.out.below hA)
  have dd7 := cellOld cc7 (hA.block _ (cellLt cc7))
  clear HN7 cc7
  have HN7 := HM7
  have cc7 := dd7
  clear HM7 dd7
  clear hn hB hA cb7 HB7 HK8
  go_upto_region 13 with fail
  rw [← hb]
  obtain ⟨w8, hw⟩ : ∃ W, W = v8.alloc (.cells #[.slice p8 S.length c8] 24) := ⟨_, rfl⟩
  rw [← hw] at HN3 cc3 HN4 cc4 HN5 cc5 HN6 cc6 HN7 cc7 HN8 cc8  cb8 HB8 ⊢
  clear hw hb
  have HK9 := Lib.hid (set_list S (.slice p8 S.length c8) b Q w8 HN8.out (by have := HLS.out; omega) HIb.out HIq.out)
  rw [HX2.out.2.2.2.2.2.2.2.1, HX2.out.2.2.2.2.2.2.2.2.1, ← HX2.out.2.2.2.2.2.2.2.2.2.2] at HK9
  go_wp2_with fail
  refine HK9.out.mono ?_
  rintro e v9 ⟨u9, rfl, hn, hB⟩
  obtain ⟨p9, c9, rfl⟩ := nodes_form hn
  obtain ⟨b9, hb⟩ : ∃ b, b = v9.heap.size := ⟨_, rfl⟩
  have hA := below_trans hB (below_alloc v9 (.cells #[.slice p9 R.length c9] 24))
  have HN9 := Lib.hid (hn.below (below_alloc v9 (.cells #[.slice p9 R.length c9] 24)))
  have cc9 : (v9.alloc (.cells #[.slice p9 R.length c9] 24)).cell? ⟨b9, 0, none⟩ = some (.slice p9 R.length c9) := by rw [hb]; unfold World.cell?; rw [World.alloc_heap_new]; rfl
  have cb9 := cellOld cb8 (hA.block _ (cellLt cb8))
  have HB9 := Lib.hid (below_trans HB8.out hA)
  have HM3 := Lib.hid (HN3.out.below hA)
  have dd3 := cellOld cc3 (hA.block _ (cellLt cc3))
  clear HN3 cc3
  have HN3 := HM3
  have cc3 := dd3
  clear HM3 dd3
  have HM4 := Lib.hid (HN4.out.below hA)
  have dd4 := cellOld cc4 (hA.block _ (cellLt cc4))
  clear HN4 cc4
  have HN4 := HM4
  have cc4 := dd4
  clear HM4 dd4
  have HM5 := Lib.hid (HN5.out.below hA)
  have dd5 := cellOld cc5 (hA.block _ (cellLt cc5))
  clear HN5 cc5
  have HN5 := HM5
  have cc5 := dd5
  clear HM5 dd5
  have HM6 := Lib.hid (HN6.out.below hA)
  have dd6 := cellOld cc6 (hA.block _ (cellLt cc6))
  clear HN6 cc6
  have HN6 := HM6
  have cc6 := dd6
  clear HM6 dd6
  have HM7 := Lib.hid (HN7.out.below hA)
  have dd7 := cellOld cc7 (hA.block _ (cellLt cc7))
  clear HN7 cc7
  have HN7 := HM7
  have cc7 := dd7
  clear HM7 dd7
  have HM8 := Lib.hid (HN8.out.below hA)
  have dd8 := cellOld cc8 (hA.block _ (cellLt cc8))
  clear HN8 cc8
  have HN8 := HM8
  have cc8 := dd8
  clear HM8 dd8
  clear hn hB hA cb8 HB8 HK9
  go_upto_region 14 with fail
  rw [← hb]
  obtain ⟨w9, hw⟩ : ∃ W, W = v9.alloc (.cells #[.slice p9 R.length c9] 24) := ⟨_, rfl⟩
  rw [← hw] at HN3 cc3 HN4 cc4 HN5 cc5 HN6 cc6 HN7 cc7 HN8 cc8 HN9 cc9  cb9 HB9 ⊢
  clear hw hb
  go_upto_region 16 with fail
  clear HN3 HN4 cc3 cc4
  have HK10 := Lib.hid (same_self U (.slice p5 U.length c5) (.slice p6 U.length c6) w9 HN5.out HN6.out (by have := HLU.out; omega))
  go_wp2_with fail
  refine HK10.out.mono ?_
  rintro e w10 ⟨rfl, hA⟩
  have HB10 := Lib.hid (below_trans HB9.out hA)
  have cb10 := cellOld cb9 (hA.block _ (cellLt cb9))
  have HM7 := Lib.hid (HN7.out.below hA)
  have dd7 := cellOld cc7 (hA.block _ (cellLt cc7))
  clear HN7 cc7
  have HN7 := HM7
  have cc7 := dd7
  clear HM7 dd7
  have HM8 := Lib.hid (HN8.out.below hA)
  have dd8 := cellOld cc8 (hA.block _ (cellLt cc8))
  clear HN8 cc8
  have HN8 := HM8
  have cc8 := dd8
  clear HM8 dd8
  have HM9 := Lib.hid (HN9.out.below hA)
  have dd9 := cellOld cc9 (hA.block _ (cellLt cc9))
  clear HN9 cc9
  have HN9 := HM9
  have cc9 := dd9
  clear HM9 dd9
  clear hA HB9 HK10 HN5 cc5 HN6 cc6 cb9
  have HK11 := Lib.hid (same_self R (.slice p7 R.length c7) (.slice p9 R.length c9) w10 HN7.out HN9.out (by have := HLR.out; omega))
  go_wp2_with fail
  refine HK11.out.mono ?_
  rintro e w11 ⟨rfl, hA⟩
  have HB11 := Lib.hid (below_trans HB10.out hA)
  have cb11 := cellOld cb10 (hA.block _ (cellLt cb10))
  have HM8 := Lib.hid (HN8.out.below hA)
  have dd8 := cellOld cc8 (hA.block _ (cellLt cc8))
  clear HN8 cc8
  have HN8 := HM8
  have cc8 := dd8
  clear HM8 dd8
  clear hA HB10 HK11 HN7 cc7 HN9 cc9 cb10
  obtain ⟨nS, hnS⟩ : ∃ n, n = S.length := ⟨_, rfl⟩
  have hle : nS ≤ t.length := by rw [hnS]; exact HX2.out.2.2.2.2.2.2.2.2.2.1
  rw [HUU.out] at cb11
  rw [← hnS] at cc8
  obtain ⟨nt, hnt⟩ : ∃ n, n = t.length := ⟨_, rfl⟩
  rw [← hnt] at hle cb11
  have hd1 : decide ((nS : Int) ≤ (nt : Int)) = true := by simp; omega
  have hd2 : decide (nS ≤ nt) = true := by simp; omega
  clear hnS hnt
  go_wp2_with fail
  go_ret
  exact ⟨rfl, HB11.out⟩
theorem exchange_w {H : Type} {enc : TypeId × Value → H} {base : Nat} (v0 : Value) (d0 : DataW H) (p0 : List MemPlace) {W : World} (h0 : DataW.Trod enc Try.prog W 0 (fun _ => true) true 24 v0 d0 p0) (o0 : Value.okWide Try.prog W .any base 24 v0)
    (a1 : Int) (w1 : (Lit.int .i64 a1).wf = true) (a2 : Int) (w2 : (Lit.int .i64 a2).wf = true) (a3 : Int) (w3 : (Lit.int .i64 a3).wf = true) (a4 : Int) (w4 : (Lit.int .i64 a4).wf = true) :
    Calls Try.prog 6 #[v0, .int .i64 a1, .int .i64 a2, .int .i64 a3, .int .i64 a4] W fun e w' => e = .returned (.bool true) ∧ Below W.heap.size W w' := by
  obtain ⟨u, t, rfl, ht, hl⟩ := treeIn h0 o0
  exact exchange_walk t u a1 a2 a3 a4 W ht hl w1 w2 w3 w4
end Go.Proofs.Ytekdekchbnacgaa
