/- The walk of the law CipherBack. -/
import Derived.Test.YtklaancgnfkjlaaDoorEf
namespace Go.Proofs.YtklaancgnfkjlaaDoor
open Go.RowKit
set_option maxRecDepth 100000
set_option maxHeartbeats 2000000
set_option linter.unusedVariables false
set_option linter.unusedSimpArgs false

theorem boxes_K (w : World) (kc nc : Array Value) : ((w.alloc (.cells kc 23)).alloc (.cells nc 25)).heap[w.heap.size]? = some (.cells kc 23 (0, 0)) := (Below.heap_alloc _ _ _ (by simp)).trans (World.alloc_heap_new w _)
theorem below_two (w : World) (kc nc : Array Value) : Below w.heap.size w ((w.alloc (.cells kc 23)).alloc (.cells nc 25)) := Below.al (Below.al (Below.refl _ _) _) _

theorem cipherBack_walk (kb nb hb ob bb : List (BitVec 8)) (vh vo vb : Value) (w : World) (hk : kb.length = 32) (hn : nb.length = 12) (hvh : BytesAt w vh hb) (hvo : BytesAt w vo ob) (hvb : BytesAt w vb bb) (hT : Tabs w) :
    Calls Tryd.prog 6 #[.agg (kb.map v8).toArray, .agg (nb.map v8).toArray, vh, vo, vb] w fun e w' => e = .returned (.bool true) ∧ Below w.heap.size w w' := by
  have hks : (kb.map v8).toArray.size = 32 := by simp [hk]
  have hns : (nb.map v8).toArray.size = 12 := by simp [hn]
  have hSeal := fun hb vh v w hh hl h1 h2 hT => seal_ok kb nb hb bb vh v w hk hn hh hl h1 h2 hT
  have hOpen := fun vh v w hh hl h1 h2 hT => open_seal kb nb hb bb vh v w hk hn hh hl h1 h2 hT
  have hStr := fun v w hl h hT => stream_ok kb nb bb v w hk hn hl h hT
  have hsl : ∀ hb, sealL kb nb hb bb = streamL kb nb bb ++ tag16 kb nb hb (streamL kb nb bb) := fun _ => rfl
  generalize hkc : (kb.map v8).toArray = kc at hks hSeal hOpen hStr ⊢
  generalize hnc : (nb.map v8).toArray = nc at hns hSeal hOpen hStr ⊢
  have HSeal := Lib.hid hSeal
  have HOpen := Lib.hid hOpen
  have HStr := Lib.hid hStr
  have HSL := Lib.hid hsl
  have HKS := Lib.hid hks
  have HNS := Lib.hid hns
  have HT := Lib.hid hT
  have HVH := Lib.hid hvh
  have HVO := Lib.hid hvo
  have HVB := Lib.hid hvb
  obtain ⟨ph, ch, rfl, -, -⟩ := bytes_form hvh
  obtain ⟨po, co, rfl, -, -⟩ := bytes_form hvo
  obtain ⟨pb, cb, rfl, -, -⟩ := bytes_form hvb
  have HSLN := Lib.hid (streamL_length kb nb bb)
  clear hSeal hOpen hStr hsl hks hns hT hvh hvo hvb hkc hnc
  have HK0 := Lib.hid (boxes_K w kc nc)
  have HN0 := Lib.hid (alloc_new2 w (.cells kc 23) (.cells nc 25))
  have HB0 := Lib.hid (below_two w kc nc)
  go_enter Tryd.func6, Tryd.ntmps6
  go_wp2_with fail
  obtain ⟨w0, hw0⟩ : ∃ w0, w0 = (w.alloc (.cells kc 23)).alloc (.cells nc 25) := ⟨_, rfl⟩
  rw [← hw0] at HK0 HN0 HB0 ⊢
  clear hw0
  refine (sane_ok _ (HT.out.below HB0.out)).mono ?_
  rintro e w1 ⟨rfl, hB1⟩
  have HK1 := Lib.hid ((hB1.block _ (Array.getElem?_eq_some_iff.1 HK0.out).1).trans HK0.out)
  have HN1 := Lib.hid ((hB1.block _ (Array.getElem?_eq_some_iff.1 HN0.out).1).trans HN0.out)
  have HB1 := Lib.hid (HB0.out.trans (hB1.mono HB0.out.size))
  clear hB1 HK0 HN0 HB0
  by_cases hlb : 400 < bb.length
  · have h1 : decide ((400 : Int) < (bb.length : Int)) = true := by simp; omega
    go_wp2
    go_ret
    exact ⟨rfl, HB1.out⟩
  have h1 : decide ((400 : Int) < (bb.length : Int)) = false := by simp; omega
  by_cases hlh : 400 < hb.length
  · have h2 : decide ((400 : Int) < (hb.length : Int)) = true := by simp; omega
    go_wp2
    go_ret
    exact ⟨rfl, HB1.out⟩
  have h2 : decide ((400 : Int) < (hb.length : Int)) = false := by simp; omega
  by_cases hlo : 400 < ob.length
  · have h3 : decide ((400 : Int) < (ob.length : Int)) = true := by simp; omega
    go_wp2
    go_ret
    exact ⟨rfl, HB1.out⟩
  have h3 : decide ((400 : Int) < (ob.length : Int)) = false := by simp; omega
  have HVH1 := Lib.hid (HVH.out.below HB1.out)
  have HVO1 := Lib.hid (HVO.out.below HB1.out)
  have HVB1 := Lib.hid (HVB.out.below HB1.out)
  go_upto_region 5 with fail
  refine wp_region_lit ?_
  refine wpList_load_row rfl 23 _ rfl w.heap.size rfl 23 kc (0, 0) _ HK1.out Tryd.underlying23 rfl (by rw [HKS.out]; rfl) ?_
  refine wpList_load_row rfl 25 _ rfl (w.heap.size + 1) rfl 25 nc (0, 0) _ HN1.out Tryd.underlying25 rfl (by rw [HNS.out]; rfl) ?_
  go_wp2_with fail
  refine (HSeal.out hb _ _ _ (by omega) (by omega) HVH1.out HVB1.out (HT.out.below HB1.out)).mono ?_
  rintro e w2 ⟨u, rfl, hown, hB2⟩
  obtain ⟨pc, cc, rfl, hcc, hpc⟩ := own_form hown
  obtain ⟨gc, rfl, -⟩ := hpc (by omega)
  have hc2 : BytesAt w2 (.slice (some ⟨gc, 0, none⟩) (bb.length + 16) cc) (sealL kb nb hb bb) := BytesAt.of_own (B := w1.heap.size) (by rw [sealL_length]; exact hown)
  have HC2 := Lib.hid hc2
  clear hown hc2 hpc
  have HK2 := Lib.hid ((hB2.block _ (Array.getElem?_eq_some_iff.1 HK1.out).1).trans HK1.out)
  have HN2 := Lib.hid ((hB2.block _ (Array.getElem?_eq_some_iff.1 HN1.out).1).trans HN1.out)
  have HVH2 := Lib.hid (HVH1.out.below hB2)
  have HVO2 := Lib.hid (HVO1.out.below hB2)
  have HVB2 := Lib.hid (HVB1.out.below hB2)
  have HB2 := Lib.hid (HB1.out.trans (hB2.mono HB1.out.size))
  clear hB2 HK1 HN1 HB1 HVH1 HVO1 HVB1
  go_upto_region 6 with fail
  refine wp_region_lit ?_
  refine wpList_load_row rfl 23 _ rfl w.heap.size rfl 23 kc (0, 0) _ HK2.out Tryd.underlying23 rfl (by rw [HKS.out]; rfl) ?_
  refine wpList_load_row rfl 25 _ rfl (w.heap.size + 1) rfl 25 nc (0, 0) _ HN2.out Tryd.underlying25 rfl (by rw [HNS.out]; rfl) ?_
  go_wp2_with fail
  refine (HOpen.out _ _ _ (by omega) (by omega) HVH2.out HC2.out (HT.out.below HB2.out)).mono ?_
  rintro e w3 ⟨u, rfl, hown, hB3⟩
  obtain ⟨px, cx, rfl, -, -⟩ := own_form hown
  have HX3 := Lib.hid (BytesAt.of_own hown)
  clear hown
  have HK3 := Lib.hid ((hB3.block _ (Array.getElem?_eq_some_iff.1 HK2.out).1).trans HK2.out)
  have HN3 := Lib.hid ((hB3.block _ (Array.getElem?_eq_some_iff.1 HN2.out).1).trans HN2.out)
  have HVO3 := Lib.hid (HVO2.out.below hB3)
  have HVB3 := Lib.hid (HVB2.out.below hB3)
  have HC3 := Lib.hid (HC2.out.below hB3)
  have HB3 := Lib.hid (HB2.out.trans (hB3.mono HB2.out.size))
  clear hB3 HK2 HN2 HB2 HVO2 HVB2 HC2
  go_upto_region 7 with fail
  refine wp_region_lit ?_
  refine wpList_load_row rfl 23 _ rfl w.heap.size rfl 23 kc (0, 0) _ HK3.out Tryd.underlying23 rfl (by rw [HKS.out]; rfl) ?_
  refine wpList_load_row rfl 25 _ rfl (w.heap.size + 1) rfl 25 nc (0, 0) _ HN3.out Tryd.underlying25 rfl (by rw [HNS.out]; rfl) ?_
  go_wp2_with fail
  refine (HSeal.out ob _ _ _ (by omega) (by omega) HVO3.out HVB3.out (HT.out.below HB3.out)).mono ?_
  rintro e w4 ⟨u, rfl, hown, hB4⟩
  obtain ⟨pd, cd, rfl, hcd, hpd⟩ := own_form hown
  obtain ⟨gd, rfl, -⟩ := hpd (by omega)
  have hd4 : BytesAt w4 (.slice (some ⟨gd, 0, none⟩) (bb.length + 16) cd) (sealL kb nb ob bb) := BytesAt.of_own (B := w3.heap.size) (by rw [sealL_length]; exact hown)
  have HD4 := Lib.hid hd4
  clear hown hd4 hpd
  have HK4 := Lib.hid ((hB4.block _ (Array.getElem?_eq_some_iff.1 HK3.out).1).trans HK3.out)
  have HN4 := Lib.hid ((hB4.block _ (Array.getElem?_eq_some_iff.1 HN3.out).1).trans HN3.out)
  have HVB4 := Lib.hid (HVB3.out.below hB4)
  have HC4 := Lib.hid (HC3.out.below hB4)
  have HX4 := Lib.hid (HX3.out.below hB4)
  have HB4 := Lib.hid (HB3.out.trans (hB4.mono HB3.out.size))
  clear hB4 HK3 HN3 HB3 HVB3 HC3 HX3
  go_upto_region 8 with fail
  refine wp_region_lit ?_
  refine wpList_load_row rfl 23 _ rfl w.heap.size rfl 23 kc (0, 0) _ HK4.out Tryd.underlying23 rfl (by rw [HKS.out]; rfl) ?_
  refine wpList_load_row rfl 25 _ rfl (w.heap.size + 1) rfl 25 nc (0, 0) _ HN4.out Tryd.underlying25 rfl (by rw [HNS.out]; rfl) ?_
  go_wp2_with fail
  refine (HStr.out _ _ (by omega) HVB4.out (HT.out.below HB4.out).const).mono ?_
  rintro e w5 ⟨u, rfl, hown, hB5⟩
  obtain ⟨ps, cs, rfl, -, -⟩ := own_form hown
  have hs5 : BytesAt w5 (.slice ps bb.length cs) (streamL kb nb bb) := BytesAt.of_own (B := w4.heap.size) (by rw [HSLN.out]; exact hown)
  have HS5 := Lib.hid hs5
  clear hown hs5
  have HK5 := Lib.hid ((hB5.block _ (Array.getElem?_eq_some_iff.1 HK4.out).1).trans HK4.out)
  have HN5 := Lib.hid ((hB5.block _ (Array.getElem?_eq_some_iff.1 HN4.out).1).trans HN4.out)
  have HVB5 := Lib.hid (HVB4.out.below hB5)
  have HC5 := Lib.hid (HC4.out.below hB5)
  have HX5 := Lib.hid (HX4.out.below hB5)
  have HD5 := Lib.hid (HD4.out.below hB5)
  have HB5 := Lib.hid (HB4.out.trans (hB5.mono HB4.out.size))
  clear hB5 HK4 HN4 HB4 HVB4 HC4 HX4 HD4
  have cvx := conv_ok HX5.out
  have cvb := conv_ok HVB5.out
  go_upto_region 11 with fail
  have hcp := HC5.out
  have hdp := HD5.out
  rw [HSL.out] at hcp hdp
  have bcp := bytes_take hcp HSLN.out
  have bdp := bytes_take hdp HSLN.out
  have bs := HS5.out
  have cvc : ∀ q, (convert 28 9 (.slice (some ⟨gc, 0, none⟩) bb.length cc)).run Tryd.prog (w5.drewN q) = .ok (.string (strB (streamL kb nb bb))) (w5.drewN q) := fun q => conv_ok (w := w5.drewN q) bcp
  have cvd : ∀ q, (convert 28 9 (.slice (some ⟨gd, 0, none⟩) bb.length cd)).run Tryd.prog (w5.drewN q) = .ok (.string (strB (streamL kb nb bb))) (w5.drewN q) := fun q => conv_ok (w := w5.drewN q) bdp
  have cvs : ∀ q, (convert 28 9 (.slice ps bb.length cs)).run Tryd.prog (w5.drewN q) = .ok (.string (strB (streamL kb nb bb))) (w5.drewN q) := fun q => conv_ok (w := w5.drewN q) bs
  generalize strB (streamL kb nb bb) = SB at cvc cvd cvs
  have slc : ∀ W, (Instr.sliceAt 28 (.slice (some ⟨gc, 0, none⟩) (bb.length + 16) cc) none (some (.int .i64 (bb.length : Int))) none).run Tryd.prog W = .ok (.slice (some ⟨gc, 0, none⟩) bb.length cc) W :=
    slice_to (P := Tryd.prog) 28 5 Tryd.underlying28 size5 gc 0 (bb.length + 16) cc bb.length (by omega) (by omega)
  have sld : ∀ W, (Instr.sliceAt 28 (.slice (some ⟨gd, 0, none⟩) (bb.length + 16) cd) none (some (.int .i64 (bb.length : Int))) none).run Tryd.prog W = .ok (.slice (some ⟨gd, 0, none⟩) bb.length cd) W :=
    slice_to (P := Tryd.prog) 28 5 Tryd.underlying28 size5 gd 0 (bb.length + 16) cd bb.length (by omega) (by omega)
  clear hcp hdp bcp bdp bs cvx cvb
  go_quiet (fail)
  go_wp2
  go_ret
  exact ⟨rfl, HB5.out.trans ⟨rfl, rfl, rfl, Nat.le_refl _, fun _ _ => rfl⟩⟩
theorem cipherBack_w {H : Type} {enc : TypeId × Value → H} {base : Nat} (v0 : Value) (d0 : DataW H) (p0 : List MemPlace) {W : World} (h0 : DataW.Trod enc Tryd.prog W 0 (fun _ => true) true 23 v0 d0 p0) (o0 : Value.okWide Tryd.prog W .any base 23 v0)
    (v1 : Value) (d1 : DataW H) (p1 : List MemPlace) (h1 : DataW.Trod enc Tryd.prog W 0 (fun _ => true) true 25 v1 d1 p1) (o1 : Value.okWide Tryd.prog W .any base 25 v1)
    (v2 : Value) (d2 : DataW H) (p2 : List MemPlace) (h2 : DataW.Trod enc Tryd.prog W 0 (fun _ => true) true 28 v2 d2 p2) (o2 : Value.okWide Tryd.prog W .any base 28 v2)
    (v3 : Value) (d3 : DataW H) (p3 : List MemPlace) (h3 : DataW.Trod enc Tryd.prog W 0 (fun _ => true) true 28 v3 d3 p3) (o3 : Value.okWide Tryd.prog W .any base 28 v3)
    (v4 : Value) (d4 : DataW H) (p4 : List MemPlace) (h4 : DataW.Trod enc Tryd.prog W 0 (fun _ => true) true 28 v4 d4 p4) (o4 : Value.okWide Tryd.prog W .any base 28 v4)
    (hL : laidMetH Tryd.prog Rows.cipherBackRow.laid W) :
    Calls Tryd.prog 6 #[v0, v1, v2, v3, v4] W fun e w' => e = .returned (.bool true) ∧ Below W.heap.size W w' := by
  obtain ⟨kb, rfl, hk⟩ := arrK h0 o0
  obtain ⟨nb, rfl, hn⟩ := arrN h1 o1
  obtain ⟨hb, b2, _⟩ := bytesIn h2 o2
  obtain ⟨ob, b3, _⟩ := bytesIn h3 o3
  obtain ⟨bb, b4, _⟩ := bytesIn h4 o4
  exact cipherBack_walk kb nb hb ob bb _ _ _ W hk hn b2 b3 b4 (tabs_of hL)
end Go.Proofs.YtklaancgnfkjlaaDoor
