/- The walk of the law CipherStreamSpec. -/
import Derived.Test.YtklaancgnfkjlaaDoorFd
namespace Go.Proofs.YtklaancgnfkjlaaDoor
open Go.RowKit
set_option maxRecDepth 100000
set_option maxHeartbeats 2000000
set_option linter.unusedVariables false
set_option linter.unusedSimpArgs false

/-- What Stream answers. -/
def strE (l : List (BitVec 8)) : Int := if l.length ≤ 65536 then 0 else 60
def strO (kb nb l : List (BitVec 8)) : List (BitVec 8) := if l.length ≤ 65536 then streamL kb nb l else []
theorem Stream_any (kb nb l : List (BitVec 8)) (v : Value) (w : World) (hk : kb.length = 32) (hn : nb.length = 12) (hv : BytesAt w v l) (hT : ConstTab w) :
    Calls Tryd.prog 14 #[.agg (kb.map v8).toArray, .agg (nb.map v8).toArray, v] w fun e w' =>
      ∃ p n c, e = .returned (.tuple #[.slice p n c, .int .i64 (strE l)]) ∧ BytesAt w' (.slice p n c) (strO kb nb l) ∧ Below w.heap.size w w' := by
  by_cases h : l.length ≤ 65536
  · refine (stream_ok kb nb l v w hk hn h hv hT).mono ?_
    rintro e w' ⟨u, rfl, hown, hB⟩
    obtain ⟨p, c, rfl, -, -⟩ := own_form hown
    refine ⟨p, _, c, by rw [strE, if_pos h], ?_, hB⟩
    rw [strO, if_pos h]
    exact BytesAt.of_own (B := w.heap.size) (by rw [streamL_length]; exact hown)
  · obtain ⟨p, c, rfl, -, -⟩ := bytes_form hv
    refine (stream_bad _ _ p l.length c (by omega) w).mono ?_
    rintro e w' ⟨rfl, hB⟩
    exact ⟨none, 0, 0, by rw [strE, if_neg h], by rw [strO, if_neg h]; exact bytes_nil _, hB⟩
theorem rStream_any (kb nb l : List (BitVec 8)) (v : Value) (w : World) (hk : kb.length = 32) (hn : nb.length = 12) (hv : BytesAt w v l) :
    Calls Tryd.prog 15 #[.agg (kb.map v8).toArray, .agg (nb.map v8).toArray, v] w fun e w' =>
      ∃ p n c, e = .returned (.tuple #[.slice p n c, .int .i64 (strE l)]) ∧ BytesAt w' (.slice p n c) (strO kb nb l) ∧ Below w.heap.size w w' := by
  by_cases h : l.length ≤ 65536
  · refine (rstream_ok kb nb l v w hk hn h hv).mono ?_
    rintro e w' ⟨u, rfl, hown, hB⟩
    obtain ⟨p, c, rfl, -, -⟩ := own_form hown
    refine ⟨p, _, c, by rw [strE, if_pos h], ?_, hB⟩
    rw [strO, if_pos h]
    exact BytesAt.of_own (B := w.heap.size) (by rw [streamL_length]; exact hown)
  · obtain ⟨p, c, rfl, -, -⟩ := bytes_form hv
    refine (rstream_bad _ _ p l.length c (by omega) w).mono ?_
    rintro e w' ⟨rfl, hB⟩
    exact ⟨none, 0, 0, by rw [strE, if_neg h], by rw [strO, if_neg h]; exact bytes_nil _, hB⟩

theorem cipherStreamSpec_walk (kb nb l : List (BitVec 8)) (v : Value) (w : World) (hk : kb.length = 32) (hn : nb.length = 12) (hv : BytesAt w v l) (hT : Tabs w) :
    Calls Tryd.prog 4 #[.agg (kb.map v8).toArray, .agg (nb.map v8).toArray, v] w fun e w' => e = .returned (.bool true) ∧ Below w.heap.size w w' := by
  have hks : (kb.map v8).length = 32 := by simp [hk]
  have hns : (nb.map v8).length = 12 := by simp [hn]
  have hA := fun v w hv hT => Stream_any kb nb l v w hk hn hv hT
  have hR := fun v w hv => rStream_any kb nb l v w hk hn hv
  generalize kb.map v8 = kl at hks hA hR ⊢
  generalize nb.map v8 = nl at hns hA hR ⊢
  have HA := Lib.hid hA
  have HR := Lib.hid hR
  have HKS := Lib.hid hks
  have HNS := Lib.hid hns
  have HT := Lib.hid hT
  have HVB := Lib.hid hv
  obtain ⟨p, c, rfl, hc, -⟩ := bytes_form hv
  clear hA hR hks hns hT hk hn hv
  have hu23 := Tryd.underlying23
  have hu25 := Tryd.underlying25
  have hi23 : (Tryd.prog.info? 23).map (·.size) = some kl.length := by rw [HKS.out]; kernel_rfl
  have hi25 : (Tryd.prog.info? 25).map (·.size) = some nl.length := by rw [HNS.out]; kernel_rfl
  have HK0 := Lib.hid (boxes_K w kl.toArray nl.toArray)
  have HN0 := Lib.hid (alloc_new2 w (.cells kl.toArray 23) (.cells nl.toArray 25))
  have HB0 := Lib.hid (below_two w kl.toArray nl.toArray)
  go_enter Tryd.func4, Tryd.ntmps4
  go_wp2_with fail
  obtain ⟨w0, hw0⟩ : ∃ w0, w0 = (w.alloc (.cells kl.toArray 23)).alloc (.cells nl.toArray 25) := ⟨_, rfl⟩
  rw [← hw0] at HK0 HN0 HB0 ⊢
  clear hw0
  refine (sane_ok _ (HT.out.below HB0.out)).mono ?_
  rintro e w1 ⟨rfl, hB1⟩
  have HK1 := Lib.hid ((hB1.block _ (Array.getElem?_eq_some_iff.1 HK0.out).1).trans HK0.out)
  have HN1 := Lib.hid ((hB1.block _ (Array.getElem?_eq_some_iff.1 HN0.out).1).trans HN0.out)
  have HB1 := Lib.hid (HB0.out.trans (hB1.mono HB0.out.size))
  clear hB1 HK0 HN0 HB0
  obtain ⟨N, hN⟩ : ∃ N, N = w.heap.size + 1 := ⟨_, rfl⟩
  rw [← hN] at HN1 ⊢
  clear hN
  by_cases h4 : l.length ≤ 400
  · have d1 : decide ((400 : Int) < (l.length : Int)) = false := by simp; omega
    have d3 : decide ((70000 : Int) < (l.length : Int)) = false := by simp; omega
    go_upto_region 5 with fail
    refine wp_region_lit ?_
    refine wpList_load_row rfl 23 _ rfl w.heap.size rfl 23 kl.toArray (0, 0) _ HK1.out hu23 rfl (by rw [List.size_toArray]; exact hi23) ?_
    refine wpList_load_row rfl 25 _ rfl N rfl 25 nl.toArray (0, 0) _ HN1.out hu25 rfl (by rw [List.size_toArray]; exact hi25) ?_
    go_wp2_with fail
    refine (HA.out _ _ (HVB.out.below HB1.out) (HT.out.below HB1.out).const).mono ?_
    rintro e wa ⟨pa, na, ca, rfl, hba, hBa⟩
    have HKa := Lib.hid ((hBa.block _ (Array.getElem?_eq_some_iff.1 HK1.out).1).trans HK1.out)
    have HNa := Lib.hid ((hBa.block _ (Array.getElem?_eq_some_iff.1 HN1.out).1).trans HN1.out)
    have HAA := Lib.hid hba
    have HBa := Lib.hid (HB1.out.trans (hBa.mono HB1.out.size))
    clear hba hBa HK1 HN1
    go_upto_region 6 with fail
    refine wp_region_lit ?_
    refine wpList_load_row rfl 23 _ rfl w.heap.size rfl 23 kl.toArray (0, 0) _ HKa.out hu23 rfl (by rw [List.size_toArray]; exact hi23) ?_
    refine wpList_load_row rfl 25 _ rfl N rfl 25 nl.toArray (0, 0) _ HNa.out hu25 rfl (by rw [List.size_toArray]; exact hi25) ?_
    go_wp2_with fail
    refine (HR.out _ _ (HVB.out.below HBa.out)).mono ?_
    rintro e wb ⟨pb, n2, cb, rfl, hbb, hBb⟩
    have cva := conv_ok (HAA.out.below hBb)
    have cvb := conv_ok hbb
    generalize strB (strO kb nb l) = S at cva cvb
    generalize strE l = E
    have HBb := Lib.hid (HBa.out.trans (hBb.mono HBa.out.size))
    clear hbb hBb HKa HNa HAA
    go_wp2
    go_ret
    exact ⟨rfl, HBb.out⟩
  have d1 : decide ((400 : Int) < (l.length : Int)) = true := by simp; omega
  by_cases h5 : l.length ≤ 65536
  · have d2 : decide ((l.length : Int) ≤ (65536 : Int)) = true := by simp; omega
    go_wp2
    go_ret
    exact ⟨rfl, HB1.out⟩
  have d2 : decide ((l.length : Int) ≤ (65536 : Int)) = false := by simp; omega
  by_cases h6 : l.length ≤ 70000
  · have d3 : decide ((70000 : Int) < (l.length : Int)) = false := by simp; omega
    go_upto_region 5 with fail
    refine wp_region_lit ?_
    refine wpList_load_row rfl 23 _ rfl w.heap.size rfl 23 kl.toArray (0, 0) _ HK1.out hu23 rfl (by rw [List.size_toArray]; exact hi23) ?_
    refine wpList_load_row rfl 25 _ rfl N rfl 25 nl.toArray (0, 0) _ HN1.out hu25 rfl (by rw [List.size_toArray]; exact hi25) ?_
    go_wp2_with fail
    refine (HA.out _ _ (HVB.out.below HB1.out) (HT.out.below HB1.out).const).mono ?_
    rintro e wa ⟨pa, na, ca, rfl, hba, hBa⟩
    have HKa := Lib.hid ((hBa.block _ (Array.getElem?_eq_some_iff.1 HK1.out).1).trans HK1.out)
    have HNa := Lib.hid ((hBa.block _ (Array.getElem?_eq_some_iff.1 HN1.out).1).trans HN1.out)
    have HAA := Lib.hid hba
    have HBa := Lib.hid (HB1.out.trans (hBa.mono HB1.out.size))
    clear hba hBa HK1 HN1
    go_upto_region 6 with fail
    refine wp_region_lit ?_
    refine wpList_load_row rfl 23 _ rfl w.heap.size rfl 23 kl.toArray (0, 0) _ HKa.out hu23 rfl (by rw [List.size_toArray]; exact hi23) ?_
    refine wpList_load_row rfl 25 _ rfl N rfl 25 nl.toArray (0, 0) _ HNa.out hu25 rfl (by rw [List.size_toArray]; exact hi25) ?_
    go_wp2_with fail
    refine (HR.out _ _ (HVB.out.below HBa.out)).mono ?_
    rintro e wb ⟨pb, n2, cb, rfl, hbb, hBb⟩
    have cva := conv_ok (HAA.out.below hBb)
    have cvb := conv_ok hbb
    generalize strB (strO kb nb l) = S at cva cvb
    generalize strE l = E
    have HBb := Lib.hid (HBa.out.trans (hBb.mono HBa.out.size))
    clear hbb hBb HKa HNa HAA
    go_wp2
    go_ret
    exact ⟨rfl, HBb.out⟩
  have d3 : decide ((70000 : Int) < (l.length : Int)) = true := by simp; omega
  go_wp2
  go_ret
  exact ⟨rfl, HB1.out⟩
theorem cipherStreamSpec_w {H : Type} {enc : TypeId × Value → H} {base : Nat} (v0 : Value) (d0 : DataW H) (p0 : List MemPlace) {W : World} (h0 : DataW.Trod enc Tryd.prog W 0 (fun _ => true) true 23 v0 d0 p0) (o0 : Value.okWide Tryd.prog W .any base 23 v0)
    (v1 : Value) (d1 : DataW H) (p1 : List MemPlace) (h1 : DataW.Trod enc Tryd.prog W 0 (fun _ => true) true 25 v1 d1 p1) (o1 : Value.okWide Tryd.prog W .any base 25 v1)
    (v2 : Value) (d2 : DataW H) (p2 : List MemPlace) (h2 : DataW.Trod enc Tryd.prog W 0 (fun _ => true) true 28 v2 d2 p2) (o2 : Value.okWide Tryd.prog W .any base 28 v2)
    (hL : laidMetH Tryd.prog Rows.cipherStreamSpecRow.laid W) :
    Calls Tryd.prog 4 #[v0, v1, v2] W fun e w' => e = .returned (.bool true) ∧ Below W.heap.size W w' := by
  obtain ⟨kb, rfl, hk⟩ := arrK h0 o0
  obtain ⟨nb, rfl, hn⟩ := arrN h1 o1
  obtain ⟨l, b2, _⟩ := bytesIn h2 o2
  exact cipherStreamSpec_walk kb nb l _ W hk hn b2 (tabs_of hL)
end Go.Proofs.YtklaancgnfkjlaaDoor
