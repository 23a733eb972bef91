/- The walk of the law CipherSealSpec. -/
import Derived.Test.YtklaancgnfkjlaaDoorGk
import Derived.Test.YtklaancgnfkjlaaDoorFe
namespace Go.Proofs.YtklaancgnfkjlaaDoor
open Go.RowKit
set_option maxRecDepth 100000
set_option maxHeartbeats 2000000
set_option linter.unusedVariables false
set_option linter.unusedSimpArgs false

/-- What Seal and Open answer. -/
def selO (kb nb hb l : List (BitVec 8)) : List (BitVec 8) := if l.length ≤ 65536 then sealL kb nb hb l else []
def opnE (kb nb hb cb : List (BitVec 8)) : Int := if okO kb nb hb cb = true then 0 else 60
def opnO (kb nb hb cb : List (BitVec 8)) : List (BitVec 8) := if okO kb nb hb cb = true then streamL kb nb (cb.take (cb.length - 16)) else []
theorem selO_length (kb nb hb l : List (BitVec 8)) : (selO kb nb hb l).length ≤ 1000000 := by
  unfold selO
  split
  · rw [sealL_length]; omega
  · simp
theorem Seal_any (kb nb hb l : List (BitVec 8)) (vh v : Value) (w : World) (hk : kb.length = 32) (hn : nb.length = 12) (hhl : hb.length ≤ 70000) (hvh : BytesAt w vh hb) (hv : BytesAt w v l) (hT : Tabs w) :
    Calls Tryd.prog 16 #[.agg (kb.map v8).toArray, .agg (nb.map v8).toArray, vh, v] w fun e w' =>
      ∃ p n c, e = .returned (.tuple #[.slice p n c, .int .i64 (strE l)]) ∧ BytesAt w' (.slice p n c) (selO kb nb hb l) ∧ Below w.heap.size w w' := by
  by_cases h : l.length ≤ 65536
  · refine (seal_ok kb nb hb l vh v w hk hn hhl h hvh hv hT).mono ?_
    rintro e w' ⟨u, rfl, hown, hB⟩
    obtain ⟨p, c, rfl, -, -⟩ := own_form hown
    refine ⟨p, _, c, by rw [strE, if_pos h], ?_, hB⟩
    rw [selO, if_pos h]
    exact BytesAt.of_own (B := w.heap.size) (by rw [sealL_length]; exact hown)
  · obtain ⟨p, c, rfl, -, -⟩ := bytes_form hv
    refine (seal_bad _ _ (by simp [hk]) (by simp [hn]) vh p l.length c (by omega) w).mono ?_
    rintro e w' ⟨rfl, hB⟩
    exact ⟨none, 0, 0, by rw [strE, if_neg h], by rw [selO, if_neg h]; exact bytes_nil _, hB⟩
theorem rSeal_any (kb nb hb l : List (BitVec 8)) (vh v : Value) (w : World) (hk : kb.length = 32) (hn : nb.length = 12) (hhl : hb.length ≤ 70000) (hvh : BytesAt w vh hb) (hv : BytesAt w v l) :
    Calls Tryd.prog 17 #[.agg (kb.map v8).toArray, .agg (nb.map v8).toArray, vh, v] w fun e w' =>
      ∃ p n c, e = .returned (.tuple #[.slice p n c, .int .i64 (strE l)]) ∧ BytesAt w' (.slice p n c) (selO kb nb hb l) ∧ Below w.heap.size w w' := by
  by_cases h : l.length ≤ 65536
  · refine (rseal_ok kb nb hb l vh v w hk hn hhl h hvh hv).mono ?_
    rintro e w' ⟨u, rfl, hown, hB⟩
    obtain ⟨p, c, rfl, -, -⟩ := own_form hown
    refine ⟨p, _, c, by rw [strE, if_pos h], ?_, hB⟩
    rw [selO, if_pos h]
    exact BytesAt.of_own (B := w.heap.size) (by rw [sealL_length]; exact hown)
  · obtain ⟨p, c, rfl, -, -⟩ := bytes_form hv
    refine (rseal_bad _ _ (by simp [hk]) (by simp [hn]) vh p l.length c (by omega) w).mono ?_
    rintro e w' ⟨rfl, hB⟩
    exact ⟨none, 0, 0, by rw [strE, if_neg h], by rw [selO, if_neg h]; exact bytes_nil _, hB⟩
theorem Open_any (kb nb hb cb : List (BitVec 8)) (vh v : Value) (w : World) (hk : kb.length = 32) (hn : nb.length = 12) (hhl : hb.length ≤ 70000) (hl : cb.length ≤ 1000000) (hvh : BytesAt w vh hb) (hv : BytesAt w v cb) (hT : Tabs w) :
    Calls Tryd.prog 18 #[.agg (kb.map v8).toArray, .agg (nb.map v8).toArray, vh, v] w fun e w' =>
      ∃ p n c, e = .returned (.tuple #[.slice p n c, .int .i64 (opnE kb nb hb cb)]) ∧ BytesAt w' (.slice p n c) (opnO kb nb hb cb) ∧ Below w.heap.size w w' := by
  cases h : okO kb nb hb cb
  · refine (open_no kb nb hb cb vh v w hk hn hhl hl hvh hv hT h).mono ?_
    rintro e w' ⟨rfl, hB⟩
    exact ⟨none, 0, 0, by rw [opnE, h]; rfl, by rw [opnO, h]; exact bytes_nil _, hB⟩
  · refine (open_yes kb nb hb cb vh v w hk hn hhl hl hvh hv hT h).mono ?_
    rintro e w' ⟨u, rfl, hown, hB⟩
    obtain ⟨p, c, rfl, -, -⟩ := own_form hown
    refine ⟨p, _, c, by rw [opnE, h]; rfl, ?_, hB⟩
    rw [opnO, h]
    exact BytesAt.of_own (B := w.heap.size) (by rw [show (if true = true then streamL kb nb (cb.take (cb.length - 16)) else []) = streamL kb nb (cb.take (cb.length - 16)) from rfl, streamL_length, List.length_take, Nat.min_eq_left (Nat.sub_le _ _)]; exact hown)
theorem rOpen_any (kb nb hb cb : List (BitVec 8)) (vh v : Value) (w : World) (hk : kb.length = 32) (hn : nb.length = 12) (hhl : hb.length ≤ 70000) (hl : cb.length ≤ 1000000) (hvh : BytesAt w vh hb) (hv : BytesAt w v cb) :
    Calls Tryd.prog 19 #[.agg (kb.map v8).toArray, .agg (nb.map v8).toArray, vh, v] w fun e w' =>
      ∃ p n c, e = .returned (.tuple #[.slice p n c, .int .i64 (opnE kb nb hb cb)]) ∧ BytesAt w' (.slice p n c) (opnO kb nb hb cb) ∧ Below w.heap.size w w' := by
  cases h : okO kb nb hb cb
  · refine (ropen_no kb nb hb cb vh v w hk hn hhl hl hvh hv h).mono ?_
    rintro e w' ⟨rfl, hB⟩
    exact ⟨none, 0, 0, by rw [opnE, h]; rfl, by rw [opnO, h]; exact bytes_nil _, hB⟩
  · refine (ropen_yes kb nb hb cb vh v w hk hn hhl hl hvh hv h).mono ?_
    rintro e w' ⟨u, rfl, hown, hB⟩
    obtain ⟨p, c, rfl, -, -⟩ := own_form hown
    refine ⟨p, _, c, by rw [opnE, h]; rfl, ?_, hB⟩
    rw [opnO, h]
    exact BytesAt.of_own (B := w.heap.size) (by rw [show (if true = true then streamL kb nb (cb.take (cb.length - 16)) else []) = streamL kb nb (cb.take (cb.length - 16)) from rfl, streamL_length, List.length_take, Nat.min_eq_left (Nat.sub_le _ _)]; exact hown)

theorem cipherSealSpec_walk (kb nb hb l : List (BitVec 8)) (vh v : Value) (w : World) (hk : kb.length = 32) (hn : nb.length = 12) (hvh : BytesAt w vh hb) (hv : BytesAt w v l) (hT : Tabs w) :
    Calls Tryd.prog 5 #[.agg (kb.map v8).toArray, .agg (nb.map v8).toArray, vh, v] w fun e w' => e = .returned (.bool true) ∧ Below w.heap.size w w' := by
  have hks : (kb.map v8).length = 32 := by simp [hk]
  have hns : (nb.map v8).length = 12 := by simp [hn]
  have hSL := fun hhl vh v w hvh hv hT => Seal_any kb nb hb l vh v w hk hn hhl hvh hv hT
  have hRS := fun hhl vh v w hvh hv => rSeal_any kb nb hb l vh v w hk hn hhl hvh hv
  have hO := fun hhl m hl vh v w hvh hv hT => Open_any kb nb hb m vh v w hk hn hhl hl hvh hv hT
  have hRO := fun hhl m hl vh v w hvh hv => rOpen_any kb nb hb m vh v w hk hn hhl hl hvh hv
  have hsl := selO_length kb nb hb l
  generalize kb.map v8 = kl at hks hSL hRS hO hRO ⊢
  generalize nb.map v8 = nl at hns hSL hRS hO hRO ⊢
  have HSL0 := Lib.hid hSL
  have HRS0 := Lib.hid hRS
  have HO0 := Lib.hid hO
  have HRO0 := Lib.hid hRO
  have HKS := Lib.hid hks
  have HNS := Lib.hid hns
  have HT := Lib.hid hT
  have HVB := Lib.hid hv
  have HVH := Lib.hid hvh
  obtain ⟨px, cx, rfl, hcx, -⟩ := bytes_form hv
  obtain ⟨ph, ch, rfl, hch, -⟩ := bytes_form hvh
  clear hSL hRS hO hRO hks hns hT hk hn hv hvh
  have hu23 := Tryd.underlying23
  have hu25 := Tryd.underlying25
  have hi23 : (Tryd.prog.info? 23).map (·.size) = some kl.length := by rw [HKS.out]; kernel_rfl
  have hi25 : (Tryd.prog.info? 25).map (·.size) = some nl.length := by rw [HNS.out]; kernel_rfl
  have HK0 := Lib.hid (boxes_K w kl.toArray nl.toArray)
  have HN0 := Lib.hid (alloc_new2 w (.cells kl.toArray 23) (.cells nl.toArray 25))
  have HB0 := Lib.hid (below_two w kl.toArray nl.toArray)
  go_enter Tryd.func5, Tryd.ntmps5
  go_wp2_with fail
  obtain ⟨w0, hw0⟩ : ∃ w0, w0 = (w.alloc (.cells kl.toArray 23)).alloc (.cells nl.toArray 25) := ⟨_, rfl⟩
  rw [← hw0] at HK0 HN0 HB0 ⊢
  clear hw0
  refine (sane_ok _ (HT.out.below HB0.out)).mono ?_
  rintro e w1 ⟨rfl, hB1⟩
  have HK1 := Lib.hid ((hB1.block _ (Array.getElem?_eq_some_iff.1 HK0.out).1).trans HK0.out)
  have HN1 := Lib.hid ((hB1.block _ (Array.getElem?_eq_some_iff.1 HN0.out).1).trans HN0.out)
  have HB1 := Lib.hid (HB0.out.trans (hB1.mono HB0.out.size))
  clear hB1 HK0 HN0 HB0
  obtain ⟨N, hN⟩ : ∃ N, N = w.heap.size + 1 := ⟨_, rfl⟩
  rw [← hN] at HN1 ⊢
  clear hN
  by_cases hh4 : hb.length ≤ 400
  · have dh : decide ((400 : Int) < (hb.length : Int)) = false := by simp; omega
    have HSL := Lib.hid (HSL0.out (by omega))
    have HRS := Lib.hid (HRS0.out (by omega))
    have HO := Lib.hid (HO0.out (by omega))
    have HRO := Lib.hid (HRO0.out (by omega))
    clear HSL0 HRS0 HO0 HRO0
    by_cases h4 : l.length ≤ 400
    · have d1 : decide ((400 : Int) < (l.length : Int)) = false := by simp; omega
      have d3 : decide ((70000 : Int) < (l.length : Int)) = false := by simp; omega
      go_upto_region 5 with fail
      refine wp_region_lit ?_
      refine wpList_load_row rfl 23 _ rfl w.heap.size rfl 23 kl.toArray (0, 0) _ HK1.out hu23 rfl (by rw [List.size_toArray]; exact hi23) ?_
      refine wpList_load_row rfl 25 _ rfl N rfl 25 nl.toArray (0, 0) _ HN1.out hu25 rfl (by rw [List.size_toArray]; exact hi25) ?_
      go_wp2_with fail
      refine (HSL.out _ _ _ (HVH.out.below HB1.out) (HVB.out.below HB1.out) (HT.out.below HB1.out)).mono ?_
      rintro e wa ⟨pa, na, ca, rfl, hba, hBa⟩
      have HKa := Lib.hid ((hBa.block _ (Array.getElem?_eq_some_iff.1 HK1.out).1).trans HK1.out)
      have HNa := Lib.hid ((hBa.block _ (Array.getElem?_eq_some_iff.1 HN1.out).1).trans HN1.out)
      have HAA := Lib.hid hba
      have HBa := Lib.hid (HB1.out.trans (hBa.mono HB1.out.size))
      clear hba hBa HK1 HN1
      go_upto_region 6 with fail
      refine wp_region_lit ?_
      refine wpList_load_row rfl 23 _ rfl w.heap.size rfl 23 kl.toArray (0, 0) _ HKa.out hu23 rfl (by rw [List.size_toArray]; exact hi23) ?_
      refine wpList_load_row rfl 25 _ rfl N rfl 25 nl.toArray (0, 0) _ HNa.out hu25 rfl (by rw [List.size_toArray]; exact hi25) ?_
      go_wp2_with fail
      refine (HRS.out _ _ _ (HVH.out.below HBa.out) (HVB.out.below HBa.out)).mono ?_
      rintro e wb ⟨pb, n2, cb, rfl, hbb, hBb⟩
      have HKb := Lib.hid ((hBb.block _ (Array.getElem?_eq_some_iff.1 HKa.out).1).trans HKa.out)
      have HNb := Lib.hid ((hBb.block _ (Array.getElem?_eq_some_iff.1 HNa.out).1).trans HNa.out)
      have cva := conv_ok (HAA.out.below hBb)
      have cvb := conv_ok hbb
      have HBB := Lib.hid hbb
      have HBb := Lib.hid (HBa.out.trans (hBb.mono HBa.out.size))
      generalize strB (selO kb nb hb l) = S at cva cvb
      generalize strE l = E
      clear hbb hBb HKa HNa HAA
      go_upto_region 9 with fail
      clear cva cvb
      go_wp2_with fail
      obtain ⟨w8, hw8⟩ : ∃ W, W = wb.alloc (.cells #[.slice px l.length cx, .slice pb n2 cb] 28) := ⟨_, rfl⟩
      have hB18 : Below wb.heap.size wb w8 := by rw [hw8]; exact Below.al (Below.refl _ _) _
      have hTT : w8.heap[wb.heap.size]? = some (.cells #[.slice px l.length cx, .slice pb n2 cb] 28 (0, 0)) := by rw [hw8]; exact World.alloc_heap_new wb _
      have hcell : ∀ k, k < 2 → ∃ (p : Option Addr) (n c : Nat) (m : List (BitVec 8)), w8.cell? ⟨wb.heap.size, k, none⟩ = some (.slice p n c) ∧ BytesAt w8 (.slice p n c) m ∧ m.length ≤ 1000000 := fun k hk => by
        have g1 := HVB.out.below (HBb.out.trans (hB18.mono HBb.out.size))
        have g2 := HBB.out.below hB18
        unfold World.cell?
        rw [hTT]
        rcases (show k = 0 ∨ k = 1 by omega) with rfl | rfl
        · exact ⟨_, _, _, l, rfl, g1, by omega⟩
        · exact ⟨_, _, _, _, rfl, g2, hsl⟩
      rw [← hw8]
      obtain ⟨T, hTe⟩ : ∃ T, T = wb.heap.size := ⟨_, rfl⟩
      rw [← hTe] at hcell ⊢
      have HCELL := Lib.hid hcell
      have HK8 := Lib.hid ((hB18.block _ (Array.getElem?_eq_some_iff.1 HKb.out).1).trans HKb.out)
      have HN8 := Lib.hid ((hB18.block _ (Array.getElem?_eq_some_iff.1 HNb.out).1).trans HNb.out)
      have HB8 := Lib.hid (HBb.out.trans (hB18.mono HBb.out.size))
      have HT8 := Lib.hid (HT.out.below HB8.out)
      have HVH8 := Lib.hid (HVH.out.below HB8.out)
      clear hw8 hTT hcell hTe hB18 HKb HNb HB1 HBa HBb HBB
      go_wp2_with fail
      go_loopw [69] (fun x wr => ∃ k : Nat, x = .int .i64 k ∧ k ≤ 2 ∧ Hid (Below w8.heap.size w8 wr)) (fun x _ => 2 - (intOf x).toNat)
      case atStart => exact ⟨0, rfl, Nat.zero_le _, Below.refl _ _⟩
      case round =>
        obtain ⟨k, rfl, hk, HBr⟩ := hrel
        by_cases hlt : k < 2
        · have hd : decide ((k : Int) < 2) = true := by simp; omega
          obtain ⟨p, n, c, m, hy, hm, hml⟩ := HCELL.out k hlt
          have hyr := cell_old hy (HBr.out.block _ (cell_lt hy))
          have HM := Lib.hid (hm.below HBr.out)
          have hk0 : (0 : Int) ≤ k := by omega
          have hk5 : (k : Int) < 2 := by omega
          clear hy hm
          have HKr := Lib.hid ((HBr.out.block _ (Array.getElem?_eq_some_iff.1 HK8.out).1).trans HK8.out)
          have HNr := Lib.hid ((HBr.out.block _ (Array.getElem?_eq_some_iff.1 HN8.out).1).trans HN8.out)
          go_upto_region 12 with fail
          clear hyr
          refine wp_region_lit ?_
          refine wpList_load_row rfl 23 _ rfl w.heap.size rfl 23 kl.toArray (0, 0) _ HKr.out hu23 rfl (by rw [List.size_toArray]; exact hi23) ?_
          refine wpList_load_row rfl 25 _ rfl N rfl 25 nl.toArray (0, 0) _ HNr.out hu25 rfl (by rw [List.size_toArray]; exact hi25) ?_
          go_wp2_with fail
          refine (HO.out m hml _ _ _ (HVH8.out.below HBr.out) HM.out (HT8.out.below HBr.out)).mono ?_
          rintro e wc ⟨pc, nc, cc, rfl, hbc, hBc⟩
          have HKc := Lib.hid ((hBc.block _ (Array.getElem?_eq_some_iff.1 HKr.out).1).trans HKr.out)
          have HNc := Lib.hid ((hBc.block _ (Array.getElem?_eq_some_iff.1 HNr.out).1).trans HNr.out)
          have HMc := Lib.hid (HM.out.below hBc)
          have HCC := Lib.hid hbc
          have HBc := Lib.hid (HBr.out.trans (hBc.mono HBr.out.size))
          clear hbc hBc HKr HNr HM
          go_upto_region 13 with fail
          refine wp_region_lit ?_
          refine wpList_load_row rfl 23 _ rfl w.heap.size rfl 23 kl.toArray (0, 0) _ HKc.out hu23 rfl (by rw [List.size_toArray]; exact hi23) ?_
          refine wpList_load_row rfl 25 _ rfl N rfl 25 nl.toArray (0, 0) _ HNc.out hu25 rfl (by rw [List.size_toArray]; exact hi25) ?_
          go_wp2_with fail
          refine (HRO.out m hml _ _ _ (HVH8.out.below HBc.out) HMc.out).mono ?_
          rintro e wd ⟨pd, n4, cd, rfl, hbd, hBd⟩
          have cvc := conv_ok (HCC.out.below hBd)
          have cvd := conv_ok hbd
          generalize strB (opnO kb nb hb m) = S2 at cvc cvd
          generalize opnE kb nb hb m = E2
          have HBd := Lib.hid (HBc.out.trans (hBd.mono HBc.out.size))
          clear hbd hBd HKc HNc HCC
          go_wp2
          exact ⟨⟨k + 1, by go_num, by omega, HBd⟩, by simp [intOf]; omega⟩
        · have hd : decide ((k : Int) < 2) = false := by simp; omega
          go_wp2
          go_ret
          exact ⟨rfl, HB8.out.trans (HBr.out.mono HB8.out.size)⟩
    have d1 : decide ((400 : Int) < (l.length : Int)) = true := by simp; omega
    by_cases h5 : l.length ≤ 65536
    · have d2 : decide ((l.length : Int) ≤ (65536 : Int)) = true := by simp; omega
      go_wp2
      go_ret
      exact ⟨rfl, HB1.out⟩
    have d2 : decide ((l.length : Int) ≤ (65536 : Int)) = false := by simp; omega
    by_cases h6 : l.length ≤ 70000
    · have d3 : decide ((70000 : Int) < (l.length : Int)) = false := by simp; omega
      go_upto_region 5 with fail
      refine wp_region_lit ?_
      refine wpList_load_row rfl 23 _ rfl w.heap.size rfl 23 kl.toArray (0, 0) _ HK1.out hu23 rfl (by rw [List.size_toArray]; exact hi23) ?_
      refine wpList_load_row rfl 25 _ rfl N rfl 25 nl.toArray (0, 0) _ HN1.out hu25 rfl (by rw [List.size_toArray]; exact hi25) ?_
      go_wp2_with fail
      refine (HSL.out _ _ _ (HVH.out.below HB1.out) (HVB.out.below HB1.out) (HT.out.below HB1.out)).mono ?_
      rintro e wa ⟨pa, na, ca, rfl, hba, hBa⟩
      have HKa := Lib.hid ((hBa.block _ (Array.getElem?_eq_some_iff.1 HK1.out).1).trans HK1.out)
      have HNa := Lib.hid ((hBa.block _ (Array.getElem?_eq_some_iff.1 HN1.out).1).trans HN1.out)
      have HAA := Lib.hid hba
      have HBa := Lib.hid (HB1.out.trans (hBa.mono HB1.out.size))
      clear hba hBa HK1 HN1
      go_upto_region 6 with fail
      refine wp_region_lit ?_
      refine wpList_load_row rfl 23 _ rfl w.heap.size rfl 23 kl.toArray (0, 0) _ HKa.out hu23 rfl (by rw [List.size_toArray]; exact hi23) ?_
      refine wpList_load_row rfl 25 _ rfl N rfl 25 nl.toArray (0, 0) _ HNa.out hu25 rfl (by rw [List.size_toArray]; exact hi25) ?_
      go_wp2_with fail
      refine (HRS.out _ _ _ (HVH.out.below HBa.out) (HVB.out.below HBa.out)).mono ?_
      rintro e wb ⟨pb, n2, cb, rfl, hbb, hBb⟩
      have HKb := Lib.hid ((hBb.block _ (Array.getElem?_eq_some_iff.1 HKa.out).1).trans HKa.out)
      have HNb := Lib.hid ((hBb.block _ (Array.getElem?_eq_some_iff.1 HNa.out).1).trans HNa.out)
      have cva := conv_ok (HAA.out.below hBb)
      have cvb := conv_ok hbb
      have HBB := Lib.hid hbb
      have HBb := Lib.hid (HBa.out.trans (hBb.mono HBa.out.size))
      generalize strB (selO kb nb hb l) = S at cva cvb
      generalize strE l = E
      clear hbb hBb HKa HNa HAA
      go_upto_region 9 with fail
      clear cva cvb
      go_wp2_with fail
      obtain ⟨w8, hw8⟩ : ∃ W, W = wb.alloc (.cells #[.slice px l.length cx, .slice pb n2 cb] 28) := ⟨_, rfl⟩
      have hB18 : Below wb.heap.size wb w8 := by rw [hw8]; exact Below.al (Below.refl _ _) _
      have hTT : w8.heap[wb.heap.size]? = some (.cells #[.slice px l.length cx, .slice pb n2 cb] 28 (0, 0)) := by rw [hw8]; exact World.alloc_heap_new wb _
      have hcell : ∀ k, k < 2 → ∃ (p : Option Addr) (n c : Nat) (m : List (BitVec 8)), w8.cell? ⟨wb.heap.size, k, none⟩ = some (.slice p n c) ∧ BytesAt w8 (.slice p n c) m ∧ m.length ≤ 1000000 := fun k hk => by
        have g1 := HVB.out.below (HBb.out.trans (hB18.mono HBb.out.size))
        have g2 := HBB.out.below hB18
        unfold World.cell?
        rw [hTT]
        rcases (show k = 0 ∨ k = 1 by omega) with rfl | rfl
        · exact ⟨_, _, _, l, rfl, g1, by omega⟩
        · exact ⟨_, _, _, _, rfl, g2, hsl⟩
      rw [← hw8]
      obtain ⟨T, hTe⟩ : ∃ T, T = wb.heap.size := ⟨_, rfl⟩
      rw [← hTe] at hcell ⊢
      have HCELL := Lib.hid hcell
      have HK8 := Lib.hid ((hB18.block _ (Array.getElem?_eq_some_iff.1 HKb.out).1).trans HKb.out)
      have HN8 := Lib.hid ((hB18.block _ (Array.getElem?_eq_some_iff.1 HNb.out).1).trans HNb.out)
      have HB8 := Lib.hid (HBb.out.trans (hB18.mono HBb.out.size))
      have HT8 := Lib.hid (HT.out.below HB8.out)
      have HVH8 := Lib.hid (HVH.out.below HB8.out)
      clear hw8 hTT hcell hTe hB18 HKb HNb HB1 HBa HBb HBB
      go_wp2_with fail
      go_loopw [69] (fun x wr => ∃ k : Nat, x = .int .i64 k ∧ k ≤ 2 ∧ Hid (Below w8.heap.size w8 wr)) (fun x _ => 2 - (intOf x).toNat)
      case atStart => exact ⟨0, rfl, Nat.zero_le _, Below.refl _ _⟩
      case round =>
        obtain ⟨k, rfl, hk, HBr⟩ := hrel
        by_cases hlt : k < 2
        · have hd : decide ((k : Int) < 2) = true := by simp; omega
          obtain ⟨p, n, c, m, hy, hm, hml⟩ := HCELL.out k hlt
          have hyr := cell_old hy (HBr.out.block _ (cell_lt hy))
          have HM := Lib.hid (hm.below HBr.out)
          have hk0 : (0 : Int) ≤ k := by omega
          have hk5 : (k : Int) < 2 := by omega
          clear hy hm
          have HKr := Lib.hid ((HBr.out.block _ (Array.getElem?_eq_some_iff.1 HK8.out).1).trans HK8.out)
          have HNr := Lib.hid ((HBr.out.block _ (Array.getElem?_eq_some_iff.1 HN8.out).1).trans HN8.out)
          go_upto_region 12 with fail
          clear hyr
          refine wp_region_lit ?_
          refine wpList_load_row rfl 23 _ rfl w.heap.size rfl 23 kl.toArray (0, 0) _ HKr.out hu23 rfl (by rw [List.size_toArray]; exact hi23) ?_
          refine wpList_load_row rfl 25 _ rfl N rfl 25 nl.toArray (0, 0) _ HNr.out hu25 rfl (by rw [List.size_toArray]; exact hi25) ?_
          go_wp2_with fail
          refine (HO.out m hml _ _ _ (HVH8.out.below HBr.out) HM.out (HT8.out.below HBr.out)).mono ?_
          rintro e wc ⟨pc, nc, cc, rfl, hbc, hBc⟩
          have HKc := Lib.hid ((hBc.block _ (Array.getElem?_eq_some_iff.1 HKr.out).1).trans HKr.out)
          have HNc := Lib.hid ((hBc.block _ (Array.getElem?_eq_some_iff.1 HNr.out).1).trans HNr.out)
          have HMc := Lib.hid (HM.out.below hBc)
          have HCC := Lib.hid hbc
          have HBc := Lib.hid (HBr.out.trans (hBc.mono HBr.out.size))
          clear hbc hBc HKr HNr HM
          go_upto_region 13 with fail
          refine wp_region_lit ?_
          refine wpList_load_row rfl 23 _ rfl w.heap.size rfl 23 kl.toArray (0, 0) _ HKc.out hu23 rfl (by rw [List.size_toArray]; exact hi23) ?_
          refine wpList_load_row rfl 25 _ rfl N rfl 25 nl.toArray (0, 0) _ HNc.out hu25 rfl (by rw [List.size_toArray]; exact hi25) ?_
          go_wp2_with fail
          refine (HRO.out m hml _ _ _ (HVH8.out.below HBc.out) HMc.out).mono ?_
          rintro e wd ⟨pd, n4, cd, rfl, hbd, hBd⟩
          have cvc := conv_ok (HCC.out.below hBd)
          have cvd := conv_ok hbd
          generalize strB (opnO kb nb hb m) = S2 at cvc cvd
          generalize opnE kb nb hb m = E2
          have HBd := Lib.hid (HBc.out.trans (hBd.mono HBc.out.size))
          clear hbd hBd HKc HNc HCC
          go_wp2
          exact ⟨⟨k + 1, by go_num, by omega, HBd⟩, by simp [intOf]; omega⟩
        · have hd : decide ((k : Int) < 2) = false := by simp; omega
          go_wp2
          go_ret
          exact ⟨rfl, HB8.out.trans (HBr.out.mono HB8.out.size)⟩
    have d3 : decide ((70000 : Int) < (l.length : Int)) = true := by simp; omega
    go_wp2
    go_ret
    exact ⟨rfl, HB1.out⟩
  · have dh : decide ((400 : Int) < (hb.length : Int)) = true := by simp; omega
    by_cases h4 : l.length ≤ 400
    · have d1 : decide ((400 : Int) < (l.length : Int)) = false := by simp; omega
      have d3 : decide ((70000 : Int) < (l.length : Int)) = false := by simp; omega
      go_wp2
      go_ret
      exact ⟨rfl, HB1.out⟩
    have d1 : decide ((400 : Int) < (l.length : Int)) = true := by simp; omega
    by_cases h5 : l.length ≤ 65536
    · have d2 : decide ((l.length : Int) ≤ (65536 : Int)) = true := by simp; omega
      go_wp2
      go_ret
      exact ⟨rfl, HB1.out⟩
    have d2 : decide ((l.length : Int) ≤ (65536 : Int)) = false := by simp; omega
    by_cases h6 : l.length ≤ 70000
    · have d3 : decide ((70000 : Int) < (l.length : Int)) = false := by simp; omega
      go_wp2
      go_ret
      exact ⟨rfl, HB1.out⟩
    have d3 : decide ((70000 : Int) < (l.length : Int)) = true := by simp; omega
    go_wp2
    go_ret
    exact ⟨rfl, HB1.out⟩
theorem cipherSealSpec_w {H : Type} {enc : TypeId × Value → H} {base : Nat} (v0 : Value) (d0 : DataW H) (p0 : List MemPlace) {W : World} (h0 : DataW.Trod enc Tryd.prog W 0 (fun _ => true) true 23 v0 d0 p0) (o0 : Value.okWide Tryd.prog W .any base 23 v0)
    (v1 : Value) (d1 : DataW H) (p1 : List MemPlace) (h1 : DataW.Trod enc Tryd.prog W 0 (fun _ => true) true 25 v1 d1 p1) (o1 : Value.okWide Tryd.prog W .any base 25 v1)
    (v2 : Value) (d2 : DataW H) (p2 : List MemPlace) (h2 : DataW.Trod enc Tryd.prog W 0 (fun _ => true) true 28 v2 d2 p2) (o2 : Value.okWide Tryd.prog W .any base 28 v2)
    (v3 : Value) (d3 : DataW H) (p3 : List MemPlace) (h3 : DataW.Trod enc Tryd.prog W 0 (fun _ => true) true 28 v3 d3 p3) (o3 : Value.okWide Tryd.prog W .any base 28 v3)
    (hL : laidMetH Tryd.prog Rows.cipherSealSpecRow.laid W) :
    Calls Tryd.prog 5 #[v0, v1, v2, v3] W fun e w' => e = .returned (.bool true) ∧ Below W.heap.size W w' := by
  obtain ⟨kb, rfl, hk⟩ := arrK h0 o0
  obtain ⟨nb, rfl, hn⟩ := arrN h1 o1
  obtain ⟨hb, b2, _⟩ := bytesIn h2 o2
  obtain ⟨l, b3, _⟩ := bytesIn h3 o3
  exact cipherSealSpec_walk kb nb hb l _ _ W hk hn b2 b3 (tabs_of hL)
end Go.Proofs.YtklaancgnfkjlaaDoor
