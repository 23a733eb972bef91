/- The reference's Block; the walk of the law CipherBlockSpec. -/
import Derived.Test.YtklaancgnfkjlaaDoorFb
import Derived.Test.YtklaancgnfkjlaaDoorEi
namespace Go.Proofs.YtklaancgnfkjlaaDoor
open Go.RowKit
set_option maxRecDepth 100000
set_option maxHeartbeats 2000000
set_option linter.unusedVariables false
set_option linter.unusedSimpArgs false

theorem rBlock_bad (kc nc : Array Value) (z : Int) (hz : z < 0 ∨ 4294967295 < z) (w : World) :
    Calls Tryd.prog 13 #[.agg kc, .agg nc, .int .i64 z] w fun e w' => e = .returned (.tuple #[.slice none 0 0, .int .i64 1]) ∧ Below w.heap.size w w' := by
  have hB : Below w.heap.size w ((w.alloc (.cells kc 23)).alloc (.cells nc 25)) :=
    ⟨rfl, rfl, rfl, by simp; omega, fun k hk => by rw [Below.heap_alloc _ _ _ (by simp; omega), Below.heap_alloc _ _ _ hk]⟩
  have HB := Lib.hid hB
  clear hB
  rcases hz with h | h
  · have h1 : decide (z < 0) = true := by simp; omega
    go_enter Tryd.func13, Tryd.ntmps13
    go_wp2
    go_ret2
    exact ⟨rfl, HB.out⟩
  · have h1 : decide (z < 0) = false := by simp; omega
    have h2 : decide (4294967295 < z) = true := by simp; omega
    go_enter Tryd.func13, Tryd.ntmps13
    go_wp2
    go_ret2
    exact ⟨rfl, HB.out⟩

theorem rBlock_ok (kb nb : List (BitVec 8)) (c : BitVec 32) (w : World) (hk : kb.length = 32) (hn : nb.length = 12) :
    Calls Tryd.prog 13 #[.agg (kb.map v8).toArray, .agg (nb.map v8).toArray, .int .i64 c.toNat] w fun e w' =>
      ∃ v, e = .returned (.tuple #[v, .int .i64 0]) ∧ w'.ownsRow w.heap.size 5 1 v 64 ((chaBlock kb nb c).map v8) ∧ Below w.heap.size w w' := by
  have hks : (kb.map v8).toArray.size = 32 := by simp [hk]
  have hns : (nb.map v8).toArray.size = 12 := by simp [hn]
  have hF := fun w => rblock_ok kb nb c w hk hn
  generalize hkc : (kb.map v8).toArray = kc at hks hF ⊢
  generalize hnc : (nb.map v8).toArray = nc at hns hF ⊢
  have hB : Below w.heap.size w ((w.alloc (.cells kc 23)).alloc (.cells nc 25)) :=
    ⟨rfl, rfl, rfl, by simp; omega, fun k hk => by rw [Below.heap_alloc _ _ _ (by simp; omega), Below.heap_alloc _ _ _ hk]⟩
  have HB := Lib.hid hB
  have HF := Lib.hid hF
  have HKS := Lib.hid hks
  have HNS := Lib.hid hns
  have h1 : decide ((c.toNat : Int) < 0) = false := by simp
  have h2 : decide ((4294967295 : Int) < (c.toNat : Int)) = false := by have := c.isLt; simp; omega
  clear hF hkc hnc hks hns hB
  go_enter Tryd.func13, Tryd.ntmps13
  go_upto_region 3 with fail
  refine wp_region_lit ?_
  refine wpList_load_row rfl 23 _ rfl w.heap.size rfl 23 kc (0, 0) _ ((Below.heap_alloc _ _ _ (by simp)).trans (World.alloc_heap_new w _)) Tryd.underlying23 rfl (by rw [HKS.out]; rfl) ?_
  refine wpList_load_row rfl 25 _ rfl (w.heap.size + 1) rfl 25 nc (0, 0) _ (by have := World.alloc_heap_new (w.alloc (.cells kc 23)) (.cells nc 25); simpa using this) Tryd.underlying25 rfl (by rw [HNS.out]; rfl) ?_
  go_wp2_with fail
  refine (HF.out _).mono ?_
  rintro e w1 ⟨v, rfl, hown, hB1⟩
  have hge : w.heap.size ≤ ((w.alloc (.cells kc 23)).alloc (.cells nc 25)).heap.size := HB.out.size
  have HO := Lib.hid hown
  have HB1 := Lib.hid (HB.out.trans (hB1.mono hge))
  clear hown hB1
  go_wp2
  go_ret2
  exact ⟨v, rfl, own_lower HO.out hge, HB1.out⟩

/-- What Block answers. -/
def blkE (z : Int) : Int := if 0 ≤ z ∧ z ≤ 4294967295 then 0 else 1
def blkO (kb nb : List (BitVec 8)) (z : Int) : List (BitVec 8) := if 0 ≤ z ∧ z ≤ 4294967295 then chaBlock kb nb (BitVec.ofNat 32 z.toNat) else []
theorem bytes_nil (W : World) : BytesAt W (.slice none 0 0) [] := ⟨none, 0, rfl, Nat.le_refl _, fun _ => rfl, fun h => (by cases h)⟩
theorem Block_any (kb nb : List (BitVec 8)) (z : Int) (w : World) (hk : kb.length = 32) (hn : nb.length = 12) (hT : ConstTab w) :
    Calls Tryd.prog 12 #[.agg (kb.map v8).toArray, .agg (nb.map v8).toArray, .int .i64 z] w fun e w' =>
      ∃ p n c, e = .returned (.tuple #[.slice p n c, .int .i64 (blkE z)]) ∧ BytesAt w' (.slice p n c) (blkO kb nb z) ∧ Below w.heap.size w w' := by
  by_cases h : 0 ≤ z ∧ z ≤ 4294967295
  · have e : ((BitVec.ofNat 32 z.toNat).toNat : Int) = z := by rw [BitVec.toNat_ofNat]; omega
    have h1 := Block_ok kb nb (BitVec.ofNat 32 z.toNat) w hk hn hT
    rw [e] at h1
    refine h1.mono ?_
    rintro e w' ⟨v, rfl, hown, hB⟩
    obtain ⟨p, c, rfl, -, -⟩ := own_form hown
    refine ⟨p, 64, c, by rw [blkE, if_pos h], ?_, hB⟩
    rw [blkO, if_pos h]
    exact BytesAt.of_own (B := w.heap.size) (by rw [chaBlock_length]; exact hown)
  · refine (Block_bad _ _ z (by omega) w).mono ?_
    rintro e w' ⟨rfl, hB⟩
    exact ⟨none, 0, 0, by rw [blkE, if_neg h], by rw [blkO, if_neg h]; exact bytes_nil _, hB⟩
theorem rBlock_any (kb nb : List (BitVec 8)) (z : Int) (w : World) (hk : kb.length = 32) (hn : nb.length = 12) :
    Calls Tryd.prog 13 #[.agg (kb.map v8).toArray, .agg (nb.map v8).toArray, .int .i64 z] w fun e w' =>
      ∃ p n c, e = .returned (.tuple #[.slice p n c, .int .i64 (blkE z)]) ∧ BytesAt w' (.slice p n c) (blkO kb nb z) ∧ Below w.heap.size w w' := by
  by_cases h : 0 ≤ z ∧ z ≤ 4294967295
  · have e : ((BitVec.ofNat 32 z.toNat).toNat : Int) = z := by rw [BitVec.toNat_ofNat]; omega
    have h1 := rBlock_ok kb nb (BitVec.ofNat 32 z.toNat) w hk hn
    rw [e] at h1
    refine h1.mono ?_
    rintro e w' ⟨v, rfl, hown, hB⟩
    obtain ⟨p, c, rfl, -, -⟩ := own_form hown
    refine ⟨p, 64, c, by rw [blkE, if_pos h], ?_, hB⟩
    rw [blkO, if_pos h]
    exact BytesAt.of_own (B := w.heap.size) (by rw [chaBlock_length]; exact hown)
  · refine (rBlock_bad _ _ z (by omega) w).mono ?_
    rintro e w' ⟨rfl, hB⟩
    exact ⟨none, 0, 0, by rw [blkE, if_neg h], by rw [blkO, if_neg h]; exact bytes_nil _, hB⟩

theorem cipherBlockSpec_walk (kb nb : List (BitVec 8)) (z : Int) (w : World) (hk : kb.length = 32) (hn : nb.length = 12) (hT : Tabs w) :
    Calls Tryd.prog 3 #[.agg (kb.map v8).toArray, .agg (nb.map v8).toArray, .int .i64 z] w fun e w' => e = .returned (.bool true) ∧ Below w.heap.size w w' := by
  have hks : (kb.map v8).length = 32 := by simp [hk]
  have hns : (nb.map v8).length = 12 := by simp [hn]
  have hA := fun z w hT => Block_any kb nb z w hk hn hT
  have hR := fun z w => rBlock_any kb nb z w hk hn
  generalize kb.map v8 = kl at hks hA hR ⊢
  generalize nb.map v8 = nl at hns hA hR ⊢
  have HA := Lib.hid hA
  have HR := Lib.hid hR
  have HKS := Lib.hid hks
  have HNS := Lib.hid hns
  have HT := Lib.hid hT
  clear hA hR hks hns hT hk hn
  have hu23 := Tryd.underlying23
  have hu25 := Tryd.underlying25
  have hi23 : (Tryd.prog.info? 23).map (·.size) = some kl.length := by rw [HKS.out]; kernel_rfl
  have hi25 : (Tryd.prog.info? 25).map (·.size) = some nl.length := by rw [HNS.out]; kernel_rfl
  have HK0 := Lib.hid (boxes_K w kl.toArray nl.toArray)
  have HN0 := Lib.hid (alloc_new2 w (.cells kl.toArray 23) (.cells nl.toArray 25))
  have HB0 := Lib.hid (below_two w kl.toArray nl.toArray)
  go_enter Tryd.func3, Tryd.ntmps3
  go_wp2_with fail
  obtain ⟨w0, hw0⟩ : ∃ w0, w0 = (w.alloc (.cells kl.toArray 23)).alloc (.cells nl.toArray 25) := ⟨_, rfl⟩
  rw [← hw0] at HK0 HN0 HB0 ⊢
  clear hw0
  refine (sane_ok _ (HT.out.below HB0.out)).mono ?_
  rintro e w1 ⟨rfl, hB1⟩
  have HK1 := Lib.hid ((hB1.block _ (Array.getElem?_eq_some_iff.1 HK0.out).1).trans HK0.out)
  have HN1 := Lib.hid ((hB1.block _ (Array.getElem?_eq_some_iff.1 HN0.out).1).trans HN0.out)
  have HB1 := Lib.hid (HB0.out.trans (hB1.mono HB0.out.size))
  clear hB1 HK0 HN0 HB0
  obtain ⟨N, hN⟩ : ∃ N, N = w.heap.size + 1 := ⟨_, rfl⟩
  rw [← hN] at HN1 ⊢
  clear hN
  go_upto_region 4 with fail
  obtain ⟨w8, hw8⟩ : ∃ W, W = w1.alloc (.cells #[.int .i64 z, .int .i64 (bits .and .i64 z 65535), .int .i64 0, .int .i64 4294967295, .int .i64 4294967296] 3) := ⟨_, rfl⟩
  have hB18 : Below w1.heap.size w1 w8 := by rw [hw8]; exact Below.al (Below.refl _ _) _
  have hTT : w8.heap[w1.heap.size]? = some (.cells #[.int .i64 z, .int .i64 (bits .and .i64 z 65535), .int .i64 0, .int .i64 4294967295, .int .i64 4294967296] 3 (0, 0)) := by rw [hw8]; exact World.alloc_heap_new w1 _
  have hcell : ∀ k, k < 5 → ∃ y, w8.cell? ⟨w1.heap.size, k, none⟩ = some (.int .i64 y) := fun k hk => by
    unfold World.cell?
    rw [hTT]
    rcases (show k = 0 ∨ k = 1 ∨ k = 2 ∨ k = 3 ∨ k = 4 by omega) with rfl | rfl | rfl | rfl | rfl <;> exact ⟨_, rfl⟩
  rw [← hw8]
  obtain ⟨T, hTe⟩ : ∃ T, T = w1.heap.size := ⟨_, rfl⟩
  rw [← hTe] at hcell ⊢
  generalize hbb : bits .and .i64 z 65535 = zz
  have HCELL := Lib.hid hcell
  have HK8 := Lib.hid ((hB18.block _ (Array.getElem?_eq_some_iff.1 HK1.out).1).trans HK1.out)
  have HN8 := Lib.hid ((hB18.block _ (Array.getElem?_eq_some_iff.1 HN1.out).1).trans HN1.out)
  have HB8 := Lib.hid (HB1.out.trans (hB18.mono HB1.out.size))
  have HT8 := Lib.hid (HT.out.below HB8.out)
  clear hw8 hTT hcell hTe hB18 HK1 HN1 HB1 hbb
  go_wp2_with fail
  go_loopw [20] (fun x wr => ∃ k : Nat, x = .int .i64 k ∧ k ≤ 5 ∧ Hid (Below w8.heap.size w8 wr)) (fun x _ => 5 - (intOf x).toNat)
  case atStart => exact ⟨0, rfl, Nat.zero_le _, Below.refl _ _⟩
  case round =>
    obtain ⟨k, rfl, hk, HBr⟩ := hrel
    by_cases hlt : k < 5
    · have hd : decide ((k : Int) < 5) = true := by simp; omega
      obtain ⟨y, hy⟩ := HCELL.out k hlt
      have hyr := cell_old hy (HBr.out.block _ (cell_lt hy))
      have hk0 : (0 : Int) ≤ k := by omega
      have hk5 : (k : Int) < 5 := by omega
      clear hy
      have HKr := Lib.hid ((HBr.out.block _ (Array.getElem?_eq_some_iff.1 HK8.out).1).trans HK8.out)
      have HNr := Lib.hid ((HBr.out.block _ (Array.getElem?_eq_some_iff.1 HN8.out).1).trans HN8.out)
      go_upto_region 6 with fail
      clear hyr
      refine wp_region_lit ?_
      refine wpList_load_row rfl 23 _ rfl w.heap.size rfl 23 kl.toArray (0, 0) _ HKr.out hu23 rfl (by rw [List.size_toArray]; exact hi23) ?_
      refine wpList_load_row rfl 25 _ rfl N rfl 25 nl.toArray (0, 0) _ HNr.out hu25 rfl (by rw [List.size_toArray]; exact hi25) ?_
      go_wp2_with fail
      refine (HA.out y _ (HT8.out.below HBr.out).const).mono ?_
      rintro e wa ⟨pa, na, ca, rfl, hba, hBa⟩
      have HKa := Lib.hid ((hBa.block _ (Array.getElem?_eq_some_iff.1 HKr.out).1).trans HKr.out)
      have HNa := Lib.hid ((hBa.block _ (Array.getElem?_eq_some_iff.1 HNr.out).1).trans HNr.out)
      have HAA := Lib.hid hba
      have HBa := Lib.hid (HBr.out.trans (hBa.mono HBr.out.size))
      clear hba hBa HKr HNr
      go_upto_region 7 with fail
      refine wp_region_lit ?_
      refine wpList_load_row rfl 23 _ rfl w.heap.size rfl 23 kl.toArray (0, 0) _ HKa.out hu23 rfl (by rw [List.size_toArray]; exact hi23) ?_
      refine wpList_load_row rfl 25 _ rfl N rfl 25 nl.toArray (0, 0) _ HNa.out hu25 rfl (by rw [List.size_toArray]; exact hi25) ?_
      go_wp2_with fail
      refine (HR.out y _).mono ?_
      rintro e wb ⟨pb, n2, cb, rfl, hbb, hBb⟩
      have cva := conv_ok (HAA.out.below hBb)
      have cvb := conv_ok hbb
      generalize strB (blkO kb nb y) = S at cva cvb
      generalize blkE y = E
      have HBb := Lib.hid (HBa.out.trans (hBb.mono HBa.out.size))
      clear hbb hBb HKa HNa HAA
      go_wp2
      exact ⟨⟨k + 1, by go_num, by omega, HBb⟩, by simp [intOf]; omega⟩
    · have hd : decide ((k : Int) < 5) = false := by simp; omega
      go_wp2
      go_ret
      exact ⟨rfl, HB8.out.trans (HBr.out.mono HB8.out.size)⟩
theorem cipherBlockSpec_w {H : Type} {enc : TypeId × Value → H} {base : Nat} (v0 : Value) (d0 : DataW H) (p0 : List MemPlace) {W : World} (h0 : DataW.Trod enc Tryd.prog W 0 (fun _ => true) true 23 v0 d0 p0) (o0 : Value.okWide Tryd.prog W .any base 23 v0)
    (v1 : Value) (d1 : DataW H) (p1 : List MemPlace) (h1 : DataW.Trod enc Tryd.prog W 0 (fun _ => true) true 25 v1 d1 p1) (o1 : Value.okWide Tryd.prog W .any base 25 v1)
    (z : Int) {Q : Prop} (_ : Q)
    (hL : laidMetH Tryd.prog Rows.cipherBlockSpecRow.laid W) :
    Calls Tryd.prog 3 #[v0, v1, .int .i64 z] W fun e w' => e = .returned (.bool true) ∧ Below W.heap.size W w' := by
  obtain ⟨kb, rfl, hk⟩ := arrK h0 o0
  obtain ⟨nb, rfl, hn⟩ := arrN h1 o1
  exact cipherBlockSpec_walk kb nb z W hk hn (tabs_of hL)
end Go.Proofs.YtklaancgnfkjlaaDoor
