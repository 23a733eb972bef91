/- The reference digest: Tagged. -/
import Derived.Test.YtklaancgnfkjlaaDoorGe
namespace Go.Proofs.YtklaancgnfkjlaaDoor
open Go.RowKit
set_option maxRecDepth 100000
set_option maxHeartbeats 2000000
set_option linter.unusedVariables false
set_option linter.unusedSimpArgs false

theorem rtagged_ok (v : Value) (l : List (BitVec 8)) (hl : l.length ≤ 900000) (w : World) (hv : BytesAt w v l) :
    Calls Tryd.prog 36 #[.string ⟨#[116, 97, 103]⟩, v] w fun e w' => e = .returned (.agg ((taggedL tagL l).map v8).toArray) ∧ Below w.heap.size w w' := by
  have HV := Lib.hid hv
  obtain ⟨p, c, rfl, hc, -⟩ := bytes_form hv
  clear hv
  have hal : ∀ w, (Instr.alloc 41 true (.tuple #[])).run Tryd.prog w = .ok (.pointer (some ⟨w.heap.size, 0, none⟩)) (w.alloc (.cells (List.replicate 32 (Value.int .u8 0)).toArray 41)) := fun w => by kernel_rfl
  have hZs : (List.replicate 32 (Value.int .u8 0)).toArray.size = 32 := by simp
  generalize hZq : (List.replicate 32 (Value.int .u8 0)).toArray = Z at hal hZs
  have HZS := Lib.hid hZs
  have HAL := Lib.hid hal
  clear hZs hZq hal
  have hs1 : ((sumL tagL).map v8).length = 32 := by rw [List.length_map, sumL_length]
  have ho1 := v8_one (sumL tagL)
  have hs2 : ((taggedL tagL l).map v8).toArray.size = 32 := by rw [List.size_toArray, List.length_map, taggedL_length]
  have ho2 : ((taggedL tagL l).map v8).toArray.all (·.oneCell') = true := all_oneCell_toArray (v8_one _)
  have hS1 := fun w h => rsum_ok (.slice (some ⟨(w : World).heap.size, 0, none⟩) 3 (tagC w)) tagL (by decide) (tagW w) h
  have hS2 : ∀ v w, BytesAt w v (sumL tagL ++ l) → Calls Tryd.prog 43 #[v] w fun e w' => e = .returned (.agg ((taggedL tagL l).map v8).toArray) ∧ Below w.heap.size w w' := fun v w h =>
    rsum_ok v (sumL tagL ++ l) (by rw [List.length_append, sumL_length]; omega) w h
  have hstl := sumL_length tagL
  generalize hst : sumL tagL = st at hs1 ho1 hS1 hS2 hstl
  generalize hq2 : ((taggedL tagL l).map v8).toArray = brr at hs2 ho2 hS2 ⊢
  have HS1 := Lib.hid hS1
  have HS2 := Lib.hid hS2
  have HL1 := Lib.hid hs1
  have HL2 := Lib.hid hs2
  have HO1 := Lib.hid ho1
  have HO2 := Lib.hid ho2
  have HSTL := Lib.hid hstl
  clear hS1 hS2 hs1 hs2 ho1 ho2 hq2 hst hstl
  go_enter Tryd.func36, Tryd.ntmps36
  go_upto_region 0 with fail
  refine wp_region_lit ?_
  refine wpList_plain rfl fun _ hK => wp_alloc_as 41 rfl Z HAL.out (hK _ _ ?_)
  have hR0 : (w.alloc (.cells Z 41)).heap[w.heap.size]? = some (.cells Z 41 (0, 0)) := World.alloc_heap_new w _
  have hB0 : Below w.heap.size w (w.alloc (.cells Z 41)) := Below.al (Below.refl _ _) _
  obtain ⟨W0, hW0⟩ : ∃ W, W = w.alloc (.cells Z 41) := ⟨_, rfl⟩
  rw [← hW0] at hR0 hB0 ⊢
  have HR0 := Lib.hid hR0
  have HB0 := Lib.hid hB0
  clear hW0 hR0 hB0
  go_upto_region 1 with fail
  refine wp_region_lit ?_
  refine wpList_value (v := ?_) rfl ?_ ?_
  rotate_left
  · go_simp; with_reducible rfl
  refine wpList_plain rfl fun _ hK => wp_value (v := .slice (some ⟨W0.heap.size, 0, none⟩) 3 (tagC W0)) (w' := tagW W0) ?_ (hK _ _ ?_)
  · have kc := tag_conv W0
    go_simp
  refine wpList_callf rfl _ _ _ rfl Tryd.call43 _ (by simp only [List.map_toArray, List.map_cons, List.map_nil]; rfl) (HS1.out W0 (tag_bytes W0)) ?_
  rintro e w2 ⟨rfl, hB2⟩
  refine ⟨_, rfl, ?_⟩
  refine wpList_plain rfl fun _ hK => wp_alloc_as 41 rfl Z HAL.out (hK _ _ ?_)
  refine wpList_plain rfl fun _ hK => wp_store_row 41 _ _ rfl w2.heap.size (st.map v8).toArray rfl rfl 41 Z (World.alloc_heap_new w2 _) (by rw [List.size_toArray, HL1.out]; exact info41) (by rw [HZS.out, List.size_toArray, HL1.out]) (all_oneCell_toArray HO1.out) (hK _ _ ?_)
  have hBt : Below W0.heap.size W0 w2 := (tag_below W0 _ (Nat.le_refl _)).trans (hB2.mono (tag_below W0 _ (Nat.le_refl _)).size)
  have hD3 : ((w2.alloc (.cells Z 41)).setRow w2.heap.size (st.map v8).toArray).heap[w2.heap.size]? = some (.cells (st.map v8).toArray 41 (0, 0)) := setRow_heap _ _ _ _ _ _ (World.alloc_heap_new w2 _)
  have hB3 : Below W0.heap.size W0 ((w2.alloc (.cells Z 41)).setRow w2.heap.size (st.map v8).toArray) := Below.setRow (Below.al hBt _) hBt.size _
  have hlR := (Array.getElem?_eq_some_iff.1 HR0.out).1
  obtain ⟨W3, hW3⟩ : ∃ W, W = (w2.alloc (.cells Z 41)).setRow w2.heap.size (st.map v8).toArray := ⟨_, rfl⟩
  obtain ⟨D, hD⟩ : ∃ D, D = w2.heap.size := ⟨_, rfl⟩
  have hwD : w.heap.size < D := by rw [hD]; exact Nat.lt_of_lt_of_le hlR hBt.size
  rw [← hW3] at hD3 hB3 ⊢
  rw [← hD] at hD3 ⊢
  have HR3 : Hid (W3.heap[w.heap.size]? = some (.cells Z 41 (0, 0))) := Lib.hid ((hB3.block _ hlR).trans HR0.out)
  have HB3 := Lib.hid (HB0.out.trans (hB3.mono HB0.out.size))
  have HD3 := Lib.hid hD3
  clear hBt hD3 hB3 hW3 hD hB2 hlR HR0 HB0
  obtain ⟨i0, hi0, hz0, hz1, hz2⟩ := info_parts info_u8
  go_upto_region 2 with fail
  have hox : (W3.alloc (.cells #[] 5)).ownsRow W3.heap.size 5 1 (.slice (some ⟨W3.heap.size, 0, none⟩) 0 0) 0 [] := own_nil W3 (Nat.le_refl _)
  have hba : Below W3.heap.size W3 (W3.alloc (.cells #[] 5)) := Below.al (Below.refl _ _) _
  have hrd : RowAt (W3.alloc (.cells #[] 5)) (.slice (some ⟨D, 0, none⟩) 32 32) 1 32 (st.map v8) := (row_k HD3.out HL1.out).below hba
  have HOX := Lib.hid hox
  have HBA := Lib.hid hba
  have HRD := Lib.hid hrd
  clear hox hba hrd
  have hlW : w.heap.size < W3.heap.size := (Array.getElem?_eq_some_iff.1 HR3.out).1
  refine wp_region_lit ?_
  refine wpList_plain rfl fun _ hK => wp_value (v := .slice (some ⟨W3.heap.size, 0, none⟩) 0 0) (w' := W3.alloc (.cells #[] 5)) (by go_simp) (hK _ _ ?_)
  try simp only [Act.put, List.getElem_toArray, List.getElem_cons_succ, List.getElem_cons_zero, List.setIfInBounds_toArray, List.set_cons_zero, List.set_cons_succ]
  refine wpList_value (v := ?_) rfl ?_ ?_
  rotate_left
  · go_simp; with_reducible rfl
  try simp only [Act.put, List.getElem_toArray, List.getElem_cons_succ, List.getElem_cons_zero, List.setIfInBounds_toArray, List.set_cons_zero, List.set_cons_succ]
  refine wpList_append_row rfl _ _ 28 rfl W3.heap.size 5 i0 (.int .u8 0) 1 1 Tryd.underlying28 hi0 hz0 hz1 hz2 rfl (by decide) _ _ _ rfl HOX.out _ _ _ rfl HRD.out HO1.out (by unfold maxLen; omega) (by omega) HBA.out.size ?_
  intro v4 w4 hown hgrow
  have HO4 := Lib.hid hown
  have HB4 := Lib.hid (HBA.out.grown hgrow HBA.out.size (fun k e => (HOX.out.lt k e).1))
  clear hown hgrow
  try simp only [Act.put, List.getElem_toArray, List.getElem_cons_succ, List.getElem_cons_zero, List.setIfInBounds_toArray, List.set_cons_zero, List.set_cons_succ]
  refine wpList_value (v := ?_) rfl ?_ ?_
  rotate_left
  · go_simp; with_reducible rfl
  try simp only [Act.put, List.getElem_toArray, List.getElem_cons_succ, List.getElem_cons_zero, List.setIfInBounds_toArray, List.set_cons_zero, List.set_cons_succ]
  refine wpList_append_row rfl _ _ 28 rfl W3.heap.size 5 i0 (.int .u8 0) 1 1 Tryd.underlying28 hi0 hz0 hz1 hz2 rfl (by decide) _ _ _ rfl HO4.out _ _ _ rfl (row_bytes HV.out (HB3.out.trans (HB4.out.mono HB3.out.size))) (v8_one _) (by unfold maxLen; omega) (by omega) HB4.out.size ?_
  intro v5 w5 hown hgrow
  have HO5 := Lib.hid hown
  have HB5 := Lib.hid (HB4.out.grown hgrow HB4.out.size (fun k e => (HO4.out.lt k e).1))
  clear hown hgrow
  try simp only [Act.put, List.getElem_toArray, List.getElem_cons_succ, List.getElem_cons_zero, List.setIfInBounds_toArray, List.set_cons_zero, List.set_cons_succ]
  have hb5 : BytesAt w5 v5 (st ++ l) := BytesAt.of_own (B := W3.heap.size) (by
    have h := HO5.out
    rw [List.nil_append, ← List.map_append] at h
    rw [List.length_append, HSTL.out]
    simpa only [Nat.zero_add] using h)
  refine wpList_callf rfl _ _ _ rfl Tryd.call43 _ (by simp only [List.map_toArray, List.map_cons, List.map_nil]; rfl) (HS2.out v5 w5 hb5) ?_
  rintro e w6 ⟨rfl, hB6⟩
  refine ⟨_, rfl, ?_⟩
  have hR6 : w6.heap[w.heap.size]? = some (.cells Z 41 (0, 0)) := (hB6.block _ (Nat.lt_of_lt_of_le hlW HB5.out.size)).trans ((HB5.out.block _ hlW).trans HR3.out)
  have hB7 : Below w.heap.size w (w6.setRow w.heap.size brr) := Below.setRow ((HB3.out.trans (HB5.out.mono HB3.out.size)).trans (hB6.mono (HB3.out.trans (HB5.out.mono HB3.out.size)).size)) (Nat.le_refl _) _
  have HR6 := Lib.hid hR6
  have HB7 := Lib.hid hB7
  clear hB6 hR6 hB7 hb5 HO5 HO4 HB5 HB4 HOX HBA HRD HR3 HB3 HD3
  refine wpList_plain rfl fun _ hK => wp_store_row 41 _ _ rfl w.heap.size brr rfl rfl 41 Z HR6.out (by rw [HL2.out]; rfl) (by rw [HZS.out, HL2.out]) HO2.out (hK _ _ ?_)
  go_wp2_with fail
  refine bodyPost_ret (v := .agg brr) ?_ rfl ?_
  · exact results_cell_row rfl _ _ w.heap.size 41 _ (0, 0) _ rfl (setRow_heap _ _ _ _ _ _ HR6.out) Tryd.underlying41 rfl (by rw [HL2.out]; rfl)
  · exact ⟨rfl, HB7.out⟩
end Go.Proofs.YtklaancgnfkjlaaDoor
