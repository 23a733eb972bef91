/- The reference cipher: Tag. -/
import Derived.Test.YtklaancgnfkjlaaDoorGf
import Derived.Test.YtklaancgnfkjlaaDoorFd
namespace Go.Proofs.YtklaancgnfkjlaaDoor
open Go.RowKit
set_option maxRecDepth 100000
set_option maxHeartbeats 2000000
set_option linter.unusedVariables false
set_option linter.unusedSimpArgs false

theorem row_take {W : World} {g n c m : Nat} {l : List Value} (h : RowAt W (.slice (some ⟨g, 0, none⟩) n c) 1 n l) (hm : m ≤ n) (hn0 : 0 < n) : RowAt W (.slice (some ⟨g, 0, none⟩) m c) 1 m (l.take m) := by
  obtain ⟨hl, p, c', e, hc, hp, hcell⟩ := h
  obtain ⟨rfl, rfl⟩ : some ⟨g, 0, none⟩ = p ∧ c = c' := by simpa using e
  refine ⟨by simp; omega, _, _, rfl, by omega, by simp, fun _ => ?_⟩
  obtain ⟨g', o', e', h'⟩ := hcell hn0
  refine ⟨g', o', e', fun j u hj => h' j u ?_⟩
  rw [List.getElem?_take] at hj
  split at hj
  · exact hj
  · cases hj

theorem rtag_ok (kb nb hb cb : List (BitVec 8)) (vh vc : Value) (w : World) (hk : kb.length = 32) (hn : nb.length = 12) (hhl : hb.length ≤ 70000) (hcl : cb.length ≤ 70000) (hvh : BytesAt w vh hb) (hvc : BytesAt w vc cb) :
    Calls Tryd.prog 26 #[.agg (kb.map v8).toArray, .agg (nb.map v8).toArray, vh, vc] w fun e w' => ∃ u, e = .returned u ∧ w'.ownsRow w.heap.size 5 1 u 16 ((tag16 kb nb hb cb).map v8) ∧ Below w.heap.size w w' := by
  have hal : ∀ w, (Instr.alloc 41 true (.tuple #[])).run Tryd.prog w = .ok (.pointer (some ⟨w.heap.size, 0, none⟩)) (w.alloc (.cells (List.replicate 32 (Value.int .u8 0)).toArray 41)) := fun w => by kernel_rfl
  have hZs : (List.replicate 32 (Value.int .u8 0)).toArray.size = 32 := by simp
  generalize hZq : (List.replicate 32 (Value.int .u8 0)).toArray = Z at hal hZs
  have HZS := Lib.hid hZs
  have HAL := Lib.hid hal
  clear hZs hZq hal
  have hks : (kb.map v8).length = 32 := by simp [hk]
  have hns : (nb.map v8).length = 12 := by simp [hn]
  have hvk := v8_one kb
  have hvn := v8_one nb
  obtain ⟨kl, hkl⟩ : ∃ kl, kl = kb.map v8 := ⟨_, rfl⟩
  obtain ⟨nl, hnl⟩ : ∃ nl, nl = nb.map v8 := ⟨_, rfl⟩
  rw [← hkl] at hks hvk ⊢
  rw [← hnl] at hns hvn ⊢
  obtain ⟨i0, hi0, hz0, hz1, hz2⟩ := info_parts info_u8
  have HKL := Lib.hid hkl
  have HNL := Lib.hid hnl
  have HKS := Lib.hid hks
  have HNS := Lib.hid hns
  have HV8K := Lib.hid hvk
  have HV8N := Lib.hid hvn
  have HVH := Lib.hid hvh
  have HVC := Lib.hid hvc
  obtain ⟨ph, ch, rfl, hhc, -⟩ := bytes_form hvh
  obtain ⟨pc, cc, rfl, hcc, -⟩ := bytes_form hvc
  clear hkl hnl hks hns hvk hvn hvh hvc
  have HK0 := Lib.hid (boxes_K w kl.toArray nl.toArray)
  have HN0 := Lib.hid (alloc_new2 w (.cells kl.toArray 23) (.cells nl.toArray 25))
  have HB0 := Lib.hid (below_two w kl.toArray nl.toArray)
  go_enter Tryd.func26, Tryd.ntmps26
  go_upto_region 1 with fail
  obtain ⟨W, hW⟩ : ∃ W, W = (w.alloc (.cells kl.toArray 23)).alloc (.cells nl.toArray 25) := ⟨_, rfl⟩
  rw [← hW] at HK0 HN0 HB0 ⊢
  clear hW
  refine wp_region_noPanic ?_
  refine region_tree (fun _ => True) (.take 1 (.take 3 (.one 0 (.one 2 (.one 4 (.take 5 .done)))))) (by kernel_rfl) (by kernel_rfl) (by kernel_rfl) (by decide) (fun _ _ _ _ h => h) trivial ?_
  refine tree_take (v := ?_) rfl (by rfl) (fun W' hS => ?_) ?_
  rotate_left
  · go_simp; with_reducible rfl
  try simp only [Act.put, List.getElem_toArray, List.getElem_cons_succ, List.getElem_cons_zero, List.setIfInBounds_toArray, List.set_cons_zero, List.set_cons_succ]
  refine tree_take (v := ?_) rfl (by rfl) (fun W' hS => ?_) ?_
  rotate_left
  · go_simp; with_reducible rfl
  try simp only [Act.put, List.getElem_toArray, List.getElem_cons_succ, List.getElem_cons_zero, List.setIfInBounds_toArray, List.set_cons_zero, List.set_cons_succ]
  refine tree_one rfl (fun K' hK => ?_)
  go_simp
  refine hK.out _ _ trivial fun _ => ?_
  clear hK
  try simp only [Act.put, List.getElem_toArray, List.getElem_cons_succ, List.getElem_cons_zero, List.setIfInBounds_toArray, List.set_cons_zero, List.set_cons_succ]
  have hNb := (Array.getElem?_eq_some_iff.1 HN0.out).1
  have hb1 : Below W.heap.size W (W.alloc (.cells #[] 5)).drew := Below.dr (Below.al (Below.refl _ _) _)
  have ho1 : (W.alloc (.cells #[] 5)).drew.ownsRow W.heap.size 5 1 (.slice (some ⟨W.heap.size, 0, none⟩) 0 0) 0 [] := own_nil W (Nat.le_refl _)
  have hrk1 : RowAt (W.alloc (.cells #[] 5)).drew (.slice (some ⟨w.heap.size, 0, none⟩) 32 32) 1 32 kl := (row_k HK0.out HKS.out).below hb1
  have hrn1 : RowAt (W.alloc (.cells #[] 5)).drew (.slice (some ⟨w.heap.size + 1, 0, none⟩) 12 12) 1 12 nl := (row_k HN0.out HNS.out).below hb1
  refine tree_append rfl rfl _ _ 28 rfl W.heap.size 5 i0 (.int .u8 0) 1 1 Tryd.underlying28 hi0 hz0 hz1 hz2 rfl (by decide) _ _ _ rfl ho1 _ _ _ rfl hrk1
    (HV8K.out) (by unfold maxLen; omega) (by omega) hb1.size ?_
  intro va wa hown hgrow
  have hb2 : Below W.heap.size W wa := hb1.grown hgrow hb1.size (fun k e => (ho1.lt k e).1)
  have hrn2 := row_far (own := some W.heap.size) hrn1 hgrow (by simp <;> omega) (fun k e => by cases e; omega)
  have ho2 := hown
  refine ⟨trivial, ?_⟩
  clear hown hgrow ho1 hrk1 hrn1
  try simp only [Act.put, List.getElem_toArray, List.getElem_cons_succ, List.getElem_cons_zero, List.setIfInBounds_toArray, List.set_cons_zero, List.set_cons_succ]
  refine tree_append rfl rfl _ _ 28 rfl W.heap.size 5 i0 (.int .u8 0) 1 1 Tryd.underlying28 hi0 hz0 hz1 hz2 rfl (by decide) _ _ _ rfl ho2 _ _ _ rfl hrn2
    (HV8N.out) (by unfold maxLen; omega) (by omega) hb2.size ?_
  intro vb wb hown hgrow
  obtain ⟨pb, cpb, rfl, -, -⟩ := own_form hown
  have hob : wb.ownsRow W.heap.size 5 1 (.slice pb 44 cpb) 44 (kl ++ nl) := by simpa using hown
  have HOB := Lib.hid hob
  clear hob
  have HBB := Lib.hid (hb2.grown hgrow hb2.size (fun k e => (ho2.lt k e).1))
  refine ⟨trivial, ?_⟩
  clear hown hgrow ho2 hrn2 hb1 hb2
  try simp only [Act.put, List.getElem_toArray, List.getElem_cons_succ, List.getElem_cons_zero, List.setIfInBounds_toArray, List.set_cons_zero, List.set_cons_succ]
  refine tree_take (v := ?_) rfl (by rfl) (fun W' hS => ?_) ?_
  rotate_left
  · go_simp; with_reducible rfl
  try simp only [Act.put, List.getElem_toArray, List.getElem_cons_succ, List.getElem_cons_zero, List.setIfInBounds_toArray, List.set_cons_zero, List.set_cons_succ]
  refine NoPanic.normal ?_
  go_upto_region 3 with fail
  have HO0 : Hid (wb.ownsRow W.heap.size 5 1 (.slice pb 44 cpb) 44 (kl ++ nl ++ (eightL hb.length 0).map v8)) := Lib.hid (by
    have h := HOB.out
    simp only [eightL, List.map_nil, List.append_nil]
    exact h)
  have HBW0 : Hid (Below W.heap.size W wb) := Lib.hid HBB.out
  have HWs : Hid (w.heap.size ≤ W.heap.size) := Lib.hid HB0.out.size
  clear HOB HBB
  go_loopw [9, 10] (fun vo ti wx => ∃ (k : Nat) (i : Int) (pk : Option Addr) (ck mk : Nat), k ≤ 8 ∧ ti = .int .i64 i ∧ i ≤ 7 ∧ -1 ≤ i ∧ vo = .slice pk mk ck ∧ Hid (i = 7 - (k : Int)) ∧ Hid (mk = 44 + k) ∧ Hid (wx.ownsRow W.heap.size 5 1 (.slice pk mk ck) mk (kl ++ nl ++ (eightL hb.length k).map v8)) ∧ Hid (Below W.heap.size W wx)) (fun _ ti _ => (intOf ti + 1).toNat)
  case atStart => exact ⟨0, 7, pb, cpb, 44, by omega, rfl, by omega, by omega, rfl, Lib.hid (by omega), Lib.hid (by omega), HO0, HBW0⟩
  case round =>
    obtain ⟨k, i, pk, ck, mk, hk8, rfl, hi7, hi1, rfl, HI, HMK, HOk, HBk⟩ := hrel
    have hmk : mk ≤ 100 := by have := HMK.out; omega
    by_cases hki : 0 ≤ i
    · have hd1 : decide (0 ≤ i) = true := by simp; omega
      go_wp2_with (at_builtin; refine wpList_append_row rfl _ _ 28 rfl W.heap.size 5 i0 (.int .u8 0) 1 1 Tryd.underlying28 hi0 hz0 hz1 hz2 rfl (by decide) _ _ _ rfl (HOk.out.alloc _) _ _ _ rfl (row_fresh wr _ 5 (0, 0) 1 (Nat.le_refl _)) (by simp [Value.oneCell']) (by unfold maxLen; simp; omega) (by simp; omega) (HBk.out.alloc HBk.out.size _).size ?_; intro v2 w3 hown hgrow; have hb3' := (HBk.out.alloc HBk.out.size _).grown hgrow (HBk.out.alloc HBk.out.size _).size (fun k e => (HOk.out.lt k e).1); obtain ⟨p3, c3, rfl, -, -⟩ := own_form hown)
      have he : (8 * i).toNat = 56 - 8 * k := by have := HI.out; omega
      have ho3 : w3.ownsRow W.heap.size 5 1 (.slice p3 (mk + 1) c3) (mk + 1) (kl ++ nl ++ (eightL hb.length (k + 1)).map v8) := by
        rw [eight_snoc, ← List.append_assoc]
        rw [he] at hown
        exact hown
      clear hown hgrow he
      go_roundw
      case rel =>
        refine ⟨_, _, _, _, _, _, _, _, _, _, _, _, _, _, _, _, ?_, rfl⟩
        exact ⟨k + 1, i - 1, p3, c3, mk + 1, by have := HI.out; omega, by go_num, by omega, by omega, rfl, Lib.hid (by have := HI.out; omega), Lib.hid (by have := HMK.out; omega), Lib.hid ho3, Lib.hid hb3'⟩
      case measure => simp [intOf]; omega
    · have hd1 : decide (0 ≤ i) = false := by simp; omega
      have hke : k = 8 := by have := HI.out; omega
      have hme : mk = 52 := by have := HMK.out; omega
      have hfin := HOk.out
      rw [hke] at hfin
      subst hme
      have HFIN := Lib.hid hfin
      clear hfin hke HOk hmk HMK HI
      go_upto_region 6 with fail
      refine wp_region_lit ?_
      refine wpList_value (v := ?_) rfl ?_ ?_
      rotate_left
      · go_simp; with_reducible rfl
      try simp only [Act.put, List.getElem_toArray, List.getElem_cons_succ, List.getElem_cons_zero, List.setIfInBounds_toArray, List.set_cons_zero, List.set_cons_succ]
      refine wpList_value (v := ?_) rfl ?_ ?_
      rotate_left
      · go_simp; with_reducible rfl
      try simp only [Act.put, List.getElem_toArray, List.getElem_cons_succ, List.getElem_cons_zero, List.setIfInBounds_toArray, List.set_cons_zero, List.set_cons_succ]
      refine wpList_append_row rfl _ _ 28 rfl W.heap.size 5 i0 (.int .u8 0) 1 1 Tryd.underlying28 hi0 hz0 hz1 hz2 rfl (by decide) _ _ _ rfl HFIN.out _ _ _ rfl (row_bytes HVH.out (HB0.out.trans (HBk.out.mono HB0.out.size))) (v8_one _) (by unfold maxLen; omega) (by omega) HBk.out.size ?_
      intro v5 w5 hown hgrow
      have HO5 := Lib.hid hown
      have HB5 := Lib.hid (HBk.out.grown hgrow HBk.out.size (fun k e => (HFIN.out.lt k e).1))
      clear hown hgrow
      try simp only [Act.put, List.getElem_toArray, List.getElem_cons_succ, List.getElem_cons_zero, List.setIfInBounds_toArray, List.set_cons_zero, List.set_cons_succ]
      refine wpList_value (v := ?_) rfl ?_ ?_
      rotate_left
      · go_simp; with_reducible rfl
      try simp only [Act.put, List.getElem_toArray, List.getElem_cons_succ, List.getElem_cons_zero, List.setIfInBounds_toArray, List.set_cons_zero, List.set_cons_succ]
      refine wpList_append_row rfl _ _ 28 rfl W.heap.size 5 i0 (.int .u8 0) 1 1 Tryd.underlying28 hi0 hz0 hz1 hz2 rfl (by decide) _ _ _ rfl HO5.out _ _ _ rfl (row_bytes HVC.out (HB0.out.trans (HB5.out.mono HB0.out.size))) (v8_one _) (by unfold maxLen; omega) (by omega) HB5.out.size ?_
      intro v6 w6 hown hgrow
      have HO6 := Lib.hid hown
      have HB6 := Lib.hid (HB5.out.grown hgrow HB5.out.size (fun k e => (HO5.out.lt k e).1))
      clear hown hgrow
      try simp only [Act.put, List.getElem_toArray, List.getElem_cons_succ, List.getElem_cons_zero, List.setIfInBounds_toArray, List.set_cons_zero, List.set_cons_succ]
      have hml := macL_length kb nb hb cb hk hn
      have hb6 : BytesAt w6 v6 (macL kb nb hb cb) := BytesAt.of_own (B := W.heap.size) (by
        have ho := HO6.out
        rw [HKL.out, HNL.out, ← List.map_append, ← List.map_append, ← List.map_append, ← List.map_append] at ho
        rw [hml]
        exact ho)
      refine wpList_callf rfl _ _ _ rfl Tryd.call36 _ (by simp only [List.map_toArray, List.map_cons, List.map_nil]; rfl) (rtagged_ok v6 _ (by omega) w6 hb6) ?_
      rintro e w7 ⟨rfl, hB7⟩
      refine ⟨_, rfl, ?_⟩
      have HB7 := Lib.hid (HB6.out.trans (hB7.mono HB6.out.size))
      have hs2 : ((taggedL tagL (macL kb nb hb cb)).map v8).toArray.size = 32 := by rw [List.size_toArray, List.length_map, taggedL_length]
      have ho2 : ((taggedL tagL (macL kb nb hb cb)).map v8).toArray.all (·.oneCell') = true := all_oneCell_toArray (v8_one _)
      obtain ⟨brr, hbrr⟩ : ∃ brr, brr = ((taggedL tagL (macL kb nb hb cb)).map v8).toArray := ⟨_, rfl⟩
      rw [← hbrr] at hs2 ho2 ⊢
      have HBR := Lib.hid hbrr
      clear hb6 hB7 HO6 HO5 hbrr hml
      try simp only [Act.put, List.getElem_toArray, List.getElem_cons_succ, List.getElem_cons_zero, List.setIfInBounds_toArray, List.set_cons_zero, List.set_cons_succ]
      refine wpList_plain rfl fun _ hK => wp_alloc_as 41 rfl Z HAL.out (hK _ _ ?_)
      try simp only [Act.put, List.getElem_toArray, List.getElem_cons_succ, List.getElem_cons_zero, List.setIfInBounds_toArray, List.set_cons_zero, List.set_cons_succ]
      refine wpList_plain rfl fun _ hK => wp_store_row 41 _ _ rfl w7.heap.size brr rfl rfl 41 Z (World.alloc_heap_new w7 _) (by rw [hs2]; rfl) (by rw [HZS.out, hs2]) ho2 (hK _ _ ?_)
      try simp only [Act.put, List.getElem_toArray, List.getElem_cons_succ, List.getElem_cons_zero, List.setIfInBounds_toArray, List.set_cons_zero, List.set_cons_succ]
      have hR8 : ((w7.alloc (.cells Z 41)).setRow w7.heap.size brr).heap[w7.heap.size]? = some (.cells brr 41 (0, 0)) := setRow_heap _ _ _ _ _ _ (World.alloc_heap_new w7 (.cells Z 41))
      obtain ⟨w8, hw8⟩ : ∃ w8, w8 = (w7.alloc (.cells Z 41)).setRow w7.heap.size brr := ⟨_, rfl⟩
      have hB8 : Below w7.heap.size w7 w8 := by rw [hw8]; exact Below.setRow (Below.al (Below.refl _ _) _) (Nat.le_refl _) _
      rw [← hw8] at hR8 ⊢
      rw [HBR.out] at hR8
      have hrow := row_take (row_k (n := 32) hR8 (by rw [List.length_map, taggedL_length])) (show 16 ≤ 32 by decide) (by decide)
      have h8 := HB7.out.trans (hB8.mono HB7.out.size)
      have hT8 := HB0.out.trans (h8.mono HB0.out.size)
      have HR8 := Lib.hid (hrow.below (Below.al (Below.refl _ w8) (.cells #[] 5)))
      have HT8 := Lib.hid hT8
      have HO8 := Lib.hid (own_nil w8 hT8.size)
      clear hR8 hrow h8 hB8 hw8 HB7
      have hu41 := Tryd.underlying41
      go_wp2_with (at_builtin; refine wpList_append_row rfl _ _ 28 rfl w.heap.size 5 i0 (.int .u8 0) 1 1 Tryd.underlying28 hi0 hz0 hz1 hz2 rfl (by decide) _ _ _ rfl (show (w8.alloc (.cells #[] 5)).ownsRow w.heap.size 5 1 _ _ [] from HO8.out) _ _ _ rfl HR8.out (fun u hu => v8_one _ u (List.mem_of_mem_take hu)) (by unfold maxLen; omega) (by omega) (Below.al HT8.out _).size ?_; intro v9 w9 hown hgrow; have hb9 := (Below.al HT8.out (.cells #[] 5)).grown hgrow (Below.al HT8.out _).size (fun k e => (World.ownsRow.lt HO8.out k e).1); have HO9 := Lib.hid hown; clear hown hgrow)
      go_ret
      refine ⟨_, rfl, ?_, hb9⟩
      have h := HO9.out
      rw [List.nil_append, ← List.map_take, Nat.zero_add] at h
      exact h
end Go.Proofs.YtklaancgnfkjlaaDoor
