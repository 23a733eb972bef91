/- The reference cipher: Seal. -/
import Derived.Test.YtklaancgnfkjlaaDoorGh
namespace Go.Proofs.YtklaancgnfkjlaaDoor
open Go.RowKit
set_option maxRecDepth 100000
set_option maxHeartbeats 2000000
set_option linter.unusedVariables false
set_option linter.unusedSimpArgs false

theorem rtag_at (kb nb hb cb : List (BitVec 8)) (vh vc : Value) (w : World) (hk : kb.length = 32) (hn : nb.length = 12) (hhl : hb.length ≤ 70000) (hcl : cb.length ≤ 70000) (hvh : BytesAt w vh hb) (hvc : BytesAt w vc cb) :
    Calls Tryd.prog 26 #[.agg (kb.map v8).toArray, .agg (nb.map v8).toArray, vh, vc] w fun e w' => ∃ u, e = .returned u ∧ BytesAt w' u (tag16 kb nb hb cb) ∧ Below w.heap.size w w' := by
  refine (rtag_ok kb nb hb cb vh vc w hk hn hhl hcl hvh hvc).mono ?_
  rintro e w' ⟨u, rfl, hown, hB⟩
  exact ⟨u, rfl, BytesAt.of_own (B := w.heap.size) (by rw [tag16_length]; exact hown), hB⟩
theorem rseal_ok (kb nb hb l : List (BitVec 8)) (vh v : Value) (w : World) (hk : kb.length = 32) (hn : nb.length = 12) (hhl : hb.length ≤ 70000) (hl : l.length ≤ 65536) (hvh : BytesAt w vh hb) (hv : BytesAt w v l) :
    Calls Tryd.prog 17 #[.agg (kb.map v8).toArray, .agg (nb.map v8).toArray, vh, v] w fun e w' =>
      ∃ u, e = .returned (.tuple #[u, .int .i64 0]) ∧ w'.ownsRow w.heap.size 5 1 u (l.length + 16) ((sealL kb nb hb l).map v8) ∧ Below w.heap.size w w' := by
  have hks : (kb.map v8).toArray.size = 32 := by simp [hk]
  have hns : (nb.map v8).toArray.size = 12 := by simp [hn]
  have hF := fun v w h => rstream_ok kb nb l v w hk hn hl h
  have hG := fun vc w h1 h2 => rtag_at kb nb hb (streamL kb nb l) vh vc w hk hn hhl (by rw [streamL_length]; omega) h1 h2
  generalize hkc : (kb.map v8).toArray = kc at hks hF hG ⊢
  generalize hnc : (nb.map v8).toArray = nc at hns hF hG ⊢
  have hB : Below w.heap.size w ((w.alloc (.cells kc 23)).alloc (.cells nc 25)) :=
    ⟨rfl, rfl, rfl, by simp; omega, fun k hk => by rw [Below.heap_alloc _ _ _ (by simp; omega), Below.heap_alloc _ _ _ hk]⟩
  have HB := Lib.hid hB
  have HF := Lib.hid hF
  have HG := Lib.hid hG
  have HV := Lib.hid (hv.below hB)
  have HVH := Lib.hid hvh
  have HKS := Lib.hid hks
  have HNS := Lib.hid hns
  clear hF hG hkc hnc hks hns hB hv hvh
  go_enter Tryd.func17, Tryd.ntmps17
  go_upto_region 1 with fail
  refine wp_region_lit ?_
  refine wpList_load_row rfl 23 _ rfl w.heap.size rfl 23 kc (0, 0) _ ((Below.heap_alloc _ _ _ (by simp)).trans (World.alloc_heap_new w _)) Tryd.underlying23 rfl (by rw [HKS.out]; rfl) ?_
  refine wpList_load_row rfl 25 _ rfl (w.heap.size + 1) rfl 25 nc (0, 0) _ (alloc_new2 w _ _) Tryd.underlying25 rfl (by rw [HNS.out]; rfl) ?_
  go_wp2_with fail
  refine (HF.out v _ HV.out).mono ?_
  rintro e w1 ⟨u, rfl, hown, hB1⟩
  obtain ⟨pu, cu, rfl, hcu, -⟩ := own_form hown
  have hl' : l.length = (streamL kb nb l).length := (streamL_length _ _ _).symm
  have hown' : w1.ownsRow (w.heap.size + 2) 5 1 (.slice pu l.length cu) (streamL kb nb l).length ((streamL kb nb l).map v8) := by
    rw [← hl']
    have hbo : ((w.alloc (.cells kc 23)).alloc (.cells nc 25)).heap.size = w.heap.size + 2 := by simp
    rw [hbo] at hown
    exact hown
  have hbs : BytesAt w1 (.slice pu l.length cu) (streamL kb nb l) := BytesAt.of_own hown'
  have hlt : ∀ j, (Value.slice pu l.length cu).ownBlock = some j → j < w1.heap.size := fun j hj => (hown.lt j hj).2
  have hk1 : w1.heap[w.heap.size]? = some (.cells kc 23 (0, 0)) := (hB1.block _ (by simp; omega)).trans ((Below.heap_alloc _ _ _ (by simp)).trans (World.alloc_heap_new w _))
  have hn1 : w1.heap[w.heap.size + 1]? = some (.cells nc 25 (0, 0)) := (hB1.block _ (by simp)).trans (alloc_new2 w _ _)
  have HOWN := Lib.hid hown'
  have HBS := Lib.hid hbs
  have HLT := Lib.hid hlt
  have HK1 := Lib.hid hk1
  have HN1 := Lib.hid hn1
  have HB1 := Lib.hid (HB.out.trans (hB1.mono HB.out.size))
  have HLL := Lib.hid hl'
  clear hown hown' hbs hlt hk1 hn1 hB1 hl'
  go_upto_region 4 with fail
  refine wp_region_lit ?_
  refine wpList_step (fun K hK => ?_)
  go_simp
  refine hK _ _ ?_
  clear hK K
  refine wpList_load_row rfl 23 _ rfl w.heap.size rfl 23 kc (0, 0) _ HK1.out Tryd.underlying23 rfl (by rw [HKS.out]; rfl) ?_
  refine wpList_load_row rfl 25 _ rfl (w.heap.size + 1) rfl 25 nc (0, 0) _ HN1.out Tryd.underlying25 rfl (by rw [HNS.out]; rfl) ?_
  go_wp2_with fail
  refine (HG.out _ _ (HVH.out.below HB1.out) HBS.out).mono ?_
  rintro e w2 ⟨vt, rfl, hbt, hB2⟩
  have hown2 := own_below HOWN.out hB2 (fun j hj => HLT.out j hj)
  rw [← HLL.out] at hown2
  have hsz2 : w.heap.size + 2 ≤ w2.heap.size := by
    have h1 := HB1.out.size
    have h2 := hB2.size
    have h3 := (Array.getElem?_eq_some_iff.1 HN1.out).1
    omega
  have HBT := Lib.hid hbt
  have HOW2 := Lib.hid hown2
  have HB2 := Lib.hid (HB1.out.trans (hB2.mono HB1.out.size))
  clear hbt hown2 hB2
  go_wp2_with (at_builtin; refine wpList_append_bytes rfl _ _ rfl (w.heap.size + 2) _ _ _ rfl HOW2.out _ (tag16 kb nb hb (streamL kb nb l)) rfl HBT.out (by rw [tag16_length]; omega) hsz2 ?_; intro v' w4 hown' hgrow)
  go_ret2
  refine ⟨v', rfl, ?_, HB2.out.grown hgrow (by omega) (fun k e => Nat.le_trans (by omega) (HOW2.out.lt k e).1)⟩
  rw [tag16_length, ← List.map_append] at hown'
  exact own_lower hown' (by omega)
end Go.Proofs.YtklaancgnfkjlaaDoor
