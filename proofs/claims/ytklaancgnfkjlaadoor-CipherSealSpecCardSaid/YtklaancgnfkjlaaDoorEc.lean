/- cipher: Seal. -/
import Derived.Test.YtklaancgnfkjlaaDoorEb
namespace Go.Proofs.YtklaancgnfkjlaaDoor
open Go.RowKit
set_option maxRecDepth 100000
set_option maxHeartbeats 1000000
set_option linter.unusedVariables false
set_option linter.unusedSimpArgs false

/-- What is sealed. -/
def sealL (kb nb hb l : List (BitVec 8)) : List (BitVec 8) := streamL kb nb l ++ tag16 kb nb hb (streamL kb nb l)
theorem sealL_length (kb nb hb l) : (sealL kb nb hb l).length = l.length + 16 := by simp [sealL, streamL_length, tag16_length]
/-- The tables of the digest and the cipher. -/
structure Tabs (w : World) : Prop where
  num : NumTab w
  start : StartTab w
  const : ConstTab w
theorem Tabs.below {w w' : World} (h : Tabs w) (hb : Below w.heap.size w w') : Tabs w' :=
  ⟨h.num.below hb (Nat.le_refl _), h.start.below hb (Nat.le_refl _), (Lib.tabBelow_of_tabIs h.const) _ hb⟩

theorem seal_bad (kc nc : Array Value) (hks : kc.size = 32) (hns : nc.size = 12) (vh : Value) (p : Option Addr) (n c : Nat) (hn : 65536 < n) (w : World) :
    Calls Tryd.prog 16 #[.agg kc, .agg nc, vh, .slice p n c] w fun e w' => e = .returned (.tuple #[.slice none 0 0, .int .i64 60]) ∧ Below w.heap.size w w' := by
  have hB : Below w.heap.size w ((w.alloc (.cells kc 23)).alloc (.cells nc 25)) :=
    ⟨rfl, rfl, rfl, by simp; omega, fun k hk => by rw [Below.heap_alloc _ _ _ (by simp; omega), Below.heap_alloc _ _ _ hk]⟩
  have HB := Lib.hid hB
  have HKS := Lib.hid hks
  have HNS := Lib.hid hns
  clear hB hks hns
  go_enter Tryd.func16, Tryd.ntmps16
  go_upto_region 1 with fail
  refine wp_region_lit ?_
  refine wpList_load_row rfl 23 _ rfl w.heap.size rfl 23 kc (0, 0) _ ((Below.heap_alloc _ _ _ (by simp)).trans (World.alloc_heap_new w _)) Tryd.underlying23 rfl (by rw [HKS.out]; rfl) ?_
  refine wpList_load_row rfl 25 _ rfl (w.heap.size + 1) rfl 25 nc (0, 0) _ (alloc_new2 w _ _) Tryd.underlying25 rfl (by rw [HNS.out]; rfl) ?_
  go_wp2_with fail
  refine (stream_bad kc nc p n c hn _).mono ?_
  rintro e w1 ⟨rfl, hB1⟩
  have HB1 := Lib.hid (HB.out.trans (hB1.mono HB.out.size))
  clear hB1
  go_wp2
  go_ret2
  exact ⟨rfl, HB1.out⟩

theorem seal_ok (kb nb hb l : List (BitVec 8)) (vh v : Value) (w : World) (hk : kb.length = 32) (hn : nb.length = 12) (hhl : hb.length ≤ 70000) (hl : l.length ≤ 65536) (hvh : BytesAt w vh hb) (hv : BytesAt w v l) (hT : Tabs w) :
    Calls Tryd.prog 16 #[.agg (kb.map v8).toArray, .agg (nb.map v8).toArray, vh, v] w fun e w' =>
      ∃ u, e = .returned (.tuple #[u, .int .i64 0]) ∧ w'.ownsRow w.heap.size 5 1 u (l.length + 16) ((sealL kb nb hb l).map v8) ∧ Below w.heap.size w w' := by
  have hks : (kb.map v8).toArray.size = 32 := by simp [hk]
  have hns : (nb.map v8).toArray.size = 12 := by simp [hn]
  have hF := fun v w h h2 => stream_ok kb nb l v w hk hn hl h h2
  have hG := fun vc w h1 h2 h3 h4 => tag_ok kb nb hb (streamL kb nb l) vh vc w hk hn hhl (by rw [streamL_length]; omega) h1 h2 h3 h4
  generalize hkc : (kb.map v8).toArray = kc at hks hF hG ⊢
  generalize hnc : (nb.map v8).toArray = nc at hns hF hG ⊢
  have hB : Below w.heap.size w ((w.alloc (.cells kc 23)).alloc (.cells nc 25)) :=
    ⟨rfl, rfl, rfl, by simp; omega, fun k hk => by rw [Below.heap_alloc _ _ _ (by simp; omega), Below.heap_alloc _ _ _ hk]⟩
  have HB := Lib.hid hB
  have HF := Lib.hid hF
  have HG := Lib.hid hG
  have HV := Lib.hid (hv.below hB)
  have HVH := Lib.hid hvh
  have HT := Lib.hid hT
  have HKS := Lib.hid hks
  have HNS := Lib.hid hns
  clear hF hG hT hkc hnc hks hns hB hv hvh
  go_enter Tryd.func16, Tryd.ntmps16
  go_upto_region 1 with fail
  refine wp_region_lit ?_
  refine wpList_load_row rfl 23 _ rfl w.heap.size rfl 23 kc (0, 0) _ ((Below.heap_alloc _ _ _ (by simp)).trans (World.alloc_heap_new w _)) Tryd.underlying23 rfl (by rw [HKS.out]; rfl) ?_
  refine wpList_load_row rfl 25 _ rfl (w.heap.size + 1) rfl 25 nc (0, 0) _ (alloc_new2 w _ _) Tryd.underlying25 rfl (by rw [HNS.out]; rfl) ?_
  go_wp2_with fail
  refine (HF.out v _ HV.out (HT.out.below HB.out).const).mono ?_
  rintro e w1 ⟨u, rfl, hown, hB1⟩
  obtain ⟨pu, cu, rfl, hcu, -⟩ := own_form hown
  have hl' : l.length = (streamL kb nb l).length := (streamL_length _ _ _).symm
  have hown' : w1.ownsRow (w.heap.size + 2) 5 1 (.slice pu l.length cu) (streamL kb nb l).length ((streamL kb nb l).map v8) := by
    rw [← hl']
    have hbo : ((w.alloc (.cells kc 23)).alloc (.cells nc 25)).heap.size = w.heap.size + 2 := by simp
    rw [hbo] at hown
    exact hown
  have hbs : BytesAt w1 (.slice pu l.length cu) (streamL kb nb l) := BytesAt.of_own hown'
  have hlt : ∀ j, (Value.slice pu l.length cu).ownBlock = some j → j < w1.heap.size := fun j hj => (hown.lt j hj).2
  have hk1 : w1.heap[w.heap.size]? = some (.cells kc 23 (0, 0)) := (hB1.block _ (by simp; omega)).trans ((Below.heap_alloc _ _ _ (by simp)).trans (World.alloc_heap_new w _))
  have hn1 : w1.heap[w.heap.size + 1]? = some (.cells nc 25 (0, 0)) := (hB1.block _ (by simp)).trans (alloc_new2 w _ _)
  have HOWN := Lib.hid hown'
  have HBS := Lib.hid hbs
  have HLT := Lib.hid hlt
  have HK1 := Lib.hid hk1
  have HN1 := Lib.hid hn1
  have HB1 := Lib.hid (HB.out.trans (hB1.mono HB.out.size))
  have HLL := Lib.hid hl'
  clear hown hown' hbs hlt hk1 hn1 hB1 hl'
  go_upto_region 4 with fail
  refine wp_region_lit ?_
  refine wpList_step (fun K hK => ?_)
  go_simp
  refine hK _ _ ?_
  clear hK K
  refine wpList_load_row rfl 23 _ rfl w.heap.size rfl 23 kc (0, 0) _ HK1.out Tryd.underlying23 rfl (by rw [HKS.out]; rfl) ?_
  refine wpList_load_row rfl 25 _ rfl (w.heap.size + 1) rfl 25 nc (0, 0) _ HN1.out Tryd.underlying25 rfl (by rw [HNS.out]; rfl) ?_
  go_wp2_with fail
  refine (HG.out _ _ (HVH.out.below HB1.out) HBS.out (HT.out.below HB1.out).num (HT.out.below HB1.out).start).mono ?_
  rintro e w2 ⟨vt, rfl, hbt, hB2⟩
  have hown2 := own_below HOWN.out hB2 (fun j hj => HLT.out j hj)
  rw [← HLL.out] at hown2
  have hsz2 : w.heap.size + 2 ≤ w2.heap.size := by
    have h1 := HB1.out.size
    have h2 := hB2.size
    have h3 := (Array.getElem?_eq_some_iff.1 HN1.out).1
    omega
  have HBT := Lib.hid hbt
  have HOW2 := Lib.hid hown2
  have HB2 := Lib.hid (HB1.out.trans (hB2.mono HB1.out.size))
  clear hbt hown2 hB2
  go_wp2_with (at_builtin; refine wpList_append_bytes rfl _ _ rfl (w.heap.size + 2) _ _ _ rfl HOW2.out _ (tag16 kb nb hb (streamL kb nb l)) rfl HBT.out (by rw [tag16_length]; omega) hsz2 ?_; intro v' w4 hown' hgrow)
  go_ret2
  refine ⟨v', rfl, ?_, HB2.out.grown hgrow (by omega) (fun k e => Nat.le_trans (by omega) (HOW2.out.lt k e).1)⟩
  rw [tag16_length, ← List.map_append] at hown'
  exact own_lower hown' (by omega)
end Go.Proofs.YtklaancgnfkjlaaDoor
