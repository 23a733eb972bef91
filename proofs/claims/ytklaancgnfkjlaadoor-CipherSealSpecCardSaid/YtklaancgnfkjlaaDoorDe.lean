/- digest: Tagged. -/
import Derived.Test.YtklaancgnfkjlaaDoorDd
import Derived.Test.YtklaancgnfkjlaaDoorCi
import Derived.Lib.ConvBytes
namespace Go.Proofs.YtklaancgnfkjlaaDoor
open Go.RowKit
set_option maxRecDepth 100000
set_option maxHeartbeats 1000000
set_option linter.unusedVariables false
set_option linter.unusedSimpArgs false

theorem info41 : (Tryd.prog.info? 41).map (·.size) = some 32 := by kernel_rfl
theorem store_new41 (w : World) (c c' : Array Value) (hc : c.size = 32) (hc' : c'.size = 32) (h1 : c'.all (·.oneCell') = true) :
    (storeCells ⟨w.heap.size, 0, none⟩ c'.toList 0).run Tryd.prog (w.alloc (.cells c 41)) = .ok () (w.alloc (.cells c' 41)) :=
  run_storeCells_new w _ c c' (by rw [info41, hc']) (by rw [hc, hc']) h1
/-- The hash under a tag. -/
def tagL : List (BitVec 8) := [116, 97, 103]
def taggedL (t l : List (BitVec 8)) : List (BitVec 8) := sumL (sumL t ++ l)
theorem taggedL_length (t l) : (taggedL t l).length = 32 := sumL_length _
theorem Arr8.lt' {W : World} {g : Nat} {t : TypeId} {v : List (BitVec 8)} (h : Arr8 W g t v) : g < W.heap.size := (Array.getElem?_eq_some_iff.1 h).1
theorem NumTab.lt {w : World} (h : NumTab w) : 2 < w.heap.size := cell_lt (h.cell 0 (by decide))
theorem StartTab.below {w w' : World} {B : Nat} (h : StartTab w) (hb : Below B w w') (hB : w.heap.size ≤ B) : StartTab w' := (Lib.tabBelow_of_tabIs h) _ (hb.mono hB)

def tagS : ByteArray := ⟨#[116, 97, 103]⟩
/-- The world behind '[]byte(tag)'. -/
def tagW (w : World) : World := Lib.bytesWorld w 5 tagS
def tagC (w : World) : Nat := grownCap w 3 0 5
theorem tag_conv (w : World) : (convert 9 28 (.string ⟨#[116, 97, 103]⟩)).run Tryd.prog w = .ok (.slice (some ⟨w.heap.size, 0, none⟩) 3 (tagC w)) (tagW w) :=
  Lib.run_convert_string_bytes (P := Tryd.prog) w 9 28 5 tagS Tryd.underlying9 Tryd.underlying28 Tryd.underlying5
theorem tag_bytes (w : World) : BytesAt (tagW w) (.slice (some ⟨w.heap.size, 0, none⟩) 3 (tagC w)) tagL := by
  refine ⟨_, _, rfl, grownCap_ge w 3 0 5, fun h => (by cases h), fun _ => ⟨w.heap.size, 0, rfl, fun j hj => ?_⟩⟩
  have h := Lib.bytesWorld_cell w 5 tagS j hj
  rw [Nat.zero_add]
  refine h.trans ?_
  match j, hj with
  | 0, _ => rfl
  | 1, _ => rfl
  | 2, _ => rfl
theorem tag_below (w : World) (B : Nat) (hB : B ≤ w.heap.size) : Below B w (tagW w) := by
  refine ⟨rfl, rfl, rfl, ?_, fun k hk => Lib.bytesWorld_at_old w 5 tagS k (by omega)⟩
  have := Lib.bytesWorld_size w 5 tagS
  unfold tagW; omega

theorem tagged_ok (v : Value) (l : List (BitVec 8)) (hl : l.length ≤ 900000) (w : World) (hv : BytesAt w v l) (hN : NumTab w) (hS : StartTab w) :
    Calls Tryd.prog 20 #[.string ⟨#[116, 97, 103]⟩, v] w fun e w' => e = .returned (.agg ((taggedL tagL l).map v8).toArray) ∧ Below w.heap.size w w' := by
  have kc := tag_conv
  have HV := Lib.hid hv
  obtain ⟨pv, cv, rfl, -, -, -⟩ := hv
  have HN := Lib.hid hN
  have HS := Lib.hid hS
  clear hN hS
  go_enter Tryd.func20, Tryd.ntmps20
  go_wp2_with fail
  have hB1 : Below w.heap.size w (w.alloc (.cells #[Value.int IntKind.u8 0, Value.int IntKind.u8 0, Value.int IntKind.u8 0, Value.int IntKind.u8 0, Value.int IntKind.u8 0, Value.int IntKind.u8 0, Value.int IntKind.u8 0, Value.int IntKind.u8 0, Value.int IntKind.u8 0, Value.int IntKind.u8 0, Value.int IntKind.u8 0, Value.int IntKind.u8 0, Value.int IntKind.u8 0, Value.int IntKind.u8 0, Value.int IntKind.u8 0, Value.int IntKind.u8 0, Value.int IntKind.u8 0, Value.int IntKind.u8 0, Value.int IntKind.u8 0, Value.int IntKind.u8 0, Value.int IntKind.u8 0, Value.int IntKind.u8 0, Value.int IntKind.u8 0, Value.int IntKind.u8 0, Value.int IntKind.u8 0, Value.int IntKind.u8 0, Value.int IntKind.u8 0, Value.int IntKind.u8 0, Value.int IntKind.u8 0, Value.int IntKind.u8 0, Value.int IntKind.u8 0, Value.int IntKind.u8 0] 41)) := (Below.refl _ w).alloc (Nat.le_refl _) _
  have hD1 : Arr8 (w.alloc (.cells #[Value.int IntKind.u8 0, Value.int IntKind.u8 0, Value.int IntKind.u8 0, Value.int IntKind.u8 0, Value.int IntKind.u8 0, Value.int IntKind.u8 0, Value.int IntKind.u8 0, Value.int IntKind.u8 0, Value.int IntKind.u8 0, Value.int IntKind.u8 0, Value.int IntKind.u8 0, Value.int IntKind.u8 0, Value.int IntKind.u8 0, Value.int IntKind.u8 0, Value.int IntKind.u8 0, Value.int IntKind.u8 0, Value.int IntKind.u8 0, Value.int IntKind.u8 0, Value.int IntKind.u8 0, Value.int IntKind.u8 0, Value.int IntKind.u8 0, Value.int IntKind.u8 0, Value.int IntKind.u8 0, Value.int IntKind.u8 0, Value.int IntKind.u8 0, Value.int IntKind.u8 0, Value.int IntKind.u8 0, Value.int IntKind.u8 0, Value.int IntKind.u8 0, Value.int IntKind.u8 0, Value.int IntKind.u8 0, Value.int IntKind.u8 0] 41)) w.heap.size 41 (outL [] 0) := World.alloc_heap_new w _
  have hz1 : (w.alloc (.cells #[Value.int IntKind.u8 0, Value.int IntKind.u8 0, Value.int IntKind.u8 0, Value.int IntKind.u8 0, Value.int IntKind.u8 0, Value.int IntKind.u8 0, Value.int IntKind.u8 0, Value.int IntKind.u8 0, Value.int IntKind.u8 0, Value.int IntKind.u8 0, Value.int IntKind.u8 0, Value.int IntKind.u8 0, Value.int IntKind.u8 0, Value.int IntKind.u8 0, Value.int IntKind.u8 0, Value.int IntKind.u8 0, Value.int IntKind.u8 0, Value.int IntKind.u8 0, Value.int IntKind.u8 0, Value.int IntKind.u8 0, Value.int IntKind.u8 0, Value.int IntKind.u8 0, Value.int IntKind.u8 0, Value.int IntKind.u8 0, Value.int IntKind.u8 0, Value.int IntKind.u8 0, Value.int IntKind.u8 0, Value.int IntKind.u8 0, Value.int IntKind.u8 0, Value.int IntKind.u8 0, Value.int IntKind.u8 0, Value.int IntKind.u8 0] 41)).heap.size = w.heap.size + 1 := by simp
  obtain ⟨W1, hW1⟩ : ∃ W, W = w.alloc (.cells #[Value.int IntKind.u8 0, Value.int IntKind.u8 0, Value.int IntKind.u8 0, Value.int IntKind.u8 0, Value.int IntKind.u8 0, Value.int IntKind.u8 0, Value.int IntKind.u8 0, Value.int IntKind.u8 0, Value.int IntKind.u8 0, Value.int IntKind.u8 0, Value.int IntKind.u8 0, Value.int IntKind.u8 0, Value.int IntKind.u8 0, Value.int IntKind.u8 0, Value.int IntKind.u8 0, Value.int IntKind.u8 0, Value.int IntKind.u8 0, Value.int IntKind.u8 0, Value.int IntKind.u8 0, Value.int IntKind.u8 0, Value.int IntKind.u8 0, Value.int IntKind.u8 0, Value.int IntKind.u8 0, Value.int IntKind.u8 0, Value.int IntKind.u8 0, Value.int IntKind.u8 0, Value.int IntKind.u8 0, Value.int IntKind.u8 0, Value.int IntKind.u8 0, Value.int IntKind.u8 0, Value.int IntKind.u8 0, Value.int IntKind.u8 0] 41) := ⟨_, rfl⟩
  rw [← hW1] at hB1 hD1 hz1 ⊢
  have hbt := tag_bytes W1
  have hB2 : Below w.heap.size w (tagW W1) := hB1.trans (tag_below W1 _ (by omega))
  have hD2 : Arr8 (tagW W1) w.heap.size 41 (outL [] 0) := hD1.below (tag_below W1 _ (Nat.le_refl _)) (by omega)
  rw [hz1] at hbt
  obtain ⟨C, hC⟩ : ∃ C, C = tagC W1 := ⟨_, rfl⟩
  rw [← hC] at hbt ⊢
  obtain ⟨W2, hW2⟩ : ∃ W, W = tagW W1 := ⟨_, rfl⟩
  rw [← hW2] at hbt hB2 hD2 ⊢
  have HB2 := Lib.hid hB2
  have HD2 := Lib.hid hD2
  clear hB1 hD1 hz1 hW1 hC hW2 hB2 hD2 kc
  refine (sum_ok _ tagL (by decide) _ hbt (HN.out.below HB2.out (Nat.le_refl _)) (HS.out.below HB2.out (Nat.le_refl _))).mono ?_
  rintro e w' ⟨rfl, hB3⟩
  have hD3 : Arr8 w' w.heap.size 41 (outL [] 0) := HD2.out.below hB3 HD2.out.lt'
  have HD3 := Lib.hid hD3
  have HB3 := Lib.hid (HB2.out.trans (hB3.mono HB2.out.size))
  have hsv : ((sumL tagL).map v8).toArray.size = 32 := by rw [List.size_toArray, List.length_map, sumL_length]
  have hsa : ((sumL tagL).map v8).toArray.all (·.oneCell') = true := by
    rw [Array.all_eq_true_iff_forall_mem]
    intro u hu
    exact v8_all _ u (by simpa using hu)
  have htl : taggedL tagL l = sumL (sumL tagL ++ l) := rfl
  have hTL := sumL_length tagL
  generalize sumL tagL = T at hsv hsa htl hTL ⊢
  have HTL := Lib.hid hTL
  have HTG := Lib.hid htl
  generalize hq : (T.map v8).toArray = arr at hsv hsa ⊢
  have HQ := Lib.hid hq
  have HSA := Lib.hid hsa
  clear hq hsa hB3 hD3 hbt htl hTL
  have hst := store_new41 w' #[Value.int IntKind.u8 0, Value.int IntKind.u8 0, Value.int IntKind.u8 0, Value.int IntKind.u8 0, Value.int IntKind.u8 0, Value.int IntKind.u8 0, Value.int IntKind.u8 0, Value.int IntKind.u8 0, Value.int IntKind.u8 0, Value.int IntKind.u8 0, Value.int IntKind.u8 0, Value.int IntKind.u8 0, Value.int IntKind.u8 0, Value.int IntKind.u8 0, Value.int IntKind.u8 0, Value.int IntKind.u8 0, Value.int IntKind.u8 0, Value.int IntKind.u8 0, Value.int IntKind.u8 0, Value.int IntKind.u8 0, Value.int IntKind.u8 0, Value.int IntKind.u8 0, Value.int IntKind.u8 0, Value.int IntKind.u8 0, Value.int IntKind.u8 0, Value.int IntKind.u8 0, Value.int IntKind.u8 0, Value.int IntKind.u8 0, Value.int IntKind.u8 0, Value.int IntKind.u8 0, Value.int IntKind.u8 0, Value.int IntKind.u8 0] arr rfl hsv HSA.out
  clear HD2 HB2
  go_upto_region 2 with fail
  clear hst
  have hA4 : Arr8 (w'.alloc (.cells arr 41)) w'.heap.size 41 T := by
    show _ = some (Obj.cells (T.map v8).toArray 41 (0, 0))
    rw [HQ.out]; exact World.alloc_heap_new w' _
  have hB4 : Below w.heap.size w (w'.alloc (.cells arr 41)) := HB3.out.alloc HB3.out.size _
  have hD4 : Arr8 (w'.alloc (.cells arr 41)) w.heap.size 41 (outL [] 0) := (Below.heap_alloc _ _ _ HD3.out.lt').trans HD3.out
  have hTD : w.heap.size ≠ w'.heap.size := by have := HD3.out.lt'; omega
  obtain ⟨G, hG⟩ : ∃ G, G = w'.heap.size := ⟨_, rfl⟩
  rw [← hG] at hA4 hTD ⊢
  obtain ⟨W4, hW4⟩ : ∃ W, W = w'.alloc (.cells arr 41) := ⟨_, rfl⟩
  rw [← hW4] at hA4 hB4 hD4 ⊢
  have HA4 := Lib.hid hA4
  have HB4 := Lib.hid hB4
  have HD4 := Lib.hid hD4
  clear hA4 hB4 hD4 hW4 hG HB3 HD3 HQ HSA hsv
  have hbT : BytesAt W4 (.slice (some ⟨G, 0, none⟩) 32 32) T := by
    refine ⟨_, 32, by rw [HTL.out], by rw [HTL.out]; exact Nat.le_refl _, fun h => (by cases h), fun _ => ⟨G, 0, rfl, fun j hj => ?_⟩⟩
    rw [Nat.zero_add]; exact HA4.out.cell hj
  have hbV : BytesAt W4 (.slice pv l.length cv) l := HV.out.below HB4.out
  have HBT := Lib.hid hbT
  have HBV := Lib.hid hbV
  clear hbT hbV
  go_wp2_with fail
  have hB5 : Below W4.heap.size W4 (W4.alloc (.cells #[.slice (some ⟨G, 0, none⟩) 32 32, .slice pv l.length cv] 28)) := (Below.refl _ _).alloc (Nat.le_refl _) _
  have HB5 := Lib.hid hB5
  clear hB5
  refine (concat_ok W4.heap.size 2 28 [.slice (some ⟨G, 0, none⟩) 32 32, .slice pv l.length cv] [T, l] rfl rfl (by have := HTL.out; simp; omega) _ (World.alloc_heap_new W4 _) ?_ (by decide)).mono ?_
  · intro i hi
    match i, hi with
    | 0, _ => exact HBT.out.below HB5.out
    | 1, _ => exact HBV.out.below HB5.out
  rintro e w6 ⟨v6, rfl, hown, hB6⟩
  have hfl : [T, l].flatten = T ++ l := by simp
  rw [hfl] at hown
  have hB46 : Below W4.heap.size W4 w6 := HB5.out.trans (hB6.mono (by simp))
  have hb6 : BytesAt w6 v6 (T ++ l) := BytesAt.of_own hown
  have hBw : Below w.heap.size w w6 := HB4.out.trans (hB46.mono HB4.out.size)
  have HBW := Lib.hid hBw
  have HB46 := Lib.hid hB46
  clear hown hB6 hB46 hBw hfl
  go_wp2_with fail
  refine (sum_ok v6 (T ++ l) (by have := HTL.out; simp; omega) _ hb6 (HN.out.below HBW.out (Nat.le_refl _)) (HS.out.below HBW.out (Nat.le_refl _))).mono ?_
  rintro e w7 ⟨rfl, hB7⟩
  have hD7 : Arr8 w7 w.heap.size 41 (outL [] 0) := (HD4.out.below HB46.out HD4.out.lt').below hB7 (by have := HD4.out.lt'; have := HB46.out.size; omega)
  have HD7 := Lib.hid hD7
  have HB7 := Lib.hid (HBW.out.trans (hB7.mono HBW.out.size))
  rw [← HTG.out]
  have hs2 : ((taggedL tagL l).map v8).toArray.size = 32 := by rw [List.size_toArray, List.length_map, taggedL_length]
  have ho2 : ((taggedL tagL l).map v8).toArray.all (·.oneCell') = true := by
    rw [Array.all_eq_true_iff_forall_mem]
    intro u hu
    exact v8_all _ u (by simpa using hu)
  clear hB7 hD7 hb6
  generalize hq : ((taggedL tagL l).map v8).toArray = arr2 at hs2 ho2 ⊢
  have HQ2 := Lib.hid hq
  have HS2 := Lib.hid hs2
  have HO2 := Lib.hid ho2
  clear hq hs2 ho2
  go_wp2_with (refine wpList_plain rfl fun _ hK => wp_store_row 41 _ _ rfl w.heap.size arr2 rfl rfl 41 _ HD7.out (by rw [HS2.out]; rfl) (by rw [HS2.out]; simp [outL]) HO2.out (hK _ _ ?_))
  have hA8 : (w7.setRow w.heap.size arr2).heap[w.heap.size]? = some (.cells arr2 41 (0, 0)) := setRow_heap _ _ _ _ _ _ HD7.out
  have hB8 : Below w.heap.size w (w7.setRow w.heap.size arr2) := below_setRow HB7.out (Nat.le_refl _) _
  generalize w7.setRow w.heap.size arr2 = w8 at hA8 hB8 ⊢
  have HB8 := Lib.hid hB8
  have HA8 := Lib.hid hA8
  clear hA8 hB8
  go_wp2_with fail
  refine bodyPost_ret (v := .agg arr2) ?_ rfl ?_
  · exact results_cell_row rfl _ _ _ 41 _ (0, 0) _ rfl HA8.out Tryd.underlying41 rfl (by rw [HS2.out]; rfl)
  · exact ⟨by rw [HQ2.out], HB8.out⟩
end Go.Proofs.YtklaancgnfkjlaaDoor
