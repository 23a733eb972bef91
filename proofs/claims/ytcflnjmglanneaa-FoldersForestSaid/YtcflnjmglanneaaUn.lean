/- Folders: sane, the laws' examples. -/
import Derived.Test.YtcflnjmglanneaaUm
namespace Go.Proofs.Ytcflnjmglanneaa
open Go.RowKit Go.Maps Go.Sort
set_option maxRecDepth 100000
set_option linter.unusedVariables false
set_option linter.unusedSimpArgs false

theorem lit_places (w : World) (l : List Pl) (hl : l.length ≤ 1000) : PlAt (w.alloc (.cells (cellsP l).toArray 24)) (.slice (some ⟨w.heap.size, 0, none⟩) l.length l.length) l := by
  refine PlAt.of_own (B := 0) ?_
  have h := World.ownsRow_lit (base := 0) (size := 5) (e := 24) w (cellsP l).toArray l.length (Nat.zero_le _) (by unfold maxLen; omega) (by simp [cellsP_length])
  simpa using h
theorem lit_strs (w : World) (l : List ByteArray) (hl : l.length ≤ 1000) : StrsAt (w.alloc (.cells (l.map Value.string).toArray 9)) (.slice (some ⟨w.heap.size, 0, none⟩) l.length l.length) l := by
  refine RowAt.of_own (B := 0) (e := 9) ?_
  have h := World.ownsRow_lit (base := 0) (size := 1) (e := 9) w (l.map Value.string).toArray l.length (Nat.zero_le _) (by unfold maxLen; omega) (by simp)
  simpa using h
theorem strs_nil (w : World) : StrsAt w (.slice none 0 0) [] := ⟨rfl, none, 0, rfl, Nat.le_refl _, fun _ => rfl, fun h => absurd h (Nat.lt_irrefl _)⟩
theorem ints_nil (w : World) : IntsAt w (.slice none 0 0) [] := ⟨none, 0, rfl, Nat.le_refl _, fun h => absurd h (Nat.lt_irrefl _)⟩

set_option maxHeartbeats 8000000 in
theorem sane_ok (w : World) : Calls Try.prog 10 #[] w fun e w' => e = .returned (.bool true) ∧ Below w.heap.size w w' := by
  have HB0 : Hid (Below w.heap.size w w) := Lib.hid (Below.refl _ _)
  go_enter Try.func10, Try.ntmps10
  go_wp2_with fail
  refine (lput_ok 2 2 (-1) ⟨#[98]⟩ w).mono ?_
  rintro e W1 ⟨rfl, hB⟩
  have HB1 : Hid (Below w.heap.size w W1) := Lib.hid (below_trans HB0.out hB)
  clear hB HB0 
  unfold Pl.ev
  dsimp only
  go_wp2_with fail
  refine (lput_ok 1 1 (-1) ⟨#[97]⟩ W1).mono ?_
  rintro e W2 ⟨rfl, hB⟩
  have HB2 : Hid (Below w.heap.size w W2) := Lib.hid (below_trans HB1.out hB)
  clear hB HB1 
  unfold Pl.ev
  dsimp only
  go_wp2_with fail
  refine (lput_ok 6 2 (1) ⟨#[100]⟩ W2).mono ?_
  rintro e W3 ⟨rfl, hB⟩
  have HB3 : Hid (Below w.heap.size w W3) := Lib.hid (below_trans HB2.out hB)
  clear hB HB2 
  unfold Pl.ev
  dsimp only
  go_wp2_with fail
  refine (lput_ok 5 1 (2) ⟨#[99]⟩ W3).mono ?_
  rintro e W4 ⟨rfl, hB⟩
  have HB4 : Hid (Below w.heap.size w W4) := Lib.hid (below_trans HB3.out hB)
  clear hB HB3 
  unfold Pl.ev
  dsimp only
  obtain ⟨A, hA⟩ : ∃ A, A = W4.heap.size := ⟨_, rfl⟩
  have HL_4 : Hid (PlAt (W4.alloc (.cells (cellsP exL).toArray 24)) (.slice (some ⟨A, 0, none⟩) 4 4) exL) := Lib.hid (by rw [hA]; exact lit_places W4 exL (by decide))
  go_upto_region 2 with fail
  try rw [← hA]
  clear hA
  have hW5 : W4.alloc (.cells #[.int .i64 2, .int .i64 0, .int .i64 2, .int .i64 (-1), .string ⟨#[98]⟩, .int .i64 1, .int .i64 0, .int .i64 1, .int .i64 (-1), .string ⟨#[97]⟩, .int .i64 6, .int .i64 0, .int .i64 2, .int .i64 1, .string ⟨#[100]⟩, .int .i64 5, .int .i64 0, .int .i64 1, .int .i64 2, .string ⟨#[99]⟩] 24) = W4.alloc (.cells (cellsP exL).toArray 24) := rfl
  rw [hW5]
  clear hW5
  have HB5 : Hid (Below w.heap.size w (W4.alloc (.cells (cellsP exL).toArray 24))) := Lib.hid (below_trans HB4.out (below_alloc W4 _))
  obtain ⟨W5, hW5⟩ : ∃ W, W = W4.alloc (.cells (cellsP exL).toArray 24) := ⟨_, rfl⟩
  rw [← hW5] at HB5 HL_4 ⊢
  have HL_5 := HL_4
  clear hW5 HL_4 HB4
  go_wp2_with fail
  refine (tree_ok exL (.slice (some ⟨A, 0, none⟩) 4 4) W5 HL_5.out (by decide)).mono ?_
  rintro e W6 ⟨u, rfl, hu, hB⟩
  have HB6 : Hid (Below w.heap.size w W6) := Lib.hid (below_trans HB5.out hB)
  have HL_6 := Lib.hid ((HL_5.out).below hB)
  rw [ex_tree] at hu
  obtain ⟨p6, c6, hu6, -⟩ := hu.form
  have hu7 : u = .slice p6 2 c6 := hu6
  subst hu7
  have HR_6 := Lib.hid hu
  clear hu hu6
  clear hB HB5 HL_5
  go_wp2_with fail
  refine (lput_ok 1 5 (-1) ⟨#[97]⟩ W6).mono ?_
  rintro e W7 ⟨rfl, hB⟩
  have HB7 : Hid (Below w.heap.size w W7) := Lib.hid (below_trans HB6.out hB)
  have HL_7 := Lib.hid ((HL_6.out).below hB)
  have HR_7 := Lib.hid ((HR_6.out).below hB)
  clear hB HB6 HL_6 HR_6
  unfold Pl.ev
  dsimp only
  go_wp2_with fail
  refine (lput_ok 1 3 (-1) ⟨#[97]⟩ W7).mono ?_
  rintro e W8 ⟨rfl, hB⟩
  have HB8 : Hid (Below w.heap.size w W8) := Lib.hid (below_trans HB7.out hB)
  have HL_8 := Lib.hid ((HL_7.out).below hB)
  have HR_8 := Lib.hid ((HR_7.out).below hB)
  clear hB HB7 HL_7 HR_7
  unfold Pl.ev
  dsimp only
  obtain ⟨A2, hA2⟩ : ∃ A, A = W8.heap.size := ⟨_, rfl⟩
  have HT_0 : Hid (PlAt (W8.alloc (.cells (cellsP exT).toArray 24)) (.slice (some ⟨A2, 0, none⟩) 2 2) exT) := Lib.hid (by rw [hA2]; exact lit_places W8 exT (by decide))
  go_upto_region 4 with fail
  try rw [← hA2]
  clear hA2
  have hWt : W8.alloc (.cells #[.int .i64 1, .int .i64 0, .int .i64 5, .int .i64 (-1), .string ⟨#[97]⟩, .int .i64 1, .int .i64 0, .int .i64 3, .int .i64 (-1), .string ⟨#[97]⟩] 24) = W8.alloc (.cells (cellsP exT).toArray 24) := rfl
  rw [hWt]
  clear hWt
  have HB9 : Hid (Below w.heap.size w (W8.alloc (.cells (cellsP exT).toArray 24))) := Lib.hid (below_trans HB8.out (below_alloc W8 _))
  have HL_9 := Lib.hid (HL_8.out.below (below_alloc W8 (.cells (cellsP exT).toArray 24)))
  have HR_9 := Lib.hid (HR_8.out.below (below_alloc W8 (.cells (cellsP exT).toArray 24)))
  obtain ⟨W9, hWt⟩ : ∃ W, W = W8.alloc (.cells (cellsP exT).toArray 24) := ⟨_, rfl⟩
  rw [← hWt] at HB9 HL_9 HR_9 HT_0 ⊢
  have HT_9 := HT_0
  clear hWt HT_0 HB8 HL_8 HR_8
  go_wp2_with fail
  refine (find_ok exT [⟨#[97]⟩] (.slice (some ⟨A2, 0, none⟩) 2 2) (.slice (some ⟨W9.heap.size, 0, none⟩) 1 1) (W9.alloc (.cells (List.map Value.string [⟨#[97]⟩]).toArray 9)) (HT_9.out.below (below_alloc W9 (.cells (List.map Value.string [⟨#[97]⟩]).toArray 9))) (by decide) (lit_strs W9 [⟨#[97]⟩] (by decide)) (by decide)).mono ?_
  rintro e W10 ⟨rfl, hB⟩
  have HB10 : Hid (Below w.heap.size w W10) := Lib.hid (below_trans (below_trans HB9.out (below_alloc W9 (.cells (List.map Value.string [⟨#[97]⟩]).toArray 9))) hB)
  have HL_10 := Lib.hid ((HL_9.out.below (below_alloc W9 (.cells (List.map Value.string [⟨#[97]⟩]).toArray 9))).below hB)
  have HR_10 := Lib.hid ((HR_9.out.below (below_alloc W9 (.cells (List.map Value.string [⟨#[97]⟩]).toArray 9))).below hB)
  have HT_10 := Lib.hid ((HT_9.out.below (below_alloc W9 (.cells (List.map Value.string [⟨#[97]⟩]).toArray 9))).below hB)
  rw [ex_find1]
  dsimp only
  clear hB HB9 HL_9 HR_9 HT_9
  go_wp2_with fail
  refine (find_ok exT [] (.slice (some ⟨A2, 0, none⟩) 2 2) (.slice none 0 0) W10 (HT_10.out) (by decide) (strs_nil _) (by decide)).mono ?_
  rintro e W11 ⟨rfl, hB⟩
  have HB11 : Hid (Below w.heap.size w W11) := Lib.hid (below_trans HB10.out hB)
  have HL_11 := Lib.hid ((HL_10.out).below hB)
  have HR_11 := Lib.hid ((HR_10.out).below hB)
  have HT_11 := Lib.hid ((HT_10.out).below hB)
  rw [ex_find2]
  dsimp only
  clear hB HB10 HL_10 HR_10 HT_10
  go_wp2_with fail
  refine (find_ok exL [⟨#[98]⟩, ⟨#[99]⟩] (.slice (some ⟨A, 0, none⟩) 4 4) (.slice (some ⟨W11.heap.size, 0, none⟩) 2 2) (W11.alloc (.cells (List.map Value.string [⟨#[98]⟩, ⟨#[99]⟩]).toArray 9)) (HL_11.out.below (below_alloc W11 (.cells (List.map Value.string [⟨#[98]⟩, ⟨#[99]⟩]).toArray 9))) (by decide) (lit_strs W11 [⟨#[98]⟩, ⟨#[99]⟩] (by decide)) (by decide)).mono ?_
  rintro e W12 ⟨rfl, hB⟩
  have HB12 : Hid (Below w.heap.size w W12) := Lib.hid (below_trans (below_trans HB11.out (below_alloc W11 (.cells (List.map Value.string [⟨#[98]⟩, ⟨#[99]⟩]).toArray 9))) hB)
  have HL_12 := Lib.hid ((HL_11.out.below (below_alloc W11 (.cells (List.map Value.string [⟨#[98]⟩, ⟨#[99]⟩]).toArray 9))).below hB)
  have HR_12 := Lib.hid ((HR_11.out.below (below_alloc W11 (.cells (List.map Value.string [⟨#[98]⟩, ⟨#[99]⟩]).toArray 9))).below hB)
  have HT_12 := Lib.hid ((HT_11.out.below (below_alloc W11 (.cells (List.map Value.string [⟨#[98]⟩, ⟨#[99]⟩]).toArray 9))).below hB)
  rw [ex_find3]
  dsimp only
  clear hB HB11 HL_11 HR_11 HT_11
  go_wp2_with fail
  refine (lput_ok 5 1 (2) ⟨#[99]⟩ W12).mono ?_
  rintro e W13 ⟨rfl, hB⟩
  have HB13 : Hid (Below w.heap.size w W13) := Lib.hid (below_trans HB12.out hB)
  have HL_13 := Lib.hid ((HL_12.out).below hB)
  have HR_13 := Lib.hid ((HR_12.out).below hB)
  have HT_13 := Lib.hid ((HT_12.out).below hB)
  clear hB HB12 HL_12 HR_12 HT_12
  unfold Pl.ev
  dsimp only
  go_wp2_with fail
  refine (lput_ok 2 2 (-1) ⟨#[98]⟩ W13).mono ?_
  rintro e W14 ⟨rfl, hB⟩
  have HB14 : Hid (Below w.heap.size w W14) := Lib.hid (below_trans HB13.out hB)
  have HL_14 := Lib.hid ((HL_13.out).below hB)
  have HR_14 := Lib.hid ((HR_13.out).below hB)
  have HT_14 := Lib.hid ((HT_13.out).below hB)
  clear hB HB13 HL_13 HR_13 HT_13
  unfold Pl.ev
  dsimp only
  go_wp2_with fail
  refine (rsame_ok exR exR (.slice p6 2 c6) (.slice (some ⟨W14.heap.size, 0, none⟩) 2 2) (W14.alloc (.cells (cellsP exR).toArray 24)) (HR_14.out.below (below_alloc W14 (.cells (cellsP exR).toArray 24))) (lit_places W14 exR (by decide)) (by decide) (by decide)).mono ?_
  rintro e W15 ⟨rfl, hB⟩
  have HB15 : Hid (Below w.heap.size w W15) := Lib.hid (below_trans (below_trans HB14.out (below_alloc W14 (.cells (cellsP exR).toArray 24))) hB)
  have HL_15 := Lib.hid ((HL_14.out.below (below_alloc W14 (.cells (cellsP exR).toArray 24))).below hB)
  have HR_15 := Lib.hid ((HR_14.out.below (below_alloc W14 (.cells (cellsP exR).toArray 24))).below hB)
  have HT_15 := Lib.hid ((HT_14.out.below (below_alloc W14 (.cells (cellsP exR).toArray 24))).below hB)
  rw [decide_eq_true (rfl : exR = exR)]
  clear hB HB14 HL_14 HR_14 HT_14
  go_wp2_with fail
  refine (tree_ok [] (.slice none 0 0) W15 PlAt.nil (by decide)).mono ?_
  rintro e W16 ⟨u, rfl, hu, hB⟩
  have HB16 : Hid (Below w.heap.size w W16) := Lib.hid (below_trans HB15.out hB)
  have HL_16 := Lib.hid ((HL_15.out).below hB)
  have HR_16 := Lib.hid ((HR_15.out).below hB)
  have HT_16 := Lib.hid ((HT_15.out).below hB)
  rw [treeP_nil] at hu
  obtain ⟨pz, cz, huz, -⟩ := hu.form
  have huy : u = .slice pz 0 cz := huz
  subst huy
  clear hu huz
  clear hB HB15 HL_15 HR_15 HT_15
  go_wp2_with fail
  refine (below_ok [] (.slice none 0 0) 0 W16 PlAt.nil (by decide) (I64.of (by decide))).mono ?_
  rintro e W17 ⟨u, rfl, hu, hB⟩
  have HB17 : Hid (Below w.heap.size w W17) := Lib.hid (below_trans HB16.out hB)
  have HL_17 := Lib.hid ((HL_16.out).below hB)
  have HR_17 := Lib.hid ((HR_16.out).below hB)
  have HT_17 := Lib.hid ((HT_16.out).below hB)
  rw [ex_below0] at hu
  obtain ⟨py, cy, huz, -⟩ := hu
  have huy : u = .slice py 0 cy := huz
  subst huy
  clear huz
  clear hB HB16 HL_16 HR_16 HT_16
  go_wp2_with fail
  refine (fcheck_ok pl0 W17).mono ?_
  rintro e W18 ⟨rfl, hB⟩
  have HB18 : Hid (Below w.heap.size w W18) := Lib.hid (below_trans HB17.out hB)
  have HL_18 := Lib.hid ((HL_17.out).below hB)
  have HR_18 := Lib.hid ((HR_17.out).below hB)
  have HT_18 := Lib.hid ((HT_17.out).below hB)
  rw [ex_chk0]
  clear hB HB17 HL_17 HR_17 HT_17
  have hcl := (HL_18.out.cells.2.2 (by decide))
  obtain ⟨ga, oa, hga, hcs⟩ := hcl
  injection hga with hga
  injection hga with hga1 hga2
  subst hga1; subst hga2
  obtain ⟨k0, k1, k2, k3, k4⟩ := hcs 0 ⟨2, 0, 2, -1, ⟨#[98]⟩⟩ rfl
  dsimp only at k0 k1 k2 k3 k4
  clear hcs
  go_wp2_with fail
  refine (fcheck_ok ⟨2, 0, 2, -1, ⟨#[98]⟩⟩ W18).mono ?_
  rintro e W19 ⟨rfl, hB⟩
  have HB19 : Hid (Below w.heap.size w W19) := Lib.hid (below_trans HB18.out hB)
  have HL_19 := Lib.hid ((HL_18.out).below hB)
  have HR_19 := Lib.hid ((HR_18.out).below hB)
  have HT_19 := Lib.hid ((HT_18.out).below hB)
  rw [ex_chk1]
  clear k0 k1 k2 k3 k4
  clear hB HB18 HL_18 HR_18 HT_18
  go_wp2_with fail
  refine (below_ok exL (.slice (some ⟨A, 0, none⟩) 4 4) 2 W19 (HL_19.out) (by decide) (I64.of (by decide))).mono ?_
  rintro e W20 ⟨u, rfl, hu, hB⟩
  have HB20 : Hid (Below w.heap.size w W20) := Lib.hid (below_trans HB19.out hB)
  have HL_20 := Lib.hid ((HL_19.out).below hB)
  have HR_20 := Lib.hid ((HR_19.out).below hB)
  have HT_20 := Lib.hid ((HT_19.out).below hB)
  rw [ex_below1] at hu
  have HI_20 := Lib.hid hu
  obtain ⟨pi20, ci20, hui, -⟩ := hu
  have huj : u = .slice pi20 2 ci20 := hui
  subst huj
  clear hui
  clear hB HB19 HL_19 HR_19 HT_19
  go_wp2_with fail
  refine (sameints_ok [1, 2] [1, 2] (.slice pi20 2 ci20) (.slice (some ⟨W20.heap.size, 0, none⟩) 2 2) (W20.alloc (.cells (List.map (Value.int .i64) [1, 2]).toArray 3)) (ints_below HI_20.out (below_alloc W20 _)) (ints_lit W20 [1, 2] (by decide)) (by decide) (by decide)).mono ?_
  rintro e W21 ⟨rfl, hB⟩
  have HB21 : Hid (Below w.heap.size w W21) := Lib.hid (below_trans (below_trans HB20.out (below_alloc W20 (.cells (List.map (Value.int .i64) [1, 2]).toArray 3))) hB)
  have HL_21 := Lib.hid ((HL_20.out.below (below_alloc W20 (.cells (List.map (Value.int .i64) [1, 2]).toArray 3))).below hB)
  have HR_21 := Lib.hid ((HR_20.out.below (below_alloc W20 (.cells (List.map (Value.int .i64) [1, 2]).toArray 3))).below hB)
  have HT_21 := Lib.hid ((HT_20.out.below (below_alloc W20 (.cells (List.map (Value.int .i64) [1, 2]).toArray 3))).below hB)
  rw [decide_eq_true (rfl : ([1, 2] : List Int) = [1, 2])]
  clear HI_20
  clear hB HB20 HL_20 HR_20 HT_20
  go_wp2_with fail
  refine (above_ok exL (.slice (some ⟨A, 0, none⟩) 4 4) 1 W21 (HL_21.out) (by decide) (I64.of (by decide))).mono ?_
  rintro e W22 ⟨u, rfl, hu, hB⟩
  have HB22 : Hid (Below w.heap.size w W22) := Lib.hid (below_trans HB21.out hB)
  have HL_22 := Lib.hid ((HL_21.out).below hB)
  have HR_22 := Lib.hid ((HR_21.out).below hB)
  have HT_22 := Lib.hid ((HT_21.out).below hB)
  rw [ex_above1] at hu
  have HI_22 := Lib.hid hu
  obtain ⟨pi22, ci22, hui, -⟩ := hu
  have huj : u = .slice pi22 1 ci22 := hui
  subst huj
  clear hui
  clear hB HB21 HL_21 HR_21 HT_21
  go_wp2_with fail
  refine (sameints_ok [2] [2] (.slice pi22 1 ci22) (.slice (some ⟨W22.heap.size, 0, none⟩) 1 1) (W22.alloc (.cells (List.map (Value.int .i64) [2]).toArray 3)) (ints_below HI_22.out (below_alloc W22 _)) (ints_lit W22 [2] (by decide)) (by decide) (by decide)).mono ?_
  rintro e W23 ⟨rfl, hB⟩
  have HB23 : Hid (Below w.heap.size w W23) := Lib.hid (below_trans (below_trans HB22.out (below_alloc W22 (.cells (List.map (Value.int .i64) [2]).toArray 3))) hB)
  have HL_23 := Lib.hid ((HL_22.out.below (below_alloc W22 (.cells (List.map (Value.int .i64) [2]).toArray 3))).below hB)
  have HR_23 := Lib.hid ((HR_22.out.below (below_alloc W22 (.cells (List.map (Value.int .i64) [2]).toArray 3))).below hB)
  have HT_23 := Lib.hid ((HT_22.out.below (below_alloc W22 (.cells (List.map (Value.int .i64) [2]).toArray 3))).below hB)
  rw [decide_eq_true (rfl : ([2] : List Int) = [2])]
  clear HI_22
  clear hB HB22 HL_22 HR_22 HT_22
  go_wp2_with fail
  refine (below_ok exT (.slice (some ⟨A2, 0, none⟩) 2 2) 5 W23 (HT_23.out) (by decide) (I64.of (by decide))).mono ?_
  rintro e W24 ⟨u, rfl, hu, hB⟩
  have HB24 : Hid (Below w.heap.size w W24) := Lib.hid (below_trans HB23.out hB)
  have HL_24 := Lib.hid ((HL_23.out).below hB)
  have HR_24 := Lib.hid ((HR_23.out).below hB)
  have HT_24 := Lib.hid ((HT_23.out).below hB)
  rw [ex_below2] at hu
  have HI_24 := Lib.hid hu
  obtain ⟨pi24, ci24, hui, -⟩ := hu
  have huj : u = .slice pi24 1 ci24 := hui
  subst huj
  clear hui
  clear hB HB23 HL_23 HR_23 HT_23
  go_wp2_with fail
  refine (sameints_ok [5] [5] (.slice pi24 1 ci24) (.slice (some ⟨W24.heap.size, 0, none⟩) 1 1) (W24.alloc (.cells (List.map (Value.int .i64) [5]).toArray 3)) (ints_below HI_24.out (below_alloc W24 _)) (ints_lit W24 [5] (by decide)) (by decide) (by decide)).mono ?_
  rintro e W25 ⟨rfl, hB⟩
  have HB25 : Hid (Below w.heap.size w W25) := Lib.hid (below_trans (below_trans HB24.out (below_alloc W24 (.cells (List.map (Value.int .i64) [5]).toArray 3))) hB)
  have HL_25 := Lib.hid ((HL_24.out.below (below_alloc W24 (.cells (List.map (Value.int .i64) [5]).toArray 3))).below hB)
  have HR_25 := Lib.hid ((HR_24.out.below (below_alloc W24 (.cells (List.map (Value.int .i64) [5]).toArray 3))).below hB)
  have HT_25 := Lib.hid ((HT_24.out.below (below_alloc W24 (.cells (List.map (Value.int .i64) [5]).toArray 3))).below hB)
  rw [decide_eq_true (rfl : ([5] : List Int) = [5])]
  clear HI_24
  clear hB HB24 HL_24 HR_24 HT_24
  go_wp2_with fail
  refine (above_ok exT (.slice (some ⟨A2, 0, none⟩) 2 2) 5 W25 (HT_25.out) (by decide) (I64.of (by decide))).mono ?_
  rintro e W26 ⟨u, rfl, hu, hB⟩
  have HB26 : Hid (Below w.heap.size w W26) := Lib.hid (below_trans HB25.out hB)
  have HL_26 := Lib.hid ((HL_25.out).below hB)
  have HR_26 := Lib.hid ((HR_25.out).below hB)
  have HT_26 := Lib.hid ((HT_25.out).below hB)
  rw [ex_above2] at hu
  obtain ⟨pe, ce, hue, -⟩ := hu
  have huy : u = .slice pe 0 ce := hue
  subst huy
  clear hue
  clear hB HB25 HL_25 HR_25 HT_25
  go_wp2_with fail
  go_ret
  exact ⟨rfl, HB26.out⟩
end Go.Proofs.Ytcflnjmglanneaa
