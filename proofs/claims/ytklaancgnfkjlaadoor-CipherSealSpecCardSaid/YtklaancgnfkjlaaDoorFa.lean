/- The reference's quarter round. -/
import Derived.Test.YtklaancgnfkjlaaDoorCe
import Derived.Deep.DeepCutAuto
namespace Go.Proofs.YtklaancgnfkjlaaDoor
open Go.RowKit
set_option maxRecDepth 100000
set_option maxHeartbeats 4000000
set_option linter.unusedVariables false
set_option linter.unusedSimpArgs false

theorem agg_size (v : List (BitVec 32)) (n : Nat) (h : v.length = n) : (v.map v32).toArray.size = n := by simp [h]
theorem v32_all (v : List (BitVec 32)) : (v.map v32).toArray.all (·.oneCell') = true := by
  rw [Array.all_eq_true_iff_forall_mem]
  intro u hu
  obtain ⟨x, _, rfl⟩ := List.mem_map.1 (by simpa using hu)
  rfl
theorem xrol_16 (x y z : BitVec 32) (hz : Hid ((x ^^^ y).rotateLeft 16 = z)) (w : World) :
    Calls Tryd.prog 42 #[.int .u32 (bits .xor .u32 (x.toNat : Int) (y.toNat : Int)), .int .i64 16] w fun e w' => e = .returned (.int .u32 z.toNat) ∧ ∃ q, w' = w.drewN q := by
  rw [bxor, ← hz.out]
  exact rol_16 _ _
theorem xrol_12 (x y z : BitVec 32) (hz : Hid ((x ^^^ y).rotateLeft 12 = z)) (w : World) :
    Calls Tryd.prog 42 #[.int .u32 (bits .xor .u32 (x.toNat : Int) (y.toNat : Int)), .int .i64 12] w fun e w' => e = .returned (.int .u32 z.toNat) ∧ ∃ q, w' = w.drewN q := by
  rw [bxor, ← hz.out]
  exact rol_12 _ _
theorem xrol_8 (x y z : BitVec 32) (hz : Hid ((x ^^^ y).rotateLeft 8 = z)) (w : World) :
    Calls Tryd.prog 42 #[.int .u32 (bits .xor .u32 (x.toNat : Int) (y.toNat : Int)), .int .i64 8] w fun e w' => e = .returned (.int .u32 z.toNat) ∧ ∃ q, w' = w.drewN q := by
  rw [bxor, ← hz.out]
  exact rol_8 _ _
theorem xrol_7 (x y z : BitVec 32) (hz : Hid ((x ^^^ y).rotateLeft 7 = z)) (w : World) :
    Calls Tryd.prog 42 #[.int .u32 (bits .xor .u32 (x.toNat : Int) (y.toNat : Int)), .int .i64 7] w fun e w' => e = .returned (.int .u32 z.toNat) ∧ ∃ q, w' = w.drewN q := by
  rw [bxor, ← hz.out]
  exact rol_7 _ _

theorem rmix_ok (v : List (BitVec 32)) (hv : v.length = 16) (a b c d : Nat) (ha : (a : Int) < 16) (hb : (b : Int) < 16) (hc : (c : Int) < 16) (hd : (d : Int) < 16) (w : World) :
    Calls Tryd.prog 33 #[.agg (v.map v32).toArray, .int .i64 a, .int .i64 b, .int .i64 c, .int .i64 d] w fun e w' =>
      e = .returned (.agg ((qr v a b c d).map v32).toArray) ∧ Below w.heap.size w w' := by
  have hqr : qr v a b c d = stD (stA (stD (stA (stD (stA (stD (stA v a b) d a 16) c d) b c 12) a b) d a 8) c d) b c 7 := rfl
  generalize qr v a b c d = R at hqr ⊢
  replace hqr := Lib.hid hqr
  have hsz := agg_size v 16 hv
  generalize hA : (v.map v32).toArray = arr at hsz ⊢
  have HA := Lib.hid hA
  have HSZ := Lib.hid hsz
  clear hA hsz
  go_enter Tryd.func33, Tryd.ntmps33
  go_upto_region 1 with fail
  obtain ⟨Z, hZ⟩ : ∃ Z : Array Value, Z = #[.int .u32 0, .int .u32 0, .int .u32 0, .int .u32 0, .int .u32 0, .int .u32 0, .int .u32 0, .int .u32 0, .int .u32 0, .int .u32 0, .int .u32 0, .int .u32 0, .int .u32 0, .int .u32 0, .int .u32 0, .int .u32 0] := ⟨_, rfl⟩
  rw [← hZ]
  obtain ⟨W0, hW0⟩ : ∃ W, W = (w.alloc (.cells arr 56)).alloc (.cells Z 56) := ⟨_, rfl⟩
  rw [← hW0]
  have h : Arr32 W0 w.heap.size 56 v := by
    show _ = some (Obj.cells (v.map v32).toArray _ (0, 0))
    rw [HA.out, hW0, Below.heap_alloc _ _ _ (by simp)]; exact World.alloc_heap_new w _
  have hR0 : W0.heap[w.heap.size + 1]? = some (.cells Z 56 (0, 0)) := by
    rw [hW0]
    have := World.alloc_heap_new (w.alloc (.cells arr 56)) (.cells Z 56)
    simpa using this
  have hB0 : Below w.heap.size w W0 := by
    rw [hW0]
    exact ⟨rfl, rfl, rfl, by simp; omega, fun k hk => by rw [Below.heap_alloc _ _ _ (by simp; omega), Below.heap_alloc _ _ _ hk]⟩
  have hO : OnlyAt w.heap.size W0 W0 := OnlyAt.refl _ _
  have hZs : Z.size = 16 := by rw [hZ]; rfl
  have HR0 := Lib.hid hR0
  have HB0 := Lib.hid hB0
  have HZS := Lib.hid hZs
  clear hW0 hR0 hB0 hZ hZs
  obtain ⟨N, hN⟩ : ∃ N, N = w.heap.size + 1 := ⟨_, rfl⟩
  obtain ⟨g, hg⟩ : ∃ g, g = w.heap.size := ⟨_, rfl⟩
  rw [← hN] at HR0 ⊢
  rw [← hg] at h hO ⊢
  have HN := Lib.hid hN
  have HG := Lib.hid hg
  clear hN hg
  replace hO := Lib.hid hO
  replace h := Lib.hid h
  go_upto_region 1 with fail
  go_cut [] (fun wx => Arr32 wx g 56 (stA v a b) ∧ OnlyAt g W0 wx)
  case first =>
    have A := h.out.cell (i := a) (by omega)
    have B := h.out.cell (i := b) (by omega)
    have F := h.out.frozen a
    generalize hx : v.getD a 0 = x at A
    generalize hy : v.getD b 0 = y at B
    replace hx := Lib.hid hx
    replace hy := Lib.hid hy
    go_region
    rw [badd x y]
    go_wp2_with fail
    go_meet
    refine ⟨?_, ?_⟩
    · rw [stA, hx.out, hy.out]; exact h.out.set _ _
    · exact hO.out.trans ((OnlyAt.setCell g a W0 (.int .u32 (x + y).toNat)).trans ⟨rfl, rfl, rfl, rfl, fun _ _ => rfl⟩)
  obtain ⟨h1, hO⟩ := hcut
  clear h
  have l1 : (stA v a b).length = 16 := by rw [stA_length]; exact hv
  generalize stA v a b = V1 at h1 l1 hqr
  generalize wc = W1 at *
  replace hO := Lib.hid hO
  replace h1 := Lib.hid h1
  go_upto_region 2 with fail
  go_cut [] (fun wx => Arr32 wx g 56 (stD V1 d a 16) ∧ OnlyAt g W0 wx)
  case first =>
    have A := h1.out.cell (i := d) (by omega)
    have B := h1.out.cell (i := a) (by omega)
    have F := h1.out.frozen d
    generalize hx : V1.getD d 0 = x at A
    generalize hy : V1.getD a 0 = y at B
    replace hx := Lib.hid hx
    replace hy := Lib.hid hy
    obtain ⟨z, hz⟩ : ∃ z, Hid ((x ^^^ y).rotateLeft 16 = z) := ⟨_, Lib.hid rfl⟩
    go_region_with (go_at_call 42; refine (xrol_16 x y z hz _).mono ?_; rintro e w' ⟨rfl, nq, rfl⟩)
    all_goals
      go_wp2_with fail
      go_meet
      refine ⟨?_, ?_⟩
      · rw [stD, hx.out, hy.out, hz.out]; exact h1.out.set _ _
      · exact hO.out.trans ((OnlyAt.setCell g d W1 (.int .u32 z.toNat)).trans ⟨rfl, rfl, rfl, rfl, fun _ _ => rfl⟩)
  obtain ⟨h2, hO⟩ := hcut
  clear h1
  have l2 : (stD V1 d a 16).length = 16 := by rw [stD_length]; exact l1
  generalize stD V1 d a 16 = V2 at h2 l2 hqr
  generalize wc = W2 at *
  replace hO := Lib.hid hO
  replace h2 := Lib.hid h2
  go_upto_region 3 with fail
  go_cut [] (fun wx => Arr32 wx g 56 (stA V2 c d) ∧ OnlyAt g W0 wx)
  case first =>
    have A := h2.out.cell (i := c) (by omega)
    have B := h2.out.cell (i := d) (by omega)
    have F := h2.out.frozen c
    generalize hx : V2.getD c 0 = x at A
    generalize hy : V2.getD d 0 = y at B
    replace hx := Lib.hid hx
    replace hy := Lib.hid hy
    go_region
    rw [badd x y]
    go_wp2_with fail
    go_meet
    refine ⟨?_, ?_⟩
    · rw [stA, hx.out, hy.out]; exact h2.out.set _ _
    · exact hO.out.trans ((OnlyAt.setCell g c W2 (.int .u32 (x + y).toNat)).trans ⟨rfl, rfl, rfl, rfl, fun _ _ => rfl⟩)
  obtain ⟨h3, hO⟩ := hcut
  clear h2
  have l3 : (stA V2 c d).length = 16 := by rw [stA_length]; exact l2
  generalize stA V2 c d = V3 at h3 l3 hqr
  generalize wc = W3 at *
  replace hO := Lib.hid hO
  replace h3 := Lib.hid h3
  go_upto_region 4 with fail
  go_cut [] (fun wx => Arr32 wx g 56 (stD V3 b c 12) ∧ OnlyAt g W0 wx)
  case first =>
    have A := h3.out.cell (i := b) (by omega)
    have B := h3.out.cell (i := c) (by omega)
    have F := h3.out.frozen b
    generalize hx : V3.getD b 0 = x at A
    generalize hy : V3.getD c 0 = y at B
    replace hx := Lib.hid hx
    replace hy := Lib.hid hy
    obtain ⟨z, hz⟩ : ∃ z, Hid ((x ^^^ y).rotateLeft 12 = z) := ⟨_, Lib.hid rfl⟩
    go_region_with (go_at_call 42; refine (xrol_12 x y z hz _).mono ?_; rintro e w' ⟨rfl, nq, rfl⟩)
    all_goals
      go_wp2_with fail
      go_meet
      refine ⟨?_, ?_⟩
      · rw [stD, hx.out, hy.out, hz.out]; exact h3.out.set _ _
      · exact hO.out.trans ((OnlyAt.setCell g b W3 (.int .u32 z.toNat)).trans ⟨rfl, rfl, rfl, rfl, fun _ _ => rfl⟩)
  obtain ⟨h4, hO⟩ := hcut
  clear h3
  have l4 : (stD V3 b c 12).length = 16 := by rw [stD_length]; exact l3
  generalize stD V3 b c 12 = V4 at h4 l4 hqr
  generalize wc = W4 at *
  replace hO := Lib.hid hO
  replace h4 := Lib.hid h4
  go_upto_region 5 with fail
  go_cut [] (fun wx => Arr32 wx g 56 (stA V4 a b) ∧ OnlyAt g W0 wx)
  case first =>
    have A := h4.out.cell (i := a) (by omega)
    have B := h4.out.cell (i := b) (by omega)
    have F := h4.out.frozen a
    generalize hx : V4.getD a 0 = x at A
    generalize hy : V4.getD b 0 = y at B
    replace hx := Lib.hid hx
    replace hy := Lib.hid hy
    go_region
    rw [badd x y]
    go_wp2_with fail
    go_meet
    refine ⟨?_, ?_⟩
    · rw [stA, hx.out, hy.out]; exact h4.out.set _ _
    · exact hO.out.trans ((OnlyAt.setCell g a W4 (.int .u32 (x + y).toNat)).trans ⟨rfl, rfl, rfl, rfl, fun _ _ => rfl⟩)
  obtain ⟨h5, hO⟩ := hcut
  clear h4
  have l5 : (stA V4 a b).length = 16 := by rw [stA_length]; exact l4
  generalize stA V4 a b = V5 at h5 l5 hqr
  generalize wc = W5 at *
  replace hO := Lib.hid hO
  replace h5 := Lib.hid h5
  go_upto_region 6 with fail
  go_cut [] (fun wx => Arr32 wx g 56 (stD V5 d a 8) ∧ OnlyAt g W0 wx)
  case first =>
    have A := h5.out.cell (i := d) (by omega)
    have B := h5.out.cell (i := a) (by omega)
    have F := h5.out.frozen d
    generalize hx : V5.getD d 0 = x at A
    generalize hy : V5.getD a 0 = y at B
    replace hx := Lib.hid hx
    replace hy := Lib.hid hy
    obtain ⟨z, hz⟩ : ∃ z, Hid ((x ^^^ y).rotateLeft 8 = z) := ⟨_, Lib.hid rfl⟩
    go_region_with (go_at_call 42; refine (xrol_8 x y z hz _).mono ?_; rintro e w' ⟨rfl, nq, rfl⟩)
    all_goals
      go_wp2_with fail
      go_meet
      refine ⟨?_, ?_⟩
      · rw [stD, hx.out, hy.out, hz.out]; exact h5.out.set _ _
      · exact hO.out.trans ((OnlyAt.setCell g d W5 (.int .u32 z.toNat)).trans ⟨rfl, rfl, rfl, rfl, fun _ _ => rfl⟩)
  obtain ⟨h6, hO⟩ := hcut
  clear h5
  have l6 : (stD V5 d a 8).length = 16 := by rw [stD_length]; exact l5
  generalize stD V5 d a 8 = V6 at h6 l6 hqr
  generalize wc = W6 at *
  replace hO := Lib.hid hO
  replace h6 := Lib.hid h6
  go_upto_region 7 with fail
  go_cut [] (fun wx => Arr32 wx g 56 (stA V6 c d) ∧ OnlyAt g W0 wx)
  case first =>
    have A := h6.out.cell (i := c) (by omega)
    have B := h6.out.cell (i := d) (by omega)
    have F := h6.out.frozen c
    generalize hx : V6.getD c 0 = x at A
    generalize hy : V6.getD d 0 = y at B
    replace hx := Lib.hid hx
    replace hy := Lib.hid hy
    go_region
    rw [badd x y]
    go_wp2_with fail
    go_meet
    refine ⟨?_, ?_⟩
    · rw [stA, hx.out, hy.out]; exact h6.out.set _ _
    · exact hO.out.trans ((OnlyAt.setCell g c W6 (.int .u32 (x + y).toNat)).trans ⟨rfl, rfl, rfl, rfl, fun _ _ => rfl⟩)
  obtain ⟨h7, hO⟩ := hcut
  clear h6
  have l7 : (stA V6 c d).length = 16 := by rw [stA_length]; exact l6
  generalize stA V6 c d = V7 at h7 l7 hqr
  generalize wc = W7 at *
  replace hO := Lib.hid hO
  replace h7 := Lib.hid h7
  go_upto_region 8 with fail
  go_cut [] (fun wx => Arr32 wx g 56 (stD V7 b c 7) ∧ OnlyAt g W0 wx)
  case first =>
    have A := h7.out.cell (i := b) (by omega)
    have B := h7.out.cell (i := c) (by omega)
    have F := h7.out.frozen b
    generalize hx : V7.getD b 0 = x at A
    generalize hy : V7.getD c 0 = y at B
    replace hx := Lib.hid hx
    replace hy := Lib.hid hy
    obtain ⟨z, hz⟩ : ∃ z, Hid ((x ^^^ y).rotateLeft 7 = z) := ⟨_, Lib.hid rfl⟩
    go_region_with (go_at_call 42; refine (xrol_7 x y z hz _).mono ?_; rintro e w' ⟨rfl, nq, rfl⟩)
    all_goals
      go_wp2_with fail
      go_meet
      refine ⟨?_, ?_⟩
      · rw [stD, hx.out, hy.out, hz.out]; exact h7.out.set _ _
      · exact hO.out.trans ((OnlyAt.setCell g b W7 (.int .u32 z.toNat)).trans ⟨rfl, rfl, rfl, rfl, fun _ _ => rfl⟩)
  obtain ⟨h8, hO⟩ := hcut
  clear h7
  have l8 : (stD V7 b c 7).length = 16 := by rw [stD_length]; exact l7
  generalize stD V7 b c 7 = V8 at h8 l8 hqr
  generalize wc = W8 at *
  have hs8 := agg_size V8 16 l8
  have ho8 := v32_all V8
  have h8' : W8.heap[g]? = some (.cells (V8.map v32).toArray 56 (0, 0)) := h8
  have hRR : W8.heap[N]? = some (.cells Z 56 (0, 0)) := (hO.block _ (by have := HN.out; have := HG.out; omega)).trans HR0.out
  have hBx : Below w.heap.size w (W8.setRow N (V8.map v32).toArray) := by
    have h1 := HB0.out.trans (hO.below (B := w.heap.size) (Nat.le_of_eq HG.out.symm))
    refine h1.trans ⟨rfl, rfl, rfl, by simp [World.setRow], fun k hk => setRow_other _ _ _ _ (by have := HN.out; omega)⟩
  generalize hq : (V8.map v32).toArray = brr at hs8 ho8 h8' hBx
  have H8 := Lib.hid h8'
  have HRR := Lib.hid hRR
  have HBX := Lib.hid hBx
  have HS8 := Lib.hid hs8
  have HO8 := Lib.hid ho8
  have HQ := Lib.hid hq
  clear hq hs8 ho8 h8' hRR hBx h8 hO
  go_upto_region 9 with fail
  refine wp_region_lit ?_
  refine wpList_load_row rfl 56 _ rfl g rfl 56 brr (0, 0) _ H8.out Tryd.underlying56 rfl (by rw [HS8.out]; rfl) ?_
  refine wpList_plain rfl fun _ hK => wp_store_row 56 _ _ rfl N brr rfl rfl 56 Z HRR.out (by rw [HS8.out]; rfl) (by rw [HZS.out, HS8.out]) HO8.out (hK _ _ ?_)
  go_wp2_with fail
  refine bodyPost_ret (v := .agg brr) ?_ rfl ?_
  · exact results_cell_row rfl _ _ N 56 _ (0, 0) _ rfl (setRow_heap _ _ _ _ _ _ HRR.out) Tryd.underlying56 rfl (by rw [HS8.out]; rfl)
  · exact ⟨by rw [hqr.out, HQ.out], HBX.out⟩
end Go.Proofs.YtklaancgnfkjlaaDoor
