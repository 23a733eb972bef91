/- The reference digest: the state after a block. -/
import Derived.Test.YtklaancgnfkjlaaDoorGa
namespace Go.Proofs.YtklaancgnfkjlaaDoor
open Go.RowKit
set_option maxRecDepth 100000
set_option maxHeartbeats 4000000
set_option linter.unusedVariables false
set_option linter.unusedSimpArgs false

theorem slice_lh {P : Program} (t e : TypeId) (ht : P.underlying t = some (.slice e)) (hz : ∀ w, (sizeOf e).run P w = .ok 1 w) (g o n c l h : Nat) (hl : l ≤ h) (hh : h ≤ c) (hlc : l < c) (W : World) :
    (Instr.sliceAt t (.slice (some ⟨g, o, none⟩) n c) (some (.int .i64 (l : Int))) (some (.int .i64 (h : Int))) none).run P W = .ok (.slice (some ⟨g, o + l, none⟩) (h - l) (c - l)) W := by
  have he : P.elem t = e := by simp [Program.elem, ht]
  rw [run_sliceAt_slice W t _ _ _ _ (by rw [he]; exact ht), run_slice_lh W t _ n c (by rw [he]; exact ht) .i64 .i64 _ _ (by omega) (by omega) (by omega), he]
  simp [hz, Result.andThen, sliced, Addr.add]
  rw [if_neg (by omega)]
  split <;> simp [*]
theorem alloc75 (w : World) : (Instr.alloc 75 true (.tuple #[])).run Tryd.prog w = .ok (.pointer (some ⟨w.heap.size, 0, none⟩)) (w.alloc (.cells (List.replicate 64 (Value.int .u32 0)).toArray 75)) := by kernel_rfl
theorem zero64 (b : List (BitVec 8)) : ((schedA b 0).map v32).toArray = (List.replicate 64 (Value.int .u32 0)).toArray := by simp [schedA, v32]

theorem rblk_ok (s : List (BitVec 32)) (b : List (BitVec 8)) (hs : s.length = 8) (hb : b.length = 64) (gb o c : Nat) (hc : 64 ≤ c) (w : World)
    (hcell : ∀ j, j < 64 → w.cell? ⟨gb, o + j, none⟩ = some (.int .u8 (b.getD j 0).toNat)) :
    Calls Tryd.prog 47 #[.agg (s.map v32).toArray, .slice (some ⟨gb, o, none⟩) 64 c] w fun e w' =>
      e = .returned (.agg ((absorbS s b).map v32).toArray) ∧ Below w.heap.size w w' := by
  have hgb : gb < w.heap.size := cell_lt (hcell 0 (by omega))
  have hss := agg_size s 8 hs
  generalize hsa : (s.map v32).toArray = sarr at hss ⊢
  have HSA := Lib.hid hsa
  have HSS := Lib.hid hss
  have HC := Lib.hid hcell
  clear hsa hss hcell
  go_enter Tryd.func47, Tryd.ntmps47
  go_upto_region 1 with fail
  obtain ⟨Z8, hZ8⟩ : ∃ Z : Array Value, Z = #[.int .u32 0, .int .u32 0, .int .u32 0, .int .u32 0, .int .u32 0, .int .u32 0, .int .u32 0, .int .u32 0] := ⟨_, rfl⟩
  rw [← hZ8]
  have hZ8s : Z8.size = 8 := by rw [hZ8]; rfl
  have hS0 : ((w.alloc (.cells sarr 65)).alloc (.cells Z8 65)).heap[w.heap.size]? = some (.cells sarr 65 (0, 0)) := (Below.heap_alloc _ _ _ (by simp)).trans (World.alloc_heap_new w _)
  have hR0 : ((w.alloc (.cells sarr 65)).alloc (.cells Z8 65)).heap[w.heap.size + 1]? = some (.cells Z8 65 (0, 0)) := alloc_new2 w _ _
  have hB0 : Below w.heap.size w ((w.alloc (.cells sarr 65)).alloc (.cells Z8 65)) := Below.al (Below.al (Below.refl _ _) _) _
  obtain ⟨W0, hW0⟩ : ∃ W, W = (w.alloc (.cells sarr 65)).alloc (.cells Z8 65) := ⟨_, rfl⟩
  rw [← hW0] at hS0 hR0 hB0 ⊢
  have HZ8S := Lib.hid hZ8s
  clear hZ8 hZ8s hW0
  refine wp_region_lit ?_
  refine wpList_value (v := .agg (List.replicate 64 (Value.int .u32 0)).toArray) rfl (by kernel_rfl) ?_
  obtain ⟨Z64, hZ64⟩ : ∃ Z, Z = (List.replicate 64 (Value.int .u32 0)).toArray := ⟨_, rfl⟩
  have hal := alloc75
  have hZone : Z64.all (·.oneCell') = true := by rw [hZ64, ← zero64 b]; exact v32_all _
  have hZs : Z64.size = 64 := by rw [hZ64]; simp
  have hZa : ((schedA b 0).map v32).toArray = Z64 := by rw [hZ64]; exact zero64 b
  rw [← hZ64] at hal ⊢
  have HZS := Lib.hid hZs
  have HZA := Lib.hid hZa
  clear hZ64 hZs hZa
  refine wpList_plain rfl fun _ hK => wp_alloc_as 75 rfl Z64 hal (hK _ _ ?_)
  refine wpList_plain rfl fun _ hK => wp_store_row 75 _ _ rfl W0.heap.size Z64 rfl rfl 75 Z64 (World.alloc_heap_new W0 _) (by rw [HZS.out]; rfl) rfl hZone (hK _ _ ?_)
  rw [setRow_same (World.alloc_heap_new W0 _)]
  have hA1 : Arr32 (W0.alloc (.cells Z64 75)) W0.heap.size 75 (schedA b 0) := by
    show _ = some (Obj.cells ((schedA b 0).map v32).toArray _ (0, 0))
    rw [HZA.out]; exact World.alloc_heap_new W0 _
  have hS1 := (Below.heap_alloc W0 (.cells Z64 75) _ (Array.getElem?_eq_some_iff.1 hS0).1).trans hS0
  have hR1 := (Below.heap_alloc W0 (.cells Z64 75) _ (Array.getElem?_eq_some_iff.1 hR0).1).trans hR0
  have hB1 : Below w.heap.size w (W0.alloc (.cells Z64 75)) := Below.al hB0 _
  have hl1 := (Array.getElem?_eq_some_iff.1 hS0).1
  have hl2 := (Array.getElem?_eq_some_iff.1 hR0).1
  obtain ⟨W1, hW1⟩ : ∃ W, W = W0.alloc (.cells Z64 75) := ⟨_, rfl⟩
  obtain ⟨G, hG⟩ : ∃ G, G = W0.heap.size := ⟨_, rfl⟩
  obtain ⟨R, hR⟩ : ∃ R, R = w.heap.size + 1 := ⟨_, rfl⟩
  obtain ⟨S, hS⟩ : ∃ S, S = w.heap.size := ⟨_, rfl⟩
  rw [← hW1] at hA1 hS1 hR1 hB1 ⊢
  rw [← hG] at hA1 hl1 hl2 ⊢
  rw [← hR] at hR1 hl2 ⊢
  have hSR : S < R := by omega
  have hSw : w.heap.size ≤ S := by omega
  have hwR : w.heap.size ≤ R := by omega
  rw [← hS] at hS1 hl1 ⊢
  have HA1 := Lib.hid hA1
  have HS1 := Lib.hid hS1
  have HR1 := Lib.hid hR1
  have HB1 := Lib.hid hB1
  clear hA1 hS1 hR1 hB1 hW1 hG hR hS hZone hal hS0 hR0 hB0
  go_wp2_with fail
  go_loopw [6] (fun t' wr => ∃ t : Nat, t' = .int .i64 t ∧ t ≤ 16 ∧ Hid (Arr32 wr G 75 (schedA b t)) ∧ Hid (OnlyAt G W1 wr)) (fun t' _ => (16 - intOf t').toNat)
  case atStart => exact ⟨0, rfl, by omega, HA1, OnlyAt.refl _ _⟩
  case round =>
    obtain ⟨t, rfl, ht, HAt, HOt⟩ := hrel
    by_cases hlt : t < 16
    · have hdt : decide ((t : Int) < 16) = true := by simp; omega
      have hcb : ∀ j, j < 64 → wr.cell? ⟨gb, o + j, none⟩ = some (.int .u8 (b.getD j 0).toNat) := fun j hj => by
        have h1 := cell_old (HC.out j hj) (HB1.out.block _ hgb)
        exact cell_old h1 (HOt.out.block _ (by show gb ≠ G; omega))
      have k0 := hcb (4 * t) (by omega)
      have k1 := hcb (4 * t + 1) (by omega)
      have k2 := hcb (4 * t + 2) (by omega)
      have k3 := hcb (4 * t + 3) (by omega)
      have F := HAt.out.frozen t
      have C := HAt.out.cell (i := t) (by rw [schedA_length]; omega)
      have K0 := Lib.hid k0
      have K1 := Lib.hid k1
      have K2 := Lib.hid k2
      have K3 := Lib.hid k3
      clear k0 k1 k2 k3 hcb
      have hsl : ∀ W, (Instr.sliceAt 28 (.slice (some ⟨gb, o, none⟩) 64 c) (some (.int .i64 (4 * (t : Int)))) (some (.int .i64 (4 * (t : Int) + 4))) none).run Tryd.prog W = .ok (.slice (some ⟨gb, o + 4 * t, none⟩) 4 (c - 4 * t)) W := fun W => by
        have h := slice_lh (P := Tryd.prog) 28 5 Tryd.underlying28 size5 gb o 64 c (4 * t) (4 * t + 4) (by omega) (by omega) (by omega) W
        rw [show 4 * t + 4 - 4 * t = 4 by omega, show ((4 * t : Nat) : Int) = 4 * (t : Int) by omega, show ((4 * t + 4 : Nat) : Int) = 4 * (t : Int) + 4 by omega] at h
        exact h
      go_upto_region 5 with fail
      go_wp2_with fail
      refine (rdword_any gb (o + 4 * t) _ 4 (by omega) (by omega) (b.getD (4 * t) 0) (b.getD (4 * t + 1) 0) (b.getD (4 * t + 2) 0) (b.getD (4 * t + 3) 0) _ K0.out K1.out K2.out K3.out).mono ?_
      rintro e w' ⟨rfl, q, rfl⟩
      have hx : be4 (b.getD (4 * t) 0) (b.getD (4 * t + 1) 0) (b.getD (4 * t + 2) 0) (b.getD (4 * t + 3) 0) = wacc (b.drop (4 * t)) 4 := by
        rw [wacc_be4]; simp [List.getD]
      rw [hx]
      clear hx
      obtain ⟨x, hx⟩ : ∃ x, x = wacc (b.drop (4 * t)) 4 := ⟨_, rfl⟩
      rw [← hx]
      have HX := Lib.hid hx
      clear hx
      go_wp2
      go_roundw
      case rel =>
        refine ⟨t + 1, by go_num, by omega, ?_, ?_⟩
        · show Arr32 _ _ _ (List.set _ _ _)
          rw [← HX.out]
          exact Arr32.set (W := wr.drewN q) HAt.out _ _
        · exact HOt.out.trans (OnlyAt.trans (b := wr.drewN q) ⟨rfl, rfl, rfl, rfl, fun _ _ => rfl⟩ (OnlyAt.setCell _ _ _ _))
      case measure => simp [intOf]; omega
    · have ht16 : t = 16 := by omega
      have HA16 : Hid (Arr32 wr G 75 (schedB b 0)) := by
        have h := HAt
        rw [ht16] at h
        exact h
      clear HAt ht16
      have hdt : decide ((t : Int) < 16) = false := by simp; omega
      go_wp2_with fail
      go_loopw [7] (fun t' wr => ∃ q : Nat, t' = .int .i64 q ∧ 16 ≤ q ∧ q ≤ 64 ∧ Hid (Arr32 wr G 75 (schedB b (q - 16))) ∧ Hid (OnlyAt G W1 wr)) (fun t' _ => (64 - intOf t').toNat)
      case atStart => exact ⟨16, rfl, by omega, by omega, HA16, HOt⟩
      case round =>
        obtain ⟨q, rfl, hq1, hq2, HAq, HOq⟩ := hrel
        by_cases hlq : q < 64
        · have hdq : decide ((q : Int) < 64) = true := by simp; omega
          have hc15 := HAq.out.cell (i := q - 15) (by rw [schedB_length]; omega)
          have hc2 := HAq.out.cell (i := q - 2) (by rw [schedB_length]; omega)
          have hnx := nextW_eq (schedB b (q - 16)) q
          generalize (schedB b (q - 16)).getD (q - 15) 0 = x at hc15 hnx
          generalize (schedB b (q - 16)).getD (q - 2) 0 = y at hc2 hnx
          have hc16 := HAq.out.cell (i := q - 16) (by rw [schedB_length]; omega)
          have hc7 := HAq.out.cell (i := q - 7) (by rw [schedB_length]; omega)
          have hcq := HAq.out.cell (i := q) (by rw [schedB_length]; omega)
          have F := HAq.out.frozen q
          generalize (schedB b (q - 16)).getD (q - 16) 0 = z at hc16 hnx
          generalize (schedB b (q - 16)).getD (q - 7) 0 = u at hc7 hnx
          generalize (schedB b (q - 16)).getD q 0 = u0 at hcq
          have HNX := Lib.hid hnx
          clear hnx
          go_upto_region 11 with fail
          refine wp_region_quiet_tail 29 (by kernel_rfl) (by kernel_rfl) ?_
          simp only [List.take_succ_cons, List.take_zero, List.drop_succ_cons, List.drop_zero]
          repeat (go_big_quiet_step (exact Calls.quiet_of (ror_any _ _ (by decide) _)))
          refine wpQuiet_nil ?_
          rintro _ ⟨nq2, rfl⟩
          go_wp2
          go_roundw
          case rel =>
            refine ⟨q + 1, by go_num, by omega, by omega, ?_, HOq.out.trans (OnlyAt.trans (b := wr.drewN nq2) ⟨rfl, rfl, rfl, rfl, fun _ _ => rfl⟩ (OnlyAt.setCell _ _ _ _))⟩
            have e1 : q + 1 - 16 = (q - 16) + 1 := by omega
            have e2 : 16 + (q - 16) = q := by omega
            rw [e1]
            show Arr32 _ _ _ (List.set _ (16 + (q - 16)) (nextW _ (16 + (q - 16))))
            rw [e2]
            rw [HNX.out, show rotv x (-7) = rorv x 7 from rfl, show rotv x (-18) = rorv x 18 from rfl, show rotv y (-17) = rorv y 17 from rfl, show rotv y (-19) = rorv y 19 from rfl]
            have h := Arr32.set (W := wr.drewN nq2) HAq.out q (z + (rorv x 7 ^^^ rorv x 18 ^^^ x >>> 3) + u + (rorv y 17 ^^^ rorv y 19 ^^^ y >>> 10))
            have hs3 : ((x.toNat : Int) / (8 : Int)) = ((x >>> 3).toNat : Int) := bshr x 3 8 (by decide)
            have hs10 : ((y.toNat : Int) / (1024 : Int)) = ((y >>> 10).toNat : Int) := bshr y 10 1024 (by decide)
            rw [hs3, hs10, bxor, bxor, bxor, bxor, badd4]
            exact h
          case measure => simp [intOf]; omega
        · have hq64 : q = 64 := by omega
          have HAw : Hid (Arr32 wr G 75 (schedB b 48)) := by
            have h := HAq
            rw [hq64] at h
            exact h
          have hdq : decide ((q : Int) < 64) = false := by simp; omega
          clear HAq hq64
          go_upto_region 12 with fail
          have hBr : Below w.heap.size w wr := HB1.out.trans (HOq.out.below (by omega))
          have hSr := (HOq.out.block S (by omega)).trans HS1.out
          have hRr := (HOq.out.block R (by omega)).trans HR1.out
          have HBr := Lib.hid hBr
          have HSr := Lib.hid hSr
          have HRr := Lib.hid hRr
          clear hBr hSr hRr HOq HA1 HS1 HR1 HB1
          refine wp_region_lit ?_
          refine wpList_callf rfl _ _ _ rfl Tryd.call50 #[] (by simp) (numbers_ok _) ?_
          rintro e w2 ⟨rfl, hBn⟩
          refine ⟨_, rfl, ?_⟩
          have hks := agg_size kNums 64 rfl
          have hko := v32_all kNums
          generalize hka : (kNums.map v32).toArray = karr at hks hko ⊢
          have HKA := Lib.hid hka
          have HKS := Lib.hid hks
          clear hka hks
          have hal := alloc75
          have hZs : (List.replicate 64 (Value.int .u32 0)).toArray.size = 64 := by simp
          generalize (List.replicate 64 (Value.int .u32 0)).toArray = Z at hal hZs
          have HZ := Lib.hid hZs
          clear hZs
          refine wpList_plain rfl fun _ hK => wp_alloc_as 75 rfl Z hal (hK _ _ ?_)
          refine wpList_plain rfl fun _ hK => wp_store_row 75 _ _ rfl w2.heap.size karr rfl rfl 75 Z (World.alloc_heap_new w2 _) (by rw [HKS.out]; rfl) (by rw [HZ.out, HKS.out]) hko (hK _ _ ?_)
          clear hal hko
          have hne2 : ∀ k, k < w2.heap.size → ((w2.alloc (.cells Z 75)).setRow w2.heap.size karr).heap[k]? = w2.heap[k]? := fun k hk => (setRow_other _ _ _ _ (by omega)).trans (Below.heap_alloc _ _ _ hk)
          have hA2 : Arr32 ((w2.alloc (.cells Z 75)).setRow w2.heap.size karr) G 75 (schedB b 48) := (hne2 G (Nat.lt_of_lt_of_le HAw.out.lt hBn.size)).trans ((hBn.block _ HAw.out.lt).trans HAw.out)
          have hK2 : Arr32 ((w2.alloc (.cells Z 75)).setRow w2.heap.size karr) w2.heap.size 75 kNums := by
            show _ = some (Obj.cells (kNums.map v32).toArray _ (0, 0))
            rw [HKA.out]; exact setRow_heap _ _ _ _ _ _ (World.alloc_heap_new w2 _)
          have hlS := (Array.getElem?_eq_some_iff.1 HSr.out).1
          have hlR := (Array.getElem?_eq_some_iff.1 HRr.out).1
          have hS2 := (hne2 S (Nat.lt_of_lt_of_le hlS hBn.size)).trans ((hBn.block _ hlS).trans HSr.out)
          have hR2 := (hne2 R (Nat.lt_of_lt_of_le hlR hBn.size)).trans ((hBn.block _ hlR).trans HRr.out)
          have hB2 : Below w.heap.size w ((w2.alloc (.cells Z 75)).setRow w2.heap.size karr) := Below.setRow ((HBr.out.trans (hBn.mono HBr.out.size)).alloc (Nat.le_trans HBr.out.size hBn.size) _) (Nat.le_trans HBr.out.size hBn.size) _
          obtain ⟨W2, hW2⟩ : ∃ W, W = (w2.alloc (.cells Z 75)).setRow w2.heap.size karr := ⟨_, rfl⟩
          obtain ⟨H, hH⟩ : ∃ H, H = w2.heap.size := ⟨_, rfl⟩
          rw [← hW2] at hA2 hK2 hS2 hR2 hB2 ⊢
          rw [← hH] at hK2 ⊢
          rw [← HSA.out] at hS2
          have HA2 := Lib.hid hA2
          have HK2 := Lib.hid hK2
          have HS2 : Hid (Arr32 W2 S 65 s) := Lib.hid hS2
          have HR2 := Lib.hid hR2
          have HB2 := Lib.hid hB2
          clear hA2 hK2 hS2 hR2 hB2 hW2 hH hne2 hBn hlS hlR HBr HSr HRr HAw HKA HKS HZ HSS
          try simp only [Act.put, List.getElem_toArray, List.getElem_cons_succ, List.getElem_cons_zero, List.setIfInBounds_toArray, List.set_cons_zero, List.set_cons_succ]
          have hsl : s = [s.getD 0 0, s.getD 1 0, s.getD 2 0, s.getD 3 0, s.getD 4 0, s.getD 5 0, s.getD 6 0, s.getD 7 0] := by
            match s, hs with
            | [a0, a1, a2, a3, a4, a5, a6, a7], _ => rfl
          have d0 := HS2.out.cell (i := 0) (by omega)
          have d1 := HS2.out.cell (i := 1) (by omega)
          have d2 := HS2.out.cell (i := 2) (by omega)
          have d3 := HS2.out.cell (i := 3) (by omega)
          have d4 := HS2.out.cell (i := 4) (by omega)
          have d5 := HS2.out.cell (i := 5) (by omega)
          have d6 := HS2.out.cell (i := 6) (by omega)
          have d7 := HS2.out.cell (i := 7) (by omega)
          have hrn0 : rnds s (schedB b 48) 0 = s := rfl
          generalize s.getD 0 0 = s0 at d0 hsl
          generalize s.getD 1 0 = s1 at d1 hsl
          generalize s.getD 2 0 = s2 at d2 hsl
          generalize s.getD 3 0 = s3 at d3 hsl
          generalize s.getD 4 0 = s4 at d4 hsl
          generalize s.getD 5 0 = s5 at d5 hsl
          generalize s.getD 6 0 = s6 at d6 hsl
          generalize s.getD 7 0 = s7 at d7 hsl
          have HRN0 : Hid (rnds s (schedB b 48) 0 = [s0, s1, s2, s3, s4, s5, s6, s7]) := Lib.hid (hrn0.trans hsl)
          have HSL := Lib.hid hsl
          have HWL := Lib.hid (schedB_length b 48)
          have HABS : Hid (absorbS s b = addR s (rnds s (schedB b 48) 64) 8) := Lib.hid rfl
          generalize schedB b 48 = SW at HA2 HWL HABS HRN0
          clear hsl hrn0
          go_upto_region 13 with fail
          go_quiet (fail)
          clear d0 d1 d2 d3 d4 d5 d6 d7
          go_upto_region 15 with fail
          go_loopw [11, 12, 13, 14, 15, 16, 17, 18, 19] (fun p0 p1 p2 p3 p4 p5 p6 p7 t' wr => ∃ (r : Nat) (v0 v1 v2 v3 v4 v5 v6 v7 : BitVec 32), t' = .int .i64 r ∧ r ≤ 64 ∧ p0 = .int .u32 v0.toNat ∧ p1 = .int .u32 v1.toNat ∧ p2 = .int .u32 v2.toNat ∧ p3 = .int .u32 v3.toNat ∧ p4 = .int .u32 v4.toNat ∧ p5 = .int .u32 v5.toNat ∧ p6 = .int .u32 v6.toNat ∧ p7 = .int .u32 v7.toNat ∧ Hid (rnds s SW r = [v0, v1, v2, v3, v4, v5, v6, v7]) ∧ Hid (∃ nz, wr = W2.drewN nz)) (fun _ _ _ _ _ _ _ _ t' _ => (64 - intOf t').toNat)
          case atStart => exact ⟨0, s0, s1, s2, s3, s4, s5, s6, s7, rfl, by omega, rfl, rfl, rfl, rfl, rfl, rfl, rfl, rfl, HRN0, Lib.hid ⟨_, rfl⟩⟩
          case round =>
            obtain ⟨r, v0, v1, v2, v3, v4, v5, v6, v7, rfl, hr, rfl, rfl, rfl, rfl, rfl, rfl, rfl, rfl, HRr, HNZ⟩ := hrel
            by_cases hlr : r < 64
            · have hdr : decide ((r : Int) < 64) = true := by simp; omega
              have HAr : Arr32 wr G 75 SW := by obtain ⟨nz, rfl⟩ := HNZ.out; exact HA2.out
              have HKr : Arr32 wr H 75 kNums := by obtain ⟨nz, rfl⟩ := HNZ.out; exact HK2.out
              have hwr := HAr.cell (i := r) (by rw [HWL.out]; exact hlr)
              have hkr := HKr.cell (i := r) (by rw [show kNums.length = 64 from rfl]; exact hlr)
              have HRN : Hid (rnds s SW (r + 1) = rndR (rnds s SW r) (kNums.getD r 0) (SW.getD r 0)) := Lib.hid rfl
              generalize kNums.getD r 0 = K0 at hkr HRN
              generalize SW.getD r 0 = X0 at hwr HRN
              clear HAr HKr
              have hr0 : (0 : Int) ≤ r := by omega
              have hr64 : (r : Int) < 64 := by omega
              have hnot : ∀ x : BitVec 32, (~~~x).toNat = 4294967295 - x.toNat := fun x => by rw [BitVec.toNat_not]
              have HNOT := Lib.hid hnot
              clear hnot
              go_upto_region 17 with fail
              go_quiet (exact Calls.quiet_of (ror_any _ _ (by decide) _))
              clear hwr hkr
              simp only [bnot, bxor, band, p_close]
              generalize hP : pN v4 v5 v6 v7 K0 X0 = P
              have HP := Lib.hid hP
              clear hP
              obtain ⟨Wn, hWn⟩ : ∃ W, W = wr.drewN nq := ⟨_, rfl⟩
              rw [← hWn]
              have HWN := Lib.hid hWn
              clear hWn
              go_upto_region 19 with (go_at_call 49; refine (ror_any _ _ (by decide) _).mono ?_; rintro e w' ⟨rfl, nq1, rfl⟩)
              simp only [bxor, band, q_close]
              generalize hQ : qN v0 v1 v2 = Q
              have HQ := Lib.hid hQ
              clear hQ
              go_wp2
              simp only [badd]
              go_roundw
              case rel =>
                refine ⟨r + 1, P + Q, v0, v1, v2, v3 + P, v4, v5, v6, by go_num, by omega, rfl, rfl, rfl, rfl, rfl, rfl, rfl, rfl, ?_, ?_⟩
                · rw [HRN.out, HRr.out, rnd_step, HP.out, HQ.out]
                  exact Lib.hid rfl
                · have hh : ∃ n, Wn = W2.drewN n := by rw [HWN.out]; exact dr_n HNZ.out _
                  exact Lib.hid (by repeat (first | exact hh | refine dr_n ?_ _))
              case measure => simp [intOf]; omega
            · have hdr : decide ((r : Int) < 64) = false := by simp; omega
              have hr64 : r = 64 := by omega
              have hfin := HRr.out
              rw [hr64] at hfin
              have HFIN := Lib.hid hfin
              clear hfin hr64 HRr
              have hSr : Arr32 wr S 65 s := by obtain ⟨nz, rfl⟩ := HNZ.out; exact HS2.out
              have hRr : wr.heap[R]? = some (.cells Z8 65 (0, 0)) := by obtain ⟨nz, rfl⟩ := HNZ.out; exact HR2.out
              have hBr : Below w.heap.size w wr := by obtain ⟨nz, rfl⟩ := HNZ.out; exact HB2.out.trans ⟨rfl, rfl, rfl, Nat.le_refl _, fun _ _ => rfl⟩
              have d0 := hSr.cell (i := 0) (by omega)
              have d1 := hSr.cell (i := 1) (by omega)
              have d2 := hSr.cell (i := 2) (by omega)
              have d3 := hSr.cell (i := 3) (by omega)
              have d4 := hSr.cell (i := 4) (by omega)
              have d5 := hSr.cell (i := 5) (by omega)
              have d6 := hSr.cell (i := 6) (by omega)
              have d7 := hSr.cell (i := 7) (by omega)
              rw [HSL.out] at d0 d1 d2 d3 d4 d5 d6 d7
              have HRR := Lib.hid hRr
              have HBR := Lib.hid hBr
              clear hSr hRr hBr
              have a0 : IntKind.u32.wrap ((s0.toNat : Int) + (v0.toNat : Int)) = ((s0 + v0).toNat : Int) := by rw [← badd]; rfl
              have a1 : IntKind.u32.wrap ((s1.toNat : Int) + (v1.toNat : Int)) = ((s1 + v1).toNat : Int) := by rw [← badd]; rfl
              have a2 : IntKind.u32.wrap ((s2.toNat : Int) + (v2.toNat : Int)) = ((s2 + v2).toNat : Int) := by rw [← badd]; rfl
              have a3 : IntKind.u32.wrap ((s3.toNat : Int) + (v3.toNat : Int)) = ((s3 + v3).toNat : Int) := by rw [← badd]; rfl
              have a4 : IntKind.u32.wrap ((s4.toNat : Int) + (v4.toNat : Int)) = ((s4 + v4).toNat : Int) := by rw [← badd]; rfl
              have a5 : IntKind.u32.wrap ((s5.toNat : Int) + (v5.toNat : Int)) = ((s5 + v5).toNat : Int) := by rw [← badd]; rfl
              have a6 : IntKind.u32.wrap ((s6.toNat : Int) + (v6.toNat : Int)) = ((s6 + v6).toNat : Int) := by rw [← badd]; rfl
              have a7 : IntKind.u32.wrap ((s7.toNat : Int) + (v7.toNat : Int)) = ((s7 + v7).toNat : Int) := by rw [← badd]; rfl
              have hab : absorbS s b = [s0 + v0, s1 + v1, s2 + v2, s3 + v3, s4 + v4, s5 + v5, s6 + v6, s7 + v7] := by rw [HABS.out, HFIN.out, HSL.out, addR_eight]
              have HAB := Lib.hid hab
              clear hab
              go_upto_region 20 with fail
              refine wp_region_lit ?_
              refine wpList_value (v := ?_) rfl ?_ ?_
              rotate_left
              · go_simp; with_reducible rfl
              try simp only [Act.put, List.getElem_toArray, List.getElem_cons_succ, List.getElem_cons_zero, List.setIfInBounds_toArray, List.set_cons_zero, List.set_cons_succ]
              refine wpList_value (v := ?_) rfl ?_ ?_
              rotate_left
              · go_simp; with_reducible rfl
              try simp only [Act.put, List.getElem_toArray, List.getElem_cons_succ, List.getElem_cons_zero, List.setIfInBounds_toArray, List.set_cons_zero, List.set_cons_succ]
              refine wpList_value (v := ?_) rfl ?_ ?_
              rotate_left
              · go_simp; with_reducible rfl
              try simp only [Act.put, List.getElem_toArray, List.getElem_cons_succ, List.getElem_cons_zero, List.setIfInBounds_toArray, List.set_cons_zero, List.set_cons_succ]
              refine wpList_value (v := ?_) rfl ?_ ?_
              rotate_left
              · go_simp; with_reducible rfl
              try simp only [Act.put, List.getElem_toArray, List.getElem_cons_succ, List.getElem_cons_zero, List.setIfInBounds_toArray, List.set_cons_zero, List.set_cons_succ]
              refine wpList_value (v := ?_) rfl ?_ ?_
              rotate_left
              · go_simp; with_reducible rfl
              try simp only [Act.put, List.getElem_toArray, List.getElem_cons_succ, List.getElem_cons_zero, List.setIfInBounds_toArray, List.set_cons_zero, List.set_cons_succ]
              refine wpList_value (v := ?_) rfl ?_ ?_
              rotate_left
              · go_simp; with_reducible rfl
              try simp only [Act.put, List.getElem_toArray, List.getElem_cons_succ, List.getElem_cons_zero, List.setIfInBounds_toArray, List.set_cons_zero, List.set_cons_succ]
              refine wpList_value (v := ?_) rfl ?_ ?_
              rotate_left
              · go_simp; with_reducible rfl
              try simp only [Act.put, List.getElem_toArray, List.getElem_cons_succ, List.getElem_cons_zero, List.setIfInBounds_toArray, List.set_cons_zero, List.set_cons_succ]
              refine wpList_value (v := ?_) rfl ?_ ?_
              rotate_left
              · go_simp; with_reducible rfl
              try simp only [Act.put, List.getElem_toArray, List.getElem_cons_succ, List.getElem_cons_zero, List.setIfInBounds_toArray, List.set_cons_zero, List.set_cons_succ]
              refine wpList_value (v := ?_) rfl ?_ ?_
              rotate_left
              · go_simp; with_reducible rfl
              try simp only [Act.put, List.getElem_toArray, List.getElem_cons_succ, List.getElem_cons_zero, List.setIfInBounds_toArray, List.set_cons_zero, List.set_cons_succ]
              refine wpList_value (v := ?_) rfl ?_ ?_
              rotate_left
              · go_simp; with_reducible rfl
              try simp only [Act.put, List.getElem_toArray, List.getElem_cons_succ, List.getElem_cons_zero, List.setIfInBounds_toArray, List.set_cons_zero, List.set_cons_succ]
              refine wpList_value (v := ?_) rfl ?_ ?_
              rotate_left
              · go_simp; with_reducible rfl
              try simp only [Act.put, List.getElem_toArray, List.getElem_cons_succ, List.getElem_cons_zero, List.setIfInBounds_toArray, List.set_cons_zero, List.set_cons_succ]
              refine wpList_value (v := ?_) rfl ?_ ?_
              rotate_left
              · go_simp; with_reducible rfl
              try simp only [Act.put, List.getElem_toArray, List.getElem_cons_succ, List.getElem_cons_zero, List.setIfInBounds_toArray, List.set_cons_zero, List.set_cons_succ]
              refine wpList_value (v := ?_) rfl ?_ ?_
              rotate_left
              · go_simp; with_reducible rfl
              try simp only [Act.put, List.getElem_toArray, List.getElem_cons_succ, List.getElem_cons_zero, List.setIfInBounds_toArray, List.set_cons_zero, List.set_cons_succ]
              refine wpList_value (v := ?_) rfl ?_ ?_
              rotate_left
              · go_simp; with_reducible rfl
              try simp only [Act.put, List.getElem_toArray, List.getElem_cons_succ, List.getElem_cons_zero, List.setIfInBounds_toArray, List.set_cons_zero, List.set_cons_succ]
              refine wpList_value (v := ?_) rfl ?_ ?_
              rotate_left
              · go_simp; with_reducible rfl
              try simp only [Act.put, List.getElem_toArray, List.getElem_cons_succ, List.getElem_cons_zero, List.setIfInBounds_toArray, List.set_cons_zero, List.set_cons_succ]
              refine wpList_value (v := ?_) rfl ?_ ?_
              rotate_left
              · go_simp; with_reducible rfl
              try simp only [Act.put, List.getElem_toArray, List.getElem_cons_succ, List.getElem_cons_zero, List.setIfInBounds_toArray, List.set_cons_zero, List.set_cons_succ]
              refine wpList_value (v := ?_) rfl ?_ ?_
              rotate_left
              · go_simp; with_reducible rfl
              try simp only [Act.put, List.getElem_toArray, List.getElem_cons_succ, List.getElem_cons_zero, List.setIfInBounds_toArray, List.set_cons_zero, List.set_cons_succ]
              refine wpList_value (v := ?_) rfl ?_ ?_
              rotate_left
              · go_simp; with_reducible rfl
              try simp only [Act.put, List.getElem_toArray, List.getElem_cons_succ, List.getElem_cons_zero, List.setIfInBounds_toArray, List.set_cons_zero, List.set_cons_succ]
              refine wpList_value (v := ?_) rfl ?_ ?_
              rotate_left
              · go_simp; with_reducible rfl
              try simp only [Act.put, List.getElem_toArray, List.getElem_cons_succ, List.getElem_cons_zero, List.setIfInBounds_toArray, List.set_cons_zero, List.set_cons_succ]
              refine wpList_value (v := ?_) rfl ?_ ?_
              rotate_left
              · go_simp; with_reducible rfl
              try simp only [Act.put, List.getElem_toArray, List.getElem_cons_succ, List.getElem_cons_zero, List.setIfInBounds_toArray, List.set_cons_zero, List.set_cons_succ]
              refine wpList_value (v := ?_) rfl ?_ ?_
              rotate_left
              · go_simp; with_reducible rfl
              try simp only [Act.put, List.getElem_toArray, List.getElem_cons_succ, List.getElem_cons_zero, List.setIfInBounds_toArray, List.set_cons_zero, List.set_cons_succ]
              refine wpList_value (v := ?_) rfl ?_ ?_
              rotate_left
              · go_simp; with_reducible rfl
              try simp only [Act.put, List.getElem_toArray, List.getElem_cons_succ, List.getElem_cons_zero, List.setIfInBounds_toArray, List.set_cons_zero, List.set_cons_succ]
              refine wpList_value (v := ?_) rfl ?_ ?_
              rotate_left
              · go_simp; with_reducible rfl
              try simp only [Act.put, List.getElem_toArray, List.getElem_cons_succ, List.getElem_cons_zero, List.setIfInBounds_toArray, List.set_cons_zero, List.set_cons_succ]
              refine wpList_value (v := ?_) rfl ?_ ?_
              rotate_left
              · go_simp; with_reducible rfl
              try simp only [Act.put, List.getElem_toArray, List.getElem_cons_succ, List.getElem_cons_zero, List.setIfInBounds_toArray, List.set_cons_zero, List.set_cons_succ]
              refine wpList_value (v := ?_) rfl ?_ ?_
              rotate_left
              · go_simp; with_reducible rfl
              try simp only [Act.put, List.getElem_toArray, List.getElem_cons_succ, List.getElem_cons_zero, List.setIfInBounds_toArray, List.set_cons_zero, List.set_cons_succ]
              refine wpList_value (v := ?_) rfl ?_ ?_
              rotate_left
              · go_simp; with_reducible rfl
              try simp only [Act.put, List.getElem_toArray, List.getElem_cons_succ, List.getElem_cons_zero, List.setIfInBounds_toArray, List.set_cons_zero, List.set_cons_succ]
              refine wpList_value (v := ?_) rfl ?_ ?_
              rotate_left
              · go_simp; with_reducible rfl
              try simp only [Act.put, List.getElem_toArray, List.getElem_cons_succ, List.getElem_cons_zero, List.setIfInBounds_toArray, List.set_cons_zero, List.set_cons_succ]
              refine wpList_value (v := ?_) rfl ?_ ?_
              rotate_left
              · go_simp; with_reducible rfl
              try simp only [Act.put, List.getElem_toArray, List.getElem_cons_succ, List.getElem_cons_zero, List.setIfInBounds_toArray, List.set_cons_zero, List.set_cons_succ]
              refine wpList_value (v := ?_) rfl ?_ ?_
              rotate_left
              · go_simp; with_reducible rfl
              try simp only [Act.put, List.getElem_toArray, List.getElem_cons_succ, List.getElem_cons_zero, List.setIfInBounds_toArray, List.set_cons_zero, List.set_cons_succ]
              refine wpList_value (v := ?_) rfl ?_ ?_
              rotate_left
              · go_simp; with_reducible rfl
              try simp only [Act.put, List.getElem_toArray, List.getElem_cons_succ, List.getElem_cons_zero, List.setIfInBounds_toArray, List.set_cons_zero, List.set_cons_succ]
              refine wpList_value (v := ?_) rfl ?_ ?_
              rotate_left
              · go_simp; with_reducible rfl
              try simp only [Act.put, List.getElem_toArray, List.getElem_cons_succ, List.getElem_cons_zero, List.setIfInBounds_toArray, List.set_cons_zero, List.set_cons_succ]
              refine wpList_value (v := ?_) rfl ?_ ?_
              rotate_left
              · go_simp; with_reducible rfl
              try simp only [Act.put, List.getElem_toArray, List.getElem_cons_succ, List.getElem_cons_zero, List.setIfInBounds_toArray, List.set_cons_zero, List.set_cons_succ]
              refine wpList_value (v := ?_) rfl ?_ ?_
              rotate_left
              · go_simp; with_reducible rfl
              try simp only [Act.put, List.getElem_toArray, List.getElem_cons_succ, List.getElem_cons_zero, List.setIfInBounds_toArray, List.set_cons_zero, List.set_cons_succ]
              clear a0 a1 a2 a3 a4 a5 a6 a7 d0 d1 d2 d3 d4 d5 d6 d7
              simp only [badd]
              have hrs := agg_size (absorbS s b) 8 (absorbS_length s b hs)
              have hro := v32_all (absorbS s b)
              have hra : ((absorbS s b).map v32).toArray = #[.int .u32 (s0 + v0).toNat, .int .u32 (s1 + v1).toNat, .int .u32 (s2 + v2).toNat, .int .u32 (s3 + v3).toNat, .int .u32 (s4 + v4).toNat, .int .u32 (s5 + v5).toNat, .int .u32 (s6 + v6).toNat, .int .u32 (s7 + v7).toNat] := by rw [HAB.out]; rfl
              rw [hra] at hrs hro
              have HRA := Lib.hid hra
              clear hra
              generalize (#[.int .u32 (s0 + v0).toNat, .int .u32 (s1 + v1).toNat, .int .u32 (s2 + v2).toNat, .int .u32 (s3 + v3).toNat, .int .u32 (s4 + v4).toNat, .int .u32 (s5 + v5).toNat, .int .u32 (s6 + v6).toNat, .int .u32 (s7 + v7).toNat] : Array Value) = rarr at hrs hro HRA ⊢
              have HRS := Lib.hid hrs
              clear hrs
              have hBz : Below w.heap.size w (wr.setRow R rarr) := Below.setRow HBR.out hwR _
              have HBZ := Lib.hid hBz
              clear hBz
              refine wpList_plain rfl fun _ hK => wp_store_row 65 _ _ rfl R rarr rfl rfl 65 Z8 HRR.out (by rw [HRS.out]; rfl) (by rw [HZ8S.out, HRS.out]) hro (hK _ _ ?_)
              go_wp2_with fail
              refine bodyPost_ret (v := .agg rarr) ?_ rfl ?_
              · exact results_cell_row rfl _ _ R 65 _ (0, 0) _ rfl (setRow_heap _ _ _ _ _ _ HRR.out) Tryd.underlying65 rfl (by rw [HRS.out]; rfl)
              · exact ⟨by rw [HRA.out], HBZ.out⟩
end Go.Proofs.YtklaancgnfkjlaaDoor
