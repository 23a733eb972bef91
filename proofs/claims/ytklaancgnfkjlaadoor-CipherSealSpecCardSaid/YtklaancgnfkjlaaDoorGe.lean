/- The reference digest: Sum. -/
import Derived.Test.YtklaancgnfkjlaaDoorGd
import Derived.Test.YtklaancgnfkjlaaDoorEk
namespace Go.Proofs.YtklaancgnfkjlaaDoor
open Go.RowKit
set_option maxRecDepth 100000
set_option maxHeartbeats 2000000
set_option linter.unusedVariables false
set_option linter.unusedSimpArgs false

theorem th_arr32 {W : World} {g n : Nat} {t : TypeId} {v : List (BitVec 32)} (h : Arr32 W g t v) (hn : v.length = n) : W.there g 0 n := fun j hj => by
  rw [Nat.zero_add]
  exact ⟨by rw [h.cell (i := j) (by omega)]; rfl, h.frozen j⟩
theorem range_arr32 {W : World} {g : Nat} {t : TypeId} {v : List (BitVec 32)} (h : Arr32 W g t v) : W.rangeAt g 0 (v.map v32) := range_new (t := t) h
theorem sh64 (x : BitVec 32) (k : Nat) : ((x.setWidth 64) >>> k).setWidth 8 = (x >>> k).setWidth 8 := by
  apply BitVec.eq_of_toNat_eq
  have hx := x.isLt
  simp only [BitVec.toNat_setWidth, BitVec.toNat_ushiftRight]
  rw [Nat.mod_eq_of_lt (by omega : x.toNat < 2 ^ 64)]
/-- The bytes of the hash, one after the other. -/
def outR (s : List (BitVec 32)) : Nat → List (BitVec 8)
  | 0 => List.replicate 32 0
  | i + 1 => (outR s i).set i ((s.getD (i / 4) 0 >>> (24 - 8 * (i % 4))).setWidth 8)
theorem outR_length (s i) : (outR s i).length = 32 := by induction i with
  | zero => rfl
  | succ i ih => simp [outR, ih]
theorem outR_eq (s : List (BitVec 32)) : outR s 32 = outL s 8 := by
  generalize h0 : s.getD 0 0 = s0
  generalize h1 : s.getD 1 0 = s1
  generalize h2 : s.getD 2 0 = s2
  generalize h3 : s.getD 3 0 = s3
  generalize h4 : s.getD 4 0 = s4
  generalize h5 : s.getD 5 0 = s5
  generalize h6 : s.getD 6 0 = s6
  generalize h7 : s.getD 7 0 = s7
  simp [outR, outL, putL, List.replicate, sh64, h0, h1, h2, h3, h4, h5, h6, h7]
theorem store_new65 (w : World) (c c' : Array Value) (hc : c.size = 8) (hc' : c'.size = 8) (h1 : c'.all (·.oneCell') = true) :
    (storeCells ⟨w.heap.size, 0, none⟩ c'.toList 0).run Tryd.prog (w.alloc (.cells c 65)) = .ok () (w.alloc (.cells c' 65)) :=
  run_storeCells_new w _ c c' (by rw [show (Tryd.prog.info? 65).map (·.size) = some 8 from by kernel_rfl, hc']) (by rw [hc, hc']) h1
theorem info65 : (Tryd.prog.info? 65).map (·.size) = some 8 := by kernel_rfl

theorem rsum_ok (v : Value) (l : List (BitVec 8)) (hl : l.length ≤ 1000000) (w : World) (hv : BytesAt w v l) :
    Calls Tryd.prog 43 #[v] w fun e w' => e = .returned (.agg ((sumL l).map v8).toArray) ∧ Below w.heap.size w w' := by
  have HV := Lib.hid hv
  obtain ⟨p, c, rfl, hc, -⟩ := bytes_form hv
  clear hv
  have hal8 : ∀ w, (Instr.alloc 65 true (.tuple #[])).run Tryd.prog w = .ok (.pointer (some ⟨w.heap.size, 0, none⟩)) (w.alloc (.cells #[.int .u32 0, .int .u32 0, .int .u32 0, .int .u32 0, .int .u32 0, .int .u32 0, .int .u32 0, .int .u32 0] 65)) := fun w => by kernel_rfl
  go_enter Tryd.func43, Tryd.ntmps43
  go_upto_region 1 with fail
  obtain ⟨Z, hZ⟩ : ∃ Z : Array Value, Z = #[.int .u8 0, .int .u8 0, .int .u8 0, .int .u8 0, .int .u8 0, .int .u8 0, .int .u8 0, .int .u8 0, .int .u8 0, .int .u8 0, .int .u8 0, .int .u8 0, .int .u8 0, .int .u8 0, .int .u8 0, .int .u8 0, .int .u8 0, .int .u8 0, .int .u8 0, .int .u8 0, .int .u8 0, .int .u8 0, .int .u8 0, .int .u8 0, .int .u8 0, .int .u8 0, .int .u8 0, .int .u8 0, .int .u8 0, .int .u8 0, .int .u8 0, .int .u8 0] := ⟨_, rfl⟩
  rw [← hZ]
  have hZs : Z.size = 32 := by rw [hZ]; rfl
  have HZS := Lib.hid hZs
  clear hZ hZs
  refine wp_region_lit ?_
  refine wpList_value (v := .agg (hNums.map v32).toArray) rfl (by kernel_rfl) ?_
  have hhs := agg_size hNums 8 rfl
  have hho := v32_all hNums
  generalize hha : (hNums.map v32).toArray = harr at hhs hho ⊢
  have HHA := Lib.hid hha
  have HHS := Lib.hid hhs
  clear hha hhs
  refine wpList_plain rfl fun _ hK => wp_alloc_as 65 rfl _ hal8 (hK _ _ ?_)
  refine wpList_plain rfl fun _ hK => wp_store_row 65 _ _ rfl (w.alloc (.cells Z 41)).heap.size harr rfl rfl 65 _ (World.alloc_heap_new _ _) (by rw [HHS.out]; rfl) (by rw [HHS.out]; rfl) hho (hK _ _ ?_)
  have hR0 : (((w.alloc (.cells Z 41)).alloc (.cells #[.int .u32 0, .int .u32 0, .int .u32 0, .int .u32 0, .int .u32 0, .int .u32 0, .int .u32 0, .int .u32 0] 65)).setRow (w.alloc (.cells Z 41)).heap.size harr).heap[w.heap.size]? = some (.cells Z 41 (0, 0)) :=
    (setRow_other _ _ _ _ (by simp)).trans ((Below.heap_alloc _ _ _ (by simp)).trans (World.alloc_heap_new w _))
  have hA0 : Arr32 (((w.alloc (.cells Z 41)).alloc (.cells #[.int .u32 0, .int .u32 0, .int .u32 0, .int .u32 0, .int .u32 0, .int .u32 0, .int .u32 0, .int .u32 0] 65)).setRow (w.alloc (.cells Z 41)).heap.size harr) (w.alloc (.cells Z 41)).heap.size 65 (absN hNums (padL l 8) 0) := by
    show _ = some (Obj.cells (hNums.map v32).toArray _ (0, 0))
    rw [HHA.out]; exact setRow_heap _ _ _ _ _ _ (World.alloc_heap_new _ _)
  have hB0 : Below w.heap.size w (((w.alloc (.cells Z 41)).alloc (.cells #[.int .u32 0, .int .u32 0, .int .u32 0, .int .u32 0, .int .u32 0, .int .u32 0, .int .u32 0, .int .u32 0] 65)).setRow (w.alloc (.cells Z 41)).heap.size harr) :=
    Below.setRow (Below.al (Below.al (Below.refl _ _) _) _) (by simp) _
  obtain ⟨W1, hW1⟩ : ∃ W, W = (((w.alloc (.cells Z 41)).alloc (.cells #[.int .u32 0, .int .u32 0, .int .u32 0, .int .u32 0, .int .u32 0, .int .u32 0, .int .u32 0, .int .u32 0] 65)).setRow (w.alloc (.cells Z 41)).heap.size harr) := ⟨_, rfl⟩
  obtain ⟨G, hG⟩ : ∃ G, G = (w.alloc (.cells Z 41)).heap.size := ⟨_, rfl⟩
  obtain ⟨R, hR⟩ : ∃ R, R = w.heap.size := ⟨_, rfl⟩
  have hGR : R < G := by rw [hG, hR]; simp
  have hwR : w.heap.size ≤ R := by omega
  rw [← hW1] at hR0 hA0 hB0 ⊢
  rw [← hG] at hA0 ⊢
  rw [← hR] at hR0 ⊢
  have HR0 := Lib.hid hR0
  have HA0 := Lib.hid hA0
  have HB0 := Lib.hid hB0
  clear hR0 hA0 hB0 hW1 hG hR hho hal8 HHA HHS
  go_wp2_with fail
  refine (rpad_ok _ l hl _ (HV.out.below HB0.out)).mono ?_
  rintro e w2 ⟨u, rfl, hown, hBp⟩
  rw [pad_len] at hown
  obtain ⟨pp, cp, rfl, hcp, hpp⟩ := own_form hown
  have hPl : (padL l 8).length = 64 * (l.length / 64 + endE l.length / 64) := by rw [padL_length, pad_len]
  have hNl : l.length / 64 + endE l.length / 64 ≤ 20000 := by unfold endE; split <;> omega
  have hN0 : 0 < l.length / 64 + endE l.length / 64 := by unfold endE; split <;> omega
  have hsum := sum_pad l hl
  obtain ⟨NB, hNB⟩ : ∃ NB, NB = l.length / 64 + endE l.length / 64 := ⟨_, rfl⟩
  rw [← hNB] at hown hcp hpp hPl hNl hN0 hsum ⊢
  obtain ⟨gp, rfl, hgp1, hgp2⟩ := hpp (by omega)
  obtain ⟨P, hP⟩ : ∃ P, P = padL l 8 := ⟨_, rfl⟩
  rw [← hP] at hown hPl hsum HA0
  have hcellP : ∀ j, j < P.length → w2.cell? ⟨gp, j, none⟩ = some (.int .u8 (P.getD j 0).toNat) := fun j hj => (own_cell hown j (by omega)).1
  have HCP := Lib.hid hcellP
  have HSUM := Lib.hid hsum
  have HPL := Lib.hid hPl
  have HA2 : Hid (Arr32 w2 G 65 (absN hNums P 0)) := Lib.hid ((hBp.block _ HA0.out.lt).trans HA0.out)
  have HR2 : Hid (w2.heap[R]? = some (.cells Z 41 (0, 0))) := Lib.hid ((hBp.block _ (Array.getElem?_eq_some_iff.1 HR0.out).1).trans HR0.out)
  have HB2 := Lib.hid (HB0.out.trans (hBp.mono HB0.out.size))
  have hgG : gp ≠ G := by have := HA0.out.lt; omega
  have hgl : gp < w2.heap.size := hgp2
  have hgw : w.heap.size ≤ gp := Nat.le_trans HB0.out.size hgp1
  obtain ⟨m, hm⟩ : ∃ m, m = 64 * NB := ⟨_, rfl⟩
  rw [← hm] at hcp ⊢
  have hm1 : m ≤ 1280000 := by omega
  have HM := Lib.hid hm
  clear hm
  clear hcellP hsum hPl hBp hown hNB hP hpp HA0 HR0 HB0 hgp1 hgp2 HV
  go_wp2_with fail
  go_loopw [5] (fun t' wr => ∃ k : Nat, t' = .int .i64 ((64 * k : Nat) : Int) ∧ k ≤ NB ∧ Hid (Arr32 wr G 65 (absN hNums P k)) ∧ Hid (wr.heap[R]? = some (.cells Z 41 (0, 0))) ∧ Hid (∀ j, j < P.length → wr.cell? ⟨gp, j, none⟩ = some (.int .u8 (P.getD j 0).toNat)) ∧ Hid (gp < wr.heap.size) ∧ Hid (Below w.heap.size w wr)) (fun t' _ => (m - intOf t').toNat)
  case atStart => exact ⟨0, rfl, Nat.zero_le _, HA2, HR2, HCP, Lib.hid hgl, HB2⟩
  case round =>
    obtain ⟨k, rfl, hk, HAk, HRk, HCk, HGk, HBk⟩ := hrel
    obtain ⟨n, hn⟩ : ∃ n, n = 64 * k := ⟨_, rfl⟩
    rw [← hn]
    have hn1 : n ≤ 1280000 := by have := HM.out; omega
    have HN := Lib.hid hn
    clear hn
    by_cases hlt : n < m
    · have hd1 : decide ((n : Int) < (m : Int)) = true := by simp; omega
      have hd2 : decide (n < m) = true := by simp; omega
      have hkN : k < NB := by have := HN.out; have := HM.out; omega
      have hnm : n + 64 ≤ m := by have := HN.out; have := HM.out; omega
      have wadd : IntKind.i64.wrap ((n : Int) + 64) = (n : Int) + 64 := by rw [IntKind.wrap_i64]; omega
      have hsl : ∀ W, (Instr.sliceAt 28 (.slice (some ⟨gp, 0, none⟩) m cp) (some (.int .i64 (n : Int))) (some (.int .i64 ((n : Int) + 64))) none).run Tryd.prog W = .ok (.slice (some ⟨gp, n, none⟩) 64 (cp - n)) W := fun W => by
        have h := slice_lh (P := Tryd.prog) 28 5 Tryd.underlying28 size5 gp 0 m cp n (n + 64) (by omega) (by omega) (by omega) W
        rw [show n + 64 - n = 64 by omega, Nat.zero_add, show ((n + 64 : Nat) : Int) = (n : Int) + 64 by omega] at h
        exact h
      have hblk : ∀ W, (∀ j, j < P.length → W.cell? ⟨gp, j, none⟩ = some (.int .u8 (P.getD j 0).toNat)) → Calls Tryd.prog 47 #[.agg ((absN hNums P k).map v32).toArray, .slice (some ⟨gp, n, none⟩) 64 (cp - n)] W fun e w' => e = .returned (.agg ((absN hNums P (k + 1)).map v32).toArray) ∧ Below W.heap.size W w' := fun W h => by
        refine rblk_ok (absN hNums P k) ((P.drop (64 * k)).take 64) (absN_length _ _ _ rfl) (blk_length _ _ (by have := HPL.out; have := HN.out; omega)) gp n (cp - n) (by omega) W (fun j hj => ?_)
        rw [blk_getD _ _ _ hj, h (n + j) (by have := HPL.out; have := HM.out; omega), ← HN.out]
      have hsX := agg_size (absN hNums P k) 8 (absN_length _ _ _ rfl)
      have hrX := range_arr32 HAk.out
      have hlX : (P.length = P.length) := rfl
      have hi65 : (Tryd.prog.info? 65).map (·.size) = some ((absN hNums P k).map v32).length := by rw [List.length_map, absN_length _ _ _ rfl]; exact info65
      have hlen1 := absN_length hNums P k rfl
      have hlen2 := absN_length hNums P (k + 1) rfl
      generalize hX2 : absN hNums P (k + 1) = X2 at hblk hlen2
      have HX2 := Lib.hid hX2
      clear hX2
      generalize absN hNums P k = X1 at HAk hsX hrX hi65 hblk hlen1
      have HBLK := Lib.hid hblk
      have HAK := HAk
      have HL2 := Lib.hid hlen2
      have HL1 := Lib.hid hlen1
      clear hblk hlX hlen1 hlen2
      go_upto_region 6 with fail
      refine wp_region_noPanic ?_
      refine region_sched (fun w' => w'.rangeAt G 0 (X1.map v32)) 7 [(0, true), (1, true), (2, true), (3, true), (4, true), (5, true), (6, false), (7, false)]
        (by kernel_rfl) (by kernel_rfl) (by kernel_rfl) rfl (fun _ _ _ _ h => h) hrX ?_
      refine sched_take rfl (by rfl) (fun W' hS => exec_load_mid _ _ _ _ rfl _ _ rfl _ _ hS Tryd.underlying65 rfl hi65) ?_
      try simp only [Act.put, List.getElem_toArray, List.getElem_cons_succ, List.getElem_cons_zero, List.setIfInBounds_toArray, List.set_cons_zero, List.set_cons_succ]
      refine sched_take (v := ?_) rfl (by rfl) (fun W' hS => ?_) ?_
      rotate_left
      · go_simp; with_reducible rfl
      try simp only [Act.put, List.getElem_toArray, List.getElem_cons_succ, List.getElem_cons_zero, List.setIfInBounds_toArray, List.set_cons_zero, List.set_cons_succ]
      refine sched_take (v := ?_) rfl (by rfl) (fun W' hS => ?_) ?_
      rotate_left
      · go_simp; with_reducible rfl
      try simp only [Act.put, List.getElem_toArray, List.getElem_cons_succ, List.getElem_cons_zero, List.setIfInBounds_toArray, List.set_cons_zero, List.set_cons_succ]
      refine sched_take (v := ?_) rfl (by rfl) (fun W' hS => ?_) ?_
      rotate_left
      · go_simp; with_reducible rfl
      try simp only [Act.put, List.getElem_toArray, List.getElem_cons_succ, List.getElem_cons_zero, List.setIfInBounds_toArray, List.set_cons_zero, List.set_cons_succ]
      refine sched_take (v := ?_) rfl (by rfl) (fun W' hS => ?_) ?_
      rotate_left
      · go_simp; with_reducible rfl
      try simp only [Act.put, List.getElem_toArray, List.getElem_cons_succ, List.getElem_cons_zero, List.setIfInBounds_toArray, List.set_cons_zero, List.set_cons_succ]
      refine sched_take (v := ?_) rfl (by rfl) (fun W' hS => ?_) ?_
      rotate_left
      · go_simp; with_reducible rfl
      try simp only [Act.put, List.getElem_toArray, List.getElem_cons_succ, List.getElem_cons_zero, List.setIfInBounds_toArray, List.set_cons_zero, List.set_cons_succ]
      refine sched_do rfl (fun K' hK => ?_)
      go_simp
      refine (HBLK.out wr.drew HCk.out).mono ?_
      rintro e w3 ⟨rfl, hB3⟩
      refine hK.out _ _ (range_below (w := wr) hrX (Below.tr (Below.dr (Below.refl _ _)) hB3)) fun _ => ?_
      clear hK
      try simp only [Act.put, List.getElem_toArray, List.getElem_cons_succ, List.getElem_cons_zero, List.setIfInBounds_toArray, List.set_cons_zero, List.set_cons_succ]
      have hA3 : Arr32 w3 G 65 X1 := (hB3.block _ HAK.out.lt).trans HAK.out
      have hB13 : Below wr.heap.size wr w3 := Below.tr (Below.dr (Below.refl _ _)) hB3
      have hs2 := agg_size X2 8 HL2.out
      have ho2 := v32_all X2
      have hA4 : Arr32 (w3.setRow G (X2.map v32).toArray) G 65 X2 := Arr32.setRow hA3
      have hR4 : (w3.setRow G (X2.map v32).toArray).heap[R]? = some (.cells Z 41 (0, 0)) := (setRow_other _ _ _ _ (by omega)).trans ((hB13.block _ (Array.getElem?_eq_some_iff.1 HRk.out).1).trans HRk.out)
      have hC4 : ∀ j, j < P.length → (w3.setRow G (X2.map v32).toArray).cell? ⟨gp, j, none⟩ = some (.int .u8 (P.getD j 0).toNat) := fun j hj => cell_old (cell_old (HCk.out j hj) (hB13.block _ HGk.out)) (setRow_other _ _ _ _ hgG)
      have hG4 : gp < (w3.setRow G (X2.map v32).toArray).heap.size := by rw [show (w3.setRow G (X2.map v32).toArray).heap.size = w3.heap.size by simp [World.setRow]]; exact Nat.lt_of_lt_of_le HGk.out hB13.size
      have hB4 : Below w.heap.size w (w3.setRow G (X2.map v32).toArray) := Below.setRow (HBk.out.trans (hB13.mono HBk.out.size)) (by omega) _
      have hblk3 : w3.heap[G]? = some (.cells (X1.map v32).toArray 65 (0, 0)) := hA3
      generalize (X2.map v32).toArray = arr2 at hs2 ho2 hA4 hR4 hC4 hG4 hB4 ⊢
      have H1 := Lib.hid hA4
      have H2 := Lib.hid hR4
      have H3 := Lib.hid hC4
      have H4 := Lib.hid hG4
      have H5 := Lib.hid hB4
      have H6 := Lib.hid hs2
      clear hA4 hR4 hC4 hG4 hB4 hs2 hrX hB3 hB13 hA3
      refine sched_end rfl (fun K' hK => ?_)
      rw [if_pos (by rfl)]
      refine wp_store_row (P := Tryd.prog) 65 _ _ rfl G arr2 rfl rfl 65 _ hblk3 (by rw [H6.out]; rfl) (by rw [hsX, H6.out]) ho2 (hK.out _ _ ?_)
      clear hK hblk3 ho2
      refine NoPanic.normal ?_
      go_wp2
      go_roundw
      case rel => exact ⟨k + 1, by rw [HN.out]; go_num, by omega, Lib.hid (by rw [HX2.out]; exact H1.out), H2, H3, H4, H5⟩
      case measure => simp [intOf]; omega
    · have hd1 : decide ((n : Int) < (m : Int)) = false := by simp; omega
      have hd2 : decide (n < m) = false := by simp; omega
      have hkk : k = NB := by have := HN.out; have := HM.out; omega
      have HAf : Hid (Arr32 wr G 65 (absN hNums P NB)) := hkk ▸ HAk
      clear HAk hkk
      have hFl := absN_length hNums P NB rfl
      generalize absN hNums P NB = FS at HAf hFl HSUM
      have HFL := Lib.hid hFl
      clear hFl HCk HGk
      go_upto_region 7 with fail
      refine wp_region_lit ?_
      refine wpList_value (v := .agg #[.int .u8 0, .int .u8 0, .int .u8 0, .int .u8 0, .int .u8 0, .int .u8 0, .int .u8 0, .int .u8 0, .int .u8 0, .int .u8 0, .int .u8 0, .int .u8 0, .int .u8 0, .int .u8 0, .int .u8 0, .int .u8 0, .int .u8 0, .int .u8 0, .int .u8 0, .int .u8 0, .int .u8 0, .int .u8 0, .int .u8 0, .int .u8 0, .int .u8 0, .int .u8 0, .int .u8 0, .int .u8 0, .int .u8 0, .int .u8 0, .int .u8 0, .int .u8 0]) rfl (by kernel_rfl) ?_
      have hal : ∀ w, (Instr.alloc 41 true (.tuple #[])).run Tryd.prog w = .ok (.pointer (some ⟨w.heap.size, 0, none⟩)) (w.alloc (.cells #[.int .u8 0, .int .u8 0, .int .u8 0, .int .u8 0, .int .u8 0, .int .u8 0, .int .u8 0, .int .u8 0, .int .u8 0, .int .u8 0, .int .u8 0, .int .u8 0, .int .u8 0, .int .u8 0, .int .u8 0, .int .u8 0, .int .u8 0, .int .u8 0, .int .u8 0, .int .u8 0, .int .u8 0, .int .u8 0, .int .u8 0, .int .u8 0, .int .u8 0, .int .u8 0, .int .u8 0, .int .u8 0, .int .u8 0, .int .u8 0, .int .u8 0, .int .u8 0] 41)) := fun w => by kernel_rfl
      refine wpList_plain rfl fun _ hK => wp_alloc_as 41 rfl _ hal (hK _ _ ?_)
      refine wpList_plain rfl fun _ hK => wp_store_row 41 _ _ rfl wr.heap.size _ rfl rfl 41 _ (World.alloc_heap_new wr _) info41 rfl (by simp [Value.oneCell']) (hK _ _ ?_)
      rw [setRow_same (World.alloc_heap_new wr _)]
      have hD3 : Arr8 (wr.alloc (.cells #[.int .u8 0, .int .u8 0, .int .u8 0, .int .u8 0, .int .u8 0, .int .u8 0, .int .u8 0, .int .u8 0, .int .u8 0, .int .u8 0, .int .u8 0, .int .u8 0, .int .u8 0, .int .u8 0, .int .u8 0, .int .u8 0, .int .u8 0, .int .u8 0, .int .u8 0, .int .u8 0, .int .u8 0, .int .u8 0, .int .u8 0, .int .u8 0, .int .u8 0, .int .u8 0, .int .u8 0, .int .u8 0, .int .u8 0, .int .u8 0, .int .u8 0, .int .u8 0] 41)) wr.heap.size 41 (outR FS 0) := World.alloc_heap_new wr _
      have hG3 : Arr32 (wr.alloc (.cells #[.int .u8 0, .int .u8 0, .int .u8 0, .int .u8 0, .int .u8 0, .int .u8 0, .int .u8 0, .int .u8 0, .int .u8 0, .int .u8 0, .int .u8 0, .int .u8 0, .int .u8 0, .int .u8 0, .int .u8 0, .int .u8 0, .int .u8 0, .int .u8 0, .int .u8 0, .int .u8 0, .int .u8 0, .int .u8 0, .int .u8 0, .int .u8 0, .int .u8 0, .int .u8 0, .int .u8 0, .int .u8 0, .int .u8 0, .int .u8 0, .int .u8 0, .int .u8 0] 41)) G 65 FS := (Below.heap_alloc _ _ _ HAf.out.lt).trans HAf.out
      have hlR := (Array.getElem?_eq_some_iff.1 HRk.out).1
      have hR3 : (wr.alloc (.cells #[.int .u8 0, .int .u8 0, .int .u8 0, .int .u8 0, .int .u8 0, .int .u8 0, .int .u8 0, .int .u8 0, .int .u8 0, .int .u8 0, .int .u8 0, .int .u8 0, .int .u8 0, .int .u8 0, .int .u8 0, .int .u8 0, .int .u8 0, .int .u8 0, .int .u8 0, .int .u8 0, .int .u8 0, .int .u8 0, .int .u8 0, .int .u8 0, .int .u8 0, .int .u8 0, .int .u8 0, .int .u8 0, .int .u8 0, .int .u8 0, .int .u8 0, .int .u8 0] 41)).heap[R]? = some (.cells Z 41 (0, 0)) := (Below.heap_alloc _ _ _ hlR).trans HRk.out
      have hB3 : Below w.heap.size w (wr.alloc (.cells #[.int .u8 0, .int .u8 0, .int .u8 0, .int .u8 0, .int .u8 0, .int .u8 0, .int .u8 0, .int .u8 0, .int .u8 0, .int .u8 0, .int .u8 0, .int .u8 0, .int .u8 0, .int .u8 0, .int .u8 0, .int .u8 0, .int .u8 0, .int .u8 0, .int .u8 0, .int .u8 0, .int .u8 0, .int .u8 0, .int .u8 0, .int .u8 0, .int .u8 0, .int .u8 0, .int .u8 0, .int .u8 0, .int .u8 0, .int .u8 0, .int .u8 0, .int .u8 0] 41)) := HBk.out.alloc HBk.out.size _
      have hGD : G < wr.heap.size := HAf.out.lt
      obtain ⟨W3, hW3⟩ : ∃ W, W = wr.alloc (.cells #[.int .u8 0, .int .u8 0, .int .u8 0, .int .u8 0, .int .u8 0, .int .u8 0, .int .u8 0, .int .u8 0, .int .u8 0, .int .u8 0, .int .u8 0, .int .u8 0, .int .u8 0, .int .u8 0, .int .u8 0, .int .u8 0, .int .u8 0, .int .u8 0, .int .u8 0, .int .u8 0, .int .u8 0, .int .u8 0, .int .u8 0, .int .u8 0, .int .u8 0, .int .u8 0, .int .u8 0, .int .u8 0, .int .u8 0, .int .u8 0, .int .u8 0, .int .u8 0] 41) := ⟨_, rfl⟩
      obtain ⟨D, hD⟩ : ∃ D, D = wr.heap.size := ⟨_, rfl⟩
      rw [← hW3] at hD3 hG3 hR3 hB3 ⊢
      rw [← hD] at hD3 hGD hlR ⊢
      have hwD : w.heap.size ≤ D := by omega
      have H1 := Lib.hid hD3
      have H2 := Lib.hid hG3
      have H3 := Lib.hid hR3
      have H4 := Lib.hid hB3
      clear hD3 hG3 hR3 hB3 hW3 hD hal HAf HRk HBk hd1 hd2
      generalize (#[.int .u8 0, .int .u8 0, .int .u8 0, .int .u8 0, .int .u8 0, .int .u8 0, .int .u8 0, .int .u8 0, .int .u8 0, .int .u8 0, .int .u8 0, .int .u8 0, .int .u8 0, .int .u8 0, .int .u8 0, .int .u8 0, .int .u8 0, .int .u8 0, .int .u8 0, .int .u8 0, .int .u8 0, .int .u8 0, .int .u8 0, .int .u8 0, .int .u8 0, .int .u8 0, .int .u8 0, .int .u8 0, .int .u8 0, .int .u8 0, .int .u8 0, .int .u8 0] : Array Value) = Y
      go_wp2_with fail
      go_loopw [7] (fun t' wx => ∃ i : Nat, t' = .int .i64 i ∧ i ≤ 32 ∧ Hid (Arr8 wx D 41 (outR FS i)) ∧ Hid (OnlyAt D W3 wx)) (fun t' _ => (32 - intOf t').toNat)
      case atStart => exact ⟨0, rfl, by omega, H1, OnlyAt.refl _ _⟩
      case round =>
        obtain ⟨i, rfl, hi, HDi, HOi⟩ := hrel
        by_cases hli : i < 32
        · have hdi : decide ((i : Int) < 32) = true := by simp; omega
          obtain ⟨d4, hd4⟩ : ∃ d4, d4 = i / 4 := ⟨_, rfl⟩
          obtain ⟨m4, hm4⟩ : ∃ m4, m4 = i % 4 := ⟨_, rfl⟩
          have e1 : (i : Int) / 4 = (d4 : Int) := by omega
          have e2 : (i : Int) % 4 = (m4 : Int) := by omega
          have hd8 : d4 < 8 := by omega
          have hm3 : m4 ≤ 3 := by omega
          have hG := (show Arr32 wr G 65 FS from (HOi.out.block _ (by omega)).trans H2.out).cell (i := d4) (by rw [HFL.out]; exact hd8)
          have hou : outR FS (i + 1) = (outR FS i).set i ((FS.getD d4 0 >>> (24 - 8 * m4)).setWidth 8) := by rw [hd4, hm4]; rfl
          generalize FS.getD d4 0 = x at hG hou
          have hc := HDi.out.cell (i := i) (by rw [outR_length]; exact hli)
          have F := HDi.out.frozen i
          have HOU := Lib.hid hou
          clear hou hd4 hm4
          go_wp2
          have hb : ((x.toNat : Int) / 2 ^ (24 - 8 * m4) % 256) = (((x >>> (24 - 8 * m4)).setWidth 8).toNat : Int) := by
            have h := byte8 x (24 - 8 * m4) (2 ^ (24 - 8 * m4)) rfl
            rw [← h]
            simp
          rw [hb]
          refine ⟨⟨i + 1, by go_num, by omega, ?_, HOi.out.trans (OnlyAt.setCell _ _ _ _)⟩, by simp [intOf]; omega⟩
          exact Lib.hid (by rw [HOU.out]; exact HDi.out.set _ _)
        · have hdi : decide ((i : Int) < 32) = false := by simp; omega
          have hi32 : i = 32 := by omega
          have hD32 := HDi.out
          rw [hi32, outR_eq, ← HSUM.out] at hD32
          have hDb : wr.heap[D]? = some (.cells ((sumL l).map v8).toArray 41 (0, 0)) := hD32
          have hRb : wr.heap[R]? = some (.cells Z 41 (0, 0)) := (HOi.out.block _ (by omega)).trans H3.out
          have hsz : ((sumL l).map v8).toArray.size = 32 := by rw [List.size_toArray, List.length_map, sumL_length]
          have hone : ((sumL l).map v8).toArray.all (·.oneCell') = true := all_oneCell_toArray (v8_one _)
          have hBb : Below w.heap.size w (wr.setRow R ((sumL l).map v8).toArray) := Below.setRow (H4.out.trans (HOi.out.below hwD)) hwR _
          generalize hq : ((sumL l).map v8).toArray = arr at hDb hsz hone hBb
          have HQ := Lib.hid hq
          have HDB := Lib.hid hDb
          have HRB := Lib.hid hRb
          have HSZ := Lib.hid hsz
          have HBB := Lib.hid hBb
          have HON := Lib.hid hone
          clear hq hDb hRb hsz hBb hone hD32 hi32 HDi
          go_upto_region 12 with fail
          refine wp_region_lit ?_
          refine wpList_load_row rfl 41 _ rfl D rfl 41 arr (0, 0) _ HDB.out Tryd.underlying41 rfl (by rw [HSZ.out]; rfl) ?_
          refine wpList_plain rfl fun _ hK => wp_store_row 41 _ _ rfl R arr rfl rfl 41 Z HRB.out (by rw [HSZ.out]; rfl) (by rw [HZS.out, HSZ.out]) HON.out (hK _ _ ?_)
          go_wp2_with fail
          refine bodyPost_ret (v := .agg arr) ?_ rfl ?_
          · exact results_cell_row rfl _ _ R 41 _ (0, 0) _ rfl (setRow_heap _ _ _ _ _ _ HRB.out) Tryd.underlying41 rfl (by rw [HSZ.out]; rfl)
          · exact ⟨by rw [HQ.out], HBB.out⟩
end Go.Proofs.YtklaancgnfkjlaaDoor
