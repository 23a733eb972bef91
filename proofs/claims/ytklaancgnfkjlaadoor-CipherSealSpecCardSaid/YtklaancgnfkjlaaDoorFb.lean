/- The reference's block. -/
import Derived.Test.YtklaancgnfkjlaaDoorFa
import Derived.Test.YtklaancgnfkjlaaDoorRx
namespace Go.Proofs.YtklaancgnfkjlaaDoor
open Go.RowKit
set_option maxRecDepth 100000
set_option maxHeartbeats 2000000
set_option linter.unusedVariables false
set_option linter.unusedSimpArgs false

theorem arr_slice_lh2 {P : Program} (t e : TypeId) (n : Nat) (ht : P.underlying t = some (.array n e)) (hz : ∀ w, (sizeOf e).run P w = .ok 1 w) (g o l h : Nat) (hl : l < n) (hh : l ≤ h) (hn' : h ≤ n) (W : World) :
    (Instr.sliceAt t (.pointer (some ⟨g, o, none⟩)) (some (.int .i64 (l : Int))) (some (.int .i64 (h : Int))) none).run P W = .ok (.slice (some ⟨g, o + l, none⟩) (h - l) (n - l)) W := by
  have he : P.elem t = e := by simp [Program.elem, ht]
  have hn : P.arrayLen t = n := by simp [Program.arrayLen, ht]
  rw [run_sliceAt_array_lh W t _ (by rw [he, hn]; exact ht) .i64 .i64 _ _ (by omega) (by omega) (by rw [hn]; omega)]
  rw [he, hn]
  simp [hz, Result.andThen, slicedAt, Addr.add]
  rw [if_neg (by omega)]
  split <;> simp [*]
theorem rmix_col (v : List (BitVec 32)) (hv : v.length = 16) (i : Nat) (hi : i < 4) (arr : Array Value) (harr : (v.map v32).toArray = arr) (w : World) :
    Calls Tryd.prog 33 #[.agg arr, .int .i64 i, .int .i64 (4 + (i : Int)), .int .i64 (8 + (i : Int)), .int .i64 (12 + (i : Int))] w fun e w' =>
      e = .returned (.agg ((qr v i (4 + i) (8 + i) (12 + i)).map v32).toArray) ∧ Below w.heap.size w w' := by
  have := rmix_ok v hv i (4 + i) (8 + i) (12 + i) (by omega) (by omega) (by omega) (by omega) w
  rw [harr] at this
  simpa using this
theorem rmix_dia (v : List (BitVec 32)) (hv : v.length = 16) (i : Nat) (hi : i < 4) (arr : Array Value) (harr : (v.map v32).toArray = arr) (w : World) :
    Calls Tryd.prog 33 #[.agg arr, .int .i64 i, .int .i64 (4 + ((i : Int) + 1) % 4), .int .i64 (8 + ((i : Int) + 2) % 4), .int .i64 (12 + ((i : Int) + 3) % 4)] w fun e w' =>
      e = .returned (.agg ((qr v i (4 + (i + 1) % 4) (8 + (i + 2) % 4) (12 + (i + 3) % 4)).map v32).toArray) ∧ Below w.heap.size w w' := by
  have := rmix_ok v hv i (4 + (i + 1) % 4) (8 + (i + 2) % 4) (12 + (i + 3) % 4) (by omega) (by omega) (by omega) (by omega) w
  rw [harr] at this
  simpa using this
theorem info56 : (Tryd.prog.info? 56).map (·.size) = some 16 := by kernel_rfl
theorem store_new56 (w : World) (c c' : Array Value) (hc : c.size = 16) (hc' : c'.size = 16) (h1 : c'.all (·.oneCell') = true) :
    (storeCells ⟨w.heap.size, 0, none⟩ c'.toList 0).run Tryd.prog (w.alloc (.cells c 56)) = .ok () (w.alloc (.cells c' 56)) :=
  run_storeCells_new w _ c c' (by rw [info56, hc']) (by rw [hc, hc']) h1
theorem alloc56 (w : World) : (Instr.alloc 56 true (.tuple #[])).run Tryd.prog w = .ok (.pointer (some ⟨w.heap.size, 0, none⟩)) (w.alloc (.cells #[.int .u32 0, .int .u32 0, .int .u32 0, .int .u32 0, .int .u32 0, .int .u32 0, .int .u32 0, .int .u32 0, .int .u32 0, .int .u32 0, .int .u32 0, .int .u32 0, .int .u32 0, .int .u32 0, .int .u32 0, .int .u32 0] 56)) := by kernel_rfl
theorem Arr32.setRow {W : World} {g : Nat} {t : TypeId} {u v : List (BitVec 32)} (h : Arr32 W g t u) : Arr32 (W.setRow g (v.map v32).toArray) g t v := setRow_heap _ _ _ _ _ _ h
theorem Arr32.setRow_far {W : World} {g k : Nat} {t : TypeId} {u : List (BitVec 32)} {cs : Array Value} (h : Arr32 W g t u) (hk : g ≠ k) : Arr32 (W.setRow k cs) g t u := (setRow_other _ _ _ _ hk).trans h
theorem Below.setRow {B : Nat} {w w' : World} (h : Below B w w') {g : Nat} (hg : B ≤ g) (cs : Array Value) : Below B w (w'.setRow g cs) :=
  h.trans ⟨rfl, rfl, rfl, by simp [World.setRow], fun k hk => setRow_other _ _ _ _ (by omega)⟩

theorem own_drewN {W : World} {B n size : Nat} {e : TypeId} {v : Value} {xs : List Value} (h : W.ownsRow B e size v n xs) (q : Nat) : (W.drewN q).ownsRow B e size v n xs := h
theorem row_fresh (W : World) (xs : List Value) (t : TypeId) (fr : Nat × Nat) (c : Nat) (hc : xs.length ≤ c) : RowAt (W.alloc (.cells xs.toArray t fr)) (.slice (some ⟨W.heap.size, 0, none⟩) xs.length c) 1 xs.length xs := by
  refine ⟨by simp, some ⟨W.heap.size, 0, none⟩, c, rfl, hc, fun e => by simp at e, fun _ => ⟨W.heap.size, 0, rfl, fun j u hj => ?_⟩⟩
  unfold World.cell?
  rw [World.alloc_heap_new]
  simpa using hj
theorem rblock_ok (kb nb : List (BitVec 8)) (c : BitVec 32) (w : World) (hk : kb.length = 32) (hn : nb.length = 12) :
    Calls Tryd.prog 22 #[.agg (kb.map v8).toArray, .agg (nb.map v8).toArray, .int .i64 c.toNat] w fun e w' =>
      ∃ v, e = .returned v ∧ w'.ownsRow w.heap.size 5 1 v 64 ((chaBlock kb nb c).map v8) ∧ Below w.heap.size w w' := by
  generalize hkc : (kb.map v8).toArray = kc
  generalize hnc : (nb.map v8).toArray = nc
  have HKC := Lib.hid hkc
  have HNC := Lib.hid hnc
  clear hkc hnc
  obtain ⟨i0, hi0, hz0, hz1, hz2⟩ := info_parts info_u8
  have hcl := c.isLt
  have HCI : Hid ((c.toNat : Int) < 4294967296) := Lib.hid (by omega)
  clear hcl
  go_enter Tryd.func22, Tryd.ntmps22
  go_upto_region 1 with fail
  have hst1 := store_new56 ((w.alloc (.cells kc 23)).alloc (.cells nc 25)) #[.int .u32 0, .int .u32 0, .int .u32 0, .int .u32 0, .int .u32 0, .int .u32 0, .int .u32 0, .int .u32 0, .int .u32 0, .int .u32 0, .int .u32 0, .int .u32 0, .int .u32 0, .int .u32 0, .int .u32 0, .int .u32 0] #[.int .u32 1634760805, .int .u32 857760878, .int .u32 2036477234, .int .u32 1797285236, .int .u32 0, .int .u32 0, .int .u32 0, .int .u32 0, .int .u32 0, .int .u32 0, .int .u32 0, .int .u32 0, .int .u32 0, .int .u32 0, .int .u32 0, .int .u32 0] rfl rfl (by simp [Value.oneCell'])
  rw [World.size_alloc, World.size_alloc] at hst1
  go_upto_region 2 with fail
  clear hst1
  have hK0 : ((((w.alloc (.cells kc 23)).alloc (.cells nc 25)).alloc (.cells #[.int .u32 1634760805, .int .u32 857760878, .int .u32 2036477234, .int .u32 1797285236, .int .u32 0, .int .u32 0, .int .u32 0, .int .u32 0, .int .u32 0, .int .u32 0, .int .u32 0, .int .u32 0, .int .u32 0, .int .u32 0, .int .u32 0, .int .u32 0] 56))).heap[w.heap.size]? = some (.cells kc 23 (0, 0)) := by
    rw [Below.heap_alloc _ _ _ (by simp; omega), Below.heap_alloc _ _ _ (by simp), World.alloc_heap_new]
  have hN0 : ((((w.alloc (.cells kc 23)).alloc (.cells nc 25)).alloc (.cells #[.int .u32 1634760805, .int .u32 857760878, .int .u32 2036477234, .int .u32 1797285236, .int .u32 0, .int .u32 0, .int .u32 0, .int .u32 0, .int .u32 0, .int .u32 0, .int .u32 0, .int .u32 0, .int .u32 0, .int .u32 0, .int .u32 0, .int .u32 0] 56))).heap[w.heap.size + 1]? = some (.cells nc 25 (0, 0)) := by
    rw [Below.heap_alloc _ _ _ (by simp)]
    have := World.alloc_heap_new (w.alloc (.cells kc 23)) (.cells nc 25)
    simpa using this
  have hA0 : Arr32 ((((w.alloc (.cells kc 23)).alloc (.cells nc 25)).alloc (.cells #[.int .u32 1634760805, .int .u32 857760878, .int .u32 2036477234, .int .u32 1797285236, .int .u32 0, .int .u32 0, .int .u32 0, .int .u32 0, .int .u32 0, .int .u32 0, .int .u32 0, .int .u32 0, .int .u32 0, .int .u32 0, .int .u32 0, .int .u32 0] 56))) (w.heap.size + 1 + 1) 56 (keyed kb 0) := by
    have := World.alloc_heap_new ((w.alloc (.cells kc 23)).alloc (.cells nc 25)) (.cells #[.int .u32 1634760805, .int .u32 857760878, .int .u32 2036477234, .int .u32 1797285236, .int .u32 0, .int .u32 0, .int .u32 0, .int .u32 0, .int .u32 0, .int .u32 0, .int .u32 0, .int .u32 0, .int .u32 0, .int .u32 0, .int .u32 0, .int .u32 0] 56)
    rw [World.size_alloc, World.size_alloc] at this
    exact this
  have hB0 : Below w.heap.size w ((((w.alloc (.cells kc 23)).alloc (.cells nc 25)).alloc (.cells #[.int .u32 1634760805, .int .u32 857760878, .int .u32 2036477234, .int .u32 1797285236, .int .u32 0, .int .u32 0, .int .u32 0, .int .u32 0, .int .u32 0, .int .u32 0, .int .u32 0, .int .u32 0, .int .u32 0, .int .u32 0, .int .u32 0, .int .u32 0] 56))) := by
    refine ⟨rfl, rfl, rfl, by simp; omega, fun k hk => by rw [Below.heap_alloc _ _ _ (by simp; omega), Below.heap_alloc _ _ _ (by simp; omega), Below.heap_alloc _ _ _ hk]⟩
  obtain ⟨W0, hW0⟩ : ∃ W, W = ((((w.alloc (.cells kc 23)).alloc (.cells nc 25)).alloc (.cells #[.int .u32 1634760805, .int .u32 857760878, .int .u32 2036477234, .int .u32 1797285236, .int .u32 0, .int .u32 0, .int .u32 0, .int .u32 0, .int .u32 0, .int .u32 0, .int .u32 0, .int .u32 0, .int .u32 0, .int .u32 0, .int .u32 0, .int .u32 0] 56))) := ⟨_, rfl⟩
  rw [← hW0] at hK0 hN0 hA0 hB0 ⊢
  obtain ⟨G, hG⟩ : ∃ G, G = w.heap.size + 1 + 1 := ⟨_, rfl⟩
  obtain ⟨N, hN⟩ : ∃ N, N = w.heap.size + 1 := ⟨_, rfl⟩
  rw [← hG] at hA0 ⊢
  rw [← hN] at hN0 ⊢
  rw [← HKC.out] at hK0
  rw [← HNC.out] at hN0
  have hGN : w.heap.size < N ∧ N < G := by omega
  clear hW0 hG hN
  have HA := Lib.hid hA0
  have HK : Hid (Arr8 W0 w.heap.size 23 kb) := Lib.hid hK0
  have HN : Hid (Arr8 W0 N 25 nb) := Lib.hid hN0
  have HB := Lib.hid hB0
  clear hA0 hK0 hN0 hB0
  obtain ⟨hg1, hg2⟩ := hGN
  generalize (#[.int .u32 1634760805, .int .u32 857760878, .int .u32 2036477234, .int .u32 1797285236, .int .u32 0, .int .u32 0, .int .u32 0, .int .u32 0, .int .u32 0, .int .u32 0, .int .u32 0, .int .u32 0, .int .u32 0, .int .u32 0, .int .u32 0, .int .u32 0] : Array Value) = CA
  go_wp2_with fail
  go_loopw [8] (fun i wr => ∃ j : Nat, i = .int .i64 j ∧ j ≤ 8 ∧ Hid (Arr32 wr G 56 (keyed kb j)) ∧ Hid (OnlyAt G W0 wr)) (fun i _ => (8 - intOf i).toNat)
  case atStart => exact ⟨0, rfl, by omega, HA, OnlyAt.refl _ _⟩
  case round =>
    obtain ⟨j, rfl, hj, HAj, HOj⟩ := hrel
    by_cases hlt : j < 8
    · have HK2 : Arr8 wr w.heap.size 23 kb := (HOj.out.block _ (by omega)).trans HK.out
      have k0 := HK2.cell (i := 4 * j) (by omega)
      have k1 := HK2.cell (i := 4 * j + 1) (by omega)
      have k2 := HK2.cell (i := 4 * j + 2) (by omega)
      have k3 := HK2.cell (i := 4 * j + 3) (by omega)
      have F := HAj.out.frozen (4 + j)
      have C := HAj.out.cell (i := 4 + j) (by rw [keyed_length]; omega)
      have K0 := Lib.hid k0
      have K1 := Lib.hid k1
      have K2 := Lib.hid k2
      have K3 := Lib.hid k3
      clear k0 k1 k2 k3 HK2
      have hsl : ∀ W, (Instr.sliceAt 23 (.pointer (some ⟨w.heap.size, 0, none⟩)) (some (.int .i64 (4 * (j : Int)))) (some (.int .i64 (4 * (j : Int) + 4))) none).run Tryd.prog W = .ok (.slice (some ⟨w.heap.size, 4 * j, none⟩) 4 (32 - 4 * j)) W := fun W => by
        have := arr_slice_lh2 (P := Tryd.prog) 23 5 32 Tryd.underlying23 size5 (w.heap.size) 0 (4 * j) (4 * j + 4) (by omega) (by omega) (by omega) W
        rw [show 4 * j + 4 - 4 * j = 4 by omega, show ((4 * j : Nat) : Int) = 4 * (j : Int) by omega, show ((4 * j + 4 : Nat) : Int) = 4 * (j : Int) + 4 by omega, Nat.zero_add] at this
        exact this
      have hd : decide ((j : Int) < 8) = true := by simp; omega
      go_upto_region 5 with fail
      go_wp2_with fail
      refine (rword_any _ _ _ _ ?_ ?_ _ _ _ _ _ K0.out K1.out K2.out K3.out).mono ?_
      · omega
      · omega
      rintro e w' ⟨rfl, q, rfl⟩
      have hx : le4 (kb.getD (4 * j) 0) (kb.getD (4 * j + 1) 0) (kb.getD (4 * j + 2) 0) (kb.getD (4 * j + 3) 0) = le4L kb (4 * j) := rfl
      rw [hx]
      clear hx
      obtain ⟨x, hx⟩ : ∃ x, x = le4L kb (4 * j) := ⟨_, rfl⟩
      rw [← hx]
      have HX := Lib.hid hx
      clear hx
      go_wp2
      go_roundw
      case rel =>
        refine ⟨j + 1, by go_num, by omega, ?_, ?_⟩
        · show Arr32 _ _ _ (List.set _ _ _)
          rw [← HX.out]
          exact Arr32.set (W := wr.drewN q) HAj.out _ _
        · exact HOj.out.trans (OnlyAt.trans (b := wr.drewN q) ⟨rfl, rfl, rfl, rfl, fun _ _ => rfl⟩ (OnlyAt.setCell _ _ _ _))
      case measure => simp [intOf]; omega
    · have hd : decide ((j : Int) < 8) = false := by simp; omega
      have hj8 : j = 8 := by omega
      have HAk : Hid (Arr32 wr G 56 (keyed kb 8)) := hj8 ▸ HAj
      clear HAj hj8
      have F := HAk.out.frozen 12
      have C := HAk.out.cell (i := 12) (by rw [keyed_length]; omega)
      have hci := HCI.out
      go_wp2_with fail
      clear F C hci
      go_loopw [9] (fun i wr => ∃ j : Nat, i = .int .i64 j ∧ j ≤ 3 ∧ Hid (Arr32 wr G 56 (nonced kb nb c j)) ∧ Hid (OnlyAt G W0 wr)) (fun i _ => (3 - intOf i).toNat)
      case atStart =>
        refine ⟨0, rfl, by omega, ?_, ?_⟩
        · exact Arr32.set (W := wr) HAk.out _ _
        · exact HOj.out.trans (OnlyAt.setCell _ _ _ _)
      case round =>
        obtain ⟨j, rfl, hj, HAj, HOj⟩ := hrel
        by_cases hlt : j < 3
        · have HK2 : Arr8 wr N 25 nb := (HOj.out.block _ (by omega)).trans HN.out
          have k0 := HK2.cell (i := 4 * j) (by omega)
          have k1 := HK2.cell (i := 4 * j + 1) (by omega)
          have k2 := HK2.cell (i := 4 * j + 2) (by omega)
          have k3 := HK2.cell (i := 4 * j + 3) (by omega)
          have F := HAj.out.frozen (13 + j)
          have C := HAj.out.cell (i := 13 + j) (by rw [nonced_length]; omega)
          have K0 := Lib.hid k0
          have K1 := Lib.hid k1
          have K2 := Lib.hid k2
          have K3 := Lib.hid k3
          clear k0 k1 k2 k3 HK2
          have hsl : ∀ W, (Instr.sliceAt 25 (.pointer (some ⟨N, 0, none⟩)) (some (.int .i64 (4 * (j : Int)))) (some (.int .i64 (4 * (j : Int) + 4))) none).run Tryd.prog W = .ok (.slice (some ⟨N, 4 * j, none⟩) 4 (12 - 4 * j)) W := fun W => by
            have := arr_slice_lh2 (P := Tryd.prog) 25 5 12 Tryd.underlying25 size5 (N) 0 (4 * j) (4 * j + 4) (by omega) (by omega) (by omega) W
            rw [show 4 * j + 4 - 4 * j = 4 by omega, show ((4 * j : Nat) : Int) = 4 * (j : Int) by omega, show ((4 * j + 4 : Nat) : Int) = 4 * (j : Int) + 4 by omega, Nat.zero_add] at this
            exact this
          have hd : decide ((j : Int) < 3) = true := by simp; omega
          go_upto_region 10 with fail
          go_wp2_with fail
          refine (rword_any _ _ _ _ ?_ ?_ _ _ _ _ _ K0.out K1.out K2.out K3.out).mono ?_
          · omega
          · omega
          rintro e w' ⟨rfl, q, rfl⟩
          have hx : le4 (nb.getD (4 * j) 0) (nb.getD (4 * j + 1) 0) (nb.getD (4 * j + 2) 0) (nb.getD (4 * j + 3) 0) = le4L nb (4 * j) := rfl
          rw [hx]
          clear hx
          obtain ⟨x, hx⟩ : ∃ x, x = le4L nb (4 * j) := ⟨_, rfl⟩
          rw [← hx]
          have HX := Lib.hid hx
          clear hx
          go_wp2
          go_roundw
          case rel =>
            refine ⟨j + 1, by go_num, by omega, ?_, ?_⟩
            · show Arr32 _ _ _ (List.set _ _ _)
              rw [← HX.out]
              exact Arr32.set (W := wr.drewN q) HAj.out _ _
            · exact HOj.out.trans (OnlyAt.trans (b := wr.drewN q) ⟨rfl, rfl, rfl, rfl, fun _ _ => rfl⟩ (OnlyAt.setCell _ _ _ _))
          case measure => simp [intOf]; omega
        · have hd3 : decide ((j : Int) < 3) = false := by simp; omega
          have hj3 : j = 3 := by omega
          have HAm : Hid (Arr32 wr G 56 (chaInit kb nb c)) := by
            have h := HAj
            rw [hj3] at h
            exact h
          have HBm : Hid (Below w.heap.size w wr) := HB.out.trans (HOj.out.below (by omega))
          clear HAj hj3 HOj HA HB HK HN HKC HNC
          have hl0 : (chaInit kb nb c).length = 16 := chaInit_length _ _ _
          have hcb : Hid (chaBlock kb nb c = chaOut (dblR (chaInit kb nb c) 10) (chaInit kb nb c) 16) := Lib.hid rfl
          generalize chaInit kb nb c = s0 at HAm hl0 hcb
          have hsz0 := agg_size s0 16 hl0
          have hone0 := v32_all s0
          have hblk0 : wr.heap[G]? = some (.cells (s0.map v32).toArray 56 (0, 0)) := HAm.out
          generalize hq : (s0.map v32).toArray = arr at hsz0 hone0 hblk0
          have HQ := Lib.hid hq
          have HS0 := Lib.hid hsz0
          have HBK0 := Lib.hid hblk0
          have HON0 := Lib.hid hone0
          have HL0 := Lib.hid hl0
          have HG12 := Lib.hid (And.intro hg1 hg2)
          clear hq hsz0 hone0 hblk0 hl0 hg1 hg2 hk hn hd hlt
          go_upto_region 11 with fail
          refine wp_region_lit ?_
          refine wpList_load_row rfl 56 _ rfl G rfl 56 arr (0, 0) _ HBK0.out Tryd.underlying56 rfl (by rw [HS0.out]; rfl) ?_
          refine wpList_plain rfl fun _ hK => wp_alloc_as 56 rfl #[.int .u32 0, .int .u32 0, .int .u32 0, .int .u32 0, .int .u32 0, .int .u32 0, .int .u32 0, .int .u32 0, .int .u32 0, .int .u32 0, .int .u32 0, .int .u32 0, .int .u32 0, .int .u32 0, .int .u32 0, .int .u32 0] alloc56 (hK _ _ ?_)
          refine wpList_plain rfl fun _ hK => wp_store_row 56 _ _ rfl wr.heap.size arr rfl rfl 56 #[.int .u32 0, .int .u32 0, .int .u32 0, .int .u32 0, .int .u32 0, .int .u32 0, .int .u32 0, .int .u32 0, .int .u32 0, .int .u32 0, .int .u32 0, .int .u32 0, .int .u32 0, .int .u32 0, .int .u32 0, .int .u32 0] (World.alloc_heap_new wr _) (by rw [HS0.out]; rfl) (by rw [HS0.out]; rfl) HON0.out (hK _ _ ?_)
          have hS2 : Arr32 ((wr.alloc (.cells #[.int .u32 0, .int .u32 0, .int .u32 0, .int .u32 0, .int .u32 0, .int .u32 0, .int .u32 0, .int .u32 0, .int .u32 0, .int .u32 0, .int .u32 0, .int .u32 0, .int .u32 0, .int .u32 0, .int .u32 0, .int .u32 0] 56)).setRow wr.heap.size arr) G 56 s0 := Arr32.setRow_far ((Below.heap_alloc _ _ _ HAm.out.lt).trans HAm.out) (Nat.ne_of_lt HAm.out.lt)
          have hA2 : Arr32 ((wr.alloc (.cells #[.int .u32 0, .int .u32 0, .int .u32 0, .int .u32 0, .int .u32 0, .int .u32 0, .int .u32 0, .int .u32 0, .int .u32 0, .int .u32 0, .int .u32 0, .int .u32 0, .int .u32 0, .int .u32 0, .int .u32 0, .int .u32 0] 56)).setRow wr.heap.size arr) wr.heap.size 56 (dblR s0 0) := by
            show _ = some (Obj.cells (s0.map v32).toArray _ (0, 0))
            rw [HQ.out]; exact setRow_heap _ _ _ _ _ _ (World.alloc_heap_new wr _)
          have hB2 : Below w.heap.size w ((wr.alloc (.cells #[.int .u32 0, .int .u32 0, .int .u32 0, .int .u32 0, .int .u32 0, .int .u32 0, .int .u32 0, .int .u32 0, .int .u32 0, .int .u32 0, .int .u32 0, .int .u32 0, .int .u32 0, .int .u32 0, .int .u32 0, .int .u32 0] 56)).setRow wr.heap.size arr) := Below.setRow (HBm.out.alloc HBm.out.size _) HBm.out.size _
          have hGV : G ≠ wr.heap.size ∧ w.heap.size ≤ wr.heap.size := ⟨Nat.ne_of_lt HAm.out.lt, HBm.out.size⟩
          obtain ⟨W2, hW2⟩ : ∃ W, W = (wr.alloc (.cells #[.int .u32 0, .int .u32 0, .int .u32 0, .int .u32 0, .int .u32 0, .int .u32 0, .int .u32 0, .int .u32 0, .int .u32 0, .int .u32 0, .int .u32 0, .int .u32 0, .int .u32 0, .int .u32 0, .int .u32 0, .int .u32 0] 56)).setRow wr.heap.size arr := ⟨_, rfl⟩
          obtain ⟨V, hV⟩ : ∃ V, V = wr.heap.size := ⟨_, rfl⟩
          rw [← hW2] at hS2 hA2 hB2 ⊢
          rw [← hV] at hA2 hGV ⊢
          obtain ⟨hGV, hVB⟩ := hGV
          have HS := Lib.hid hS2
          have HA := Lib.hid hA2
          have HB := Lib.hid hB2
          have HGV := Lib.hid hGV
          clear hS2 hA2 hB2 hW2 hV HAm HBm HBK0 HQ HS0 hGV
          go_wp2_with fail
          go_loopw [11] (fun t wr => ∃ r : Nat, t = .int .i64 r ∧ r ≤ 10 ∧ Hid (Arr32 wr V 56 (dblR s0 r)) ∧ Hid (Arr32 wr G 56 s0) ∧ Hid (Below w.heap.size w wr)) (fun t _ => (10 - intOf t).toNat)
          case atStart => exact ⟨0, rfl, by omega, HA, HS, HB⟩
          case round =>
            obtain ⟨r, rfl, hr, HAr, HSr, HBr⟩ := hrel
            by_cases hlr : r < 10
            · have hdr : decide ((r : Int) < 10) = true := by simp; omega
              have HLr := Lib.hid (show (dblR s0 r).length = 16 by rw [dblR_length]; exact HL0.out)
              go_wp2_with fail
              go_loopw [12] (fun t wi => ∃ i : Nat, t = .int .i64 i ∧ i ≤ 4 ∧ Hid (Arr32 wi V 56 (colR (dblR s0 r) i)) ∧ Hid (Arr32 wi G 56 s0) ∧ Hid (Below w.heap.size w wi)) (fun t _ => (4 - intOf t).toNat)
              case atStart => exact ⟨0, rfl, by omega, HAr, HSr, HBr⟩
              case round =>
                obtain ⟨i, rfl, hi, HAi, HSi, HBi⟩ := hrel
                by_cases hli : i < 4
                · have hdi : decide ((i : Int) < 4) = true := by simp; omega
                  have hlX : (colR (dblR s0 r) i).length = 16 := by rw [colR_length]; exact HLr.out
                  have hsX := agg_size (colR (dblR s0 r) i) 16 hlX
                  have hbX : wr.heap[V]? = some (.cells ((colR (dblR s0 r) i).map v32).toArray 56 (0, 0)) := HAi.out
                  have hMX := fun w => rmix_col (colR (dblR s0 r) i) hlX i hli _ rfl w
                  generalize ((colR (dblR s0 r) i).map v32).toArray = aX at hsX hbX hMX
                  have HSX := Lib.hid hsX
                  have HBX := Lib.hid hbX
                  have HMX := Lib.hid hMX
                  clear hsX hbX hMX
                  go_upto_region 18 with fail
                  refine wp_region_lit ?_
                  refine wpList_load_row rfl 56 _ rfl V rfl 56 aX (0, 0) _ HBX.out Tryd.underlying56 rfl (by rw [HSX.out]; rfl) ?_
                  have wr4 : IntKind.i64.wrap (4 + (i : Int)) = 4 + (i : Int) := by rw [IntKind.wrap_i64]; omega
                  have wr8 : IntKind.i64.wrap (8 + (i : Int)) = 8 + (i : Int) := by rw [IntKind.wrap_i64]; omega
                  have wr12 : IntKind.i64.wrap (12 + (i : Int)) = 12 + (i : Int) := by rw [IntKind.wrap_i64]; omega
                  refine wpList_value (v := ?_) rfl ?_ ?_
                  rotate_left
                  · go_simp; with_reducible rfl
                  try simp only [Act.put, List.getElem_toArray, List.getElem_cons_succ, List.getElem_cons_zero, List.setIfInBounds_toArray, List.set_cons_zero, List.set_cons_succ]
                  refine wpList_value (v := ?_) rfl ?_ ?_
                  rotate_left
                  · go_simp; with_reducible rfl
                  try simp only [Act.put, List.getElem_toArray, List.getElem_cons_succ, List.getElem_cons_zero, List.setIfInBounds_toArray, List.set_cons_zero, List.set_cons_succ]
                  refine wpList_value (v := ?_) rfl ?_ ?_
                  rotate_left
                  · go_simp; with_reducible rfl
                  try simp only [Act.put, List.getElem_toArray, List.getElem_cons_succ, List.getElem_cons_zero, List.setIfInBounds_toArray, List.set_cons_zero, List.set_cons_succ]
                  refine wpList_value (v := ?_) rfl ?_ ?_
                  rotate_left
                  · go_simp; with_reducible rfl
                  try simp only [Act.put, List.getElem_toArray, List.getElem_cons_succ, List.getElem_cons_zero, List.setIfInBounds_toArray, List.set_cons_zero, List.set_cons_succ]
                  refine wpList_value (v := ?_) rfl ?_ ?_
                  rotate_left
                  · go_simp; with_reducible rfl
                  try simp only [Act.put, List.getElem_toArray, List.getElem_cons_succ, List.getElem_cons_zero, List.setIfInBounds_toArray, List.set_cons_zero, List.set_cons_succ]
                  refine wpList_value (v := ?_) rfl ?_ ?_
                  rotate_left
                  · go_simp; with_reducible rfl
                  try simp only [Act.put, List.getElem_toArray, List.getElem_cons_succ, List.getElem_cons_zero, List.setIfInBounds_toArray, List.set_cons_zero, List.set_cons_succ]
                  refine wpList_value (v := ?_) rfl ?_ ?_
                  rotate_left
                  · go_simp; with_reducible rfl
                  try simp only [Act.put, List.getElem_toArray, List.getElem_cons_succ, List.getElem_cons_zero, List.setIfInBounds_toArray, List.set_cons_zero, List.set_cons_succ]
                  clear wr4 wr8 wr12
                  refine wpList_callf rfl _ _ _ rfl Tryd.call33 _ (by simp only [List.map_toArray, List.map_cons, List.map_nil]; rfl) (HMX.out _) ?_
                  rintro e w' ⟨rfl, hBw⟩
                  refine ⟨_, rfl, ?_⟩
                  try simp only [Act.put, List.getElem_toArray, List.getElem_cons_succ, List.getElem_cons_zero, List.setIfInBounds_toArray, List.set_cons_zero, List.set_cons_succ]
                  have hVX : w'.heap[V]? = some (.cells aX 56 (0, 0)) := (hBw.block _ (Array.getElem?_eq_some_iff.1 HBX.out).1).trans HBX.out
                  have hsY := agg_size (qr (colR (dblR s0 r) i) i (4 + i) (8 + i) (12 + i)) 16 (by rw [qr_length]; exact hlX)
                  have hoY := v32_all (qr (colR (dblR s0 r) i) i (4 + i) (8 + i) (12 + i))
                  have hAY : Arr32 (w'.setRow V ((qr (colR (dblR s0 r) i) i (4 + i) (8 + i) (12 + i)).map v32).toArray) V 56 (qr (colR (dblR s0 r) i) i (4 + i) (8 + i) (12 + i)) := setRow_heap _ _ _ _ _ _ hVX
                  have hSY : Arr32 (w'.setRow V ((qr (colR (dblR s0 r) i) i (4 + i) (8 + i) (12 + i)).map v32).toArray) G 56 s0 := Arr32.setRow_far ((hBw.block _ HSi.out.lt).trans HSi.out) HGV.out
                  have hBY : Below w.heap.size w (w'.setRow V ((qr (colR (dblR s0 r) i) i (4 + i) (8 + i) (12 + i)).map v32).toArray) := Below.setRow (HBi.out.trans (hBw.mono HBi.out.size)) hVB _
                  generalize ((qr (colR (dblR s0 r) i) i (4 + i) (8 + i) (12 + i)).map v32).toArray = aY at hsY hoY hAY hSY hBY ⊢
                  have HAY := Lib.hid hAY
                  have HSY := Lib.hid hSY
                  have HBY := Lib.hid hBY
                  have HSZY := Lib.hid hsY
                  clear hAY hSY hBY hBw hsY
                  refine wpList_plain rfl fun _ hK => wp_store_row (P := Tryd.prog) 56 _ _ rfl V aY rfl rfl 56 aX hVX (by rw [HSZY.out]; rfl) (by rw [HSX.out, HSZY.out]) hoY (hK _ _ ?_)
                  clear hVX hoY HBX HSX HMX
                  go_wp2
                  go_roundw
                  case rel => exact ⟨i + 1, by go_num, by omega, HAY, HSY, HBY⟩
                  case measure => simp [intOf]; omega
                · have hdi : decide ((i : Int) < 4) = false := by simp; omega
                  have hi4 : i = 4 := by omega
                  have HAk : Hid (Arr32 wr V 56 (colR (dblR s0 r) 4)) := hi4 ▸ HAi
                  clear HAi hi4
                  go_wp2_with fail
                  go_loopw [13] (fun t wd => ∃ d : Nat, t = .int .i64 d ∧ d ≤ 4 ∧ Hid (Arr32 wd V 56 (diaR (colR (dblR s0 r) 4) d)) ∧ Hid (Arr32 wd G 56 s0) ∧ Hid (Below w.heap.size w wd)) (fun t _ => (4 - intOf t).toNat)
                  case atStart => exact ⟨0, rfl, by omega, HAk, HSi, HBi⟩
                  case round =>
                    obtain ⟨d, rfl, hd, HAd, HSd, HBd⟩ := hrel
                    by_cases hld : d < 4
                    · have hdd : decide ((d : Int) < 4) = true := by simp; omega
                      have hlX : (diaR (colR (dblR s0 r) 4) d).length = 16 := by rw [diaR_length, colR_length]; exact HLr.out
                      have hsX := agg_size (diaR (colR (dblR s0 r) 4) d) 16 hlX
                      have hbX : wr.heap[V]? = some (.cells ((diaR (colR (dblR s0 r) 4) d).map v32).toArray 56 (0, 0)) := HAd.out
                      have hMX := fun w => rmix_dia (diaR (colR (dblR s0 r) 4) d) hlX d hld _ rfl w
                      generalize ((diaR (colR (dblR s0 r) 4) d).map v32).toArray = aX at hsX hbX hMX
                      have HSX := Lib.hid hsX
                      have HBX := Lib.hid hbX
                      have HMX := Lib.hid hMX
                      clear hsX hbX hMX
                      go_upto_region 22 with fail
                      refine wp_region_lit ?_
                      refine wpList_load_row rfl 56 _ rfl V rfl 56 aX (0, 0) _ HBX.out Tryd.underlying56 rfl (by rw [HSX.out]; rfl) ?_
                      have wa4 : IntKind.i64.wrap ((d : Int) + 1) = (d : Int) + 1 := by rw [IntKind.wrap_i64]; omega
                      have wt4 : Int.tmod ((d : Int) + 1) 4 = ((d : Int) + 1) % 4 := Int.tmod_eq_emod_of_nonneg (by omega)
                      have wr4 : IntKind.i64.wrap (4 + ((d : Int) + 1) % 4) = 4 + ((d : Int) + 1) % 4 := by rw [IntKind.wrap_i64]; omega
                      have wa8 : IntKind.i64.wrap ((d : Int) + 2) = (d : Int) + 2 := by rw [IntKind.wrap_i64]; omega
                      have wt8 : Int.tmod ((d : Int) + 2) 4 = ((d : Int) + 2) % 4 := Int.tmod_eq_emod_of_nonneg (by omega)
                      have wr8 : IntKind.i64.wrap (8 + ((d : Int) + 2) % 4) = 8 + ((d : Int) + 2) % 4 := by rw [IntKind.wrap_i64]; omega
                      have wa12 : IntKind.i64.wrap ((d : Int) + 3) = (d : Int) + 3 := by rw [IntKind.wrap_i64]; omega
                      have wt12 : Int.tmod ((d : Int) + 3) 4 = ((d : Int) + 3) % 4 := Int.tmod_eq_emod_of_nonneg (by omega)
                      have wr12 : IntKind.i64.wrap (12 + ((d : Int) + 3) % 4) = 12 + ((d : Int) + 3) % 4 := by rw [IntKind.wrap_i64]; omega
                      refine wpList_value (v := ?_) rfl ?_ ?_
                      rotate_left
                      · go_simp; with_reducible rfl
                      try simp only [Act.put, List.getElem_toArray, List.getElem_cons_succ, List.getElem_cons_zero, List.setIfInBounds_toArray, List.set_cons_zero, List.set_cons_succ]
                      refine wpList_value (v := ?_) rfl ?_ ?_
                      rotate_left
                      · go_simp; with_reducible rfl
                      try simp only [Act.put, List.getElem_toArray, List.getElem_cons_succ, List.getElem_cons_zero, List.setIfInBounds_toArray, List.set_cons_zero, List.set_cons_succ]
                      refine wpList_value (v := ?_) rfl ?_ ?_
                      rotate_left
                      · go_simp; with_reducible rfl
                      try simp only [Act.put, List.getElem_toArray, List.getElem_cons_succ, List.getElem_cons_zero, List.setIfInBounds_toArray, List.set_cons_zero, List.set_cons_succ]
                      refine wpList_value (v := ?_) rfl ?_ ?_
                      rotate_left
                      · go_simp; with_reducible rfl
                      try simp only [Act.put, List.getElem_toArray, List.getElem_cons_succ, List.getElem_cons_zero, List.setIfInBounds_toArray, List.set_cons_zero, List.set_cons_succ]
                      refine wpList_value (v := ?_) rfl ?_ ?_
                      rotate_left
                      · go_simp; with_reducible rfl
                      try simp only [Act.put, List.getElem_toArray, List.getElem_cons_succ, List.getElem_cons_zero, List.setIfInBounds_toArray, List.set_cons_zero, List.set_cons_succ]
                      refine wpList_value (v := ?_) rfl ?_ ?_
                      rotate_left
                      · go_simp; with_reducible rfl
                      try simp only [Act.put, List.getElem_toArray, List.getElem_cons_succ, List.getElem_cons_zero, List.setIfInBounds_toArray, List.set_cons_zero, List.set_cons_succ]
                      refine wpList_value (v := ?_) rfl ?_ ?_
                      rotate_left
                      · go_simp; with_reducible rfl
                      try simp only [Act.put, List.getElem_toArray, List.getElem_cons_succ, List.getElem_cons_zero, List.setIfInBounds_toArray, List.set_cons_zero, List.set_cons_succ]
                      refine wpList_value (v := ?_) rfl ?_ ?_
                      rotate_left
                      · go_simp; with_reducible rfl
                      try simp only [Act.put, List.getElem_toArray, List.getElem_cons_succ, List.getElem_cons_zero, List.setIfInBounds_toArray, List.set_cons_zero, List.set_cons_succ]
                      refine wpList_value (v := ?_) rfl ?_ ?_
                      rotate_left
                      · go_simp; with_reducible rfl
                      try simp only [Act.put, List.getElem_toArray, List.getElem_cons_succ, List.getElem_cons_zero, List.setIfInBounds_toArray, List.set_cons_zero, List.set_cons_succ]
                      refine wpList_value (v := ?_) rfl ?_ ?_
                      rotate_left
                      · go_simp; with_reducible rfl
                      try simp only [Act.put, List.getElem_toArray, List.getElem_cons_succ, List.getElem_cons_zero, List.setIfInBounds_toArray, List.set_cons_zero, List.set_cons_succ]
                      refine wpList_value (v := ?_) rfl ?_ ?_
                      rotate_left
                      · go_simp; with_reducible rfl
                      try simp only [Act.put, List.getElem_toArray, List.getElem_cons_succ, List.getElem_cons_zero, List.setIfInBounds_toArray, List.set_cons_zero, List.set_cons_succ]
                      refine wpList_value (v := ?_) rfl ?_ ?_
                      rotate_left
                      · go_simp; with_reducible rfl
                      try simp only [Act.put, List.getElem_toArray, List.getElem_cons_succ, List.getElem_cons_zero, List.setIfInBounds_toArray, List.set_cons_zero, List.set_cons_succ]
                      refine wpList_value (v := ?_) rfl ?_ ?_
                      rotate_left
                      · go_simp; with_reducible rfl
                      try simp only [Act.put, List.getElem_toArray, List.getElem_cons_succ, List.getElem_cons_zero, List.setIfInBounds_toArray, List.set_cons_zero, List.set_cons_succ]
                      clear wa4 wt4 wr4 wa8 wt8 wr8 wa12 wt12 wr12
                      refine wpList_callf rfl _ _ _ rfl Tryd.call33 _ (by simp only [List.map_toArray, List.map_cons, List.map_nil]; rfl) (HMX.out _) ?_
                      rintro e w' ⟨rfl, hBw⟩
                      refine ⟨_, rfl, ?_⟩
                      try simp only [Act.put, List.getElem_toArray, List.getElem_cons_succ, List.getElem_cons_zero, List.setIfInBounds_toArray, List.set_cons_zero, List.set_cons_succ]
                      have hVX : w'.heap[V]? = some (.cells aX 56 (0, 0)) := (hBw.block _ (Array.getElem?_eq_some_iff.1 HBX.out).1).trans HBX.out
                      have hsY := agg_size (qr (diaR (colR (dblR s0 r) 4) d) d (4 + (d + 1) % 4) (8 + (d + 2) % 4) (12 + (d + 3) % 4)) 16 (by rw [qr_length]; exact hlX)
                      have hoY := v32_all (qr (diaR (colR (dblR s0 r) 4) d) d (4 + (d + 1) % 4) (8 + (d + 2) % 4) (12 + (d + 3) % 4))
                      have hAY : Arr32 (w'.setRow V ((qr (diaR (colR (dblR s0 r) 4) d) d (4 + (d + 1) % 4) (8 + (d + 2) % 4) (12 + (d + 3) % 4)).map v32).toArray) V 56 (qr (diaR (colR (dblR s0 r) 4) d) d (4 + (d + 1) % 4) (8 + (d + 2) % 4) (12 + (d + 3) % 4)) := setRow_heap _ _ _ _ _ _ hVX
                      have hSY : Arr32 (w'.setRow V ((qr (diaR (colR (dblR s0 r) 4) d) d (4 + (d + 1) % 4) (8 + (d + 2) % 4) (12 + (d + 3) % 4)).map v32).toArray) G 56 s0 := Arr32.setRow_far ((hBw.block _ HSd.out.lt).trans HSd.out) HGV.out
                      have hBY : Below w.heap.size w (w'.setRow V ((qr (diaR (colR (dblR s0 r) 4) d) d (4 + (d + 1) % 4) (8 + (d + 2) % 4) (12 + (d + 3) % 4)).map v32).toArray) := Below.setRow (HBd.out.trans (hBw.mono HBd.out.size)) hVB _
                      generalize ((qr (diaR (colR (dblR s0 r) 4) d) d (4 + (d + 1) % 4) (8 + (d + 2) % 4) (12 + (d + 3) % 4)).map v32).toArray = aY at hsY hoY hAY hSY hBY ⊢
                      have HAY := Lib.hid hAY
                      have HSY := Lib.hid hSY
                      have HBY := Lib.hid hBY
                      have HSZY := Lib.hid hsY
                      clear hAY hSY hBY hBw hsY
                      refine wpList_plain rfl fun _ hK => wp_store_row (P := Tryd.prog) 56 _ _ rfl V aY rfl rfl 56 aX hVX (by rw [HSZY.out]; rfl) (by rw [HSX.out, HSZY.out]) hoY (hK _ _ ?_)
                      clear hVX hoY HBX HSX HMX
                      go_wp2
                      go_roundw
                      case rel => exact ⟨d + 1, by go_num, by omega, HAY, HSY, HBY⟩
                      case measure => simp [intOf]; omega
                    · have hdd : decide ((d : Int) < 4) = false := by simp; omega
                      have hd4 : d = 4 := by omega
                      have HAe : Hid (Arr32 wr V 56 (dblR s0 (r + 1))) := by
                        have h := HAd
                        rw [hd4] at h
                        exact h
                      clear HAd hd4
                      go_wp2
                      go_roundw
                      case rel => exact ⟨r + 1, by go_num, by omega, HAe, HSd, HBd⟩
                      case measure => simp [intOf]; omega
            · have hdr : decide ((r : Int) < 10) = false := by simp; omega
              have hr10 : r = 10 := by omega
              have HAf : Hid (Arr32 wr V 56 (dblR s0 10)) := hr10 ▸ HAr
              clear HAr hr10
              have hlV : Hid ((dblR s0 10).length = 16) := Lib.hid (by rw [dblR_length]; exact HL0.out)
              generalize dblR s0 10 = VV at HAf hlV hcb
              have hown0 : (wr.alloc (.cells #[] 5)).ownsRow w.heap.size 5 1 (.slice (some ⟨wr.heap.size, 0, none⟩) 0 0) 0 [] :=
                ⟨rfl, .inr ⟨wr.heap.size, 0, #[], rfl, HBr.out.size, World.alloc_heap_new wr _, Nat.le_refl _, by unfold maxLen; omega, rfl, rfl⟩⟩
              have HA3 : Hid (Arr32 (wr.alloc (.cells #[] 5)) V 56 VV) := Lib.hid ((Below.heap_alloc _ _ _ HAf.out.lt).trans HAf.out)
              have HS3 : Hid (Arr32 (wr.alloc (.cells #[] 5)) G 56 s0) := Lib.hid ((Below.heap_alloc _ _ _ HSr.out.lt).trans HSr.out)
              have HB3 : Hid (Below w.heap.size w (wr.alloc (.cells #[] 5))) := Lib.hid (HBr.out.alloc HBr.out.size _)
              have HO3 := Lib.hid hown0
              clear hown0 HAf HSr HBr hr hlr HA HS HB
              go_upto_region 25 with fail
              go_loopw [14, 15] (fun l t wk => ∃ k : Nat, t = .int .i64 k ∧ k ≤ 16 ∧ Hid (wk.ownsRow w.heap.size 5 1 l (4 * k) ((chaOut VV s0 k).map v8)) ∧ Hid (Arr32 wk V 56 VV) ∧ Hid (Arr32 wk G 56 s0) ∧ Hid (Below w.heap.size w wk)) (fun _ t _ => (16 - intOf t).toNat)
              case atStart => exact ⟨0, rfl, by omega, HO3, HA3, HS3, HB3⟩
              case round =>
                obtain ⟨k, rfl, hk16, HOk, HAk, HSk, HBk⟩ := hrel
                clear HA3 HS3 HB3 HO3
                by_cases hlk : k < 16
                · have hdk : decide ((k : Int) < 16) = true := by simp; omega
                  have hck := HSk.out.cell (i := k) (by rw [HL0.out]; exact hlk)
                  have hvk := HAk.out.cell (i := k) (by rw [hlV.out]; exact hlk)
                  have hco : chaOut VV s0 (k + 1) = chaOut VV s0 k ++ byteN (VV.getD k 0 + s0.getD k 0) := rfl
                  generalize VV.getD k 0 = xv at hvk hco
                  generalize s0.getD k 0 = xs at hck hco
                  have hadd : IntKind.u32.wrap ((xv.toNat : Int) + (xs.toNat : Int)) = ((xv + xs).toNat : Int) := by rw [← badd]; rfl
                  generalize hx : xv + xs = x at hco hadd
                  have hb0 : (x.toNat : Int) % 256 = _ := low8 x
                  have hb1 : (x.toNat : Int) / 256 % 256 = _ := byte8 x 8 256 (by decide)
                  have hb2 : (x.toNat : Int) / 65536 % 256 = _ := byte8 x 16 65536 (by decide)
                  have hb3 : (x.toNat : Int) / (16777216 : Int) = (((x >>> 24).setWidth 8).toNat : Int) := by
                    have := byte8 x 24 16777216 (by decide)
                    have hxl := x.isLt
                    rw [← this]
                    omega
                  generalize hz : x.setWidth 8 = y0 at hb0
                  generalize hz1 : (x >>> 8).setWidth 8 = y1 at hb1
                  generalize hz2 : (x >>> 16).setWidth 8 = y2 at hb2
                  generalize hz3 : (x >>> 24).setWidth 8 = y3 at hb3
                  have HY : Hid (byteN x = [y0, y1, y2, y3]) := Lib.hid (by rw [byteN, hz, hz1, hz2, hz3])
                  clear hx hz hz1 hz2 hz3
                  have HN : Hid ((chaOut VV s0 (k + 1)).map v8 = (chaOut VV s0 k).map v8 ++ [.int .u8 y0.toNat, .int .u8 y1.toNat, .int .u8 y2.toNat, .int .u8 y3.toNat]) := Lib.hid (by
                    rw [hco, HY.out]; simp [v8])
                  have HOq := Lib.hid (own_drewN HOk.out)
                  have HAq : Hid (∀ q, Arr32 (wr.drewN q) V 56 VV) := Lib.hid fun q => HAk.out
                  have HSq : Hid (∀ q, Arr32 (wr.drewN q) G 56 s0) := Lib.hid fun q => HSk.out
                  have HBq : Hid (∀ q, Below w.heap.size w (wr.drewN q)) := Lib.hid fun q => HBk.out.trans ⟨rfl, rfl, rfl, Nat.le_refl _, fun _ _ => rfl⟩
                  clear hco HY
                  have hk0 : (0 : Int) ≤ k := by omega
                  have hk1 : (k : Int) < 16 := by omega
                  go_upto_region 27 with fail
                  go_quiet (fail)
                  clear hck hvk hadd
                  go_wp2_with (at_builtin; refine wpList_append_row rfl _ _ 28 rfl w.heap.size 5 i0 (.int .u8 0) 1 1 Tryd.underlying28 hi0 hz0 hz1 hz2 rfl (by decide) _ _ _ rfl ((HOq.out _).alloc _) _ _ _ rfl (row_fresh _ _ 5 (0, 0) 4 (Nat.le_refl _)) (by simp [Value.oneCell']) (by unfold maxLen; simp; omega) (by simp; omega) ((HBq.out _).alloc (HBq.out _).size _).size ?_; intro v' w1 hown' hgrow)
                  have hSa := (Below.heap_alloc (wr.drewN nq) (.cells #[Value.int .u8 y0.toNat, .int .u8 y1.toNat, .int .u8 y2.toNat, .int .u8 y3.toNat] 5) _ (HSq.out nq).lt).trans (HSq.out nq)
                  have hAa := (Below.heap_alloc (wr.drewN nq) (.cells #[Value.int .u8 y0.toNat, .int .u8 y1.toNat, .int .u8 y2.toNat, .int .u8 y3.toNat] 5) _ (HAq.out nq).lt).trans (HAq.out nq)
                  have hSb : Arr32 w1 G 56 s0 := Arr32.grown hSa hgrow (Arr32.not_row hSa (by decide) ((HOq.out nq).alloc _))
                  have hAb : Arr32 w1 V 56 VV := Arr32.grown hAa hgrow (Arr32.not_row hAa (by decide) ((HOq.out nq).alloc _))
                  have hBb : Below w.heap.size w w1 := ((HBq.out nq).alloc (HBq.out nq).size _).grown hgrow ((HBq.out nq).alloc (HBq.out nq).size _).size (fun k e => ((HOq.out nq).lt k e).1)
                  have hOb : w1.ownsRow w.heap.size 5 1 v' (4 * (k + 1)) ((chaOut VV s0 (k + 1)).map v8) := by rw [HN.out]; exact hown'
                  clear hgrow hown' hSa hAa
                  go_roundw
                  case rel => exact ⟨k + 1, by go_num, by omega, hOb, hAb, hSb, hBb⟩
                  case measure => simp [intOf]; omega
                · have hdk : decide ((k : Int) < 16) = false := by simp; omega
                  have hk6 : k = 16 := by omega
                  have hfin := HOk.out
                  rw [hk6, ← hcb.out] at hfin
                  have HFIN := Lib.hid hfin
                  clear hfin hk6 HOk
                  go_wp2
                  go_ret
                  exact ⟨_, rfl, HFIN.out, HBk.out⟩
end Go.Proofs.YtklaancgnfkjlaaDoor
