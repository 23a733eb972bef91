/- The numbers at the beginning. -/
import Derived.Test.YtklaancgnfkjlaaDoorCb
import Derived.LoopTactic
import Derived.Laws.CopyOwn
import Derived.Lib.LaidTab
import Derived.Lib.AppendIntMem
namespace Go.Proofs.YtklaancgnfkjlaaDoor
open Go.RowKit
set_option maxRecDepth 100000
set_option maxHeartbeats 4000000
set_option linter.unusedVariables false
set_option linter.unusedSimpArgs false

abbrev v8 (x : BitVec 8) : Value := Value.int .u8 (x.toNat : Int)
abbrev v32 (x : BitVec 32) : Value := Value.int .u32 (x.toNat : Int)
/-- A block that holds a row of bytes. -/
def Arr8 (W : World) (g : Nat) (t : TypeId) (v : List (BitVec 8)) : Prop :=
  W.heap[g]? = some (.cells (v.map v8).toArray t (0, 0))
theorem Arr8.cell {W : World} {g : Nat} {t : TypeId} {v : List (BitVec 8)} (h : Arr8 W g t v) {i : Nat} (hi : i < v.length) :
    W.cell? ⟨g, i, none⟩ = some (.int .u8 (v.getD i 0).toNat) := by
  simp [World.cell?, show W.heap[g]? = _ from h, hi, List.getD, v8]
theorem Arr8.below {W W' : World} {g B : Nat} {t : TypeId} {v : List (BitVec 8)} (h : Arr8 W g t v) (hb : Below B W W') (hg : g < B) : Arr8 W' g t v := (hb.block g hg).trans h
theorem Arr32.below {W W' : World} {g B : Nat} {t : TypeId} {v : List (BitVec 32)} (h : Arr32 W g t v) (hb : Below B W W') (hg : g < B) : Arr32 W' g t v := (hb.block g hg).trans h

def consts : List (BitVec 32) := [0x61707865, 0x3320646e, 0x79622d32, 0x6b206574]
def le4L (b : List (BitVec 8)) (i : Nat) : BitVec 32 := le4 (b.getD i 0) (b.getD (i+1) 0) (b.getD (i+2) 0) (b.getD (i+3) 0)
/-- The row after k words of the key. -/
def keyed (kb : List (BitVec 8)) : Nat → List (BitVec 32)
  | 0 => consts ++ List.replicate 12 0
  | i + 1 => (keyed kb i).set (4 + i) (le4L kb (4 * i))
def nonced (kb nb : List (BitVec 8)) (c : BitVec 32) : Nat → List (BitVec 32)
  | 0 => (keyed kb 8).set 12 c
  | i + 1 => (nonced kb nb c i).set (13 + i) (le4L nb (4 * i))
theorem keyed_length (kb i) : (keyed kb i).length = 16 := by induction i with
  | zero => rfl
  | succ i ih => simp [keyed, ih]
theorem nonced_length (kb nb c i) : (nonced kb nb c i).length = 16 := by induction i with
  | zero => simp [nonced, keyed_length]
  | succ i ih => simp [nonced, ih]
def chaInit (kb nb : List (BitVec 8)) (c : BitVec 32) : List (BitVec 32) := nonced kb nb c 3

theorem chaInit_length (kb nb c) : (chaInit kb nb c).length = 16 := nonced_length _ _ _ _
theorem setRow_same {w : World} {g : Nat} {t : TypeId} {fr : Nat × Nat} {cs : Array Value} (h : w.heap[g]? = some (.cells cs t fr)) : w.setRow g cs = w := by
  have hg := (Array.getElem?_eq_some_iff.1 h)
  obtain ⟨hl, he⟩ := hg
  unfold World.setRow
  congr 1
  apply Array.ext_getElem?
  intro i
  rw [Array.getElem?_modify]
  split
  · rename_i e; subst e; simp [hl, he]
  · rfl
/-- The table of the constants, as it lies. -/
def ConstTab (w : World) : Prop := Lib.TabIs Tryd.prog w "chartroom/cipher.constants" .u32 [0x61707865, 0x3320646e, 0x79622d32, 0x6b206574]

theorem gConst : Tryd.prog.globalNamed "chartroom/cipher.constants" = some 1 := by kernel_rfl

theorem cell_lt {w : World} {g i : Nat} {v : Value} (h : w.cell? ⟨g, i, none⟩ = some v) : g < w.heap.size := by
  rcases Nat.lt_or_ge g w.heap.size with h' | h'
  · exact h'
  · simp [World.cell?, Array.getElem?_eq_none h'] at h
theorem consts_cells {w : World} (t0 : w.cell? ⟨1, 0, none⟩ = some (.int .u32 0x61707865)) (t1 : w.cell? ⟨1, 1, none⟩ = some (.int .u32 0x3320646e)) (t2 : w.cell? ⟨1, 2, none⟩ = some (.int .u32 0x79622d32)) (t3 : w.cell? ⟨1, 3, none⟩ = some (.int .u32 0x6b206574)) :
    ∀ (j : Nat) (v : Value), (consts.map v32)[j]? = some v → w.cell? ((⟨1, 0, none⟩ : Addr).add j) = some v := by
  intro j v hj
  match j, hj with
  | 0, hj => simp [consts, v32] at hj; subst hj; exact t0
  | 1, hj => simp [consts, v32] at hj; subst hj; exact t1
  | 2, hj => simp [consts, v32] at hj; subst hj; exact t2
  | 3, hj => simp [consts, v32] at hj; subst hj; exact t3
  | j + 4, hj => simp [consts] at hj
theorem cell_old {w w' : World} {p : Addr} {v : Value} (h : w.cell? p = some v) (hs : w'.heap[p.block]? = w.heap[p.block]?) : w'.cell? p = some v := by
  unfold World.cell? at *; rw [hs]; exact h
theorem three_new (w : World) (A B C : Obj) : ((((w.alloc A).alloc B).alloc C).drew).heap[w.heap.size + 1 + 1]? = some C := by
  show (((w.alloc A).alloc B).alloc C).heap[w.heap.size + 1 + 1]? = some C
  have := World.alloc_heap_new ((w.alloc A).alloc B) C
  simpa using this
theorem three_old (w : World) (A B C : Obj) (k : Nat) (hk : k < w.heap.size) : ((((w.alloc A).alloc B).alloc C).drew).heap[k]? = w.heap[k]? := by
  show (((w.alloc A).alloc B).alloc C).heap[k]? = _
  rw [Below.heap_alloc _ _ _ (by simp; omega), Below.heap_alloc _ _ _ (by simp; omega), Below.heap_alloc _ _ _ hk]
theorem consts_one : ∀ v ∈ consts.map v32, v.oneCell' = true := by
  intro v hv
  obtain ⟨x, _, rfl⟩ := List.mem_map.1 hv
  rfl

theorem arr_slice_l {P : Program} (t e : TypeId) (n : Nat) (ht : P.underlying t = some (.array n e)) (hz : ∀ w, (sizeOf e).run P w = .ok 1 w) (g o l : Nat) (hl : l < n) (W : World) :
    (Instr.sliceAt t (.pointer (some ⟨g, o, none⟩)) (some (.int .i64 (l : Int))) none none).run P W = .ok (.slice (some ⟨g, o + l, none⟩) (n - l) (n - l)) W := by
  have he : P.elem t = e := by simp [Program.elem, ht]
  have hn : P.arrayLen t = n := by simp [Program.arrayLen, ht]
  rw [run_sliceAt_array_l W t _ (by rw [he, hn]; exact ht) .i64 _ (by omega) (by rw [hn]; omega)]
  rw [he, hn]
  simp [hz, Result.andThen, slicedAt, Addr.add]
  rw [if_neg (by omega)]
  split <;> simp [*]
theorem size5 : ∀ w, (sizeOf 5).run Tryd.prog w = .ok 1 w := fun w => by go_simp

theorem first_ok (kb nb : List (BitVec 8)) (c : BitVec 32) (w : World) (hk : kb.length = 32) (hn : nb.length = 12) (hT : ConstTab w) :
    Calls Tryd.prog 30 #[.agg (kb.map v8).toArray, .agg (nb.map v8).toArray, .int .u32 c.toNat] w fun e w' =>
      e = .returned (.agg ((chaInit kb nb c).map v32).toArray) ∧ Below w.heap.size w w' := by
  have t0 : w.cell? ⟨1, 0, none⟩ = some (.int .u32 0x61707865) := hT.cell gConst 0 (by decide)
  have hlt : 1 < w.heap.size := cell_lt t0
  have t1 : w.cell? ⟨1, 1, none⟩ = some (.int .u32 0x3320646e) := hT.cell gConst 1 (by decide)
  have t2 : w.cell? ⟨1, 2, none⟩ = some (.int .u32 0x79622d32) := hT.cell gConst 2 (by decide)
  have t3 : w.cell? ⟨1, 3, none⟩ = some (.int .u32 0x6b206574) := hT.cell gConst 3 (by decide)
  generalize hkc : (kb.map v8).toArray = kc
  generalize hnc : (nb.map v8).toArray = nc
  replace hkc := Lib.hid hkc
  replace hnc := Lib.hid hnc
  replace hT := Lib.hid hT
  go_enter Tryd.func30, Tryd.ntmps30
  go_wp2
  obtain ⟨Z, hZ⟩ : ∃ Z : List Value, Z = List.replicate 16 (.int .u32 0) := ⟨_, rfl⟩
  have hZ' : #[Value.int IntKind.u32 0, Value.int IntKind.u32 0, Value.int IntKind.u32 0, Value.int IntKind.u32 0,
        Value.int IntKind.u32 0, Value.int IntKind.u32 0, Value.int IntKind.u32 0, Value.int IntKind.u32 0,
        Value.int IntKind.u32 0, Value.int IntKind.u32 0, Value.int IntKind.u32 0, Value.int IntKind.u32 0,
        Value.int IntKind.u32 0, Value.int IntKind.u32 0, Value.int IntKind.u32 0, Value.int IntKind.u32 0] = Z.toArray := by rw [hZ]; rfl
  replace hZ := Lib.hid hZ
  rw [hZ']
  replace hZ' := Lib.hid hZ'
  have hg0 := three_new w (.cells kc 23) (.cells nc 25) (.cells Z.toArray 57)
  have hO1 := three_old w (.cells kc 23) (.cells nc 25) (.cells Z.toArray 57) 1 hlt
  have hs0 := consts_cells (cell_old t0 hO1) (cell_old t1 hO1) (cell_old t2 hO1) (cell_old t3 hO1)
  have hf0 : 0 + (consts.map v32).length ≤ Z.length := by rw [hZ.out]; decide
  replace hg0 := Lib.hid hg0
  replace hs0 := Lib.hid hs0
  clear hO1
  replace hf0 := Lib.hid hf0
  go_region_law (refine step_copy_splice rfl (.tmp 9) (.tmp 10) 70 70 rfl 46 Tryd.underlying70 rfl (some ⟨w.heap.size + 1 + 1, 0, none⟩) (some ⟨1, 0, none⟩) 16 16 4 4 (by simp [Act.eval, Act.put]) (by simp [Act.eval, Act.put]) (w.heap.size + 1 + 1) 0 Z 57 hg0.out (consts.map v32) rfl (fun _ => ⟨rfl, _, rfl, hs0.out⟩) hf0.out consts_one (w.heap.size + 1 + 1) _ (Below.refl _ _) (Nat.le_refl _) ?_; intro w4 hg4 hb4)
  have hA : Arr32 w4 (w.heap.size + 1 + 1) 57 (keyed kb 0) := by
    have e : splice Z 0 (consts.map v32) = (keyed kb 0).map v32 := by rw [hZ.out]; rfl
    show w4.heap[_]? = _
    rw [hg4.out, e]
  have hK : Arr8 w4 w.heap.size 23 kb := by
    show w4.heap[_]? = _
    rw [hb4.block _ (by omega), hkc.out]
    show (((w.alloc (.cells kc 23)).alloc (.cells nc 25)).alloc (.cells Z.toArray 57)).heap[w.heap.size]? = _
    rw [Below.heap_alloc _ _ _ (by simp; omega), Below.heap_alloc _ _ _ (by simp), World.alloc_heap_new]
  have hN : Arr8 w4 (w.heap.size + 1) 25 nb := by
    show w4.heap[_]? = _
    rw [hb4.block _ (by omega), hnc.out]
    show (((w.alloc (.cells kc 23)).alloc (.cells nc 25)).alloc (.cells Z.toArray 57)).heap[w.heap.size + 1]? = _
    rw [Below.heap_alloc _ _ _ (by simp)]
    have := World.alloc_heap_new (w.alloc (.cells kc 23)) (.cells nc 25)
    simpa using this
  have hB : Below w.heap.size w w4 := by
    refine Below.trans (b := (((w.alloc (.cells kc 23)).alloc (.cells nc 25)).alloc (.cells Z.toArray 57)).drew) ⟨rfl, rfl, rfl, ?_, fun k hk => three_old w _ _ _ k hk⟩ (hb4.mono (by omega))
    show w.heap.size ≤ (((w.alloc (.cells kc 23)).alloc (.cells nc 25)).alloc (.cells Z.toArray 57)).heap.size
    simp; omega
  have HA := Lib.hid hA
  have HK := Lib.hid hK
  have HN := Lib.hid hN
  have HB := Lib.hid hB
  clear hA hK hN hB hg4 hb4 hf0 hs0 hg0 hZ hZ' t0 t1 t2 t3 hT
  go_wp2_with fail
  go_loopw [12] (fun i wr => ∃ j : Nat, i = .int .i64 j ∧ j ≤ 8 ∧ Hid (Arr32 wr (w.heap.size + 1 + 1) 57 (keyed kb j)) ∧ Hid (OnlyAt (w.heap.size + 1 + 1) w4 wr)) (fun i _ => (8 - intOf i).toNat)
  case atStart => exact ⟨0, rfl, by omega, HA, OnlyAt.refl _ _⟩
  case round =>
    obtain ⟨j, rfl, hj, HAj, HOj⟩ := hrel
    by_cases hlt : j < 8
    · have HK2 : Arr8 wr (w.heap.size) 23 kb := (HOj.out.block _ (by omega)).trans HK.out
      have k0 := HK2.cell (i := 4 * j) (by omega)
      have k1 := HK2.cell (i := 4 * j + 1) (by omega)
      have k2 := HK2.cell (i := 4 * j + 2) (by omega)
      have k3 := HK2.cell (i := 4 * j + 3) (by omega)
      have F := HAj.out.frozen (4 + j)
      have C := HAj.out.cell (i := 4 + j) (by rw [keyed_length]; omega)
      have K0 := Lib.hid k0
      have K1 := Lib.hid k1
      have K2 := Lib.hid k2
      have K3 := Lib.hid k3
      clear k0 k1 k2 k3 HK2
      have hsl : ∀ W, (Instr.sliceAt 23 (.pointer (some ⟨w.heap.size, 0, none⟩)) (some (.int .i64 (4 * (j : Int)))) none none).run Tryd.prog W = .ok (.slice (some ⟨w.heap.size, 4 * j, none⟩) (32 - 4 * j) (32 - 4 * j)) W := fun W => by
        have := arr_slice_l (P := Tryd.prog) 23 5 32 Tryd.underlying23 size5 (w.heap.size) 0 (4 * j) (by omega) W
        simpa using this
      go_wp2_with fail
      refine (word_any _ _ _ _ ?_ ?_ _ _ _ _ _ K0.out K1.out K2.out K3.out).mono ?_
      · omega
      · omega
      rintro e w' ⟨rfl, q, rfl⟩
      have hx : le4 (kb.getD (4 * j) 0) (kb.getD (4 * j + 1) 0) (kb.getD (4 * j + 2) 0) (kb.getD (4 * j + 3) 0) = le4L kb (4 * j) := rfl
      rw [hx]
      clear hx
      obtain ⟨x, hx⟩ : ∃ x, x = le4L kb (4 * j) := ⟨_, rfl⟩
      rw [← hx]
      have HX := Lib.hid hx
      clear hx
      go_wp2
      go_roundw
      case rel =>
        refine ⟨j + 1, by go_num, by omega, ?_, ?_⟩
        · show Arr32 _ _ _ (List.set _ _ _)
          rw [← HX.out]
          exact Arr32.set (W := wr.drewN q) HAj.out _ _
        · exact HOj.out.trans (OnlyAt.trans (b := wr.drewN q) ⟨rfl, rfl, rfl, rfl, fun _ _ => rfl⟩ (OnlyAt.setCell _ _ _ _))
      case measure => simp [intOf]; omega
    · have hj8 : j = 8 := by omega
      have HAk : Hid (Arr32 wr (w.heap.size + 1 + 1) 57 (keyed kb 8)) := hj8 ▸ HAj
      clear HAj hj8
      have F := HAk.out.frozen 12
      have C := HAk.out.cell (i := 12) (by rw [keyed_length]; omega)
      go_wp2_with fail
      clear F C
      go_loopw [25] (fun i wr => ∃ j : Nat, i = .int .i64 j ∧ j ≤ 3 ∧ Hid (Arr32 wr (w.heap.size + 1 + 1) 57 (nonced kb nb c j)) ∧ Hid (OnlyAt (w.heap.size + 1 + 1) w4 wr)) (fun i _ => (3 - intOf i).toNat)
      case atStart => 
        refine ⟨0, rfl, by omega, ?_, ?_⟩
        · exact Arr32.set (W := wr) HAk.out _ _
        · exact HOj.out.trans (OnlyAt.setCell _ _ _ _)
      case round =>
        obtain ⟨j, rfl, hj, HAj, HOj⟩ := hrel
        by_cases hlt : j < 3
        · have HK2 : Arr8 wr (w.heap.size + 1) 25 nb := (HOj.out.block _ (by omega)).trans HN.out
          have k0 := HK2.cell (i := 4 * j) (by omega)
          have k1 := HK2.cell (i := 4 * j + 1) (by omega)
          have k2 := HK2.cell (i := 4 * j + 2) (by omega)
          have k3 := HK2.cell (i := 4 * j + 3) (by omega)
          have F := HAj.out.frozen (13 + j)
          have C := HAj.out.cell (i := 13 + j) (by rw [nonced_length]; omega)
          have K0 := Lib.hid k0
          have K1 := Lib.hid k1
          have K2 := Lib.hid k2
          have K3 := Lib.hid k3
          clear k0 k1 k2 k3 HK2
          have hsl : ∀ W, (Instr.sliceAt 25 (.pointer (some ⟨w.heap.size + 1, 0, none⟩)) (some (.int .i64 (4 * (j : Int)))) none none).run Tryd.prog W = .ok (.slice (some ⟨w.heap.size + 1, 4 * j, none⟩) (12 - 4 * j) (12 - 4 * j)) W := fun W => by
            have := arr_slice_l (P := Tryd.prog) 25 5 12 Tryd.underlying25 size5 (w.heap.size + 1) 0 (4 * j) (by omega) W
            simpa using this
          go_wp2_with fail
          refine (word_any _ _ _ _ ?_ ?_ _ _ _ _ _ K0.out K1.out K2.out K3.out).mono ?_
          · omega
          · omega
          rintro e w' ⟨rfl, q, rfl⟩
          have hx : le4 (nb.getD (4 * j) 0) (nb.getD (4 * j + 1) 0) (nb.getD (4 * j + 2) 0) (nb.getD (4 * j + 3) 0) = le4L nb (4 * j) := rfl
          rw [hx]
          clear hx
          obtain ⟨x, hx⟩ : ∃ x, x = le4L nb (4 * j) := ⟨_, rfl⟩
          rw [← hx]
          have HX := Lib.hid hx
          clear hx
          go_wp2
          go_roundw
          case rel =>
            refine ⟨j + 1, by go_num, by omega, ?_, ?_⟩
            · show Arr32 _ _ _ (List.set _ _ _)
              rw [← HX.out]
              exact Arr32.set (W := wr.drewN q) HAj.out _ _
            · exact HOj.out.trans (OnlyAt.trans (b := wr.drewN q) ⟨rfl, rfl, rfl, rfl, fun _ _ => rfl⟩ (OnlyAt.setCell _ _ _ _))
          case measure => simp [intOf]; omega
        · have hj3 : j = 3 := by omega
          have HAm : Hid (Arr32 wr (w.heap.size + 1 + 1) 57 (nonced kb nb c 3)) := hj3 ▸ HAj
          clear HAj hj3
          have hA2 : wr.heap[w.heap.size + 1 + 1]? = some (.cells ((chaInit kb nb c).map v32).toArray 57 (0, 0)) := HAm.out
          have hs2 : ((chaInit kb nb c).map v32).toArray.size = 16 := by rw [List.size_toArray, List.length_map, chaInit_length]
          have ho2 : ((chaInit kb nb c).map v32).toArray.all (·.oneCell') = true := by
            rw [Array.all_eq_true_iff_forall_mem]
            intro v hv
            obtain ⟨x, _, rfl⟩ := List.mem_map.1 (by simpa using hv)
            rfl
          have HBX : Hid (Below w.heap.size w wr) := HB.out.trans (HOj.out.below (by omega))
          generalize hq : ((chaInit kb nb c).map v32).toArray = arr at hA2 hs2 ho2
          have HQ := Lib.hid hq
          clear hq
          have HA2 := Lib.hid hA2
          have HS2 := Lib.hid hs2
          have HO2 := Lib.hid ho2
          clear hA2 hs2 ho2
          go_upto_region 13 with fail
          refine wp_region_lit ?_
          refine wpList_load_row rfl 57 _ rfl (w.heap.size + 1 + 1) rfl 57 arr (0, 0) _ HA2.out Tryd.underlying57 rfl (by rw [HS2.out]; rfl) ?_
          refine wpList_plain rfl fun _ hK => wp_store_row 57 _ _ rfl (w.heap.size + 1 + 1) arr rfl rfl 57 arr HA2.out (by rw [HS2.out]; rfl) rfl HO2.out (hK _ _ ?_)
          rw [setRow_same HA2.out]
          go_wp2_with fail
          refine bodyPost_ret (v := .agg arr) ?_ rfl ?_
          · exact results_cell_row rfl _ _ _ 57 _ (0, 0) _ rfl HA2.out Tryd.underlying57 rfl (by rw [HS2.out]; rfl)
          · exact ⟨by rw [HQ.out], HBX.out⟩
end Go.Proofs.YtklaancgnfkjlaaDoor
