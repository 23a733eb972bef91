/- The bytes of a block. -/
import Derived.Test.YtklaancgnfkjlaaDoorCc
import Derived.OwnWalk
import Derived.Great.Walk
import Derived.Great.Ranges
import Derived.Deep.WholeRow
namespace Go.Proofs.YtklaancgnfkjlaaDoor
open Go.RowKit
set_option maxRecDepth 100000
set_option maxHeartbeats 4000000
set_option linter.unusedVariables false
set_option linter.unusedSimpArgs false

def colR (v : List (BitVec 32)) : Nat → List (BitVec 32)
  | 0 => v
  | i + 1 => qr (colR v i) i (4 + i) (8 + i) (12 + i)
def diaR (v : List (BitVec 32)) : Nat → List (BitVec 32)
  | 0 => v
  | i + 1 => qr (diaR v i) i (4 + (i + 1) % 4) (8 + (i + 2) % 4) (12 + (i + 3) % 4)
def dblR (v : List (BitVec 32)) : Nat → List (BitVec 32)
  | 0 => v
  | r + 1 => diaR (colR (dblR v r) 4) 4
theorem colR_length (v i) : (colR v i).length = v.length := by induction i with
  | zero => rfl
  | succ i ih => rw [colR, qr_length, ih]
theorem diaR_length (v i) : (diaR v i).length = v.length := by induction i with
  | zero => rfl
  | succ i ih => rw [diaR, qr_length, ih]
theorem dblR_length (v i) : (dblR v i).length = v.length := by induction i with
  | zero => rfl
  | succ i ih => rw [dblR, diaR_length, colR_length, ih]

theorem mix_col (g : Nat) (t : TypeId) (v : List (BitVec 32)) (hv : v.length = 16) (i : Nat) (hi : i < 4) (w : World) (h : Arr32 w g t v) :
    Calls Tryd.prog 31 #[.pointer (some ⟨g, 0, none⟩), .int .i64 i, .int .i64 (4 + (i : Int)), .int .i64 (8 + (i : Int)), .int .i64 (12 + (i : Int))] w fun e w' =>
      e = .returned (.tuple #[]) ∧ OnlyAt g w w' ∧ Arr32 w' g t (qr v i (4 + i) (8 + i) (12 + i)) := by
  have := mix_ok g t v hv i (4 + i) (8 + i) (12 + i) (by omega) (by omega) (by omega) (by omega) w h
  simpa using this
theorem mix_dia (g : Nat) (t : TypeId) (v : List (BitVec 32)) (hv : v.length = 16) (i : Nat) (hi : i < 4) (w : World) (h : Arr32 w g t v) :
    Calls Tryd.prog 31 #[.pointer (some ⟨g, 0, none⟩), .int .i64 i, .int .i64 (4 + ((i : Int) + 1) % 4), .int .i64 (8 + ((i : Int) + 2) % 4), .int .i64 (12 + ((i : Int) + 3) % 4)] w fun e w' =>
      e = .returned (.tuple #[]) ∧ OnlyAt g w w' ∧ Arr32 w' g t (qr v i (4 + (i + 1) % 4) (8 + (i + 2) % 4) (12 + (i + 3) % 4)) := by
  have := mix_ok g t v hv i (4 + (i + 1) % 4) (8 + (i + 2) % 4) (12 + (i + 3) % 4) (by omega) (by omega) (by omega) (by omega) w h
  simpa using this

theorem info_u8 : (Tryd.prog.info? 5).map (fun i => (i.zero, i.size, i.bytes)) = some (some (.int .u8 0), 1, 1) := by kernel_rfl
theorem cells_new (w : World) (l : List Value) (t : TypeId) : ∀ j u, l[j]? = some u → (w.alloc (.cells l.toArray t)).cell? ((⟨w.heap.size, 0, none⟩ : Addr).add j) = some u := by
  intro j u hj
  have hadd : (⟨w.heap.size, 0, none⟩ : Addr).add j = ⟨w.heap.size, j, none⟩ := by unfold Addr.add; split <;> simp_all
  rw [hadd]
  have hb := World.alloc_heap_new w (.cells l.toArray t)
  simp only [World.cell?, hb]
  simpa using hj
theorem Arr32.not_row {W : World} {B : Nat} {t e : TypeId} {u : List (BitVec 32)} (h : Arr32 W B t u) (hte : t ≠ e) {base size k : Nat} {v : Value} {xs : List Value} (hr : W.ownsRow base e size v k xs) : some B ≠ v.ownBlock := by
  rcases hr.2 with ⟨rfl, _⟩ | ⟨g, cap, cur, rfl, _, hgb, _⟩
  · simp [Value.ownBlock]
  · intro e'
    obtain rfl : B = g := by simpa [Value.ownBlock] using e'
    have := (show W.heap[B]? = _ from h).symm.trans hgb
    simp at this
    exact hte this.2
theorem Arr32.grown {W W' : World} {B : Nat} {t : TypeId} {u : List (BitVec 32)} (h : Arr32 W B t u) {row : Option Nat} (hg : W.grownBy W' row) (hne : some B ≠ row) : Arr32 W' B t u := (hg.block B h.lt hne).trans h
def byteN (x : BitVec 32) : List (BitVec 8) := [x.setWidth 8, (x >>> 8).setWidth 8, (x >>> 16).setWidth 8, (x >>> 24).setWidth 8]
def chaOut (v s : List (BitVec 32)) : Nat → List (BitVec 8)
  | 0 => []
  | i + 1 => chaOut v s i ++ byteN (v.getD i 0 + s.getD i 0)
theorem chaOut_length (v s i) : (chaOut v s i).length = 4 * i := by induction i with
  | zero => rfl
  | succ i ih => simp [chaOut, ih, byteN]; omega
def chaBlock (kb nb : List (BitVec 8)) (c : BitVec 32) : List (BitVec 8) := chaOut (dblR (chaInit kb nb c) 10) (chaInit kb nb c) 16
theorem low8 (x : BitVec 32) : (x.toNat : Int) % 256 = ((x.setWidth 8).toNat : Int) := by rw [BitVec.toNat_setWidth]; simp
theorem byte8 (x : BitVec 32) (n d : Nat) (hd : d = 2 ^ n) : (x.toNat : Int) / (d : Int) % 256 = (((x >>> n).setWidth 8).toNat : Int) := by
  rw [bshr x n d hd, low8]
theorem size46 : ∀ w, (sizeOf 46).run Tryd.prog w = .ok 1 w := fun w => by go_simp
theorem agg46 : ∀ w, (isAgg 46).run Tryd.prog w = .ok false w := fun w => by go_simp
theorem index_agg (V : List (BitVec 32)) (hV : V.length = 16) (k : Nat) (hk : k < 16) (W : World) :
    (Instr.index 57 (.agg (V.map v32).toArray) (.int .i64 (k : Int))).run Tryd.prog W = .ok (.int .u32 ((V.getD k 0).toNat : Int)) W := by
  have hu := Tryd.underlying57
  have h0 : (0 : Int) ≤ (k : Int) ∧ (k : Int) < ((16 : Nat) : Int) := by omega
  have hc : V[k]? = some (V.getD k 0) := by simp [hV, hk, List.getD]
  unfold Instr.index
  simp only [List.getD_eq_getElem?_getD] at hc ⊢
  generalize V[k]?.getD 0 = x at hc ⊢
  simp [asIntOf, run_underlying hu, part, hc, hk]

theorem info57 : (Tryd.prog.info? 57).map (·.size) = some 16 := by kernel_rfl
theorem store_new57 (w : World) (c c' : Array Value) (hc : c.size = 16) (hc' : c'.size = 16) (h1 : c'.all (·.oneCell') = true) :
    (storeCells ⟨w.heap.size, 0, none⟩ c'.toList 0).run Tryd.prog (w.alloc (.cells c 57)) = .ok () (w.alloc (.cells c' 57)) :=
  run_storeCells_new w _ c c' (by rw [info57, hc']) (by rw [hc, hc']) h1
theorem block_ok (kb nb : List (BitVec 8)) (c : BitVec 32) (w : World) (hk : kb.length = 32) (hn : nb.length = 12) (hT : ConstTab w) :
    Calls Tryd.prog 21 #[.agg (kb.map v8).toArray, .agg (nb.map v8).toArray, .int .u32 c.toNat] w fun e w' =>
      ∃ v, e = .returned v ∧ w'.ownsRow w.heap.size 5 1 v 64 ((chaBlock kb nb c).map v8) ∧ Below w.heap.size w w' := by
  have hlt : 1 < w.heap.size := cell_lt (hT.cell gConst 0 (by decide))
  have hks : (kb.map v8).toArray.size = 32 := by simp [hk]
  have hns : (nb.map v8).toArray.size = 12 := by simp [hn]
  have hF := fun w h => first_ok kb nb c w hk hn h
  generalize hkc : (kb.map v8).toArray = kc at hks hF ⊢
  generalize hnc : (nb.map v8).toArray = nc at hns hF ⊢
  have HKC := Lib.hid hkc
  have HNC := Lib.hid hnc
  have HF := Lib.hid hF
  have HT := Lib.hid hT
  have HKS := Lib.hid hks
  have HNS := Lib.hid hns
  clear hF hT hkc hnc hks hns
  obtain ⟨i0, hi0, hz0, hz1, hz2⟩ := info_parts info_u8
  go_enter Tryd.func21, Tryd.ntmps21
  go_upto_region 1 with fail
  refine wp_region_lit ?_
  refine wpList_load_row rfl 23 _ rfl w.heap.size rfl 23 kc (0, 0) _ ((Below.heap_alloc _ _ _ (by simp)).trans (World.alloc_heap_new w _)) Tryd.underlying23 rfl (by rw [HKS.out]; rfl) ?_
  refine wpList_load_row rfl 25 _ rfl (w.heap.size + 1) rfl 25 nc (0, 0) _ (by have := World.alloc_heap_new (w.alloc (.cells kc 23)) (.cells nc 25); simpa using this) Tryd.underlying25 rfl (by rw [HNS.out]; rfl) ?_
  go_wp2_with fail
  refine (HF.out _ ?_).mono ?_
  · exact (Lib.tabBelow_of_tabIs HT.out) _ ⟨rfl, rfl, rfl, by simp; omega, fun k hk => by rw [Below.heap_alloc _ _ _ (by simp; omega), Below.heap_alloc _ _ _ hk]⟩
  rintro e w1 ⟨rfl, hB1⟩
  have hss : ((chaInit kb nb c).map v32).toArray.size = 16 := by rw [List.size_toArray, List.length_map, chaInit_length]
  have hsa : ((chaInit kb nb c).map v32).toArray.all (·.oneCell') = true := by
    rw [Array.all_eq_true_iff_forall_mem]
    intro v hv
    obtain ⟨x, _, rfl⟩ := List.mem_map.1 (by simpa using hv)
    rfl
  generalize hq : ((chaInit kb nb c).map v32).toArray = arr at hss hsa ⊢
  have HQ := Lib.hid hq
  have HSA := Lib.hid hsa
  have HB1 := Lib.hid hB1
  clear hq hsa hB1
  have hst1 := store_new57 w1 #[Value.int IntKind.u32 0, Value.int IntKind.u32 0, Value.int IntKind.u32 0, Value.int IntKind.u32 0, Value.int IntKind.u32 0, Value.int IntKind.u32 0, Value.int IntKind.u32 0, Value.int IntKind.u32 0, Value.int IntKind.u32 0, Value.int IntKind.u32 0, Value.int IntKind.u32 0, Value.int IntKind.u32 0, Value.int IntKind.u32 0, Value.int IntKind.u32 0, Value.int IntKind.u32 0, Value.int IntKind.u32 0] arr rfl hss HSA.out
  go_upto_region 2 with fail
  clear hst1
  refine wp_region_lit ?_
  refine wpList_load_row rfl 57 _ rfl w1.heap.size rfl 57 arr (0, 0) _ (World.alloc_heap_new w1 _) Tryd.underlying57 rfl (by rw [hss]; rfl) ?_
  have hst2 := store_new57 (w1.alloc (.cells arr 57)) #[Value.int IntKind.u32 0, Value.int IntKind.u32 0, Value.int IntKind.u32 0, Value.int IntKind.u32 0, Value.int IntKind.u32 0, Value.int IntKind.u32 0, Value.int IntKind.u32 0, Value.int IntKind.u32 0, Value.int IntKind.u32 0, Value.int IntKind.u32 0, Value.int IntKind.u32 0, Value.int IntKind.u32 0, Value.int IntKind.u32 0, Value.int IntKind.u32 0, Value.int IntKind.u32 0, Value.int IntKind.u32 0] arr rfl hss HSA.out
  rw [World.size_alloc] at hst2
  go_upto_region 4 with fail
  clear hst2
  have hA : Arr32 ((w1.alloc (.cells arr 57)).alloc (.cells arr 57)) (w1.heap.size + 1) 57 (dblR (chaInit kb nb c) 0) := by
    have := World.alloc_heap_new (w1.alloc (.cells arr 57)) (.cells arr 57)
    rw [World.size_alloc] at this
    show _ = some (Obj.cells ((chaInit kb nb c).map v32).toArray 57 (0, 0))
    rw [HQ.out]; exact this
  have hS : Arr32 ((w1.alloc (.cells arr 57)).alloc (.cells arr 57)) w1.heap.size 57 (chaInit kb nb c) := by
    show _ = some (Obj.cells ((chaInit kb nb c).map v32).toArray 57 (0, 0))
    rw [HQ.out, Below.heap_alloc _ _ _ (by simp)]; exact World.alloc_heap_new w1 _
  have hB : Below w.heap.size w ((w1.alloc (.cells arr 57)).alloc (.cells arr 57)) := by
    have h0 : Below w.heap.size w ((w.alloc (.cells kc 23)).alloc (.cells nc 25)) :=
      ⟨rfl, rfl, rfl, by simp; omega, fun k hk => by rw [Below.heap_alloc _ _ _ (by simp; omega), Below.heap_alloc _ _ _ hk]⟩
    have h1 := h0.trans (HB1.out.mono (by simp; omega))
    have hz := h1.size
    exact h1.trans ⟨rfl, rfl, rfl, by simp; omega, fun k hk => by rw [Below.heap_alloc _ _ _ (by simp; omega), Below.heap_alloc _ _ _ (by omega)]⟩
  have hge : w.heap.size ≤ w1.heap.size := by have := HB1.out.size; simp at this; omega
  obtain ⟨W2, hW2⟩ : ∃ W, W = (w1.alloc (.cells arr 57)).alloc (.cells arr 57) := ⟨_, rfl⟩
  rw [← hW2] at hA hS hB ⊢
  have hsz2 : w1.heap.size + 2 ≤ W2.heap.size := by rw [hW2]; simp
  obtain ⟨G, hG⟩ : ∃ G, G = w1.heap.size := ⟨_, rfl⟩
  rw [← hG] at hA hS hge hsz2 ⊢
  have HA := Lib.hid hA
  have HS := Lib.hid hS
  have HB := Lib.hid hB
  clear hA hS hB hW2 hss HSA HB1 HQ HT HF HKC HNC HKS HNS hG
  clear w1
  have hl0 : (chaInit kb nb c).length = 16 := chaInit_length _ _ _
  have hcb : Hid (chaBlock kb nb c = chaOut (dblR (chaInit kb nb c) 10) (chaInit kb nb c) 16) := Lib.hid rfl
  generalize chaInit kb nb c = s0 at HA HS hl0 hcb
  go_wp2_with fail
  go_loopw [21] (fun t wr => ∃ r : Nat, t = .int .i64 r ∧ r ≤ 10 ∧ Hid (Arr32 wr (G + 1) 57 (dblR s0 r)) ∧ Hid (OnlyAt (G + 1) W2 wr)) (fun t _ => (10 - intOf t).toNat)
  case atStart => exact ⟨0, rfl, by omega, HA, OnlyAt.refl _ _⟩
  case round =>
    obtain ⟨r, rfl, hr, HAr, HOr⟩ := hrel
    by_cases hlr : r < 10
    · have hdr : decide ((r : Int) < 10) = true := by simp; omega
      have HLr := Lib.hid (show (dblR s0 r).length = 16 by rw [dblR_length]; exact hl0)
      go_wp2_with fail
      go_loopw [23] (fun t wi => ∃ i : Nat, t = .int .i64 i ∧ i ≤ 4 ∧ Hid (Arr32 wi (G + 1) 57 (colR (dblR s0 r) i)) ∧ Hid (OnlyAt (G + 1) W2 wi)) (fun t _ => (4 - intOf t).toNat)
      case atStart => exact ⟨0, rfl, by omega, HAr, HOr⟩
      case round =>
        obtain ⟨i, rfl, hi, HAi, HOi⟩ := hrel
        by_cases hli : i < 4
        · go_wp2_with fail
          refine (mix_col _ _ _ ?_ i hli _ HAi.out).mono ?_
          · rw [colR_length]; exact HLr.out
          rintro e w' ⟨rfl, hOm, hAm⟩
          have HOm := Lib.hid (HOi.out.trans hOm)
          have HAm := Lib.hid hAm
          clear hOm hAm
          go_wp2
          go_roundw
          case rel => exact ⟨i + 1, by go_num, by omega, HAm, HOm⟩
          case measure => simp [intOf]; omega
        · have hdi : decide ((i : Int) < 4) = false := by simp; omega
          have hi4 : i = 4 := by omega
          have HAk : Hid (Arr32 wr (G + 1) 57 (colR (dblR s0 r) 4)) := hi4 ▸ HAi
          clear HAi hi4
          go_wp2_with fail
          go_loopw [36] (fun t wd => ∃ d : Nat, t = .int .i64 d ∧ d ≤ 4 ∧ Hid (Arr32 wd (G + 1) 57 (diaR (colR (dblR s0 r) 4) d)) ∧ Hid (OnlyAt (G + 1) W2 wd)) (fun t _ => (4 - intOf t).toNat)
          case atStart => exact ⟨0, rfl, by omega, HAk, HOi⟩
          case round =>
            obtain ⟨d, rfl, hd, HAd, HOd⟩ := hrel
            by_cases hld : d < 4
            · go_wp2_with fail
              refine (mix_dia _ _ _ ?_ d hld _ HAd.out).mono ?_
              · rw [diaR_length, colR_length]; exact HLr.out
              rintro e w' ⟨rfl, hOm, hAm⟩
              have HOm := Lib.hid (HOd.out.trans hOm)
              have HAm := Lib.hid hAm
              clear hOm hAm
              go_wp2
              go_roundw
              case rel => exact ⟨d + 1, by go_num, by omega, HAm, HOm⟩
              case measure => simp [intOf]; omega
            · have hd4 : d = 4 := by omega
              have HAe : Hid (Arr32 wr (G + 1) 57 (dblR s0 (r + 1))) := by
                have h := HAd
                rw [hd4] at h
                exact h
              clear HAd hd4
              go_wp2
              go_roundw
              case rel => exact ⟨r + 1, by go_num, by omega, HAe, HOd⟩
              case measure => simp [intOf]; omega
    · have hr10 : r = 10 := by omega
      have HAf : Hid (Arr32 wr (G + 1) 57 (dblR s0 10)) := hr10 ▸ HAr
      clear HAr hr10
      go_upto_region 17 with fail
      refine wp_region_lit ?_
      refine wpList_make_own wr rfl _ _ 28 rfl w.heap.size 5 i0 (.int .u8 0) 1 Tryd.underlying28 hi0 hz0 hz1 .i64 .i64 64 64 rfl rfl rfl (by rw [hz2]; decide) (by unfold maxLen; omega) ?_ ?_
      · have := HOr.out.size; have := HB.out.size; omega
      intro w3 hown3 hgr3
      have hA3 : Arr32 w3 (G + 1) 57 (dblR s0 10) := HAf.out.grown hgr3 (by simp)
      have hS3 : Arr32 w3 G 57 s0 := Arr32.grown ((HOr.out.block _ (by omega)).trans HS.out) hgr3 (by simp)
      have hB3 : Below w.heap.size w w3 := (HB.out.trans (HOr.out.below (by omega))).grown hgr3 (by have := HOr.out.size; have := HB.out.size; omega) (by simp)
      have hlV : (dblR s0 10).length = 16 := by rw [dblR_length]; exact hl0
      have HA3 := Lib.hid hA3
      have HS3 := Lib.hid hS3
      have HB3 := Lib.hid hB3
      clear hA3 hS3 hB3 HAf HOr HS HA HB hgr3
      generalize dblR s0 10 = V at HA3 hlV hcb
      go_upto_region 18 with fail
      refine wp_region_lit ?_
      refine wpList_load_row rfl 57 _ rfl (G + 1) rfl 57 (V.map v32).toArray (0, 0) _ HA3.out Tryd.underlying57 rfl (by rw [List.size_toArray, List.length_map, hlV]; rfl) ?_
      have hix : ∀ (k : Nat) (hk : k < 16) (W : World), (Instr.index 57 (.agg (V.map v32).toArray) (.int .i64 (k : Int))).run Tryd.prog W = .ok (.int .u32 ((V.getD k 0).toNat : Int)) W := fun k hk W => index_agg V hlV k hk W
      generalize (V.map v32).toArray = varr at hix ⊢
      have HIX := Lib.hid hix
      clear hix HA3
      go_wp2_with fail
      go_loopw [12, 58] (fun l t wr => ∃ k : Nat, t = .int .i64 k ∧ k ≤ 16 ∧ wr.ownsRow w.heap.size 5 1 l (4 * k) ((chaOut V s0 k).map v8) ∧ Hid (Arr32 wr G 57 s0) ∧ Hid (Below w.heap.size w wr)) (fun _ t _ => (16 - intOf t).toNat)
      case atStart => exact ⟨0, rfl, by omega, hown3, HS3, HB3⟩
      case round =>
        obtain ⟨k, rfl, hk16, hown, HSk, HBk⟩ := hrel
        by_cases hlk : k < 16
        · have hik := HIX.out k hlk
          have hck := HSk.out.cell (i := k) (by omega)
          have hco : chaOut V s0 (k + 1) = chaOut V s0 k ++ byteN (V.getD k 0 + s0.getD k 0) := rfl
          generalize V.getD k 0 = xv at hik hco
          generalize s0.getD k 0 = xs at hck hco
          have HCO := Lib.hid hco
          clear hco
          go_upto_region 22 with fail
          rw [badd xv xs]
          generalize hx : xv + xs = x at HCO ⊢
          have hb0 : (x.toNat : Int) % 256 = _ := low8 x
          have hb1 : (x.toNat : Int) / 256 % 256 = _ := byte8 x 8 256 (by decide)
          have hb2 : (x.toNat : Int) / 65536 % 256 = _ := byte8 x 16 65536 (by decide)
          have hb3 : (x.toNat : Int) / (16777216 : Int) = (((x >>> 24).setWidth 8).toNat : Int) := by
            have := byte8 x 24 16777216 (by decide)
            have hxl := x.isLt
            rw [← this]
            omega
          generalize hz : x.setWidth 8 = y0 at hb0
          generalize hz1 : (x >>> 8).setWidth 8 = y1 at hb1
          generalize hz2 : (x >>> 16).setWidth 8 = y2 at hb2
          generalize hz3 : (x >>> 24).setWidth 8 = y3 at hb3
          have HY : Hid (byteN x = [y0, y1, y2, y3]) := Lib.hid (by rw [byteN, hz, hz1, hz2, hz3])
          clear hx hz hz1 hz2 hz3 hik hck
          have hsz := HBk.out.size
          have hN : (chaOut V s0 k ++ byteN x).map v8 = (chaOut V s0 k).map v8 ++ [.int .u8 y0.toNat, .int .u8 y1.toNat, .int .u8 y2.toNat, .int .u8 ((x.toNat : Int) / (16777216 : Int))] := by
            rw [HY.out, hb3]; simp [v8]
          clear hb3
          rw [← HCO.out] at hN
          have HN := Lib.hid hN
          clear hN HCO HY
          go_wp2_with (at_builtin; refine wpList_append_own _ rfl _ _ 28 rfl w.heap.size 5 i0 (.int .u8 0) 1 1 Tryd.underlying28 hi0 hz0 hz1 hz2 rfl (by decide) _ _ _ rfl (hown.alloc _) ⟨wr.heap.size, 0, none⟩ 4 4 [.int .u8 y0.toNat, .int .u8 y1.toNat, .int .u8 y2.toNat, .int .u8 ((x.toNat : Int) / (16777216 : Int))] rfl rfl (cells_new _ _ _) (by simp [Value.oneCell']) (by unfold maxLen; omega) (by omega) (by simp; omega) ?_; intro v' w4 hown' hgrow _)
          rw [← HN.out] at hown'
          go_roundw
          case rel =>
            refine ⟨k + 1, by go_num, by omega, hown', ?_, ?_⟩
            · have h1 : Arr32 (wr.alloc (.cells #[.int .u8 y0.toNat, .int .u8 y1.toNat, .int .u8 y2.toNat, .int .u8 ((x.toNat : Int) / (16777216 : Int))] 5)) G 57 s0 := (Below.heap_alloc _ _ _ HSk.out.lt).trans HSk.out
              exact h1.grown hgrow (h1.not_row (by decide) (hown.alloc _))
            · exact (HBk.out.alloc hsz _).grown hgrow (by simp; omega) (fun k e => (hown.lt k e).1)
          case measure => simp [intOf]; omega
        · have hk6 : k = 16 := by omega
          rw [hk6, ← hcb.out] at hown
          have HOW := Lib.hid hown
          clear hown hk6 HIX
          go_wp2
          go_ret
          exact ⟨_, rfl, HOW.out, HBk.out⟩
end Go.Proofs.YtklaancgnfkjlaaDoor
