/- The walk of the law CipherBlocks. -/
import Derived.Test.YtklaancgnfkjlaaDoorEg
import Derived.Laws.Bits128
import Derived.Test.YtklaancgnfkjlaaDoorRg
namespace Go.Proofs.YtklaancgnfkjlaaDoor
open Go.RowKit
set_option maxRecDepth 100000
set_option maxHeartbeats 2000000
set_option linter.unusedVariables false
set_option linter.unusedSimpArgs false

theorem and255 (n : Int) : bits .and .i64 n 255 = (((n % 256).toNat : Nat) : Int) := by
  have h255 : (BitVec.ofInt 64 255).toNat = 2 ^ 8 - 1 := by decide
  have key : (BitVec.ofInt 64 n &&& BitVec.ofInt 64 255).toNat = (n % ((2 ^ 64 : Nat) : Int)).toNat % 2 ^ 8 := by
    rw [BitVec.toNat_and, BitVec.toNat_ofInt, h255, Nat.and_two_pow_sub_one_eq_mod]
  show IntKind.i64.wrap ((BitVec.ofInt 64 n &&& BitVec.ofInt 64 255).toNat : Nat) = _
  rw [key, IntKind.wrap_i64]
  omega
/-- The blocks with the counters 1 .. q - 1. -/
def blkU (kb nb : List (BitVec 8)) : Nat → List (BitVec 8)
  | 0 => []
  | q + 1 => if q = 0 then [] else blkU kb nb q ++ chaBlock kb nb (BitVec.ofNat 32 q)
theorem blkU_length (kb nb) : ∀ q, 1 ≤ q → (blkU kb nb q).length = 64 * (q - 1)
  | 0, h => by omega
  | q + 1, _ => by
    simp only [blkU]
    by_cases h : q = 0
    · subst h; rfl
    · rw [if_neg h, List.length_append, blkU_length kb nb q (by omega), chaBlock_length]; omega
theorem blkU_get (kb nb) : ∀ q, 1 ≤ q → ∀ i, i < 64 * (q - 1) → (blkU kb nb q).getD i 0 = ksB kb nb i
  | 0, h => by omega
  | q + 1, _ => fun i hi => by
    simp only [blkU]
    by_cases h : q = 0
    · omega
    · rw [if_neg h]
      have hl := blkU_length kb nb q (by omega)
      by_cases hlt : i < 64 * (q - 1)
      · have := blkU_get kb nb q (by omega) i hlt
        rw [← this]
        simp only [List.getD]
        rw [List.getElem?_append_left (by omega)]
      · simp only [List.getD]
        rw [List.getElem?_append_right (by omega), hl, ksB]
        have e1 : 1 + i / 64 = q := by omega
        have e2 : i % 64 = i - 64 * (q - 1) := by omega
        rw [e1, e2]
        rfl
theorem stream_zero (kb nb) (M : Nat) (hM : M ≤ 256) : streamL kb nb (List.replicate M 0) = (blkU kb nb 5).take M := by
  have hl := blkU_length kb nb 5 (by omega)
  apply ext_getD (by rw [streamL_length]; simp; omega)
  intro i hi
  rw [streamL_length, List.length_replicate] at hi
  rw [stream_get _ _ _ _ (by simpa using hi)]
  have h1 : ((blkU kb nb 5).take M).getD i 0 = (blkU kb nb 5).getD i 0 := by
    simp only [List.getD]; rw [List.getElem?_take, if_pos hi]
  rw [h1, blkU_get kb nb 5 (by omega) i (by omega)]
  simp [List.getD, hi]
theorem bytes_zero {W : World} {Z : Array Value} {n : Nat} (hZ : Z = ((List.replicate n (0 : BitVec 8)).map v8).toArray) : BytesAt (W.alloc (.cells Z 5)) (.slice (some ⟨W.heap.size, 0, none⟩) n n) (List.replicate n 0) := by
  have h := bytes_lit (W := W.alloc (.cells Z 5)) (g := W.heap.size) (c := n) (fr := (0, 0)) (List.replicate n (0 : BitVec 8)) (by rw [hZ]; exact World.alloc_heap_new W _) (by simp)
  rw [List.length_replicate] at h
  exact h

theorem cipherBlocks_walk (kb nb : List (BitVec 8)) (z : Int) (w : World) (hk : kb.length = 32) (hn : nb.length = 12) (hT : Tabs w) :
    Calls Tryd.prog 8 #[.agg (kb.map v8).toArray, .agg (nb.map v8).toArray, .int .i64 z] w fun e w' => e = .returned (.bool true) ∧ Below w.heap.size w w' := by
  obtain ⟨M, hM⟩ : ∃ M, M = (z % 256).toNat := ⟨_, rfl⟩
  have hM2 : M ≤ 255 := by omega
  have hand : bits .and .i64 z 255 = (M : Int) := by rw [and255, hM]
  have hks : (kb.map v8).length = 32 := by simp [hk]
  have hns : (nb.map v8).length = 12 := by simp [hn]
  have hStr := fun v w h hT => stream_ok kb nb (List.replicate M 0) v w hk hn (by simp; omega) h hT
  have hBlk : ∀ q : Nat, q ≤ 4 → ∀ w, ConstTab w → Calls Tryd.prog 12 #[.agg (kb.map v8).toArray, .agg (nb.map v8).toArray, .int .i64 (q : Int)] w fun e w' =>
      ∃ g c, e = .returned (.tuple #[.slice (some ⟨g, 0, none⟩) 64 c, .int .i64 0]) ∧ BytesAt w' (.slice (some ⟨g, 0, none⟩) 64 c) (chaBlock kb nb (BitVec.ofNat 32 q)) ∧ Below w.heap.size w w' := fun q hq w h => by
    have h1 := Block_ok kb nb (BitVec.ofNat 32 q) w hk hn h
    have e : (((BitVec.ofNat 32 q).toNat : Nat) : Int) = (q : Int) := by rw [BitVec.toNat_ofNat]; omega
    rw [e] at h1
    refine h1.mono ?_
    rintro e w' ⟨v, rfl, hown, hB⟩
    obtain ⟨p, c, rfl, h1, h2⟩ := own_form hown
    obtain ⟨g, rfl, _⟩ := h2 (by decide)
    exact ⟨g, c, rfl, BytesAt.of_own (B := w.heap.size) (by rw [chaBlock_length]; exact hown), hB⟩
  have hsz := stream_zero kb nb M (by omega)
  rw [List.length_replicate] at hStr
  obtain ⟨Z, hZ, hmk⟩ := make_bytes M (by omega)
  have hlB := blkU_length kb nb 5 (by omega)
  generalize kb.map v8 = kl at hks hStr hBlk ⊢
  generalize nb.map v8 = nl at hns hStr hBlk ⊢
  have HStr := Lib.hid hStr
  have HBlk := Lib.hid hBlk
  have HKS := Lib.hid hks
  have HNS := Lib.hid hns
  have HT := Lib.hid hT
  have HZ := Lib.hid hZ
  have HSZ := Lib.hid hsz
  have HLB := Lib.hid hlB
  clear hStr hBlk hks hns hT hZ hsz hM hlB
  have hu23 := Tryd.underlying23
  have hu25 := Tryd.underlying25
  have hi23 : (Tryd.prog.info? 23).map (·.size) = some kl.length := by rw [HKS.out]; kernel_rfl
  have hi25 : (Tryd.prog.info? 25).map (·.size) = some nl.length := by rw [HNS.out]; kernel_rfl
  have HK0 := Lib.hid (boxes_K w kl.toArray nl.toArray)
  have HN0 := Lib.hid (alloc_new2 w (.cells kl.toArray 23) (.cells nl.toArray 25))
  have HB0 := Lib.hid (below_two w kl.toArray nl.toArray)
  go_enter Tryd.func8, Tryd.ntmps8
  go_wp2_with fail
  obtain ⟨w0, hw0⟩ : ∃ w0, w0 = (w.alloc (.cells kl.toArray 23)).alloc (.cells nl.toArray 25) := ⟨_, rfl⟩
  rw [← hw0] at HK0 HN0 HB0 ⊢
  clear hw0
  refine (sane_ok _ (HT.out.below HB0.out)).mono ?_
  rintro e w1 ⟨rfl, hB1⟩
  have HK1 := Lib.hid ((hB1.block _ (Array.getElem?_eq_some_iff.1 HK0.out).1).trans HK0.out)
  have HN1 := Lib.hid ((hB1.block _ (Array.getElem?_eq_some_iff.1 HN0.out).1).trans HN0.out)
  have HB1 := Lib.hid (HB0.out.trans (hB1.mono HB0.out.size))
  clear hB1 HK0 HN0 HB0
  go_upto_region 3 with fail
  have hrk : w1.drew.rangeAt w.heap.size 0 kl := range_new (t := 23) HK1.out
  have hrn : w1.drew.rangeAt (w.heap.size + 1) 0 nl := range_new (t := 25) HN1.out
  obtain ⟨N, hN⟩ : ∃ N, N = w.heap.size + 1 := ⟨_, rfl⟩
  rw [← hN] at hrn HN1 ⊢
  clear hN
  have HT1 := Lib.hid (HT.out.below HB1.out)
  refine wp_region_noPanic ?_
  refine region_sched (fun w' => w'.rangeAt w.heap.size 0 kl ∧ w'.rangeAt N 0 nl) 100 [(0, true), (1, true), (2, true), (3, true), (4, false), (5, false), (6, true), (7, true), (8, true), (9, true), (10, true)]
    (by kernel_rfl) (by kernel_rfl) (by kernel_rfl) rfl (fun _ _ _ _ h => h) ⟨hrk, hrn⟩ ?_
  refine sched_take rfl (by rfl) (fun W' hS => exec_load_mid _ _ _ _ rfl _ _ rfl _ _ hS.1 hu23 rfl hi23) ?_
  try simp only [Act.put, List.getElem_toArray, List.getElem_cons_zero, List.setIfInBounds_toArray, List.set_cons_zero, List.set_cons_succ]
  refine sched_take rfl (by rfl) (fun W' hS => exec_load_mid _ _ _ _ rfl _ _ rfl _ _ hS.2 hu25 rfl hi25) ?_
  try simp only [Act.put, List.getElem_toArray, List.getElem_cons_succ, List.getElem_cons_zero, List.setIfInBounds_toArray, List.set_cons_zero, List.set_cons_succ]
  refine sched_take (v := ?_) rfl (by rfl) (fun W' hS => ?_) ?_
  rotate_left
  · go_simp; with_reducible rfl
  try simp only [Act.put, List.getElem_toArray, List.getElem_cons_succ, List.getElem_cons_zero, List.setIfInBounds_toArray, List.set_cons_zero, List.set_cons_succ]
  refine sched_take (v := ?_) rfl (by rfl) (fun W' hS => ?_) ?_
  rotate_left
  · go_simp; with_reducible rfl
  try simp only [Act.put, List.getElem_toArray, List.getElem_cons_succ, List.getElem_cons_zero, List.setIfInBounds_toArray, List.set_cons_zero, List.set_cons_succ]
  refine sched_do rfl (fun K' hK => ?_)
  go_simp
  refine hK.out _ _ ⟨World.rangeAt_alloc hrk _, World.rangeAt_alloc hrn _⟩ fun _ => ?_
  clear hK
  try simp only [Act.put, List.getElem_toArray, List.getElem_cons_succ, List.getElem_cons_zero, List.setIfInBounds_toArray, List.set_cons_zero, List.set_cons_succ]
  refine sched_do rfl (fun K' hK => ?_)
  go_simp
  have hBa : Below w1.heap.size w1 (w1.drew.alloc (.cells Z 5)) := Below.al (Below.dr (Below.refl _ _)) _
  have hbz : BytesAt (w1.drew.alloc (.cells Z 5)) (.slice (some ⟨w1.drew.heap.size, 0, none⟩) M M) (List.replicate M 0) := bytes_zero HZ.out
  refine (HStr.out _ _ hbz (HT1.out.below hBa).const).mono ?_
  rintro e w2 ⟨u, rfl, hown, hB2⟩
  have hB12 : Below w1.heap.size w1 w2 := Below.tr hBa hB2
  refine hK.out _ _ ⟨range_below (w := w1) hrk hB12, range_below (w := w1) hrn hB12⟩ fun _ => ?_
  clear hK hbz hBa
  obtain ⟨pz, cz, rfl, -, -⟩ := own_form hown
  have hbz := BytesAt.of_own (l := streamL kb nb (List.replicate M 0)) (by rw [streamL_length, List.length_replicate]; exact hown)
  rw [HSZ.out] at hbz
  have HZ2 := Lib.hid hbz
  clear hown hbz hB2 hrk hrn
  have hB2 := hB12
  clear hB12
  have HK2 := Lib.hid ((hB2.block _ (Array.getElem?_eq_some_iff.1 HK1.out).1).trans HK1.out)
  have HN2 := Lib.hid ((hB2.block _ (Array.getElem?_eq_some_iff.1 HN1.out).1).trans HN1.out)
  have HB2 := Lib.hid (HB1.out.trans (hB2.mono HB1.out.size))
  clear hB2 HK1 HN1 HB1
  have HT2 := Lib.hid (HT.out.below HB2.out)
  try simp only [Act.put, List.getElem_toArray, List.getElem_cons_succ, List.getElem_cons_zero, List.setIfInBounds_toArray, List.set_cons_zero, List.set_cons_succ]
  refine sched_take (v := ?_) rfl (by rfl) (fun W' hS => ?_) ?_
  rotate_left
  · go_simp; with_reducible rfl
  try simp only [Act.put, List.getElem_toArray, List.getElem_cons_succ, List.getElem_cons_zero, List.setIfInBounds_toArray, List.set_cons_zero, List.set_cons_succ]
  refine sched_take (v := ?_) rfl (by rfl) (fun W' hS => ?_) ?_
  rotate_left
  · go_simp; with_reducible rfl
  try simp only [Act.put, List.getElem_toArray, List.getElem_cons_succ, List.getElem_cons_zero, List.setIfInBounds_toArray, List.set_cons_zero, List.set_cons_succ]
  refine sched_take (v := ?_) rfl (by rfl) (fun W' hS => ?_) ?_
  rotate_left
  · go_simp; with_reducible rfl
  try simp only [Act.put, List.getElem_toArray, List.getElem_cons_succ, List.getElem_cons_zero, List.setIfInBounds_toArray, List.set_cons_zero, List.set_cons_succ]
  refine sched_take (v := ?_) rfl (by rfl) (fun W' hS => ?_) ?_
  rotate_left
  · go_simp; with_reducible rfl
  try simp only [Act.put, List.getElem_toArray, List.getElem_cons_succ, List.getElem_cons_zero, List.setIfInBounds_toArray, List.set_cons_zero, List.set_cons_succ]
  refine sched_take (v := ?_) rfl (by rfl) (fun W' hS => ?_) ?_
  rotate_left
  · go_simp; with_reducible rfl
  try simp only [Act.put, List.getElem_toArray, List.getElem_cons_succ, List.getElem_cons_zero, List.setIfInBounds_toArray, List.set_cons_zero, List.set_cons_succ]

  refine NoPanic.normal ?_
  have hown0 : (w2.alloc (.cells #[] 5)).ownsRow w2.heap.size 5 1 (.slice (some ⟨w2.heap.size, 0, none⟩) 0 0) 0 [] :=
    ⟨rfl, .inr ⟨w2.heap.size, 0, #[], rfl, Nat.le_refl _, World.alloc_heap_new w2 _, Nat.le_refl _, by unfold maxLen; omega, rfl, rfl⟩⟩
  have HOW := Lib.hid hown0
  have HBA := Lib.hid (Below.al (Below.refl w2.heap.size w2) (.cells #[] 5))
  clear hown0 hmk
  have hKl := (Array.getElem?_eq_some_iff.1 HK2.out).1
  have hNl := (Array.getElem?_eq_some_iff.1 HN2.out).1
  go_wp2_with fail
  go_loopw [9, 10] (fun v t wr => ∃ q : Nat, t = .int .i64 q ∧ 1 ≤ q ∧ q ≤ 5 ∧ Hid (wr.ownsRow w2.heap.size 5 1 v (64 * (q - 1)) ((blkU kb nb q).map v8)) ∧ Hid (Below w2.heap.size w2 wr)) (fun _ t _ => (5 - intOf t).toNat)
  case atStart => exact ⟨1, rfl, by omega, by omega, Lib.hid (by simpa [blkU] using HOW.out), HBA⟩
  case round =>
    obtain ⟨q, rfl, hq1, hq5, HO, HBq⟩ := hrel
    by_cases hlt : q ≤ 4
    · have hd : decide ((q : Int) ≤ 4) = true := by simp; omega
      go_upto_region 8 with fail
      refine wp_region_lit ?_
      refine wpList_load_row rfl 23 _ rfl w.heap.size rfl 23 kl.toArray (0, 0) _ ((HBq.out.block _ hKl).trans HK2.out) hu23 rfl (by rw [List.size_toArray]; exact hi23) ?_
      refine wpList_load_row rfl 25 _ rfl N rfl 25 nl.toArray (0, 0) _ ((HBq.out.block _ hNl).trans HN2.out) hu25 rfl (by rw [List.size_toArray]; exact hi25) ?_
      go_wp2_with fail
      refine (HBlk.out q hlt _ (HT2.out.below HBq.out).const).mono ?_
      rintro e w3 ⟨g, c, rfl, hby, hB3⟩
      have hown3 := own_below HO.out hB3 (fun j e => (HO.out.lt j e).2)
      have HBR := Lib.hid hby
      have hB4 : Below w2.heap.size w2 w3 := HBq.out.trans (hB3.mono HBq.out.size)
      have HB4 := Lib.hid hB4
      have hsz := hB4.size
      have hcl := chaBlock_length kb nb (BitVec.ofNat 32 q)
      clear hB3 hby hB4
      go_wp2_with (at_builtin; refine wpList_append_bytes rfl _ _ rfl w2.heap.size _ _ _ rfl hown3 _ (chaBlock kb nb (BitVec.ofNat 32 q)) rfl HBR.out (by omega) (by omega) ?_; intro v' w4 hown' hgrow)
      go_roundw
      case rel =>
        refine ⟨q + 1, by go_num, by omega, by omega, ?_, HB4.out.grown hgrow (by omega) (fun k e => (hown3.lt k e).1)⟩
        have e1 : 64 * (q - 1) + (chaBlock kb nb (BitVec.ofNat 32 q)).length = 64 * (q + 1 - 1) := by omega
        have e2 : blkU kb nb (q + 1) = blkU kb nb q ++ chaBlock kb nb (BitVec.ofNat 32 q) := by simp only [blkU]; rw [if_neg (by omega)]
        rw [e1] at hown'
        rw [e2, List.map_append]
        exact hown'
      case measure => simp [intOf]; omega
    · have hd : decide ((q : Int) ≤ 4) = false := by simp; omega
      have hq : q = 5 := by omega
      have hown := HO.out
      have HBF := Lib.hid (HB2.out.trans (HBq.out.mono HB2.out.size))
      have HZ3 := Lib.hid (HZ2.out.below HBq.out)
      rw [hq] at hown
      clear hq HO HBq
      obtain ⟨pb, cb, rfl, hcc, hpb⟩ := own_form hown
      obtain ⟨gb, rfl, -⟩ := hpb (by omega)
      have hby := BytesAt.of_own (l := blkU kb nb 5) (by rw [HLB.out]; exact hown)
      clear hown hpb
      go_upto_region 12 with fail
      have hb5 := bytes_take (a := (blkU kb nb 5).take M) (b := (blkU kb nb 5).drop M) (m := M) (by rw [List.take_append_drop]; exact hby) (by rw [List.length_take, HLB.out]; omega)
      have cvb : ∀ q, (convert 28 9 (.slice (some ⟨gb, 0, none⟩) M cb)).run Tryd.prog (wr.drewN q) = .ok (.string (strB ((blkU kb nb 5).take M))) (wr.drewN q) := fun q => conv_ok (w := wr.drewN q) hb5
      have hz5 := HZ3.out
      have cvz : ∀ q, (convert 28 9 (.slice pz M cz)).run Tryd.prog (wr.drewN q) = .ok (.string (strB ((blkU kb nb 5).take M))) (wr.drewN q) := fun q => conv_ok (w := wr.drewN q) (by
        have h := hz5
        exact h)
      generalize strB ((blkU kb nb 5).take M) = SB at cvb cvz
      have slc : ∀ W, (Instr.sliceAt 28 (.slice (some ⟨gb, 0, none⟩) (64 * (5 - 1)) cb) none (some (.int .i64 (M : Int))) none).run Tryd.prog W = .ok (.slice (some ⟨gb, 0, none⟩) M cb) W :=
        slice_to (P := Tryd.prog) 28 5 Tryd.underlying28 size5 gb 0 (64 * (5 - 1)) cb M (by omega) (by omega)
      clear hz5 hb5 hby
      go_quiet (fail)
      go_wp2
      go_ret
      exact ⟨rfl, HBF.out.trans ⟨rfl, rfl, rfl, Nat.le_refl _, fun _ _ => rfl⟩⟩
theorem cipherBlocks_w {H : Type} {enc : TypeId × Value → H} {base : Nat} (v0 : Value) (d0 : DataW H) (p0 : List MemPlace) {W : World} (h0 : DataW.Trod enc Tryd.prog W 0 (fun _ => true) true 23 v0 d0 p0) (o0 : Value.okWide Tryd.prog W .any base 23 v0)
    (v1 : Value) (d1 : DataW H) (p1 : List MemPlace) (h1 : DataW.Trod enc Tryd.prog W 0 (fun _ => true) true 25 v1 d1 p1) (o1 : Value.okWide Tryd.prog W .any base 25 v1)
    (z : Int) {Q : Prop} (_ : Q)
    (hL : laidMetH Tryd.prog Rows.cipherBlocksRow.laid W) :
    Calls Tryd.prog 8 #[v0, v1, .int .i64 z] W fun e w' => e = .returned (.bool true) ∧ Below W.heap.size W w' := by
  obtain ⟨kb, rfl, hk⟩ := arrK h0 o0
  obtain ⟨nb, rfl, hn⟩ := arrN h1 o1
  exact cipherBlocks_walk kb nb z W hk hn (tabs_of hL)
end Go.Proofs.YtklaancgnfkjlaaDoor
