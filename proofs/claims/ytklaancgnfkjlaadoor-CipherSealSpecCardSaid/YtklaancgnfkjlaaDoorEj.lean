/- The walk of the law CipherLong. -/
import Derived.Test.YtklaancgnfkjlaaDoorEi
import Derived.Test.YtklaancgnfkjlaaDoorRo
namespace Go.Proofs.YtklaancgnfkjlaaDoor
open Go.RowKit
set_option maxRecDepth 100000
set_option maxHeartbeats 2000000
set_option linter.unusedVariables false
set_option linter.unusedSimpArgs false

/-- A slice of bytes just made is an owned row. -/
theorem own_make {W : World} {Z : Array Value} {n : Nat} (hn : n ≤ 1000000) (hZ : Z = ((List.replicate n (0 : BitVec 8)).map v8).toArray) :
    (W.alloc (.cells Z 5)).ownsRow W.heap.size 5 1 (.slice (some ⟨W.heap.size, 0, none⟩) n n) n ((List.replicate n (0 : BitVec 8)).map v8) :=
  ⟨by simp, .inr ⟨W.heap.size, n, Z, rfl, Nat.le_refl _, World.alloc_heap_new W _, Nat.le_refl _, by unfold maxLen; omega, by rw [hZ]; simp, by rw [hZ]; simp⟩⟩
/-- The bytes of the law: zeros, and one byte at place 65535. -/
def longB (x : BitVec 8) : List (BitVec 8) := (List.replicate 65537 0).set 65535 x
theorem longB_length (x) : (longB x).length = 65537 := by rw [longB, List.length_set, List.length_replicate]
theorem longB_get (x) : ((longB x).take 65536).getD 65535 0 = x := by
  simp only [List.getD, longB]
  rw [List.getElem?_take, if_pos (by decide), List.getElem?_set_self (by rw [List.length_replicate]; decide)]
  rfl

theorem own_nil (W : World) {B : Nat} (h : B ≤ W.heap.size) : (W.alloc (.cells #[] 5)).drew.ownsRow B 5 1 (.slice (some ⟨W.heap.size, 0, none⟩) 0 0) 0 [] :=
  ⟨rfl, .inr ⟨W.heap.size, 0, #[], rfl, h, World.alloc_heap_new W _, Nat.le_refl _, by unfold maxLen; omega, rfl, rfl⟩⟩
theorem row_bytes {w w' : World} {v : Value} {l : List (BitVec 8)} (h : BytesAt w v l) (hB : Below w.heap.size w w') : RowAt w' v 1 l.length (l.map v8) := by
  obtain ⟨p, c, rfl, hc, hp, hcell⟩ := h.below hB
  refine ⟨by simp, p, c, rfl, hc, hp, fun h0 => ?_⟩
  obtain ⟨g, o, e, hg⟩ := hcell h0
  refine ⟨g, o, e, fun j u hj => ?_⟩
  have hjl : j < l.length := by
    have := (List.getElem?_eq_some_iff.1 hj).1
    simpa using this
  rw [hg j hjl]
  simp [hjl] at hj
  simp [← hj, v8, hjl, List.getD]
theorem row_one (W : World) (x : Value) (t : TypeId) (fr : Nat × Nat) : RowAt (W.alloc (.cells #[x] t fr)) (.slice (some ⟨W.heap.size, 0, none⟩) 1 1) 1 1 [x] := by
  refine ⟨rfl, some ⟨W.heap.size, 0, none⟩, 1, rfl, Nat.le_refl _, fun e => by simp at e, fun _ => ⟨W.heap.size, 0, rfl, fun j u hj => ?_⟩⟩
  have hj0 : j = 0 := by
    have := (List.getElem?_eq_some_iff.1 hj).1
    simp at this; exact this
  subst hj0
  obtain rfl : x = u := by simpa using hj
  unfold World.cell?
  rw [World.alloc_heap_new]
  rfl
theorem one_zero : ∀ u ∈ [Value.int .u8 0], u.oneCell' = true := by simp [Value.oneCell']
theorem row_far {w w' : World} {g o n c sz : Nat} {xs : List Value} {own : Option Nat} (h : RowAt w (.slice (some ⟨g, o, none⟩) n c) sz n xs) (hg : w.grownBy w' own) (hl : g < w.heap.size) (hne : ∀ k, own = some k → k ≠ g) : RowAt w' (.slice (some ⟨g, o, none⟩) n c) sz n xs := by
  obtain ⟨hlen, p, c', e, hc, hp, hcell⟩ := h
  obtain ⟨rfl, rfl⟩ : some ⟨g, o, none⟩ = p ∧ c = c' := by simpa using e
  refine ⟨hlen, _, c, rfl, hc, hp, fun h0 => ?_⟩
  obtain ⟨g', o', e', hcl⟩ := hcell h0
  obtain ⟨rfl, rfl⟩ : g = g' ∧ o = o' := by simpa using e'
  exact ⟨g, o, rfl, fun j u hj => by rw [World.cell?_of_block (hg.block g hl (fun e => hne g e.symm rfl))]; exact hcl j u hj⟩
theorem cipherLong_walk (kb nb : List (BitVec 8)) (lb : BitVec 8) (w : World) (hk : kb.length = 32) (hn : nb.length = 12) (hT : Tabs w) :
    Calls Tryd.prog 10 #[.agg (kb.map v8).toArray, .agg (nb.map v8).toArray, .int .u8 lb.toNat] w fun e w' => e = .returned (.bool true) ∧ Below w.heap.size w w' := by
  have hks : (kb.map v8).length = 32 := by simp [hk]
  have hns : (nb.map v8).length = 12 := by simp [hn]
  obtain ⟨pb, hpb⟩ : ∃ pb, pb = (longB lb).take 65536 := ⟨_, rfl⟩
  have hpl : pb.length = 65536 := by rw [hpb, List.length_take, longB_length]; decide
  have hpg : pb.getD 65535 0 = lb := by rw [hpb]; exact longB_get lb
  have hnil : ∀ W, BytesAt W (.slice none 0 0) [] := fun W => ⟨none, 0, rfl, Nat.le_refl _, fun _ => rfl, fun h => (by cases h)⟩
  have hSeal : ∀ v w, BytesAt w v pb → Tabs w → Calls Tryd.prog 16 #[.agg (kb.map v8).toArray, .agg (nb.map v8).toArray, .slice none 0 0, v] w fun e w' =>
      ∃ g c, e = .returned (.tuple #[.slice (some ⟨g, 0, none⟩) 65552 c, .int .i64 0]) ∧ BytesAt w' (.slice (some ⟨g, 0, none⟩) 65552 c) (sealL kb nb [] pb) ∧ 65552 ≤ c ∧ Below w.heap.size w w' := fun v w h hT => by
    refine (seal_ok kb nb [] pb _ v w hk hn (by decide) (by omega) (hnil w) h hT).mono ?_
    rintro e w' ⟨v, rfl, hown, hB⟩
    rw [hpl] at hown
    obtain ⟨p, c, rfl, h1, h2⟩ := own_form hown
    obtain ⟨g, rfl, _⟩ := h2 (by decide)
    exact ⟨g, c, rfl, BytesAt.of_own (B := w.heap.size) (by rw [sealL_length, hpl]; exact hown), h1, hB⟩
  have hOpen : ∀ v w, BytesAt w v (sealL kb nb [] pb) → Tabs w → Calls Tryd.prog 18 #[.agg (kb.map v8).toArray, .agg (nb.map v8).toArray, .slice none 0 0, v] w fun e w' =>
      ∃ g c, e = .returned (.tuple #[.slice (some ⟨g, 0, none⟩) 65536 c, .int .i64 0]) ∧ w'.cell? ⟨g, 65535, none⟩ = some (.int .u8 lb.toNat) ∧ Below w.heap.size w w' := fun v w h hT => by
    refine (open_seal kb nb [] pb _ v w hk hn (by decide) (by omega) (hnil w) h hT).mono ?_
    rintro e w' ⟨v, rfl, hown, hB⟩
    rw [hpl] at hown
    obtain ⟨p, c, rfl, h1, h2⟩ := own_form hown
    obtain ⟨g, rfl, _⟩ := h2 (by decide)
    have hc := (own_cell hown 65535 (by decide)).1
    rw [hpg] at hc
    exact ⟨g, c, rfl, hc, hB⟩
  have hSB := fun (hks : (kb.map v8).toArray.size = 32) (hns : (nb.map v8).toArray.size = 12) => seal_bad (kb.map v8).toArray (nb.map v8).toArray hks hns
  have hSB2 := hSB (by simp [hk]) (by simp [hn])
  obtain ⟨Z, hZ, hmk0⟩ := make_bytes 65537 (by decide)
  have hmk : ∀ w, (Instr.makeSlice 28 (.int .i64 65537) (.int .i64 65537)).run Tryd.prog w = .ok (.slice (some ⟨w.heap.size, 0, none⟩) 65537 65537) (w.alloc (.cells Z 5)) := hmk0
  have HLB := Lib.hid (longB_length lb)
  have HPB := Lib.hid hpb
  have HPL := Lib.hid hpl
  have HZ := Lib.hid hZ
  have HSL := Lib.hid (sealL_length kb nb [] pb)
  clear hmk0 hSB hnil hpg
  generalize kb.map v8 = kl at hks hSeal hOpen hSB2 ⊢
  generalize nb.map v8 = nl at hns hSeal hOpen hSB2 ⊢
  generalize sealL kb nb [] pb = sl at hSeal hOpen HSL
  have HSeal := Lib.hid hSeal
  have HOpen := Lib.hid hOpen
  have HSB := Lib.hid hSB2
  have HKS := Lib.hid hks
  have HNS := Lib.hid hns
  have HT := Lib.hid hT
  clear hSeal hOpen hSB2 hks hns hT hZ hpb hpl
  have hu23 := Tryd.underlying23
  have hu25 := Tryd.underlying25
  have hi23 : (Tryd.prog.info? 23).map (·.size) = some kl.length := by rw [HKS.out]; kernel_rfl
  have hi25 : (Tryd.prog.info? 25).map (·.size) = some nl.length := by rw [HNS.out]; kernel_rfl
  have HK0 := Lib.hid (boxes_K w kl.toArray nl.toArray)
  have HN0 := Lib.hid (alloc_new2 w (.cells kl.toArray 23) (.cells nl.toArray 25))
  have HB0 := Lib.hid (below_two w kl.toArray nl.toArray)
  go_enter Tryd.func10, Tryd.ntmps10
  go_wp2_with fail
  obtain ⟨w0, hw0⟩ : ∃ w0, w0 = (w.alloc (.cells kl.toArray 23)).alloc (.cells nl.toArray 25) := ⟨_, rfl⟩
  rw [← hw0] at HK0 HN0 HB0 ⊢
  clear hw0
  refine (sane_ok _ (HT.out.below HB0.out)).mono ?_
  rintro e w1 ⟨rfl, hB1⟩
  have HK1 := Lib.hid ((hB1.block _ (Array.getElem?_eq_some_iff.1 HK0.out).1).trans HK0.out)
  have HN1 := Lib.hid ((hB1.block _ (Array.getElem?_eq_some_iff.1 HN0.out).1).trans HN0.out)
  have HB1 := Lib.hid (HB0.out.trans (hB1.mono HB0.out.size))
  clear hB1 HK0 HN0 HB0
  obtain ⟨N, hN⟩ : ∃ N, N = w.heap.size + 1 := ⟨_, rfl⟩
  rw [← hN] at HN1 ⊢
  clear hN
  go_upto_region 4 with fail
  have hBa : Below w1.heap.size w1 (w1.alloc (.cells Z 5)) := Below.al (Below.refl _ _) _
  have hown := own_make (W := w1) (n := 65537) (by decide) HZ.out
  obtain ⟨wa, hwa⟩ : ∃ wa, wa = w1.alloc (.cells Z 5) := ⟨_, rfl⟩
  rw [← hwa] at hBa hown ⊢
  have hBs := hBa.trans ((OnlyAt.setCell w1.heap.size 65535 wa (.int .u8 (lb.toNat : Int))).below (Nat.le_refl _))
  obtain ⟨gz, hgz⟩ : ∃ gz, gz = w1.heap.size := ⟨_, rfl⟩
  have hcf := own_cell hown 65535 (by decide)
  have hos := own_set hown 65535 (by decide) (.int .u8 (lb.toNat : Int))
  have hmp : ((List.replicate 65537 (0 : BitVec 8)).map v8).set 65535 (.int .u8 (lb.toNat : Int)) = (longB lb).map v8 := by rw [longB, List.map_set]
  rw [hmp] at hos
  have hbz := BytesAt.of_own (B := w1.heap.size) (l := longB lb) (by rw [HLB.out]; exact hos)
  obtain ⟨u0, c0⟩ : ∃ u, wa.cell? ⟨w1.heap.size, 65535, none⟩ = some u := ⟨_, hcf.1⟩
  have f0 := hcf.2
  have HBS := Lib.hid hBs
  have HBZ := Lib.hid hbz
  clear hcf hos hmp hown hBa hwa hmk hBs hbz
  rw [← hgz] at c0 f0 HBZ HBS ⊢
  have HGZ := Lib.hid hgz
  clear hgz
  go_upto_region 5 with fail
  obtain ⟨w2, hw2⟩ : ∃ w2, w2 = wa.setCell ⟨gz, 65535, none⟩ (.int .u8 (lb.toNat : Int)) := ⟨_, rfl⟩
  have hB2 : Below w1.heap.size w1 w2 := by rw [hw2, ← HGZ.out]; exact HBS.out
  have hl2 : BytesAt w2 (.slice (some ⟨gz, 0, none⟩) 65537 65537) (longB lb) := by rw [hw2]; exact HBZ.out
  rw [← hw2]
  have HL2 := Lib.hid hl2
  clear hw2 HGZ HBS HBZ c0 f0 hl2
  have HK2 := Lib.hid ((hB2.block _ (Array.getElem?_eq_some_iff.1 HK1.out).1).trans HK1.out)
  have HN2 := Lib.hid ((hB2.block _ (Array.getElem?_eq_some_iff.1 HN1.out).1).trans HN1.out)
  have HB2 := Lib.hid (HB1.out.trans (hB2.mono HB1.out.size))
  clear hB2 HK1 HN1 HB1
  have hrk : w2.drew.rangeAt w.heap.size 0 kl := range_new (t := 23) HK2.out
  have hrn : w2.drew.rangeAt N 0 nl := range_new (t := 25) HN2.out
  have sla : ∀ W, (Instr.sliceAt 28 (.slice (some ⟨gz, 0, none⟩) 65537 65537) none (some (.int .i64 65536)) none).run Tryd.prog W = .ok (.slice (some ⟨gz, 0, none⟩) 65536 65537) W :=
    slice_to (P := Tryd.prog) 28 5 Tryd.underlying28 size5 gz 0 65537 65537 65536 (by omega) (by omega)
  refine wp_region_noPanic ?_
  refine region_sched (fun w' => w'.rangeAt w.heap.size 0 kl ∧ w'.rangeAt N 0 nl) 100 [(0, true), (1, true), (2, true), (3, true), (4, false), (5, true), (6, true), (7, true), (8, true), (9, true)]
    (by kernel_rfl) (by kernel_rfl) (by kernel_rfl) rfl (fun _ _ _ _ h => h) ⟨hrk, hrn⟩ ?_
  refine sched_take rfl (by rfl) (fun W' hS => exec_load_mid _ _ _ _ rfl _ _ rfl _ _ hS.1 hu23 rfl hi23) ?_
  try simp only [Act.put, List.getElem_toArray, List.getElem_cons_zero, List.setIfInBounds_toArray, List.set_cons_zero, List.set_cons_succ]
  refine sched_take rfl (by rfl) (fun W' hS => exec_load_mid _ _ _ _ rfl _ _ rfl _ _ hS.2 hu25 rfl hi25) ?_
  try simp only [Act.put, List.getElem_toArray, List.getElem_cons_succ, List.getElem_cons_zero, List.setIfInBounds_toArray, List.set_cons_zero, List.set_cons_succ]
  refine sched_take (v := ?_) rfl (by rfl) (fun W' hS => ?_) ?_
  rotate_left
  · go_simp; with_reducible rfl
  try simp only [Act.put, List.getElem_toArray, List.getElem_cons_succ, List.getElem_cons_zero, List.setIfInBounds_toArray, List.set_cons_zero, List.set_cons_succ]
  refine sched_take (v := ?_) rfl (by rfl) (fun W' hS => ?_) ?_
  rotate_left
  · go_simp; with_reducible rfl
  try simp only [Act.put, List.getElem_toArray, List.getElem_cons_succ, List.getElem_cons_zero, List.setIfInBounds_toArray, List.set_cons_zero, List.set_cons_succ]
  refine sched_do rfl (fun K' hK => ?_)
  go_simp
  have hdr : Below w.heap.size w w2.drew := HB2.out.trans ⟨rfl, rfl, rfl, Nat.le_refl _, fun _ _ => rfl⟩
  have hl2 := HL2.out
  rw [← List.take_append_drop 65536 (longB lb)] at hl2
  have hbt : BytesAt w2.drew (.slice (some ⟨gz, 0, none⟩) 65536 65537) pb := by rw [HPB.out]; exact bytes_take hl2 (m := 65536) (by rw [List.length_take, HLB.out]; decide)
  refine (HSeal.out _ _ hbt (HT.out.below hdr)).mono ?_
  rintro e w3 ⟨gc, cc, rfl, hbc, hcc, hB3'⟩
  have hB3 : Below w2.heap.size w2 w3 := Below.tr (Below.dr (Below.refl _ _)) hB3'
  refine hK.out _ _ ⟨range_below (w := w2) hrk hB3, range_below (w := w2) hrn hB3⟩ fun _ => ?_
  have HC3 := Lib.hid hbc
  clear hK hbt hrk hrn hbc hB3' sla hdr hl2
  have HK3 := Lib.hid ((hB3.block _ (Array.getElem?_eq_some_iff.1 HK2.out).1).trans HK2.out)
  have HN3 := Lib.hid ((hB3.block _ (Array.getElem?_eq_some_iff.1 HN2.out).1).trans HN2.out)
  have HL3 := Lib.hid (HL2.out.below hB3)
  have HB3 := Lib.hid (HB2.out.trans (hB3.mono HB2.out.size))
  clear hB3 HK2 HN2 HB2 HL2
  try simp only [Act.put, List.getElem_toArray, List.getElem_cons_succ, List.getElem_cons_zero, List.setIfInBounds_toArray, List.set_cons_zero, List.set_cons_succ]
  refine sched_take (v := ?_) rfl (by rfl) (fun W' hS => ?_) ?_
  rotate_left
  · go_simp; with_reducible rfl
  try simp only [Act.put, List.getElem_toArray, List.getElem_cons_succ, List.getElem_cons_zero, List.setIfInBounds_toArray, List.set_cons_zero, List.set_cons_succ]
  refine sched_take (v := ?_) rfl (by rfl) (fun W' hS => ?_) ?_
  rotate_left
  · go_simp; with_reducible rfl
  try simp only [Act.put, List.getElem_toArray, List.getElem_cons_succ, List.getElem_cons_zero, List.setIfInBounds_toArray, List.set_cons_zero, List.set_cons_succ]
  refine sched_take (v := ?_) rfl (by rfl) (fun W' hS => ?_) ?_
  rotate_left
  · go_simp; with_reducible rfl
  try simp only [Act.put, List.getElem_toArray, List.getElem_cons_succ, List.getElem_cons_zero, List.setIfInBounds_toArray, List.set_cons_zero, List.set_cons_succ]
  refine sched_take (v := ?_) rfl (by rfl) (fun W' hS => ?_) ?_
  rotate_left
  · go_simp; with_reducible rfl
  try simp only [Act.put, List.getElem_toArray, List.getElem_cons_succ, List.getElem_cons_zero, List.setIfInBounds_toArray, List.set_cons_zero, List.set_cons_succ]
  refine sched_take (v := ?_) rfl (by rfl) (fun W' hS => ?_) ?_
  rotate_left
  · go_simp; with_reducible rfl
  try simp only [Act.put, List.getElem_toArray, List.getElem_cons_succ, List.getElem_cons_zero, List.setIfInBounds_toArray, List.set_cons_zero, List.set_cons_succ]

  refine NoPanic.normal ?_
  go_upto_region 6 with fail
  refine wp_region_lit ?_
  refine wpList_load_row rfl 23 _ rfl w.heap.size rfl 23 kl.toArray (0, 0) _ HK3.out hu23 rfl (by rw [List.size_toArray]; exact hi23) ?_
  refine wpList_load_row rfl 25 _ rfl N rfl 25 nl.toArray (0, 0) _ HN3.out hu25 rfl (by rw [List.size_toArray]; exact hi25) ?_
  go_wp2_with fail
  refine (HOpen.out _ _ HC3.out (HT.out.below HB3.out)).mono ?_
  rintro e w4 ⟨gx, cx, rfl, hcx, hB4⟩
  have HX4 := Lib.hid hcx
  clear hcx
  have HK4 := Lib.hid ((hB4.block _ (Array.getElem?_eq_some_iff.1 HK3.out).1).trans HK3.out)
  have HN4 := Lib.hid ((hB4.block _ (Array.getElem?_eq_some_iff.1 HN3.out).1).trans HN3.out)
  have HL4 := Lib.hid (HL3.out.below hB4)
  have HC4 := Lib.hid (HC3.out.below hB4)
  have HB4 := Lib.hid (HB3.out.trans (hB4.mono HB3.out.size))
  clear hB4 HK3 HN3 HB3 HL3 HC3
  go_upto_region 7 with fail
  refine wp_region_lit ?_
  refine wpList_load_row rfl 23 _ rfl w.heap.size rfl 23 kl.toArray (0, 0) _ HK4.out hu23 rfl (by rw [List.size_toArray]; exact hi23) ?_
  refine wpList_load_row rfl 25 _ rfl N rfl 25 nl.toArray (0, 0) _ HN4.out hu25 rfl (by rw [List.size_toArray]; exact hi25) ?_
  go_wp2_with fail
  refine (stream_bad _ _ _ _ _ (by decide) _).mono ?_
  rintro e w5 ⟨rfl, hB5⟩
  have HX5 := Lib.hid (cell_old HX4.out (hB5.block _ (cell_lt HX4.out)))
  have HK5 := Lib.hid ((hB5.block _ (Array.getElem?_eq_some_iff.1 HK4.out).1).trans HK4.out)
  have HN5 := Lib.hid ((hB5.block _ (Array.getElem?_eq_some_iff.1 HN4.out).1).trans HN4.out)
  have HL5 := Lib.hid (HL4.out.below hB5)
  have HC5 := Lib.hid (HC4.out.below hB5)
  have HB5 := Lib.hid (HB4.out.trans (hB5.mono HB4.out.size))
  clear hB5 HK4 HN4 HB4 HL4 HC4
  go_upto_region 8 with fail
  refine wp_region_lit ?_
  refine wpList_load_row rfl 23 _ rfl w.heap.size rfl 23 kl.toArray (0, 0) _ HK5.out hu23 rfl (by rw [List.size_toArray]; exact hi23) ?_
  refine wpList_load_row rfl 25 _ rfl N rfl 25 nl.toArray (0, 0) _ HN5.out hu25 rfl (by rw [List.size_toArray]; exact hi25) ?_
  go_wp2_with fail
  refine (HSB.out _ _ _ _ (by decide) _).mono ?_
  rintro e w6 ⟨rfl, hB6⟩
  have HX6 := Lib.hid (cell_old HX5.out (hB6.block _ (cell_lt HX5.out)))
  have HK6 := Lib.hid ((hB6.block _ (Array.getElem?_eq_some_iff.1 HK5.out).1).trans HK5.out)
  have HN6 := Lib.hid ((hB6.block _ (Array.getElem?_eq_some_iff.1 HN5.out).1).trans HN5.out)
  have HL6 := Lib.hid (HL5.out.below hB6)
  have HC6 := Lib.hid (HC5.out.below hB6)
  have HB6 := Lib.hid (HB5.out.trans (hB6.mono HB5.out.size))
  clear hB6 HK5 HN5 HB5 HL5 HC5
  go_upto_region 9 with fail
  have hrk : w6.rangeAt w.heap.size 0 kl := range_new (t := 23) HK6.out
  have hrn : w6.rangeAt N 0 nl := range_new (t := 25) HN6.out
  obtain ⟨i0, hi0, hz0, hz1, hz2⟩ := info_parts info_u8
  have hrow : ∀ W, Below w6.heap.size w6 W → RowAt W (.slice (some ⟨gc, 0, none⟩) 65552 cc) 1 65552 (sl.map v8) := fun W hB => by
    have h := row_bytes HC6.out hB
    rw [HSL.out, HPL.out] at h
    exact h
  refine wp_region_noPanic ?_
  refine region_tree (fun w' => w'.rangeAt w.heap.size 0 kl ∧ w'.rangeAt N 0 nl) (.take 0 (.take 1 (.take 3 (.two 2 5 (.two 4 5 (.one 5 (.one 6 (.one 7 (.take 8 (.take 9 (.take 10 (.take 11 (.take 12 .done)))))))) (.one 4 (.one 6 (.one 7 (.take 8 (.take 9 (.take 10 (.take 11 (.take 12 .done))))))))) (.one 2 (.one 4 (.one 6 (.one 7 (.take 8 (.take 9 (.take 10 (.take 11 (.take 12 .done)))))))))))))
    (by kernel_rfl) (by kernel_rfl) (by kernel_rfl) (by decide) (fun _ _ _ _ h => h) ⟨hrk, hrn⟩ ?_
  refine tree_take rfl (by rfl) (fun W' hS => exec_load_mid _ _ _ _ rfl _ _ rfl _ _ hS.1 hu23 rfl hi23) ?_
  try simp only [Act.put, List.getElem_toArray, List.getElem_cons_zero, List.setIfInBounds_toArray, List.set_cons_zero, List.set_cons_succ]
  refine tree_take rfl (by rfl) (fun W' hS => exec_load_mid _ _ _ _ rfl _ _ rfl _ _ hS.2 hu25 rfl hi25) ?_
  try simp only [Act.put, List.getElem_toArray, List.getElem_cons_succ, List.getElem_cons_zero, List.setIfInBounds_toArray, List.set_cons_zero, List.set_cons_succ]
  refine tree_take (v := ?_) rfl (by rfl) (fun W' hS => ?_) ?_
  rotate_left
  · go_simp; with_reducible rfl
  try simp only [Act.put, List.getElem_toArray, List.getElem_cons_succ, List.getElem_cons_zero, List.setIfInBounds_toArray, List.set_cons_zero, List.set_cons_succ]
  refine tree_two ?_ ?_
  · skip
    refine tree_one rfl (fun K' hK => ?_)
    go_simp
    have hB1 : Below w6.heap.size w6 (w6.alloc (.cells #[] 5)).drew := Below.dr (Below.al (Below.refl _ _) _)
    refine hK.out _ _ ⟨range_below (w := w6) hrk hB1, range_below (w := w6) hrn hB1⟩ fun _ => ?_
    clear hK
    try simp only [Act.put, List.getElem_toArray, List.getElem_cons_succ, List.getElem_cons_zero, List.setIfInBounds_toArray, List.set_cons_zero, List.set_cons_succ]
    have ho1 : (w6.alloc (.cells #[] 5)).drew.ownsRow w6.heap.size 5 1 (.slice (some ⟨w6.heap.size, 0, none⟩) 0 0) 0 [] := own_nil w6 (Nat.le_refl _)
    refine tree_two ?_ ?_
    · skip
      refine tree_append rfl rfl _ _ 28 rfl w6.heap.size 5 i0 (.int .u8 0) 1 1 Tryd.underlying28 hi0 hz0 hz1 hz2 rfl (by decide) _ _ _ rfl ho1 _ _ _ rfl (hrow _ hB1)
        (v8_one _) (by unfold maxLen; omega) (by omega) hB1.size ?_
      intro va wa hown hgrow
      have hB2 : Below w6.heap.size w6 wa := hB1.grown hgrow hB1.size (fun k e => (ho1.lt k e).1)
      refine ⟨⟨range_below (w := w6) hrk hB2, range_below (w := w6) hrn hB2⟩, ?_⟩
      have ho2 := hown
      clear hown hgrow
      try simp only [Act.put, List.getElem_toArray, List.getElem_cons_succ, List.getElem_cons_zero, List.setIfInBounds_toArray, List.set_cons_zero, List.set_cons_succ]
      refine tree_one rfl (fun K' hK => ?_)
      go_simp
      have hB3 : Below w6.heap.size w6 (wa.alloc (.cells #[.int .u8 0] 5)) := Below.al hB2 _
      refine hK.out _ _ ⟨range_below (w := w6) hrk hB3, range_below (w := w6) hrn hB3⟩ fun _ => ?_
      clear hK
      try simp only [Act.put, List.getElem_toArray, List.getElem_cons_succ, List.getElem_cons_zero, List.setIfInBounds_toArray, List.set_cons_zero, List.set_cons_succ]
      have ho3 := own_below ho2 (Below.al (Below.refl _ wa) (.cells #[.int .u8 0] 5)) (fun k e => (ho2.lt k e).2)
      refine tree_append rfl rfl _ _ 28 rfl w6.heap.size 5 i0 (.int .u8 0) 1 1 Tryd.underlying28 hi0 hz0 hz1 hz2 rfl (by decide) _ _ _ rfl ho3 _ _ _ rfl (row_one wa (.int .u8 0) 5 (0, 0))
        one_zero (by unfold maxLen; omega) (by omega) hB3.size ?_
      intro vb wb hown hgrow
      have hB4 : Below w6.heap.size w6 wb := hB3.grown hgrow hB3.size (fun k e => (ho3.lt k e).1)
      obtain ⟨pv, cv, rfl, -, -⟩ := own_form hown
      refine ⟨⟨range_below (w := w6) hrk hB4, range_below (w := w6) hrn hB4⟩, ?_⟩
      clear hown hgrow
      try simp only [Act.put, List.getElem_toArray, List.getElem_cons_succ, List.getElem_cons_zero, List.setIfInBounds_toArray, List.set_cons_zero, List.set_cons_succ]
      refine tree_one rfl (fun K' hK => ?_)
      go_simp
      refine (open_out _ _ _ _ _ _ (.inr (by decide)) (by decide) _).mono ?_
      rintro e w7 ⟨rfl, hB7⟩
      have hBy : Below w6.heap.size w6 w7 := Below.tr hB4 hB7
      refine hK.out _ _ ⟨range_below (w := w6) hrk hBy, range_below (w := w6) hrn hBy⟩ fun _ => ?_
      clear hK
      try simp only [Act.put, List.getElem_toArray, List.getElem_cons_succ, List.getElem_cons_zero, List.setIfInBounds_toArray, List.set_cons_zero, List.set_cons_succ]
      refine tree_take (v := ?_) rfl (by rfl) (fun W' hS => ?_) ?_
      rotate_left
      · go_simp; with_reducible rfl
      try simp only [Act.put, List.getElem_toArray, List.getElem_cons_succ, List.getElem_cons_zero, List.setIfInBounds_toArray, List.set_cons_zero, List.set_cons_succ]
      refine tree_take (v := ?_) rfl (by rfl) (fun W' hS => ?_) ?_
      rotate_left
      · go_simp; with_reducible rfl
      try simp only [Act.put, List.getElem_toArray, List.getElem_cons_succ, List.getElem_cons_zero, List.setIfInBounds_toArray, List.set_cons_zero, List.set_cons_succ]
      refine tree_take (v := ?_) rfl (by rfl) (fun W' hS => ?_) ?_
      rotate_left
      · go_simp; with_reducible rfl
      try simp only [Act.put, List.getElem_toArray, List.getElem_cons_succ, List.getElem_cons_zero, List.setIfInBounds_toArray, List.set_cons_zero, List.set_cons_succ]
      refine tree_take (v := ?_) rfl (by rfl) (fun W' hS => ?_) ?_
      rotate_left
      · go_simp; with_reducible rfl
      try simp only [Act.put, List.getElem_toArray, List.getElem_cons_succ, List.getElem_cons_zero, List.setIfInBounds_toArray, List.set_cons_zero, List.set_cons_succ]
      refine tree_take (v := ?_) rfl (by rfl) (fun W' hS => ?_) ?_
      rotate_left
      · go_simp; with_reducible rfl
      try simp only [Act.put, List.getElem_toArray, List.getElem_cons_succ, List.getElem_cons_zero, List.setIfInBounds_toArray, List.set_cons_zero, List.set_cons_succ]
      refine NoPanic.normal ?_
      have hx7 := cell_old HX6.out (hBy.block _ (cell_lt HX6.out))
      go_wp2
      go_ret
      exact ⟨rfl, HB6.out.trans (hBy.mono HB6.out.size)⟩
    · skip
      refine tree_one rfl (fun K' hK => ?_)
      go_simp
      have hB3 : Below w6.heap.size w6 ((w6.alloc (.cells #[] 5)).alloc (.cells #[.int .u8 0] 5)).drew := Below.dr (Below.al (Below.al (Below.refl _ _) _) _)
      refine hK.out _ _ ⟨range_below (w := w6) hrk hB3, range_below (w := w6) hrn hB3⟩ fun _ => ?_
      clear hK
      try simp only [Act.put, List.getElem_toArray, List.getElem_cons_succ, List.getElem_cons_zero, List.setIfInBounds_toArray, List.set_cons_zero, List.set_cons_succ]
      have ho3 : ((w6.alloc (.cells #[] 5)).alloc (.cells #[.int .u8 0] 5)).drew.ownsRow w6.heap.size 5 1 (.slice (some ⟨w6.heap.size, 0, none⟩) 0 0) 0 [] := own_below ho1 (m := w6.heap.size + 1) ⟨rfl, rfl, rfl, by simp, fun k hk => Below.heap_alloc _ _ _ (by simp; omega)⟩ (fun k e => by have e2 : w6.heap.size = k := (by simpa [Value.ownBlock] using e); omega)
      have hr3 : RowAt ((w6.alloc (.cells #[] 5)).alloc (.cells #[.int .u8 0] 5)).drew (.slice (some ⟨w6.heap.size + 1, 0, none⟩) 1 1) 1 1 [.int .u8 0] := by have h := row_one (w6.alloc (.cells #[] 5)) (.int .u8 0) 5 (0, 0); rw [show (w6.alloc (.cells #[] 5)).heap.size = w6.heap.size + 1 by simp] at h; exact h
      refine tree_append rfl rfl _ _ 28 rfl w6.heap.size 5 i0 (.int .u8 0) 1 1 Tryd.underlying28 hi0 hz0 hz1 hz2 rfl (by decide) _ _ _ rfl ho3 _ _ _ rfl (hrow _ hB3)
        (v8_one _) (by unfold maxLen; omega) (by omega) hB3.size ?_
      intro va wa hown hgrow
      have hr4 : RowAt wa (.slice (some ⟨w6.heap.size + 1, 0, none⟩) 1 1) 1 1 [.int .u8 0] := row_far (own := some w6.heap.size) hr3 hgrow (by simp <;> omega) (fun k e => by cases e; omega)
      have hB2 : Below w6.heap.size w6 wa := hB3.grown hgrow hB3.size (fun k e => (ho3.lt k e).1)
      refine ⟨⟨range_below (w := w6) hrk hB2, range_below (w := w6) hrn hB2⟩, ?_⟩
      have ho4 := hown
      clear hown hgrow
      try simp only [Act.put, List.getElem_toArray, List.getElem_cons_succ, List.getElem_cons_zero, List.setIfInBounds_toArray, List.set_cons_zero, List.set_cons_succ]
      refine tree_append rfl rfl _ _ 28 rfl w6.heap.size 5 i0 (.int .u8 0) 1 1 Tryd.underlying28 hi0 hz0 hz1 hz2 rfl (by decide) _ _ _ rfl ho4 _ _ _ rfl hr4
        one_zero (by unfold maxLen; omega) (by omega) hB2.size ?_
      intro vb wb hown hgrow
      have hB4 : Below w6.heap.size w6 wb := hB2.grown hgrow hB2.size (fun k e => (ho4.lt k e).1)
      obtain ⟨pv, cv, rfl, -, -⟩ := own_form hown
      refine ⟨⟨range_below (w := w6) hrk hB4, range_below (w := w6) hrn hB4⟩, ?_⟩
      clear hown hgrow
      try simp only [Act.put, List.getElem_toArray, List.getElem_cons_succ, List.getElem_cons_zero, List.setIfInBounds_toArray, List.set_cons_zero, List.set_cons_succ]
      refine tree_one rfl (fun K' hK => ?_)
      go_simp
      refine (open_out _ _ _ _ _ _ (.inr (by decide)) (by decide) _).mono ?_
      rintro e w7 ⟨rfl, hB7⟩
      have hBy : Below w6.heap.size w6 w7 := Below.tr hB4 hB7
      refine hK.out _ _ ⟨range_below (w := w6) hrk hBy, range_below (w := w6) hrn hBy⟩ fun _ => ?_
      clear hK
      try simp only [Act.put, List.getElem_toArray, List.getElem_cons_succ, List.getElem_cons_zero, List.setIfInBounds_toArray, List.set_cons_zero, List.set_cons_succ]
      refine tree_take (v := ?_) rfl (by rfl) (fun W' hS => ?_) ?_
      rotate_left
      · go_simp; with_reducible rfl
      try simp only [Act.put, List.getElem_toArray, List.getElem_cons_succ, List.getElem_cons_zero, List.setIfInBounds_toArray, List.set_cons_zero, List.set_cons_succ]
      refine tree_take (v := ?_) rfl (by rfl) (fun W' hS => ?_) ?_
      rotate_left
      · go_simp; with_reducible rfl
      try simp only [Act.put, List.getElem_toArray, List.getElem_cons_succ, List.getElem_cons_zero, List.setIfInBounds_toArray, List.set_cons_zero, List.set_cons_succ]
      refine tree_take (v := ?_) rfl (by rfl) (fun W' hS => ?_) ?_
      rotate_left
      · go_simp; with_reducible rfl
      try simp only [Act.put, List.getElem_toArray, List.getElem_cons_succ, List.getElem_cons_zero, List.setIfInBounds_toArray, List.set_cons_zero, List.set_cons_succ]
      refine tree_take (v := ?_) rfl (by rfl) (fun W' hS => ?_) ?_
      rotate_left
      · go_simp; with_reducible rfl
      try simp only [Act.put, List.getElem_toArray, List.getElem_cons_succ, List.getElem_cons_zero, List.setIfInBounds_toArray, List.set_cons_zero, List.set_cons_succ]
      refine tree_take (v := ?_) rfl (by rfl) (fun W' hS => ?_) ?_
      rotate_left
      · go_simp; with_reducible rfl
      try simp only [Act.put, List.getElem_toArray, List.getElem_cons_succ, List.getElem_cons_zero, List.setIfInBounds_toArray, List.set_cons_zero, List.set_cons_succ]
      refine NoPanic.normal ?_
      have hx7 := cell_old HX6.out (hBy.block _ (cell_lt HX6.out))
      go_wp2
      go_ret
      exact ⟨rfl, HB6.out.trans (hBy.mono HB6.out.size)⟩
  · skip
    refine tree_one rfl (fun K' hK => ?_)
    go_simp
    have hB1 : Below w6.heap.size w6 (w6.alloc (.cells #[.int .u8 0] 5)).drew := Below.dr (Below.al (Below.refl _ _) _)
    refine hK.out _ _ ⟨range_below (w := w6) hrk hB1, range_below (w := w6) hrn hB1⟩ fun _ => ?_
    clear hK
    try simp only [Act.put, List.getElem_toArray, List.getElem_cons_succ, List.getElem_cons_zero, List.setIfInBounds_toArray, List.set_cons_zero, List.set_cons_succ]
    have hr1 : RowAt (w6.alloc (.cells #[.int .u8 0] 5)).drew (.slice (some ⟨w6.heap.size, 0, none⟩) 1 1) 1 1 [.int .u8 0] := row_one w6 (.int .u8 0) 5 (0, 0)
    refine tree_one rfl (fun K' hK => ?_)
    go_simp
    have hB3 : Below w6.heap.size w6 ((w6.alloc (.cells #[.int .u8 0] 5)).alloc (.cells #[] 5)).drew := Below.dr (Below.al (Below.al (Below.refl _ _) _) _)
    refine hK.out _ _ ⟨range_below (w := w6) hrk hB3, range_below (w := w6) hrn hB3⟩ fun _ => ?_
    clear hK
    try simp only [Act.put, List.getElem_toArray, List.getElem_cons_succ, List.getElem_cons_zero, List.setIfInBounds_toArray, List.set_cons_zero, List.set_cons_succ]
    have hr3 : RowAt ((w6.alloc (.cells #[.int .u8 0] 5)).alloc (.cells #[] 5)).drew (.slice (some ⟨w6.heap.size, 0, none⟩) 1 1) 1 1 [.int .u8 0] := hr1.below ⟨rfl, rfl, rfl, by simp, fun k hk => Below.heap_alloc _ _ _ hk⟩
    have ho3 : ((w6.alloc (.cells #[.int .u8 0] 5)).alloc (.cells #[] 5)).drew.ownsRow w6.heap.size 5 1 (.slice (some ⟨w6.heap.size + 1, 0, none⟩) 0 0) 0 [] := by have h := own_nil (w6.alloc (.cells #[.int .u8 0] 5)) (B := w6.heap.size) (by simp); rw [show (w6.alloc (.cells #[.int .u8 0] 5)).heap.size = w6.heap.size + 1 by simp] at h; exact h
    refine tree_append rfl rfl _ _ 28 rfl w6.heap.size 5 i0 (.int .u8 0) 1 1 Tryd.underlying28 hi0 hz0 hz1 hz2 rfl (by decide) _ _ _ rfl ho3 _ _ _ rfl (hrow _ hB3)
      (v8_one _) (by unfold maxLen; omega) (by omega) hB3.size ?_
    intro va wa hown hgrow
    have hr4 : RowAt wa (.slice (some ⟨w6.heap.size, 0, none⟩) 1 1) 1 1 [.int .u8 0] := row_far (own := some (w6.heap.size + 1)) hr3 hgrow (by simp <;> omega) (fun k e => by cases e; omega)
    have hB2 : Below w6.heap.size w6 wa := hB3.grown hgrow hB3.size (fun k e => (ho3.lt k e).1)
    refine ⟨⟨range_below (w := w6) hrk hB2, range_below (w := w6) hrn hB2⟩, ?_⟩
    have ho4 := hown
    clear hown hgrow
    try simp only [Act.put, List.getElem_toArray, List.getElem_cons_succ, List.getElem_cons_zero, List.setIfInBounds_toArray, List.set_cons_zero, List.set_cons_succ]
    refine tree_append rfl rfl _ _ 28 rfl w6.heap.size 5 i0 (.int .u8 0) 1 1 Tryd.underlying28 hi0 hz0 hz1 hz2 rfl (by decide) _ _ _ rfl ho4 _ _ _ rfl hr4
      one_zero (by unfold maxLen; omega) (by omega) hB2.size ?_
    intro vb wb hown hgrow
    have hB4 : Below w6.heap.size w6 wb := hB2.grown hgrow hB2.size (fun k e => (ho4.lt k e).1)
    obtain ⟨pv, cv, rfl, -, -⟩ := own_form hown
    refine ⟨⟨range_below (w := w6) hrk hB4, range_below (w := w6) hrn hB4⟩, ?_⟩
    clear hown hgrow
    try simp only [Act.put, List.getElem_toArray, List.getElem_cons_succ, List.getElem_cons_zero, List.setIfInBounds_toArray, List.set_cons_zero, List.set_cons_succ]
    refine tree_one rfl (fun K' hK => ?_)
    go_simp
    refine (open_out _ _ _ _ _ _ (.inr (by decide)) (by decide) _).mono ?_
    rintro e w7 ⟨rfl, hB7⟩
    have hBy : Below w6.heap.size w6 w7 := Below.tr hB4 hB7
    refine hK.out _ _ ⟨range_below (w := w6) hrk hBy, range_below (w := w6) hrn hBy⟩ fun _ => ?_
    clear hK
    try simp only [Act.put, List.getElem_toArray, List.getElem_cons_succ, List.getElem_cons_zero, List.setIfInBounds_toArray, List.set_cons_zero, List.set_cons_succ]
    refine tree_take (v := ?_) rfl (by rfl) (fun W' hS => ?_) ?_
    rotate_left
    · go_simp; with_reducible rfl
    try simp only [Act.put, List.getElem_toArray, List.getElem_cons_succ, List.getElem_cons_zero, List.setIfInBounds_toArray, List.set_cons_zero, List.set_cons_succ]
    refine tree_take (v := ?_) rfl (by rfl) (fun W' hS => ?_) ?_
    rotate_left
    · go_simp; with_reducible rfl
    try simp only [Act.put, List.getElem_toArray, List.getElem_cons_succ, List.getElem_cons_zero, List.setIfInBounds_toArray, List.set_cons_zero, List.set_cons_succ]
    refine tree_take (v := ?_) rfl (by rfl) (fun W' hS => ?_) ?_
    rotate_left
    · go_simp; with_reducible rfl
    try simp only [Act.put, List.getElem_toArray, List.getElem_cons_succ, List.getElem_cons_zero, List.setIfInBounds_toArray, List.set_cons_zero, List.set_cons_succ]
    refine tree_take (v := ?_) rfl (by rfl) (fun W' hS => ?_) ?_
    rotate_left
    · go_simp; with_reducible rfl
    try simp only [Act.put, List.getElem_toArray, List.getElem_cons_succ, List.getElem_cons_zero, List.setIfInBounds_toArray, List.set_cons_zero, List.set_cons_succ]
    refine tree_take (v := ?_) rfl (by rfl) (fun W' hS => ?_) ?_
    rotate_left
    · go_simp; with_reducible rfl
    try simp only [Act.put, List.getElem_toArray, List.getElem_cons_succ, List.getElem_cons_zero, List.setIfInBounds_toArray, List.set_cons_zero, List.set_cons_succ]
    refine NoPanic.normal ?_
    have hx7 := cell_old HX6.out (hBy.block _ (cell_lt HX6.out))
    go_wp2
    go_ret
    exact ⟨rfl, HB6.out.trans (hBy.mono HB6.out.size)⟩
theorem cipherLong_w {H : Type} {enc : TypeId × Value → H} {base : Nat} (v0 : Value) (d0 : DataW H) (p0 : List MemPlace) {W : World} (h0 : DataW.Trod enc Tryd.prog W 0 (fun _ => true) true 23 v0 d0 p0) (o0 : Value.okWide Tryd.prog W .any base 23 v0)
    (v1 : Value) (d1 : DataW H) (p1 : List MemPlace) (h1 : DataW.Trod enc Tryd.prog W 0 (fun _ => true) true 25 v1 d1 p1) (o1 : Value.okWide Tryd.prog W .any base 25 v1)
    (z : Int) (hz : (Lit.int .u8 z).wf = true)
    (hL : laidMetH Tryd.prog Rows.cipherLongRow.laid W) :
    Calls Tryd.prog 10 #[v0, v1, .int .u8 z] W fun e w' => e = .returned (.bool true) ∧ Below W.heap.size W w' := by
  obtain ⟨kb, rfl, hk⟩ := arrK h0 o0
  obtain ⟨nb, rfl, hn⟩ := arrN h1 o1
  rw [v8_of hz]
  exact cipherLong_walk kb nb _ W hk hn (tabs_of hL)
end Go.Proofs.YtklaancgnfkjlaaDoor
