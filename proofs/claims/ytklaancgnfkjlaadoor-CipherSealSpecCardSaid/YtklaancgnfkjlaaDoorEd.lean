/- cipher: Open. -/
import Derived.Test.YtklaancgnfkjlaaDoorEc
import Derived.Deep.RegionHeld3
import Derived.Deep.MidRow
import Derived.BigQuiet
import Derived.Test.YtklaancgnfkjlaaDoorRg
namespace Go.Proofs.YtklaancgnfkjlaaDoor
open Go.RowKit
set_option maxRecDepth 100000
set_option maxHeartbeats 400000
set_option linter.unusedVariables false
set_option linter.unusedSimpArgs false

theorem open_out (kc nc : Array Value) (vh : Value) (p : Option Addr) (n c : Nat) (hn : n < 16 ∨ 65552 < n) (hn2 : n ≤ 1000000) (w : World) :
    Calls Tryd.prog 18 #[.agg kc, .agg nc, vh, .slice p n c] w fun e w' => e = .returned (.tuple #[.slice none 0 0, .int .i64 60]) ∧ Below w.heap.size w w' := by
  have hB : Below w.heap.size w ((w.alloc (.cells kc 23)).alloc (.cells nc 25)) :=
    ⟨rfl, rfl, rfl, by simp; omega, fun k hk => by rw [Below.heap_alloc _ _ _ (by simp; omega), Below.heap_alloc _ _ _ hk]⟩
  have HB := Lib.hid hB
  clear hB
  rcases hn with h | h
  · have hd : decide ((n : Int) - 16 < 0) = true := by simp; omega
    have hd2 : decide ((n : Int) < 16) = true := by simp; omega
    go_enter Tryd.func18, Tryd.ntmps18
    go_upto_region 2 with fail
    go_quiet (fail)
    go_wp2
    go_ret2
    exact ⟨rfl, HB.out.trans ⟨rfl, rfl, rfl, Nat.le_refl _, fun _ _ => rfl⟩⟩
  · have hd : decide ((n : Int) - 16 < 0) = false := by simp; omega
    have hd2 : decide ((n : Int) < 16) = false := by simp; omega
    have hd3 : decide ((65536 : Int) < (n : Int) - 16) = true := by simp; omega
    go_enter Tryd.func18, Tryd.ntmps18
    go_upto_region 2 with fail
    go_quiet (fail)
    go_wp2
    go_ret2
    exact ⟨rfl, HB.out.trans ⟨rfl, rfl, rfl, Nat.le_refl _, fun _ _ => rfl⟩⟩
theorem range_below {w w' : World} {b o : Nat} {cs : List Value} (h : w.rangeAt b o cs) (hb : Below w.heap.size w w') : w'.rangeAt b o cs := fun j v hj => cell_old (h j v hj) (hb.block _ (cell_lt (h j v hj)))
theorem range_new {w : World} {b : Nat} {l : List Value} {t : TypeId} (h : w.heap[b]? = some (.cells l.toArray t (0, 0))) : w.rangeAt b 0 l := fun j v hj => by
  simp [World.cell?, h, hj]

theorem exec_load_mid {P : Program} (o : Oper) (a : Act) (ty : TypeId) (x : Operand) (ho : o.op = .load ty x) (b f : Nat) (hx : a.eval x = .pointer (some ⟨b, f, none⟩)) {w : World} (cs : List Value) (d : TypeDesc) (hc : w.rangeAt b f cs)
    (hu : P.underlying ty = some d) (hd : d.isRow = true) (hi : (P.info? ty).map (·.size) = some cs.length) : (execOp a.eval o).run P w = .ok (.value (.agg cs.toArray)) w := by
  unfold execOp
  simp only [ho, hx, Sem.run_bind, run_loadAt_mid w b f ty cs d hc hu hd hi, Result.andThen_ok, Sem.run_pure]
theorem open_mid (kb nb hb xb tb : List (BitVec 8)) (vh : Value) (g o c : Nat) (w : World) (hk : kb.length = 32) (hn : nb.length = 12) (hhl : hb.length ≤ 70000) (hl : xb.length ≤ 65536) (htl : tb.length = 16) (hc : xb.length + 16 ≤ c)
    (hvh : BytesAt w vh hb) (hcell : ∀ j, j < xb.length + 16 → w.cell? ⟨g, o + j, none⟩ = some (.int .u8 ((xb ++ tb).getD j 0).toNat)) (hT : Tabs w) :
    Calls Tryd.prog 18 #[.agg (kb.map v8).toArray, .agg (nb.map v8).toArray, vh, .slice (some ⟨g, o, none⟩) (xb.length + 16) c] w fun e w' =>
      (tb ≠ tag16 kb nb hb xb → e = .returned (.tuple #[.slice none 0 0, .int .i64 60])) ∧
      (tb = tag16 kb nb hb xb → ∃ u, e = .returned (.tuple #[u, .int .i64 0]) ∧ w'.ownsRow w.heap.size 5 1 u xb.length ((streamL kb nb xb).map v8)) ∧ Below w.heap.size w w' := by
  have hF := fun v w h h2 => stream_ok kb nb xb v w hk hn hl h h2
  have hG := fun vc w h1 h2 h3 h4 => tag_ok kb nb hb xb vh vc w hk hn hhl (by omega) h1 h2 h3 h4
  have hks : (kb.map v8).length = 32 := by simp [hk]
  have hns : (nb.map v8).length = 12 := by simp [hn]
  generalize kb.map v8 = kl at hF hG hks ⊢
  generalize nb.map v8 = nl at hF hG hns ⊢
  have hB : Below w.heap.size w ((w.alloc (.cells kl.toArray 23)).alloc (.cells nl.toArray 25)) :=
    ⟨rfl, rfl, rfl, by simp; omega, fun k hk => by rw [Below.heap_alloc _ _ _ (by simp; omega), Below.heap_alloc _ _ _ hk]⟩
  have hx : BytesAt w (.slice (some ⟨g, o, none⟩) xb.length c) xb := ⟨_, c, rfl, by omega, fun h => (by cases h), fun _ => ⟨g, o, rfl, fun j hj => by
    rw [hcell j (by omega)]; simp [List.getD, List.getElem?_append_left hj]⟩⟩
  have ht : BytesAt w (.slice (some ⟨g, o + xb.length, none⟩) 16 (c - xb.length)) tb := ⟨some ⟨g, o + xb.length, none⟩, c - xb.length, by rw [htl], by rw [htl]; omega, fun h => (by cases h), fun _ => ⟨g, o + xb.length, rfl, fun j hj => by
    rw [Nat.add_assoc, hcell (xb.length + j) (by omega)]; simp only [List.getD]; rw [List.getElem?_append_right (by omega), show xb.length + j - xb.length = j by omega]⟩⟩
  have hs1 : ∀ W, (Instr.sliceAt 28 (.slice (some ⟨g, o, none⟩) (xb.length + 16) c) (some (.int .i64 (xb.length : Int))) none none).run Tryd.prog W = .ok (.slice (some ⟨g, o + xb.length, none⟩) 16 (c - xb.length)) W := fun W => by
    have h := slice_from (P := Tryd.prog) 28 5 Tryd.underlying28 size5 g o (xb.length + 16) c xb.length (by omega) (by omega) W
    rw [show xb.length + 16 - xb.length = 16 by omega] at h
    exact h
  have hs2 : ∀ W, (Instr.sliceAt 28 (.slice (some ⟨g, o, none⟩) (xb.length + 16) c) none (some (.int .i64 (xb.length : Int))) none).run Tryd.prog W = .ok (.slice (some ⟨g, o, none⟩) xb.length c) W :=
    slice_to (P := Tryd.prog) 28 5 Tryd.underlying28 size5 g o (xb.length + 16) c xb.length (by omega) (by omega)
  have hu23 := Tryd.underlying23
  have hu25 := Tryd.underlying25
  have hi23 : (Tryd.prog.info? 23).map (·.size) = some kl.length := by rw [hks]; kernel_rfl
  have hi25 : (Tryd.prog.info? 25).map (·.size) = some nl.length := by rw [hns]; kernel_rfl
  have hd1 : decide ((xb.length : Int) < 0) = false := by simp
  have hd2 : decide ((65536 : Int) < (xb.length : Int)) = false := by simp; omega
  have HF := Lib.hid hF
  have HG := Lib.hid hG
  have HX := Lib.hid hx
  have HTB := Lib.hid ht
  have HB := Lib.hid hB
  have HVH := Lib.hid hvh
  have HT := Lib.hid hT
  have HKS := Lib.hid hks
  have HNS := Lib.hid hns
  clear hF hG hx ht hB hvh hT hcell hks hns htl
  generalize xb.length = m at *
  go_enter Tryd.func18, Tryd.ntmps18
  go_upto_region 2 with fail
  have hW0 : ∃ W0, W0 = (w.alloc (.cells kl.toArray 23)).alloc (.cells nl.toArray 25) := ⟨_, rfl⟩
  obtain ⟨W0, hW0⟩ := hW0
  rw [← hW0]
  have hB0 : Below w.heap.size w W0.drew := by rw [hW0]; exact HB.out.trans ⟨rfl, rfl, rfl, Nat.le_refl _, fun _ _ => rfl⟩
  have hrk : W0.drew.rangeAt w.heap.size 0 kl := by
    rw [hW0]; exact range_new (t := 23) ((Below.heap_alloc _ _ _ (by simp)).trans (World.alloc_heap_new w _))
  have hrn : W0.drew.rangeAt (w.heap.size + 1) 0 nl := by
    rw [hW0]; exact range_new (t := 25) (alloc_new2 w _ _)
  have HB0 := Lib.hid hB0
  have HVHd := Lib.hid (HVH.out.below hB0)
  have HXd := Lib.hid (HX.out.below hB0)
  have HTBd := Lib.hid (HTB.out.below hB0)
  have HTd := Lib.hid (HT.out.below hB0)
  have hwd : w.heap.size ≤ W0.drew.heap.size := hB0.size
  clear hW0 hB0 HB
  obtain ⟨N, hN⟩ : ∃ N, N = w.heap.size + 1 := ⟨_, rfl⟩
  rw [← hN] at hrn ⊢
  clear hN
  refine wp_region_noPanic ?_
  refine region_sched (fun w' => w'.rangeAt w.heap.size 0 kl ∧ w'.rangeAt N 0 nl) 100 [(0, true), (1, true), (2, true), (3, true), (4, true), (5, true), (6, true), (7, true), (8, true), (9, true), (10, true), (11, true), (12, true), (13, true), (14, true), (15, true), (16, false), (17, false), (18, true), (19, true)]
    (by kernel_rfl) (by kernel_rfl) (by kernel_rfl) rfl (fun _ _ _ _ h => h) ⟨hrk, hrn⟩ ?_
  refine sched_take (v := ?_) rfl (by rfl) (fun W' hS => ?_) ?_
  rotate_left
  · go_simp; with_reducible rfl
  simp only [Act.put, List.getElem_toArray, List.getElem_cons_zero, List.setIfInBounds_toArray, List.set_cons_zero, List.set_cons_succ]
  refine sched_take (v := ?_) rfl (by rfl) (fun W' hS => ?_) ?_
  rotate_left
  · go_simp; with_reducible rfl
  simp only [Act.put, List.getElem_toArray, List.getElem_cons_succ, List.getElem_cons_zero, List.setIfInBounds_toArray, List.set_cons_zero, List.set_cons_succ]
  refine sched_take (v := ?_) rfl (by rfl) (fun W' hS => ?_) ?_
  rotate_left
  · go_simp; with_reducible rfl
  simp only [Act.put, List.getElem_toArray, List.getElem_cons_succ, List.getElem_cons_zero, List.setIfInBounds_toArray, List.set_cons_zero, List.set_cons_succ]
  refine sched_take (v := ?_) rfl (by rfl) (fun W' hS => ?_) ?_
  rotate_left
  · go_simp; with_reducible rfl
  simp only [Act.put, List.getElem_toArray, List.getElem_cons_succ, List.getElem_cons_zero, List.setIfInBounds_toArray, List.set_cons_zero, List.set_cons_succ]
  refine sched_take (v := ?_) rfl (by rfl) (fun W' hS => ?_) ?_
  rotate_left
  · go_simp; with_reducible rfl
  simp only [Act.put, List.getElem_toArray, List.getElem_cons_succ, List.getElem_cons_zero, List.setIfInBounds_toArray, List.set_cons_zero, List.set_cons_succ]
  refine sched_take (v := ?_) rfl (by rfl) (fun W' hS => ?_) ?_
  rotate_left
  · go_simp; with_reducible rfl
  simp only [Act.put, List.getElem_toArray, List.getElem_cons_succ, List.getElem_cons_zero, List.setIfInBounds_toArray, List.set_cons_zero, List.set_cons_succ]
  refine sched_take (v := ?_) rfl (by rfl) (fun W' hS => ?_) ?_
  rotate_left
  · go_simp; with_reducible rfl
  simp only [Act.put, List.getElem_toArray, List.getElem_cons_succ, List.getElem_cons_zero, List.setIfInBounds_toArray, List.set_cons_zero, List.set_cons_succ]
  refine sched_take (v := ?_) rfl (by rfl) (fun W' hS => ?_) ?_
  rotate_left
  · go_simp; with_reducible rfl
  simp only [Act.put, List.getElem_toArray, List.getElem_cons_succ, List.getElem_cons_zero, List.setIfInBounds_toArray, List.set_cons_zero, List.set_cons_succ]
  refine sched_take (v := ?_) rfl (by rfl) (fun W' hS => ?_) ?_
  rotate_left
  · go_simp; with_reducible rfl
  simp only [Act.put, List.getElem_toArray, List.getElem_cons_succ, List.getElem_cons_zero, List.setIfInBounds_toArray, List.set_cons_zero, List.set_cons_succ]
  refine sched_take (v := ?_) rfl (by rfl) (fun W' hS => ?_) ?_
  rotate_left
  · go_simp; with_reducible rfl
  simp only [Act.put, List.getElem_toArray, List.getElem_cons_succ, List.getElem_cons_zero, List.setIfInBounds_toArray, List.set_cons_zero, List.set_cons_succ]
  refine sched_take rfl (by rfl) (fun W' hS => exec_load_mid _ _ _ _ rfl _ _ rfl _ _ hS.1 hu23 rfl hi23) ?_
  simp only [Act.put, List.getElem_toArray, List.getElem_cons_succ, List.getElem_cons_zero, List.setIfInBounds_toArray, List.set_cons_zero, List.set_cons_succ]
  refine sched_take rfl (by rfl) (fun W' hS => exec_load_mid _ _ _ _ rfl _ _ rfl _ _ hS.2 hu25 rfl hi25) ?_
  simp only [Act.put, List.getElem_toArray, List.getElem_cons_succ, List.getElem_cons_zero, List.setIfInBounds_toArray, List.set_cons_zero, List.set_cons_succ]
  refine sched_take (v := ?_) rfl (by rfl) (fun W' hS => ?_) ?_
  rotate_left
  · go_simp; with_reducible rfl
  simp only [Act.put, List.getElem_toArray, List.getElem_cons_succ, List.getElem_cons_zero, List.setIfInBounds_toArray, List.set_cons_zero, List.set_cons_succ]
  refine sched_take (v := ?_) rfl (by rfl) (fun W' hS => ?_) ?_
  rotate_left
  · go_simp; with_reducible rfl
  simp only [Act.put, List.getElem_toArray, List.getElem_cons_succ, List.getElem_cons_zero, List.setIfInBounds_toArray, List.set_cons_zero, List.set_cons_succ]
  refine sched_take (v := ?_) rfl (by rfl) (fun W' hS => ?_) ?_
  rotate_left
  · go_simp; with_reducible rfl
  simp only [Act.put, List.getElem_toArray, List.getElem_cons_succ, List.getElem_cons_zero, List.setIfInBounds_toArray, List.set_cons_zero, List.set_cons_succ]
  refine sched_take (v := ?_) rfl (by rfl) (fun W' hS => ?_) ?_
  rotate_left
  · go_simp; with_reducible rfl
  simp only [Act.put, List.getElem_toArray, List.getElem_cons_succ, List.getElem_cons_zero, List.setIfInBounds_toArray, List.set_cons_zero, List.set_cons_succ]
  refine sched_do rfl (fun K' hK => ?_)
  go_simp
  refine (HG.out _ _ HVHd.out HXd.out HTd.out.num HTd.out.start).mono ?_
  rintro e w1 ⟨vt, rfl, hbt, hB1⟩
  have hrk1 := range_below hrk hB1
  have hrn1 := range_below hrn hB1
  have HB1 := Lib.hid hB1
  have HBT := Lib.hid hbt
  clear hB1 hbt
  refine hK.out _ _ ⟨hrk1, hrn1⟩ fun _ => ?_
  clear hK
  try simp only [Act.put, List.getElem_toArray, List.getElem_cons_succ, List.getElem_cons_zero, List.setIfInBounds_toArray, List.set_cons_zero, List.set_cons_succ]
  by_cases heq : tb = tag16 kb nb hb xb
  · have hdt : decide (tb = tag16 kb nb hb xb) = true := by simp [heq]
    have heqc := equal_ok _ _ tb (tag16 kb nb hb xb) w1 (HTBd.out.below HB1.out) HBT.out
    rw [hdt] at heqc
    have HEQ := Lib.hid heqc
    clear heqc hdt
    refine sched_do rfl (fun K' hK => ?_)
    go_simp
    refine HEQ.out.mono ?_
    rintro e w2 ⟨rfl, rfl⟩
    refine hK.out _ _ ⟨hrk1, hrn1⟩ fun _ => ?_
    clear hK
    try simp only [Act.put, List.getElem_toArray, List.getElem_cons_succ, List.getElem_cons_zero, List.setIfInBounds_toArray, List.set_cons_zero, List.set_cons_succ]
    refine sched_take (v := ?_) rfl (by rfl) (fun W' hS => ?_) ?_
    rotate_left
    · go_simp; with_reducible rfl
    try simp only [Act.put, List.getElem_toArray, List.getElem_cons_succ, List.getElem_cons_zero, List.setIfInBounds_toArray, List.set_cons_zero, List.set_cons_succ]
    refine sched_take (v := ?_) rfl (by rfl) (fun W' hS => ?_) ?_
    rotate_left
    · go_simp; with_reducible rfl
    try simp only [Act.put, List.getElem_toArray, List.getElem_cons_succ, List.getElem_cons_zero, List.setIfInBounds_toArray, List.set_cons_zero, List.set_cons_succ]
    refine NoPanic.normal ?_
    go_upto_region 4 with fail
    have HB2 : Hid (Below W0.drew.heap.size W0.drew w1.drew) := HB1.out.trans ⟨rfl, rfl, rfl, Nat.le_refl _, fun _ _ => rfl⟩
    have hrk2 : w1.drew.rangeAt w.heap.size 0 kl := hrk1
    have hrn2 : w1.drew.rangeAt N 0 nl := hrn1
    refine wp_region_noPanic ?_
    refine region_sched (fun w' => w'.rangeAt w.heap.size 0 kl ∧ w'.rangeAt N 0 nl) 100 [(0, true), (1, true), (2, true), (3, true), (4, true), (5, false), (6, true), (7, true), (8, true), (9, true)]
      (by kernel_rfl) (by kernel_rfl) (by kernel_rfl) rfl (fun _ _ _ _ h => h) ⟨hrk2, hrn2⟩ ?_
    refine sched_take rfl (by rfl) (fun W' hS => exec_load_mid _ _ _ _ rfl _ _ rfl _ _ hS.1 hu23 rfl hi23) ?_
    try simp only [Act.put, List.getElem_toArray, List.getElem_cons_zero, List.setIfInBounds_toArray, List.set_cons_zero, List.set_cons_succ]
    refine sched_take rfl (by rfl) (fun W' hS => exec_load_mid _ _ _ _ rfl _ _ rfl _ _ hS.2 hu25 rfl hi25) ?_
    try simp only [Act.put, List.getElem_toArray, List.getElem_cons_succ, List.getElem_cons_zero, List.setIfInBounds_toArray, List.set_cons_zero, List.set_cons_succ]
    refine sched_take (v := ?_) rfl (by rfl) (fun W' hS => ?_) ?_
    rotate_left
    · go_simp; with_reducible rfl
    try simp only [Act.put, List.getElem_toArray, List.getElem_cons_succ, List.getElem_cons_zero, List.setIfInBounds_toArray, List.set_cons_zero, List.set_cons_succ]
    refine sched_take (v := ?_) rfl (by rfl) (fun W' hS => ?_) ?_
    rotate_left
    · go_simp; with_reducible rfl
    try simp only [Act.put, List.getElem_toArray, List.getElem_cons_succ, List.getElem_cons_zero, List.setIfInBounds_toArray, List.set_cons_zero, List.set_cons_succ]
    refine sched_take (v := ?_) rfl (by rfl) (fun W' hS => ?_) ?_
    rotate_left
    · go_simp; with_reducible rfl
    try simp only [Act.put, List.getElem_toArray, List.getElem_cons_succ, List.getElem_cons_zero, List.setIfInBounds_toArray, List.set_cons_zero, List.set_cons_succ]
    refine sched_do rfl (fun K' hK => ?_)
    go_simp
    refine (HF.out _ _ (HXd.out.below HB2.out) (HTd.out.below HB2.out).const).mono ?_
    rintro e w3 ⟨u, rfl, hown, hB3⟩
    have hrk3 := range_below hrk2 hB3
    have hrn3 := range_below hrn2 hB3
    have hge : w.heap.size ≤ w1.drew.heap.size := Nat.le_trans hwd HB2.out.size
    have HOWN := Lib.hid (own_lower hown hge)
    have HBF := Lib.hid (HB0.out.trans ((HB2.out.mono hwd).trans (hB3.mono hge)))
    clear hown hB3
    refine hK.out _ _ ⟨hrk3, hrn3⟩ fun _ => ?_
    clear hK
    try simp only [Act.put, List.getElem_toArray, List.getElem_cons_succ, List.getElem_cons_zero, List.setIfInBounds_toArray, List.set_cons_zero, List.set_cons_succ]
    refine sched_take (v := ?_) rfl (by rfl) (fun W' hS => ?_) ?_
    rotate_left
    · go_simp; with_reducible rfl
    try simp only [Act.put, List.getElem_toArray, List.getElem_cons_succ, List.getElem_cons_zero, List.setIfInBounds_toArray, List.set_cons_zero, List.set_cons_succ]
    refine sched_take (v := ?_) rfl (by rfl) (fun W' hS => ?_) ?_
    rotate_left
    · go_simp; with_reducible rfl
    try simp only [Act.put, List.getElem_toArray, List.getElem_cons_succ, List.getElem_cons_zero, List.setIfInBounds_toArray, List.set_cons_zero, List.set_cons_succ]
    refine sched_take (v := ?_) rfl (by rfl) (fun W' hS => ?_) ?_
    rotate_left
    · go_simp; with_reducible rfl
    try simp only [Act.put, List.getElem_toArray, List.getElem_cons_succ, List.getElem_cons_zero, List.setIfInBounds_toArray, List.set_cons_zero, List.set_cons_succ]
    refine sched_take (v := ?_) rfl (by rfl) (fun W' hS => ?_) ?_
    rotate_left
    · go_simp; with_reducible rfl
    try simp only [Act.put, List.getElem_toArray, List.getElem_cons_succ, List.getElem_cons_zero, List.setIfInBounds_toArray, List.set_cons_zero, List.set_cons_succ]
    refine NoPanic.normal ?_
    go_wp2
    go_ret2
    exact ⟨fun h => absurd heq h, fun _ => ⟨u, rfl, HOWN.out⟩, HBF.out⟩
  · have hdt : decide (tb = tag16 kb nb hb xb) = false := by simp [heq]
    have heqc := equal_ok _ _ tb (tag16 kb nb hb xb) w1 (HTBd.out.below HB1.out) HBT.out
    rw [hdt] at heqc
    have HEQ := Lib.hid heqc
    clear heqc hdt
    refine sched_do rfl (fun K' hK => ?_)
    go_simp
    refine HEQ.out.mono ?_
    rintro e w2 ⟨rfl, rfl⟩
    refine hK.out _ _ ⟨hrk1, hrn1⟩ fun _ => ?_
    clear hK
    try simp only [Act.put, List.getElem_toArray, List.getElem_cons_succ, List.getElem_cons_zero, List.setIfInBounds_toArray, List.set_cons_zero, List.set_cons_succ]
    refine sched_take (v := ?_) rfl (by rfl) (fun W' hS => ?_) ?_
    rotate_left
    · go_simp; with_reducible rfl
    try simp only [Act.put, List.getElem_toArray, List.getElem_cons_succ, List.getElem_cons_zero, List.setIfInBounds_toArray, List.set_cons_zero, List.set_cons_succ]
    refine sched_take (v := ?_) rfl (by rfl) (fun W' hS => ?_) ?_
    rotate_left
    · go_simp; with_reducible rfl
    try simp only [Act.put, List.getElem_toArray, List.getElem_cons_succ, List.getElem_cons_zero, List.setIfInBounds_toArray, List.set_cons_zero, List.set_cons_succ]
    refine NoPanic.normal ?_
    go_wp2
    go_ret2
    exact ⟨fun _ => rfl, fun h => absurd h heq, HB0.out.trans (HB1.out.mono hwd)⟩
end Go.Proofs.YtklaancgnfkjlaaDoor
