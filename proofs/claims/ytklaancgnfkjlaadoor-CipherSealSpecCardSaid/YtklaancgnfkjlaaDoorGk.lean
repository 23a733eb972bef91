/- The reference cipher: Open. -/
import Derived.Test.YtklaancgnfkjlaaDoorGj
import Derived.Test.YtklaancgnfkjlaaDoorEe
namespace Go.Proofs.YtklaancgnfkjlaaDoor
open Go.RowKit
set_option maxRecDepth 100000
set_option maxHeartbeats 2000000
set_option linter.unusedVariables false
set_option linter.unusedSimpArgs false

theorem ropen_mid (kb nb hb xb tb : List (BitVec 8)) (vh : Value) (g o c : Nat) (w : World) (hk : kb.length = 32) (hn : nb.length = 12) (hhl : hb.length ≤ 70000) (hl : xb.length ≤ 65536) (htl : tb.length = 16) (hc : xb.length + 16 ≤ c)
    (hvh : BytesAt w vh hb) (hcell : ∀ j, j < xb.length + 16 → w.cell? ⟨g, o + j, none⟩ = some (.int .u8 ((xb ++ tb).getD j 0).toNat)) :
    Calls Tryd.prog 19 #[.agg (kb.map v8).toArray, .agg (nb.map v8).toArray, vh, .slice (some ⟨g, o, none⟩) (xb.length + 16) c] w fun e w' =>
      (tb ≠ tag16 kb nb hb xb → e = .returned (.tuple #[.slice none 0 0, .int .i64 60])) ∧
      (tb = tag16 kb nb hb xb → ∃ u, e = .returned (.tuple #[u, .int .i64 0]) ∧ w'.ownsRow w.heap.size 5 1 u xb.length ((streamL kb nb xb).map v8)) ∧ Below w.heap.size w w' := by
  have hF := fun v w h => rstream_ok kb nb xb v w hk hn hl h
  have hG := fun vc w h1 h2 => rtag_at kb nb hb xb vh vc w hk hn hhl (by omega) h1 h2
  generalize tag16 kb nb hb xb = tg at hG ⊢
  generalize streamL kb nb xb = st at hF ⊢
  have hks : (kb.map v8).length = 32 := by simp [hk]
  have hns : (nb.map v8).length = 12 := by simp [hn]
  generalize kb.map v8 = kl at hF hG hks ⊢
  generalize nb.map v8 = nl at hF hG hns ⊢
  have hB : Below w.heap.size w ((w.alloc (.cells kl.toArray 23)).alloc (.cells nl.toArray 25)) :=
    ⟨rfl, rfl, rfl, by simp; omega, fun k hk => by rw [Below.heap_alloc _ _ _ (by simp; omega), Below.heap_alloc _ _ _ hk]⟩
  have hx : BytesAt w (.slice (some ⟨g, o, none⟩) xb.length c) xb := ⟨_, c, rfl, by omega, fun h => (by cases h), fun _ => ⟨g, o, rfl, fun j hj => by
    rw [hcell j (by omega)]; simp [List.getD, List.getElem?_append_left hj]⟩⟩
  have ht : BytesAt w (.slice (some ⟨g, o + xb.length, none⟩) 16 (c - xb.length)) tb := ⟨some ⟨g, o + xb.length, none⟩, c - xb.length, by rw [htl], by rw [htl]; omega, fun h => (by cases h), fun _ => ⟨g, o + xb.length, rfl, fun j hj => by
    rw [Nat.add_assoc, hcell (xb.length + j) (by omega)]; simp only [List.getD]; rw [List.getElem?_append_right (by omega), show xb.length + j - xb.length = j by omega]⟩⟩
  have hs1 : ∀ W, (Instr.sliceAt 28 (.slice (some ⟨g, o, none⟩) (xb.length + 16) c) (some (.int .i64 (xb.length : Int))) none none).run Tryd.prog W = .ok (.slice (some ⟨g, o + xb.length, none⟩) 16 (c - xb.length)) W := fun W => by
    have h := slice_from (P := Tryd.prog) 28 5 Tryd.underlying28 size5 g o (xb.length + 16) c xb.length (by omega) (by omega) W
    rw [show xb.length + 16 - xb.length = 16 by omega] at h
    exact h
  have hs2 : ∀ W, (Instr.sliceAt 28 (.slice (some ⟨g, o, none⟩) (xb.length + 16) c) none (some (.int .i64 (xb.length : Int))) none).run Tryd.prog W = .ok (.slice (some ⟨g, o, none⟩) xb.length c) W :=
    slice_to (P := Tryd.prog) 28 5 Tryd.underlying28 size5 g o (xb.length + 16) c xb.length (by omega) (by omega)
  have hu23 := Tryd.underlying23
  have hu25 := Tryd.underlying25
  have hi23 : (Tryd.prog.info? 23).map (·.size) = some kl.length := by rw [hks]; kernel_rfl
  have hi25 : (Tryd.prog.info? 25).map (·.size) = some nl.length := by rw [hns]; kernel_rfl
  have hd1 : decide ((xb.length : Int) < 0) = false := by simp
  have hd2 : decide (((xb.length + 16 : Nat) : Int) < 16) = false := by simp; omega
  have hd3 : decide ((65552 : Int) < ((xb.length + 16 : Nat) : Int)) = false := by simp; omega
  have HF := Lib.hid hF
  have HG := Lib.hid hG
  have HX := Lib.hid hx
  have HTB := Lib.hid ht
  have HB := Lib.hid hB
  have HVH := Lib.hid hvh
  have HKS := Lib.hid hks
  have HNS := Lib.hid hns
  clear hF hG hx ht hB hvh hcell hks hns htl
  generalize xb.length = m at *
  have hwr : IntKind.i64.wrap (m : Int) = (m : Int) := by rw [IntKind.wrap_i64]; omega
  go_enter Tryd.func19, Tryd.ntmps19
  go_upto_region 4 with fail
  have hW0 : ∃ W0, W0 = (w.alloc (.cells kl.toArray 23)).alloc (.cells nl.toArray 25) := ⟨_, rfl⟩
  obtain ⟨W0, hW0⟩ := hW0
  rw [← hW0]
  have hB0 : Below w.heap.size w W0.drew := by rw [hW0]; exact HB.out.trans ⟨rfl, rfl, rfl, Nat.le_refl _, fun _ _ => rfl⟩
  have hrk : W0.drew.rangeAt w.heap.size 0 kl := by
    rw [hW0]; exact range_new (t := 23) ((Below.heap_alloc _ _ _ (by simp)).trans (World.alloc_heap_new w _))
  have hrn : W0.drew.rangeAt (w.heap.size + 1) 0 nl := by
    rw [hW0]; exact range_new (t := 25) (alloc_new2 w _ _)
  have HB0 := Lib.hid hB0
  have HVHd := Lib.hid (HVH.out.below hB0)
  have HXd := Lib.hid (HX.out.below hB0)
  have HTBd := Lib.hid (HTB.out.below hB0)
  have hwd : w.heap.size ≤ W0.drew.heap.size := hB0.size
  clear hW0 hB0 HB
  obtain ⟨N, hN⟩ : ∃ N, N = w.heap.size + 1 := ⟨_, rfl⟩
  rw [← hN] at hrn ⊢
  clear hN
  refine wp_region_noPanic ?_
  refine region_sched (fun w' => w'.rangeAt w.heap.size 0 kl ∧ w'.rangeAt N 0 nl ∧ BytesAt w' (.slice (some ⟨g, o + m, none⟩) 16 (c - m)) tb) 100 [(0, true), (1, true), (2, true), (3, true), (4, true), (5, true), (6, true), (7, true), (8, true), (9, true), (10, false), (11, false), (12, true)]
    (by kernel_rfl) (by kernel_rfl) (by kernel_rfl) rfl (fun _ _ _ _ h => h) ⟨hrk, hrn, HTBd.out⟩ ?_
  refine sched_take (v := ?_) rfl (by rfl) (fun W' hS => ?_) ?_
  rotate_left
  · go_simp; with_reducible rfl
  try simp only [Act.put, List.getElem_toArray, List.getElem_cons_succ, List.getElem_cons_zero, List.setIfInBounds_toArray, List.set_cons_zero, List.set_cons_succ]
  refine sched_take (v := ?_) rfl (by rfl) (fun W' hS => ?_) ?_
  rotate_left
  · go_simp; with_reducible rfl
  try simp only [Act.put, List.getElem_toArray, List.getElem_cons_succ, List.getElem_cons_zero, List.setIfInBounds_toArray, List.set_cons_zero, List.set_cons_succ]
  refine sched_take (v := ?_) rfl (by rfl) (fun W' hS => ?_) ?_
  rotate_left
  · go_simp; with_reducible rfl
  try simp only [Act.put, List.getElem_toArray, List.getElem_cons_succ, List.getElem_cons_zero, List.setIfInBounds_toArray, List.set_cons_zero, List.set_cons_succ]
  refine sched_take (v := ?_) rfl (by rfl) (fun W' hS => ?_) ?_
  rotate_left
  · go_simp; with_reducible rfl
  try simp only [Act.put, List.getElem_toArray, List.getElem_cons_succ, List.getElem_cons_zero, List.setIfInBounds_toArray, List.set_cons_zero, List.set_cons_succ]
  refine sched_take (v := ?_) rfl (by rfl) (fun W' hS => ?_) ?_
  rotate_left
  · go_simp; with_reducible rfl
  try simp only [Act.put, List.getElem_toArray, List.getElem_cons_succ, List.getElem_cons_zero, List.setIfInBounds_toArray, List.set_cons_zero, List.set_cons_succ]
  refine sched_take (v := ?_) rfl (by rfl) (fun W' hS => ?_) ?_
  rotate_left
  · have hcv := conv_ok hS.2.2; go_simp; with_reducible rfl
  try simp only [Act.put, List.getElem_toArray, List.getElem_cons_succ, List.getElem_cons_zero, List.setIfInBounds_toArray, List.set_cons_zero, List.set_cons_succ]
  refine sched_take rfl (by rfl) (fun W' hS => exec_load_mid _ _ _ _ rfl _ _ rfl _ _ hS.1 hu23 rfl hi23) ?_
  try simp only [Act.put, List.getElem_toArray, List.getElem_cons_succ, List.getElem_cons_zero, List.setIfInBounds_toArray, List.set_cons_zero, List.set_cons_succ]
  refine sched_take rfl (by rfl) (fun W' hS => exec_load_mid _ _ _ _ rfl _ _ rfl _ _ hS.2.1 hu25 rfl hi25) ?_
  try simp only [Act.put, List.getElem_toArray, List.getElem_cons_succ, List.getElem_cons_zero, List.setIfInBounds_toArray, List.set_cons_zero, List.set_cons_succ]
  refine sched_take (v := ?_) rfl (by rfl) (fun W' hS => ?_) ?_
  rotate_left
  · go_simp; with_reducible rfl
  try simp only [Act.put, List.getElem_toArray, List.getElem_cons_succ, List.getElem_cons_zero, List.setIfInBounds_toArray, List.set_cons_zero, List.set_cons_succ]
  refine sched_take (v := ?_) rfl (by rfl) (fun W' hS => ?_) ?_
  rotate_left
  · go_simp; with_reducible rfl
  try simp only [Act.put, List.getElem_toArray, List.getElem_cons_succ, List.getElem_cons_zero, List.setIfInBounds_toArray, List.set_cons_zero, List.set_cons_succ]
  refine sched_do rfl (fun K' hK => ?_)
  go_simp
  refine (HG.out _ _ HVHd.out HXd.out).mono ?_
  rintro e w1 ⟨vt, rfl, hbt, hB1⟩
  have hrk1 := range_below hrk hB1
  have hrn1 := range_below hrn hB1
  have htb1 := HTBd.out.below hB1
  have HB1 := Lib.hid hB1
  have HBT := Lib.hid hbt
  clear hB1 hbt
  refine hK.out _ _ ⟨hrk1, hrn1, htb1⟩ fun _ => ?_
  clear hK
  try simp only [Act.put, List.getElem_toArray, List.getElem_cons_succ, List.getElem_cons_zero, List.setIfInBounds_toArray, List.set_cons_zero, List.set_cons_succ]
  have hcv := conv_ok HBT.out
  refine sched_do rfl (fun K' hK => ?_)
  go_simp
  refine hK.out _ _ ⟨hrk1, hrn1, htb1⟩ fun _ => ?_
  clear hK hcv
  try simp only [Act.put, List.getElem_toArray, List.getElem_cons_succ, List.getElem_cons_zero, List.setIfInBounds_toArray, List.set_cons_zero, List.set_cons_succ]
  refine sched_take (v := .bool (!decide (tb = tg))) rfl (by rfl) (fun W' hS => ?_) ?_
  · go_simp
    exact str_dec _ _
  try simp only [Act.put, List.getElem_toArray, List.getElem_cons_succ, List.getElem_cons_zero, List.setIfInBounds_toArray, List.set_cons_zero, List.set_cons_succ]
  refine NoPanic.normal ?_
  obtain ⟨bb, hbb⟩ : ∃ bb, bb = decide (tb = tg) := ⟨_, rfl⟩
  rw [← hbb]
  have HBB := Lib.hid hbb
  clear hbb
  cases bb
  · have HNE : Hid (tb ≠ tg) := Lib.hid (of_decide_eq_false HBB.out.symm)
    go_wp2
    go_ret2
    exact ⟨fun _ => rfl, fun h => absurd h HNE.out, HB0.out.trans (HB1.out.mono hwd)⟩
  · have HEQ : Hid (tb = tg) := Lib.hid (of_decide_eq_true HBB.out.symm)
    go_upto_region 6 with fail
    refine wp_region_lit ?_
    refine wpList_value rfl (exec_load_mid _ _ _ _ rfl _ _ rfl _ _ hrk1 hu23 rfl hi23) ?_
    try simp only [Act.put, List.getElem_toArray, List.getElem_cons_succ, List.getElem_cons_zero, List.setIfInBounds_toArray, List.set_cons_zero, List.set_cons_succ]
    refine wpList_value rfl (exec_load_mid _ _ _ _ rfl _ _ rfl _ _ hrn1 hu25 rfl hi25) ?_
    try simp only [Act.put, List.getElem_toArray, List.getElem_cons_succ, List.getElem_cons_zero, List.setIfInBounds_toArray, List.set_cons_zero, List.set_cons_succ]
    go_wp2_with fail
    refine (HF.out _ _ (HXd.out.below HB1.out)).mono ?_
    rintro e w3 ⟨u, rfl, hown, hB3⟩
    have hge : w.heap.size ≤ w1.heap.size := Nat.le_trans hwd HB1.out.size
    have HOWN := Lib.hid (own_lower hown hge)
    have HBF := Lib.hid (HB0.out.trans ((HB1.out.mono hwd).trans (hB3.mono hge)))
    clear hown hB3
    go_wp2
    go_ret2
    exact ⟨fun h => absurd HEQ.out h, fun _ => ⟨u, rfl, HOWN.out⟩, HBF.out⟩
theorem ropen_no (kb nb hb cb : List (BitVec 8)) (vh v : Value) (w : World) (hk : kb.length = 32) (hn : nb.length = 12) (hhl : hb.length ≤ 70000) (hl : cb.length ≤ 1000000) (hvh : BytesAt w vh hb) (hv : BytesAt w v cb) (hno : okO kb nb hb cb = false) :
    Calls Tryd.prog 19 #[.agg (kb.map v8).toArray, .agg (nb.map v8).toArray, vh, v] w fun e w' => e = .returned (.tuple #[.slice none 0 0, .int .i64 60]) ∧ Below w.heap.size w w' := by
  obtain ⟨p, c, rfl, hc, hp, hcell⟩ := hv
  by_cases hr : cb.length < 16 ∨ 65552 < cb.length
  · exact ropen_out _ _ vh p cb.length c hr w
  · have h16 : 16 ≤ cb.length := by omega
    obtain ⟨g, o, rfl, hg⟩ := hcell (by omega)
    have htl : (cb.take (cb.length - 16)).length = cb.length - 16 := by simp
    have h := ropen_mid kb nb hb (cb.take (cb.length - 16)) (cb.drop (cb.length - 16)) vh g o c w hk hn hhl (by rw [htl]; omega) (by simp; omega) (by rw [htl]; omega) hvh (fun j hj => by
      rw [List.take_append_drop]; exact hg j (by rw [htl] at hj; omega))
    rw [htl, show cb.length - 16 + 16 = cb.length by omega] at h
    have hne : cb.drop (cb.length - 16) ≠ tag16 kb nb hb (cb.take (cb.length - 16)) := fun e => by
      simp only [okO, decide_eq_false_iff_not] at hno
      exact hno ⟨h16, by omega, e⟩
    exact h.mono fun e w' h => ⟨h.1 hne, h.2.2⟩
theorem ropen_yes (kb nb hb cb : List (BitVec 8)) (vh v : Value) (w : World) (hk : kb.length = 32) (hn : nb.length = 12) (hhl : hb.length ≤ 70000) (hl : cb.length ≤ 1000000) (hvh : BytesAt w vh hb) (hv : BytesAt w v cb) (hyes : okO kb nb hb cb = true) :
    Calls Tryd.prog 19 #[.agg (kb.map v8).toArray, .agg (nb.map v8).toArray, vh, v] w fun e w' =>
      ∃ u, e = .returned (.tuple #[u, .int .i64 0]) ∧ w'.ownsRow w.heap.size 5 1 u (cb.length - 16) ((streamL kb nb (cb.take (cb.length - 16))).map v8) ∧ Below w.heap.size w w' := by
  simp only [okO, decide_eq_true_eq] at hyes
  obtain ⟨h16, h2, h3⟩ := hyes
  obtain ⟨p, c, rfl, hc, hp, hcell⟩ := hv
  obtain ⟨g, o, rfl, hg⟩ := hcell (by omega)
  have htl : (cb.take (cb.length - 16)).length = cb.length - 16 := by simp
  have h := ropen_mid kb nb hb (cb.take (cb.length - 16)) (cb.drop (cb.length - 16)) vh g o c w hk hn hhl (by rw [htl]; omega) (by simp; omega) (by rw [htl]; omega) hvh (fun j hj => by
    rw [List.take_append_drop]; exact hg j (by rw [htl] at hj; omega))
  rw [htl, show cb.length - 16 + 16 = cb.length by omega] at h
  refine h.mono fun e w' h => ?_
  obtain ⟨u, h4, h5⟩ := h.2.1 h3
  exact ⟨u, h4, h5, h.2.2⟩
end Go.Proofs.YtklaancgnfkjlaaDoor
