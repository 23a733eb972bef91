/- The walk of FoldersTreeSpec. -/
import Derived.Test.YtcflnjmglanneaaUn
namespace Go.Proofs.Ytcflnjmglanneaa
open Go.RowKit Go.Maps Go.Sort
set_option maxRecDepth 100000
set_option linter.unusedVariables false
set_option linter.unusedSimpArgs false

theorem treeP_few (l : List Pl) : (treeP l).length ≤ 16 := by
  obtain ⟨L, h⟩ := treeP_frst l
  exact h.few
set_option maxHeartbeats 8000000 in
theorem treeSpec_walk (l : List Pl) (v : Value) (x : Pl) (w : World) (ht : PlAt w v l) (hl : l.length ≤ maxLen) :
    Calls Try.prog 3 #[v, x.ev] w fun e w' => e = .returned (.bool true) ∧ Below w.heap.size w w' := by
  obtain ⟨pt, pc, rfl, hc, -⟩ := ht.form
  have hA0 := below_alloc w (.cells x.cells.toArray 24)
  have HX0 := Lib.hid (World.alloc_heap_new w (.cells x.cells.toArray 24))
  obtain ⟨A, hA⟩ : ∃ A, A = w.heap.size := ⟨_, rfl⟩
  obtain ⟨W0, hW0⟩ : ∃ W0, W0 = w.alloc (.cells x.cells.toArray 24) := ⟨_, rfl⟩
  rw [← hW0] at hA0 HX0
  rw [← hA] at HX0
  have HT := Lib.hid (ht.below hA0)
  have HB0 := Lib.hid hA0
  have HXX := Lib.hid (fun W => fcheck_ok x W)
  have HYY := Lib.hid (fun W => rcheck_ok x W)
  obtain ⟨n, hn⟩ : ∃ n, n = l.length := ⟨_, rfl⟩
  have HN := Lib.hid hn
  rw [← hn] at HT hl hc ⊢
  have hAl : A < W0.heap.size := (Array.getElem?_eq_some_iff.1 HX0.out).1
  obtain ⟨ck, hck⟩ : ∃ ck, ck = chkP x := ⟨_, rfl⟩
  rw [← hck] at HXX HYY
  obtain ⟨xt, xd, xf, xp, xn⟩ := x
  have hW0' : w.alloc (.cells #[.int .i64 xt, .int .i64 xd, .int .i64 xf, .int .i64 xp, .string xn] 24) = W0 := hW0.symm
  unfold Pl.ev at HXX HYY ⊢
  dsimp only at HXX HYY ⊢
  clear ht hA0 hn hck hW0
  go_enter Try.func3, Try.ntmps3
  go_wp2_with fail
  try rw [hW0']
  try rw [← hA]
  clear hW0' hA
  refine (sane_ok W0).mono ?_
  rintro e W1 ⟨rfl, hB⟩
  have HB1 := Lib.hid (below_trans HB0.out hB)
  have HT1 := Lib.hid (HT.out.below hB)
  have HX1 := Lib.hid ((hB.block A hAl).trans HX0.out)
  have hAl1 : A < W1.heap.size := Nat.lt_of_lt_of_le hAl hB.size
  clear hB HB0 HT HX0 hAl
  go_wp2_with fail
  refine (few_ok pt none n pc 0 0 W1 hl (Nat.zero_le _)).mono ?_
  rintro e W2 ⟨rfl, rfl⟩
  by_cases h30 : n ≤ 30
  case neg =>
    rw [decide_eq_false (show ¬ (n ≤ 30 ∧ 0 ≤ 30) from fun h => h30 h.1)]
    clear h30
    go_wp2_with fail
    go_ret
    exact ⟨rfl, HB1.out⟩
  rw [decide_eq_true (show (n ≤ 30 ∧ 0 ≤ 30) from ⟨h30, by decide⟩)]
  go_upto_region 5 with fail
  obtain ⟨b0, b1, b2, b3, b4⟩ := box_cells HX1.out
  dsimp only at b0 b1 b2 b3 b4
  refine wp_region_noPanic ?_
  refine region_sched (fun W' => Below W1.heap.size W1 W') 12 [(0, true), (2, true), (1, false), (3, false), (4, false), (5, true), (6, true), (8, true), (7, false), (9, false), (10, true), (11, true), (12, false)] (by kernel_rfl) (by kernel_rfl) (by kernel_rfl) rfl (fun _ _ _ _ h => h) ⟨rfl, rfl, rfl, Nat.le_refl _, fun _ _ => rfl⟩ ?_
  obtain ⟨Wd, hWd⟩ : ∃ W, W = W1.drew := ⟨_, rfl⟩
  have HSd : Hid (Below W1.heap.size W1 Wd) := Lib.hid (by rw [hWd]; exact ⟨rfl, rfl, rfl, Nat.le_refl _, fun _ _ => rfl⟩)
  rw [← hWd]
  clear hWd
  (refine sched_take (v := ?_) rfl (by rfl) (fun W' hS => ?_) ?_; rotate_left; (have d0 := cellOld b0 (hS.block _ (cellLt b0)); have d1 := cellOld b1 (hS.block _ (cellLt b1)); have d2 := cellOld b2 (hS.block _ (cellLt b2)); have d3 := cellOld b3 (hS.block _ (cellLt b3)); have d4 := cellOld b4 (hS.block _ (cellLt b4)); go_simp; with_reducible rfl); (try simp only [Act.put, List.getElem_toArray, List.getElem_cons_succ, List.getElem_cons_zero, List.setIfInBounds_toArray, List.set_cons_zero, List.set_cons_succ]))
  (refine sched_take (v := ?_) rfl (by rfl) (fun W' hS => ?_) ?_; rotate_left; (have d0 := cellOld b0 (hS.block _ (cellLt b0)); have d1 := cellOld b1 (hS.block _ (cellLt b1)); have d2 := cellOld b2 (hS.block _ (cellLt b2)); have d3 := cellOld b3 (hS.block _ (cellLt b3)); have d4 := cellOld b4 (hS.block _ (cellLt b4)); go_simp; with_reducible rfl); (try simp only [Act.put, List.getElem_toArray, List.getElem_cons_succ, List.getElem_cons_zero, List.setIfInBounds_toArray, List.set_cons_zero, List.set_cons_succ]))
  refine sched_do rfl (fun K' hK => ?_)
  go_simp
  refine (tree_ok l (.slice pt n pc) Wd (HT1.out.below HSd.out) (by have := HN.out; omega)).mono ?_
  rintro e Wa ⟨ua, rfl, hu, hB⟩
  have HSa : Hid (Below W1.heap.size W1 Wa) := Lib.hid (HSd.out.trans (hB.mono HSd.out.size))
  have HUa := Lib.hid hu
  clear hB hu
  refine hK.out _ _ HSa.out fun _ => ?_
  clear hK
  (try simp only [Act.put, List.getElem_toArray, List.getElem_cons_succ, List.getElem_cons_zero, List.setIfInBounds_toArray, List.set_cons_zero, List.set_cons_succ])
  refine sched_do rfl (fun K' hK => ?_)
  go_simp
  refine (rtree_ok l (.slice pt n pc) Wa (HT1.out.below HSa.out) (by have := HN.out; omega)).mono ?_
  rintro e Wb ⟨ub, rfl, hu, hB⟩
  have HSb : Hid (Below W1.heap.size W1 Wb) := Lib.hid (HSa.out.trans (hB.mono HSa.out.size))
  have HUb := Lib.hid hu
  have HUa2 := Lib.hid (HUa.out.below hB)
  clear hB hu HUa
  refine hK.out _ _ HSb.out fun _ => ?_
  clear hK
  (try simp only [Act.put, List.getElem_toArray, List.getElem_cons_succ, List.getElem_cons_zero, List.setIfInBounds_toArray, List.set_cons_zero, List.set_cons_succ])
  have h16 := treeP_few l
  refine sched_do rfl (fun K' hK => ?_)
  go_simp
  refine (rsame_ok (treeP l) (treeP l) ua ub Wb HUa2.out HUb.out (by omega) (by omega)).mono ?_
  rintro e Wc ⟨rfl, hB⟩
  have HSc : Hid (Below W1.heap.size W1 Wc) := Lib.hid (HSb.out.trans (hB.mono HSb.out.size))
  clear hB HUa2 HUb
  rw [decide_eq_true (rfl : treeP l = treeP l)]
  refine hK.out _ _ HSc.out fun _ => ?_
  clear hK
  (try simp only [Act.put, List.getElem_toArray, List.getElem_cons_succ, List.getElem_cons_zero, List.setIfInBounds_toArray, List.set_cons_zero, List.set_cons_succ])
  (refine sched_take (v := ?_) rfl (by rfl) (fun W' hS => ?_) ?_; rotate_left; (have d0 := cellOld b0 (hS.block _ (cellLt b0)); have d1 := cellOld b1 (hS.block _ (cellLt b1)); have d2 := cellOld b2 (hS.block _ (cellLt b2)); have d3 := cellOld b3 (hS.block _ (cellLt b3)); have d4 := cellOld b4 (hS.block _ (cellLt b4)); go_simp; with_reducible rfl); (try simp only [Act.put, List.getElem_toArray, List.getElem_cons_succ, List.getElem_cons_zero, List.setIfInBounds_toArray, List.set_cons_zero, List.set_cons_succ]))
  (refine sched_take (v := ?_) rfl (by rfl) (fun W' hS => ?_) ?_; rotate_left; (have d0 := cellOld b0 (hS.block _ (cellLt b0)); have d1 := cellOld b1 (hS.block _ (cellLt b1)); have d2 := cellOld b2 (hS.block _ (cellLt b2)); have d3 := cellOld b3 (hS.block _ (cellLt b3)); have d4 := cellOld b4 (hS.block _ (cellLt b4)); go_simp; with_reducible rfl); (try simp only [Act.put, List.getElem_toArray, List.getElem_cons_succ, List.getElem_cons_zero, List.setIfInBounds_toArray, List.set_cons_zero, List.set_cons_succ]))
  (refine sched_take (v := ?_) rfl (by rfl) (fun W' hS => ?_) ?_; rotate_left; (have d0 := cellOld b0 (hS.block _ (cellLt b0)); have d1 := cellOld b1 (hS.block _ (cellLt b1)); have d2 := cellOld b2 (hS.block _ (cellLt b2)); have d3 := cellOld b3 (hS.block _ (cellLt b3)); have d4 := cellOld b4 (hS.block _ (cellLt b4)); go_simp; with_reducible rfl); (try simp only [Act.put, List.getElem_toArray, List.getElem_cons_succ, List.getElem_cons_zero, List.setIfInBounds_toArray, List.set_cons_zero, List.set_cons_succ]))
  refine sched_do rfl (fun K' hK => ?_)
  go_simp
  refine (HXX.out Wc).mono ?_
  rintro e We ⟨rfl, hB⟩
  have HSe : Hid (Below W1.heap.size W1 We) := Lib.hid (HSc.out.trans (hB.mono HSc.out.size))
  clear hB
  refine hK.out _ _ HSe.out fun _ => ?_
  clear hK
  (try simp only [Act.put, List.getElem_toArray, List.getElem_cons_succ, List.getElem_cons_zero, List.setIfInBounds_toArray, List.set_cons_zero, List.set_cons_succ])
  refine sched_do rfl (fun K' hK => ?_)
  go_simp
  refine (HYY.out We).mono ?_
  rintro e Wf ⟨rfl, hB⟩
  have HSf : Hid (Below W1.heap.size W1 Wf) := Lib.hid (HSe.out.trans (hB.mono HSe.out.size))
  clear hB
  refine hK.out _ _ HSf.out fun _ => ?_
  clear hK
  (try simp only [Act.put, List.getElem_toArray, List.getElem_cons_succ, List.getElem_cons_zero, List.setIfInBounds_toArray, List.set_cons_zero, List.set_cons_succ])
  (refine sched_take (v := ?_) rfl (by rfl) (fun W' hS => ?_) ?_; rotate_left; (have d0 := cellOld b0 (hS.block _ (cellLt b0)); have d1 := cellOld b1 (hS.block _ (cellLt b1)); have d2 := cellOld b2 (hS.block _ (cellLt b2)); have d3 := cellOld b3 (hS.block _ (cellLt b3)); have d4 := cellOld b4 (hS.block _ (cellLt b4)); go_simp; with_reducible rfl); (try simp only [Act.put, List.getElem_toArray, List.getElem_cons_succ, List.getElem_cons_zero, List.setIfInBounds_toArray, List.set_cons_zero, List.set_cons_succ]))
  (refine sched_take (v := ?_) rfl (by rfl) (fun W' hS => ?_) ?_; rotate_left; (have d0 := cellOld b0 (hS.block _ (cellLt b0)); have d1 := cellOld b1 (hS.block _ (cellLt b1)); have d2 := cellOld b2 (hS.block _ (cellLt b2)); have d3 := cellOld b3 (hS.block _ (cellLt b3)); have d4 := cellOld b4 (hS.block _ (cellLt b4)); go_simp; with_reducible rfl); (try simp only [Act.put, List.getElem_toArray, List.getElem_cons_succ, List.getElem_cons_zero, List.setIfInBounds_toArray, List.set_cons_zero, List.set_cons_succ]))
  refine sched_end rfl (fun K' hK => ?_)
  go_simp
  refine hK.out _ _ ?_
  clear hK
  refine NoPanic.normal ?_
  have HBf : Hid (Below w.heap.size w Wf) := Lib.hid (below_trans HB1.out HSf.out)
  go_wp2_with fail
  go_ret
  exact ⟨rfl, HBf.out⟩
theorem treeSpec_w {H : Type} {enc : TypeId × Value → H} {w : World} {base : Nat} (v : Value) (d : DataW H) (p : List MemPlace) (h : DataW.Trod enc Try.prog w 0 (fun _ => true) true 22 v d p) (hv : Value.okWide Try.prog w .any base 22 v)
    (v1 : Value) (d1 : DataW H) (p1 : List MemPlace) (h1 : DataW.Trod enc Try.prog w 0 (fun _ => true) true 24 v1 d1 p1) (hv1 : Value.okWide Try.prog w .any base 24 v1) :
    Calls Try.prog 3 #[v, v1] w fun e w' => e = .returned (.bool true) ∧ Below w.heap.size w w' := by
  obtain ⟨l, ht, hl⟩ := placesIn h hv
  obtain ⟨x, rfl, -⟩ := placeIn h1 hv1
  exact treeSpec_walk l v x w ht hl
end Go.Proofs.Ytcflnjmglanneaa
