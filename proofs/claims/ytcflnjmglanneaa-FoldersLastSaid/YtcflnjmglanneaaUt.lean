/- The walk of FoldersLast. -/
import Derived.Test.YtcflnjmglanneaaUs
import Derived.Test.YtcflnjmglanneaaRt
import Derived.Deep.DeepCutAuto
namespace Go.Proofs.Ytcflnjmglanneaa
open Go.RowKit Go.Maps Go.Sort
set_option maxRecDepth 100000
set_option linter.unusedVariables false
set_option linter.unusedSimpArgs false

theorem sched_done {P : Program} {ops : Array Oper} {Q : Exit → Act → World → Prop} {S : World → Prop} {f : Nat} {a : Act} {w : World} (h : Q .normal a w) : wpSched P ops Q S f [] a w := h
theorem lit_far {W w1 w2 : World} {v : Value} {n : Nat} {L : List Value} {x : Pl} {b : Nat} (h : PlAt w1 (.slice (some ⟨b, 0, none⟩) 1 1) [x]) (hown : w1.ownsRow W.heap.size 24 5 v n L) (hg : w1.grownBy w2 v.ownBlock) (hne : ∀ j, v.ownBlock = some j → j ≠ b) : PlAt w2 (.slice (some ⟨b, 0, none⟩) 1 1) [x] := by
  obtain ⟨-, -, h3⟩ := h.cells
  obtain ⟨g, o, e, hc⟩ := h3 (by decide)
  injection e with e
  injection e with e1 e2
  subst e1; subst e2
  have hcell := hc 0 x rfl
  have hlt := cellLt hcell.c0
  have hb : w2.heap[b]? = w1.heap[b]? := hg.block b hlt (fun e => hne b e.symm rfl)
  refine ⟨rfl, some ⟨b, 0, none⟩, 1, rfl, Nat.le_refl _, (fun e => by cases e), fun _ => ⟨b, 0, rfl, fun j u hj => ?_⟩⟩
  have hall := h.all j u hj
  exact cellOld hall hb
set_option maxHeartbeats 40000000 in
theorem last_walk (l : List Pl) (v : Value) (x : Pl) (w : World) (ht : PlAt w v l) (hl : l.length ≤ maxLen) (hI : I64 x.f) :
    Calls Try.prog 9 #[v, x.ev] w fun e w' => e = .returned (.bool true) ∧ Below w.heap.size w w' := by
  obtain ⟨pt, pc, rfl, hc, -⟩ := ht.form
  have hA0 := below_alloc w (.cells x.cells.toArray 24)
  have HX0 := Lib.hid (World.alloc_heap_new w (.cells x.cells.toArray 24))
  obtain ⟨A, hA⟩ : ∃ A, A = w.heap.size := ⟨_, rfl⟩
  obtain ⟨W0, hW0⟩ : ∃ W0, W0 = w.alloc (.cells x.cells.toArray 24) := ⟨_, rfl⟩
  rw [← hW0] at hA0 HX0
  rw [← hA] at HX0
  have HT := Lib.hid (ht.below hA0)
  have HB0 := Lib.hid hA0
  have HXX := Lib.hid (fun W => fcheck_ok x W)
  obtain ⟨n, hn⟩ : ∃ n, n = l.length := ⟨_, rfl⟩
  have HN := Lib.hid hn
  rw [← hn] at HT hl hc ⊢
  have hAl : A < W0.heap.size := (Array.getElem?_eq_some_iff.1 HX0.out).1
  obtain ⟨ck, hck⟩ : ∃ ck, ck = chkP x := ⟨_, rfl⟩
  rw [← hck] at HXX
  have HCK := Lib.hid hck
  obtain ⟨xt, xd, xf, xp, xn⟩ := x
  have HIF : Hid (I64 xf) := Lib.hid hI
  have hW0' : w.alloc (.cells #[.int .i64 xt, .int .i64 xd, .int .i64 xf, .int .i64 xp, .string xn] 24) = W0 := hW0.symm
  unfold Pl.ev at HXX ⊢
  dsimp only at HXX ⊢
  clear ht hA0 hn hck hW0 hI
  go_enter Try.func9, Try.ntmps9
  go_wp2_with fail
  try rw [hW0']
  try rw [← hA]
  clear hW0' hA
  refine (sane_ok W0).mono ?_
  rintro e W1 ⟨rfl, hB⟩
  have HB1 := Lib.hid (below_trans HB0.out hB)
  have HT1 := Lib.hid (HT.out.below hB)
  have HX1 := Lib.hid ((hB.block A hAl).trans HX0.out)
  have hAl1 : A < W1.heap.size := Nat.lt_of_lt_of_le hAl hB.size
  clear hB HB0 HT HX0 hAl
  go_wp2_with fail
  refine (few_ok pt none n pc 0 0 W1 hl (Nat.zero_le _)).mono ?_
  rintro e W2 ⟨rfl, rfl⟩
  by_cases h30 : n ≤ 30
  case neg =>
    rw [decide_eq_false (show ¬ (n ≤ 30 ∧ 0 ≤ 30) from fun h => h30 h.1)]
    clear h30
    go_wp2_with fail
    go_ret
    exact ⟨rfl, HB1.out⟩
  rw [decide_eq_true (show (n ≤ 30 ∧ 0 ≤ 30) from ⟨h30, by decide⟩)]
  obtain ⟨b0, b1, b2, b3, b4⟩ := box_cells HX1.out
  dsimp only at b0 b1 b2 b3 b4
  go_wp2_with fail
  refine (HXX.out W1).mono ?_
  rintro e W2 ⟨rfl, hB⟩
  have HB2 := Lib.hid (below_trans HB1.out hB)
  have HT2 := Lib.hid (HT1.out.below hB)
  have HX2 := Lib.hid ((hB.block A hAl1).trans HX1.out)
  have hAl2 : A < W2.heap.size := Nat.lt_of_lt_of_le hAl1 hB.size
  clear hB HB1 HT1 HX1 hAl1 HXX b0 b1 b2 b3 b4
  by_cases hk : okP ⟨xt, xd, xf, xp, xn⟩
  case neg =>
    obtain rfl : ck = 270 := by rw [HCK.out]; unfold chkP; rw [if_neg hk]
    clear hk
    go_wp2_with fail
    go_ret
    exact ⟨rfl, HB2.out⟩
  obtain rfl : ck = 0 := by rw [HCK.out]; unfold chkP; rw [if_pos hk]
  have HK := Lib.hid hk
  clear hk HCK
  go_wp2_with fail
  go_loopw [5] (fun v5 wr => ∃ k : Nat, v5 = .int .i64 k ∧ k ≤ n ∧ Hid (∀ e ∈ l.take k, e.t < xt) ∧ Hid (Below W2.heap.size W2 wr)) (fun v5 _ => n - (intOf v5).toNat)
  case atStart => exact ⟨0, rfl, Nat.zero_le _, Lib.hid (fun e he => by simp at he), Lib.hid (Below.refl _ _)⟩
  case round =>
    obtain ⟨k, rfl, hkn0, HALL, HBr⟩ := hrel
    by_cases hkn : k < n
    case pos =>
      have hd := decide_eq_true (show ((k : Int) < (n : Int)) by omega)
      have hd' := decide_eq_true hkn
      obtain ⟨e, he, ht1⟩ := take_at (l := l) (j := k) (by rw [← HN.out]; exact hkn)
      obtain ⟨gg, oo, rfl, hcs⟩ := HT2.out.cells.2.2 (by omega)
      obtain ⟨c0, -, -, -, -⟩ := (hcs k e he).below HBr.out
      obtain ⟨b0, b1, b2, b3, b4⟩ := box_cells ((HBr.out.block A hAl2).trans HX2.out)
      have HAL2 : Hid (e.t < xt → ∀ y ∈ l.take (k + 1), y.t < xt) := Lib.hid (fun h y hy => by
        rw [ht1, List.mem_append, List.mem_singleton] at hy
        rcases hy with hy | rfl
        · exact HALL.out y hy
        · exact h)
      obtain ⟨et, ed, ef, ep, en⟩ := e
      dsimp only at c0 b0 b1 b2 b3 b4 HAL2
      have HBf := Lib.hid (below_trans HB2.out HBr.out)
      clear hcs he ht1
      by_cases hge : xt ≤ et
      · have q1 : decide (et ≥ xt) = true := decide_eq_true hge
        have q2 : decide (xt ≤ et) = true := decide_eq_true hge
        clear hge
        go_upto_region 8 with fail
        go_quiet (fail)
        go_wp2_with fail
        go_ret
        exact ⟨rfl, HBf.out.trans ⟨rfl, rfl, rfl, Nat.le_refl _, fun _ _ => rfl⟩⟩
      · have q1 : decide (et ≥ xt) = false := decide_eq_false hge
        have q2 : decide (xt ≤ et) = false := decide_eq_false hge
        have HAL3 := Lib.hid (HAL2.out (by omega))
        clear hge
        go_upto_region 8 with fail
        go_quiet (fail)
        go_wp2_with fail
        exact ⟨⟨k + 1, by go_num, by omega, HAL3, Lib.hid (HBr.out.trans ⟨rfl, rfl, rfl, Nat.le_refl _, fun _ _ => rfl⟩)⟩, by simp only [intOf]; omega⟩
    have hd := decide_eq_false (show ¬ ((k : Int) < (n : Int)) by omega)
    have hd' := decide_eq_false hkn
    have HLT : Hid (∀ e ∈ l, e.t < xt) := Lib.hid (fun e he => HALL.out e (by rw [List.take_of_length_le (by rw [← HN.out]; omega)]; exact he))
    have HB3 := Lib.hid (below_trans HB2.out HBr.out)
    have HT3 := Lib.hid (HT2.out.below HBr.out)
    have HX3 := Lib.hid ((HBr.out.block A hAl2).trans HX2.out)
    have hAl3 : A < wr.heap.size := Nat.lt_of_lt_of_le hAl2 HBr.out.size
    clear HB2 HT2 HX2 hAl2 HALL hkn HBr
    go_wp2_with fail
    refine (tree_ok l (.slice pt n pc) wr HT3.out (by have := HN.out; omega)).mono ?_
    rintro e W4 ⟨ut, rfl, hu, hB⟩
    obtain ⟨pr, cr, hv, -⟩ := (show _ from hu.form)
    obtain ⟨nr, hnr⟩ : ∃ z, z = (treeP l).length := ⟨_, rfl⟩
    have HU4 := Lib.hid hu
    rw [← hnr] at hv
    have HNR := Lib.hid hnr
    subst hv
    have HB4 := Lib.hid (below_trans HB3.out hB)
    have HT4 := Lib.hid (HT3.out.below hB)
    have HX4 := Lib.hid ((hB.block A hAl3).trans HX3.out)
    have hAl4 : A < W4.heap.size := Nat.lt_of_lt_of_le hAl3 hB.size
    clear hB hu hnr HB3 HT3 HX3 hAl3
    go_upto_region 11 with fail
    go_cut [7] (fun v wx => ∃ q c, v = .slice q (treeP (l ++ [⟨xt, xd, xf, xp, xn⟩])).length c ∧ Hid (PlAt wx (.slice q (treeP (l ++ [⟨xt, xd, xf, xp, xn⟩])).length c) (treeP (l ++ [⟨xt, xd, xf, xp, xn⟩]))) ∧ Hid (Below W4.heap.size W4 wx))
    case first =>
      obtain ⟨i0, hi, hz0, hz1, hzb⟩ := info_parts info_place
      obtain ⟨b0, b1, b2, b3, b4⟩ := box_cells HX4.out
      dsimp only at b0 b1 b2 b3 b4
      refine wp_region_noPanic ?_
      refine region_tree (fun W' => Below W4.heap.size W4 W') (.take 1 (.take 3 (.two 0 4 (.two 2 4 (.one 4 (.one 5 (.one 6 (.one 7 .done)))) (.one 2 (.one 5 (.one 6 (.one 7 .done))))) (.one 0 (.one 2 (.one 5 (.one 6 (.one 7 .done)))))))) (by kernel_rfl) (by kernel_rfl) (by kernel_rfl) (by decide) (fun _ _ _ _ h => h) ⟨rfl, rfl, rfl, Nat.le_refl _, fun _ _ => rfl⟩ ?_
      obtain ⟨Wd, hWd⟩ : ∃ W, W = W4.drew := ⟨_, rfl⟩
      have HSd : Hid (Below W4.heap.size W4 Wd) := Lib.hid (by rw [hWd]; exact ⟨rfl, rfl, rfl, Nat.le_refl _, fun _ _ => rfl⟩)
      rw [← hWd]
      clear hWd
      (refine tree_take (v := ?_) rfl (by rfl) (fun W' hS => ?_) ?_; rotate_left; (have d0 := cellOld b0 (hS.block _ (cellLt b0)); have d1 := cellOld b1 (hS.block _ (cellLt b1)); have d2 := cellOld b2 (hS.block _ (cellLt b2)); have d3 := cellOld b3 (hS.block _ (cellLt b3)); have d4 := cellOld b4 (hS.block _ (cellLt b4)); go_simp; with_reducible rfl); (try simp only [Act.put, List.getElem_toArray, List.getElem_cons_succ, List.getElem_cons_zero, List.setIfInBounds_toArray, List.set_cons_zero, List.set_cons_succ]))
      (refine tree_take (v := ?_) rfl (by rfl) (fun W' hS => ?_) ?_; rotate_left; (have d0 := cellOld b0 (hS.block _ (cellLt b0)); have d1 := cellOld b1 (hS.block _ (cellLt b1)); have d2 := cellOld b2 (hS.block _ (cellLt b2)); have d3 := cellOld b3 (hS.block _ (cellLt b3)); have d4 := cellOld b4 (hS.block _ (cellLt b4)); go_simp; with_reducible rfl); (try simp only [Act.put, List.getElem_toArray, List.getElem_cons_succ, List.getElem_cons_zero, List.setIfInBounds_toArray, List.set_cons_zero, List.set_cons_succ]))
      clear b0 b1 b2 b3 b4
      refine tree_two ?_ ?_
      · refine tree_one rfl (fun K' hK => ?_)
        have HO1 := Lib.hid (OwnA.new HSd.out)
        go_simp
        refine hK.out _ _ HO1.out.bel fun _ => ?_
        clear hK
        (try simp only [Act.put, List.getElem_toArray, List.getElem_cons_succ, List.getElem_cons_zero, List.setIfInBounds_toArray, List.set_cons_zero, List.set_cons_succ])
        have HS1 : Hid (Below W4.heap.size W4 (Wd.alloc (.cells #[] 24))) := Lib.hid HO1.out.bel
        try simp only [World.size_alloc] at HO1
        refine tree_two ?_ ?_
        · refine tree_one rfl (fun K' hK => ?_)
          split
          rotate_left
          · rename_i h; exact absurd (by rfl) h
          refine wp_append_row _ _ 22 rfl _ 24 i0 (.agg #[.int .i64 0, .int .i64 0, .int .i64 0, .int .i64 0, .string ⟨#[]⟩]) 5 48 Try.underlying22 hi hz0 hz1 hzb rfl (by decide) _ _ _ rfl HO1.out.own _ _ _ rfl (show RowAt _ _ 5 _ (cellsP _) from (HT4.out.below HS1.out)) (cells_all _) (by have := HN.out; simp only [List.length_append, List.length_nil, List.length_cons, List.length_singleton]; unfold maxLen; omega) (by have := HN.out; simp only [List.length_append, List.length_nil, List.length_cons, List.length_singleton]; omega) HO1.out.bel.size ?_
          intro v2 w2 hown hg
          have HO2 := Lib.hid (HO1.out.app hown hg)
          have HS2 : Hid (Below W4.heap.size W4 w2) := Lib.hid HO2.out.bel
          clear hown hg
          refine hK.out _ _ HS2.out fun _ => ?_
          clear hK
          (try simp only [Act.put, List.getElem_toArray, List.getElem_cons_succ, List.getElem_cons_zero, List.setIfInBounds_toArray, List.set_cons_zero, List.set_cons_succ])
          refine tree_one rfl (fun K' hK => ?_)
          have HL3 : Hid (PlAt _ _ [⟨xt, xd, xf, xp, xn⟩]) := Lib.hid (lit_place w2 ⟨xt, xd, xf, xp, xn⟩)
          have HS3 : Hid (Below W4.heap.size W4 (w2.alloc (.cells (Pl.cells ⟨xt, xd, xf, xp, xn⟩).toArray 24))) := Lib.hid (HS2.out.trans ((below_alloc w2 (.cells (Pl.cells ⟨xt, xd, xf, xp, xn⟩).toArray 24)).mono HS2.out.size))
          go_simp
          refine hK.out _ _ HS3.out fun _ => ?_
          clear hK
          (try simp only [Act.put, List.getElem_toArray, List.getElem_cons_succ, List.getElem_cons_zero, List.setIfInBounds_toArray, List.set_cons_zero, List.set_cons_succ])
          have HO3 := Lib.hid (HO2.out.below (below_alloc w2 (.cells (Pl.cells ⟨xt, xd, xf, xp, xn⟩).toArray 24)))
          try simp only [World.size_alloc] at HO3
          try simp only [World.size_alloc] at HL3
          refine tree_one rfl (fun K' hK => ?_)
          split
          rotate_left
          · rename_i h; exact absurd (by rfl) h
          refine wp_append_row _ _ 22 rfl _ 24 i0 (.agg #[.int .i64 0, .int .i64 0, .int .i64 0, .int .i64 0, .string ⟨#[]⟩]) 5 48 Try.underlying22 hi hz0 hz1 hzb rfl (by decide) _ _ _ rfl HO3.out.own _ _ _ rfl (show RowAt _ _ 5 _ (cellsP _) from HL3.out) (cells_all _) (by have := HN.out; simp only [List.length_append, List.length_nil, List.length_cons, List.length_singleton]; unfold maxLen; omega) (by have := HN.out; simp only [List.length_append, List.length_nil, List.length_cons, List.length_singleton]; omega) HO3.out.bel.size ?_
          intro v4 w4 hown hg
          have HO4 := Lib.hid (HO3.out.app hown hg)
          have HS4 : Hid (Below W4.heap.size W4 w4) := Lib.hid HO4.out.bel
          clear hown hg
          refine hK.out _ _ HS4.out fun _ => ?_
          clear hK
          (try simp only [Act.put, List.getElem_toArray, List.getElem_cons_succ, List.getElem_cons_zero, List.setIfInBounds_toArray, List.set_cons_zero, List.set_cons_succ])
          refine tree_one rfl (fun K' hK => ?_)
          go_simp
          refine (tree_ok _ v4 w4 HO4.out.at (by have := HN.out; simp only [List.length_append, List.length_nil, List.length_cons, List.length_singleton]; omega)).mono ?_
          rintro e w5 ⟨u5, rfl, hu, hB⟩
          have HU5 := Lib.hid hu
          have HS5 : Hid (Below W4.heap.size W4 w5) := Lib.hid (HS4.out.trans (hB.mono HS4.out.size))
          clear hu hB
          refine hK.out _ _ HS5.out fun _ => ?_
          clear hK
          (try simp only [Act.put, List.getElem_toArray, List.getElem_cons_succ, List.getElem_cons_zero, List.setIfInBounds_toArray, List.set_cons_zero, List.set_cons_succ])
          refine tree_one rfl (fun K' hK => ?_)
          go_simp
          refine hK.out _ _ HS5.out fun _ => ?_
          clear hK
          (try simp only [Act.put, List.getElem_toArray, List.getElem_cons_succ, List.getElem_cons_zero, List.setIfInBounds_toArray, List.set_cons_zero, List.set_cons_succ])
          refine NoPanic.normal ?_
          go_wp2_with fail
          go_meet
          obtain ⟨q, c, e, -⟩ := (show _ from HU5.out.form)
          subst e
          exact ⟨q, c, rfl, HU5, HS5⟩
        · refine tree_one rfl (fun K' hK => ?_)
          have HL7 : Hid (PlAt _ _ [⟨xt, xd, xf, xp, xn⟩]) := Lib.hid (lit_place (Wd.alloc (.cells #[] 24)) ⟨xt, xd, xf, xp, xn⟩)
          have HS7 : Hid (Below W4.heap.size W4 ((Wd.alloc (.cells #[] 24)).alloc (.cells (Pl.cells ⟨xt, xd, xf, xp, xn⟩).toArray 24))) := Lib.hid (HS1.out.trans ((below_alloc (Wd.alloc (.cells #[] 24)) (.cells (Pl.cells ⟨xt, xd, xf, xp, xn⟩).toArray 24)).mono HS1.out.size))
          go_simp
          refine hK.out _ _ HS7.out fun _ => ?_
          clear hK
          (try simp only [Act.put, List.getElem_toArray, List.getElem_cons_succ, List.getElem_cons_zero, List.setIfInBounds_toArray, List.set_cons_zero, List.set_cons_succ])
          have HO7 := Lib.hid (HO1.out.below (below_alloc (Wd.alloc (.cells #[] 24)) (.cells (Pl.cells ⟨xt, xd, xf, xp, xn⟩).toArray 24)))
          try simp only [World.size_alloc] at HO7
          try simp only [World.size_alloc] at HL7
          refine tree_one rfl (fun K' hK => ?_)
          split
          rotate_left
          · rename_i h; exact absurd (by rfl) h
          refine wp_append_row _ _ 22 rfl _ 24 i0 (.agg #[.int .i64 0, .int .i64 0, .int .i64 0, .int .i64 0, .string ⟨#[]⟩]) 5 48 Try.underlying22 hi hz0 hz1 hzb rfl (by decide) _ _ _ rfl HO7.out.own _ _ _ rfl (show RowAt _ _ 5 _ (cellsP _) from (HT4.out.below HS7.out)) (cells_all _) (by have := HN.out; simp only [List.length_append, List.length_nil, List.length_cons, List.length_singleton]; unfold maxLen; omega) (by have := HN.out; simp only [List.length_append, List.length_nil, List.length_cons, List.length_singleton]; omega) HO7.out.bel.size ?_
          intro v8 w8 hown hg
          have HO8 := Lib.hid (HO7.out.app hown hg)
          have HS8 : Hid (Below W4.heap.size W4 w8) := Lib.hid HO8.out.bel
          have HL8 : Hid (PlAt w8 _ [⟨xt, xd, xf, xp, xn⟩]) := Lib.hid (lit_far HL7.out HO7.out.own hg (fun j e => by have e2 := Option.some.inj e; dsimp only at e2; omega))
          clear hown hg
          refine hK.out _ _ HS8.out fun _ => ?_
          clear hK
          (try simp only [Act.put, List.getElem_toArray, List.getElem_cons_succ, List.getElem_cons_zero, List.setIfInBounds_toArray, List.set_cons_zero, List.set_cons_succ])
          refine tree_one rfl (fun K' hK => ?_)
          split
          rotate_left
          · rename_i h; exact absurd (by rfl) h
          refine wp_append_row _ _ 22 rfl _ 24 i0 (.agg #[.int .i64 0, .int .i64 0, .int .i64 0, .int .i64 0, .string ⟨#[]⟩]) 5 48 Try.underlying22 hi hz0 hz1 hzb rfl (by decide) _ _ _ rfl HO8.out.own _ _ _ rfl (show RowAt _ _ 5 _ (cellsP _) from HL8.out) (cells_all _) (by have := HN.out; simp only [List.length_append, List.length_nil, List.length_cons, List.length_singleton]; unfold maxLen; omega) (by have := HN.out; simp only [List.length_append, List.length_nil, List.length_cons, List.length_singleton]; omega) HO8.out.bel.size ?_
          intro v9 w9 hown hg
          have HO9 := Lib.hid (HO8.out.app hown hg)
          have HS9 : Hid (Below W4.heap.size W4 w9) := Lib.hid HO9.out.bel
          clear hown hg
          refine hK.out _ _ HS9.out fun _ => ?_
          clear hK
          (try simp only [Act.put, List.getElem_toArray, List.getElem_cons_succ, List.getElem_cons_zero, List.setIfInBounds_toArray, List.set_cons_zero, List.set_cons_succ])
          refine tree_one rfl (fun K' hK => ?_)
          go_simp
          refine (tree_ok _ v9 w9 HO9.out.at (by have := HN.out; simp only [List.length_append, List.length_nil, List.length_cons, List.length_singleton]; omega)).mono ?_
          rintro e w10 ⟨u10, rfl, hu, hB⟩
          have HU10 := Lib.hid hu
          have HS10 : Hid (Below W4.heap.size W4 w10) := Lib.hid (HS9.out.trans (hB.mono HS9.out.size))
          clear hu hB
          refine hK.out _ _ HS10.out fun _ => ?_
          clear hK
          (try simp only [Act.put, List.getElem_toArray, List.getElem_cons_succ, List.getElem_cons_zero, List.setIfInBounds_toArray, List.set_cons_zero, List.set_cons_succ])
          refine tree_one rfl (fun K' hK => ?_)
          go_simp
          refine hK.out _ _ HS10.out fun _ => ?_
          clear hK
          (try simp only [Act.put, List.getElem_toArray, List.getElem_cons_succ, List.getElem_cons_zero, List.setIfInBounds_toArray, List.set_cons_zero, List.set_cons_succ])
          refine NoPanic.normal ?_
          go_wp2_with fail
          go_meet
          obtain ⟨q, c, e, -⟩ := (show _ from HU10.out.form)
          subst e
          exact ⟨q, c, rfl, HU10, HS10⟩
      · refine tree_one rfl (fun K' hK => ?_)
        have HL12 : Hid (PlAt _ _ [⟨xt, xd, xf, xp, xn⟩]) := Lib.hid (lit_place Wd ⟨xt, xd, xf, xp, xn⟩)
        have HS12 : Hid (Below W4.heap.size W4 (Wd.alloc (.cells (Pl.cells ⟨xt, xd, xf, xp, xn⟩).toArray 24))) := Lib.hid (HSd.out.trans ((below_alloc Wd (.cells (Pl.cells ⟨xt, xd, xf, xp, xn⟩).toArray 24)).mono HSd.out.size))
        go_simp
        refine hK.out _ _ HS12.out fun _ => ?_
        clear hK
        (try simp only [Act.put, List.getElem_toArray, List.getElem_cons_succ, List.getElem_cons_zero, List.setIfInBounds_toArray, List.set_cons_zero, List.set_cons_succ])
        try simp only [World.size_alloc] at HL12
        refine tree_one rfl (fun K' hK => ?_)
        have HO13 := Lib.hid (OwnA.new HS12.out)
        go_simp
        refine hK.out _ _ HO13.out.bel fun _ => ?_
        clear hK
        (try simp only [Act.put, List.getElem_toArray, List.getElem_cons_succ, List.getElem_cons_zero, List.setIfInBounds_toArray, List.set_cons_zero, List.set_cons_succ])
        have HS13 : Hid (Below W4.heap.size W4 ((Wd.alloc (.cells (Pl.cells ⟨xt, xd, xf, xp, xn⟩).toArray 24)).alloc (.cells #[] 24))) := Lib.hid HO13.out.bel
        have HL13 := Lib.hid (HL12.out.below (below_alloc (Wd.alloc (.cells (Pl.cells ⟨xt, xd, xf, xp, xn⟩).toArray 24)) (.cells #[] 24)))
        try simp only [World.size_alloc] at HO13
        try simp only [World.size_alloc] at HL13
        refine tree_one rfl (fun K' hK => ?_)
        split
        rotate_left
        · rename_i h; exact absurd (by rfl) h
        refine wp_append_row _ _ 22 rfl _ 24 i0 (.agg #[.int .i64 0, .int .i64 0, .int .i64 0, .int .i64 0, .string ⟨#[]⟩]) 5 48 Try.underlying22 hi hz0 hz1 hzb rfl (by decide) _ _ _ rfl HO13.out.own _ _ _ rfl (show RowAt _ _ 5 _ (cellsP _) from (HT4.out.below HS13.out)) (cells_all _) (by have := HN.out; simp only [List.length_append, List.length_nil, List.length_cons, List.length_singleton]; unfold maxLen; omega) (by have := HN.out; simp only [List.length_append, List.length_nil, List.length_cons, List.length_singleton]; omega) HO13.out.bel.size ?_
        intro v14 w14 hown hg
        have HO14 := Lib.hid (HO13.out.app hown hg)
        have HS14 : Hid (Below W4.heap.size W4 w14) := Lib.hid HO14.out.bel
        have HL14 : Hid (PlAt w14 _ [⟨xt, xd, xf, xp, xn⟩]) := Lib.hid (lit_far HL13.out HO13.out.own hg (fun j e => by have e2 := Option.some.inj e; dsimp only at e2; omega))
        clear hown hg
        refine hK.out _ _ HS14.out fun _ => ?_
        clear hK
        (try simp only [Act.put, List.getElem_toArray, List.getElem_cons_succ, List.getElem_cons_zero, List.setIfInBounds_toArray, List.set_cons_zero, List.set_cons_succ])
        refine tree_one rfl (fun K' hK => ?_)
        split
        rotate_left
        · rename_i h; exact absurd (by rfl) h
        refine wp_append_row _ _ 22 rfl _ 24 i0 (.agg #[.int .i64 0, .int .i64 0, .int .i64 0, .int .i64 0, .string ⟨#[]⟩]) 5 48 Try.underlying22 hi hz0 hz1 hzb rfl (by decide) _ _ _ rfl HO14.out.own _ _ _ rfl (show RowAt _ _ 5 _ (cellsP _) from HL14.out) (cells_all _) (by have := HN.out; simp only [List.length_append, List.length_nil, List.length_cons, List.length_singleton]; unfold maxLen; omega) (by have := HN.out; simp only [List.length_append, List.length_nil, List.length_cons, List.length_singleton]; omega) HO14.out.bel.size ?_
        intro v15 w15 hown hg
        have HO15 := Lib.hid (HO14.out.app hown hg)
        have HS15 : Hid (Below W4.heap.size W4 w15) := Lib.hid HO15.out.bel
        clear hown hg
        refine hK.out _ _ HS15.out fun _ => ?_
        clear hK
        (try simp only [Act.put, List.getElem_toArray, List.getElem_cons_succ, List.getElem_cons_zero, List.setIfInBounds_toArray, List.set_cons_zero, List.set_cons_succ])
        refine tree_one rfl (fun K' hK => ?_)
        go_simp
        refine (tree_ok _ v15 w15 HO15.out.at (by have := HN.out; simp only [List.length_append, List.length_nil, List.length_cons, List.length_singleton]; omega)).mono ?_
        rintro e w16 ⟨u16, rfl, hu, hB⟩
        have HU16 := Lib.hid hu
        have HS16 : Hid (Below W4.heap.size W4 w16) := Lib.hid (HS15.out.trans (hB.mono HS15.out.size))
        clear hu hB
        refine hK.out _ _ HS16.out fun _ => ?_
        clear hK
        (try simp only [Act.put, List.getElem_toArray, List.getElem_cons_succ, List.getElem_cons_zero, List.setIfInBounds_toArray, List.set_cons_zero, List.set_cons_succ])
        refine tree_one rfl (fun K' hK => ?_)
        go_simp
        refine hK.out _ _ HS16.out fun _ => ?_
        clear hK
        (try simp only [Act.put, List.getElem_toArray, List.getElem_cons_succ, List.getElem_cons_zero, List.setIfInBounds_toArray, List.set_cons_zero, List.set_cons_succ])
        refine NoPanic.normal ?_
        go_wp2_with fail
        go_meet
        obtain ⟨q, c, e, -⟩ := (show _ from HU16.out.form)
        subst e
        exact ⟨q, c, rfl, HU16, HS16⟩
    obtain ⟨q, c, rfl, HU5, HB5'⟩ := hcut
    obtain ⟨T2, hT2⟩ : ∃ T2, T2 = treeP (l ++ [⟨xt, xd, xf, xp, xn⟩]) := ⟨_, rfl⟩
    rw [← hT2] at HU5 ⊢
    have HD2 : Hid (T2 = stepT (treeP l) ⟨xt, xd, xf, xp, xn⟩) := Lib.hid (hT2.trans (last_step HK.out HLT.out))
    have HD3 : Hid (T2.length ≤ 16) := Lib.hid (by rw [hT2]; exact treeP_few _)
    clear hT2
    obtain ⟨n2, hn2⟩ : ∃ n2, n2 = T2.length := ⟨_, rfl⟩
    rw [← hn2] at HU5 HD3 ⊢
    have HN2 := Lib.hid hn2
    clear hn2
    have HB5 := Lib.hid (below_trans HB4.out HB5'.out)
    have HT5 := Lib.hid (HT4.out.below HB5'.out)
    have HU45 := Lib.hid (HU4.out.below HB5'.out)
    have HX5 := Lib.hid ((HB5'.out.block A hAl4).trans HX4.out)
    have hAl5 : A < wc.heap.size := Nat.lt_of_lt_of_le hAl4 HB5'.out.size
    clear HB4 HT4 HU4 HX4 hAl4 HB5'
    obtain ⟨L, hF⟩ := treeP_frst l
    have HF := Lib.hid hF
    clear hF
    have hpl := place_held
    have hpg := place_guard
    have h216 := HD3.out
    go_wp2_with fail
    go_loopw [8, 9] (fun v8 v9 wr => ∃ (k : Nat) (ex : Bool), v8 = .bool ex ∧ v9 = .int .i64 k ∧ k ≤ n2 ∧ Hid (ex = decide ((⟨xt, xd, xf, xp, xn⟩ : Pl) ∈ T2.take k)) ∧ Hid (Below wc.heap.size wc wr)) (fun _ v9 _ => n2 - (intOf v9).toNat)
    case atStart => exact ⟨0, false, rfl, rfl, Nat.zero_le _, Lib.hid (by simp), Lib.hid (Below.refl _ _)⟩
    case round =>
      obtain ⟨k, ex, rfl, rfl, hkn0, HE, HBr⟩ := hrel
      by_cases hkn : k < n2
      case pos =>
        have hd := decide_eq_true (show ((k : Int) < (n2 : Int)) by omega)
        have hd' := decide_eq_true hkn
        obtain ⟨e, he, ht1⟩ := take_at (l := T2) (j := k) (by rw [← HN2.out]; exact hkn)
        obtain ⟨gg, oo, rfl, hcs⟩ := HU5.out.cells.2.2 (by omega)
        obtain ⟨c0, c1, c2, c3, c4⟩ := (hcs k e he).below HBr.out
        obtain ⟨b0, b1, b2, b3, b4⟩ := box_cells ((HBr.out.block A hAl5).trans HX5.out)
        have HE2 := Lib.hid (take_mem (e := (⟨xt, xd, xf, xp, xn⟩ : Pl)) ht1)
        obtain ⟨et, ed, ef, ep, en⟩ := e
        dsimp only at c0 c1 c2 c3 c4 b0 b1 b2 b3 b4
        rw [← HE.out] at HE2
        clear hcs he ht1 HE
        cases ex with
        | true =>
          have HE3 : Hid (true = decide ((⟨xt, xd, xf, xp, xn⟩ : Pl) ∈ T2.take (k + 1))) := Lib.hid (by rw [HE2.out]; rfl)
          go_upto_region 16 with fail
          go_quiet (fail)
          go_wp2_with fail
          exact ⟨⟨k + 1, true, rfl, by go_num, by omega, HE3, Lib.hid (HBr.out.trans ⟨rfl, rfl, rfl, Nat.le_refl _, fun _ _ => rfl⟩)⟩, by simp only [intOf]; omega⟩
        | false =>
          by_cases ht : et = xt
          case neg =>
            have he1 : (et == xt) = false := by simpa using ht
            have he2 : decide (et = xt) = false := by simpa using ht
            have HE3 : Hid (false = decide ((⟨xt, xd, xf, xp, xn⟩ : Pl) ∈ T2.take (k + 1))) := Lib.hid (by rw [HE2.out, decide_eq_false (fun hh => ht (by cases hh; rfl))]; rfl)
            clear ht
            go_upto_region 16 with fail
            go_quiet (fail)
            go_wp2_with fail
            exact ⟨⟨k + 1, false, rfl, by go_num, by omega, HE3, Lib.hid (HBr.out.trans ⟨rfl, rfl, rfl, Nat.le_refl _, fun _ _ => rfl⟩)⟩, by simp only [intOf]; omega⟩
          have ht' := ht.symm
          clear ht
          subst ht'
          by_cases hd : ed = xd
          case neg =>
            have he1 : (ed == xd) = false := by simpa using hd
            have he2 : decide (ed = xd) = false := by simpa using hd
            have HE3 : Hid (false = decide ((⟨xt, xd, xf, xp, xn⟩ : Pl) ∈ T2.take (k + 1))) := Lib.hid (by rw [HE2.out, decide_eq_false (fun hh => hd (by cases hh; rfl))]; rfl)
            clear hd
            go_upto_region 16 with fail
            go_quiet (fail)
            go_wp2_with fail
            exact ⟨⟨k + 1, false, rfl, by go_num, by omega, HE3, Lib.hid (HBr.out.trans ⟨rfl, rfl, rfl, Nat.le_refl _, fun _ _ => rfl⟩)⟩, by simp only [intOf]; omega⟩
          have hd' := hd.symm
          clear hd
          subst hd'
          by_cases hf : ef = xf
          case neg =>
            have he1 : (ef == xf) = false := by simpa using hf
            have he2 : decide (ef = xf) = false := by simpa using hf
            have HE3 : Hid (false = decide ((⟨xt, xd, xf, xp, xn⟩ : Pl) ∈ T2.take (k + 1))) := Lib.hid (by rw [HE2.out, decide_eq_false (fun hh => hf (by cases hh; rfl))]; rfl)
            clear hf
            go_upto_region 16 with fail
            go_quiet (fail)
            go_wp2_with fail
            exact ⟨⟨k + 1, false, rfl, by go_num, by omega, HE3, Lib.hid (HBr.out.trans ⟨rfl, rfl, rfl, Nat.le_refl _, fun _ _ => rfl⟩)⟩, by simp only [intOf]; omega⟩
          have hf' := hf.symm
          clear hf
          subst hf'
          by_cases hp : ep = xp
          case neg =>
            have he1 : (ep == xp) = false := by simpa using hp
            have he2 : decide (ep = xp) = false := by simpa using hp
            have HE3 : Hid (false = decide ((⟨xt, xd, xf, xp, xn⟩ : Pl) ∈ T2.take (k + 1))) := Lib.hid (by rw [HE2.out, decide_eq_false (fun hh => hp (by cases hh; rfl))]; rfl)
            clear hp
            go_upto_region 16 with fail
            go_quiet (fail)
            go_wp2_with fail
            exact ⟨⟨k + 1, false, rfl, by go_num, by omega, HE3, Lib.hid (HBr.out.trans ⟨rfl, rfl, rfl, Nat.le_refl _, fun _ _ => rfl⟩)⟩, by simp only [intOf]; omega⟩
          have hp' := hp.symm
          clear hp
          subst hp'
          by_cases hn : en = xn
          case neg =>
            have he0 : ¬ en.toList = xn.toList := fun h => hn (bytes_toList.1 h)
            have he1 : (en.toList == xn.toList) = false := by simpa using he0
            have he2 : decide (en.toList = xn.toList) = false := by simpa using he0
            have HE3 : Hid (false = decide ((⟨xt, xd, xf, xp, xn⟩ : Pl) ∈ T2.take (k + 1))) := Lib.hid (by rw [HE2.out, decide_eq_false (fun hh => hn (by cases hh; rfl))]; rfl)
            clear hn
            go_upto_region 16 with fail
            go_quiet (fail)
            go_wp2_with fail
            exact ⟨⟨k + 1, false, rfl, by go_num, by omega, HE3, Lib.hid (HBr.out.trans ⟨rfl, rfl, rfl, Nat.le_refl _, fun _ _ => rfl⟩)⟩, by simp only [intOf]; omega⟩
          have hn' := hn.symm
          clear hn
          subst hn'
          have HE3 : Hid (true = decide ((⟨xt, xd, xf, xp, xn⟩ : Pl) ∈ T2.take (k + 1))) := Lib.hid (by rw [HE2.out, decide_eq_true rfl]; rfl)
          go_upto_region 16 with fail
          go_quiet (fail)
          go_wp2_with fail
          exact ⟨⟨k + 1, true, rfl, by go_num, by omega, HE3, Lib.hid (HBr.out.trans ⟨rfl, rfl, rfl, Nat.le_refl _, fun _ _ => rfl⟩)⟩, by simp only [intOf]; omega⟩
      have hd := decide_eq_false (show ¬ ((k : Int) < (n2 : Int)) by omega)
      have hd' := decide_eq_false hkn
      have HEX : Hid (ex = (putT (treeP l) ⟨xt, xd, xf, xp, xn⟩).isSome) := Lib.hid (by
        rw [HE.out, List.take_of_length_le (by rw [← HN2.out]; omega), HD2.out]
        exact eff_in HF.out.sort (last_new HLT.out))
      have HB6 := Lib.hid (below_trans HB5.out HBr.out)
      have HT6 := Lib.hid (HT5.out.below HBr.out)
      have HU46 := Lib.hid (HU45.out.below HBr.out)
      have HU56 := Lib.hid (HU5.out.below HBr.out)
      have HX6 := Lib.hid ((HBr.out.block A hAl5).trans HX5.out)
      have hAl6 : A < wr.heap.size := Nat.lt_of_lt_of_le hAl5 HBr.out.size
      clear HB5 HT5 HU45 HU5 HX5 hAl5 HBr HE hkn hkn0
      obtain ⟨b0, b1, b2, b3, b4⟩ := box_cells HX6.out
      dsimp only at b0 b1 b2 b3 b4
      cases ex with
      | false =>
        have HT2T : Hid (T2 = treeP l) := Lib.hid (by rw [HD2.out]; exact eff_none HEX.out.symm)
        clear b0 b1 b2 b3 b4
        by_cases hb : xp ∈ belowT (treeP l) xf
        case pos =>
          have HHB : Hid (decide (xp ∈ belowT (treeP l) xf) = true) := Lib.hid (decide_eq_true hb)
          clear hb
          by_cases hq : xp = xf
          case pos =>
            have hq1 : (xp == xf) = true := by simpa using hq
            have hq2 : decide (xp = xf) = true := decide_eq_true hq
            clear hq
            go_upto_region 17 with fail
            obtain ⟨b0, b1, b2, b3, b4⟩ := box_cells HX6.out
            dsimp only at b0 b1 b2 b3 b4
            refine wp_region_noPanic ?_
            refine region_sched (fun W' => Below wr.heap.size wr W') 100 [(0, true), (1, true), (2, true), (4, true), (5, true), (3, false), (6, false), (7, true), (8, true), (9, true), (10, true), (11, true), (12, true), (13, true), (14, true), (15, true), (16, true), (17, true), (18, true), (19, true), (20, true), (21, true), (22, true), (23, true), (24, false), (25, true), (26, true)] (by kernel_rfl) (by kernel_rfl) (by kernel_rfl) rfl (fun _ _ _ _ h => h) ⟨rfl, rfl, rfl, Nat.le_refl _, fun _ _ => rfl⟩ ?_
            obtain ⟨Wd, hWd⟩ : ∃ W, W = wr.drew := ⟨_, rfl⟩
            have HSd : Hid (Below wr.heap.size wr Wd) := Lib.hid (by rw [hWd]; exact ⟨rfl, rfl, rfl, Nat.le_refl _, fun _ _ => rfl⟩)
            rw [← hWd]
            clear hWd
            (refine sched_take (v := ?_) rfl (by rfl) (fun W' hS => ?_) ?_; rotate_left; (have d0 := cellOld b0 (hS.block _ (cellLt b0)); have d1 := cellOld b1 (hS.block _ (cellLt b1)); have d2 := cellOld b2 (hS.block _ (cellLt b2)); have d3 := cellOld b3 (hS.block _ (cellLt b3)); have d4 := cellOld b4 (hS.block _ (cellLt b4)); go_simp; with_reducible rfl); (try simp only [Act.put, List.getElem_toArray, List.getElem_cons_succ, List.getElem_cons_zero, List.setIfInBounds_toArray, List.set_cons_zero, List.set_cons_succ]))
            (refine sched_take (v := ?_) rfl (by rfl) (fun W' hS => ?_) ?_; rotate_left; (have d0 := cellOld b0 (hS.block _ (cellLt b0)); have d1 := cellOld b1 (hS.block _ (cellLt b1)); have d2 := cellOld b2 (hS.block _ (cellLt b2)); have d3 := cellOld b3 (hS.block _ (cellLt b3)); have d4 := cellOld b4 (hS.block _ (cellLt b4)); go_simp; with_reducible rfl); (try simp only [Act.put, List.getElem_toArray, List.getElem_cons_succ, List.getElem_cons_zero, List.setIfInBounds_toArray, List.set_cons_zero, List.set_cons_succ]))
            (refine sched_take (v := ?_) rfl (by rfl) (fun W' hS => ?_) ?_; rotate_left; (have d0 := cellOld b0 (hS.block _ (cellLt b0)); have d1 := cellOld b1 (hS.block _ (cellLt b1)); have d2 := cellOld b2 (hS.block _ (cellLt b2)); have d3 := cellOld b3 (hS.block _ (cellLt b3)); have d4 := cellOld b4 (hS.block _ (cellLt b4)); go_simp; with_reducible rfl); (try simp only [Act.put, List.getElem_toArray, List.getElem_cons_succ, List.getElem_cons_zero, List.setIfInBounds_toArray, List.set_cons_zero, List.set_cons_succ]))
            (refine sched_take (v := ?_) rfl (by rfl) (fun W' hS => ?_) ?_; rotate_left; (have d0 := cellOld b0 (hS.block _ (cellLt b0)); have d1 := cellOld b1 (hS.block _ (cellLt b1)); have d2 := cellOld b2 (hS.block _ (cellLt b2)); have d3 := cellOld b3 (hS.block _ (cellLt b3)); have d4 := cellOld b4 (hS.block _ (cellLt b4)); go_simp; with_reducible rfl); (try simp only [Act.put, List.getElem_toArray, List.getElem_cons_succ, List.getElem_cons_zero, List.setIfInBounds_toArray, List.set_cons_zero, List.set_cons_succ]))
            (refine sched_take (v := ?_) rfl (by rfl) (fun W' hS => ?_) ?_; rotate_left; (have d0 := cellOld b0 (hS.block _ (cellLt b0)); have d1 := cellOld b1 (hS.block _ (cellLt b1)); have d2 := cellOld b2 (hS.block _ (cellLt b2)); have d3 := cellOld b3 (hS.block _ (cellLt b3)); have d4 := cellOld b4 (hS.block _ (cellLt b4)); go_simp; with_reducible rfl); (try simp only [Act.put, List.getElem_toArray, List.getElem_cons_succ, List.getElem_cons_zero, List.setIfInBounds_toArray, List.set_cons_zero, List.set_cons_succ]))
            refine sched_do rfl (fun K' hK => ?_)
            go_simp
            refine (below_ok l (.slice pt n pc) xf Wd (HT6.out.below HSd.out) (by have := HN.out; omega) HIF.out).mono ?_
            rintro e w18 ⟨ub, rfl, hu, hB⟩
            have HS18 : Hid (Below wr.heap.size wr w18) := Lib.hid (HSd.out.trans (hB.mono HSd.out.size))
            have HUB := Lib.hid hu
            clear hu
            clear hB
            refine hK.out _ _ HS18.out fun _ => ?_
            clear hK
            (try simp only [Act.put, List.getElem_toArray, List.getElem_cons_succ, List.getElem_cons_zero, List.setIfInBounds_toArray, List.set_cons_zero, List.set_cons_succ])
            refine sched_do rfl (fun K' hK => ?_)
            go_simp
            refine (has_ok (belowT (treeP l) xf) ub xp w18 HUB.out (belowT_few2 l xf)).mono ?_
            rintro e w19 ⟨rfl, hB⟩
            have HS19 : Hid (Below wr.heap.size wr w19) := Lib.hid (HS18.out.trans (hB.mono HS18.out.size))
            rw [HHB.out]
            clear hB
            refine hK.out _ _ HS19.out fun _ => ?_
            clear hK
            (try simp only [Act.put, List.getElem_toArray, List.getElem_cons_succ, List.getElem_cons_zero, List.setIfInBounds_toArray, List.set_cons_zero, List.set_cons_succ])
            (refine sched_take (v := ?_) rfl (by rfl) (fun W' hS => ?_) ?_; rotate_left; (have d0 := cellOld b0 (hS.block _ (cellLt b0)); have d1 := cellOld b1 (hS.block _ (cellLt b1)); have d2 := cellOld b2 (hS.block _ (cellLt b2)); have d3 := cellOld b3 (hS.block _ (cellLt b3)); have d4 := cellOld b4 (hS.block _ (cellLt b4)); go_simp; with_reducible rfl); (try simp only [Act.put, List.getElem_toArray, List.getElem_cons_succ, List.getElem_cons_zero, List.setIfInBounds_toArray, List.set_cons_zero, List.set_cons_succ]))
            (refine sched_take (v := ?_) rfl (by rfl) (fun W' hS => ?_) ?_; rotate_left; (have d0 := cellOld b0 (hS.block _ (cellLt b0)); have d1 := cellOld b1 (hS.block _ (cellLt b1)); have d2 := cellOld b2 (hS.block _ (cellLt b2)); have d3 := cellOld b3 (hS.block _ (cellLt b3)); have d4 := cellOld b4 (hS.block _ (cellLt b4)); go_simp; with_reducible rfl); (try simp only [Act.put, List.getElem_toArray, List.getElem_cons_succ, List.getElem_cons_zero, List.setIfInBounds_toArray, List.set_cons_zero, List.set_cons_succ]))
            (refine sched_take (v := ?_) rfl (by rfl) (fun W' hS => ?_) ?_; rotate_left; (have d0 := cellOld b0 (hS.block _ (cellLt b0)); have d1 := cellOld b1 (hS.block _ (cellLt b1)); have d2 := cellOld b2 (hS.block _ (cellLt b2)); have d3 := cellOld b3 (hS.block _ (cellLt b3)); have d4 := cellOld b4 (hS.block _ (cellLt b4)); go_simp; with_reducible rfl); (try simp only [Act.put, List.getElem_toArray, List.getElem_cons_succ, List.getElem_cons_zero, List.setIfInBounds_toArray, List.set_cons_zero, List.set_cons_succ]))
            (refine sched_take (v := ?_) rfl (by rfl) (fun W' hS => ?_) ?_; rotate_left; (have d0 := cellOld b0 (hS.block _ (cellLt b0)); have d1 := cellOld b1 (hS.block _ (cellLt b1)); have d2 := cellOld b2 (hS.block _ (cellLt b2)); have d3 := cellOld b3 (hS.block _ (cellLt b3)); have d4 := cellOld b4 (hS.block _ (cellLt b4)); go_simp; with_reducible rfl); (try simp only [Act.put, List.getElem_toArray, List.getElem_cons_succ, List.getElem_cons_zero, List.setIfInBounds_toArray, List.set_cons_zero, List.set_cons_succ]))
            (refine sched_take (v := ?_) rfl (by rfl) (fun W' hS => ?_) ?_; rotate_left; (have d0 := cellOld b0 (hS.block _ (cellLt b0)); have d1 := cellOld b1 (hS.block _ (cellLt b1)); have d2 := cellOld b2 (hS.block _ (cellLt b2)); have d3 := cellOld b3 (hS.block _ (cellLt b3)); have d4 := cellOld b4 (hS.block _ (cellLt b4)); go_simp; with_reducible rfl); (try simp only [Act.put, List.getElem_toArray, List.getElem_cons_succ, List.getElem_cons_zero, List.setIfInBounds_toArray, List.set_cons_zero, List.set_cons_succ]))
            (refine sched_take (v := ?_) rfl (by rfl) (fun W' hS => ?_) ?_; rotate_left; (have d0 := cellOld b0 (hS.block _ (cellLt b0)); have d1 := cellOld b1 (hS.block _ (cellLt b1)); have d2 := cellOld b2 (hS.block _ (cellLt b2)); have d3 := cellOld b3 (hS.block _ (cellLt b3)); have d4 := cellOld b4 (hS.block _ (cellLt b4)); go_simp; with_reducible rfl); (try simp only [Act.put, List.getElem_toArray, List.getElem_cons_succ, List.getElem_cons_zero, List.setIfInBounds_toArray, List.set_cons_zero, List.set_cons_succ]))
            (refine sched_take (v := ?_) rfl (by rfl) (fun W' hS => ?_) ?_; rotate_left; (have d0 := cellOld b0 (hS.block _ (cellLt b0)); have d1 := cellOld b1 (hS.block _ (cellLt b1)); have d2 := cellOld b2 (hS.block _ (cellLt b2)); have d3 := cellOld b3 (hS.block _ (cellLt b3)); have d4 := cellOld b4 (hS.block _ (cellLt b4)); go_simp; with_reducible rfl); (try simp only [Act.put, List.getElem_toArray, List.getElem_cons_succ, List.getElem_cons_zero, List.setIfInBounds_toArray, List.set_cons_zero, List.set_cons_succ]))
            (refine sched_take (v := ?_) rfl (by rfl) (fun W' hS => ?_) ?_; rotate_left; (have d0 := cellOld b0 (hS.block _ (cellLt b0)); have d1 := cellOld b1 (hS.block _ (cellLt b1)); have d2 := cellOld b2 (hS.block _ (cellLt b2)); have d3 := cellOld b3 (hS.block _ (cellLt b3)); have d4 := cellOld b4 (hS.block _ (cellLt b4)); go_simp; with_reducible rfl); (try simp only [Act.put, List.getElem_toArray, List.getElem_cons_succ, List.getElem_cons_zero, List.setIfInBounds_toArray, List.set_cons_zero, List.set_cons_succ]))
            (refine sched_take (v := ?_) rfl (by rfl) (fun W' hS => ?_) ?_; rotate_left; (have d0 := cellOld b0 (hS.block _ (cellLt b0)); have d1 := cellOld b1 (hS.block _ (cellLt b1)); have d2 := cellOld b2 (hS.block _ (cellLt b2)); have d3 := cellOld b3 (hS.block _ (cellLt b3)); have d4 := cellOld b4 (hS.block _ (cellLt b4)); go_simp; with_reducible rfl); (try simp only [Act.put, List.getElem_toArray, List.getElem_cons_succ, List.getElem_cons_zero, List.setIfInBounds_toArray, List.set_cons_zero, List.set_cons_succ]))
            (refine sched_take (v := ?_) rfl (by rfl) (fun W' hS => ?_) ?_; rotate_left; (have d0 := cellOld b0 (hS.block _ (cellLt b0)); have d1 := cellOld b1 (hS.block _ (cellLt b1)); have d2 := cellOld b2 (hS.block _ (cellLt b2)); have d3 := cellOld b3 (hS.block _ (cellLt b3)); have d4 := cellOld b4 (hS.block _ (cellLt b4)); go_simp; with_reducible rfl); (try simp only [Act.put, List.getElem_toArray, List.getElem_cons_succ, List.getElem_cons_zero, List.setIfInBounds_toArray, List.set_cons_zero, List.set_cons_succ]))
            (refine sched_take (v := ?_) rfl (by rfl) (fun W' hS => ?_) ?_; rotate_left; (have d0 := cellOld b0 (hS.block _ (cellLt b0)); have d1 := cellOld b1 (hS.block _ (cellLt b1)); have d2 := cellOld b2 (hS.block _ (cellLt b2)); have d3 := cellOld b3 (hS.block _ (cellLt b3)); have d4 := cellOld b4 (hS.block _ (cellLt b4)); go_simp; with_reducible rfl); (try simp only [Act.put, List.getElem_toArray, List.getElem_cons_succ, List.getElem_cons_zero, List.setIfInBounds_toArray, List.set_cons_zero, List.set_cons_succ]))
            (refine sched_take (v := ?_) rfl (by rfl) (fun W' hS => ?_) ?_; rotate_left; (have d0 := cellOld b0 (hS.block _ (cellLt b0)); have d1 := cellOld b1 (hS.block _ (cellLt b1)); have d2 := cellOld b2 (hS.block _ (cellLt b2)); have d3 := cellOld b3 (hS.block _ (cellLt b3)); have d4 := cellOld b4 (hS.block _ (cellLt b4)); go_simp; with_reducible rfl); (try simp only [Act.put, List.getElem_toArray, List.getElem_cons_succ, List.getElem_cons_zero, List.setIfInBounds_toArray, List.set_cons_zero, List.set_cons_succ]))
            (refine sched_take (v := ?_) rfl (by rfl) (fun W' hS => ?_) ?_; rotate_left; (have d0 := cellOld b0 (hS.block _ (cellLt b0)); have d1 := cellOld b1 (hS.block _ (cellLt b1)); have d2 := cellOld b2 (hS.block _ (cellLt b2)); have d3 := cellOld b3 (hS.block _ (cellLt b3)); have d4 := cellOld b4 (hS.block _ (cellLt b4)); go_simp; with_reducible rfl); (try simp only [Act.put, List.getElem_toArray, List.getElem_cons_succ, List.getElem_cons_zero, List.setIfInBounds_toArray, List.set_cons_zero, List.set_cons_succ]))
            (refine sched_take (v := ?_) rfl (by rfl) (fun W' hS => ?_) ?_; rotate_left; (have d0 := cellOld b0 (hS.block _ (cellLt b0)); have d1 := cellOld b1 (hS.block _ (cellLt b1)); have d2 := cellOld b2 (hS.block _ (cellLt b2)); have d3 := cellOld b3 (hS.block _ (cellLt b3)); have d4 := cellOld b4 (hS.block _ (cellLt b4)); go_simp; with_reducible rfl); (try simp only [Act.put, List.getElem_toArray, List.getElem_cons_succ, List.getElem_cons_zero, List.setIfInBounds_toArray, List.set_cons_zero, List.set_cons_succ]))
            (refine sched_take (v := ?_) rfl (by rfl) (fun W' hS => ?_) ?_; rotate_left; (have d0 := cellOld b0 (hS.block _ (cellLt b0)); have d1 := cellOld b1 (hS.block _ (cellLt b1)); have d2 := cellOld b2 (hS.block _ (cellLt b2)); have d3 := cellOld b3 (hS.block _ (cellLt b3)); have d4 := cellOld b4 (hS.block _ (cellLt b4)); go_simp; with_reducible rfl); (try simp only [Act.put, List.getElem_toArray, List.getElem_cons_succ, List.getElem_cons_zero, List.setIfInBounds_toArray, List.set_cons_zero, List.set_cons_succ]))
            (refine sched_take (v := ?_) rfl (by rfl) (fun W' hS => ?_) ?_; rotate_left; (have d0 := cellOld b0 (hS.block _ (cellLt b0)); have d1 := cellOld b1 (hS.block _ (cellLt b1)); have d2 := cellOld b2 (hS.block _ (cellLt b2)); have d3 := cellOld b3 (hS.block _ (cellLt b3)); have d4 := cellOld b4 (hS.block _ (cellLt b4)); go_simp; with_reducible rfl); (try simp only [Act.put, List.getElem_toArray, List.getElem_cons_succ, List.getElem_cons_zero, List.setIfInBounds_toArray, List.set_cons_zero, List.set_cons_succ]))
            (refine sched_take (v := ?_) rfl (by rfl) (fun W' hS => ?_) ?_; rotate_left; (have d0 := cellOld b0 (hS.block _ (cellLt b0)); have d1 := cellOld b1 (hS.block _ (cellLt b1)); have d2 := cellOld b2 (hS.block _ (cellLt b2)); have d3 := cellOld b3 (hS.block _ (cellLt b3)); have d4 := cellOld b4 (hS.block _ (cellLt b4)); go_simp; with_reducible rfl); (try simp only [Act.put, List.getElem_toArray, List.getElem_cons_succ, List.getElem_cons_zero, List.setIfInBounds_toArray, List.set_cons_zero, List.set_cons_succ]))
            refine sched_do rfl (fun K' hK => ?_)
            go_simp
            refine (reffect_ok (treeP l) L (.slice pr nr cr) ⟨xt, xd, xf, xp, xn⟩ w19 HF.out (HU46.out.below HS19.out) HK.out).mono ?_
            rintro e w20 ⟨rfl, hB⟩
            have HS20 : Hid (Below wr.heap.size wr w20) := Lib.hid (HS19.out.trans (hB.mono HS19.out.size))
            rw [← HEX.out]
            clear hB
            refine hK.out _ _ HS20.out fun _ => ?_
            clear hK
            (try simp only [Act.put, List.getElem_toArray, List.getElem_cons_succ, List.getElem_cons_zero, List.setIfInBounds_toArray, List.set_cons_zero, List.set_cons_succ])
            (refine sched_take (v := ?_) rfl (by rfl) (fun W' hS => ?_) ?_; rotate_left; (have d0 := cellOld b0 (hS.block _ (cellLt b0)); have d1 := cellOld b1 (hS.block _ (cellLt b1)); have d2 := cellOld b2 (hS.block _ (cellLt b2)); have d3 := cellOld b3 (hS.block _ (cellLt b3)); have d4 := cellOld b4 (hS.block _ (cellLt b4)); go_simp; with_reducible rfl); (try simp only [Act.put, List.getElem_toArray, List.getElem_cons_succ, List.getElem_cons_zero, List.setIfInBounds_toArray, List.set_cons_zero, List.set_cons_succ]))
            (refine sched_take (v := ?_) rfl (by rfl) (fun W' hS => ?_) ?_; rotate_left; (have d0 := cellOld b0 (hS.block _ (cellLt b0)); have d1 := cellOld b1 (hS.block _ (cellLt b1)); have d2 := cellOld b2 (hS.block _ (cellLt b2)); have d3 := cellOld b3 (hS.block _ (cellLt b3)); have d4 := cellOld b4 (hS.block _ (cellLt b4)); go_simp; with_reducible rfl); (try simp only [Act.put, List.getElem_toArray, List.getElem_cons_succ, List.getElem_cons_zero, List.setIfInBounds_toArray, List.set_cons_zero, List.set_cons_succ]))
            refine sched_done ?_
            refine NoPanic.normal ?_
            go_wp2_with fail
            refine (rsame_ok (treeP l) T2 _ _ w20 (HU46.out.below HS20.out) (HU56.out.below HS20.out) (by have := treeP_few l; omega) (by have := HN2.out; omega)).mono ?_
            rintro e w9 ⟨rfl, hB⟩
            rw [decide_eq_true HT2T.out.symm]
            have HBf := Lib.hid (below_trans HB6.out (HS20.out.trans (hB.mono HS20.out.size)))
            clear hB
            go_wp2_with fail
            go_ret
            exact ⟨rfl, HBf.out⟩
          case neg =>
            have hq1 : (xp == xf) = false := by simpa using hq
            have hq2 : decide (xp = xf) = false := decide_eq_false hq
            clear hq
            go_upto_region 17 with fail
            obtain ⟨b0, b1, b2, b3, b4⟩ := box_cells HX6.out
            dsimp only at b0 b1 b2 b3 b4
            refine wp_region_noPanic ?_
            refine region_sched (fun W' => Below wr.heap.size wr W') 100 [(0, true), (1, true), (2, true), (4, true), (5, true), (3, false), (6, false), (7, true), (8, true), (9, true), (10, true), (11, true), (12, true), (13, true), (14, true), (15, true), (16, true), (17, true), (18, true), (19, true), (20, true), (21, true), (22, true), (23, true), (24, false), (25, true), (26, true)] (by kernel_rfl) (by kernel_rfl) (by kernel_rfl) rfl (fun _ _ _ _ h => h) ⟨rfl, rfl, rfl, Nat.le_refl _, fun _ _ => rfl⟩ ?_
            obtain ⟨Wd, hWd⟩ : ∃ W, W = wr.drew := ⟨_, rfl⟩
            have HSd : Hid (Below wr.heap.size wr Wd) := Lib.hid (by rw [hWd]; exact ⟨rfl, rfl, rfl, Nat.le_refl _, fun _ _ => rfl⟩)
            rw [← hWd]
            clear hWd
            (refine sched_take (v := ?_) rfl (by rfl) (fun W' hS => ?_) ?_; rotate_left; (have d0 := cellOld b0 (hS.block _ (cellLt b0)); have d1 := cellOld b1 (hS.block _ (cellLt b1)); have d2 := cellOld b2 (hS.block _ (cellLt b2)); have d3 := cellOld b3 (hS.block _ (cellLt b3)); have d4 := cellOld b4 (hS.block _ (cellLt b4)); go_simp; with_reducible rfl); (try simp only [Act.put, List.getElem_toArray, List.getElem_cons_succ, List.getElem_cons_zero, List.setIfInBounds_toArray, List.set_cons_zero, List.set_cons_succ]))
            (refine sched_take (v := ?_) rfl (by rfl) (fun W' hS => ?_) ?_; rotate_left; (have d0 := cellOld b0 (hS.block _ (cellLt b0)); have d1 := cellOld b1 (hS.block _ (cellLt b1)); have d2 := cellOld b2 (hS.block _ (cellLt b2)); have d3 := cellOld b3 (hS.block _ (cellLt b3)); have d4 := cellOld b4 (hS.block _ (cellLt b4)); go_simp; with_reducible rfl); (try simp only [Act.put, List.getElem_toArray, List.getElem_cons_succ, List.getElem_cons_zero, List.setIfInBounds_toArray, List.set_cons_zero, List.set_cons_succ]))
            (refine sched_take (v := ?_) rfl (by rfl) (fun W' hS => ?_) ?_; rotate_left; (have d0 := cellOld b0 (hS.block _ (cellLt b0)); have d1 := cellOld b1 (hS.block _ (cellLt b1)); have d2 := cellOld b2 (hS.block _ (cellLt b2)); have d3 := cellOld b3 (hS.block _ (cellLt b3)); have d4 := cellOld b4 (hS.block _ (cellLt b4)); go_simp; with_reducible rfl); (try simp only [Act.put, List.getElem_toArray, List.getElem_cons_succ, List.getElem_cons_zero, List.setIfInBounds_toArray, List.set_cons_zero, List.set_cons_succ]))
            (refine sched_take (v := ?_) rfl (by rfl) (fun W' hS => ?_) ?_; rotate_left; (have d0 := cellOld b0 (hS.block _ (cellLt b0)); have d1 := cellOld b1 (hS.block _ (cellLt b1)); have d2 := cellOld b2 (hS.block _ (cellLt b2)); have d3 := cellOld b3 (hS.block _ (cellLt b3)); have d4 := cellOld b4 (hS.block _ (cellLt b4)); go_simp; with_reducible rfl); (try simp only [Act.put, List.getElem_toArray, List.getElem_cons_succ, List.getElem_cons_zero, List.setIfInBounds_toArray, List.set_cons_zero, List.set_cons_succ]))
            (refine sched_take (v := ?_) rfl (by rfl) (fun W' hS => ?_) ?_; rotate_left; (have d0 := cellOld b0 (hS.block _ (cellLt b0)); have d1 := cellOld b1 (hS.block _ (cellLt b1)); have d2 := cellOld b2 (hS.block _ (cellLt b2)); have d3 := cellOld b3 (hS.block _ (cellLt b3)); have d4 := cellOld b4 (hS.block _ (cellLt b4)); go_simp; with_reducible rfl); (try simp only [Act.put, List.getElem_toArray, List.getElem_cons_succ, List.getElem_cons_zero, List.setIfInBounds_toArray, List.set_cons_zero, List.set_cons_succ]))
            refine sched_do rfl (fun K' hK => ?_)
            go_simp
            refine (below_ok l (.slice pt n pc) xf Wd (HT6.out.below HSd.out) (by have := HN.out; omega) HIF.out).mono ?_
            rintro e w21 ⟨ub, rfl, hu, hB⟩
            have HS21 : Hid (Below wr.heap.size wr w21) := Lib.hid (HSd.out.trans (hB.mono HSd.out.size))
            have HUB := Lib.hid hu
            clear hu
            clear hB
            refine hK.out _ _ HS21.out fun _ => ?_
            clear hK
            (try simp only [Act.put, List.getElem_toArray, List.getElem_cons_succ, List.getElem_cons_zero, List.setIfInBounds_toArray, List.set_cons_zero, List.set_cons_succ])
            refine sched_do rfl (fun K' hK => ?_)
            go_simp
            refine (has_ok (belowT (treeP l) xf) ub xp w21 HUB.out (belowT_few2 l xf)).mono ?_
            rintro e w22 ⟨rfl, hB⟩
            have HS22 : Hid (Below wr.heap.size wr w22) := Lib.hid (HS21.out.trans (hB.mono HS21.out.size))
            rw [HHB.out]
            clear hB
            refine hK.out _ _ HS22.out fun _ => ?_
            clear hK
            (try simp only [Act.put, List.getElem_toArray, List.getElem_cons_succ, List.getElem_cons_zero, List.setIfInBounds_toArray, List.set_cons_zero, List.set_cons_succ])
            (refine sched_take (v := ?_) rfl (by rfl) (fun W' hS => ?_) ?_; rotate_left; (have d0 := cellOld b0 (hS.block _ (cellLt b0)); have d1 := cellOld b1 (hS.block _ (cellLt b1)); have d2 := cellOld b2 (hS.block _ (cellLt b2)); have d3 := cellOld b3 (hS.block _ (cellLt b3)); have d4 := cellOld b4 (hS.block _ (cellLt b4)); go_simp; with_reducible rfl); (try simp only [Act.put, List.getElem_toArray, List.getElem_cons_succ, List.getElem_cons_zero, List.setIfInBounds_toArray, List.set_cons_zero, List.set_cons_succ]))
            (refine sched_take (v := ?_) rfl (by rfl) (fun W' hS => ?_) ?_; rotate_left; (have d0 := cellOld b0 (hS.block _ (cellLt b0)); have d1 := cellOld b1 (hS.block _ (cellLt b1)); have d2 := cellOld b2 (hS.block _ (cellLt b2)); have d3 := cellOld b3 (hS.block _ (cellLt b3)); have d4 := cellOld b4 (hS.block _ (cellLt b4)); go_simp; with_reducible rfl); (try simp only [Act.put, List.getElem_toArray, List.getElem_cons_succ, List.getElem_cons_zero, List.setIfInBounds_toArray, List.set_cons_zero, List.set_cons_succ]))
            (refine sched_take (v := ?_) rfl (by rfl) (fun W' hS => ?_) ?_; rotate_left; (have d0 := cellOld b0 (hS.block _ (cellLt b0)); have d1 := cellOld b1 (hS.block _ (cellLt b1)); have d2 := cellOld b2 (hS.block _ (cellLt b2)); have d3 := cellOld b3 (hS.block _ (cellLt b3)); have d4 := cellOld b4 (hS.block _ (cellLt b4)); go_simp; with_reducible rfl); (try simp only [Act.put, List.getElem_toArray, List.getElem_cons_succ, List.getElem_cons_zero, List.setIfInBounds_toArray, List.set_cons_zero, List.set_cons_succ]))
            (refine sched_take (v := ?_) rfl (by rfl) (fun W' hS => ?_) ?_; rotate_left; (have d0 := cellOld b0 (hS.block _ (cellLt b0)); have d1 := cellOld b1 (hS.block _ (cellLt b1)); have d2 := cellOld b2 (hS.block _ (cellLt b2)); have d3 := cellOld b3 (hS.block _ (cellLt b3)); have d4 := cellOld b4 (hS.block _ (cellLt b4)); go_simp; with_reducible rfl); (try simp only [Act.put, List.getElem_toArray, List.getElem_cons_succ, List.getElem_cons_zero, List.setIfInBounds_toArray, List.set_cons_zero, List.set_cons_succ]))
            (refine sched_take (v := ?_) rfl (by rfl) (fun W' hS => ?_) ?_; rotate_left; (have d0 := cellOld b0 (hS.block _ (cellLt b0)); have d1 := cellOld b1 (hS.block _ (cellLt b1)); have d2 := cellOld b2 (hS.block _ (cellLt b2)); have d3 := cellOld b3 (hS.block _ (cellLt b3)); have d4 := cellOld b4 (hS.block _ (cellLt b4)); go_simp; with_reducible rfl); (try simp only [Act.put, List.getElem_toArray, List.getElem_cons_succ, List.getElem_cons_zero, List.setIfInBounds_toArray, List.set_cons_zero, List.set_cons_succ]))
            (refine sched_take (v := ?_) rfl (by rfl) (fun W' hS => ?_) ?_; rotate_left; (have d0 := cellOld b0 (hS.block _ (cellLt b0)); have d1 := cellOld b1 (hS.block _ (cellLt b1)); have d2 := cellOld b2 (hS.block _ (cellLt b2)); have d3 := cellOld b3 (hS.block _ (cellLt b3)); have d4 := cellOld b4 (hS.block _ (cellLt b4)); go_simp; with_reducible rfl); (try simp only [Act.put, List.getElem_toArray, List.getElem_cons_succ, List.getElem_cons_zero, List.setIfInBounds_toArray, List.set_cons_zero, List.set_cons_succ]))
            (refine sched_take (v := ?_) rfl (by rfl) (fun W' hS => ?_) ?_; rotate_left; (have d0 := cellOld b0 (hS.block _ (cellLt b0)); have d1 := cellOld b1 (hS.block _ (cellLt b1)); have d2 := cellOld b2 (hS.block _ (cellLt b2)); have d3 := cellOld b3 (hS.block _ (cellLt b3)); have d4 := cellOld b4 (hS.block _ (cellLt b4)); go_simp; with_reducible rfl); (try simp only [Act.put, List.getElem_toArray, List.getElem_cons_succ, List.getElem_cons_zero, List.setIfInBounds_toArray, List.set_cons_zero, List.set_cons_succ]))
            (refine sched_take (v := ?_) rfl (by rfl) (fun W' hS => ?_) ?_; rotate_left; (have d0 := cellOld b0 (hS.block _ (cellLt b0)); have d1 := cellOld b1 (hS.block _ (cellLt b1)); have d2 := cellOld b2 (hS.block _ (cellLt b2)); have d3 := cellOld b3 (hS.block _ (cellLt b3)); have d4 := cellOld b4 (hS.block _ (cellLt b4)); go_simp; with_reducible rfl); (try simp only [Act.put, List.getElem_toArray, List.getElem_cons_succ, List.getElem_cons_zero, List.setIfInBounds_toArray, List.set_cons_zero, List.set_cons_succ]))
            (refine sched_take (v := ?_) rfl (by rfl) (fun W' hS => ?_) ?_; rotate_left; (have d0 := cellOld b0 (hS.block _ (cellLt b0)); have d1 := cellOld b1 (hS.block _ (cellLt b1)); have d2 := cellOld b2 (hS.block _ (cellLt b2)); have d3 := cellOld b3 (hS.block _ (cellLt b3)); have d4 := cellOld b4 (hS.block _ (cellLt b4)); go_simp; with_reducible rfl); (try simp only [Act.put, List.getElem_toArray, List.getElem_cons_succ, List.getElem_cons_zero, List.setIfInBounds_toArray, List.set_cons_zero, List.set_cons_succ]))
            (refine sched_take (v := ?_) rfl (by rfl) (fun W' hS => ?_) ?_; rotate_left; (have d0 := cellOld b0 (hS.block _ (cellLt b0)); have d1 := cellOld b1 (hS.block _ (cellLt b1)); have d2 := cellOld b2 (hS.block _ (cellLt b2)); have d3 := cellOld b3 (hS.block _ (cellLt b3)); have d4 := cellOld b4 (hS.block _ (cellLt b4)); go_simp; with_reducible rfl); (try simp only [Act.put, List.getElem_toArray, List.getElem_cons_succ, List.getElem_cons_zero, List.setIfInBounds_toArray, List.set_cons_zero, List.set_cons_succ]))
            (refine sched_skip rfl (by rfl) ?_; (try simp only [Act.put, List.getElem_toArray, List.getElem_cons_succ, List.getElem_cons_zero, List.setIfInBounds_toArray, List.set_cons_zero, List.set_cons_succ]))
            (refine sched_take (v := ?_) rfl (by rfl) (fun W' hS => ?_) ?_; rotate_left; (have d0 := cellOld b0 (hS.block _ (cellLt b0)); have d1 := cellOld b1 (hS.block _ (cellLt b1)); have d2 := cellOld b2 (hS.block _ (cellLt b2)); have d3 := cellOld b3 (hS.block _ (cellLt b3)); have d4 := cellOld b4 (hS.block _ (cellLt b4)); go_simp; with_reducible rfl); (try simp only [Act.put, List.getElem_toArray, List.getElem_cons_succ, List.getElem_cons_zero, List.setIfInBounds_toArray, List.set_cons_zero, List.set_cons_succ]))
            (refine sched_take (v := ?_) rfl (by rfl) (fun W' hS => ?_) ?_; rotate_left; (have d0 := cellOld b0 (hS.block _ (cellLt b0)); have d1 := cellOld b1 (hS.block _ (cellLt b1)); have d2 := cellOld b2 (hS.block _ (cellLt b2)); have d3 := cellOld b3 (hS.block _ (cellLt b3)); have d4 := cellOld b4 (hS.block _ (cellLt b4)); go_simp; with_reducible rfl); (try simp only [Act.put, List.getElem_toArray, List.getElem_cons_succ, List.getElem_cons_zero, List.setIfInBounds_toArray, List.set_cons_zero, List.set_cons_succ]))
            (refine sched_take (v := ?_) rfl (by rfl) (fun W' hS => ?_) ?_; rotate_left; (have d0 := cellOld b0 (hS.block _ (cellLt b0)); have d1 := cellOld b1 (hS.block _ (cellLt b1)); have d2 := cellOld b2 (hS.block _ (cellLt b2)); have d3 := cellOld b3 (hS.block _ (cellLt b3)); have d4 := cellOld b4 (hS.block _ (cellLt b4)); go_simp; with_reducible rfl); (try simp only [Act.put, List.getElem_toArray, List.getElem_cons_succ, List.getElem_cons_zero, List.setIfInBounds_toArray, List.set_cons_zero, List.set_cons_succ]))
            (refine sched_take (v := ?_) rfl (by rfl) (fun W' hS => ?_) ?_; rotate_left; (have d0 := cellOld b0 (hS.block _ (cellLt b0)); have d1 := cellOld b1 (hS.block _ (cellLt b1)); have d2 := cellOld b2 (hS.block _ (cellLt b2)); have d3 := cellOld b3 (hS.block _ (cellLt b3)); have d4 := cellOld b4 (hS.block _ (cellLt b4)); go_simp; with_reducible rfl); (try simp only [Act.put, List.getElem_toArray, List.getElem_cons_succ, List.getElem_cons_zero, List.setIfInBounds_toArray, List.set_cons_zero, List.set_cons_succ]))
            (refine sched_take (v := ?_) rfl (by rfl) (fun W' hS => ?_) ?_; rotate_left; (have d0 := cellOld b0 (hS.block _ (cellLt b0)); have d1 := cellOld b1 (hS.block _ (cellLt b1)); have d2 := cellOld b2 (hS.block _ (cellLt b2)); have d3 := cellOld b3 (hS.block _ (cellLt b3)); have d4 := cellOld b4 (hS.block _ (cellLt b4)); go_simp; with_reducible rfl); (try simp only [Act.put, List.getElem_toArray, List.getElem_cons_succ, List.getElem_cons_zero, List.setIfInBounds_toArray, List.set_cons_zero, List.set_cons_succ]))
            (refine sched_take (v := ?_) rfl (by rfl) (fun W' hS => ?_) ?_; rotate_left; (have d0 := cellOld b0 (hS.block _ (cellLt b0)); have d1 := cellOld b1 (hS.block _ (cellLt b1)); have d2 := cellOld b2 (hS.block _ (cellLt b2)); have d3 := cellOld b3 (hS.block _ (cellLt b3)); have d4 := cellOld b4 (hS.block _ (cellLt b4)); go_simp; with_reducible rfl); (try simp only [Act.put, List.getElem_toArray, List.getElem_cons_succ, List.getElem_cons_zero, List.setIfInBounds_toArray, List.set_cons_zero, List.set_cons_succ]))
            refine sched_do rfl (fun K' hK => ?_)
            go_simp
            refine (reffect_ok (treeP l) L (.slice pr nr cr) ⟨xt, xd, xf, xp, xn⟩ w22 HF.out (HU46.out.below HS22.out) HK.out).mono ?_
            rintro e w23 ⟨rfl, hB⟩
            have HS23 : Hid (Below wr.heap.size wr w23) := Lib.hid (HS22.out.trans (hB.mono HS22.out.size))
            rw [← HEX.out]
            clear hB
            refine hK.out _ _ HS23.out fun _ => ?_
            clear hK
            (try simp only [Act.put, List.getElem_toArray, List.getElem_cons_succ, List.getElem_cons_zero, List.setIfInBounds_toArray, List.set_cons_zero, List.set_cons_succ])
            (refine sched_take (v := ?_) rfl (by rfl) (fun W' hS => ?_) ?_; rotate_left; (have d0 := cellOld b0 (hS.block _ (cellLt b0)); have d1 := cellOld b1 (hS.block _ (cellLt b1)); have d2 := cellOld b2 (hS.block _ (cellLt b2)); have d3 := cellOld b3 (hS.block _ (cellLt b3)); have d4 := cellOld b4 (hS.block _ (cellLt b4)); go_simp; with_reducible rfl); (try simp only [Act.put, List.getElem_toArray, List.getElem_cons_succ, List.getElem_cons_zero, List.setIfInBounds_toArray, List.set_cons_zero, List.set_cons_succ]))
            (refine sched_take (v := ?_) rfl (by rfl) (fun W' hS => ?_) ?_; rotate_left; (have d0 := cellOld b0 (hS.block _ (cellLt b0)); have d1 := cellOld b1 (hS.block _ (cellLt b1)); have d2 := cellOld b2 (hS.block _ (cellLt b2)); have d3 := cellOld b3 (hS.block _ (cellLt b3)); have d4 := cellOld b4 (hS.block _ (cellLt b4)); go_simp; with_reducible rfl); (try simp only [Act.put, List.getElem_toArray, List.getElem_cons_succ, List.getElem_cons_zero, List.setIfInBounds_toArray, List.set_cons_zero, List.set_cons_succ]))
            refine sched_done ?_
            refine NoPanic.normal ?_
            go_wp2_with fail
            refine (rsame_ok (treeP l) T2 _ _ w23 (HU46.out.below HS23.out) (HU56.out.below HS23.out) (by have := treeP_few l; omega) (by have := HN2.out; omega)).mono ?_
            rintro e w9 ⟨rfl, hB⟩
            rw [decide_eq_true HT2T.out.symm]
            have HBf := Lib.hid (below_trans HB6.out (HS23.out.trans (hB.mono HS23.out.size)))
            clear hB
            go_wp2_with fail
            go_ret
            exact ⟨rfl, HBf.out⟩
        case neg =>
          have HHB : Hid (decide (xp ∈ belowT (treeP l) xf) = false) := Lib.hid (decide_eq_false hb)
          clear hb
          by_cases hq : xp = xf
          case pos =>
            have hq1 : (xp == xf) = true := by simpa using hq
            have hq2 : decide (xp = xf) = true := decide_eq_true hq
            clear hq
            go_upto_region 17 with fail
            obtain ⟨b0, b1, b2, b3, b4⟩ := box_cells HX6.out
            dsimp only at b0 b1 b2 b3 b4
            refine wp_region_noPanic ?_
            refine region_sched (fun W' => Below wr.heap.size wr W') 100 [(0, true), (1, true), (2, true), (4, true), (5, true), (3, false), (6, false), (7, true), (8, true), (9, true), (10, true), (11, true), (12, true), (13, true), (14, true), (15, true), (16, true), (17, true), (18, true), (19, true), (20, true), (21, true), (22, true), (23, true), (24, false), (25, true), (26, true)] (by kernel_rfl) (by kernel_rfl) (by kernel_rfl) rfl (fun _ _ _ _ h => h) ⟨rfl, rfl, rfl, Nat.le_refl _, fun _ _ => rfl⟩ ?_
            obtain ⟨Wd, hWd⟩ : ∃ W, W = wr.drew := ⟨_, rfl⟩
            have HSd : Hid (Below wr.heap.size wr Wd) := Lib.hid (by rw [hWd]; exact ⟨rfl, rfl, rfl, Nat.le_refl _, fun _ _ => rfl⟩)
            rw [← hWd]
            clear hWd
            (refine sched_take (v := ?_) rfl (by rfl) (fun W' hS => ?_) ?_; rotate_left; (have d0 := cellOld b0 (hS.block _ (cellLt b0)); have d1 := cellOld b1 (hS.block _ (cellLt b1)); have d2 := cellOld b2 (hS.block _ (cellLt b2)); have d3 := cellOld b3 (hS.block _ (cellLt b3)); have d4 := cellOld b4 (hS.block _ (cellLt b4)); go_simp; with_reducible rfl); (try simp only [Act.put, List.getElem_toArray, List.getElem_cons_succ, List.getElem_cons_zero, List.setIfInBounds_toArray, List.set_cons_zero, List.set_cons_succ]))
            (refine sched_take (v := ?_) rfl (by rfl) (fun W' hS => ?_) ?_; rotate_left; (have d0 := cellOld b0 (hS.block _ (cellLt b0)); have d1 := cellOld b1 (hS.block _ (cellLt b1)); have d2 := cellOld b2 (hS.block _ (cellLt b2)); have d3 := cellOld b3 (hS.block _ (cellLt b3)); have d4 := cellOld b4 (hS.block _ (cellLt b4)); go_simp; with_reducible rfl); (try simp only [Act.put, List.getElem_toArray, List.getElem_cons_succ, List.getElem_cons_zero, List.setIfInBounds_toArray, List.set_cons_zero, List.set_cons_succ]))
            (refine sched_take (v := ?_) rfl (by rfl) (fun W' hS => ?_) ?_; rotate_left; (have d0 := cellOld b0 (hS.block _ (cellLt b0)); have d1 := cellOld b1 (hS.block _ (cellLt b1)); have d2 := cellOld b2 (hS.block _ (cellLt b2)); have d3 := cellOld b3 (hS.block _ (cellLt b3)); have d4 := cellOld b4 (hS.block _ (cellLt b4)); go_simp; with_reducible rfl); (try simp only [Act.put, List.getElem_toArray, List.getElem_cons_succ, List.getElem_cons_zero, List.setIfInBounds_toArray, List.set_cons_zero, List.set_cons_succ]))
            (refine sched_take (v := ?_) rfl (by rfl) (fun W' hS => ?_) ?_; rotate_left; (have d0 := cellOld b0 (hS.block _ (cellLt b0)); have d1 := cellOld b1 (hS.block _ (cellLt b1)); have d2 := cellOld b2 (hS.block _ (cellLt b2)); have d3 := cellOld b3 (hS.block _ (cellLt b3)); have d4 := cellOld b4 (hS.block _ (cellLt b4)); go_simp; with_reducible rfl); (try simp only [Act.put, List.getElem_toArray, List.getElem_cons_succ, List.getElem_cons_zero, List.setIfInBounds_toArray, List.set_cons_zero, List.set_cons_succ]))
            (refine sched_take (v := ?_) rfl (by rfl) (fun W' hS => ?_) ?_; rotate_left; (have d0 := cellOld b0 (hS.block _ (cellLt b0)); have d1 := cellOld b1 (hS.block _ (cellLt b1)); have d2 := cellOld b2 (hS.block _ (cellLt b2)); have d3 := cellOld b3 (hS.block _ (cellLt b3)); have d4 := cellOld b4 (hS.block _ (cellLt b4)); go_simp; with_reducible rfl); (try simp only [Act.put, List.getElem_toArray, List.getElem_cons_succ, List.getElem_cons_zero, List.setIfInBounds_toArray, List.set_cons_zero, List.set_cons_succ]))
            refine sched_do rfl (fun K' hK => ?_)
            go_simp
            refine (below_ok l (.slice pt n pc) xf Wd (HT6.out.below HSd.out) (by have := HN.out; omega) HIF.out).mono ?_
            rintro e w24 ⟨ub, rfl, hu, hB⟩
            have HS24 : Hid (Below wr.heap.size wr w24) := Lib.hid (HSd.out.trans (hB.mono HSd.out.size))
            have HUB := Lib.hid hu
            clear hu
            clear hB
            refine hK.out _ _ HS24.out fun _ => ?_
            clear hK
            (try simp only [Act.put, List.getElem_toArray, List.getElem_cons_succ, List.getElem_cons_zero, List.setIfInBounds_toArray, List.set_cons_zero, List.set_cons_succ])
            refine sched_do rfl (fun K' hK => ?_)
            go_simp
            refine (has_ok (belowT (treeP l) xf) ub xp w24 HUB.out (belowT_few2 l xf)).mono ?_
            rintro e w25 ⟨rfl, hB⟩
            have HS25 : Hid (Below wr.heap.size wr w25) := Lib.hid (HS24.out.trans (hB.mono HS24.out.size))
            rw [HHB.out]
            clear hB
            refine hK.out _ _ HS25.out fun _ => ?_
            clear hK
            (try simp only [Act.put, List.getElem_toArray, List.getElem_cons_succ, List.getElem_cons_zero, List.setIfInBounds_toArray, List.set_cons_zero, List.set_cons_succ])
            (refine sched_take (v := ?_) rfl (by rfl) (fun W' hS => ?_) ?_; rotate_left; (have d0 := cellOld b0 (hS.block _ (cellLt b0)); have d1 := cellOld b1 (hS.block _ (cellLt b1)); have d2 := cellOld b2 (hS.block _ (cellLt b2)); have d3 := cellOld b3 (hS.block _ (cellLt b3)); have d4 := cellOld b4 (hS.block _ (cellLt b4)); go_simp; with_reducible rfl); (try simp only [Act.put, List.getElem_toArray, List.getElem_cons_succ, List.getElem_cons_zero, List.setIfInBounds_toArray, List.set_cons_zero, List.set_cons_succ]))
            (refine sched_skip rfl (by rfl) ?_; (try simp only [Act.put, List.getElem_toArray, List.getElem_cons_succ, List.getElem_cons_zero, List.setIfInBounds_toArray, List.set_cons_zero, List.set_cons_succ]))
            (refine sched_take (v := ?_) rfl (by rfl) (fun W' hS => ?_) ?_; rotate_left; (have d0 := cellOld b0 (hS.block _ (cellLt b0)); have d1 := cellOld b1 (hS.block _ (cellLt b1)); have d2 := cellOld b2 (hS.block _ (cellLt b2)); have d3 := cellOld b3 (hS.block _ (cellLt b3)); have d4 := cellOld b4 (hS.block _ (cellLt b4)); go_simp; with_reducible rfl); (try simp only [Act.put, List.getElem_toArray, List.getElem_cons_succ, List.getElem_cons_zero, List.setIfInBounds_toArray, List.set_cons_zero, List.set_cons_succ]))
            (refine sched_take (v := ?_) rfl (by rfl) (fun W' hS => ?_) ?_; rotate_left; (have d0 := cellOld b0 (hS.block _ (cellLt b0)); have d1 := cellOld b1 (hS.block _ (cellLt b1)); have d2 := cellOld b2 (hS.block _ (cellLt b2)); have d3 := cellOld b3 (hS.block _ (cellLt b3)); have d4 := cellOld b4 (hS.block _ (cellLt b4)); go_simp; with_reducible rfl); (try simp only [Act.put, List.getElem_toArray, List.getElem_cons_succ, List.getElem_cons_zero, List.setIfInBounds_toArray, List.set_cons_zero, List.set_cons_succ]))
            (refine sched_take (v := ?_) rfl (by rfl) (fun W' hS => ?_) ?_; rotate_left; (have d0 := cellOld b0 (hS.block _ (cellLt b0)); have d1 := cellOld b1 (hS.block _ (cellLt b1)); have d2 := cellOld b2 (hS.block _ (cellLt b2)); have d3 := cellOld b3 (hS.block _ (cellLt b3)); have d4 := cellOld b4 (hS.block _ (cellLt b4)); go_simp; with_reducible rfl); (try simp only [Act.put, List.getElem_toArray, List.getElem_cons_succ, List.getElem_cons_zero, List.setIfInBounds_toArray, List.set_cons_zero, List.set_cons_succ]))
            (refine sched_take (v := ?_) rfl (by rfl) (fun W' hS => ?_) ?_; rotate_left; (have d0 := cellOld b0 (hS.block _ (cellLt b0)); have d1 := cellOld b1 (hS.block _ (cellLt b1)); have d2 := cellOld b2 (hS.block _ (cellLt b2)); have d3 := cellOld b3 (hS.block _ (cellLt b3)); have d4 := cellOld b4 (hS.block _ (cellLt b4)); go_simp; with_reducible rfl); (try simp only [Act.put, List.getElem_toArray, List.getElem_cons_succ, List.getElem_cons_zero, List.setIfInBounds_toArray, List.set_cons_zero, List.set_cons_succ]))
            (refine sched_take (v := ?_) rfl (by rfl) (fun W' hS => ?_) ?_; rotate_left; (have d0 := cellOld b0 (hS.block _ (cellLt b0)); have d1 := cellOld b1 (hS.block _ (cellLt b1)); have d2 := cellOld b2 (hS.block _ (cellLt b2)); have d3 := cellOld b3 (hS.block _ (cellLt b3)); have d4 := cellOld b4 (hS.block _ (cellLt b4)); go_simp; with_reducible rfl); (try simp only [Act.put, List.getElem_toArray, List.getElem_cons_succ, List.getElem_cons_zero, List.setIfInBounds_toArray, List.set_cons_zero, List.set_cons_succ]))
            (refine sched_take (v := ?_) rfl (by rfl) (fun W' hS => ?_) ?_; rotate_left; (have d0 := cellOld b0 (hS.block _ (cellLt b0)); have d1 := cellOld b1 (hS.block _ (cellLt b1)); have d2 := cellOld b2 (hS.block _ (cellLt b2)); have d3 := cellOld b3 (hS.block _ (cellLt b3)); have d4 := cellOld b4 (hS.block _ (cellLt b4)); go_simp; with_reducible rfl); (try simp only [Act.put, List.getElem_toArray, List.getElem_cons_succ, List.getElem_cons_zero, List.setIfInBounds_toArray, List.set_cons_zero, List.set_cons_succ]))
            (refine sched_take (v := ?_) rfl (by rfl) (fun W' hS => ?_) ?_; rotate_left; (have d0 := cellOld b0 (hS.block _ (cellLt b0)); have d1 := cellOld b1 (hS.block _ (cellLt b1)); have d2 := cellOld b2 (hS.block _ (cellLt b2)); have d3 := cellOld b3 (hS.block _ (cellLt b3)); have d4 := cellOld b4 (hS.block _ (cellLt b4)); go_simp; with_reducible rfl); (try simp only [Act.put, List.getElem_toArray, List.getElem_cons_succ, List.getElem_cons_zero, List.setIfInBounds_toArray, List.set_cons_zero, List.set_cons_succ]))
            (refine sched_take (v := ?_) rfl (by rfl) (fun W' hS => ?_) ?_; rotate_left; (have d0 := cellOld b0 (hS.block _ (cellLt b0)); have d1 := cellOld b1 (hS.block _ (cellLt b1)); have d2 := cellOld b2 (hS.block _ (cellLt b2)); have d3 := cellOld b3 (hS.block _ (cellLt b3)); have d4 := cellOld b4 (hS.block _ (cellLt b4)); go_simp; with_reducible rfl); (try simp only [Act.put, List.getElem_toArray, List.getElem_cons_succ, List.getElem_cons_zero, List.setIfInBounds_toArray, List.set_cons_zero, List.set_cons_succ]))
            (refine sched_take (v := ?_) rfl (by rfl) (fun W' hS => ?_) ?_; rotate_left; (have d0 := cellOld b0 (hS.block _ (cellLt b0)); have d1 := cellOld b1 (hS.block _ (cellLt b1)); have d2 := cellOld b2 (hS.block _ (cellLt b2)); have d3 := cellOld b3 (hS.block _ (cellLt b3)); have d4 := cellOld b4 (hS.block _ (cellLt b4)); go_simp; with_reducible rfl); (try simp only [Act.put, List.getElem_toArray, List.getElem_cons_succ, List.getElem_cons_zero, List.setIfInBounds_toArray, List.set_cons_zero, List.set_cons_succ]))
            (refine sched_take (v := ?_) rfl (by rfl) (fun W' hS => ?_) ?_; rotate_left; (have d0 := cellOld b0 (hS.block _ (cellLt b0)); have d1 := cellOld b1 (hS.block _ (cellLt b1)); have d2 := cellOld b2 (hS.block _ (cellLt b2)); have d3 := cellOld b3 (hS.block _ (cellLt b3)); have d4 := cellOld b4 (hS.block _ (cellLt b4)); go_simp; with_reducible rfl); (try simp only [Act.put, List.getElem_toArray, List.getElem_cons_succ, List.getElem_cons_zero, List.setIfInBounds_toArray, List.set_cons_zero, List.set_cons_succ]))
            (refine sched_take (v := ?_) rfl (by rfl) (fun W' hS => ?_) ?_; rotate_left; (have d0 := cellOld b0 (hS.block _ (cellLt b0)); have d1 := cellOld b1 (hS.block _ (cellLt b1)); have d2 := cellOld b2 (hS.block _ (cellLt b2)); have d3 := cellOld b3 (hS.block _ (cellLt b3)); have d4 := cellOld b4 (hS.block _ (cellLt b4)); go_simp; with_reducible rfl); (try simp only [Act.put, List.getElem_toArray, List.getElem_cons_succ, List.getElem_cons_zero, List.setIfInBounds_toArray, List.set_cons_zero, List.set_cons_succ]))
            (refine sched_take (v := ?_) rfl (by rfl) (fun W' hS => ?_) ?_; rotate_left; (have d0 := cellOld b0 (hS.block _ (cellLt b0)); have d1 := cellOld b1 (hS.block _ (cellLt b1)); have d2 := cellOld b2 (hS.block _ (cellLt b2)); have d3 := cellOld b3 (hS.block _ (cellLt b3)); have d4 := cellOld b4 (hS.block _ (cellLt b4)); go_simp; with_reducible rfl); (try simp only [Act.put, List.getElem_toArray, List.getElem_cons_succ, List.getElem_cons_zero, List.setIfInBounds_toArray, List.set_cons_zero, List.set_cons_succ]))
            (refine sched_take (v := ?_) rfl (by rfl) (fun W' hS => ?_) ?_; rotate_left; (have d0 := cellOld b0 (hS.block _ (cellLt b0)); have d1 := cellOld b1 (hS.block _ (cellLt b1)); have d2 := cellOld b2 (hS.block _ (cellLt b2)); have d3 := cellOld b3 (hS.block _ (cellLt b3)); have d4 := cellOld b4 (hS.block _ (cellLt b4)); go_simp; with_reducible rfl); (try simp only [Act.put, List.getElem_toArray, List.getElem_cons_succ, List.getElem_cons_zero, List.setIfInBounds_toArray, List.set_cons_zero, List.set_cons_succ]))
            (refine sched_take (v := ?_) rfl (by rfl) (fun W' hS => ?_) ?_; rotate_left; (have d0 := cellOld b0 (hS.block _ (cellLt b0)); have d1 := cellOld b1 (hS.block _ (cellLt b1)); have d2 := cellOld b2 (hS.block _ (cellLt b2)); have d3 := cellOld b3 (hS.block _ (cellLt b3)); have d4 := cellOld b4 (hS.block _ (cellLt b4)); go_simp; with_reducible rfl); (try simp only [Act.put, List.getElem_toArray, List.getElem_cons_succ, List.getElem_cons_zero, List.setIfInBounds_toArray, List.set_cons_zero, List.set_cons_succ]))
            (refine sched_take (v := ?_) rfl (by rfl) (fun W' hS => ?_) ?_; rotate_left; (have d0 := cellOld b0 (hS.block _ (cellLt b0)); have d1 := cellOld b1 (hS.block _ (cellLt b1)); have d2 := cellOld b2 (hS.block _ (cellLt b2)); have d3 := cellOld b3 (hS.block _ (cellLt b3)); have d4 := cellOld b4 (hS.block _ (cellLt b4)); go_simp; with_reducible rfl); (try simp only [Act.put, List.getElem_toArray, List.getElem_cons_succ, List.getElem_cons_zero, List.setIfInBounds_toArray, List.set_cons_zero, List.set_cons_succ]))
            refine sched_do rfl (fun K' hK => ?_)
            go_simp
            refine (reffect_ok (treeP l) L (.slice pr nr cr) ⟨xt, xd, xf, xp, xn⟩ w25 HF.out (HU46.out.below HS25.out) HK.out).mono ?_
            rintro e w26 ⟨rfl, hB⟩
            have HS26 : Hid (Below wr.heap.size wr w26) := Lib.hid (HS25.out.trans (hB.mono HS25.out.size))
            rw [← HEX.out]
            clear hB
            refine hK.out _ _ HS26.out fun _ => ?_
            clear hK
            (try simp only [Act.put, List.getElem_toArray, List.getElem_cons_succ, List.getElem_cons_zero, List.setIfInBounds_toArray, List.set_cons_zero, List.set_cons_succ])
            (refine sched_take (v := ?_) rfl (by rfl) (fun W' hS => ?_) ?_; rotate_left; (have d0 := cellOld b0 (hS.block _ (cellLt b0)); have d1 := cellOld b1 (hS.block _ (cellLt b1)); have d2 := cellOld b2 (hS.block _ (cellLt b2)); have d3 := cellOld b3 (hS.block _ (cellLt b3)); have d4 := cellOld b4 (hS.block _ (cellLt b4)); go_simp; with_reducible rfl); (try simp only [Act.put, List.getElem_toArray, List.getElem_cons_succ, List.getElem_cons_zero, List.setIfInBounds_toArray, List.set_cons_zero, List.set_cons_succ]))
            (refine sched_take (v := ?_) rfl (by rfl) (fun W' hS => ?_) ?_; rotate_left; (have d0 := cellOld b0 (hS.block _ (cellLt b0)); have d1 := cellOld b1 (hS.block _ (cellLt b1)); have d2 := cellOld b2 (hS.block _ (cellLt b2)); have d3 := cellOld b3 (hS.block _ (cellLt b3)); have d4 := cellOld b4 (hS.block _ (cellLt b4)); go_simp; with_reducible rfl); (try simp only [Act.put, List.getElem_toArray, List.getElem_cons_succ, List.getElem_cons_zero, List.setIfInBounds_toArray, List.set_cons_zero, List.set_cons_succ]))
            refine sched_done ?_
            refine NoPanic.normal ?_
            go_wp2_with fail
            refine (rsame_ok (treeP l) T2 _ _ w26 (HU46.out.below HS26.out) (HU56.out.below HS26.out) (by have := treeP_few l; omega) (by have := HN2.out; omega)).mono ?_
            rintro e w9 ⟨rfl, hB⟩
            rw [decide_eq_true HT2T.out.symm]
            have HBf := Lib.hid (below_trans HB6.out (HS26.out.trans (hB.mono HS26.out.size)))
            clear hB
            go_wp2_with fail
            go_ret
            exact ⟨rfl, HBf.out⟩
          case neg =>
            have hq1 : (xp == xf) = false := by simpa using hq
            have hq2 : decide (xp = xf) = false := decide_eq_false hq
            clear hq
            go_upto_region 17 with fail
            obtain ⟨b0, b1, b2, b3, b4⟩ := box_cells HX6.out
            dsimp only at b0 b1 b2 b3 b4
            refine wp_region_noPanic ?_
            refine region_sched (fun W' => Below wr.heap.size wr W') 100 [(0, true), (1, true), (2, true), (4, true), (5, true), (3, false), (6, false), (7, true), (8, true), (9, true), (10, true), (11, true), (12, true), (13, true), (14, true), (15, true), (16, true), (17, true), (18, true), (19, true), (20, true), (21, true), (22, true), (23, true), (24, false), (25, true), (26, true)] (by kernel_rfl) (by kernel_rfl) (by kernel_rfl) rfl (fun _ _ _ _ h => h) ⟨rfl, rfl, rfl, Nat.le_refl _, fun _ _ => rfl⟩ ?_
            obtain ⟨Wd, hWd⟩ : ∃ W, W = wr.drew := ⟨_, rfl⟩
            have HSd : Hid (Below wr.heap.size wr Wd) := Lib.hid (by rw [hWd]; exact ⟨rfl, rfl, rfl, Nat.le_refl _, fun _ _ => rfl⟩)
            rw [← hWd]
            clear hWd
            (refine sched_take (v := ?_) rfl (by rfl) (fun W' hS => ?_) ?_; rotate_left; (have d0 := cellOld b0 (hS.block _ (cellLt b0)); have d1 := cellOld b1 (hS.block _ (cellLt b1)); have d2 := cellOld b2 (hS.block _ (cellLt b2)); have d3 := cellOld b3 (hS.block _ (cellLt b3)); have d4 := cellOld b4 (hS.block _ (cellLt b4)); go_simp; with_reducible rfl); (try simp only [Act.put, List.getElem_toArray, List.getElem_cons_succ, List.getElem_cons_zero, List.setIfInBounds_toArray, List.set_cons_zero, List.set_cons_succ]))
            (refine sched_take (v := ?_) rfl (by rfl) (fun W' hS => ?_) ?_; rotate_left; (have d0 := cellOld b0 (hS.block _ (cellLt b0)); have d1 := cellOld b1 (hS.block _ (cellLt b1)); have d2 := cellOld b2 (hS.block _ (cellLt b2)); have d3 := cellOld b3 (hS.block _ (cellLt b3)); have d4 := cellOld b4 (hS.block _ (cellLt b4)); go_simp; with_reducible rfl); (try simp only [Act.put, List.getElem_toArray, List.getElem_cons_succ, List.getElem_cons_zero, List.setIfInBounds_toArray, List.set_cons_zero, List.set_cons_succ]))
            (refine sched_take (v := ?_) rfl (by rfl) (fun W' hS => ?_) ?_; rotate_left; (have d0 := cellOld b0 (hS.block _ (cellLt b0)); have d1 := cellOld b1 (hS.block _ (cellLt b1)); have d2 := cellOld b2 (hS.block _ (cellLt b2)); have d3 := cellOld b3 (hS.block _ (cellLt b3)); have d4 := cellOld b4 (hS.block _ (cellLt b4)); go_simp; with_reducible rfl); (try simp only [Act.put, List.getElem_toArray, List.getElem_cons_succ, List.getElem_cons_zero, List.setIfInBounds_toArray, List.set_cons_zero, List.set_cons_succ]))
            (refine sched_take (v := ?_) rfl (by rfl) (fun W' hS => ?_) ?_; rotate_left; (have d0 := cellOld b0 (hS.block _ (cellLt b0)); have d1 := cellOld b1 (hS.block _ (cellLt b1)); have d2 := cellOld b2 (hS.block _ (cellLt b2)); have d3 := cellOld b3 (hS.block _ (cellLt b3)); have d4 := cellOld b4 (hS.block _ (cellLt b4)); go_simp; with_reducible rfl); (try simp only [Act.put, List.getElem_toArray, List.getElem_cons_succ, List.getElem_cons_zero, List.setIfInBounds_toArray, List.set_cons_zero, List.set_cons_succ]))
            (refine sched_take (v := ?_) rfl (by rfl) (fun W' hS => ?_) ?_; rotate_left; (have d0 := cellOld b0 (hS.block _ (cellLt b0)); have d1 := cellOld b1 (hS.block _ (cellLt b1)); have d2 := cellOld b2 (hS.block _ (cellLt b2)); have d3 := cellOld b3 (hS.block _ (cellLt b3)); have d4 := cellOld b4 (hS.block _ (cellLt b4)); go_simp; with_reducible rfl); (try simp only [Act.put, List.getElem_toArray, List.getElem_cons_succ, List.getElem_cons_zero, List.setIfInBounds_toArray, List.set_cons_zero, List.set_cons_succ]))
            refine sched_do rfl (fun K' hK => ?_)
            go_simp
            refine (below_ok l (.slice pt n pc) xf Wd (HT6.out.below HSd.out) (by have := HN.out; omega) HIF.out).mono ?_
            rintro e w27 ⟨ub, rfl, hu, hB⟩
            have HS27 : Hid (Below wr.heap.size wr w27) := Lib.hid (HSd.out.trans (hB.mono HSd.out.size))
            have HUB := Lib.hid hu
            clear hu
            clear hB
            refine hK.out _ _ HS27.out fun _ => ?_
            clear hK
            (try simp only [Act.put, List.getElem_toArray, List.getElem_cons_succ, List.getElem_cons_zero, List.setIfInBounds_toArray, List.set_cons_zero, List.set_cons_succ])
            refine sched_do rfl (fun K' hK => ?_)
            go_simp
            refine (has_ok (belowT (treeP l) xf) ub xp w27 HUB.out (belowT_few2 l xf)).mono ?_
            rintro e w28 ⟨rfl, hB⟩
            have HS28 : Hid (Below wr.heap.size wr w28) := Lib.hid (HS27.out.trans (hB.mono HS27.out.size))
            rw [HHB.out]
            clear hB
            refine hK.out _ _ HS28.out fun _ => ?_
            clear hK
            (try simp only [Act.put, List.getElem_toArray, List.getElem_cons_succ, List.getElem_cons_zero, List.setIfInBounds_toArray, List.set_cons_zero, List.set_cons_succ])
            (refine sched_take (v := ?_) rfl (by rfl) (fun W' hS => ?_) ?_; rotate_left; (have d0 := cellOld b0 (hS.block _ (cellLt b0)); have d1 := cellOld b1 (hS.block _ (cellLt b1)); have d2 := cellOld b2 (hS.block _ (cellLt b2)); have d3 := cellOld b3 (hS.block _ (cellLt b3)); have d4 := cellOld b4 (hS.block _ (cellLt b4)); go_simp; with_reducible rfl); (try simp only [Act.put, List.getElem_toArray, List.getElem_cons_succ, List.getElem_cons_zero, List.setIfInBounds_toArray, List.set_cons_zero, List.set_cons_succ]))
            (refine sched_skip rfl (by rfl) ?_; (try simp only [Act.put, List.getElem_toArray, List.getElem_cons_succ, List.getElem_cons_zero, List.setIfInBounds_toArray, List.set_cons_zero, List.set_cons_succ]))
            (refine sched_take (v := ?_) rfl (by rfl) (fun W' hS => ?_) ?_; rotate_left; (have d0 := cellOld b0 (hS.block _ (cellLt b0)); have d1 := cellOld b1 (hS.block _ (cellLt b1)); have d2 := cellOld b2 (hS.block _ (cellLt b2)); have d3 := cellOld b3 (hS.block _ (cellLt b3)); have d4 := cellOld b4 (hS.block _ (cellLt b4)); go_simp; with_reducible rfl); (try simp only [Act.put, List.getElem_toArray, List.getElem_cons_succ, List.getElem_cons_zero, List.setIfInBounds_toArray, List.set_cons_zero, List.set_cons_succ]))
            (refine sched_take (v := ?_) rfl (by rfl) (fun W' hS => ?_) ?_; rotate_left; (have d0 := cellOld b0 (hS.block _ (cellLt b0)); have d1 := cellOld b1 (hS.block _ (cellLt b1)); have d2 := cellOld b2 (hS.block _ (cellLt b2)); have d3 := cellOld b3 (hS.block _ (cellLt b3)); have d4 := cellOld b4 (hS.block _ (cellLt b4)); go_simp; with_reducible rfl); (try simp only [Act.put, List.getElem_toArray, List.getElem_cons_succ, List.getElem_cons_zero, List.setIfInBounds_toArray, List.set_cons_zero, List.set_cons_succ]))
            (refine sched_take (v := ?_) rfl (by rfl) (fun W' hS => ?_) ?_; rotate_left; (have d0 := cellOld b0 (hS.block _ (cellLt b0)); have d1 := cellOld b1 (hS.block _ (cellLt b1)); have d2 := cellOld b2 (hS.block _ (cellLt b2)); have d3 := cellOld b3 (hS.block _ (cellLt b3)); have d4 := cellOld b4 (hS.block _ (cellLt b4)); go_simp; with_reducible rfl); (try simp only [Act.put, List.getElem_toArray, List.getElem_cons_succ, List.getElem_cons_zero, List.setIfInBounds_toArray, List.set_cons_zero, List.set_cons_succ]))
            (refine sched_take (v := ?_) rfl (by rfl) (fun W' hS => ?_) ?_; rotate_left; (have d0 := cellOld b0 (hS.block _ (cellLt b0)); have d1 := cellOld b1 (hS.block _ (cellLt b1)); have d2 := cellOld b2 (hS.block _ (cellLt b2)); have d3 := cellOld b3 (hS.block _ (cellLt b3)); have d4 := cellOld b4 (hS.block _ (cellLt b4)); go_simp; with_reducible rfl); (try simp only [Act.put, List.getElem_toArray, List.getElem_cons_succ, List.getElem_cons_zero, List.setIfInBounds_toArray, List.set_cons_zero, List.set_cons_succ]))
            (refine sched_take (v := ?_) rfl (by rfl) (fun W' hS => ?_) ?_; rotate_left; (have d0 := cellOld b0 (hS.block _ (cellLt b0)); have d1 := cellOld b1 (hS.block _ (cellLt b1)); have d2 := cellOld b2 (hS.block _ (cellLt b2)); have d3 := cellOld b3 (hS.block _ (cellLt b3)); have d4 := cellOld b4 (hS.block _ (cellLt b4)); go_simp; with_reducible rfl); (try simp only [Act.put, List.getElem_toArray, List.getElem_cons_succ, List.getElem_cons_zero, List.setIfInBounds_toArray, List.set_cons_zero, List.set_cons_succ]))
            (refine sched_take (v := ?_) rfl (by rfl) (fun W' hS => ?_) ?_; rotate_left; (have d0 := cellOld b0 (hS.block _ (cellLt b0)); have d1 := cellOld b1 (hS.block _ (cellLt b1)); have d2 := cellOld b2 (hS.block _ (cellLt b2)); have d3 := cellOld b3 (hS.block _ (cellLt b3)); have d4 := cellOld b4 (hS.block _ (cellLt b4)); go_simp; with_reducible rfl); (try simp only [Act.put, List.getElem_toArray, List.getElem_cons_succ, List.getElem_cons_zero, List.setIfInBounds_toArray, List.set_cons_zero, List.set_cons_succ]))
            (refine sched_take (v := ?_) rfl (by rfl) (fun W' hS => ?_) ?_; rotate_left; (have d0 := cellOld b0 (hS.block _ (cellLt b0)); have d1 := cellOld b1 (hS.block _ (cellLt b1)); have d2 := cellOld b2 (hS.block _ (cellLt b2)); have d3 := cellOld b3 (hS.block _ (cellLt b3)); have d4 := cellOld b4 (hS.block _ (cellLt b4)); go_simp; with_reducible rfl); (try simp only [Act.put, List.getElem_toArray, List.getElem_cons_succ, List.getElem_cons_zero, List.setIfInBounds_toArray, List.set_cons_zero, List.set_cons_succ]))
            (refine sched_take (v := ?_) rfl (by rfl) (fun W' hS => ?_) ?_; rotate_left; (have d0 := cellOld b0 (hS.block _ (cellLt b0)); have d1 := cellOld b1 (hS.block _ (cellLt b1)); have d2 := cellOld b2 (hS.block _ (cellLt b2)); have d3 := cellOld b3 (hS.block _ (cellLt b3)); have d4 := cellOld b4 (hS.block _ (cellLt b4)); go_simp; with_reducible rfl); (try simp only [Act.put, List.getElem_toArray, List.getElem_cons_succ, List.getElem_cons_zero, List.setIfInBounds_toArray, List.set_cons_zero, List.set_cons_succ]))
            (refine sched_skip rfl (by rfl) ?_; (try simp only [Act.put, List.getElem_toArray, List.getElem_cons_succ, List.getElem_cons_zero, List.setIfInBounds_toArray, List.set_cons_zero, List.set_cons_succ]))
            (refine sched_take (v := ?_) rfl (by rfl) (fun W' hS => ?_) ?_; rotate_left; (have d0 := cellOld b0 (hS.block _ (cellLt b0)); have d1 := cellOld b1 (hS.block _ (cellLt b1)); have d2 := cellOld b2 (hS.block _ (cellLt b2)); have d3 := cellOld b3 (hS.block _ (cellLt b3)); have d4 := cellOld b4 (hS.block _ (cellLt b4)); go_simp; with_reducible rfl); (try simp only [Act.put, List.getElem_toArray, List.getElem_cons_succ, List.getElem_cons_zero, List.setIfInBounds_toArray, List.set_cons_zero, List.set_cons_succ]))
            (refine sched_take (v := ?_) rfl (by rfl) (fun W' hS => ?_) ?_; rotate_left; (have d0 := cellOld b0 (hS.block _ (cellLt b0)); have d1 := cellOld b1 (hS.block _ (cellLt b1)); have d2 := cellOld b2 (hS.block _ (cellLt b2)); have d3 := cellOld b3 (hS.block _ (cellLt b3)); have d4 := cellOld b4 (hS.block _ (cellLt b4)); go_simp; with_reducible rfl); (try simp only [Act.put, List.getElem_toArray, List.getElem_cons_succ, List.getElem_cons_zero, List.setIfInBounds_toArray, List.set_cons_zero, List.set_cons_succ]))
            (refine sched_take (v := ?_) rfl (by rfl) (fun W' hS => ?_) ?_; rotate_left; (have d0 := cellOld b0 (hS.block _ (cellLt b0)); have d1 := cellOld b1 (hS.block _ (cellLt b1)); have d2 := cellOld b2 (hS.block _ (cellLt b2)); have d3 := cellOld b3 (hS.block _ (cellLt b3)); have d4 := cellOld b4 (hS.block _ (cellLt b4)); go_simp; with_reducible rfl); (try simp only [Act.put, List.getElem_toArray, List.getElem_cons_succ, List.getElem_cons_zero, List.setIfInBounds_toArray, List.set_cons_zero, List.set_cons_succ]))
            (refine sched_take (v := ?_) rfl (by rfl) (fun W' hS => ?_) ?_; rotate_left; (have d0 := cellOld b0 (hS.block _ (cellLt b0)); have d1 := cellOld b1 (hS.block _ (cellLt b1)); have d2 := cellOld b2 (hS.block _ (cellLt b2)); have d3 := cellOld b3 (hS.block _ (cellLt b3)); have d4 := cellOld b4 (hS.block _ (cellLt b4)); go_simp; with_reducible rfl); (try simp only [Act.put, List.getElem_toArray, List.getElem_cons_succ, List.getElem_cons_zero, List.setIfInBounds_toArray, List.set_cons_zero, List.set_cons_succ]))
            (refine sched_take (v := ?_) rfl (by rfl) (fun W' hS => ?_) ?_; rotate_left; (have d0 := cellOld b0 (hS.block _ (cellLt b0)); have d1 := cellOld b1 (hS.block _ (cellLt b1)); have d2 := cellOld b2 (hS.block _ (cellLt b2)); have d3 := cellOld b3 (hS.block _ (cellLt b3)); have d4 := cellOld b4 (hS.block _ (cellLt b4)); go_simp; with_reducible rfl); (try simp only [Act.put, List.getElem_toArray, List.getElem_cons_succ, List.getElem_cons_zero, List.setIfInBounds_toArray, List.set_cons_zero, List.set_cons_succ]))
            (refine sched_take (v := ?_) rfl (by rfl) (fun W' hS => ?_) ?_; rotate_left; (have d0 := cellOld b0 (hS.block _ (cellLt b0)); have d1 := cellOld b1 (hS.block _ (cellLt b1)); have d2 := cellOld b2 (hS.block _ (cellLt b2)); have d3 := cellOld b3 (hS.block _ (cellLt b3)); have d4 := cellOld b4 (hS.block _ (cellLt b4)); go_simp; with_reducible rfl); (try simp only [Act.put, List.getElem_toArray, List.getElem_cons_succ, List.getElem_cons_zero, List.setIfInBounds_toArray, List.set_cons_zero, List.set_cons_succ]))
            refine sched_do rfl (fun K' hK => ?_)
            go_simp
            refine (reffect_ok (treeP l) L (.slice pr nr cr) ⟨xt, xd, xf, xp, xn⟩ w28 HF.out (HU46.out.below HS28.out) HK.out).mono ?_
            rintro e w29 ⟨rfl, hB⟩
            have HS29 : Hid (Below wr.heap.size wr w29) := Lib.hid (HS28.out.trans (hB.mono HS28.out.size))
            rw [← HEX.out]
            clear hB
            refine hK.out _ _ HS29.out fun _ => ?_
            clear hK
            (try simp only [Act.put, List.getElem_toArray, List.getElem_cons_succ, List.getElem_cons_zero, List.setIfInBounds_toArray, List.set_cons_zero, List.set_cons_succ])
            (refine sched_take (v := ?_) rfl (by rfl) (fun W' hS => ?_) ?_; rotate_left; (have d0 := cellOld b0 (hS.block _ (cellLt b0)); have d1 := cellOld b1 (hS.block _ (cellLt b1)); have d2 := cellOld b2 (hS.block _ (cellLt b2)); have d3 := cellOld b3 (hS.block _ (cellLt b3)); have d4 := cellOld b4 (hS.block _ (cellLt b4)); go_simp; with_reducible rfl); (try simp only [Act.put, List.getElem_toArray, List.getElem_cons_succ, List.getElem_cons_zero, List.setIfInBounds_toArray, List.set_cons_zero, List.set_cons_succ]))
            (refine sched_take (v := ?_) rfl (by rfl) (fun W' hS => ?_) ?_; rotate_left; (have d0 := cellOld b0 (hS.block _ (cellLt b0)); have d1 := cellOld b1 (hS.block _ (cellLt b1)); have d2 := cellOld b2 (hS.block _ (cellLt b2)); have d3 := cellOld b3 (hS.block _ (cellLt b3)); have d4 := cellOld b4 (hS.block _ (cellLt b4)); go_simp; with_reducible rfl); (try simp only [Act.put, List.getElem_toArray, List.getElem_cons_succ, List.getElem_cons_zero, List.setIfInBounds_toArray, List.set_cons_zero, List.set_cons_succ]))
            refine sched_done ?_
            refine NoPanic.normal ?_
            go_wp2_with fail
            refine (rsame_ok (treeP l) T2 _ _ w29 (HU46.out.below HS29.out) (HU56.out.below HS29.out) (by have := treeP_few l; omega) (by have := HN2.out; omega)).mono ?_
            rintro e w9 ⟨rfl, hB⟩
            rw [decide_eq_true HT2T.out.symm]
            have HBf := Lib.hid (below_trans HB6.out (HS29.out.trans (hB.mono HS29.out.size)))
            clear hB
            go_wp2_with fail
            go_ret
            exact ⟨rfl, HBf.out⟩
      | true =>
        obtain ⟨hst, hbad⟩ := eff_some HEX.out.symm
        obtain ⟨hb, hq⟩ := eff_out HF.out HK.out hbad
        have HHB : Hid (decide (xp ∈ belowT (treeP l) xf) = false) := Lib.hid (decide_eq_false hb)
        have HT2I : Hid (T2 = insT ⟨xt, xd, xf, xp, xn⟩ (treeP l)) := Lib.hid (by rw [HD2.out]; exact hst)
        have hq1 : (xp == xf) = false := by simpa using hq
        have hq2 : decide (xp = xf) = false := decide_eq_false hq
        clear hq hb hst hbad b0 b1 b2 b3 b4
        go_upto_region 17 with fail
        obtain ⟨b0, b1, b2, b3, b4⟩ := box_cells HX6.out
        dsimp only at b0 b1 b2 b3 b4
        refine wp_region_noPanic ?_
        refine region_sched (fun W' => Below wr.heap.size wr W') 100 [(0, true), (1, true), (2, true), (4, true), (5, true), (3, false), (6, false), (7, true), (8, true), (9, true), (10, true), (11, true), (12, true), (13, true), (14, true), (15, true), (16, true), (17, true), (18, true), (19, true), (20, true), (21, true), (22, true), (23, true), (24, false), (25, true), (26, true)] (by kernel_rfl) (by kernel_rfl) (by kernel_rfl) rfl (fun _ _ _ _ h => h) ⟨rfl, rfl, rfl, Nat.le_refl _, fun _ _ => rfl⟩ ?_
        obtain ⟨Wd, hWd⟩ : ∃ W, W = wr.drew := ⟨_, rfl⟩
        have HSd : Hid (Below wr.heap.size wr Wd) := Lib.hid (by rw [hWd]; exact ⟨rfl, rfl, rfl, Nat.le_refl _, fun _ _ => rfl⟩)
        rw [← hWd]
        clear hWd
        (refine sched_take (v := ?_) rfl (by rfl) (fun W' hS => ?_) ?_; rotate_left; (have d0 := cellOld b0 (hS.block _ (cellLt b0)); have d1 := cellOld b1 (hS.block _ (cellLt b1)); have d2 := cellOld b2 (hS.block _ (cellLt b2)); have d3 := cellOld b3 (hS.block _ (cellLt b3)); have d4 := cellOld b4 (hS.block _ (cellLt b4)); go_simp; with_reducible rfl); (try simp only [Act.put, List.getElem_toArray, List.getElem_cons_succ, List.getElem_cons_zero, List.setIfInBounds_toArray, List.set_cons_zero, List.set_cons_succ]))
        (refine sched_take (v := ?_) rfl (by rfl) (fun W' hS => ?_) ?_; rotate_left; (have d0 := cellOld b0 (hS.block _ (cellLt b0)); have d1 := cellOld b1 (hS.block _ (cellLt b1)); have d2 := cellOld b2 (hS.block _ (cellLt b2)); have d3 := cellOld b3 (hS.block _ (cellLt b3)); have d4 := cellOld b4 (hS.block _ (cellLt b4)); go_simp; with_reducible rfl); (try simp only [Act.put, List.getElem_toArray, List.getElem_cons_succ, List.getElem_cons_zero, List.setIfInBounds_toArray, List.set_cons_zero, List.set_cons_succ]))
        (refine sched_take (v := ?_) rfl (by rfl) (fun W' hS => ?_) ?_; rotate_left; (have d0 := cellOld b0 (hS.block _ (cellLt b0)); have d1 := cellOld b1 (hS.block _ (cellLt b1)); have d2 := cellOld b2 (hS.block _ (cellLt b2)); have d3 := cellOld b3 (hS.block _ (cellLt b3)); have d4 := cellOld b4 (hS.block _ (cellLt b4)); go_simp; with_reducible rfl); (try simp only [Act.put, List.getElem_toArray, List.getElem_cons_succ, List.getElem_cons_zero, List.setIfInBounds_toArray, List.set_cons_zero, List.set_cons_succ]))
        (refine sched_take (v := ?_) rfl (by rfl) (fun W' hS => ?_) ?_; rotate_left; (have d0 := cellOld b0 (hS.block _ (cellLt b0)); have d1 := cellOld b1 (hS.block _ (cellLt b1)); have d2 := cellOld b2 (hS.block _ (cellLt b2)); have d3 := cellOld b3 (hS.block _ (cellLt b3)); have d4 := cellOld b4 (hS.block _ (cellLt b4)); go_simp; with_reducible rfl); (try simp only [Act.put, List.getElem_toArray, List.getElem_cons_succ, List.getElem_cons_zero, List.setIfInBounds_toArray, List.set_cons_zero, List.set_cons_succ]))
        (refine sched_take (v := ?_) rfl (by rfl) (fun W' hS => ?_) ?_; rotate_left; (have d0 := cellOld b0 (hS.block _ (cellLt b0)); have d1 := cellOld b1 (hS.block _ (cellLt b1)); have d2 := cellOld b2 (hS.block _ (cellLt b2)); have d3 := cellOld b3 (hS.block _ (cellLt b3)); have d4 := cellOld b4 (hS.block _ (cellLt b4)); go_simp; with_reducible rfl); (try simp only [Act.put, List.getElem_toArray, List.getElem_cons_succ, List.getElem_cons_zero, List.setIfInBounds_toArray, List.set_cons_zero, List.set_cons_succ]))
        refine sched_do rfl (fun K' hK => ?_)
        go_simp
        refine (below_ok l (.slice pt n pc) xf Wd (HT6.out.below HSd.out) (by have := HN.out; omega) HIF.out).mono ?_
        rintro e w30 ⟨ub, rfl, hu, hB⟩
        have HS30 : Hid (Below wr.heap.size wr w30) := Lib.hid (HSd.out.trans (hB.mono HSd.out.size))
        have HUB := Lib.hid hu
        clear hu
        clear hB
        refine hK.out _ _ HS30.out fun _ => ?_
        clear hK
        (try simp only [Act.put, List.getElem_toArray, List.getElem_cons_succ, List.getElem_cons_zero, List.setIfInBounds_toArray, List.set_cons_zero, List.set_cons_succ])
        refine sched_do rfl (fun K' hK => ?_)
        go_simp
        refine (has_ok (belowT (treeP l) xf) ub xp w30 HUB.out (belowT_few2 l xf)).mono ?_
        rintro e w31 ⟨rfl, hB⟩
        have HS31 : Hid (Below wr.heap.size wr w31) := Lib.hid (HS30.out.trans (hB.mono HS30.out.size))
        rw [HHB.out]
        clear hB
        refine hK.out _ _ HS31.out fun _ => ?_
        clear hK
        (try simp only [Act.put, List.getElem_toArray, List.getElem_cons_succ, List.getElem_cons_zero, List.setIfInBounds_toArray, List.set_cons_zero, List.set_cons_succ])
        (refine sched_take (v := ?_) rfl (by rfl) (fun W' hS => ?_) ?_; rotate_left; (have d0 := cellOld b0 (hS.block _ (cellLt b0)); have d1 := cellOld b1 (hS.block _ (cellLt b1)); have d2 := cellOld b2 (hS.block _ (cellLt b2)); have d3 := cellOld b3 (hS.block _ (cellLt b3)); have d4 := cellOld b4 (hS.block _ (cellLt b4)); go_simp; with_reducible rfl); (try simp only [Act.put, List.getElem_toArray, List.getElem_cons_succ, List.getElem_cons_zero, List.setIfInBounds_toArray, List.set_cons_zero, List.set_cons_succ]))
        (refine sched_skip rfl (by rfl) ?_; (try simp only [Act.put, List.getElem_toArray, List.getElem_cons_succ, List.getElem_cons_zero, List.setIfInBounds_toArray, List.set_cons_zero, List.set_cons_succ]))
        (refine sched_take (v := ?_) rfl (by rfl) (fun W' hS => ?_) ?_; rotate_left; (have d0 := cellOld b0 (hS.block _ (cellLt b0)); have d1 := cellOld b1 (hS.block _ (cellLt b1)); have d2 := cellOld b2 (hS.block _ (cellLt b2)); have d3 := cellOld b3 (hS.block _ (cellLt b3)); have d4 := cellOld b4 (hS.block _ (cellLt b4)); go_simp; with_reducible rfl); (try simp only [Act.put, List.getElem_toArray, List.getElem_cons_succ, List.getElem_cons_zero, List.setIfInBounds_toArray, List.set_cons_zero, List.set_cons_succ]))
        (refine sched_take (v := ?_) rfl (by rfl) (fun W' hS => ?_) ?_; rotate_left; (have d0 := cellOld b0 (hS.block _ (cellLt b0)); have d1 := cellOld b1 (hS.block _ (cellLt b1)); have d2 := cellOld b2 (hS.block _ (cellLt b2)); have d3 := cellOld b3 (hS.block _ (cellLt b3)); have d4 := cellOld b4 (hS.block _ (cellLt b4)); go_simp; with_reducible rfl); (try simp only [Act.put, List.getElem_toArray, List.getElem_cons_succ, List.getElem_cons_zero, List.setIfInBounds_toArray, List.set_cons_zero, List.set_cons_succ]))
        (refine sched_take (v := ?_) rfl (by rfl) (fun W' hS => ?_) ?_; rotate_left; (have d0 := cellOld b0 (hS.block _ (cellLt b0)); have d1 := cellOld b1 (hS.block _ (cellLt b1)); have d2 := cellOld b2 (hS.block _ (cellLt b2)); have d3 := cellOld b3 (hS.block _ (cellLt b3)); have d4 := cellOld b4 (hS.block _ (cellLt b4)); go_simp; with_reducible rfl); (try simp only [Act.put, List.getElem_toArray, List.getElem_cons_succ, List.getElem_cons_zero, List.setIfInBounds_toArray, List.set_cons_zero, List.set_cons_succ]))
        (refine sched_take (v := ?_) rfl (by rfl) (fun W' hS => ?_) ?_; rotate_left; (have d0 := cellOld b0 (hS.block _ (cellLt b0)); have d1 := cellOld b1 (hS.block _ (cellLt b1)); have d2 := cellOld b2 (hS.block _ (cellLt b2)); have d3 := cellOld b3 (hS.block _ (cellLt b3)); have d4 := cellOld b4 (hS.block _ (cellLt b4)); go_simp; with_reducible rfl); (try simp only [Act.put, List.getElem_toArray, List.getElem_cons_succ, List.getElem_cons_zero, List.setIfInBounds_toArray, List.set_cons_zero, List.set_cons_succ]))
        (refine sched_take (v := ?_) rfl (by rfl) (fun W' hS => ?_) ?_; rotate_left; (have d0 := cellOld b0 (hS.block _ (cellLt b0)); have d1 := cellOld b1 (hS.block _ (cellLt b1)); have d2 := cellOld b2 (hS.block _ (cellLt b2)); have d3 := cellOld b3 (hS.block _ (cellLt b3)); have d4 := cellOld b4 (hS.block _ (cellLt b4)); go_simp; with_reducible rfl); (try simp only [Act.put, List.getElem_toArray, List.getElem_cons_succ, List.getElem_cons_zero, List.setIfInBounds_toArray, List.set_cons_zero, List.set_cons_succ]))
        (refine sched_take (v := ?_) rfl (by rfl) (fun W' hS => ?_) ?_; rotate_left; (have d0 := cellOld b0 (hS.block _ (cellLt b0)); have d1 := cellOld b1 (hS.block _ (cellLt b1)); have d2 := cellOld b2 (hS.block _ (cellLt b2)); have d3 := cellOld b3 (hS.block _ (cellLt b3)); have d4 := cellOld b4 (hS.block _ (cellLt b4)); go_simp; with_reducible rfl); (try simp only [Act.put, List.getElem_toArray, List.getElem_cons_succ, List.getElem_cons_zero, List.setIfInBounds_toArray, List.set_cons_zero, List.set_cons_succ]))
        (refine sched_take (v := ?_) rfl (by rfl) (fun W' hS => ?_) ?_; rotate_left; (have d0 := cellOld b0 (hS.block _ (cellLt b0)); have d1 := cellOld b1 (hS.block _ (cellLt b1)); have d2 := cellOld b2 (hS.block _ (cellLt b2)); have d3 := cellOld b3 (hS.block _ (cellLt b3)); have d4 := cellOld b4 (hS.block _ (cellLt b4)); go_simp; with_reducible rfl); (try simp only [Act.put, List.getElem_toArray, List.getElem_cons_succ, List.getElem_cons_zero, List.setIfInBounds_toArray, List.set_cons_zero, List.set_cons_succ]))
        (refine sched_take (v := ?_) rfl (by rfl) (fun W' hS => ?_) ?_; rotate_left; (have d0 := cellOld b0 (hS.block _ (cellLt b0)); have d1 := cellOld b1 (hS.block _ (cellLt b1)); have d2 := cellOld b2 (hS.block _ (cellLt b2)); have d3 := cellOld b3 (hS.block _ (cellLt b3)); have d4 := cellOld b4 (hS.block _ (cellLt b4)); go_simp; with_reducible rfl); (try simp only [Act.put, List.getElem_toArray, List.getElem_cons_succ, List.getElem_cons_zero, List.setIfInBounds_toArray, List.set_cons_zero, List.set_cons_succ]))
        (refine sched_skip rfl (by rfl) ?_; (try simp only [Act.put, List.getElem_toArray, List.getElem_cons_succ, List.getElem_cons_zero, List.setIfInBounds_toArray, List.set_cons_zero, List.set_cons_succ]))
        (refine sched_take (v := ?_) rfl (by rfl) (fun W' hS => ?_) ?_; rotate_left; (have d0 := cellOld b0 (hS.block _ (cellLt b0)); have d1 := cellOld b1 (hS.block _ (cellLt b1)); have d2 := cellOld b2 (hS.block _ (cellLt b2)); have d3 := cellOld b3 (hS.block _ (cellLt b3)); have d4 := cellOld b4 (hS.block _ (cellLt b4)); go_simp; with_reducible rfl); (try simp only [Act.put, List.getElem_toArray, List.getElem_cons_succ, List.getElem_cons_zero, List.setIfInBounds_toArray, List.set_cons_zero, List.set_cons_succ]))
        (refine sched_take (v := ?_) rfl (by rfl) (fun W' hS => ?_) ?_; rotate_left; (have d0 := cellOld b0 (hS.block _ (cellLt b0)); have d1 := cellOld b1 (hS.block _ (cellLt b1)); have d2 := cellOld b2 (hS.block _ (cellLt b2)); have d3 := cellOld b3 (hS.block _ (cellLt b3)); have d4 := cellOld b4 (hS.block _ (cellLt b4)); go_simp; with_reducible rfl); (try simp only [Act.put, List.getElem_toArray, List.getElem_cons_succ, List.getElem_cons_zero, List.setIfInBounds_toArray, List.set_cons_zero, List.set_cons_succ]))
        (refine sched_take (v := ?_) rfl (by rfl) (fun W' hS => ?_) ?_; rotate_left; (have d0 := cellOld b0 (hS.block _ (cellLt b0)); have d1 := cellOld b1 (hS.block _ (cellLt b1)); have d2 := cellOld b2 (hS.block _ (cellLt b2)); have d3 := cellOld b3 (hS.block _ (cellLt b3)); have d4 := cellOld b4 (hS.block _ (cellLt b4)); go_simp; with_reducible rfl); (try simp only [Act.put, List.getElem_toArray, List.getElem_cons_succ, List.getElem_cons_zero, List.setIfInBounds_toArray, List.set_cons_zero, List.set_cons_succ]))
        (refine sched_take (v := ?_) rfl (by rfl) (fun W' hS => ?_) ?_; rotate_left; (have d0 := cellOld b0 (hS.block _ (cellLt b0)); have d1 := cellOld b1 (hS.block _ (cellLt b1)); have d2 := cellOld b2 (hS.block _ (cellLt b2)); have d3 := cellOld b3 (hS.block _ (cellLt b3)); have d4 := cellOld b4 (hS.block _ (cellLt b4)); go_simp; with_reducible rfl); (try simp only [Act.put, List.getElem_toArray, List.getElem_cons_succ, List.getElem_cons_zero, List.setIfInBounds_toArray, List.set_cons_zero, List.set_cons_succ]))
        (refine sched_take (v := ?_) rfl (by rfl) (fun W' hS => ?_) ?_; rotate_left; (have d0 := cellOld b0 (hS.block _ (cellLt b0)); have d1 := cellOld b1 (hS.block _ (cellLt b1)); have d2 := cellOld b2 (hS.block _ (cellLt b2)); have d3 := cellOld b3 (hS.block _ (cellLt b3)); have d4 := cellOld b4 (hS.block _ (cellLt b4)); go_simp; with_reducible rfl); (try simp only [Act.put, List.getElem_toArray, List.getElem_cons_succ, List.getElem_cons_zero, List.setIfInBounds_toArray, List.set_cons_zero, List.set_cons_succ]))
        (refine sched_take (v := ?_) rfl (by rfl) (fun W' hS => ?_) ?_; rotate_left; (have d0 := cellOld b0 (hS.block _ (cellLt b0)); have d1 := cellOld b1 (hS.block _ (cellLt b1)); have d2 := cellOld b2 (hS.block _ (cellLt b2)); have d3 := cellOld b3 (hS.block _ (cellLt b3)); have d4 := cellOld b4 (hS.block _ (cellLt b4)); go_simp; with_reducible rfl); (try simp only [Act.put, List.getElem_toArray, List.getElem_cons_succ, List.getElem_cons_zero, List.setIfInBounds_toArray, List.set_cons_zero, List.set_cons_succ]))
        refine sched_do rfl (fun K' hK => ?_)
        go_simp
        refine (reffect_ok (treeP l) L (.slice pr nr cr) ⟨xt, xd, xf, xp, xn⟩ w31 HF.out (HU46.out.below HS31.out) HK.out).mono ?_
        rintro e w32 ⟨rfl, hB⟩
        have HS32 : Hid (Below wr.heap.size wr w32) := Lib.hid (HS31.out.trans (hB.mono HS31.out.size))
        rw [← HEX.out]
        clear hB
        refine hK.out _ _ HS32.out fun _ => ?_
        clear hK
        (try simp only [Act.put, List.getElem_toArray, List.getElem_cons_succ, List.getElem_cons_zero, List.setIfInBounds_toArray, List.set_cons_zero, List.set_cons_succ])
        (refine sched_take (v := ?_) rfl (by rfl) (fun W' hS => ?_) ?_; rotate_left; (have d0 := cellOld b0 (hS.block _ (cellLt b0)); have d1 := cellOld b1 (hS.block _ (cellLt b1)); have d2 := cellOld b2 (hS.block _ (cellLt b2)); have d3 := cellOld b3 (hS.block _ (cellLt b3)); have d4 := cellOld b4 (hS.block _ (cellLt b4)); go_simp; with_reducible rfl); (try simp only [Act.put, List.getElem_toArray, List.getElem_cons_succ, List.getElem_cons_zero, List.setIfInBounds_toArray, List.set_cons_zero, List.set_cons_succ]))
        (refine sched_take (v := ?_) rfl (by rfl) (fun W' hS => ?_) ?_; rotate_left; (have d0 := cellOld b0 (hS.block _ (cellLt b0)); have d1 := cellOld b1 (hS.block _ (cellLt b1)); have d2 := cellOld b2 (hS.block _ (cellLt b2)); have d3 := cellOld b3 (hS.block _ (cellLt b3)); have d4 := cellOld b4 (hS.block _ (cellLt b4)); go_simp; with_reducible rfl); (try simp only [Act.put, List.getElem_toArray, List.getElem_cons_succ, List.getElem_cons_zero, List.setIfInBounds_toArray, List.set_cons_zero, List.set_cons_succ]))
        refine sched_done ?_
        refine NoPanic.normal ?_
        have HB7 := Lib.hid (below_trans HB6.out HS32.out)
        have HU47 := Lib.hid (HU46.out.below HS32.out)
        have HU57 := Lib.hid (HU56.out.below HS32.out)
        have HX7 := Lib.hid ((HS32.out.block A hAl6).trans HX6.out)
        have hAl7 : A < w32.heap.size := Nat.lt_of_lt_of_le hAl6 HS32.out.size
        clear b0 b1 b2 b3 b4
        have HFE : Hid (∀ e ∈ treeP l, e.f ≠ xf → e ∈ T2) := Lib.hid (fun e he hne => by rw [HT2I.out]; exact (mem_insT HF.out.sort e).2 (.inr ⟨he, hne⟩))
        have HLEN : Hid (n2 = ((treeP l).filter fun e => decide (e.f ≠ xf)).length + 1) := Lib.hid (by rw [HN2.out, HT2I.out]; exact insT_length HF.out.sort)
        have hr16 : nr ≤ 16 := by rw [HNR.out]; exact treeP_few l
        clear HT2I
        go_wp2_with fail
        go_loopw [10, 11] (fun v10 v11 wq => ∃ (i m : Nat), v10 = .int .i64 m ∧ v11 = .int .i64 i ∧ i ≤ nr ∧ m ≤ i ∧ Hid (m = (((treeP l).take i).filter fun e => decide (e.f ≠ xf)).length) ∧ Hid (Below w32.heap.size w32 wq)) (fun _ v11 _ => nr - (intOf v11).toNat)
        case atStart => exact ⟨0, 0, rfl, rfl, Nat.zero_le _, Nat.le_refl _, Lib.hid (by simp), Lib.hid (Below.refl _ _)⟩
        case round =>
          obtain ⟨i, m, rfl, rfl, hin0, hmi, HM, HBq⟩ := hrel
          by_cases hin : i < nr
          case neg =>
            have hd := decide_eq_false (show ¬ ((i : Int) < (nr : Int)) by omega)
            have hd' := decide_eq_false hin
            have hlen : n2 = m + 1 := by
              rw [HLEN.out, HM.out, List.take_of_length_le (by rw [← HNR.out]; omega)]
            have hz1 : ((n2 : Int) == (m : Int) + 1) = true := by rw [hlen]; simp
            have hz2 : decide ((n2 : Int) = (m : Int) + 1) = true := decide_eq_true (by rw [hlen]; simp)
            have hz3 : (n2 == m + 1) = true := by rw [hlen]; simp
            have hz4 : decide (n2 = m + 1) = true := decide_eq_true hlen
            have HBf := Lib.hid (below_trans HB7.out HBq.out)
            clear hlen hin
            go_wp2_with fail
            go_ret
            exact ⟨rfl, HBf.out⟩
          have hd := decide_eq_true (show ((i : Int) < (nr : Int)) by omega)
          have hd' := decide_eq_true hin
          obtain ⟨e, he, ht1⟩ := take_at (l := treeP l) (j := i) (by rw [← HNR.out]; exact hin)
          obtain ⟨gr, og, rfl, hcs⟩ := HU47.out.cells.2.2 (by omega)
          have HCE := Lib.hid (hcs i e he)
          have HMEM : Hid (e.f ≠ xf → e ∈ T2) := Lib.hid (fun hne => HFE.out e (List.mem_iff_getElem?.2 ⟨i, he⟩) hne)
          have HM2 : Hid ((((treeP l).take (i + 1)).filter fun e => decide (e.f ≠ xf)).length = m + (if e.f ≠ xf then 1 else 0)) := Lib.hid (by
            rw [ht1, List.filter_append, List.length_append, ← HM.out]
            by_cases h : e.f = xf <;> simp [h])
          obtain ⟨c0, c1, c2, c3, c4⟩ := HCE.out.below HBq.out
          obtain ⟨b0, b1, b2, b3, b4⟩ := box_cells ((HBq.out.block A hAl7).trans HX7.out)
          obtain ⟨et, ed, ef, ep, en⟩ := e
          dsimp only at c0 c1 c2 c3 c4 b0 b1 b2 b3 b4 HMEM HM2
          clear hcs he ht1
          by_cases hf : ef = xf
          case pos =>
            have he1 : (ef == xf) = true := by simpa using hf
            have he2 : decide (ef = xf) = true := decide_eq_true hf
            have HM3 : Hid (m = (((treeP l).take (i + 1)).filter fun e => decide (e.f ≠ xf)).length) := Lib.hid (by rw [HM2.out, if_neg (fun h => h hf)]; rfl)
            clear hf
            go_upto_region 25 with fail
            go_quiet (fail)
            go_wp2_with fail
            exact ⟨⟨i + 1, m, rfl, by go_num, by omega, by omega, HM3, Lib.hid (HBq.out.trans ⟨rfl, rfl, rfl, Nat.le_refl _, fun _ _ => rfl⟩)⟩, by simp only [intOf]; omega⟩
          have he1 : (ef == xf) = false := by simpa using hf
          have he2 : decide (ef = xf) = false := decide_eq_false hf
          have HM3 : Hid (m + 1 = (((treeP l).take (i + 1)).filter fun e => decide (e.f ≠ xf)).length) := Lib.hid (by rw [HM2.out, if_pos hf])
          have HIN := Lib.hid (HMEM.out hf)
          clear hf HMEM HM2 HM
          go_upto_region 25 with fail
          go_quiet (fail)
          clear b0 b1 b2 b3 b4 c0 c1 c2 c3 c4 he1 he2
          go_wp2_with fail
          go_loopw [12, 13] (fun v12 v13 wz => ∃ (j : Nat) (fx : Bool), v12 = .bool fx ∧ v13 = .int .i64 j ∧ j ≤ n2 ∧ Hid (fx = decide ((⟨et, ed, ef, ep, en⟩ : Pl) ∈ T2.take j)) ∧ Hid (Below w32.heap.size w32 wz)) (fun _ v13 _ => n2 - (intOf v13).toNat)
          case atStart => exact ⟨0, false, rfl, rfl, Nat.zero_le _, Lib.hid (by simp), Lib.hid (HBq.out.trans ⟨rfl, rfl, rfl, Nat.le_refl _, fun _ _ => rfl⟩)⟩
          case round =>
            obtain ⟨j, fx, rfl, rfl, hjn0, HE, HBz⟩ := hrel
            by_cases hjn : j < n2
            case neg =>
              have hd := decide_eq_false (show ¬ ((j : Int) < (n2 : Int)) by omega)
              have hd' := decide_eq_false hjn
              obtain rfl : fx = true := by rw [HE.out, List.take_of_length_le (by rw [← HN2.out]; omega)]; exact decide_eq_true HIN.out
              clear hjn HE
              go_wp2_with fail
              exact ⟨⟨i + 1, m + 1, by go_num, by go_num, by omega, by omega, HM3, HBz⟩, by simp only [intOf]; omega⟩
            have hd := decide_eq_true (show ((j : Int) < (n2 : Int)) by omega)
            have hd' := decide_eq_true hjn
            obtain ⟨y, hy, ht1⟩ := take_at (l := T2) (j := j) (by rw [← HN2.out]; exact hjn)
            obtain ⟨gg, oo, rfl, hcs⟩ := HU57.out.cells.2.2 (by omega)
            obtain ⟨b0, b1, b2, b3, b4⟩ := (hcs j y hy).below HBz.out
            obtain ⟨c0, c1, c2, c3, c4⟩ := HCE.out.below HBz.out
            have HE2 := Lib.hid (take_mem (e := (⟨et, ed, ef, ep, en⟩ : Pl)) ht1)
            obtain ⟨yt, yd, yf, yp, yn⟩ := y
            dsimp only at c0 c1 c2 c3 c4 b0 b1 b2 b3 b4
            rw [← HE.out] at HE2
            clear hcs hy ht1 HE
            cases fx with
            | true =>
              have HE3 : Hid (true = decide ((⟨et, ed, ef, ep, en⟩ : Pl) ∈ T2.take (j + 1))) := Lib.hid (by rw [HE2.out]; rfl)
              go_upto_region 31 with fail
              go_quiet (fail)
              go_wp2_with fail
              exact ⟨⟨j + 1, true, rfl, by go_num, by omega, HE3, Lib.hid (HBz.out.trans ⟨rfl, rfl, rfl, Nat.le_refl _, fun _ _ => rfl⟩)⟩, by simp only [intOf]; omega⟩
            | false =>
              by_cases ht : yt = et
              case neg =>
                have he1 : (yt == et) = false := by simpa using ht
                have he2 : decide (yt = et) = false := by simpa using ht
                have HE3 : Hid (false = decide ((⟨et, ed, ef, ep, en⟩ : Pl) ∈ T2.take (j + 1))) := Lib.hid (by rw [HE2.out, decide_eq_false (fun hh => ht (by cases hh; rfl))]; rfl)
                clear ht
                go_upto_region 31 with fail
                go_quiet (fail)
                go_wp2_with fail
                exact ⟨⟨j + 1, false, rfl, by go_num, by omega, HE3, Lib.hid (HBz.out.trans ⟨rfl, rfl, rfl, Nat.le_refl _, fun _ _ => rfl⟩)⟩, by simp only [intOf]; omega⟩
              have ht' := ht.symm
              clear ht
              subst ht'
              by_cases hd : yd = ed
              case neg =>
                have he1 : (yd == ed) = false := by simpa using hd
                have he2 : decide (yd = ed) = false := by simpa using hd
                have HE3 : Hid (false = decide ((⟨et, ed, ef, ep, en⟩ : Pl) ∈ T2.take (j + 1))) := Lib.hid (by rw [HE2.out, decide_eq_false (fun hh => hd (by cases hh; rfl))]; rfl)
                clear hd
                go_upto_region 31 with fail
                go_quiet (fail)
                go_wp2_with fail
                exact ⟨⟨j + 1, false, rfl, by go_num, by omega, HE3, Lib.hid (HBz.out.trans ⟨rfl, rfl, rfl, Nat.le_refl _, fun _ _ => rfl⟩)⟩, by simp only [intOf]; omega⟩
              have hd' := hd.symm
              clear hd
              subst hd'
              by_cases hf : yf = ef
              case neg =>
                have he1 : (yf == ef) = false := by simpa using hf
                have he2 : decide (yf = ef) = false := by simpa using hf
                have HE3 : Hid (false = decide ((⟨et, ed, ef, ep, en⟩ : Pl) ∈ T2.take (j + 1))) := Lib.hid (by rw [HE2.out, decide_eq_false (fun hh => hf (by cases hh; rfl))]; rfl)
                clear hf
                go_upto_region 31 with fail
                go_quiet (fail)
                go_wp2_with fail
                exact ⟨⟨j + 1, false, rfl, by go_num, by omega, HE3, Lib.hid (HBz.out.trans ⟨rfl, rfl, rfl, Nat.le_refl _, fun _ _ => rfl⟩)⟩, by simp only [intOf]; omega⟩
              have hf' := hf.symm
              clear hf
              subst hf'
              by_cases hp : yp = ep
              case neg =>
                have he1 : (yp == ep) = false := by simpa using hp
                have he2 : decide (yp = ep) = false := by simpa using hp
                have HE3 : Hid (false = decide ((⟨et, ed, ef, ep, en⟩ : Pl) ∈ T2.take (j + 1))) := Lib.hid (by rw [HE2.out, decide_eq_false (fun hh => hp (by cases hh; rfl))]; rfl)
                clear hp
                go_upto_region 31 with fail
                go_quiet (fail)
                go_wp2_with fail
                exact ⟨⟨j + 1, false, rfl, by go_num, by omega, HE3, Lib.hid (HBz.out.trans ⟨rfl, rfl, rfl, Nat.le_refl _, fun _ _ => rfl⟩)⟩, by simp only [intOf]; omega⟩
              have hp' := hp.symm
              clear hp
              subst hp'
              by_cases hn : yn = en
              case neg =>
                have he0 : ¬ yn.toList = en.toList := fun h => hn (bytes_toList.1 h)
                have he1 : (yn.toList == en.toList) = false := by simpa using he0
                have he2 : decide (yn.toList = en.toList) = false := by simpa using he0
                have HE3 : Hid (false = decide ((⟨et, ed, ef, ep, en⟩ : Pl) ∈ T2.take (j + 1))) := Lib.hid (by rw [HE2.out, decide_eq_false (fun hh => hn (by cases hh; rfl))]; rfl)
                clear hn
                go_upto_region 31 with fail
                go_quiet (fail)
                go_wp2_with fail
                exact ⟨⟨j + 1, false, rfl, by go_num, by omega, HE3, Lib.hid (HBz.out.trans ⟨rfl, rfl, rfl, Nat.le_refl _, fun _ _ => rfl⟩)⟩, by simp only [intOf]; omega⟩
              have hn' := hn.symm
              clear hn
              subst hn'
              have HE3 : Hid (true = decide ((⟨et, ed, ef, ep, en⟩ : Pl) ∈ T2.take (j + 1))) := Lib.hid (by rw [HE2.out, decide_eq_true rfl]; rfl)
              go_upto_region 31 with fail
              go_quiet (fail)
              go_wp2_with fail
              exact ⟨⟨j + 1, true, rfl, by go_num, by omega, HE3, Lib.hid (HBz.out.trans ⟨rfl, rfl, rfl, Nat.le_refl _, fun _ _ => rfl⟩)⟩, by simp only [intOf]; omega⟩
theorem last_w {H : Type} {enc : TypeId × Value → H} {w : World} {base : Nat} (v : Value) (d : DataW H) (p : List MemPlace) (h : DataW.Trod enc Try.prog w 0 (fun _ => true) true 22 v d p) (hv : Value.okWide Try.prog w .any base 22 v)
    (v1 : Value) (d1 : DataW H) (p1 : List MemPlace) (h1 : DataW.Trod enc Try.prog w 0 (fun _ => true) true 24 v1 d1 p1) (hv1 : Value.okWide Try.prog w .any base 24 v1) :
    Calls Try.prog 9 #[v, v1] w fun e w' => e = .returned (.bool true) ∧ Below w.heap.size w w' := by
  obtain ⟨l, ht, hl⟩ := placesIn h hv
  obtain ⟨x, rfl, -, -, hI, -⟩ := placeIn h1 hv1
  exact last_walk l v x w ht hl hI
end Go.Proofs.Ytcflnjmglanneaa
