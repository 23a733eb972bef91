/- The walk of FoldersFindSpec. -/
import Derived.Test.YtcflnjmglanneaaUn
import Derived.Test.YtcflnjmglanneaaRg
namespace Go.Proofs.Ytcflnjmglanneaa
open Go.RowKit Go.Maps Go.Sort
set_option maxRecDepth 100000
set_option linter.unusedVariables false
set_option linter.unusedSimpArgs false

theorem wp_sput {P : Program} {k e : TypeId} {α : Type} {E : SKind α} {o : Oper} {a : Act} {w : World} {K : Act → World → Prop} {Q : Exit → Act → World → Prop} (m x v : Operand) (t : TypeId) (hop : o.op = Op.mapUpdate t m x v) (hk : P.underlying k = some (.int .i64)) (ht : P.underlying t = some (.map k e))
    (b n : Nat) (f : Int → Option α) (hm : a.eval m = .map (some b)) (h : SMap P E k w b n f) (hn : n < maxLen) (z : Int) (hx : a.eval x = .int .i64 z) (hw : I64 z) (u : α) (hv : a.eval v = E.ev u)
    (hK : ∀ w', SMap P E k w' b (n + 1) (fun y => if y = z then some u else f y) → w.mapTurned w' b → K (a.put o.dst undef) w') : o.wp P a w K Q := by
  obtain ⟨w', hr, h1, h2⟩ := h.put (u := u) hk ht hn hw
  unfold Oper.wp
  simp [execOp, hop, hm, hx, hv, hr, Result.andThen]
  exact hK w' h1 h2
theorem str_inj (x y : ByteArray) (h : Value.string x = Value.string y) : x = y := by injection h
noncomputable def KS : SKind ByteArray := SKind.of Value.string ByteArray.empty str_inj
def MapS (w : World) (b n : Nat) (f : Int → Option ByteArray) : Prop := SMap Try.prog KS 3 w b n f
theorem zero_string (w : World) : (zeroValue 9).run Try.prog w = .ok (.string ByteArray.empty) w := by first | exact Try.zeroValue9 w | rfl
theorem MapS.look {w : World} {b n : Nat} {f : Int → Option ByteArray} (h : MapS w b n f) {x : Int} (hx : I64 x) : ∃ s, (Instr.lookup 38 (.map (some b)) (.int .i64 x) false).run Try.prog w = .ok (.string s) w :=
  ⟨_, SMap.look (E := KS) h Try.underlying3 Try.underlying38 (zero_string w) hx false⟩
theorem info_str : (Try.prog.info? 9).map (fun i => (i.zero, i.size, i.bytes)) = some (some (.string ⟨#[]⟩), 1, 16) := by kernel_rfl
theorem upT_I64 {T : List Pl} (hok : ∀ e ∈ T, okP e) : ∀ (n : Nat) (x y : Int), y ∈ upT T n x → I64 y
  | 0, x, y, h => by simp [upT] at h
  | n + 1, x, y, h => by
    unfold upT at h
    split at h
    · rename_i e he
      have hk := (hok e (placeT_some he).1).2.2.2.1
      split at h
      · rcases List.mem_cons.1 h with rfl | h
        · exact I64.of ⟨by omega, by omega⟩
        · exact upT_I64 hok n _ y h
      · simp at h
    · simp at h
theorem below_app1 {w wr w5 : World} {e : TypeId} {k n : Nat} {v : Value} {xs : List Value} (h : wr.ownsRow w.heap.size e k v n xs) (hB : Below w.heap.size w wr) (hg : wr.grownBy w5 v.ownBlock) : Below w.heap.size w w5 := by
  refine hB.trans ⟨hg.os, hg.tape, hg.output, hg.size, fun j hj => hg.block j (by have := hB.size; omega) (fun e => ?_)⟩
  have := (h.lt j e.symm).1
  omega
set_option maxHeartbeats 16000000 in
theorem findSpec_walk (l : List Pl) (nm : List ByteArray) (v u : Value) (w : World) (ht : PlAt w v l) (hl : l.length ≤ maxLen) (hs : StrsAt w u nm) (hsl : nm.length ≤ maxLen) :
    Calls Try.prog 5 #[v, u] w fun e w' => e = .returned (.bool true) ∧ Below w.heap.size w w' := by
  obtain ⟨pt, pc, rfl, hc, -⟩ := ht.form
  obtain ⟨ps, sc, rfl, hsc⟩ := hs.form
  have HT := Lib.hid ht
  have HS := Lib.hid hs
  obtain ⟨n, hn⟩ : ∃ n, n = l.length := ⟨_, rfl⟩
  have HN := Lib.hid hn
  obtain ⟨q, hq⟩ : ∃ n, n = nm.length := ⟨_, rfl⟩
  have HQ := Lib.hid hq
  rw [← hn] at HT hl hc ⊢
  rw [← hq] at HS hsl hsc ⊢
  obtain ⟨L, hF⟩ := treeP_frst l
  have HF := Lib.hid hF
  obtain ⟨fi, fb, hfb⟩ : ∃ fi fb, findT (treeP l) nm = (fi, fb) := ⟨_, _, rfl⟩
  have HFB := Lib.hid hfb
  clear ht hs hn hq hF hfb
  go_enter Try.func5, Try.ntmps5
  go_wp2_with fail
  refine (sane_ok w).mono ?_
  rintro e W1 ⟨rfl, hB⟩
  have HB1 : Hid (Below w.heap.size w W1) := Lib.hid (hB)
  have HT_1 := Lib.hid ((HT.out).below hB)
  have HS_1 := Lib.hid ((HS.out).below hB)
  clear hB HT HS
  go_wp2_with fail
  refine (few_ok pt none n pc 0 0 W1 hl (Nat.zero_le _)).mono ?_
  rintro e W2 ⟨rfl, rfl⟩
  by_cases h30 : n ≤ 30
  case neg =>
    rw [decide_eq_false (show ¬ (n ≤ 30 ∧ 0 ≤ 30) from fun h => h30 h.1)]
    clear h30
    go_wp2_with fail
    go_ret
    exact ⟨rfl, HB1.out⟩
  rw [decide_eq_true (show (n ≤ 30 ∧ 0 ≤ 30) from ⟨h30, by decide⟩)]
  by_cases h20 : 20 < q
  case pos =>
    have hd := decide_eq_true (show ((q : Int) > 20) by omega)
    have hd2 := decide_eq_true (show ((20 : Int) < q) by omega)
    have hd3 := decide_eq_true h20
    go_wp2_with fail
    go_ret
    exact ⟨rfl, HB1.out⟩
  have hd := decide_eq_false (show ¬ ((q : Int) > 20) by omega)
  have hd2 := decide_eq_false (show ¬ ((20 : Int) < q) by omega)
  have hd3 := decide_eq_false h20
  go_wp2_with fail
  refine (find_ok l nm (.slice pt n pc) (.slice ps q sc) W1 HT_1.out (by have := HN.out; omega) HS_1.out (by have := HQ.out; omega)).mono ?_
  rintro e W2 ⟨rfl, hB⟩
  have HB2 : Hid (Below w.heap.size w W2) := Lib.hid (below_trans HB1.out hB)
  have HT_2 := Lib.hid ((HT_1.out).below hB)
  have HS_2 := Lib.hid ((HS_1.out).below hB)
  rw [HFB.out]
  dsimp only
  clear hB HB1 HT_1 HS_1
  go_wp2_with fail
  refine (rfind_ok l nm (.slice pt n pc) (.slice ps q sc) W2 HT_2.out (by have := HN.out; omega) HS_2.out (by have := HQ.out; omega)).mono ?_
  rintro e W3 ⟨rfl, hB⟩
  have HB3 : Hid (Below w.heap.size w W3) := Lib.hid (below_trans HB2.out hB)
  have HT_3 := Lib.hid ((HT_2.out).below hB)
  have HS_3 := Lib.hid ((HS_2.out).below hB)
  rw [HFB.out]
  dsimp only
  have hx1 : (fb != fb) = false := by cases fb <;> rfl
  have hx2 : (fi != fi) = false := by simp
  clear hB HB2 HT_2 HS_2
  go_wp2_with fail
  refine (rtree_ok l (.slice pt n pc) W3 HT_3.out (by have := HN.out; omega)).mono ?_
  rintro e W4 ⟨ut, rfl, hu, hB⟩
  have HB4 : Hid (Below w.heap.size w W4) := Lib.hid (below_trans HB3.out hB)
  have HT_4 := Lib.hid ((HT_3.out).below hB)
  have HS_4 := Lib.hid ((HS_3.out).below hB)
  obtain ⟨pr, cr, hv, -⟩ := (show _ from hu.form)
  obtain ⟨nr, hnr⟩ : ∃ z, z = (treeP l).length := ⟨_, rfl⟩
  have HU_4 := Lib.hid hu
  rw [← hnr] at hv
  have HNR := Lib.hid hnr
  subst hv
  clear hu hnr hx1 hx2
  clear hB HB3 HT_3 HS_3
  have hr16 : nr ≤ 16 := by rw [HNR.out]; exact HF.out.few
  have hmm := @run_makeMap Try.prog
  have hM0 : MapS (W4.alloc (.map #[] 0)) W4.heap.size 0 (fun _ => none) := SMap.made Try.prog KS 3 W4
  have hM0B := below_alloc W4 (.map #[] 0)
  obtain ⟨M, hM⟩ : ∃ M, M = W4.heap.size := ⟨_, rfl⟩
  obtain ⟨W5, hW5⟩ : ∃ W, W = W4.alloc (.map #[] 0) := ⟨_, rfl⟩
  rw [← hM, ← hW5] at hM0
  rw [← hW5] at hM0B
  have HM0 := Lib.hid hM0
  have HM0B := Lib.hid hM0B
  have HME := Lib.hid hM
  have HW5 := Lib.hid hW5
  clear hM0 hM0B hM hW5
  go_wp2_with fail
  clear hmm
  try rw [← HW5.out]
  try rw [← HME.out]
  go_loopw [11] (fun v11 wr => ∃ (k m : Nat) (f : Int → Option ByteArray), v11 = .int .i64 k ∧ k ≤ nr ∧ m ≤ k ∧ Hid (MapS wr M m f) ∧ Hid (Below W4.heap.size W4 wr)) (fun v11 _ => nr - (intOf v11).toNat)
  case atStart => exact ⟨0, 0, _, rfl, Nat.zero_le _, Nat.le_refl _, HM0, HM0B⟩
  case round =>
    obtain ⟨k, m, f, rfl, hk, hmk, HM, HBr⟩ := hrel
    by_cases hkn : k < nr
    case pos =>
      have hd := decide_eq_true (show ((k : Int) < (nr : Int)) by omega)
      have hd' := decide_eq_true hkn
      obtain ⟨e, he, ht1⟩ := take_at (l := treeP l) (j := k) (by rw [← HNR.out]; exact hkn)
      obtain ⟨gg, oo, rfl, hcs⟩ := (HU_4.out).cells.2.2 (by omega)
      obtain ⟨-, -, c2, -, c4⟩ := (hcs k e he).below HBr.out
      have hokf := (HF.out.ok e (List.mem_iff_getElem?.2 ⟨k, he⟩)).2.2.1
      obtain ⟨et, ed, ef, ep, en⟩ := e
      dsimp only at c2 c4 hokf
      have HIF : Hid (I64 ef) := Lib.hid (I64.of ⟨by omega, by omega⟩)
      clear hcs he ht1 hokf
      go_upto_region 14 with fail
      refine wp_region_noPanic ?_
      refine region_sched (fun W' => Below wr.heap.size wr W') 11 [(0, true), (1, true), (2, true), (3, true), (4, true), (5, true), (6, true), (7, true), (8, true), (9, true), (10, true), (11, false)] (by kernel_rfl) (by kernel_rfl) (by kernel_rfl) rfl (fun _ _ _ _ h => h) ⟨rfl, rfl, rfl, Nat.le_refl _, fun _ _ => rfl⟩ ?_
      obtain ⟨Wd, hWd⟩ : ∃ W, W = wr.drew := ⟨_, rfl⟩
      have HSd : Hid (Below wr.heap.size wr Wd) := Lib.hid (by rw [hWd]; exact ⟨rfl, rfl, rfl, Nat.le_refl _, fun _ _ => rfl⟩)
      have HMd : Hid (MapS Wd M m f) := Lib.hid (SMap.of_block HM.out (by rw [hWd]; rfl))
      rw [← hWd]
      clear hWd
      (refine sched_take (v := ?_) rfl (by rfl) (fun W' hS => ?_) ?_; rotate_left; (have d2 := cellOld c2 (hS.block _ (cellLt c2)); have d4 := cellOld c4 (hS.block _ (cellLt c4)); go_simp; with_reducible rfl); (try simp only [Act.put, List.getElem_toArray, List.getElem_cons_succ, List.getElem_cons_zero, List.setIfInBounds_toArray, List.set_cons_zero, List.set_cons_succ]))
      (refine sched_take (v := ?_) rfl (by rfl) (fun W' hS => ?_) ?_; rotate_left; (have d2 := cellOld c2 (hS.block _ (cellLt c2)); have d4 := cellOld c4 (hS.block _ (cellLt c4)); go_simp; with_reducible rfl); (try simp only [Act.put, List.getElem_toArray, List.getElem_cons_succ, List.getElem_cons_zero, List.setIfInBounds_toArray, List.set_cons_zero, List.set_cons_succ]))
      (refine sched_take (v := ?_) rfl (by rfl) (fun W' hS => ?_) ?_; rotate_left; (have d2 := cellOld c2 (hS.block _ (cellLt c2)); have d4 := cellOld c4 (hS.block _ (cellLt c4)); go_simp; with_reducible rfl); (try simp only [Act.put, List.getElem_toArray, List.getElem_cons_succ, List.getElem_cons_zero, List.setIfInBounds_toArray, List.set_cons_zero, List.set_cons_succ]))
      (refine sched_take (v := ?_) rfl (by rfl) (fun W' hS => ?_) ?_; rotate_left; (have d2 := cellOld c2 (hS.block _ (cellLt c2)); have d4 := cellOld c4 (hS.block _ (cellLt c4)); go_simp; with_reducible rfl); (try simp only [Act.put, List.getElem_toArray, List.getElem_cons_succ, List.getElem_cons_zero, List.setIfInBounds_toArray, List.set_cons_zero, List.set_cons_succ]))
      (refine sched_take (v := ?_) rfl (by rfl) (fun W' hS => ?_) ?_; rotate_left; (have d2 := cellOld c2 (hS.block _ (cellLt c2)); have d4 := cellOld c4 (hS.block _ (cellLt c4)); go_simp; with_reducible rfl); (try simp only [Act.put, List.getElem_toArray, List.getElem_cons_succ, List.getElem_cons_zero, List.setIfInBounds_toArray, List.set_cons_zero, List.set_cons_succ]))
      (refine sched_take (v := ?_) rfl (by rfl) (fun W' hS => ?_) ?_; rotate_left; (have d2 := cellOld c2 (hS.block _ (cellLt c2)); have d4 := cellOld c4 (hS.block _ (cellLt c4)); go_simp; with_reducible rfl); (try simp only [Act.put, List.getElem_toArray, List.getElem_cons_succ, List.getElem_cons_zero, List.setIfInBounds_toArray, List.set_cons_zero, List.set_cons_succ]))
      (refine sched_take (v := ?_) rfl (by rfl) (fun W' hS => ?_) ?_; rotate_left; (have d2 := cellOld c2 (hS.block _ (cellLt c2)); have d4 := cellOld c4 (hS.block _ (cellLt c4)); go_simp; with_reducible rfl); (try simp only [Act.put, List.getElem_toArray, List.getElem_cons_succ, List.getElem_cons_zero, List.setIfInBounds_toArray, List.set_cons_zero, List.set_cons_succ]))
      (refine sched_take (v := ?_) rfl (by rfl) (fun W' hS => ?_) ?_; rotate_left; (have d2 := cellOld c2 (hS.block _ (cellLt c2)); have d4 := cellOld c4 (hS.block _ (cellLt c4)); go_simp; with_reducible rfl); (try simp only [Act.put, List.getElem_toArray, List.getElem_cons_succ, List.getElem_cons_zero, List.setIfInBounds_toArray, List.set_cons_zero, List.set_cons_succ]))
      (refine sched_take (v := ?_) rfl (by rfl) (fun W' hS => ?_) ?_; rotate_left; (have d2 := cellOld c2 (hS.block _ (cellLt c2)); have d4 := cellOld c4 (hS.block _ (cellLt c4)); go_simp; with_reducible rfl); (try simp only [Act.put, List.getElem_toArray, List.getElem_cons_succ, List.getElem_cons_zero, List.setIfInBounds_toArray, List.set_cons_zero, List.set_cons_succ]))
      (refine sched_take (v := ?_) rfl (by rfl) (fun W' hS => ?_) ?_; rotate_left; (have d2 := cellOld c2 (hS.block _ (cellLt c2)); have d4 := cellOld c4 (hS.block _ (cellLt c4)); go_simp; with_reducible rfl); (try simp only [Act.put, List.getElem_toArray, List.getElem_cons_succ, List.getElem_cons_zero, List.setIfInBounds_toArray, List.set_cons_zero, List.set_cons_succ]))
      (refine sched_take (v := ?_) rfl (by rfl) (fun W' hS => ?_) ?_; rotate_left; (have d2 := cellOld c2 (hS.block _ (cellLt c2)); have d4 := cellOld c4 (hS.block _ (cellLt c4)); go_simp; with_reducible rfl); (try simp only [Act.put, List.getElem_toArray, List.getElem_cons_succ, List.getElem_cons_zero, List.setIfInBounds_toArray, List.set_cons_zero, List.set_cons_succ]))
      refine sched_end rfl (fun K' hK => ?_)
      split
      rotate_left
      · rename_i h; exact absurd (by rfl) h
      refine wp_sput (E := KS) _ _ _ 38 rfl Try.underlying3 Try.underlying38 M m f rfl HMd.out (by unfold maxLen; omega) ef rfl HIF.out en rfl ?_
      intro w' hm' ht'
      have HBn : Hid (Below W4.heap.size W4 w') := Lib.hid ((turned_away ht').bel (HBr.out.trans (HSd.out.mono HBr.out.size)) (Nat.le_of_eq HME.out.symm) (Nat.le_refl _))
      have HMn := Lib.hid hm'
      clear hm' ht'
      refine hK.out _ _ ?_
      clear hK
      refine NoPanic.normal ?_
      (try simp only [Act.put, List.getElem_toArray, List.getElem_cons_succ, List.getElem_cons_zero, List.setIfInBounds_toArray, List.set_cons_zero, List.set_cons_succ])
      go_wp2_with fail
      exact ⟨⟨k + 1, m + 1, _, by go_num, by omega, by omega, HMn, HBn⟩, by simp only [intOf]; omega⟩
    have hd := decide_eq_false (show ¬ ((k : Int) < (nr : Int)) by omega)
    have hd' := decide_eq_false hkn
    have HU6 := Lib.hid ((HU_4.out).below HBr.out)
    have HT6 := Lib.hid ((HT_4.out).below HBr.out)
    have HB6 := Lib.hid (below_trans HB4.out HBr.out)
    obtain ⟨i0, hi, hz0, hz1, hzb⟩ := info_parts info_str
    clear hkn HBr HM0 HM0B
    rename World => W6
    go_wp2_with fail
    go_loopw [12] (fun v12 wx => ∃ k2 : Nat, v12 = .int .i64 k2 ∧ k2 ≤ nr ∧ Hid (Below W6.heap.size W6 wx)) (fun v12 _ => nr - (intOf v12).toNat)
    case atStart => exact ⟨0, rfl, Nat.zero_le _, Lib.hid (Below.refl _ _)⟩
    case round =>
      obtain ⟨k2, rfl, hk2, HBx⟩ := hrel
      by_cases hkn : k2 < nr
      case neg =>
        have hd := decide_eq_false (show ¬ ((k2 : Int) < (nr : Int)) by omega)
        have hd' := decide_eq_false hkn
        have HBf := Lib.hid (below_trans HB6.out HBx.out)
        clear hkn
        go_wp2_with fail
        go_ret
        exact ⟨rfl, HBf.out⟩
      have hd := decide_eq_true (show ((k2 : Int) < (nr : Int)) by omega)
      have hd' := decide_eq_true hkn
      obtain ⟨e, he, ht1⟩ := take_at (l := treeP l) (j := k2) (by rw [← HNR.out]; exact hkn)
      obtain ⟨gg, oo, rfl, hcs⟩ := HU6.out.cells.2.2 (by omega)
      obtain ⟨-, -, c2, -, c4⟩ := (hcs k2 e he).below HBx.out
      obtain ⟨et, ed, ef, ep, en⟩ := e
      dsimp only at c2 c4
      have HP0 : Hid (StrsAt (wr.alloc (.cells #[.string en] 9)) (.slice (some ⟨wr.heap.size, 0, none⟩) 1 1) [en]) := Lib.hid (lit_strs wr [en] (by simp))
      have HBa := Lib.hid (HBx.out.trans ((below_alloc wr (.cells #[.string en] 9)).mono HBx.out.size))
      have c2' := cellOld c2 ((below_alloc wr (.cells #[.string en] 9)).block _ (cellLt c2))
      clear hcs he ht1
      go_wp2_with fail
      refine (rabove_ok l (.slice pt n pc) ef (wr.alloc (.cells #[.string en] 9)) (HT6.out.below HBa.out) (by have := HN.out; omega)).mono ?_
      rintro e W7 ⟨ua, rfl, hu, hB⟩
      obtain ⟨pa, ca, hv, -⟩ := (show _ from hu)
      obtain ⟨na, hna⟩ : ∃ z, z = (upT (treeP l) 32 ef).length := ⟨_, rfl⟩
      have HUA := Lib.hid hu
      rw [← hna] at hv
      have HNA := Lib.hid hna
      subst hv
      have HP7 := Lib.hid (HP0.out.below hB)
      have HB7 := Lib.hid (HBa.out.trans (hB.mono HBa.out.size))
      have hna7 : na ≤ 7 := by rw [hna, HF.out.len (by decide)]; exact HF.out.le ef
      clear hu hna hB HP0 HBa c2' c2 c4
      obtain ⟨hp, hhp⟩ : ∃ z, z = wr.heap.size := ⟨_, rfl⟩
      rw [← hhp] at HP7 ⊢
      clear hhp
      go_wp2_with fail
      go_loopw [13, 15] (fun v13 v15 wz => ∃ (j : Nat) (N : List ByteArray) (p : Option Addr) (c : Nat), v13 = .slice p (j + 1 : Nat) c ∧ v15 = .int .i64 j ∧ j ≤ na ∧ Hid (N.length = j + 1) ∧ Hid (StrsAt wz (.slice p (j + 1) c) N) ∧ Hid (Below W7.heap.size W7 wz)) (fun _ v15 _ => na - (intOf v15).toNat)
      case atStart => exact ⟨0, [en], _, _, rfl, rfl, Nat.zero_le _, Lib.hid rfl, HP7, Lib.hid (Below.refl _ _)⟩
      case round =>
        obtain ⟨j, N, p, c, rfl, rfl, hj, HNL, HPz, HBz⟩ := hrel
        by_cases hjn : j < na
        case pos =>
          have hd := decide_eq_true (show ((j : Int) < (na : Int)) by omega)
          have hd' := decide_eq_true hjn
          obtain ⟨y, hy⟩ : ∃ z, z = (upT (treeP l) 32 ef).getD j 0 := ⟨_, rfl⟩
          obtain ⟨-, hcell⟩ := row_ints HUA.out rfl
          obtain ⟨g, o, rfl, hcs⟩ := hcell (by omega)
          have hck := hcs j hjn
          rw [← hy] at hck
          have hcr := cellOld hck (HBz.out.block g (cellLt hck))
          have hIy : I64 y := upT_I64 HF.out.ok 32 ef y (by
            have hjl : j < (upT (treeP l) 32 ef).length := by rw [← HNA.out]; exact hjn
            rw [hy]
            simp only [List.getD, List.getElem?_eq_getElem hjl, Option.getD_some]
            exact List.getElem_mem _)
          have hmz : MapS wr M m f := SMap.below HM.out (HB7.out.trans (HBz.out.mono HB7.out.size)) (SMap.lt HM.out)
          obtain ⟨s, hlk⟩ := hmz.look hIy
          clear hck hcs hcell hy hIy hmz
          go_wp2_with (at_builtin; refine Hid.out ?_)
          refine Lib.hid ?_
          refine wpList_plain rfl fun _ hK => ?_
          have hbal := below_alloc wr (.cells #[.string s] 9)
          have hownS : (wr.alloc (.cells #[.string s] 9)).ownsRow wr.heap.size 9 1 (.slice (some ⟨wr.heap.size, 0, none⟩) 1 1) 1 [.string s] := World.ownsRow_lit (base := wr.heap.size) (size := 1) (e := 9) wr #[.string s] 1 (Nat.le_refl _) (by unfold maxLen; omega) (by simp)
          refine wp_append_row _ _ 35 rfl _ 9 i0 (.string ⟨#[]⟩) 1 16 Try.underlying35 hi hz0 hz1 hzb rfl (by decide) _ _ _ rfl hownS _ (j + 1) (N.map Value.string) rfl (by have h := HPz.out.below hbal; unfold StrsAt at h; rw [HNL.out] at h; exact h) (by intro u hu; obtain ⟨z, -, rfl⟩ := List.mem_map.1 hu; rfl) (by unfold maxLen; omega) (by omega) (by rw [World.size_alloc]; omega) ?_
          intro v' w5 hown hg
          obtain ⟨q', c', rfl⟩ : ∃ q c, v' = .slice q (j + 1 + 1) c := by
            rcases hown.2 with ⟨rfl, hn⟩ | ⟨g, cap, cur, rfl, -⟩
            · omega
            · exact ⟨_, _, by rw [Nat.add_comm 1 (j + 1)]⟩
          have HP5 : Hid (StrsAt w5 (.slice q' (j + 1 + 1) c') (s :: N)) := Lib.hid (by
            have h : RowAt w5 (.slice q' (j + 1 + 1) c') 1 (1 + (j + 1)) (.string s :: N.map Value.string) := RowAt.of_own hown
            rw [Nat.add_comm 1 (j + 1)] at h
            unfold StrsAt
            rw [List.length_cons, HNL.out]
            exact h)
          have HN5 : Hid ((s :: N).length = j + 1 + 1) := Lib.hid (by rw [List.length_cons, HNL.out])
          have HB5 := Lib.hid (HBz.out.trans ((below_app1 hownS hbal hg).mono HBz.out.size))
          clear hown hg hownS hbal
          refine hK _ _ ?_
          clear hK hlk
          go_wp2_with fail
          exact ⟨⟨j + 1, s :: N, q', c', rfl, by go_num, by omega, HN5, HP5, HB5⟩, by simp only [intOf]; omega⟩
        have hd := decide_eq_false (show ¬ ((j : Int) < (na : Int)) by omega)
        have hd' := decide_eq_false hjn
        obtain ⟨gi, gb, hgb⟩ : ∃ gi gb, findT (treeP l) N = (gi, gb) := ⟨_, _, rfl⟩
        have HGB := Lib.hid hgb
        have HBA := Lib.hid (HB7.out.trans (HBz.out.mono HB7.out.size))
        clear hgb hjn
        go_wp2_with fail
        refine (find_ok l N (.slice pt n pc) (.slice p (j + 1) c) wr (HT6.out.below HBA.out) (by have := HN.out; omega) HPz.out (by rw [HNL.out]; omega)).mono ?_
        rintro e W8 ⟨rfl, hB⟩
        rw [HGB.out]
        dsimp only
        have HBB := Lib.hid (HBA.out.trans (hB.mono HBA.out.size))
        have HP8 := Lib.hid (HPz.out.below hB)
        clear hB HBA HPz
        go_wp2_with fail
        refine (rfind_ok l N (.slice pt n pc) (.slice p (j + 1) c) W8 (HT6.out.below HBB.out) (by have := HN.out; omega) HP8.out (by rw [HNL.out]; omega)).mono ?_
        rintro e W9 ⟨rfl, hB⟩
        rw [HGB.out]
        dsimp only
        have hx1 : (gb != gb) = false := by cases gb <;> rfl
        have hx2 : (gi != gi) = false := by simp
        have HBC := Lib.hid (HBB.out.trans (hB.mono HBB.out.size))
        clear hB HBB HP8
        go_wp2_with fail
        exact ⟨⟨k2 + 1, by go_num, by omega, HBC⟩, by simp only [intOf]; omega⟩
theorem findSpec_w {H : Type} {enc : TypeId × Value → H} {w : World} {base : Nat} (v : Value) (d : DataW H) (p : List MemPlace) (h : DataW.Trod enc Try.prog w 0 (fun _ => true) true 22 v d p) (hv : Value.okWide Try.prog w .any base 22 v)
    (v1 : Value) (d1 : DataW H) (p1 : List MemPlace) (h1 : DataW.Trod enc Try.prog w 0 (fun _ => true) true 35 v1 d1 p1) (hv1 : Value.okWide Try.prog w .any base 35 v1) :
    Calls Try.prog 5 #[v, v1] w fun e w' => e = .returned (.bool true) ∧ Below w.heap.size w w' := by
  obtain ⟨l, ht, hl⟩ := placesIn h hv
  obtain ⟨nm, hs, hsl⟩ := strsIn h1 hv1
  exact findSpec_walk l nm v v1 w ht hl hs hsl
end Go.Proofs.Ytcflnjmglanneaa
