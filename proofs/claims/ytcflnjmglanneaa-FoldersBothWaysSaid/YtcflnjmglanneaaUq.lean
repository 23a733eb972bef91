/- The walk of FoldersBothWays. -/
import Derived.Test.YtcflnjmglanneaaUp
namespace Go.Proofs.Ytcflnjmglanneaa
open Go.RowKit Go.Maps Go.Sort
set_option maxRecDepth 100000
set_option linter.unusedVariables false
set_option linter.unusedSimpArgs false

theorem belowT_few (l : List Pl) (x : Int) : (belowT (treeP l) x).length ≤ 1000000 := by
  have h16 := treeP_few l
  unfold belowT
  split
  · rw [List.length_map]; have := List.length_filter_le (fun e : Pl => decide (e.f = x ∨ x ∈ upT (treeP l) 32 e.f)) (treeP l); omega
  · simp
theorem decide_eq_any {T : List Pl} {L : Int → Nat} (h : Frst T L) {x : Int} : decide (x ∈ belowT T x) = T.any fun e => decide (e.f = x) := by
  rw [Bool.eq_iff_iff]
  simp only [decide_eq_true_eq, List.any_eq_true]
  rw [self_below h]
  constructor
  · intro hs
    obtain ⟨e, he⟩ := Option.isSome_iff_exists.1 hs
    obtain ⟨m1, m2⟩ := placeT_some he
    exact ⟨e, m1, m2⟩
  · rintro ⟨e, he, rfl⟩
    rw [h.sort.once e he]; rfl
set_option maxHeartbeats 600000 in
theorem bothWays_walk (l : List Pl) (v : Value) (a b : Int) (w : World) (ht : PlAt w v l) (hl : l.length ≤ maxLen) :
    Calls Try.prog 8 #[v, .int .i64 a, .int .i64 b] w fun e w' => e = .returned (.bool true) ∧ Below w.heap.size w w' := by
  obtain ⟨pt, pc, rfl, hc, -⟩ := ht.form
  have HT := Lib.hid ht
  obtain ⟨n, hn⟩ : ∃ n, n = l.length := ⟨_, rfl⟩
  have HN := Lib.hid hn
  rw [← hn] at HT hl hc ⊢
  have h15a := and15 a
  have h15b := and15 b
  obtain ⟨X, hX⟩ : ∃ X, X = a % 16 := ⟨_, rfl⟩
  obtain ⟨Y, hY⟩ : ∃ Y, Y = b % 16 := ⟨_, rfl⟩
  rw [← hX] at h15a
  rw [← hY] at h15b
  have HXI : Hid (I64 X) := Lib.hid (I64.of ⟨by omega, by omega⟩)
  have HYI : Hid (I64 Y) := Lib.hid (I64.of ⟨by omega, by omega⟩)
  obtain ⟨L, hF⟩ := treeP_frst l
  have HF := Lib.hid hF
  have HLn : Hid (l.length ≤ 30 → l.length ≤ 100000) := Lib.hid (fun h => by omega)
  clear ht hX hY hF hn
  go_enter Try.func8, Try.ntmps8
  go_wp2_with fail
  refine (sane_ok w).mono ?_
  rintro e W1 ⟨rfl, hB⟩
  have HB1 : Hid (Below w.heap.size w W1) := Lib.hid (hB)
  have HT_1 := Lib.hid ((HT.out).below hB)
  clear hB HT
  go_wp2_with fail
  refine (few_ok pt none n pc 0 0 W1 hl (Nat.zero_le _)).mono ?_
  rintro e W2 ⟨rfl, rfl⟩
  by_cases h30 : n ≤ 30
  case neg =>
    rw [decide_eq_false (show ¬ (n ≤ 30 ∧ 0 ≤ 30) from fun h => h30 h.1)]
    clear h30
    go_wp2_with fail
    go_ret
    exact ⟨rfl, HB1.out⟩
  rw [decide_eq_true (show (n ≤ 30 ∧ 0 ≤ 30) from ⟨h30, by decide⟩)]
  have hll : l.length ≤ 100000 := by have := HN.out; omega
  have HLL := Lib.hid hll
  clear hll
  go_wp2_with fail
  refine (below_ok l (.slice pt n pc) X W1 HT_1.out HLL.out HXI.out).mono ?_
  rintro e W2 ⟨ub, rfl, hu, hB⟩
  have HB2 : Hid (Below w.heap.size w W2) := Lib.hid (below_trans HB1.out hB)
  have HT_2 := Lib.hid ((HT_1.out).below hB)
  obtain ⟨pb, cb, hv, -⟩ := (show _ from hu)
  obtain ⟨nb, hnb⟩ : ∃ z, z = (belowT (treeP l) X).length := ⟨_, rfl⟩
  have HUB_2 := Lib.hid hu
  rw [← hnb] at hv
  have HNB := Lib.hid hnb
  subst hv
  clear hu hnb h15a h15b
  clear hB HB1 HT_1
  go_wp2_with fail
  refine (above_ok l (.slice pt n pc) Y W2 HT_2.out HLL.out HYI.out).mono ?_
  rintro e W3 ⟨ua, rfl, hu, hB⟩
  have HB3 : Hid (Below w.heap.size w W3) := Lib.hid (below_trans HB2.out hB)
  have HT_3 := Lib.hid ((HT_2.out).below hB)
  have HUB_3 := Lib.hid (ints_below HUB_2.out hB)
  obtain ⟨pa, ca, hv, -⟩ := (show _ from hu)
  obtain ⟨na, hna⟩ : ∃ z, z = (upT (treeP l) 32 Y).length := ⟨_, rfl⟩
  have HUA_3 := Lib.hid hu
  rw [← hna] at hv
  have HNA := Lib.hid hna
  subst hv
  clear hu hna
  clear hB HB2 HT_2 HUB_2
  go_wp2_with fail
  refine (tree_ok l (.slice pt n pc) W3 HT_3.out HLL.out).mono ?_
  rintro e W4 ⟨ut, rfl, hu, hB⟩
  have HB4 : Hid (Below w.heap.size w W4) := Lib.hid (below_trans HB3.out hB)
  have HT_4 := Lib.hid ((HT_3.out).below hB)
  have HUB_4 := Lib.hid (ints_below HUB_3.out hB)
  have HUA_4 := Lib.hid (ints_below HUA_3.out hB)
  obtain ⟨pr, cr, hv, -⟩ := hu.form
  obtain ⟨nr, hnr⟩ : ∃ z, z = (treeP l).length := ⟨_, rfl⟩
  have HUT_4 := Lib.hid hu
  rw [← hnr] at hv
  have HNR := Lib.hid hnr
  subst hv
  clear hu hnr
  clear hB HB3 HT_3 HUB_3 HUA_3
  have hnr16 : nr ≤ 16 := by rw [HNR.out]; exact treeP_few l
  have HBLL : Hid ((belowT (treeP l) X).length ≤ 1000000 ∧ (upT (treeP l) 32 Y).length ≤ 1000000 ∧ (belowT (treeP l) Y).length ≤ 1000000) := Lib.hid (by
    refine ⟨belowT_few l X, ?_, belowT_few l Y⟩
    rw [HF.out.len (by decide)]; have := HF.out.le Y; omega)
  go_wp2_with fail
  go_loopw [11, 13] (fun v11 v13 wr => ∃ (k : Nat) (ex : Bool), v11 = .bool ex ∧ v13 = .int .i64 k ∧ k ≤ nr ∧ Hid (ex = ((treeP l).take k).any fun e => decide (e.f = X)) ∧ wr = W4) (fun _ v13 _ => nr - (intOf v13).toNat)
  case atStart => exact ⟨0, false, rfl, rfl, Nat.zero_le _, Lib.hid rfl, rfl⟩
  case round =>
    obtain ⟨k, ex, rfl, rfl, hk, HE, hwr⟩ := hrel
    rw [hwr]
    clear hwr
    by_cases hkn : k < nr
    case pos =>
      have hd := decide_eq_true (show ((k : Int) < (nr : Int)) by omega)
      have hd' := decide_eq_true hkn
      obtain ⟨e, he, ht1⟩ := take_at (l := treeP l) (j := k) (by rw [← HNR.out]; exact hkn)
      obtain ⟨g, o, rfl, hcs⟩ := (HUT_4.out.cells).2.2 (by omega)
      obtain ⟨c0, c1, c2, c3, c4⟩ := hcs k e he
      have HE2 : Hid ((((treeP l).take (k + 1)).any fun e => decide (e.f = X)) = (ex || decide (e.f = X))) := Lib.hid (by rw [ht1, List.any_append, ← HE.out]; simp)
      obtain ⟨et, ed, ef, ep, en⟩ := e
      dsimp only at c0 c1 c2 c3 c4 HE2
      clear hcs he ht1
      cases ex with
      | true =>
        go_wp2_with fail
        exact ⟨⟨k + 1, true, rfl, by go_num, by omega, Lib.hid (by rw [HE2.out]; rfl), by trivial⟩, by simp only [intOf]; omega⟩
      | false =>
        by_cases hfx : ef = X
        · have hf1 : (ef == X) = true := by simpa using hfx
          have hf2 : decide (ef = X) = true := decide_eq_true hfx
          have HE3 : Hid (true = ((treeP l).take (k + 1)).any fun e => decide (e.f = X)) := Lib.hid (by rw [HE2.out, hf2]; rfl)
          clear hfx
          go_wp2_with fail
          exact ⟨⟨k + 1, true, rfl, by go_num, by omega, HE3, by trivial⟩, by simp only [intOf]; omega⟩
        · have hf1 : (ef == X) = false := by simpa using hfx
          have hf2 : decide (ef = X) = false := decide_eq_false hfx
          have HE3 : Hid (false = ((treeP l).take (k + 1)).any fun e => decide (e.f = X)) := Lib.hid (by rw [HE2.out, hf2]; rfl)
          clear hfx
          go_wp2_with fail
          exact ⟨⟨k + 1, false, rfl, by go_num, by omega, HE3, by trivial⟩, by simp only [intOf]; omega⟩
    have hd := decide_eq_false (show ¬ ((k : Int) < (nr : Int)) by omega)
    have hd' := decide_eq_false hkn
    have HEX : Hid (decide (X ∈ belowT (treeP l) X) = ex) := Lib.hid (by
      have h := HE.out
      rw [List.take_of_length_le (by rw [← HNR.out]; omega)] at h
      rw [h, decide_eq_any HF.out])
    clear HE hkn
    go_wp2_with fail
    refine (has_ok (belowT (treeP l) X) (.slice pb nb cb) X W4 HUB_4.out HBLL.out.1).mono ?_
    rintro e W5 ⟨rfl, hB⟩
    have HB5 : Hid (Below w.heap.size w W5) := Lib.hid (below_trans HB4.out hB)
    have HT_5 := Lib.hid ((HT_4.out).below hB)
    have HUB_5 := Lib.hid (ints_below HUB_4.out hB)
    have HUA_5 := Lib.hid (ints_below HUA_4.out hB)
    rw [HEX.out]
    clear hB HB4 HT_4 HUB_4 HUA_4
    have hxx : (ex != ex) = false := by cases ex <;> rfl
    by_cases hXY : X = Y
    case pos =>
      have he1 : (X == Y) = true := by simpa using hXY
      have he2 : (X != Y) = false := by simpa using hXY
      have he3 : decide (X = Y) = true := decide_eq_true hXY
      clear hXY
      go_wp2_with fail
      refine (has_ok (upT (treeP l) 32 Y) (.slice pa na ca) Y W5 HUA_5.out HBLL.out.2.1).mono ?_
      rintro e W6 ⟨rfl, hB⟩
      have HB6 : Hid (Below w.heap.size w W6) := Lib.hid (below_trans HB5.out hB)
      have HT_6 := Lib.hid ((HT_5.out).below hB)
      have HUB_6 := Lib.hid (ints_below HUB_5.out hB)
      have HUA_6 := Lib.hid (ints_below HUA_5.out hB)
      rw [decide_eq_false (upT_self HF.out Y)]
      clear hB HB5 HT_5 HUB_5 HUA_5
      go_wp2_with fail
      go_ret
      exact ⟨rfl, HB6.out⟩
    have HXY := Lib.hid hXY
    have he1 : (X == Y) = false := by simpa using hXY
    have he2 : (X != Y) = true := by simpa using hXY
    have he3 : decide (X = Y) = false := decide_eq_false hXY
    have HBW : Hid (decide (X ∈ upT (treeP l) 32 Y) = decide (Y ∈ belowT (treeP l) X)) := Lib.hid (decide_eq_decide.2 (both_ways HF.out hXY).symm)
    clear hXY
    obtain ⟨r, hr⟩ : ∃ r, r = decide (Y ∈ belowT (treeP l) X) := ⟨_, rfl⟩
    have HR := Lib.hid hr
    clear hr
    go_wp2_with fail
    refine (has_ok (belowT (treeP l) X) (.slice pb nb cb) Y W5 HUB_5.out HBLL.out.1).mono ?_
    rintro e W6 ⟨rfl, hB⟩
    have HB6 : Hid (Below w.heap.size w W6) := Lib.hid (below_trans HB5.out hB)
    have HT_6 := Lib.hid ((HT_5.out).below hB)
    have HUB_6 := Lib.hid (ints_below HUB_5.out hB)
    have HUA_6 := Lib.hid (ints_below HUA_5.out hB)
    rw [← HR.out]
    clear hB HB5 HT_5 HUB_5 HUA_5
    go_wp2_with fail
    refine (has_ok (upT (treeP l) 32 Y) (.slice pa na ca) X W6 HUA_6.out HBLL.out.2.1).mono ?_
    rintro e W7 ⟨rfl, hB⟩
    have HB7 : Hid (Below w.heap.size w W7) := Lib.hid (below_trans HB6.out hB)
    have HT_7 := Lib.hid ((HT_6.out).below hB)
    have HUB_7 := Lib.hid (ints_below HUB_6.out hB)
    have HUA_7 := Lib.hid (ints_below HUA_6.out hB)
    rw [HBW.out, ← HR.out]
    have hrr : (r != r) = false := by cases r <;> rfl
    clear hB HB6 HT_6 HUB_6 HUA_6
    go_wp2_with fail
    refine (has_ok (upT (treeP l) 32 Y) (.slice pa na ca) Y W7 HUA_7.out HBLL.out.2.1).mono ?_
    rintro e W8 ⟨rfl, hB⟩
    have HB8 : Hid (Below w.heap.size w W8) := Lib.hid (below_trans HB7.out hB)
    have HT_8 := Lib.hid ((HT_7.out).below hB)
    have HUB_8 := Lib.hid (ints_below HUB_7.out hB)
    have HUA_8 := Lib.hid (ints_below HUA_7.out hB)
    rw [decide_eq_false (upT_self HF.out Y)]
    clear hB HB7 HT_7 HUB_7 HUA_7
    go_wp2_with fail
    refine (has_ok (belowT (treeP l) X) (.slice pb nb cb) Y W8 HUB_8.out HBLL.out.1).mono ?_
    rintro e W9 ⟨rfl, hB⟩
    have HB9 : Hid (Below w.heap.size w W9) := Lib.hid (below_trans HB8.out hB)
    have HT_9 := Lib.hid ((HT_8.out).below hB)
    have HUB_9 := Lib.hid (ints_below HUB_8.out hB)
    have HUA_9 := Lib.hid (ints_below HUA_8.out hB)
    rw [← HR.out]
    clear hB HB8 HT_8 HUB_8 HUA_8
    cases r with
    | false =>
      go_wp2_with fail
      go_ret
      exact ⟨rfl, HB9.out⟩
    | true =>
      have HYB : Hid (Y ∈ belowT (treeP l) X) := Lib.hid (of_decide_eq_true HR.out.symm)
      clear hxx hrr
      go_wp2_with fail
      refine (below_ok l (.slice pt n pc) Y W9 HT_9.out HLL.out HYI.out).mono ?_
      rintro e W10 ⟨ui, rfl, hu, hB⟩
      have HB10 : Hid (Below w.heap.size w W10) := Lib.hid (below_trans HB9.out hB)
      have HT_10 := Lib.hid ((HT_9.out).below hB)
      have HUB_10 := Lib.hid (ints_below HUB_9.out hB)
      have HUA_10 := Lib.hid (ints_below HUA_9.out hB)
      obtain ⟨pi, ci, hv, -⟩ := (show _ from hu)
      obtain ⟨ni, hni⟩ : ∃ z, z = (belowT (treeP l) Y).length := ⟨_, rfl⟩
      have HUI_10 := Lib.hid hu
      rw [← hni] at hv
      have HNI := Lib.hid hni
      subst hv
      clear hu hni
      clear hB HB9 HT_9 HUB_9 HUA_9
      have hnil : ni ≤ 1000000 := by rw [HNI.out]; exact HBLL.out.2.2
      go_wp2_with fail
      go_loopw [15] (fun v15 wr => ∃ k : Nat, v15 = .int .i64 k ∧ k ≤ ni ∧ Hid (Below W10.heap.size W10 wr)) (fun v15 _ => ni - (intOf v15).toNat)
      case atStart => exact ⟨0, rfl, Nat.zero_le _, Lib.hid (Below.refl _ _)⟩
      case round =>
        obtain ⟨k, rfl, hk, HBr⟩ := hrel
        by_cases hkn : k < ni
        case neg =>
          have hd := decide_eq_false (show ¬ ((k : Int) < (ni : Int)) by omega)
          have hd' := decide_eq_false hkn
          have hlt : ni < nb := by rw [HNI.out, HNB.out]; exact inner_less HF.out HXY.out HYB.out
          have hz := decide_eq_true (show ((ni : Int) < (nb : Int)) by omega)
          have hz' := decide_eq_true hlt
          have HBf := Lib.hid (below_trans HB10.out HBr.out)
          clear hkn hlt
          go_wp2_with fail
          go_ret
          exact ⟨rfl, HBf.out⟩
        have hd := decide_eq_true (show ((k : Int) < (ni : Int)) by omega)
        have hd' := decide_eq_true hkn
        obtain ⟨z, hzm⟩ : ∃ z, z = (belowT (treeP l) Y).getD k 0 := ⟨_, rfl⟩
        obtain ⟨-, hcell⟩ := row_ints HUI_10.out rfl
        obtain ⟨g, o, rfl, hcs⟩ := hcell (by omega)
        have hck := hcs k hkn
        rw [← hzm] at hck
        have hcr := cellOld hck (HBr.out.block g (cellLt hck))
        have hzin : z ∈ belowT (treeP l) Y := by
          rw [hzm]
          have hkl : k < (belowT (treeP l) Y).length := by rw [← HNI.out]; exact hkn
          simp only [List.getD, List.getElem?_eq_getElem hkl, Option.getD_some]
          exact List.getElem_mem _
        have HZX : Hid (decide (z ∈ belowT (treeP l) X) = true) := Lib.hid (decide_eq_true (inner_below HF.out HYB.out hzin))
        have HH := Lib.hid (has_ok (belowT (treeP l) X) (.slice pb nb cb) z wr (ints_below HUB_10.out HBr.out) HBLL.out.1)
        rw [HZX.out] at HH
        clear hzm hck hcs hcell hzin
        go_wp2_with fail
        refine (HH.out).mono ?_
        rintro e Wz ⟨rfl, hB⟩
        have HBz := Lib.hid (HBr.out.trans (hB.mono HBr.out.size))
        clear hB HH hcr
        go_wp2_with fail
        exact ⟨⟨k + 1, by go_num, by omega, HBz⟩, by simp only [intOf]; omega⟩
theorem bothWays_w {H : Type} {enc : TypeId × Value → H} {w : World} {base : Nat} (v : Value) (d : DataW H) (p : List MemPlace) (h : DataW.Trod enc Try.prog w 0 (fun _ => true) true 22 v d p) (hv : Value.okWide Try.prog w .any base 22 v)
    (a : Int) (ha : (Lit.int .i64 a).wf = true) (b : Int) (hb : (Lit.int .i64 b).wf = true) :
    Calls Try.prog 8 #[v, .int .i64 a, .int .i64 b] w fun e w' => e = .returned (.bool true) ∧ Below w.heap.size w w' := by
  obtain ⟨l, ht, hl⟩ := placesIn h hv
  exact bothWays_walk l v a b w ht hl
end Go.Proofs.Ytcflnjmglanneaa
