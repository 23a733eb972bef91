/- Folders: the reference's Find. -/
import Derived.Test.YtcflnjmglanneaaTv
namespace Go.Proofs.Ytcflnjmglanneaa
open Go.RowKit Go.Maps Go.Sort
set_option maxRecDepth 100000
set_option linter.unusedVariables false
set_option linter.unusedSimpArgs false

/-- A slice of strings as it lies. -/
def StrsAt (w : World) (v : Value) (l : List ByteArray) : Prop := RowAt w v 1 l.length (l.map Value.string)
theorem StrsAt.below {w w' : World} {v : Value} {l : List ByteArray} (h : StrsAt w v l) (hB : Below w.heap.size w w') : StrsAt w' v l := RowAt.below h hB
theorem StrsAt.form {w : World} {v : Value} {l : List ByteArray} (h : StrsAt w v l) : ∃ p c, v = .slice p l.length c ∧ l.length ≤ c := by
  obtain ⟨_, p, c, e, h1, h2, _⟩ := h
  exact ⟨p, c, e, h1⟩
theorem StrsAt.cells {w : World} {p : Option Addr} {n c : Nat} {l : List ByteArray} (h : StrsAt w (.slice p n c) l) : 0 < n → ∃ g o, p = some ⟨g, o, none⟩ ∧ ∀ j x, l[j]? = some x → w.cell? ⟨g, o + j, none⟩ = some (.string x) := by
  obtain ⟨_, p', c', e, h1, h2, h3⟩ := h
  injection e with e1 e2 e3
  subst e1; subst e2; subst e3
  intro h0
  obtain ⟨g, o, e, hg⟩ := h3 h0
  exact ⟨g, o, e, fun j x hx => hg j _ (by rw [List.getElem?_map, hx]; rfl)⟩
/-- The folder of a name. -/
def stepF (T : List Pl) (a : Int) (s : ByteArray) : Option Pl := T.find? fun e => decide (e.p = a ∧ e.n = s)
def walkF (T : List Pl) : Int → List ByteArray → Option Int
  | a, [] => some a
  | a, s :: r => match stepF T a s with
    | some e => walkF T e.f r
    | none => none
def findT (T : List Pl) (names : List ByteArray) : Int × Bool := if names = [] then (0, false) else match walkF T (-1) names with
  | some a => (a, true)
  | none => (0, false)
theorem walkF_some {T : List Pl} {a : Int} {s : ByteArray} {names : List ByteArray} {i : Nat} {e : Pl} (hi : names[i]? = some s) (h : stepF T a s = some e) : walkF T a (names.drop i) = walkF T e.f (names.drop (i + 1)) := by
  have hl := (List.getElem?_eq_some_iff.1 hi).1
  have hs : names[i] = s := by rw [List.getElem?_eq_getElem hl] at hi; injection hi
  rw [List.drop_eq_getElem_cons hl, hs, walkF, h]
theorem walkF_none {T : List Pl} {a : Int} {s : ByteArray} {names : List ByteArray} {i : Nat} (hi : names[i]? = some s) (h : stepF T a s = none) : walkF T a (names.drop i) = none := by
  have hl := (List.getElem?_eq_some_iff.1 hi).1
  have hs : names[i] = s := by rw [List.getElem?_eq_getElem hl] at hi; injection hi
  rw [List.drop_eq_getElem_cons hl, hs, walkF, h]
theorem find_snoc_none {T : List Pl} {k : Nat} {e : Pl} {P : Pl → Bool} (h : (T.take k).find? P = none) (ht : T.take (k + 1) = T.take k ++ [e]) (he : P e = false) : (T.take (k + 1)).find? P = none := by
  rw [ht, List.find?_append, h]; simp [he]
theorem find_snoc_some {T : List Pl} {k : Nat} {e : Pl} {P : Pl → Bool} (h : (T.take k).find? P = none) (ht : T.take (k + 1) = T.take k ++ [e]) (he : P e = true) : T.find? P = some e := by
  have h1 : (T.take (k + 1)).find? P = some e := by rw [ht, List.find?_append, h]; simp [he]
  conv => lhs; rw [← List.take_append_drop (k + 1) T]
  rw [List.find?_append, h1]; rfl

theorem bytes_beq_eq {a b : ByteArray} (h : a = b) : (a.toList == b.toList) = true := by rw [h]; exact beq_self_eq_true _
theorem bytes_beq_ne {a b : ByteArray} (h : ¬ a = b) : (a.toList == b.toList) = false :=
  beq_eq_false_iff_ne.2 fun e => h (by
    rw [ByteArray.toList_eq, ByteArray.toList_eq] at e
    cases a; cases b
    exact congrArg ByteArray.mk (Array.toList_inj.1 e))
set_option maxHeartbeats 8000000 in
theorem rfind_ok (l : List Pl) (names : List ByteArray) (v u : Value) (w : World) (ht : PlAt w v l) (hl : l.length ≤ 100000) (hs : StrsAt w u names) (hn : names.length ≤ 100000) :
    Calls Try.prog 23 #[v, u] w fun e w' => e = .returned (.tuple #[.int .i64 (findT (treeP l) names).1, .bool (findT (treeP l) names).2]) ∧ Below w.heap.size w w' := by
  have HP := Lib.hid (rtree_ok l v w ht hl)
  obtain ⟨L, hF⟩ := treeP_frst l
  have HF := Lib.hid hF
  obtain ⟨T, hT⟩ : ∃ T, T = treeP l := ⟨_, rfl⟩
  rw [← hT] at HP HF ⊢
  obtain ⟨q, cn, rfl, hcn⟩ := hs.form
  obtain ⟨nn, hnn⟩ : ∃ n, n = names.length := ⟨_, rfl⟩
  have HS := Lib.hid hs
  have HNN := Lib.hid hnn
  rw [← hnn] at HS hcn hn ⊢
  obtain ⟨RT, hRT⟩ : ∃ r, r = findT T names := ⟨_, rfl⟩
  rw [← hRT]
  have HRT := Lib.hid hRT
  clear ht hl hF hT hs hnn hRT
  go_enter Try.func23, Try.ntmps23
  go_wp2_with fail
  refine (HP.out).mono ?_
  rintro e w1 ⟨u1, rfl, hu, hB⟩
  obtain ⟨pt, pc, rfl, hc, -⟩ := hu.form
  have hnt : T.length ≤ 16 := HF.out.few
  obtain ⟨nt, hn'⟩ : ∃ n, n = T.length := ⟨_, rfl⟩
  have HU := Lib.hid hu
  have HN := Lib.hid hn'
  have HBw := Lib.hid hB
  rw [← hn'] at HU hc hnt ⊢
  clear hu hB HP hn'
  go_wp2_with fail
  go_loopw [7, 8] (fun v7 v8 wr => ∃ (a : Int) (i : Nat), v7 = .int .i64 a ∧ v8 = .int .i64 i ∧ i ≤ nn ∧ Hid (walkF T (-1) names = walkF T a (names.drop i)) ∧ Hid (Below w1.heap.size w1 wr)) (fun _ v8 _ => nn - (intOf v8).toNat)
  case atStart => exact ⟨-1, 0, rfl, rfl, Nat.zero_le _, Lib.hid rfl, Lib.hid (Below.refl _ _)⟩
  case round =>
    obtain ⟨a, i, rfl, rfl, hi, HE, HB⟩ := hrel
    by_cases hin : i < nn
    case neg =>
      have hd := decide_eq_false (show ¬ ((i : Int) < (nn : Int)) by omega)
      have hd' := decide_eq_false hin
      have HE2 : Hid (walkF T (-1) names = some a) := Lib.hid (by
        rw [HE.out, List.drop_of_length_le (by rw [← HNN.out]; omega)]; rfl)
      by_cases h0 : nn = 0
      case pos =>
        have HR : Hid (RT = (0, false)) := Lib.hid (by rw [HRT.out]; unfold findT; rw [if_pos (List.length_eq_zero_iff.1 (by rw [← HNN.out]; exact h0))])
        have hz := decide_eq_true (show (nn : Int) = 0 by omega)
        have hz' := decide_eq_true h0
        have hz2 : ((nn : Int) == 0) = true := by simpa using h0
        clear h0
        go_wp2_with fail
        go_ret2
        exact ⟨by rw [HR.out]; rfl, below_trans HBw.out HB.out⟩
      have HR : Hid (RT = (a, true)) := Lib.hid (by rw [HRT.out]; unfold findT; rw [if_neg (fun e => h0 (by rw [HNN.out, e]; rfl)), HE2.out])
      have hz := decide_eq_false (show ¬ (nn : Int) = 0 by omega)
      have hz' := decide_eq_false h0
      have hz2 : ((nn : Int) == 0) = false := by simpa using h0
      clear h0
      go_wp2_with fail
      go_ret2
      exact ⟨by rw [HR.out]; rfl, below_trans HBw.out HB.out⟩
    have hd := decide_eq_true (show ((i : Int) < (nn : Int)) by omega)
    have hd' := decide_eq_true hin
    obtain ⟨s, hs⟩ : ∃ s, names[i]? = some s := ⟨names[i]'(by rw [← HNN.out]; exact hin), List.getElem?_eq_getElem _⟩
    obtain ⟨gs, os, rfl, hss⟩ := HS.out.cells (by omega)
    have HSC := Lib.hid fun (W : World) (hW : Below w.heap.size w W) => cellOld (hss i s hs) (hW.block _ (cellLt (hss i s hs)))
    have HSI := Lib.hid hs
    clear hs hss
    go_wp2_with fail
    go_loopw [7, 9, 10] (fun v7 v9 v10 wr => ∃ (a' : Int) (fd : Bool) (k : Nat), v7 = .int .i64 a' ∧ v9 = .bool fd ∧ v10 = .int .i64 k ∧ k ≤ nt ∧ Hid (fd = false → a' = a ∧ (T.take k).find? (fun e => decide (e.p = a ∧ e.n = s)) = none) ∧ Hid (fd = true → ∃ e, stepF T a s = some e ∧ a' = e.f) ∧ Hid (Below w1.heap.size w1 wr)) (fun _ _ v10 _ => nt - (intOf v10).toNat)
    case atStart => exact ⟨a, false, 0, rfl, rfl, rfl, Nat.zero_le _, Lib.hid fun _ => ⟨rfl, rfl⟩, Lib.hid (fun h => by cases h), HB⟩
    case round =>
      obtain ⟨a', fd, k, rfl, rfl, rfl, hk, HF0, HF1, HB'⟩ := hrel
      cases fd with
      | true =>
        obtain ⟨e, he, rfl⟩ := HF1.out rfl
        have HE2 := Lib.hid (HE.out.trans (walkF_some HSI.out he))
        clear he
        by_cases hkn : k < nt
        case neg =>
          have hf := decide_eq_false (show ¬ ((k : Int) < (nt : Int)) by omega)
          have hf' := decide_eq_false hkn
          go_wp2_with fail
          exact ⟨⟨e.f, i + 1, rfl, by go_num, by omega, HE2, HB'⟩, by simp only [intOf]; omega⟩
        have hf := decide_eq_true (show ((k : Int) < (nt : Int)) by omega)
        have hf' := decide_eq_true hkn
        go_wp2_with fail
        exact ⟨⟨e.f, i + 1, rfl, by go_num, by omega, HE2, HB'⟩, by simp only [intOf]; omega⟩
      | false =>
        obtain ⟨rfl, hnone⟩ := HF0.out rfl
        have HNO := Lib.hid hnone
        clear hnone
        by_cases hkn : k < nt
        case neg =>
          have hf := decide_eq_false (show ¬ ((k : Int) < (nt : Int)) by omega)
          have hf' := decide_eq_false hkn
          have HR : Hid (RT = (0, false)) := Lib.hid (by
            have hst : stepF T a' s = none := by
              have h := HNO.out
              rw [List.take_of_length_le (by rw [← HN.out]; omega)] at h
              exact h
            rw [HRT.out]
            unfold findT
            rw [if_neg (fun e => by rw [HNN.out, e] at hin; exact absurd hin (Nat.not_lt_zero _)), HE.out, walkF_none HSI.out hst])
          go_wp2_with fail
          go_ret2
          exact ⟨by rw [HR.out]; rfl, below_trans HBw.out HB'.out⟩
        have hf := decide_eq_true (show ((k : Int) < (nt : Int)) by omega)
        have hf' := decide_eq_true hkn
        obtain ⟨e, he, ht1⟩ := take_at (l := T) (j := k) (by rw [← HN.out]; exact hkn)
        obtain ⟨g, o, rfl, hcs⟩ := (HU.out.cells).2.2 (by omega)
        have HC := Lib.hid fun (W : World) (hW : Below w1.heap.size w1 W) => (hcs k e he).below hW
        obtain ⟨c0, c1, c2, c3, c4⟩ := HC.out _ HB'.out
        have b0 := HSC.out _ (below_trans HBw.out HB'.out)
        have HT1 := Lib.hid ht1
        obtain ⟨et, ed, ef, ep, en⟩ := e
        dsimp only at c0 c1 c2 c3 c4
        clear hcs he ht1
        by_cases hp : ep = a'
        case neg =>
          have hg1 : (ep == a') = false := by simpa using hp
          have hg2 : decide (ep = a') = false := decide_eq_false hp
          have HF0' : Hid (false = false → a' = a' ∧ (T.take (k + 1)).find? (fun e => decide (e.p = a' ∧ e.n = s)) = none) := Lib.hid fun _ => ⟨rfl, find_snoc_none HNO.out HT1.out (decide_eq_false fun h => hp h.1)⟩
          clear hp
          go_upto_region 10 with fail
          go_quiet (fail)
          obtain ⟨W7, hWq⟩ : ∃ W, W = wr.drewN nq := ⟨_, rfl⟩
          rw [← hWq]
          have hBq : Below wr.heap.size wr W7 := by rw [hWq]; exact ⟨rfl, rfl, rfl, Nat.le_refl _, fun _ _ => rfl⟩
          have HB7 := Lib.hid (HB'.out.trans (hBq.mono HB'.out.size))
          clear hWq hBq c0 c1 c2 c3 c4 b0 HB'
          go_wp2_with fail
          exact ⟨⟨a', false, k + 1, rfl, rfl, by go_num, by omega, HF0', Lib.hid (fun h => by cases h), HB7⟩, by simp only [intOf]; omega⟩
        have hg1 : (ep == a') = true := by simpa using hp
        have hg2 : decide (ep = a') = true := decide_eq_true hp
        by_cases hn : en = s
        case neg =>
          have hh1 : (en.toList == s.toList) = false := bytes_beq_ne hn
          have hh2 : decide (en = s) = false := decide_eq_false hn
          have HF0' : Hid (false = false → a' = a' ∧ (T.take (k + 1)).find? (fun e => decide (e.p = a' ∧ e.n = s)) = none) := Lib.hid fun _ => ⟨rfl, find_snoc_none HNO.out HT1.out (decide_eq_false fun h => hn h.2)⟩
          clear hp hn
          go_upto_region 10 with fail
          go_quiet (fail)
          obtain ⟨W7, hWq⟩ : ∃ W, W = wr.drewN nq := ⟨_, rfl⟩
          rw [← hWq]
          have hBq : Below wr.heap.size wr W7 := by rw [hWq]; exact ⟨rfl, rfl, rfl, Nat.le_refl _, fun _ _ => rfl⟩
          have HB7 := Lib.hid (HB'.out.trans (hBq.mono HB'.out.size))
          clear hWq hBq c0 c1 c2 c3 c4 b0 HB'
          go_wp2_with fail
          exact ⟨⟨a', false, k + 1, rfl, rfl, by go_num, by omega, HF0', Lib.hid (fun h => by cases h), HB7⟩, by simp only [intOf]; omega⟩
        have hh1 : (en.toList == s.toList) = true := bytes_beq_eq hn
        have hh2 : decide (en = s) = true := decide_eq_true hn
        have HF1' : Hid (true = true → ∃ e, stepF T a' s = some e ∧ ef = e.f) := Lib.hid fun _ => ⟨_, find_snoc_some HNO.out HT1.out (decide_eq_true ⟨hp, hn⟩), rfl⟩
        clear hp hn
        go_upto_region 10 with fail
        go_quiet (fail)
        obtain ⟨W7, hWq⟩ : ∃ W, W = wr.drewN nq := ⟨_, rfl⟩
        rw [← hWq]
        have hBq : Below wr.heap.size wr W7 := by rw [hWq]; exact ⟨rfl, rfl, rfl, Nat.le_refl _, fun _ _ => rfl⟩
        have HB7 := Lib.hid (HB'.out.trans (hBq.mono HB'.out.size))
        clear hWq hBq c0 c1 c2 c3 c4 b0 HB'
        obtain ⟨c0, c1, c2, c3, c4⟩ := HC.out _ HB7.out
        dsimp only at c0 c1 c2 c3 c4
        go_wp2_with fail
        exact ⟨⟨ef, true, k + 1, rfl, rfl, by go_num, by omega, Lib.hid (fun h => by cases h), HF1', HB7⟩, by simp only [intOf]; omega⟩
end Go.Proofs.Ytcflnjmglanneaa
