/- Folders: the program's Find, whole. -/
import Derived.Test.YtcflnjmglanneaaUj
namespace Go.Proofs.Ytcflnjmglanneaa
open Go.RowKit Go.Maps Go.Sort
set_option maxRecDepth 100000
set_option linter.unusedVariables false
set_option linter.unusedSimpArgs false

theorem AwayP.set {b : Nat} (W : World) (v : Value) : AwayP b W (W.setCell ⟨b, 0, none⟩ v) :=
  ⟨rfl, rfl, rfl, by simp [World.setCell], fun k hk hb => Below.heap_setCell _ _ _ _ hb⟩
theorem AwayP.alloc (b : Nat) (W : World) (o : Obj) : AwayP b W (W.alloc o) := (AwayP.refl b W).below (below_alloc W o)
set_option maxHeartbeats 8000000 in
theorem find_ok (l : List Pl) (names : List ByteArray) (v u : Value) (w : World) (ht : PlAt w v l) (hl : l.length ≤ 100000) (hs : StrsAt w u names) (hn : names.length ≤ 100000) :
    Calls Try.prog 22 #[v, u] w fun e w' => e = .returned (.tuple #[.int .i64 (findT (treeP l) names).1, .bool (findT (treeP l) names).2]) ∧ Below w.heap.size w w' := by
  have hA0 := below_alloc w (.cells #[.int .i64 0] 3)
  have HTr := Lib.hid (tree_ok l v (w.alloc (.cells #[.int .i64 0] 3)) (ht.below hA0) hl)
  have hX0 := Boxed.new w 3 (.int .i64 0)
  obtain ⟨L, hF⟩ := treeP_frst l
  have HF := Lib.hid hF
  obtain ⟨T, hT⟩ : ∃ T, T = treeP l := ⟨_, rfl⟩
  rw [← hT] at HTr HF ⊢
  obtain ⟨q, cn, rfl, hcn⟩ := hs.form
  obtain ⟨nn, hnn⟩ : ∃ n, n = names.length := ⟨_, rfl⟩
  have HS := Lib.hid hs
  have HNN := Lib.hid hnn
  rw [← hnn] at HS hcn hn ⊢
  obtain ⟨RT, hRT⟩ : ∃ r, r = findT T names := ⟨_, rfl⟩
  rw [← hRT]
  have HRT := Lib.hid hRT
  have HA0 := Lib.hid hA0
  have HX0 := Lib.hid hX0
  clear ht hl hF hT hs hnn hRT hA0 hX0
  go_enter Try.func22, Try.ntmps22
  go_wp2_with fail
  refine (HTr.out).mono ?_
  rintro e w1 ⟨u1, rfl, hu, hB⟩
  obtain ⟨pt, pc, rfl, hc, -⟩ := hu.form
  have hnt : T.length ≤ 16 := HF.out.few
  obtain ⟨nt, hn'⟩ : ∃ n, n = T.length := ⟨_, rfl⟩
  have HU := Lib.hid hu
  have HN := Lib.hid hn'
  obtain ⟨F0, hF0⟩ : ∃ F0, F0 = w.heap.size := ⟨_, rfl⟩
  rw [← hF0] at HX0 ⊢
  have HF0 := Lib.hid hF0
  have hX1 : Boxed w1 F0 3 (.int .i64 0) := boxed_later HX0.out hB
  have HBw := Lib.hid (below_trans HA0.out hB)
  have HX1 := Lib.hid hX1
  have hx1c := hX1.cell
  have hx1f := hX1.frozen
  rw [← hn'] at HU hc hnt ⊢
  have HB2 := Lib.hid (hX1.set (.int .i64 (-1)))
  have HA2 := Lib.hid (AwayP.set (b := F0) w1 (.int .i64 (-1)))
  clear hu hB HTr hn' hF0 hX1 HX0 HA0
  go_wp2_with fail
  obtain ⟨W2, hW2⟩ : ∃ W, W = w1.setCell ⟨F0, 0, none⟩ (.int .i64 (-1)) := ⟨_, rfl⟩
  rw [← hW2] at HB2 HA2 ⊢
  clear hW2 hx1c hx1f
  go_loopw [14] (fun v14 wr => ∃ (a : Int) (i : Nat), v14 = .int .i64 i ∧ i ≤ nn ∧ Hid (walkF T (-1) names = walkF T a (names.drop i)) ∧ Hid ((0 < i → 0 ≤ a) ∧ (i = 0 → a = -1)) ∧ Hid (Boxed wr F0 3 (.int .i64 a)) ∧ Hid (AwayP F0 w1 wr)) (fun v14 _ => nn - (intOf v14).toNat)
  case atStart => exact ⟨-1, 0, rfl, Nat.zero_le _, Lib.hid rfl, Lib.hid ⟨fun h => absurd h (Nat.lt_irrefl _), fun _ => rfl⟩, HB2, HA2⟩
  case round =>
    obtain ⟨a, i, rfl, hi, HE, HP, HBX, HAW⟩ := hrel
    clear HB2 HA2
    have HBel : Hid (Below w.heap.size w wr) := Lib.hid (HAW.out.bel HBw.out (Nat.le_of_eq HF0.out.symm) (Nat.le_refl _))
    by_cases hin : i < nn
    case neg =>
      have hd := decide_eq_false (show ¬ ((i : Int) < (nn : Int)) by omega)
      have hd' := decide_eq_false hin
      have HE2 : Hid (walkF T (-1) names = some a) := Lib.hid (by
        rw [HE.out, List.drop_of_length_le (by rw [← HNN.out]; omega)]; rfl)
      have hbc := HBX.out.cell
      have hbf := HBX.out.frozen
      by_cases h0 : nn = 0
      case pos =>
        have HR : Hid (RT = (0, false)) := Lib.hid (by rw [HRT.out]; unfold findT; rw [if_pos (List.length_eq_zero_iff.1 (by rw [← HNN.out]; exact h0))])
        have ha : a = -1 := HP.out.2 (by omega)
        subst ha
        have hmx1 : max (-1 : Int) 0 = 0 := by decide
        have hz := decide_eq_false (show ¬ ((0 : Int) < (nn : Int)) by omega)
        have hz' := decide_eq_false (show ¬ (0 < nn) by omega)
        have hb9 := (HBX.out.set (.int .i64 0)).cell
        have HB9 : Hid (Below w.heap.size w (wr.setCell ⟨F0, 0, none⟩ (.int .i64 0))) := Lib.hid ((HAW.out.trans (AwayP.set wr _)).bel HBw.out (Nat.le_of_eq HF0.out.symm) (Nat.le_refl _))
        clear h0
        go_wp2_with fail
        refine bodyPost_ret (v := .tuple #[.int .i64 0, .bool false]) (by simp [results, Try.results22, go_sem, hb9]) rfl ?_
        exact ⟨by rw [HR.out], HB9.out⟩
      have HR : Hid (RT = (a, true)) := Lib.hid (by rw [HRT.out]; unfold findT; rw [if_neg (fun e => h0 (by rw [HNN.out, e]; rfl)), HE2.out])
      have ha : 0 ≤ a := HP.out.1 (by omega)
      have hmx : max a 0 = a := by omega
      have hz := decide_eq_true (show ((0 : Int) < (nn : Int)) by omega)
      have hz' := decide_eq_true (show (0 < nn) by omega)
      have hb9 := (HBX.out.set (.int .i64 a)).cell
      have HB9 : Hid (Below w.heap.size w (wr.setCell ⟨F0, 0, none⟩ (.int .i64 a))) := Lib.hid ((HAW.out.trans (AwayP.set wr _)).bel HBw.out (Nat.le_of_eq HF0.out.symm) (Nat.le_refl _))
      clear h0
      go_wp2_with fail
      refine bodyPost_ret (v := .tuple #[.int .i64 a, .bool true]) (by simp [results, Try.results22, go_sem, hb9]) rfl ?_
      exact ⟨by rw [HR.out], HB9.out⟩
    have hd := decide_eq_true (show ((i : Int) < (nn : Int)) by omega)
    have hd' := decide_eq_true hin
    obtain ⟨s, hs⟩ : ∃ s, names[i]? = some s := ⟨names[i]'(by rw [← HNN.out]; exact hin), List.getElem?_eq_getElem _⟩
    obtain ⟨gs, os, rfl, hss⟩ := HS.out.cells (by omega)
    have hsc := cellOld (hss i s hs) (HBel.out.block _ (cellLt (hss i s hs)))
    have HSI := Lib.hid hs
    have hA3 := below_alloc wr (.cells #[.string s] 9)
    have HBX3 := Lib.hid (boxed_later HBX.out hA3)
    have HBN3 := Lib.hid (Boxed.new wr 9 (.string s))
    have HAW3 := Lib.hid (HAW.out.below hA3)
    have HIX := Lib.hid (idxName_ok T (.slice pt nt pc) a s F0 wr.heap.size (wr.alloc (.cells #[.string s] 9)) (HU.out.away HAW3.out HX1.out) (by rw [← HN.out]; omega) HBX3.out HBN3.out)
    clear hs hss hA3
    go_wp2_with fail
    refine (HIX.out).mono ?_
    rintro e w4 ⟨r, rfl, hr, hB4⟩
    have HBX4 := Lib.hid (boxed_later HBX3.out hB4)
    have HAW4 := Lib.hid (HAW3.out.below hB4)
    have HU4 := Lib.hid (HU.out.away HAW4.out HX1.out)
    have hbc := HBX4.out.cell
    have hbf := HBX4.out.frozen
    have hst := idx_step hr
    clear hB4 HIX hr hsc HBX3 HBN3 HAW3
    rcases hst with ⟨rfl, hst⟩ | ⟨k, e, rfl, hk, hst⟩
    · have HR : Hid (RT = (0, false)) := Lib.hid (by
        rw [HRT.out]
        unfold findT
        rw [if_neg (fun e => by rw [HNN.out, e] at hin; exact absurd hin (Nat.not_lt_zero _)), HE.out, walkF_none HSI.out hst])
      have hb9 := (HBX4.out.set (.int .i64 0)).cell
      have HB9 : Hid (Below w.heap.size w (w4.setCell ⟨F0, 0, none⟩ (.int .i64 0))) := Lib.hid ((HAW4.out.trans (AwayP.set w4 _)).bel HBw.out (Nat.le_of_eq HF0.out.symm) (Nat.le_refl _))
      clear hst
      go_wp2_with fail
      refine bodyPost_ret (v := .tuple #[.int .i64 0, .bool false]) (by simp [results, Try.results22, go_sem, hb9]) rfl ?_
      exact ⟨by rw [HR.out], HB9.out⟩
    · have HE2 := Lib.hid (HE.out.trans (walkF_some HSI.out hst))
      have hef : 0 ≤ e.f := (HF.out.ok e (List.mem_of_getElem? hk)).2.2.1.1
      have hkl : k < nt := by rw [HN.out]; exact (List.getElem?_eq_some_iff.1 hk).1
      obtain ⟨g, o, rfl, hcs⟩ := (HU4.out.cells).2.2 (by omega)
      obtain ⟨c0, c1, c2, c3, c4⟩ := hcs k e hk
      have HBX5 := Lib.hid (HBX4.out.set (.int .i64 e.f))
      have HAW5 := Lib.hid (HAW4.out.trans (AwayP.set (b := F0) w4 (.int .i64 e.f)))
      have hq1 := decide_eq_false (show ¬ ((k : Int) < 0) by omega)
      have hq2 := decide_eq_true (show ((k : Int) < (nt : Int)) by omega)
      obtain ⟨et, ed, ef, ep, en⟩ := e
      dsimp only at c0 c1 c2 c3 c4 HE2 HBX5 HAW5 hef
      have HP2 : Hid ((0 < i + 1 → 0 ≤ ef) ∧ (i + 1 = 0 → ef = -1)) := Lib.hid ⟨fun _ => hef, fun h => absurd h (Nat.succ_ne_zero _)⟩
      clear hst hcs hk hef
      go_wp2_with fail
      exact ⟨⟨ef, i + 1, by go_num, by omega, HE2, HP2, HBX5, HAW5⟩, by simp only [intOf]; omega⟩
end Go.Proofs.Ytcflnjmglanneaa
