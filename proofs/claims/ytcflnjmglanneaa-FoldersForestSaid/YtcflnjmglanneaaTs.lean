/- Folders: the reference's order of places. -/
import Derived.Test.YtcflnjmglanneaaTr
import Derived.StillTailTactics
import Derived.Deep.AppendLies
namespace Go.Proofs.Ytcflnjmglanneaa
open Go.RowKit Go.Maps Go.Sort
set_option maxRecDepth 100000
set_option linter.unusedVariables false
set_option linter.unusedSimpArgs false

theorem ordFrom_bad {o : List Pl} {l : List Pl} {k : Nat} {e : Pl} {lt : Pl → Pl → Bool} {O : List Pl} (he : l[k]? = some e) (hk : ¬ okP e) (h : (l.drop k).foldl (fun o x => if okP x then insO lt x o else o) o = O) : (l.drop (k + 1)).foldl (fun o x => if okP x then insO lt x o else o) o = O := by
  have hkl := (List.getElem?_eq_some_iff.1 he).1
  rw [List.drop_eq_getElem_cons hkl, List.foldl_cons] at h
  have : l[k] = e := by rw [List.getElem?_eq_getElem hkl] at he; injection he
  rw [this, if_neg hk] at h
  exact h
theorem ordFrom_ok {o : List Pl} {l : List Pl} {k : Nat} {e : Pl} {lt : Pl → Pl → Bool} {O : List Pl} (he : l[k]? = some e) (hk : okP e) (h : (l.drop k).foldl (fun o x => if okP x then insO lt x o else o) o = O) : (l.drop (k + 1)).foldl (fun o x => if okP x then insO lt x o else o) (insO lt e o) = O := by
  have hkl := (List.getElem?_eq_some_iff.1 he).1
  rw [List.drop_eq_getElem_cons hkl, List.foldl_cons] at h
  have : l[k] = e := by rw [List.getElem?_eq_getElem hkl] at he; injection he
  rw [this, if_pos hk] at h
  exact h
theorem insO_next {lt : Pl → Pl → Bool} {e y : Pl} {acc : List Pl} {k : Nat} (hy : acc[k]? = some y) (hlt : lt e y = false) (h : insO lt e acc = acc.take k ++ insO lt e (acc.drop k)) : insO lt e acc = acc.take (k + 1) ++ insO lt e (acc.drop (k + 1)) := by
  have hkl := (List.getElem?_eq_some_iff.1 hy).1
  have hyy : acc[k] = y := by rw [List.getElem?_eq_getElem hkl] at hy; injection hy
  rw [h, List.drop_eq_getElem_cons hkl, hyy, insO, if_neg (by rw [hlt]; simp), List.take_succ_eq_append_getElem hkl, hyy]
  simp
theorem insO_here {lt : Pl → Pl → Bool} {e y : Pl} {acc : List Pl} {k : Nat} (hy : acc[k]? = some y) (hlt : lt e y = true) (h : insO lt e acc = acc.take k ++ insO lt e (acc.drop k)) : insO lt e acc = acc.take k ++ e :: acc.drop k := by
  have hkl := (List.getElem?_eq_some_iff.1 hy).1
  have hyy : acc[k] = y := by rw [List.getElem?_eq_getElem hkl] at hy; injection hy
  rw [h, List.drop_eq_getElem_cons hkl, hyy, insO, if_pos hlt]
theorem insO_end {lt : Pl → Pl → Bool} {e : Pl} {acc : List Pl} {k : Nat} (hk : acc.length ≤ k) (h : insO lt e acc = acc.take k ++ insO lt e (acc.drop k)) : insO lt e acc = acc.take k ++ e :: acc.drop k := by
  rw [h, List.drop_of_length_le hk]
  rfl
theorem insO_len {lt : Pl → Pl → Bool} (e : Pl) (acc : List Pl) : (insO lt e acc).length = acc.length + 1 := by rw [(insO_perm e acc).length_eq, List.length_cons]

set_option maxHeartbeats 8000000 in
theorem rordered_ok (l : List Pl) (v : Value) (w : World) (ht : PlAt w v l) (hl : l.length ≤ 100000) :
    Calls Try.prog 30 #[v] w fun e w' => ∃ u, e = .returned u ∧ PlAt w' u (orderT (ltOf cmpP) l) ∧ Below w.heap.size w w' := by
  obtain ⟨pt, pc, rfl, hc, -⟩ := ht.form
  have HT := Lib.hid ht
  obtain ⟨i0, hi, hz0, hz1, hzb⟩ := info_parts info_place
  obtain ⟨nt, hnt⟩ : ∃ n, n = l.length := ⟨_, rfl⟩
  have HNT := Lib.hid hnt
  rw [← hnt] at HT hc hl ⊢
  obtain ⟨O, hO⟩ : ∃ O, O = orderT (ltOf cmpP) l := ⟨_, rfl⟩
  rw [← hO]
  have HOO := Lib.hid hO
  have HO0 : Hid (OutR w (w.alloc (.cells #[] 24)) w.heap.size 0 0 []) := Lib.hid ⟨World.ownsRow_lit (base := w.heap.size) (size := 5) (e := 24) w #[] 0 (Nat.le_refl _) (by unfold maxLen; omega) (by simp), rfl, below_alloc w _⟩
  clear ht hnt hO
  go_enter Try.func30, Try.ntmps30
  go_wp2_with fail
  obtain ⟨W0, hW0⟩ : ∃ W, W = w.alloc (.cells #[] 24) := ⟨_, rfl⟩
  obtain ⟨G0, hG0⟩ : ∃ G, G = w.heap.size := ⟨_, rfl⟩
  rw [← hW0, ← hG0]
  rw [← hW0] at HO0
  have HO1 : Hid (OutR w W0 G0 0 0 []) := Lib.hid (by rw [hG0]; exact HO0.out)
  clear hW0 HO0 hG0
  go_loopw [3, 4] (fun v3 v4 wr => ∃ (g n c k : Nat) (acc : List Pl), v3 = .slice (some ⟨g, 0, none⟩) n c ∧ v4 = .int .i64 k ∧ k ≤ nt ∧ n ≤ k ∧ Hid ((l.drop k).foldl (fun o x => if okP x then insO (ltOf cmpP) x o else o) acc = O) ∧ Hid (OutR w wr g n c acc)) (fun _ v4 _ => nt - (intOf v4).toNat)
  case atStart => exact ⟨G0, 0, 0, 0, [], rfl, rfl, Nat.zero_le _, Nat.le_refl _, Lib.hid (by rw [HOO.out]; rfl), HO1⟩
  case round =>
    obtain ⟨g, n, c, i, acc, rfl, rfl, hk, hn, HE, HO⟩ := hrel
    by_cases hin : i < nt
    case neg =>
      have hd := decide_eq_false (show ¬ ((i : Int) < (nt : Int)) by omega)
      have hd' := decide_eq_false hin
      have HE2 : Hid (acc = O) := Lib.hid (by
        have h := HE.out
        rw [List.drop_of_length_le (by rw [← HNT.out]; omega)] at h
        exact h)
      go_wp2_with fail
      go_ret
      exact ⟨_, rfl, by rw [← HE2.out]; exact HO.out.at, HO.out.bel⟩
    have hd := decide_eq_true (show (i : Int) < (nt : Int) by omega)
    have hd' := decide_eq_true hin
    obtain ⟨e, he⟩ : ∃ e, l[i]? = some e := ⟨l[i]'(by rw [← HNT.out]; exact hin), List.getElem?_eq_getElem _⟩
    have HEI := Lib.hid he
    obtain ⟨gt, ot, rfl, hcs⟩ := (HT.out.cells).2.2 (by omega)
    have HC := Lib.hid fun (W : World) (hW : Below w.heap.size w W) => (hcs i e he).below hW
    obtain ⟨c0, c1, c2, c3, c4⟩ := HC.out _ HO.out.bel
    have HCK := Lib.hid (fun W => rcheck_ok e W)
    have hcap := HO.out.cap
    obtain ⟨ck, hck⟩ : ∃ ck, ck = chkP e := ⟨_, rfl⟩
    rw [← hck] at HCK
    obtain ⟨et, ed, ef, ep, en⟩ := e
    unfold Pl.ev at HCK
    dsimp only at c0 c1 c2 c3 c4 HCK
    have HCQ := Lib.hid hck
    clear hck he hcs
    go_wp2_with fail
    refine (HCK.out _).mono ?_
    rintro x w1 ⟨rfl, hB⟩
    have HO1' := Lib.hid (HO.out.below hB)
    clear c0 c1 c2 c3 c4 hB HCK HO
    by_cases hok : okP ⟨et, ed, ef, ep, en⟩
    case neg =>
      have HE2 := Lib.hid (ordFrom_bad HEI.out hok HE.out)
      have hck : ck = 270 := by rw [HCQ.out]; unfold chkP; rw [if_neg hok]
      subst hck
      clear hok HCQ
      go_wp2_with fail
      exact ⟨⟨g, n, c, i + 1, acc, rfl, by go_num, by omega, by omega, HE2, HO1'⟩, by simp only [intOf]; omega⟩
    have HE2 := Lib.hid (ordFrom_ok HEI.out hok HE.out)
    have hck : ck = 0 := by rw [HCQ.out]; unfold chkP; rw [if_pos hok]
    subst hck
    clear hok HCQ HE
    go_wp2_with fail
    obtain ⟨E, hE⟩ : ∃ E : Pl, E = ⟨et, ed, ef, ep, en⟩ := ⟨_, rfl⟩
    have HEE := Lib.hid hE
    rw [← hE] at HE2
    clear hE
    go_loopw [5] (fun v5 wr => ∃ (k : Nat), v5 = .int .i64 k ∧ k ≤ n ∧ Hid (insO (ltOf cmpP) E acc = acc.take k ++ insO (ltOf cmpP) E (acc.drop k)) ∧ Hid (OutR w wr g n c acc)) (fun v5 _ => n - (intOf v5).toNat)
    case atStart => exact ⟨0, rfl, Nat.zero_le _, Lib.hid (by simp), HO1'⟩
    case round =>
      obtain ⟨k, rfl, hkn, HI, HO⟩ := hrel
      by_cases hlt : k < n
      case neg =>
        have hf := decide_eq_false (show ¬ ((k : Int) < (n : Int)) by omega)
        have hf' := decide_eq_false hlt
        have HI2 := Lib.hid (insO_end (k := k) (by rw [← HO.out.len]; omega) HI.out)
        clear HI
        go_upto_region 7 with fail
        go_quiet (fail)
        obtain ⟨W7, hWq⟩ : ∃ W, W = wr.drewN nq := ⟨_, rfl⟩
        rw [← hWq]
        have hBq : Below wr.heap.size wr W7 := by rw [hWq]; exact ⟨rfl, rfl, rfl, Nat.le_refl _, fun _ _ => rfl⟩
        have HO7 := Lib.hid (HO.out.below hBq)
        clear hWq hBq HO
        go_upto_region 9 with fail
        have HE0 := Lib.hid fun (W : World) (hW : Below W7.heap.size W7 W) => HC.out W (HO7.out.bel.trans (hW.mono HO7.out.bel.size))
        obtain ⟨aa, haa, hsl⟩ := slice_offK (P := Try.prog) 22 24 5 Try.underlying22 Try.sizeOf24 g 0 n c k (by omega) hcap
        refine wp_region_noPanic ?_
        refine region_sched (fun W' => Below W7.heap.size W7 W') 9 [(0, true), (1, true), (2, true), (3, true), (5, true), (6, true), (7, true), (4, false), (8, false), (9, false)] (by kernel_rfl) (by kernel_rfl) (by kernel_rfl) rfl (fun _ _ _ _ h => h) ⟨rfl, rfl, rfl, Nat.le_refl _, fun _ _ => rfl⟩ ?_
        (refine sched_take (v := ?_) rfl (by rfl) (fun W' hS => ?_) ?_; rotate_left; (have d0 := (HE0.out W' hS).c0; have d1 := (HE0.out W' hS).c1; have d2 := (HE0.out W' hS).c2; have d3 := (HE0.out W' hS).c3; have d4 := (HE0.out W' hS).c4; dsimp only at d0 d1 d2 d3 d4; go_simp; with_reducible rfl); (try simp only [Act.put, List.getElem_toArray, List.getElem_cons_succ, List.getElem_cons_zero, List.setIfInBounds_toArray, List.set_cons_zero, List.set_cons_succ]))
        (refine sched_take (v := ?_) rfl (by rfl) (fun W' hS => ?_) ?_; rotate_left; (have d0 := (HE0.out W' hS).c0; have d1 := (HE0.out W' hS).c1; have d2 := (HE0.out W' hS).c2; have d3 := (HE0.out W' hS).c3; have d4 := (HE0.out W' hS).c4; dsimp only at d0 d1 d2 d3 d4; go_simp; with_reducible rfl); (try simp only [Act.put, List.getElem_toArray, List.getElem_cons_succ, List.getElem_cons_zero, List.setIfInBounds_toArray, List.set_cons_zero, List.set_cons_succ]))
        (refine sched_take (v := ?_) rfl (by rfl) (fun W' hS => ?_) ?_; rotate_left; (have d0 := (HE0.out W' hS).c0; have d1 := (HE0.out W' hS).c1; have d2 := (HE0.out W' hS).c2; have d3 := (HE0.out W' hS).c3; have d4 := (HE0.out W' hS).c4; dsimp only at d0 d1 d2 d3 d4; go_simp; with_reducible rfl); (try simp only [Act.put, List.getElem_toArray, List.getElem_cons_succ, List.getElem_cons_zero, List.setIfInBounds_toArray, List.set_cons_zero, List.set_cons_succ]))
        (refine sched_take (v := ?_) rfl (by rfl) (fun W' hS => ?_) ?_; rotate_left; (have d0 := (HE0.out W' hS).c0; have d1 := (HE0.out W' hS).c1; have d2 := (HE0.out W' hS).c2; have d3 := (HE0.out W' hS).c3; have d4 := (HE0.out W' hS).c4; dsimp only at d0 d1 d2 d3 d4; go_simp; with_reducible rfl); (try simp only [Act.put, List.getElem_toArray, List.getElem_cons_succ, List.getElem_cons_zero, List.setIfInBounds_toArray, List.set_cons_zero, List.set_cons_succ]))
        (refine sched_take (v := ?_) rfl (by rfl) (fun W' hS => ?_) ?_; rotate_left; (have d0 := (HE0.out W' hS).c0; have d1 := (HE0.out W' hS).c1; have d2 := (HE0.out W' hS).c2; have d3 := (HE0.out W' hS).c3; have d4 := (HE0.out W' hS).c4; dsimp only at d0 d1 d2 d3 d4; go_simp; with_reducible rfl); (try simp only [Act.put, List.getElem_toArray, List.getElem_cons_succ, List.getElem_cons_zero, List.setIfInBounds_toArray, List.set_cons_zero, List.set_cons_succ]))
        (refine sched_take (v := ?_) rfl (by rfl) (fun W' hS => ?_) ?_; rotate_left; (have d0 := (HE0.out W' hS).c0; have d1 := (HE0.out W' hS).c1; have d2 := (HE0.out W' hS).c2; have d3 := (HE0.out W' hS).c3; have d4 := (HE0.out W' hS).c4; dsimp only at d0 d1 d2 d3 d4; go_simp; with_reducible rfl); (try simp only [Act.put, List.getElem_toArray, List.getElem_cons_succ, List.getElem_cons_zero, List.setIfInBounds_toArray, List.set_cons_zero, List.set_cons_succ]))
        (refine sched_take (v := ?_) rfl (by rfl) (fun W' hS => ?_) ?_; rotate_left; (have d0 := (HE0.out W' hS).c0; have d1 := (HE0.out W' hS).c1; have d2 := (HE0.out W' hS).c2; have d3 := (HE0.out W' hS).c3; have d4 := (HE0.out W' hS).c4; dsimp only at d0 d1 d2 d3 d4; go_simp; with_reducible rfl); (try simp only [Act.put, List.getElem_toArray, List.getElem_cons_succ, List.getElem_cons_zero, List.setIfInBounds_toArray, List.set_cons_zero, List.set_cons_succ]))
        obtain ⟨W8, hW8⟩ : ∃ W, W = W7.drew := ⟨_, rfl⟩
        have HB8 : Hid (Below W7.heap.size W7 W8) := Lib.hid (by rw [hW8]; exact ⟨rfl, rfl, rfl, Nat.le_refl _, fun _ _ => rfl⟩)
        have HO8 := Lib.hid (HO7.out.below HB8.out)
        rw [← hW8]
        clear hW8 hsl
        refine sched_do rfl (fun K' hK => ?_)
        go_simp
        have HL9 := Lib.hid (World.ownsRow_lit (base := w.heap.size) (size := 5) (e := 24) W8 (Pl.cells ⟨et, ed, ef, ep, en⟩).toArray 1 HO8.out.bel.size (by unfold maxLen; omega) rfl)
        have hB9 := below_alloc W8 (.cells (Pl.cells ⟨et, ed, ef, ep, en⟩).toArray 24)
        have HO9 := Lib.hid (HO8.out.below hB9)
        have HB9 := Lib.hid (below_trans HB8.out hB9)
        obtain ⟨gl, hgl⟩ : ∃ gl, gl = W8.heap.size := ⟨_, rfl⟩
        rw [← hgl]
        rw [← hgl] at HL9
        have hgl2 : W8.heap.size ≤ gl := by rw [hgl]; exact Nat.le_refl _
        have HW89 : Hid (∀ j, j < W8.heap.size → (W8.alloc (.cells (Pl.cells ⟨et, ed, ef, ep, en⟩).toArray 24)).heap[j]? = W8.heap[j]?) := Lib.hid fun j hj => hB9.block j hj
        have HG9 := Lib.hid hB9
        obtain ⟨W9, hW9⟩ : ∃ W, W = W8.alloc (.cells (Pl.cells ⟨et, ed, ef, ep, en⟩).toArray 24) := ⟨_, rfl⟩
        rw [← hW9] at HL9 HO9 HB9 HG9
        have hW9' : W8.alloc (.cells #[.int .i64 et, .int .i64 ed, .int .i64 ef, .int .i64 ep, .string en] 24) = W9 := hW9.symm
        rw [hW9']
        clear hW9 hW9' hgl hB9 HW89
        refine hK.out _ _ HB9.out fun _ => ?_
        clear hK
        (try simp only [Act.put, List.getElem_toArray, List.getElem_cons_succ, List.getElem_cons_zero, List.setIfInBounds_toArray, List.set_cons_zero, List.set_cons_succ])
        refine sched_do rfl (fun K' hK => ?_)
        rw [if_pos (by rfl)]
        have HU : Hid (RowAt W9 (.slice (some aa) (n - k) (c - k)) 5 (n - k) (cellsP (acc.drop k))) := Lib.hid (HO9.out.drop (by omega) haa)
        refine wp_append_row _ _ 22 rfl w.heap.size 24 i0 (.agg #[.int .i64 0, .int .i64 0, .int .i64 0, .int .i64 0, .string ⟨#[]⟩]) 5 48 Try.underlying22 hi hz0 hz1 hzb rfl (by decide) _ _ _ rfl HL9.out _ _ _ rfl HU.out (cells_all _) (by unfold maxLen; omega) (by omega) HO9.out.bel.size ?_
        intro v' w10 hown hgrow
        have hB10 : Below W8.heap.size W8 w10 := HG9.out.grown hgrow HG9.out.size (fun j hj => by have := (HL9.out.lt j hj).1; injection hj with hj; rw [← hj]; exact hgl2)
        obtain ⟨gr, cr, rfl, -, -⟩ := World.ownsRow.form hown (by omega)
        have HR10 := Lib.hid hown
        have HO10 := Lib.hid (HO8.out.below hB10)
        have HB10 := Lib.hid (HB8.out.trans (hB10.mono HB8.out.size))
        clear hown hgrow hB10 HL9 HO9 HB9 HG9 HU
        refine hK.out _ _ HB10.out fun _ => ?_
        clear hK
        (try simp only [Act.put, List.getElem_toArray, List.getElem_cons_succ, List.getElem_cons_zero, List.setIfInBounds_toArray, List.set_cons_zero, List.set_cons_succ])
        refine sched_end rfl (fun K' hK => ?_)
        go_simp
        refine hK.out _ _ ?_
        clear hK
        refine NoPanic.normal ?_
        have hsc := slice_cut (P := Try.prog) 22 24 5 Try.underlying22 Try.sizeOf24 g 0 n c k (by omega)
        go_wp2_with (at_builtin; refine Hid.out ?_)
        refine Lib.hid ?_
        refine wpList_plain rfl fun _ hK => ?_
        refine wp_append_cut _ _ 22 rfl 24 i0 (.agg #[.int .i64 0, .int .i64 0, .int .i64 0, .int .i64 0, .string ⟨#[]⟩]) 5 48 Try.underlying22 hi hz0 hz1 hzb rfl ⟨g, 0, none⟩ k (cellsP (acc.take k)) rfl (by rw [cellsP_length, List.length_take, ← HO10.out.len, Nat.min_eq_left (by omega)]) (HO10.out.pre k) ⟨gr, 0, none⟩ (1 + (n - k)) cr _ rfl HR10.out.1 (own_cells HR10.out) (by omega) (by unfold maxLen; omega) (by omega) w.heap.size HO10.out.bel.size ?_
        intro cap w11 hown hgrow
        have HO11 : Hid (OutR w w11 w10.heap.size (k + (1 + (n - k))) cap (insO (ltOf cmpP) E acc)) := Lib.hid ⟨by rw [HI2.out, cellsP_append, show (E :: acc.drop k) = [E] ++ acc.drop k from rfl, cellsP_append, cellsP_one, HEE.out]; exact hown, by rw [insO_len, ← HO10.out.len]; omega, HO10.out.bel.trans ⟨hgrow.os, hgrow.tape, hgrow.output, hgrow.size, fun j hj => hgrow.block j (by have := HO10.out.bel.size; omega) (by simp)⟩⟩
        clear hown hgrow
        obtain ⟨G, hG⟩ : ∃ G, G = w10.heap.size := ⟨_, rfl⟩
        rw [← hG] at HO11 ⊢
        refine hK _ _ ?_
        clear hK hsc hG
        go_wp2_with fail
        exact ⟨⟨G, _, cap, i + 1, insO (ltOf cmpP) E acc, rfl, by go_num, by omega, by omega, HE2, HO11⟩, by simp only [intOf]; omega⟩
      have hf := decide_eq_true (show ((k : Int) < (n : Int)) by omega)
      have hf' := decide_eq_true hlt
      obtain ⟨y, hy⟩ : ∃ y, acc[k]? = some y := ⟨acc[k]'(by rw [← HO.out.len]; exact hlt), List.getElem?_eq_getElem _⟩
      obtain ⟨c0, c1, c2, c3, c4⟩ := HC.out _ HO.out.bel
      obtain ⟨ga, oa, hga, hcs⟩ := (HO.out.at.cells).2.2 (by omega)
      injection hga with hga
      injection hga with hga1 hga2
      subst hga1; subst hga2
      obtain ⟨y0, y1, y2, y3, y4⟩ := hcs k y hy
      have HL := Lib.hid (fun W => rless_ok E y W)
      rw [HEE.out] at HL
      obtain ⟨r, hr⟩ : ∃ r, r = ltOf cmpP E y := ⟨_, rfl⟩
      have HL2 : Hid (∀ W, Calls Try.prog 50 #[.agg #[.int .i64 et, .int .i64 ed, .int .i64 ef, .int .i64 ep, .string en], y.ev] W fun e w' => e = .returned (.bool r) ∧ Below W.heap.size W w') := Lib.hid (by rw [hr, HEE.out]; exact HL.out)
      have HR := Lib.hid hr
      have HY := Lib.hid hy
      obtain ⟨yt, yd, yf, yp, yn⟩ := y
      unfold Pl.ev at HL2
      dsimp only at c0 c1 c2 c3 c4 y0 y1 y2 y3 y4 HL2
      clear hcs hr hy HL
      rw [Nat.zero_add] at y0 y1 y2 y3 y4
      go_upto_region 7 with fail
      go_still_tail 13, (by kernel_rfl)
      change wpList _ _ _ _ _ wr.drew
      obtain ⟨W6, hW6⟩ : ∃ W, W = wr.drew := ⟨_, rfl⟩
      rw [← hW6]
      have HO6 := Lib.hid (HO.out.below (W' := W6) (by rw [hW6]; exact ⟨rfl, rfl, rfl, Nat.le_refl _, fun _ _ => rfl⟩))
      clear hW6 HO c0 c1 c2 c3 c4 y0 y1 y2 y3 y4
      go_wp2_with fail
      refine (HL2.out _).mono ?_
      rintro x W7 ⟨rfl, hB7⟩
      have HO7 := Lib.hid (HO6.out.below hB7)
      clear hB7 HO6 HL2
      cases r with
      | false =>
        have HI2 := Lib.hid (insO_next HY.out HR.out.symm HI.out)
        go_wp2_with fail
        exact ⟨⟨k + 1, by go_num, by omega, HI2, HO7⟩, by simp only [intOf]; omega⟩
      | true =>
        have HI2 := Lib.hid (insO_here HY.out HR.out.symm HI.out)
        clear HI
        go_upto_region 9 with fail
        have HE0 := Lib.hid fun (W : World) (hW : Below W7.heap.size W7 W) => HC.out W (HO7.out.bel.trans (hW.mono HO7.out.bel.size))
        obtain ⟨aa, haa, hsl⟩ := slice_offK (P := Try.prog) 22 24 5 Try.underlying22 Try.sizeOf24 g 0 n c k (by omega) hcap
        refine wp_region_noPanic ?_
        refine region_sched (fun W' => Below W7.heap.size W7 W') 9 [(0, true), (1, true), (2, true), (3, true), (5, true), (6, true), (7, true), (4, false), (8, false), (9, false)] (by kernel_rfl) (by kernel_rfl) (by kernel_rfl) rfl (fun _ _ _ _ h => h) ⟨rfl, rfl, rfl, Nat.le_refl _, fun _ _ => rfl⟩ ?_
        (refine sched_take (v := ?_) rfl (by rfl) (fun W' hS => ?_) ?_; rotate_left; (have d0 := (HE0.out W' hS).c0; have d1 := (HE0.out W' hS).c1; have d2 := (HE0.out W' hS).c2; have d3 := (HE0.out W' hS).c3; have d4 := (HE0.out W' hS).c4; dsimp only at d0 d1 d2 d3 d4; go_simp; with_reducible rfl); (try simp only [Act.put, List.getElem_toArray, List.getElem_cons_succ, List.getElem_cons_zero, List.setIfInBounds_toArray, List.set_cons_zero, List.set_cons_succ]))
        (refine sched_take (v := ?_) rfl (by rfl) (fun W' hS => ?_) ?_; rotate_left; (have d0 := (HE0.out W' hS).c0; have d1 := (HE0.out W' hS).c1; have d2 := (HE0.out W' hS).c2; have d3 := (HE0.out W' hS).c3; have d4 := (HE0.out W' hS).c4; dsimp only at d0 d1 d2 d3 d4; go_simp; with_reducible rfl); (try simp only [Act.put, List.getElem_toArray, List.getElem_cons_succ, List.getElem_cons_zero, List.setIfInBounds_toArray, List.set_cons_zero, List.set_cons_succ]))
        (refine sched_take (v := ?_) rfl (by rfl) (fun W' hS => ?_) ?_; rotate_left; (have d0 := (HE0.out W' hS).c0; have d1 := (HE0.out W' hS).c1; have d2 := (HE0.out W' hS).c2; have d3 := (HE0.out W' hS).c3; have d4 := (HE0.out W' hS).c4; dsimp only at d0 d1 d2 d3 d4; go_simp; with_reducible rfl); (try simp only [Act.put, List.getElem_toArray, List.getElem_cons_succ, List.getElem_cons_zero, List.setIfInBounds_toArray, List.set_cons_zero, List.set_cons_succ]))
        (refine sched_take (v := ?_) rfl (by rfl) (fun W' hS => ?_) ?_; rotate_left; (have d0 := (HE0.out W' hS).c0; have d1 := (HE0.out W' hS).c1; have d2 := (HE0.out W' hS).c2; have d3 := (HE0.out W' hS).c3; have d4 := (HE0.out W' hS).c4; dsimp only at d0 d1 d2 d3 d4; go_simp; with_reducible rfl); (try simp only [Act.put, List.getElem_toArray, List.getElem_cons_succ, List.getElem_cons_zero, List.setIfInBounds_toArray, List.set_cons_zero, List.set_cons_succ]))
        (refine sched_take (v := ?_) rfl (by rfl) (fun W' hS => ?_) ?_; rotate_left; (have d0 := (HE0.out W' hS).c0; have d1 := (HE0.out W' hS).c1; have d2 := (HE0.out W' hS).c2; have d3 := (HE0.out W' hS).c3; have d4 := (HE0.out W' hS).c4; dsimp only at d0 d1 d2 d3 d4; go_simp; with_reducible rfl); (try simp only [Act.put, List.getElem_toArray, List.getElem_cons_succ, List.getElem_cons_zero, List.setIfInBounds_toArray, List.set_cons_zero, List.set_cons_succ]))
        (refine sched_take (v := ?_) rfl (by rfl) (fun W' hS => ?_) ?_; rotate_left; (have d0 := (HE0.out W' hS).c0; have d1 := (HE0.out W' hS).c1; have d2 := (HE0.out W' hS).c2; have d3 := (HE0.out W' hS).c3; have d4 := (HE0.out W' hS).c4; dsimp only at d0 d1 d2 d3 d4; go_simp; with_reducible rfl); (try simp only [Act.put, List.getElem_toArray, List.getElem_cons_succ, List.getElem_cons_zero, List.setIfInBounds_toArray, List.set_cons_zero, List.set_cons_succ]))
        (refine sched_take (v := ?_) rfl (by rfl) (fun W' hS => ?_) ?_; rotate_left; (have d0 := (HE0.out W' hS).c0; have d1 := (HE0.out W' hS).c1; have d2 := (HE0.out W' hS).c2; have d3 := (HE0.out W' hS).c3; have d4 := (HE0.out W' hS).c4; dsimp only at d0 d1 d2 d3 d4; go_simp; with_reducible rfl); (try simp only [Act.put, List.getElem_toArray, List.getElem_cons_succ, List.getElem_cons_zero, List.setIfInBounds_toArray, List.set_cons_zero, List.set_cons_succ]))
        obtain ⟨W8, hW8⟩ : ∃ W, W = W7.drew := ⟨_, rfl⟩
        have HB8 : Hid (Below W7.heap.size W7 W8) := Lib.hid (by rw [hW8]; exact ⟨rfl, rfl, rfl, Nat.le_refl _, fun _ _ => rfl⟩)
        have HO8 := Lib.hid (HO7.out.below HB8.out)
        rw [← hW8]
        clear hW8 hsl
        refine sched_do rfl (fun K' hK => ?_)
        go_simp
        have HL9 := Lib.hid (World.ownsRow_lit (base := w.heap.size) (size := 5) (e := 24) W8 (Pl.cells ⟨et, ed, ef, ep, en⟩).toArray 1 HO8.out.bel.size (by unfold maxLen; omega) rfl)
        have hB9 := below_alloc W8 (.cells (Pl.cells ⟨et, ed, ef, ep, en⟩).toArray 24)
        have HO9 := Lib.hid (HO8.out.below hB9)
        have HB9 := Lib.hid (below_trans HB8.out hB9)
        obtain ⟨gl, hgl⟩ : ∃ gl, gl = W8.heap.size := ⟨_, rfl⟩
        rw [← hgl]
        rw [← hgl] at HL9
        have hgl2 : W8.heap.size ≤ gl := by rw [hgl]; exact Nat.le_refl _
        have HW89 : Hid (∀ j, j < W8.heap.size → (W8.alloc (.cells (Pl.cells ⟨et, ed, ef, ep, en⟩).toArray 24)).heap[j]? = W8.heap[j]?) := Lib.hid fun j hj => hB9.block j hj
        have HG9 := Lib.hid hB9
        obtain ⟨W9, hW9⟩ : ∃ W, W = W8.alloc (.cells (Pl.cells ⟨et, ed, ef, ep, en⟩).toArray 24) := ⟨_, rfl⟩
        rw [← hW9] at HL9 HO9 HB9 HG9
        have hW9' : W8.alloc (.cells #[.int .i64 et, .int .i64 ed, .int .i64 ef, .int .i64 ep, .string en] 24) = W9 := hW9.symm
        rw [hW9']
        clear hW9 hW9' hgl hB9 HW89
        refine hK.out _ _ HB9.out fun _ => ?_
        clear hK
        (try simp only [Act.put, List.getElem_toArray, List.getElem_cons_succ, List.getElem_cons_zero, List.setIfInBounds_toArray, List.set_cons_zero, List.set_cons_succ])
        refine sched_do rfl (fun K' hK => ?_)
        rw [if_pos (by rfl)]
        have HU : Hid (RowAt W9 (.slice (some aa) (n - k) (c - k)) 5 (n - k) (cellsP (acc.drop k))) := Lib.hid (HO9.out.drop (by omega) haa)
        refine wp_append_row _ _ 22 rfl w.heap.size 24 i0 (.agg #[.int .i64 0, .int .i64 0, .int .i64 0, .int .i64 0, .string ⟨#[]⟩]) 5 48 Try.underlying22 hi hz0 hz1 hzb rfl (by decide) _ _ _ rfl HL9.out _ _ _ rfl HU.out (cells_all _) (by unfold maxLen; omega) (by omega) HO9.out.bel.size ?_
        intro v' w10 hown hgrow
        have hB10 : Below W8.heap.size W8 w10 := HG9.out.grown hgrow HG9.out.size (fun j hj => by have := (HL9.out.lt j hj).1; injection hj with hj; rw [← hj]; exact hgl2)
        obtain ⟨gr, cr, rfl, -, -⟩ := World.ownsRow.form hown (by omega)
        have HR10 := Lib.hid hown
        have HO10 := Lib.hid (HO8.out.below hB10)
        have HB10 := Lib.hid (HB8.out.trans (hB10.mono HB8.out.size))
        clear hown hgrow hB10 HL9 HO9 HB9 HG9 HU
        refine hK.out _ _ HB10.out fun _ => ?_
        clear hK
        (try simp only [Act.put, List.getElem_toArray, List.getElem_cons_succ, List.getElem_cons_zero, List.setIfInBounds_toArray, List.set_cons_zero, List.set_cons_succ])
        refine sched_end rfl (fun K' hK => ?_)
        go_simp
        refine hK.out _ _ ?_
        clear hK
        refine NoPanic.normal ?_
        have hsc := slice_cut (P := Try.prog) 22 24 5 Try.underlying22 Try.sizeOf24 g 0 n c k (by omega)
        go_wp2_with (at_builtin; refine Hid.out ?_)
        refine Lib.hid ?_
        refine wpList_plain rfl fun _ hK => ?_
        refine wp_append_cut _ _ 22 rfl 24 i0 (.agg #[.int .i64 0, .int .i64 0, .int .i64 0, .int .i64 0, .string ⟨#[]⟩]) 5 48 Try.underlying22 hi hz0 hz1 hzb rfl ⟨g, 0, none⟩ k (cellsP (acc.take k)) rfl (by rw [cellsP_length, List.length_take, ← HO10.out.len, Nat.min_eq_left (by omega)]) (HO10.out.pre k) ⟨gr, 0, none⟩ (1 + (n - k)) cr _ rfl HR10.out.1 (own_cells HR10.out) (by omega) (by unfold maxLen; omega) (by omega) w.heap.size HO10.out.bel.size ?_
        intro cap w11 hown hgrow
        have HO11 : Hid (OutR w w11 w10.heap.size (k + (1 + (n - k))) cap (insO (ltOf cmpP) E acc)) := Lib.hid ⟨by rw [HI2.out, cellsP_append, show (E :: acc.drop k) = [E] ++ acc.drop k from rfl, cellsP_append, cellsP_one, HEE.out]; exact hown, by rw [insO_len, ← HO10.out.len]; omega, HO10.out.bel.trans ⟨hgrow.os, hgrow.tape, hgrow.output, hgrow.size, fun j hj => hgrow.block j (by have := HO10.out.bel.size; omega) (by simp)⟩⟩
        clear hown hgrow
        obtain ⟨G, hG⟩ : ∃ G, G = w10.heap.size := ⟨_, rfl⟩
        rw [← hG] at HO11 ⊢
        refine hK _ _ ?_
        clear hK hsc hG
        go_wp2_with fail
        exact ⟨⟨G, _, cap, i + 1, insO (ltOf cmpP) E acc, rfl, by go_num, by omega, by omega, HE2, HO11⟩, by simp only [intOf]; omega⟩
end Go.Proofs.Ytcflnjmglanneaa
