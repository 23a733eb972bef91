/- The walk of FoldersOrder. -/
import Derived.Test.YtcflnjmglanneaaUo
namespace Go.Proofs.Ytcflnjmglanneaa
open Go.RowKit Go.Maps Go.Sort
set_option maxRecDepth 100000
set_option linter.unusedVariables false
set_option linter.unusedSimpArgs false

theorem below_app0 {w wr w5 : World} {e : TypeId} {k n : Nat} {v : Value} {xs : List Value} (h : wr.ownsRow w.heap.size e k v n xs) (hB : Below w.heap.size w wr) (hg : wr.grownBy w5 v.ownBlock) : Below w.heap.size w w5 := by
  refine hB.trans ⟨hg.os, hg.tape, hg.output, hg.size, fun j hj => hg.block j (by have := hB.size; omega) (fun e => ?_)⟩
  have := (h.lt j e.symm).1
  omega
/-- A row of places that grows by whole rows. -/
structure OwnA (w W : World) (v : Value) (acc : List Pl) : Prop where
  own : W.ownsRow w.heap.size 24 5 v acc.length (cellsP acc)
  bel : Below w.heap.size w W
theorem OwnA.new {w W : World} (h : Below w.heap.size w W) : OwnA w (W.alloc (.cells #[] 24)) (.slice (some ⟨W.heap.size, 0, none⟩) 0 0) [] :=
  ⟨World.ownsRow_lit (base := w.heap.size) (size := 5) (e := 24) W #[] 0 h.size (by unfold maxLen; omega) (by simp), h.alloc h.size _⟩
theorem OwnA.app {w W W' : World} {v v' : Value} {acc m : List Pl} (h : OwnA w W v acc) (hown : W'.ownsRow w.heap.size 24 5 v' (acc.length + m.length) (cellsP acc ++ cellsP m)) (hg : W.grownBy W' v.ownBlock) : OwnA w W' v' (acc ++ m) :=
  ⟨by rw [cellsP_append, List.length_append]; exact hown, below_app0 h.own h.bel hg⟩
theorem OwnA.app_place {w W W' : World} {v v' : Value} {acc : List Pl} {e : Pl} {o : Obj} (h : OwnA w W v acc) (hown : W'.ownsRow w.heap.size 24 5 v' (acc.length + 1) (cellsP acc ++ e.cells)) (hg : (W.alloc o).grownBy W' v.ownBlock) : OwnA w W' v' (acc ++ [e]) :=
  ⟨by rw [cellsP_append, cellsP_one, List.length_append]; exact hown, below_app h.own h.bel hg⟩
theorem OwnA.at {w W : World} {v : Value} {acc : List Pl} (h : OwnA w W v acc) : PlAt W v acc := PlAt.of_own h.own
theorem OwnA.below {w W W' : World} {v : Value} {acc : List Pl} (h : OwnA w W v acc) (hB : Below W.heap.size W W') : OwnA w W' v acc :=
  ⟨below_own h.own hB, h.bel.trans (hB.mono h.bel.size)⟩
theorem PlAt.drop {w : World} {g o n c k : Nat} {l : List Pl} {a : Addr} (h : PlAt w (.slice (some ⟨g, o, none⟩) n c) l) (hk : k ≤ n) (ha : 0 < n - k → a = ⟨g, o + k * 5, none⟩) : PlAt w (.slice (some a) (n - k) (c - k)) (l.drop k) := by
  obtain ⟨hn, hc, -⟩ := h.cells
  unfold PlAt
  rw [List.length_drop, ← hn]
  refine ⟨by rw [cellsP_length, List.length_drop, ← hn], some a, c - k, rfl, by omega, (fun e => by cases e), fun h0 => ?_⟩
  refine ⟨g, o + k * 5, by rw [ha h0], fun j u hj => ?_⟩
  rw [cellsP_drop, List.getElem?_drop] at hj
  rw [Nat.add_assoc]
  exact h.all _ u hj
theorem PlAt.take {w : World} {g o n c k : Nat} {l : List Pl} (h : PlAt w (.slice (some ⟨g, o, none⟩) n c) l) (hk : k ≤ n) : PlAt w (.slice (some ⟨g, o, none⟩) k c) (l.take k) := by
  obtain ⟨hn, hc, -⟩ := h.cells
  unfold PlAt
  have hlk : (l.take k).length = k := by rw [List.length_take, ← hn]; omega
  rw [hlk]
  refine ⟨by rw [cellsP_length, hlk], some ⟨g, o, none⟩, c, rfl, by omega, (fun e => by cases e), fun h0 => ⟨g, o, rfl, fun j u hj => ?_⟩⟩
  rw [cellsP_take, List.getElem?_take] at hj
  split at hj
  · exact h.all j u hj
  · cases hj
set_option maxHeartbeats 800000 in
theorem order_walk (l m : List Pl) (v u : Value) (a : Int) (w : World) (ht : PlAt w v l) (hl : l.length ≤ maxLen) (hm : PlAt w u m) (hml : m.length ≤ maxLen) (ha : 0 ≤ a ∧ a < 18446744073709551616) :
    Calls Try.prog 6 #[v, u, .int .u64 a] w fun e w' => e = .returned (.bool true) ∧ Below w.heap.size w w' := by
  obtain ⟨pt, pc, rfl, hc, -⟩ := ht.form
  obtain ⟨pm, mc, rfl, hmc, -⟩ := hm.form
  have HT := Lib.hid ht
  have HM := Lib.hid hm
  obtain ⟨n, hn⟩ : ∃ n, n = l.length := ⟨_, rfl⟩
  have HN := Lib.hid hn
  obtain ⟨q, hq⟩ : ∃ n, n = m.length := ⟨_, rfl⟩
  have HQ := Lib.hid hq
  rw [← hn] at HT hl hc ⊢
  rw [← hq] at HM hml hmc ⊢
  have HA := Lib.hid ha
  clear ht hm hn hq ha
  go_enter Try.func6, Try.ntmps6
  go_wp2_with fail
  refine (sane_ok w).mono ?_
  rintro e W1 ⟨rfl, hB⟩
  have HB1 : Hid (Below w.heap.size w W1) := Lib.hid (hB)
  have HT_1 := Lib.hid ((HT.out).below hB)
  have HM_1 := Lib.hid ((HM.out).below hB)
  clear hB HT HM
  go_wp2_with fail
  refine (few_ok pt pm n pc q mc W1 hl hml).mono ?_
  rintro e W2 ⟨rfl, rfl⟩
  by_cases h30 : n ≤ 30 ∧ q ≤ 30
  case neg =>
    rw [decide_eq_false h30]
    clear h30
    go_wp2_with fail
    go_ret
    exact ⟨rfl, HB1.out⟩
  rw [decide_eq_true h30]
  by_cases hn0 : n = 0
  case pos =>
    subst hn0
    clear h30
    go_wp2_with fail
    go_ret
    exact ⟨rfl, HB1.out⟩
  have hd0 := decide_eq_false (show ¬ ((n : Int) = 0) by omega)
  have hd1 : ((n : Int) == 0) = false := by simpa using hn0
  obtain ⟨g, o, rfl, -⟩ := HT_1.out.cells.2.2 (by omega)
  clear hc hmc
  obtain ⟨k, hk, hkn⟩ : ∃ k : Nat, wrap64 (a.tmod (n : Int)) = (k : Int) ∧ k < n := by
    obtain ⟨a0, a1⟩ := HA.out
    refine ⟨(a % (n : Int)).toNat, ?_, ?_⟩
    · have h1 : a.tmod (n : Int) = a % (n : Int) := Int.tmod_eq_emod_of_nonneg a0
      have h2 := Int.emod_nonneg a (show (n : Int) ≠ 0 by omega)
      have h3 := Int.emod_lt_of_pos a (show (0 : Int) < n by omega)
      rw [h1]; unfold wrap64
      omega
    · have h2 := Int.emod_nonneg a (show (n : Int) ≠ 0 by omega)
      have h3 := Int.emod_lt_of_pos a (show (0 : Int) < n by omega)
      omega
  go_upto_region 6 with fail
  have hcap := HT_1.out.cells.2.1
  obtain ⟨aa, haa, hsl⟩ := slice_offK (P := Try.prog) 22 24 5 Try.underlying22 Try.sizeOf24 g o n pc k (by omega) hcap
  have hto := slice_toK (P := Try.prog) 22 24 5 Try.underlying22 Try.sizeOf24 g o n pc k (by omega)
  have HDR := Lib.hid (HT_1.out.drop (k := k) (by omega) haa)
  have HTK := Lib.hid (HT_1.out.take (k := k) (by omega))
  clear haa hcap
  refine wp_region_noPanic ?_
  refine region_sched (fun W' => Below W1.heap.size W1 W') 11 [(1, true), (2, true), (3, true), (5, true), (7, true), (8, true), (9, true), (0, false), (4, false), (6, false), (10, false), (11, false)] (by kernel_rfl) (by kernel_rfl) (by kernel_rfl) rfl (fun _ _ _ _ h => h) ⟨rfl, rfl, rfl, Nat.le_refl _, fun _ _ => rfl⟩ ?_
  obtain ⟨Wd, hWd⟩ : ∃ W, W = W1.drew := ⟨_, rfl⟩
  have HSd : Hid (Below W1.heap.size W1 Wd) := Lib.hid (by rw [hWd]; exact ⟨rfl, rfl, rfl, Nat.le_refl _, fun _ _ => rfl⟩)
  rw [← hWd]
  clear hWd
  (refine sched_take (v := ?_) rfl (by rfl) (fun W' hS => ?_) ?_; rotate_left; (go_simp; with_reducible rfl); (try simp only [Act.put, List.getElem_toArray, List.getElem_cons_succ, List.getElem_cons_zero, List.setIfInBounds_toArray, List.set_cons_zero, List.set_cons_succ]))
  (refine sched_take (v := ?_) rfl (by rfl) (fun W' hS => ?_) ?_; rotate_left; (go_simp; with_reducible rfl); (try simp only [Act.put, List.getElem_toArray, List.getElem_cons_succ, List.getElem_cons_zero, List.setIfInBounds_toArray, List.set_cons_zero, List.set_cons_succ]))
  (refine sched_take (v := ?_) rfl (by rfl) (fun W' hS => ?_) ?_; rotate_left; (go_simp; with_reducible rfl); (try simp only [Act.put, List.getElem_toArray, List.getElem_cons_succ, List.getElem_cons_zero, List.setIfInBounds_toArray, List.set_cons_zero, List.set_cons_succ]))
  (refine sched_take (v := ?_) rfl (by rfl) (fun W' hS => ?_) ?_; rotate_left; (go_simp; with_reducible rfl); (try simp only [Act.put, List.getElem_toArray, List.getElem_cons_succ, List.getElem_cons_zero, List.setIfInBounds_toArray, List.set_cons_zero, List.set_cons_succ]))
  (refine sched_take (v := ?_) rfl (by rfl) (fun W' hS => ?_) ?_; rotate_left; (go_simp; with_reducible rfl); (try simp only [Act.put, List.getElem_toArray, List.getElem_cons_succ, List.getElem_cons_zero, List.setIfInBounds_toArray, List.set_cons_zero, List.set_cons_succ]))
  (refine sched_take (v := ?_) rfl (by rfl) (fun W' hS => ?_) ?_; rotate_left; (go_simp; with_reducible rfl); (try simp only [Act.put, List.getElem_toArray, List.getElem_cons_succ, List.getElem_cons_zero, List.setIfInBounds_toArray, List.set_cons_zero, List.set_cons_succ]))
  (refine sched_take (v := ?_) rfl (by rfl) (fun W' hS => ?_) ?_; rotate_left; (go_simp; with_reducible rfl); (try simp only [Act.put, List.getElem_toArray, List.getElem_cons_succ, List.getElem_cons_zero, List.setIfInBounds_toArray, List.set_cons_zero, List.set_cons_succ]))
  obtain ⟨i0, hi, hz0, hz1, hzb⟩ := info_parts info_place
  have HO0 := Lib.hid (OwnA.new HSd.out)
  refine sched_do rfl (fun K' hK => ?_)
  go_simp
  refine hK.out _ _ HO0.out.bel fun _ => ?_
  clear hK
  (try simp only [Act.put, List.getElem_toArray, List.getElem_cons_succ, List.getElem_cons_zero, List.setIfInBounds_toArray, List.set_cons_zero, List.set_cons_succ])
  refine sched_do rfl (fun K' hK => ?_)
  split
  rotate_left
  · rename_i h; exact absurd (by rfl) h
  refine wp_append_row _ _ 22 rfl _ 24 i0 (.agg #[.int .i64 0, .int .i64 0, .int .i64 0, .int .i64 0, .string ⟨#[]⟩]) 5 48 Try.underlying22 hi hz0 hz1 hzb rfl (by decide) _ _ _ rfl HO0.out.own _ _ _ rfl (show RowAt _ _ 5 _ (cellsP _) from (HDR.out.below HO0.out.bel)) (cells_all _) (by have := HN.out; have := HQ.out; simp only [List.length_append, List.length_drop, List.length_take, List.length_nil, List.length_cons, List.length_singleton]; unfold maxLen; omega) (by have := HN.out; have := HQ.out; simp only [List.length_append, List.length_drop, List.length_take, List.length_nil, List.length_cons, List.length_singleton]; omega) HO0.out.bel.size ?_
  intro v3 w3 hown hg
  have HO1 := Lib.hid (HO0.out.app hown hg)
  clear hown hg HO0
  refine hK.out _ _ HO1.out.bel fun _ => ?_
  clear hK
  (try simp only [Act.put, List.getElem_toArray, List.getElem_cons_succ, List.getElem_cons_zero, List.setIfInBounds_toArray, List.set_cons_zero, List.set_cons_succ])
  refine sched_do rfl (fun K' hK => ?_)
  split
  rotate_left
  · rename_i h; exact absurd (by rfl) h
  refine wp_append_row _ _ 22 rfl _ 24 i0 (.agg #[.int .i64 0, .int .i64 0, .int .i64 0, .int .i64 0, .string ⟨#[]⟩]) 5 48 Try.underlying22 hi hz0 hz1 hzb rfl (by decide) _ _ _ rfl HO1.out.own _ _ _ rfl (show RowAt _ _ 5 _ (cellsP _) from (HM_1.out.below HO1.out.bel)) (cells_all _) (by have := HN.out; have := HQ.out; simp only [List.length_append, List.length_drop, List.length_take, List.length_nil, List.length_cons, List.length_singleton]; unfold maxLen; omega) (by have := HN.out; have := HQ.out; simp only [List.length_append, List.length_drop, List.length_take, List.length_nil, List.length_cons, List.length_singleton]; omega) HO1.out.bel.size ?_
  intro v4 w4 hown hg
  have HO2 := Lib.hid (HO1.out.app hown hg)
  clear hown hg HO1
  refine hK.out _ _ HO2.out.bel fun _ => ?_
  clear hK
  (try simp only [Act.put, List.getElem_toArray, List.getElem_cons_succ, List.getElem_cons_zero, List.setIfInBounds_toArray, List.set_cons_zero, List.set_cons_succ])
  refine sched_do rfl (fun K' hK => ?_)
  split
  rotate_left
  · rename_i h; exact absurd (by rfl) h
  refine wp_append_row _ _ 22 rfl _ 24 i0 (.agg #[.int .i64 0, .int .i64 0, .int .i64 0, .int .i64 0, .string ⟨#[]⟩]) 5 48 Try.underlying22 hi hz0 hz1 hzb rfl (by decide) _ _ _ rfl HO2.out.own _ _ _ rfl (show RowAt _ _ 5 _ (cellsP _) from (HTK.out.below HO2.out.bel)) (cells_all _) (by have := HN.out; have := HQ.out; simp only [List.length_append, List.length_drop, List.length_take, List.length_nil, List.length_cons, List.length_singleton]; unfold maxLen; omega) (by have := HN.out; have := HQ.out; simp only [List.length_append, List.length_drop, List.length_take, List.length_nil, List.length_cons, List.length_singleton]; omega) HO2.out.bel.size ?_
  intro v5 w5 hown hg
  have HO3 := Lib.hid (HO2.out.app hown hg)
  clear hown hg HO2
  refine hK.out _ _ HO3.out.bel fun _ => ?_
  clear hK
  (try simp only [Act.put, List.getElem_toArray, List.getElem_cons_succ, List.getElem_cons_zero, List.setIfInBounds_toArray, List.set_cons_zero, List.set_cons_succ])
  refine sched_end rfl (fun K' hK => ?_)
  go_simp
  refine hK.out _ _ ?_
  clear hK
  refine NoPanic.normal ?_
  obtain ⟨e, he, -⟩ := take_at (l := l) (j := k) (by rw [← HN.out]; exact hkn)
  have HE := Lib.hid he
  obtain ⟨g', o', hgo, hcs⟩ := HT_1.out.cells.2.2 (by omega)
  injection hgo with hgo
  injection hgo with h1 h2
  subst h1; subst h2
  obtain ⟨c0, c1, c2, c3, c4⟩ := (hcs k e he).below HO3.out.bel
  obtain ⟨et, ed, ef, ep, en⟩ := e
  dsimp only at c0 c1 c2 c3 c4
  clear hcs he hsl hto HDR HTK
  go_wp2_with (at_builtin; refine Hid.out ?_)
  refine Lib.hid ?_
  refine wpList_plain rfl fun _ hK => ?_
  refine wp_append_row _ _ 22 rfl _ 24 i0 (.agg #[.int .i64 0, .int .i64 0, .int .i64 0, .int .i64 0, .string ⟨#[]⟩]) 5 48 Try.underlying22 hi hz0 hz1 hzb rfl (by decide) _ _ _ rfl (below_own HO3.out.own (below_alloc _ _)) _ _ _ rfl (lit_place w5 ⟨et, ed, ef, ep, en⟩) (cells_one _) (by have := HN.out; have := HQ.out; simp only [List.length_append, List.length_drop, List.length_take, List.length_nil, List.length_cons, List.length_singleton]; unfold maxLen; omega) (by have := HN.out; have := HQ.out; simp only [List.length_append, List.length_drop, List.length_take, List.length_nil, List.length_cons, List.length_singleton]; omega) (by have := HO3.out.bel.size; rw [World.size_alloc]; omega) ?_
  intro v6 w6 hown hg
  have HO4 := Lib.hid (HO3.out.app_place (e := ⟨et, ed, ef, ep, en⟩) hown hg)
  have HT_2 := Lib.hid (HT_1.out.below HO4.out.bel)
  have HM_2 := Lib.hid (HM_1.out.below HO4.out.bel)
  have HB2 := Lib.hid (below_trans HB1.out HO4.out.bel)
  clear hown hg HO3 HT_1 HM_1 HB1 c0 c1 c2 c3 c4
  refine hK _ _ ?_
  clear hK
  go_wp2_with fail
  refine (tree_ok _ v6 w6 HO4.out.at (by have := HN.out; have := HQ.out; simp only [List.length_append, List.length_drop, List.length_take, List.length_nil, List.length_cons, List.length_singleton]; omega)).mono ?_
  rintro e w7 ⟨u7, rfl, hu, hB⟩
  have HU7 := Lib.hid hu
  have HB3 := Lib.hid (below_trans HB2.out hB)
  have HT_3 := Lib.hid (HT_2.out.below hB)
  have HM_3 := Lib.hid (HM_2.out.below hB)
  clear hB hu HB2 HT_2 HM_2
  have HP0 := Lib.hid (OwnA.new (Below.refl w7.heap.size w7))
  go_wp2_with (at_builtin; refine Hid.out ?_)
  refine Lib.hid ?_
  refine wpList_plain rfl fun _ hK => ?_
  refine wp_append_row _ _ 22 rfl _ 24 i0 (.agg #[.int .i64 0, .int .i64 0, .int .i64 0, .int .i64 0, .string ⟨#[]⟩]) 5 48 Try.underlying22 hi hz0 hz1 hzb rfl (by decide) _ _ _ rfl HP0.out.own _ _ _ rfl (show RowAt _ _ 5 _ (cellsP _) from (HT_3.out.below HP0.out.bel)) (cells_all _) (by have := HN.out; have := HQ.out; simp only [List.length_append, List.length_drop, List.length_take, List.length_nil, List.length_cons, List.length_singleton]; unfold maxLen; omega) (by have := HN.out; have := HQ.out; simp only [List.length_append, List.length_drop, List.length_take, List.length_nil, List.length_cons, List.length_singleton]; omega) HP0.out.bel.size ?_
  intro v8 w8 hown hg
  have HP1 := Lib.hid (HP0.out.app hown hg)
  clear hown hg HP0
  refine hK _ _ ?_
  clear hK
  go_wp2_with (at_builtin; refine Hid.out ?_)
  refine Lib.hid ?_
  refine wpList_plain rfl fun _ hK => ?_
  refine wp_append_row _ _ 22 rfl _ 24 i0 (.agg #[.int .i64 0, .int .i64 0, .int .i64 0, .int .i64 0, .string ⟨#[]⟩]) 5 48 Try.underlying22 hi hz0 hz1 hzb rfl (by decide) _ _ _ rfl HP1.out.own _ _ _ rfl (show RowAt _ _ 5 _ (cellsP _) from (HM_3.out.below HP1.out.bel)) (cells_all _) (by have := HN.out; have := HQ.out; simp only [List.length_append, List.length_drop, List.length_take, List.length_nil, List.length_cons, List.length_singleton]; unfold maxLen; omega) (by have := HN.out; have := HQ.out; simp only [List.length_append, List.length_drop, List.length_take, List.length_nil, List.length_cons, List.length_singleton]; omega) HP1.out.bel.size ?_
  intro v9 w9 hown hg
  have HP2 := Lib.hid (HP1.out.app hown hg)
  clear hown hg HP1
  refine hK _ _ ?_
  clear hK
  have HU7' := Lib.hid (HU7.out.below HP2.out.bel)
  have HB4 := Lib.hid (below_trans HB3.out HP2.out.bel)
  clear HU7 HB3 HT_3 HM_3
  go_wp2_with fail
  refine (tree_ok _ v9 w9 HP2.out.at (by have := HN.out; have := HQ.out; simp only [List.length_append, List.length_drop, List.length_take, List.length_nil, List.length_cons, List.length_singleton]; omega)).mono ?_
  rintro e wa ⟨ua, rfl, hu, hB⟩
  have HU8 := Lib.hid (HU7'.out.below hB)
  have HUA := Lib.hid hu
  have HB5 := Lib.hid (below_trans HB4.out hB)
  clear hB hu HU7' HB4 HP2
  have HEQ : Hid (treeP ([] ++ l.drop k ++ m ++ l.take k ++ [⟨et, ed, ef, ep, en⟩]) = treeP ([] ++ l ++ m)) := Lib.hid (by
    show treeL _ _ = treeL _ _
    rw [List.nil_append, List.nil_append]
    exact treeL_order cmp_tot l m k _ HE.out)
  rw [HEQ.out] at HU8
  go_wp2_with fail
  refine (rsame_ok _ _ u7 ua wa HU8.out HUA.out (by have := treeP_few ([] ++ l ++ m); omega) (by have := treeP_few ([] ++ l ++ m); omega)).mono ?_
  rintro e wb ⟨rfl, hB⟩
  rw [decide_eq_true rfl]
  have HB6 := Lib.hid (below_trans HB5.out hB)
  clear hB HB5
  go_wp2_with fail
  go_ret
  exact ⟨rfl, HB6.out⟩
theorem order_w {H : Type} {enc : TypeId × Value → H} {w : World} {base : Nat} (v : Value) (d : DataW H) (p : List MemPlace) (h : DataW.Trod enc Try.prog w 0 (fun _ => true) true 22 v d p) (hv : Value.okWide Try.prog w .any base 22 v)
    (v1 : Value) (d1 : DataW H) (p1 : List MemPlace) (h1 : DataW.Trod enc Try.prog w 0 (fun _ => true) true 22 v1 d1 p1) (hv1 : Value.okWide Try.prog w .any base 22 v1)
    (a : Int) (ha : (Lit.int .u64 a).wf = true) :
    Calls Try.prog 6 #[v, v1, .int .u64 a] w fun e w' => e = .returned (.bool true) ∧ Below w.heap.size w w' := by
  obtain ⟨l, ht, hl⟩ := placesIn h hv
  obtain ⟨m, hm, hml⟩ := placesIn h1 hv1
  have h2 : 0 ≤ a ∧ a < 18446744073709551616 := by
    have h3 : IntKind.u64.min ≤ a ∧ a ≤ IntKind.u64.max := by simpa only [Lit.wf, Bool.and_eq_true, decide_eq_true_eq] using ha
    have e1 : IntKind.u64.min = 0 := rfl
    have e2 : IntKind.u64.max = 18446744073709551615 := rfl
    rw [e1, e2] at h3
    omega
  exact order_walk l m v v1 a w ht hl hm hml h2
end Go.Proofs.Ytcflnjmglanneaa
