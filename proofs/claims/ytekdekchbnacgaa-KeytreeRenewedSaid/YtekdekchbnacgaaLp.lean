/- The walk of sane. -/
import Derived.Test.YtekdekchbnacgaaLo
import Derived.Test.YtekdekchbnacgaaLg
import Derived.Test.YtekdekchbnacgaaRx
namespace Go.Proofs.Ytekdekchbnacgaa
open Go.RowKit
set_option maxRecDepth 100000
set_option linter.unusedVariables false
set_option linter.unusedSimpArgs false

theorem ints_of_row {w : World} {B : Nat} {v : Value} {l : List Int} (h : w.ownsRow B 3 1 v l.length (l.map (Value.int .i64))) : IntsAt w v l := by
  obtain ⟨p, c, rfl, hc, hcs⟩ := ints_form h
  refine ⟨p, c, rfl, hc, fun h0 => ?_⟩
  obtain ⟨g, rfl, -, -, h1⟩ := hcs h0
  exact ⟨g, 0, rfl, fun j hj => by rw [Nat.zero_add]; exact h1 j hj⟩
theorem ints_below {w w' : World} {v : Value} {l : List Int} (h : IntsAt w v l) (hB : Below w.heap.size w w') : IntsAt w' v l := by
  obtain ⟨p, c, rfl, hc, hcs⟩ := h
  refine ⟨p, c, rfl, hc, fun h0 => ?_⟩
  obtain ⟨g, o, rfl, h1⟩ := hcs h0
  exact ⟨g, o, rfl, fun j hj => cellOld (h1 j hj) (hB.block g (cellLt (h1 j hj)))⟩
theorem nodes_form {w : World} {v : Value} {t : List (Int × Int)} (h : NodesAt w v t) : ∃ p c, v = .slice p t.length c := by
  obtain ⟨p, c, h, -⟩ := h; exact ⟨p, c, h⟩
theorem ints_lit (w : World) (l : List Int) (hl : l.length ≤ 1000000) : IntsAt (w.alloc (.cells (l.map (Value.int .i64)).toArray 3)) (.slice (some ⟨w.heap.size, 0, none⟩) l.length l.length) l := by
  refine ints_of_row (B := 0) ?_
  have h := World.ownsRow_lit (base := 0) (size := 1) (e := 3) w (l.map (Value.int .i64)).toArray l.length (Nat.zero_le _) (by unfold maxLen; omega) (by simp)
  simpa using h
theorem nodes_lit (w : World) (t : List (Int × Int)) (hl : t.length ≤ 1000000) (hw : Wf t) : NodesAt (w.alloc (.cells (cellsL t).toArray 48)) (.slice (some ⟨w.heap.size, 0, none⟩) t.length t.length) t := by
  refine nodes_of_row (B := 0) ?_ hw
  have h := World.ownsRow_lit (base := 0) (size := 2) (e := 48) w (cellsL t).toArray t.length (Nat.zero_le _) (by unfold maxLen; omega) (by simp [cellsL_length])
  simpa using h
theorem below_alloc (w : World) (o : Obj) : Below w.heap.size w (w.alloc o) := (Below.refl _ w).alloc (Nat.le_refl _) o
theorem below_trans {w w1 w2 : World} (h : Below w.heap.size w w1) (h2 : Below w1.heap.size w1 w2) : Below w.heap.size w w2 := h.trans (h2.mono h.size)

theorem ten_ok (w : World) : Calls Try.prog 34 #[] w fun e w' => ∃ u, e = .returned u ∧ IntsAt w' u tenL ∧ Below w.heap.size w w' := by
  have HI := Lib.hid (ints_lit w tenL (by decide))
  have HB := Lib.hid (below_alloc w (.cells (tenL.map (Value.int .i64)).toArray 3))
  go_enter Try.func34, Try.ntmps34
  go_wp2
  go_ret
  exact ⟨_, rfl, HI.out, HB.out⟩

/-- A box of a tree. -/
def TreeBox (w : World) (b : Nat) (t : List (Int × Int)) : Prop := ∃ u, w.cell? ⟨b, 0, none⟩ = some u ∧ NodesAt w u t
theorem TreeBox.below {w w' : World} {b : Nat} {t : List (Int × Int)} (h : TreeBox w b t) (hB : Below w.heap.size w w') : TreeBox w' b t := by
  obtain ⟨u, h1, h2⟩ := h
  exact ⟨u, cellOld h1 (hB.block _ (cellLt h1)), h2.below hB⟩
theorem TreeBox.new {w : World} {u : Value} {t : List (Int × Int)} (h : NodesAt w u t) : TreeBox (w.alloc (.cells #[u] 24)) w.heap.size t :=
  ⟨u, by unfold World.cell?; rw [World.alloc_heap_new]; rfl, h.below (below_alloc w _)⟩

/-- A row of nodes is not a box of a slice. -/
theorem box_no_int {w : World} {b i : Nat} {t : TypeId} {p : Option Addr} {n c : Nat} {x : Int} (hb : Boxed w b t (.slice p n c)) (h : w.cell? ⟨b, i, none⟩ = some (.int .i64 x)) : False := by
  have hb' : w.heap[b]? = some (.cells #[.slice p n c] t (0, 0)) := hb
  unfold World.cell? at h
  simp only [hb'] at h
  cases i with
  | zero => simp at h
  | succ i => simp at h
theorem nodes_set {w : World} {v x : Value} {b : Nat} {t : TypeId} {l : List (Int × Int)} {p : Option Addr} {n c : Nat} (h : NodesAt w v l) (hb : Boxed w b t (.slice p n c)) : NodesAt (w.setCell ⟨b, 0, none⟩ x) v l := by
  obtain ⟨q, d, rfl, h1, h2, h3, h4⟩ := h
  refine ⟨q, d, rfl, h1, h2, fun h0 => ?_, h4⟩
  obtain ⟨g, o, rfl, h5⟩ := h3 h0
  have hg : b ≠ g := fun e => by
    subst e
    exact box_no_int hb (h5 0 h0).1
  refine ⟨g, o, rfl, fun j hj => ?_⟩
  obtain ⟨e1, e2⟩ := h5 j hj
  exact ⟨by rw [World.cell?_setCell_other _ _ _ _ (fun e => hg (congrArg Addr.block e))]; exact e1, by rw [World.cell?_setCell_other _ _ _ _ (fun e => hg (congrArg Addr.block e))]; exact e2⟩
theorem box_new (w : World) (t : TypeId) (v : Value) : Boxed (w.alloc (.cells #[v] t)) w.heap.size t v := World.alloc_heap_new w _

theorem tenL_i64 (j : Nat) : I64 (tenL.getD j 0) := by
  have : ∀ j : Fin 10, tenL.getD j.val 0 = 4 ∨ tenL.getD j.val 0 = 16 := by decide
  rcases Nat.lt_or_ge j 10 with h | h
  · rcases this ⟨j, h⟩ with h | h
    · rw [h]; exact I64.of (by decide)
    · rw [h]; exact I64.of (by decide)
  · have : tenL.getD j 0 = 0 := by simp only [List.getD]; rw [List.getElem?_eq_none (show tenL.length ≤ j from h)]; rfl
    rw [this]; exact I64.of (by decide)
theorem renew_C (u v1 : Value) (w : World) (hn : NodesAt w u exB) (hi : IntsAt w v1 tenL) :
    Calls Try.prog 25 #[.agg #[u], .int .i64 3, v1] w fun e w' => ∃ p c, e = .returned (.tuple #[.agg #[.slice p 11 c], .int .i64 0]) ∧ NodesAt w' (.slice p 11 c) exC ∧ Below w.heap.size w w' := by
  have hR := renew_list exB u 3 tenL v1 w hn (by decide) (I64.of (by decide)) hi (by decide) tenL_i64
  rw [ren_C.1, ren_C.2] at hR
  refine hR.mono ?_
  rintro e w' ⟨x, rfl, hx, hB⟩
  obtain ⟨p, c, rfl⟩ := nodes_form hx
  exact ⟨p, c, rfl, hx, hB⟩

theorem same_self (t : List (Int × Int)) (u v : Value) (w : World) (hs : NodesAt w u t) (ht : NodesAt w v t) (hl : t.length ≤ 1000000) :
    Calls Try.prog 27 #[.agg #[u], .agg #[v]] w fun e w' => e = .returned (.bool true) ∧ Below w.heap.size w w' := by
  have h := same_ok t t u v w hs ht hl hl
  rw [decide_eq_true rfl] at h
  exact h
theorem sameints_self (t : List Int) (u v : Value) (w : World) (hs : IntsAt w u t) (ht : IntsAt w v t) (hl : t.length ≤ 1000000) :
    Calls Try.prog 16 #[u, v] w fun e w' => e = .returned (.bool true) ∧ Below w.heap.size w w' := by
  have h := sameints_ok t t u v w hs ht hl hl
  rw [decide_eq_true rfl] at h
  exact h
theorem wf_exB : Wf exB := by
  intro e he
  have : ∀ e ∈ exB, -9223372036854775808 ≤ e.1 ∧ e.1 ≤ 9223372036854775807 ∧ -9223372036854775808 ≤ e.2 ∧ e.2 ≤ 9223372036854775807 := by decide
  have := this e he
  exact ⟨I64.of (by omega), I64.of (by omega)⟩
theorem wf_exD : Wf [(1, 4)] := by
  intro e he
  rw [List.mem_singleton.1 he]
  exact ⟨I64.of (by decide), I64.of (by decide)⟩

set_option maxHeartbeats 4000000 in
theorem sane_ok (w : World) : Calls Try.prog 10 #[] w fun e w' => e = .returned (.bool true) ∧ Below w.heap.size w w' := by
  have H1 := Lib.hid (resolution_ok [] (.slice none 0 0) 1024 w (nodes_nil w) (by decide))
  rw [res_nil] at H1
  go_enter Try.func10, Try.ntmps10
  go_wp2_with fail
  refine H1.out.mono ?_
  rintro e w1 ⟨u1, rfl, -, hB1⟩
  have HB1 := Lib.hid hB1
  have H2 := Lib.hid (resolution_ok [] (.slice none 0 0) 1 w1 (nodes_nil w1) (by decide))
  rw [res_nil1.1, res_nil1.2] at H2
  clear hB1 H1
  go_wp2_with fail
  refine H2.out.mono ?_
  rintro e w2 ⟨u2, rfl, hr2, hB2⟩
  obtain ⟨p2, c2, rfl, -⟩ := ints_form hr2
  have HB2 := Lib.hid (below_trans HB1.out hB2)
  have H3 := Lib.hid (remove_list [] (.slice none 0 0) 0 w2 (nodes_nil w2) (by decide) (I64.of (by decide)))
  rw [rem_nil] at H3
  clear hB2 hr2 HB1 H2
  go_wp2_with fail
  refine H3.out.mono ?_
  rintro e w3 ⟨u3, rfl, hn3, hB3⟩
  obtain ⟨p3, c3, rfl⟩ := nodes_form hn3
  have HB3 := Lib.hid (below_trans (below_trans HB2.out hB3) (below_alloc w3 (.cells #[.slice p3 (remL [] 0).length c3] 24)))
  clear hB3 HB2 H3 hn3
  go_wp2_with fail
  obtain ⟨W3, hW3⟩ : ∃ W, W = w3.alloc (.cells #[.slice p3 (remL [] 0).length c3] 24) := ⟨_, rfl⟩
  rw [← hW3] at HB3 ⊢
  clear hW3
  have H4 := Lib.hid (set_list [] (.slice none 0 0) 3 4 W3 (nodes_nil W3) (by decide) (I64.of (by decide)) (I64.of (by decide)))
  rw [set_A.1, set_A.2] at H4
  refine H4.out.mono ?_
  rintro e w4 ⟨u4, rfl, hn4, hB4⟩
  obtain ⟨p4, c4, rfl⟩ := nodes_form hn4
  have HB4 := Lib.hid (below_trans (below_trans HB3.out hB4) (below_alloc w4 (.cells #[.slice p4 exA.length c4] 24)))
  have HA := Lib.hid (hn4.below (below_alloc w4 (.cells #[.slice p4 exA.length c4] 24)))
  have cA : (w4.alloc (.cells #[.slice p4 exA.length c4] 24)).cell? ⟨w4.heap.size, 0, none⟩ = some (.slice p4 exA.length c4) := by unfold World.cell?; rw [World.alloc_heap_new]; rfl
  clear hB4 HB3 H4 hn4
  go_wp2_with fail
  obtain ⟨W4, hW4⟩ : ∃ W, W = w4.alloc (.cells #[.slice p4 exA.length c4] 24) := ⟨_, rfl⟩
  rw [← hW4] at HB4 HA cA ⊢
  clear hW4
  have H5 := Lib.hid (set_list exA (.slice p4 exA.length c4) 1 16 W4 HA.out (by decide) (I64.of (by decide)) (I64.of (by decide)))
  rw [set_B.1, set_B.2] at H5
  refine H5.out.mono ?_
  rintro e w5 ⟨u5, rfl, hn5, hB5⟩
  obtain ⟨p5, c5, rfl⟩ := nodes_form hn5
  obtain ⟨b9, hb9⟩ : ∃ b, b = w5.heap.size := ⟨_, rfl⟩
  have HB5 := Lib.hid (below_trans (below_trans HB4.out hB5) (below_alloc w5 (.cells #[.slice p5 exB.length c5] 24)))
  have HBB := Lib.hid (hn5.below (below_alloc w5 (.cells #[.slice p5 exB.length c5] 24)))
  have cB : (w5.alloc (.cells #[.slice p5 exB.length c5] 24)).cell? ⟨b9, 0, none⟩ = some (.slice p5 exB.length c5) := by rw [hb9]; unfold World.cell?; rw [World.alloc_heap_new]; rfl
  clear hB5 HB4 H5 hn5 cA HA
  go_wp2_with fail
  obtain ⟨W5, hW5⟩ : ∃ W, W = w5.alloc (.cells #[.slice p5 exB.length c5] 24) := ⟨_, rfl⟩
  rw [← hb9]
  rw [← hW5] at HB5 HBB cB ⊢
  clear hW5 hb9
  have H6 := Lib.hid (resolution_ok exB (.slice p5 exB.length c5) 1 W5 HBB.out (by decide))
  rw [res_B.1, res_B.2] at H6
  refine H6.out.mono ?_
  rintro e w6 ⟨u6, rfl, hr6, hB6⟩
  have HI6 := Lib.hid (ints_of_row hr6)
  obtain ⟨p6, c6, rfl, -⟩ := ints_form hr6
  have HB6 := Lib.hid (below_trans HB5.out hB6)
  have HBB6 := Lib.hid (HBB.out.below hB6)
  have cB6 := cellOld cB (hB6.block _ (cellLt cB))
  clear hr6 hB6 HB5 HBB cB H6
  go_upto_region 7 with fail
  go_cut [13, 14] (fun v13 v14 wx => ∃ b p c, v13 = .pointer (some ⟨b, 0, none⟩) ∧ v14 = .int .i64 0 ∧ wx.cell? ⟨b, 0, none⟩ = some (.slice p 11 c) ∧ NodesAt wx (.slice p 11 c) exC ∧ Below w6.heap.size w6 wx)
  case first =>
    refine wp_region_noPanic ?_
    refine region_tree (fun W' => W'.cell? ⟨b9, 0, none⟩ = some (.slice p5 exB.length c5)) (.take 0 (.two 1 6 (.two 2 6 (.take 3 (.take 4 (.take 5 (.one 6 (.one 7 (.one 8 .done)))))) (.one 2 (.take 3 (.take 4 (.take 5 (.one 7 (.one 8 .done))))))) (.one 1 (.one 2 (.take 3 (.take 4 (.take 5 (.one 7 (.one 8 .done))))))))) (by kernel_rfl) (by kernel_rfl) (by kernel_rfl) (by decide) (fun _ _ _ _ h => h) cB6 ?_
    obtain ⟨Wd, hWd⟩ : ∃ W, W = w6.drew := ⟨_, rfl⟩
    have HNd : Hid (NodesAt Wd (.slice p5 exB.length c5) exB) := Lib.hid (by rw [hWd]; exact HBB6.out.below ⟨rfl, rfl, rfl, Nat.le_refl _, fun _ _ => rfl⟩)
    have cBd : Wd.cell? ⟨b9, 0, none⟩ = some (.slice p5 exB.length c5) := by rw [hWd]; exact cB6
    have HBd : Hid (Below w6.heap.size w6 Wd) := Lib.hid (by rw [hWd]; exact ⟨rfl, rfl, rfl, Nat.le_refl _, fun _ _ => rfl⟩)
    rw [← hWd]
    clear hWd
    (refine tree_take (v := ?_) rfl (by rfl) (fun W' hS => ?_) ?_; rotate_left; (go_simp; with_reducible rfl); (try simp only [Act.put, List.getElem_toArray, List.getElem_cons_succ, List.getElem_cons_zero, List.setIfInBounds_toArray, List.set_cons_zero, List.set_cons_succ]))
    refine tree_two ?_ ?_
    · refine tree_one rfl (fun K' hK => ?_)
      go_simp
      refine (ten_ok Wd).mono ?_
      rintro e w10 ⟨v1, rfl, hi, hBn⟩
      have HI10 := Lib.hid hi
      have HN10 := Lib.hid (HNd.out.below hBn)
      have cB10 := cellOld cBd (hBn.block _ (cellLt cBd))
      have HB10 := Lib.hid (HBd.out.trans (hBn.mono HBd.out.size))
      refine hK.out _ _ cB10 fun _ => ?_
      clear hK hi hBn
      (try simp only [Act.put, List.getElem_toArray, List.getElem_cons_succ, List.getElem_cons_zero, List.setIfInBounds_toArray, List.set_cons_zero, List.set_cons_succ])
      refine tree_two ?_ ?_
      · refine tree_one rfl (fun K' hK => ?_)
        go_simp
        refine (renew_C _ _ w10 HN10.out HI10.out).mono ?_
        rintro e w11 ⟨p7, c7, rfl, hx, hBn⟩
        have HX11 := Lib.hid hx
        have cB11 := cellOld cB10 (hBn.block _ (cellLt cB10))
        have HB11 := Lib.hid (HB10.out.trans (hBn.mono HB10.out.size))
        refine hK.out _ _ cB11 fun _ => ?_
        clear hK hx hBn
        (try simp only [Act.put, List.getElem_toArray, List.getElem_cons_succ, List.getElem_cons_zero, List.setIfInBounds_toArray, List.set_cons_zero, List.set_cons_succ])
        (refine tree_take (v := ?_) rfl (by rfl) (fun W' hS => ?_) ?_; rotate_left; (go_simp; with_reducible rfl); (try simp only [Act.put, List.getElem_toArray, List.getElem_cons_succ, List.getElem_cons_zero, List.setIfInBounds_toArray, List.set_cons_zero, List.set_cons_succ]))
        (refine tree_take (v := ?_) rfl (by rfl) (fun W' hS => ?_) ?_; rotate_left; (go_simp; with_reducible rfl); (try simp only [Act.put, List.getElem_toArray, List.getElem_cons_succ, List.getElem_cons_zero, List.setIfInBounds_toArray, List.set_cons_zero, List.set_cons_succ]))
        (refine tree_take (v := ?_) rfl (by rfl) (fun W' hS => ?_) ?_; rotate_left; (go_simp; with_reducible rfl); (try simp only [Act.put, List.getElem_toArray, List.getElem_cons_succ, List.getElem_cons_zero, List.setIfInBounds_toArray, List.set_cons_zero, List.set_cons_succ]))
        refine tree_one rfl (fun K' hK => ?_)
        go_simp
        obtain ⟨bC, hbC⟩ : ∃ b, b = w11.heap.size := ⟨_, rfl⟩
        have hx12 : Boxed (w11.alloc (.cells #[.slice none 0 0] 24)) bC 24 (.slice none 0 0) := by rw [hbC]; exact box_new _ _ _
        have hle12 : w6.heap.size ≤ bC := by rw [hbC]; exact HB11.out.size
        have hAl := below_alloc w11 (.cells #[.slice none 0 0] 24)
        have HX12 := Lib.hid (HX11.out.below hAl)
        have cB12 := cellOld cB11 (hAl.block _ (cellLt cB11))
        have HB12 := Lib.hid (HB11.out.trans (hAl.mono HB11.out.size))
        obtain ⟨w12, hw12⟩ : ∃ W, W = w11.alloc (.cells #[.slice none 0 0] 24) := ⟨_, rfl⟩
        rw [← hbC, ← hw12]
        rw [← hw12] at hx12 cB12 HB12 HX12
        refine hK.out _ _ cB12 fun _ => ?_
        clear hK hAl hbC hw12
        (try simp only [Act.put, List.getElem_toArray, List.getElem_cons_succ, List.getElem_cons_zero, List.setIfInBounds_toArray, List.set_cons_zero, List.set_cons_succ])
        refine tree_one rfl (fun K' hK => ?_)
        have cx := hx12.cell
        have cxf := hx12.frozen
        go_simp
        have cC := (Boxed.set (.slice p7 11 c7) hx12).cell
        have hn := nodes_set (x := .slice p7 11 c7) HX12.out hx12
        have hB9 := HB12.out.setCell (p := ⟨bC, 0, none⟩) hle12 (.slice p7 11 c7)
        have cB9 : (w12.setCell ⟨bC, 0, none⟩ (.slice p7 11 c7)).cell? ⟨b9, 0, none⟩ = some (.slice p5 exB.length c5) := by
          rw [World.cell?_setCell_other _ _ _ _ (fun e => by have h1 : bC = b9 := congrArg Addr.block e; have h2 : b9 < w6.heap.size := cellLt cB6; omega)]
          exact cB12
        refine hK.out _ _ cB9 fun _ => ?_
        clear hK
        (try simp only [Act.put, List.getElem_toArray, List.getElem_cons_succ, List.getElem_cons_zero, List.setIfInBounds_toArray, List.set_cons_zero, List.set_cons_succ])
        refine tree_one rfl (fun K' hK => ?_)
        go_simp
        refine hK.out _ _ cB9 fun _ => ?_
        clear hK
        (try simp only [Act.put, List.getElem_toArray, List.getElem_cons_succ, List.getElem_cons_zero, List.setIfInBounds_toArray, List.set_cons_zero, List.set_cons_succ])
        refine NoPanic.normal ?_
        go_wp2_with fail
        go_meet
        exact ⟨bC, p7, c7, rfl, rfl, cC, hn, hB9⟩
      · refine tree_one rfl (fun K' hK => ?_)
        go_simp
        obtain ⟨bC, hbC⟩ : ∃ b, b = w10.heap.size := ⟨_, rfl⟩
        have hx11 : Boxed (w10.alloc (.cells #[.slice none 0 0] 24)) bC 24 (.slice none 0 0) := by rw [hbC]; exact box_new _ _ _
        have hle11 : w6.heap.size ≤ bC := by rw [hbC]; exact HB10.out.size
        have hAl := below_alloc w10 (.cells #[.slice none 0 0] 24)
        have HI11 := Lib.hid (ints_below HI10.out hAl)
        have HN11 := Lib.hid (HN10.out.below hAl)
        have cB11 := cellOld cB10 (hAl.block _ (cellLt cB10))
        have HB11 := Lib.hid (HB10.out.trans (hAl.mono HB10.out.size))
        obtain ⟨w11, hw11⟩ : ∃ W, W = w10.alloc (.cells #[.slice none 0 0] 24) := ⟨_, rfl⟩
        rw [← hbC, ← hw11]
        rw [← hw11] at hx11 cB11 HB11 HN11 HI11
        refine hK.out _ _ cB11 fun _ => ?_
        clear hK hAl hbC hw11
        (try simp only [Act.put, List.getElem_toArray, List.getElem_cons_succ, List.getElem_cons_zero, List.setIfInBounds_toArray, List.set_cons_zero, List.set_cons_succ])
        refine tree_one rfl (fun K' hK => ?_)
        go_simp
        refine (renew_C _ _ w11 HN11.out HI11.out).mono ?_
        rintro e w12 ⟨p7, c7, rfl, hx, hBn⟩
        have HX12 := Lib.hid hx
        have cB12 := cellOld cB11 (hBn.block _ (cellLt cB11))
        have HB12 := Lib.hid (HB11.out.trans (hBn.mono HB11.out.size))
        have hx12 : Boxed w12 bC 24 (.slice none 0 0) := (hBn.block _ hx11.lt).trans hx11
        refine hK.out _ _ cB12 fun _ => ?_
        clear hK hx hBn
        (try simp only [Act.put, List.getElem_toArray, List.getElem_cons_succ, List.getElem_cons_zero, List.setIfInBounds_toArray, List.set_cons_zero, List.set_cons_succ])
        (refine tree_take (v := ?_) rfl (by rfl) (fun W' hS => ?_) ?_; rotate_left; (go_simp; with_reducible rfl); (try simp only [Act.put, List.getElem_toArray, List.getElem_cons_succ, List.getElem_cons_zero, List.setIfInBounds_toArray, List.set_cons_zero, List.set_cons_succ]))
        (refine tree_take (v := ?_) rfl (by rfl) (fun W' hS => ?_) ?_; rotate_left; (go_simp; with_reducible rfl); (try simp only [Act.put, List.getElem_toArray, List.getElem_cons_succ, List.getElem_cons_zero, List.setIfInBounds_toArray, List.set_cons_zero, List.set_cons_succ]))
        (refine tree_take (v := ?_) rfl (by rfl) (fun W' hS => ?_) ?_; rotate_left; (go_simp; with_reducible rfl); (try simp only [Act.put, List.getElem_toArray, List.getElem_cons_succ, List.getElem_cons_zero, List.setIfInBounds_toArray, List.set_cons_zero, List.set_cons_succ]))
        refine tree_one rfl (fun K' hK => ?_)
        have cx := hx12.cell
        have cxf := hx12.frozen
        go_simp
        have cC := (Boxed.set (.slice p7 11 c7) hx12).cell
        have hn := nodes_set (x := .slice p7 11 c7) HX12.out hx12
        have hB9 := HB12.out.setCell (p := ⟨bC, 0, none⟩) hle11 (.slice p7 11 c7)
        have cB9 : (w12.setCell ⟨bC, 0, none⟩ (.slice p7 11 c7)).cell? ⟨b9, 0, none⟩ = some (.slice p5 exB.length c5) := by
          rw [World.cell?_setCell_other _ _ _ _ (fun e => by have h1 : bC = b9 := congrArg Addr.block e; have h2 : b9 < w6.heap.size := cellLt cB6; omega)]
          exact cB12
        refine hK.out _ _ cB9 fun _ => ?_
        clear hK
        (try simp only [Act.put, List.getElem_toArray, List.getElem_cons_succ, List.getElem_cons_zero, List.setIfInBounds_toArray, List.set_cons_zero, List.set_cons_succ])
        refine tree_one rfl (fun K' hK => ?_)
        go_simp
        refine hK.out _ _ cB9 fun _ => ?_
        clear hK
        (try simp only [Act.put, List.getElem_toArray, List.getElem_cons_succ, List.getElem_cons_zero, List.setIfInBounds_toArray, List.set_cons_zero, List.set_cons_succ])
        refine NoPanic.normal ?_
        go_wp2_with fail
        go_meet
        exact ⟨bC, p7, c7, rfl, rfl, cC, hn, hB9⟩
    · refine tree_one rfl (fun K' hK => ?_)
      go_simp
      obtain ⟨bC, hbC⟩ : ∃ b, b = Wd.heap.size := ⟨_, rfl⟩
      have hx10 : Boxed (Wd.alloc (.cells #[.slice none 0 0] 24)) bC 24 (.slice none 0 0) := by rw [hbC]; exact box_new _ _ _
      have hle10 : w6.heap.size ≤ bC := by rw [hbC]; exact HBd.out.size
      have hAl := below_alloc Wd (.cells #[.slice none 0 0] 24)
      have HN10 := Lib.hid (HNd.out.below hAl)
      have cB10 := cellOld cBd (hAl.block _ (cellLt cBd))
      have HB10 := Lib.hid (HBd.out.trans (hAl.mono HBd.out.size))
      obtain ⟨w10, hw10⟩ : ∃ W, W = Wd.alloc (.cells #[.slice none 0 0] 24) := ⟨_, rfl⟩
      rw [← hbC, ← hw10]
      rw [← hw10] at hx10 cB10 HB10 HN10
      refine hK.out _ _ cB10 fun _ => ?_
      clear hK hAl hbC hw10
      (try simp only [Act.put, List.getElem_toArray, List.getElem_cons_succ, List.getElem_cons_zero, List.setIfInBounds_toArray, List.set_cons_zero, List.set_cons_succ])
      refine tree_one rfl (fun K' hK => ?_)
      go_simp
      refine (ten_ok w10).mono ?_
      rintro e w11 ⟨v1, rfl, hi, hBn⟩
      have HI11 := Lib.hid hi
      have HN11 := Lib.hid (HN10.out.below hBn)
      have cB11 := cellOld cB10 (hBn.block _ (cellLt cB10))
      have HB11 := Lib.hid (HB10.out.trans (hBn.mono HB10.out.size))
      have hx11 : Boxed w11 bC 24 (.slice none 0 0) := (hBn.block _ hx10.lt).trans hx10
      refine hK.out _ _ cB11 fun _ => ?_
      clear hK hi hBn
      (try simp only [Act.put, List.getElem_toArray, List.getElem_cons_succ, List.getElem_cons_zero, List.setIfInBounds_toArray, List.set_cons_zero, List.set_cons_succ])
      refine tree_one rfl (fun K' hK => ?_)
      go_simp
      refine (renew_C _ _ w11 HN11.out HI11.out).mono ?_
      rintro e w12 ⟨p7, c7, rfl, hx, hBn⟩
      have HX12 := Lib.hid hx
      have cB12 := cellOld cB11 (hBn.block _ (cellLt cB11))
      have HB12 := Lib.hid (HB11.out.trans (hBn.mono HB11.out.size))
      have hx12 : Boxed w12 bC 24 (.slice none 0 0) := (hBn.block _ hx11.lt).trans hx11
      refine hK.out _ _ cB12 fun _ => ?_
      clear hK hx hBn
      (try simp only [Act.put, List.getElem_toArray, List.getElem_cons_succ, List.getElem_cons_zero, List.setIfInBounds_toArray, List.set_cons_zero, List.set_cons_succ])
      (refine tree_take (v := ?_) rfl (by rfl) (fun W' hS => ?_) ?_; rotate_left; (go_simp; with_reducible rfl); (try simp only [Act.put, List.getElem_toArray, List.getElem_cons_succ, List.getElem_cons_zero, List.setIfInBounds_toArray, List.set_cons_zero, List.set_cons_succ]))
      (refine tree_take (v := ?_) rfl (by rfl) (fun W' hS => ?_) ?_; rotate_left; (go_simp; with_reducible rfl); (try simp only [Act.put, List.getElem_toArray, List.getElem_cons_succ, List.getElem_cons_zero, List.setIfInBounds_toArray, List.set_cons_zero, List.set_cons_succ]))
      (refine tree_take (v := ?_) rfl (by rfl) (fun W' hS => ?_) ?_; rotate_left; (go_simp; with_reducible rfl); (try simp only [Act.put, List.getElem_toArray, List.getElem_cons_succ, List.getElem_cons_zero, List.setIfInBounds_toArray, List.set_cons_zero, List.set_cons_succ]))
      refine tree_one rfl (fun K' hK => ?_)
      have cx := hx12.cell
      have cxf := hx12.frozen
      go_simp
      have cC := (Boxed.set (.slice p7 11 c7) hx12).cell
      have hn := nodes_set (x := .slice p7 11 c7) HX12.out hx12
      have hB9 := HB12.out.setCell (p := ⟨bC, 0, none⟩) hle10 (.slice p7 11 c7)
      have cB9 : (w12.setCell ⟨bC, 0, none⟩ (.slice p7 11 c7)).cell? ⟨b9, 0, none⟩ = some (.slice p5 exB.length c5) := by
        rw [World.cell?_setCell_other _ _ _ _ (fun e => by have h1 : bC = b9 := congrArg Addr.block e; have h2 : b9 < w6.heap.size := cellLt cB6; omega)]
        exact cB12
      refine hK.out _ _ cB9 fun _ => ?_
      clear hK
      (try simp only [Act.put, List.getElem_toArray, List.getElem_cons_succ, List.getElem_cons_zero, List.setIfInBounds_toArray, List.set_cons_zero, List.set_cons_succ])
      refine tree_one rfl (fun K' hK => ?_)
      go_simp
      refine hK.out _ _ cB9 fun _ => ?_
      clear hK
      (try simp only [Act.put, List.getElem_toArray, List.getElem_cons_succ, List.getElem_cons_zero, List.setIfInBounds_toArray, List.set_cons_zero, List.set_cons_succ])
      refine NoPanic.normal ?_
      go_wp2_with fail
      go_meet
      exact ⟨bC, p7, c7, rfl, rfl, cC, hn, hB9⟩
  obtain ⟨bC, p7, c7, rfl, rfl, cC, hn7, hB7⟩ := hcut
  have HBc := Lib.hid (below_trans HB6.out hB7)
  have HC := Lib.hid hn7
  have HIc := Lib.hid (ints_below HI6.out hB7)
  have HBBc := Lib.hid (HBB6.out.below hB7)
  have cBc := cellOld cB6 (hB7.block _ (cellLt cB6))
  have H8 := Lib.hid (resolution_ok exC (.slice p7 11 c7) 1 wc hn7 (by decide))
  rw [res_C.1, res_C.2] at H8
  clear HB6 HI6 HBB6 cB6 hB7 hn7
  go_wp2_with fail
  refine H8.out.mono ?_
  rintro e w8 ⟨u8, rfl, hr8, hB8⟩
  have HI8 := Lib.hid (ints_of_row hr8)
  obtain ⟨p8, c8, rfl, -⟩ := ints_form hr8
  have HB8 := Lib.hid (below_trans HBc.out hB8)
  have HC8 := Lib.hid (HC.out.below hB8)
  have HIl8 := Lib.hid (ints_below HIc.out hB8)
  have HBB8 := Lib.hid (HBBc.out.below hB8)
  have cB8 := cellOld cBc (hB8.block _ (cellLt cBc))
  have cC8 := cellOld cC (hB8.block _ (cellLt cC))
  have H9 := Lib.hid (public_ok exC (.slice p7 11 c7) 515 w8 HC8.out (by decide) (I64.of (by decide)))
  rw [pub_C] at H9
  clear HBc HC HIc HBBc cBc cC hr8 hB8 H8
  go_wp2_with fail
  refine H9.out.mono ?_
  rintro e w9 ⟨rfl, hB9⟩
  have HI9 := Lib.hid (ints_below HI8.out hB9)
  have HB9 := Lib.hid (below_trans HB8.out hB9)
  have HC9 := Lib.hid (HC8.out.below hB9)
  have HIl9 := Lib.hid (ints_below HIl8.out hB9)
  have HBB9 := Lib.hid (HBB8.out.below hB9)
  have cB9 := cellOld cB8 (hB9.block _ (cellLt cB8))
  have cC9 := cellOld cC8 (hB9.block _ (cellLt cC8))
  clear HI8 HB8 HC8 HIl8 HBB8 cB8 cC8 hB9 H9
  simp only [Option.getD_some, Option.isSome_some]
  go_upto_region 12 with fail
  go_wp2_with fail
  have hA := below_alloc w9 (.cells #[.int .i64 513, .int .i64 16, .int .i64 515, .int .i64 4] 48)
  have H10 := Lib.hid (same_self exB (.slice p5 exB.length c5) (.slice (some ⟨w9.heap.size, 0, none⟩) 2 2) (w9.alloc (.cells #[.int .i64 513, .int .i64 16, .int .i64 515, .int .i64 4] 48)) (HBB9.out.below hA) (nodes_lit w9 exB (by decide) wf_exB) (by decide))
  refine H10.out.mono ?_
  rintro e w10 ⟨rfl, hB10⟩
  have hAB := below_trans hA hB10
  have HI10 := Lib.hid (ints_below HI9.out hAB)
  have HB10 := Lib.hid (below_trans HB9.out hAB)
  have HC10 := Lib.hid (HC9.out.below hAB)
  have HIl10 := Lib.hid (ints_below HIl9.out hAB)
  have cC10 := cellOld cC9 (hAB.block _ (cellLt cC9))
  clear hA hB10 hAB HI9 HB9 HC9 HIl9 HBB9 cB9 cC9 H10
  go_wp2_with fail
  have hA := below_alloc w10 (.cells #[.int .i64 513, .int .i64 515] 3)
  have H11 := Lib.hid (sameints_self [513, 515] (.slice p6 2 c6) (.slice (some ⟨w10.heap.size, 0, none⟩) 2 2) (w10.alloc (.cells #[.int .i64 513, .int .i64 515] 3)) (ints_below HIl10.out hA) (ints_lit w10 [513, 515] (by decide)) (by decide))
  refine H11.out.mono ?_
  rintro e w11 ⟨rfl, hB11⟩
  have hAB := below_trans hA hB11
  have HI11 := Lib.hid (ints_below HI10.out hAB)
  have HB11 := Lib.hid (below_trans HB10.out hAB)
  have HC11 := Lib.hid (HC10.out.below hAB)
  have cC11 := cellOld cC10 (hAB.block _ (cellLt cC10))
  clear hA hB11 hAB HI10 HB10 HC10 HIl10 cC10 H11
  go_wp2_with fail
  have hA := below_alloc w11 (.cells #[.int .i64 1] 3)
  have H12 := Lib.hid (sameints_self [1] (.slice p8 1 c8) (.slice (some ⟨w11.heap.size, 0, none⟩) 1 1) (w11.alloc (.cells #[.int .i64 1] 3)) (ints_below HI11.out hA) (ints_lit w11 [1] (by decide)) (by decide))
  refine H12.out.mono ?_
  rintro e w12 ⟨rfl, hB12⟩
  have hAB := below_trans hA hB12
  have HB12 := Lib.hid (below_trans HB11.out hAB)
  have HC12 := Lib.hid (HC11.out.below hAB)
  have cC12 := cellOld cC11 (hAB.block _ (cellLt cC11))
  clear hA hB12 hAB HI11 HB11 HC11 cC11 H12
  go_wp2_with fail
  have hA := below_alloc w12 (.cells #[.int .i64 1, .int .i64 4] 48)
  have H13 := Lib.hid (check_ok [(1, 4)] (.slice (some ⟨w12.heap.size, 0, none⟩) 1 1) (w12.alloc (.cells #[.int .i64 1, .int .i64 4] 48)) (nodes_lit w12 [(1, 4)] (by decide) wf_exD) (by decide))
  rw [chk_D] at H13
  refine H13.out.mono ?_
  rintro e w13 ⟨rfl, hB13⟩
  have hAB := below_trans hA hB13
  have HB13 := Lib.hid (below_trans HB12.out hAB)
  have HC13 := Lib.hid (HC12.out.below hAB)
  have cC13 := cellOld cC12 (hAB.block _ (cellLt cC12))
  clear hA hB13 hAB HB12 HC12 cC12 H13
  go_wp2_with fail
  have H14 := Lib.hid (check_ok [] (.slice none 0 0) w13 (nodes_nil w13) (by decide))
  rw [chk_nil] at H14
  refine H14.out.mono ?_
  rintro e w14 ⟨rfl, hAB⟩
  have HB14 := Lib.hid (below_trans HB13.out hAB)
  have HC14 := Lib.hid (HC13.out.below hAB)
  have cC14 := cellOld cC13 (hAB.block _ (cellLt cC13))
  clear hAB HB13 HC13 cC13 H14
  go_wp2_with fail
  have H15 := Lib.hid (members_ok exC (.slice p7 11 c7) w14 HC14.out (by decide))
  rw [mem_C] at H15
  refine H15.out.mono ?_
  rintro e w15 ⟨u15, rfl, hr15, hAB⟩
  have HI15 := Lib.hid (ints_of_row hr15)
  obtain ⟨p15, c15, rfl, -⟩ := ints_form hr15
  have HB15 := Lib.hid (below_trans HB14.out hAB)
  clear hAB HB14 HC14 cC14 H15 hr15
  go_wp2_with fail
  have hA := below_alloc w15 (.cells #[.int .i64 1, .int .i64 3] 3)
  have H16 := Lib.hid (sameints_self [1, 3] (.slice p15 2 c15) (.slice (some ⟨w15.heap.size, 0, none⟩) 2 2) (w15.alloc (.cells #[.int .i64 1, .int .i64 3] 3)) (ints_below HI15.out hA) (ints_lit w15 [1, 3] (by decide)) (by decide))
  refine H16.out.mono ?_
  rintro e w16 ⟨rfl, hB16⟩
  have hAB := below_trans hA hB16
  have HB16 := Lib.hid (below_trans HB15.out hAB)
  clear hA hB16 hAB HI15 HB15 H16
  go_wp2_with fail
  go_ret
  exact ⟨rfl, HB16.out⟩
end Go.Proofs.Ytekdekchbnacgaa
