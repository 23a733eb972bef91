/- Folders: slices.Clone, slices.IndexFunc and slices.DeleteFunc at places: the places that are not valid go. -/
import Derived.Test.YtcflnjmglanneaaTw
namespace Go.Proofs.Ytcflnjmglanneaa
open Go.RowKit Go.Maps Go.Sort
set_option maxRecDepth 100000
set_option linter.unusedVariables false
set_option linter.unusedSimpArgs false

/-- A row of places that is the caller's own: from n0 on. -/
structure OwnR (n0 : Nat) (w W : World) (g n c : Nat) (d : List Pl) : Prop where
  own : W.ownsRow n0 24 5 (.slice (some ⟨g, 0, none⟩) n c) n (cellsP d)
  len : n = d.length
  bel : Below n0 w W
  sz : n0 ≤ w.heap.size
theorem OwnR.later {n0 : Nat} {w W W' : World} {g n c : Nat} {d : List Pl} (h : OwnR n0 w W g n c d) (hB : Below W.heap.size W W') : OwnR n0 w W' g n c d :=
  ⟨below_own h.own hB, h.len, h.bel.trans (hB.mono (Nat.le_trans h.sz (by have := h.bel.size; omega))), h.sz⟩
theorem OwnR.lt {n0 : Nat} {w W : World} {g n c : Nat} {d : List Pl} (h : OwnR n0 w W g n c d) : n0 ≤ g ∧ g < W.heap.size := h.own.lt g rfl
theorem OwnR.cap {n0 : Nat} {w W : World} {g n c : Nat} {d : List Pl} (h : OwnR n0 w W g n c d) : n ≤ c := by
  rcases h.own.2 with ⟨e, _⟩ | ⟨g', cap, cur, e, h1, h2, h3, _⟩
  · cases e
  · injection e with e1 e2 e3
    subst e3
    exact h3
theorem OwnR.at {n0 : Nat} {w W : World} {g n c : Nat} {d : List Pl} (h : OwnR n0 w W g n c d) : PlAt W (.slice (some ⟨g, 0, none⟩) n c) d := PlAt.of_own (by rw [← h.len]; exact h.own)
theorem below_setRow' {n0 : Nat} {w W : World} {g : Nat} (h : Below n0 w W) (hg : n0 ≤ g) (cs : Array Value) : Below n0 w (W.setRow g cs) :=
  h.trans ⟨rfl, rfl, rfl, by simp [World.setRow], fun k hk => setRow_other _ _ _ _ (by omega)⟩
theorem cellsP_set {d : List Pl} {i : Nat} {e : Pl} (hi : i < d.length) : cellsP (d.set i e) = (cellsP d).take (i * 5) ++ e.cells ++ (cellsP d).drop (i * 5 + 5) := by
  rw [List.set_eq_take_append_cons_drop, if_pos hi, cellsP_append, show (e :: d.drop (i + 1)) = [e] ++ d.drop (i + 1) from rfl, cellsP_append, cellsP_one, cellsP_take, cellsP_drop, show (i + 1) * 5 = i * 5 + 5 by omega, List.append_assoc]
/-- A place stored at place i of a row. -/
theorem OwnR.store {P : Program} {n0 : Nat} {w W : World} {g n c i : Nat} {d : List Pl} (h : OwnR n0 w W g n c d) (hi : i < n) (e : Pl) (ty : TypeId) (hinf : (P.info? ty).map (·.size) = some 5) :
    ∃ W', (storeVar ty ⟨g, 0 + i * 5, none⟩ (.agg e.cells.toArray)).run P W = .ok () W' ∧ OwnR n0 w W' g n c (d.set i e) ∧ (∀ k, k ≠ g → W'.heap[k]? = W.heap[k]?) ∧ W.heap.size ≤ W'.heap.size := by
  obtain ⟨hl, hrow⟩ := h.own
  rcases hrow with ⟨e', _⟩ | ⟨g', cap, cur, e', h1, h2, h3, h4, h5, h6⟩
  · cases e'
  injection e' with e1 e2 e3
  injection e1 with e1
  injection e1 with e1
  subst e1; subst e3
  have hsz : i * 5 + 5 ≤ n * 5 := by omega
  have hcur : n * 5 ≤ cur.size := by rw [h5]; omega
  have hlen : e.cells.length = 5 := rfl
  have hst : (storeCells ⟨g, i * 5, none⟩ e.cells 0).run P W = .ok () (W.setRow g (cur.toList.take (i * 5) ++ e.cells ++ cur.toList.drop (i * 5 + 5)).toArray) :=
    run_storeCells_at (P := P) g (i * 5) 24 e.cells 0 cur W h2 (by rw [hlen]; omega) (cells_one e)
  have hcl : cur.toList.length = c * 5 := by rw [Array.length_toList]; exact h5
  have hn5 : n * 5 ≤ c * 5 := by omega
  refine ⟨W.setRow g (cur.toList.take (i * 5) ++ e.cells ++ cur.toList.drop (i * 5 + 5)).toArray, ?_, ⟨⟨by rw [cellsP_length, List.length_set, ← h.len], .inr ⟨g, c, (cur.toList.take (i * 5) ++ e.cells ++ cur.toList.drop (i * 5 + 5)).toArray, rfl, h1, setRow_heap _ _ _ _ _ _ h2, h3, h4, ?_, ?_⟩⟩, by rw [List.length_set]; exact h.len, below_setRow' h.bel h1 _, h.sz⟩, fun k hk => setRow_other _ _ _ _ hk, by simp [World.setRow]⟩
  · cases hq : P.info? ty with
    | none => simp [hq] at hinf
    | some ii =>
      have hs : ii.size = 5 := by simpa [hq] using hinf
      rw [Nat.zero_add]
      have hc : (Value.agg e.cells.toArray).cells = e.cells.toArray := rfl
      simp [storeVar, sizeOf, typeInfo, hq, hc, hs, hlen, hst]
  · simp only [List.size_toArray, List.length_append, List.length_take, List.length_drop, hcl, hlen]
    omega
  · rw [cellsP_set (by rw [← h.len]; exact hi), ← h6]
    show List.take (n * 5) (cur.toList.take (i * 5) ++ e.cells ++ cur.toList.drop (i * 5 + 5)) = _
    rw [List.take_take, Nat.min_eq_left (by omega), List.take_append, List.take_of_length_le (l := cur.toList.take (i * 5) ++ e.cells) (by simp only [List.length_append, List.length_take, hcl, hlen]; omega), List.drop_take]
    simp only [List.length_append, List.length_take, hcl, hlen]
    rw [Nat.min_eq_left (by omega)]
theorem wp_store_own {P : Program} {op : Oper} {a : Act} {W : World} {K : Act → World → Prop} {Q : Exit → Act → World → Prop} (ty : TypeId) (x y : Operand) (ho : op.op = .store ty x y)
    {n0 : Nat} {w : World} {g n c i : Nat} {d : List Pl} (h : OwnR n0 w W g n c d) (hi : i < n) (e : Pl) (hinf : (P.info? ty).map (·.size) = some 5)
    (hx : a.eval x = .pointer (some ⟨g, 0 + i * 5, none⟩)) (hy : a.eval y = .agg e.cells.toArray)
    (hK : ∀ W', OwnR n0 w W' g n c (d.set i e) → (∀ k, k ≠ g → W'.heap[k]? = W.heap[k]?) → W.heap.size ≤ W'.heap.size → K (a.put op.dst undef) W') : op.wp P a W K Q := by
  obtain ⟨W', hr, h1, h2, h3⟩ := h.store hi e ty hinf
  unfold Oper.wp execOp
  simp only [ho, hx, hy, Instr.storeAt, Instr.sureAddr, Sem.run_bind, Sem.run_pure, Result.andThen_ok, hr]
  exact hK W' h1 h2 h3
/-- What 'clear' leaves of a row: the places ahead of it. -/
theorem OwnR.clear {P : Program} {n0 : Nat} {w W : World} {g n c i : Nat} {d : List Pl} (h : OwnR n0 w W g n c d) (hi : i < n) (t e : TypeId) (ht : P.underlying t = some (.slice e)) (z : Pl) (hz : ∀ w, (zeroValue e).run P w = .ok (.agg z.cells.toArray) w) :
    ∃ W', (∀ ty, (Builtin.clear_ #[t] ty #[.slice (some ⟨g, 0 + i * 5, none⟩) (n - i) (c - i)]).run P W = .ok (.tuple #[]) W') ∧ OwnR n0 w W' g i c (d.take i) := by
  obtain ⟨hl, hrow⟩ := h.own
  rcases hrow with ⟨e', _⟩ | ⟨g', cap, cur, e', h1, h2, h3, h4, h5, h6⟩
  · cases e'
  injection e' with e1 e2 e3
  injection e1 with e1
  injection e1 with e1
  subst e1; subst e3
  have hcl : cur.toList.length = c * 5 := by rw [Array.length_toList]; exact h5
  have hzl : (Builtin.zeroCells z.cells.toArray (n - i)).toList.length = (n - i) * 5 := by rw [Array.length_toList, size_zeroCells]; rfl
  obtain ⟨Z, hZ⟩ : ∃ Z, Z = (Builtin.zeroCells z.cells.toArray (n - i)).toList := ⟨_, rfl⟩
  have hzo : ∀ v ∈ Z, v.oneCell' = true := by
    intro v hv
    rw [hZ] at hv
    unfold Builtin.zeroCells at hv
    rw [Array.toList_map] at hv
    obtain ⟨j, -, rfl⟩ := List.mem_map.1 hv
    have h5 : j % z.cells.toArray.size < z.cells.toArray.size := Nat.mod_lt _ (by show 0 < 5; omega)
    rw [getElem!_pos z.cells.toArray _ h5]
    exact cells_one z _ (by simp)
  rw [← hZ] at hzl
  have hsub : (n - i) * 5 = n * 5 - i * 5 := Nat.sub_mul n i 5
  have hn5 : n * 5 ≤ c * 5 := by omega
  have hst : (storeCells ⟨g, i * 5, none⟩ Z 0).run P W = .ok () (W.setRow g (cur.toList.take (i * 5) ++ Z ++ cur.toList.drop (i * 5 + Z.length)).toArray) :=
    run_storeCells_at (P := P) g (i * 5) 24 Z 0 cur W h2 (by rw [hzl, h5]; omega) hzo
  refine ⟨W.setRow g (cur.toList.take (i * 5) ++ Z ++ cur.toList.drop (i * 5 + Z.length)).toArray, ?_, ⟨⟨by rw [cellsP_length, List.length_take, ← h.len, Nat.min_eq_left (by omega)], .inr ⟨g, c, (cur.toList.take (i * 5) ++ Z ++ cur.toList.drop (i * 5 + Z.length)).toArray, rfl, h1, setRow_heap _ _ _ _ _ _ h2, by omega, h4, ?_, ?_⟩⟩, by rw [List.length_take, ← h.len, Nat.min_eq_left (by omega)], below_setRow' h.bel h1 _, h.sz⟩⟩
  · obtain ⟨m, hm⟩ : ∃ m, n - i = m + 1 := ⟨n - i - 1, by omega⟩
    have hc : (Value.agg z.cells.toArray).cells = z.cells.toArray := rfl
    intro ty
    rw [Nat.zero_add]
    rw [hm] at hZ ⊢
    simp [Builtin.clear_, run_underlying ht, hz, hc, ← hZ, hst]
  · simp only [List.size_toArray, List.length_append, List.length_take, List.length_drop, hcl, hzl]
    omega
  · show List.take (i * 5) (cur.toList.take (i * 5) ++ Z ++ cur.toList.drop (i * 5 + Z.length)) = _
    rw [cellsP_take, ← h6, List.take_take, List.append_assoc, List.take_append_of_le_length (by simp only [List.length_take, hcl]; omega), List.take_take, Nat.min_self, Nat.min_eq_left (by omega)]
end Go.Proofs.Ytcflnjmglanneaa
