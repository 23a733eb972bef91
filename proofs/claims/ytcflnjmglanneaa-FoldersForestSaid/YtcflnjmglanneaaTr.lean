/- Folders: cutting and appending slices of places: general laws. -/
import Derived.Test.YtcflnjmglanneaaTq
import Derived.Laws.Slices
namespace Go.Proofs.Ytcflnjmglanneaa
open Go.RowKit Go.Maps
set_option maxRecDepth 100000
set_option linter.unusedVariables false
set_option linter.unusedSimpArgs false

/-- 's[l:]' of a slice of elements of k cells. -/
theorem slice_offK {P : Program} (t e : TypeId) (k : Nat) (ht : P.underlying t = some (.slice e)) (hz : ∀ w, (sizeOf e).run P w = .ok k w) (g o n c l : Nat) (hl : l ≤ n) (hn : n ≤ c) :
    ∃ a, (0 < n - l → a = ⟨g, o + l * k, none⟩) ∧ ∀ W, (Instr.sliceAt t (.slice (some ⟨g, o, none⟩) n c) (some (.int .i64 (l : Int))) none none).run P W = .ok (.slice (some a) (n - l) (c - l)) W := by
  have he : P.elem t = e := by simp [Program.elem, ht]
  refine ⟨if c = l then ⟨g, o, none⟩ else ⟨g, o + l * k, none⟩, fun h => by rw [if_neg (by omega)], fun W => ?_⟩
  rw [run_sliceAt_slice W t _ _ _ _ (by rw [he]; exact ht), run_slice_l W t _ n c (by rw [he]; exact ht) .i64 _ (by omega) (by omega), he]
  simp [hz, Result.andThen, sliced, Addr.add]
  by_cases h : c = l
  · simp [h]
  · simp [h]
/-- 's[:h:h]' of a slice. -/
theorem slice_cut {P : Program} (t e : TypeId) (k : Nat) (ht : P.underlying t = some (.slice e)) (hz : ∀ w, (sizeOf e).run P w = .ok k w) (g o n c h : Nat) (hc : h ≤ c) (W : World) :
    (Instr.sliceAt t (.slice (some ⟨g, o, none⟩) n c) none (some (.int .i64 (h : Int))) (some (.int .i64 (h : Int)))).run P W = .ok (.slice (some ⟨g, o, none⟩) h h) W := by
  have he : P.elem t = e := by simp [Program.elem, ht]
  rw [run_sliceAt_slice W t _ _ _ _ (by rw [he]; exact ht), run_slice_hm W t _ n c (by rw [he]; exact ht) .i64 .i64 _ _ (by omega) (by omega) (by omega), he]
  simp [hz, Result.andThen, sliced, Addr.add]
  try (split <;> simp_all)
/-- 'append(s[:k:k], t...)': a row of its own. -/
theorem run_append_cut {P : Program} (w : World) (t ty e : TypeId) (i : TypeInfo) (z : Value) (size bytes : Nat) (ht : P.underlying t = some (.slice e)) (hi : P.info? e = some i) (hz : i.zero = some z)
    (hsize : i.size = size) (hby : i.bytes = bytes) (hzs : z.cells.size = size) (b : Addr) (k : Nat) (olds : List Value) (hlo : olds.length = k * size) (holds : ∀ j v, olds[j]? = some v → w.cell? (b.add j) = some v)
    (a : Addr) (m c : Nat) (news : List Value) (hl : news.length = m * size) (hnews : ∀ j v, news[j]? = some v → w.cell? (a.add j) = some v) (hm : 0 < m) (h63 : k + m ≤ maxLen) (hbytes : (k + m) * bytes ≤ 140737488355328) (base : Nat) (hbase : base ≤ w.heap.size) :
    ∃ cap w', (Builtin.append_ #[t, t] ty #[.slice (some b) k k, .slice (some a) m c]).run P w = .ok (.slice (some ⟨w.heap.size, 0, none⟩) (k + m) cap) w' ∧ w'.ownsRow base e size (.slice (some ⟨w.heap.size, 0, none⟩) (k + m) cap) (k + m) (olds ++ news) ∧ w.grownBy w' none := by
  subst hsize
  subst hby
  have hr := run_append_grow (P := P) w t ty e i z ht hi hz b k k olds hlo holds a m c news hl hnews (by omega) (by simp only [maxLen] at h63; omega) (growslice_fits (by omega) hbytes)
  have hlen : (olds ++ news).length = (k + m) * i.size := by rw [List.length_append, hlo, hl, Nat.add_mul]
  have hge := grownCap_ge w (k + m) k e
  have hcm : grownCap w (k + m) k e ≤ maxLen := grownCap_le_maxLen w (k + m) k e h63
  refine ⟨_, _, hr, ⟨hlen, .inr ⟨w.heap.size, _, _, rfl, hbase, heap_alloc_new w.drew _, hge, hcm, ?_, ?_⟩⟩, ⟨rfl, rfl, rfl, by simp, fun k hk _ => Below.heap_alloc _ _ _ hk⟩⟩
  · simp only [Array.size_append, List.size_toArray, size_zeroCells, hzs, hlo, hl, ← Nat.add_mul]
    congr 1
    omega
  · simp only [Array.toList_append, List.append_assoc]
    rw [← List.append_assoc, ← hlen]
    exact List.take_left
theorem wp_append_cut {P : Program} {w : World} {o : Oper} {a : Act} {K : Act → World → Prop} {Q : Exit → Act → World → Prop} (s x : Operand) (t : TypeId)
    (ho : o.op = .call { callee := .builtin .append, args := #[s, x], argTypes := #[t, t] })
    (e : TypeId) (i : TypeInfo) (z : Value) (size bytes : Nat) (ht : P.underlying t = some (.slice e)) (hi : P.info? e = some i) (hz : i.zero = some z)
    (hsize : i.size = size) (hby : i.bytes = bytes) (hzs : z.cells.size = size) (b : Addr) (k : Nat) (olds : List Value) (hs : a.eval s = .slice (some b) k k) (hlo : olds.length = k * size) (holds : ∀ j v, olds[j]? = some v → w.cell? (b.add j) = some v)
    (ad : Addr) (m c : Nat) (news : List Value) (hx : a.eval x = .slice (some ad) m c) (hl : news.length = m * size) (hnews : ∀ j v, news[j]? = some v → w.cell? (ad.add j) = some v) (hm : 0 < m) (h63 : k + m ≤ maxLen) (hbytes : (k + m) * bytes ≤ 140737488355328) (base : Nat) (hbase : base ≤ w.heap.size)
    (h : ∀ cap w', w'.ownsRow base e size (.slice (some ⟨w.heap.size, 0, none⟩) (k + m) cap) (k + m) (olds ++ news) → w.grownBy w' none → K (a.put o.dst (.slice (some ⟨w.heap.size, 0, none⟩) (k + m) cap)) w') : o.wp P a w K Q := by
  obtain ⟨cap, w', hr, h2, h3⟩ := run_append_cut (P := P) w t o.type e i z size bytes ht hi hz hsize hby hzs b k olds hlo holds ad m c news hl hnews hm h63 hbytes base hbase
  unfold Oper.wp execOp
  simp only [ho, resolve, invoke, builtin, Sem.run_bind, Sem.run_pure, Result.andThen_ok, List.map_toArray, List.map_cons, List.map_nil, hs, hx, hr]
  exact h cap w' h2 h3
/-- A slice of places, its pointer never nil. -/
structure OutR (w W : World) (g n c : Nat) (acc : List Pl) : Prop where
  own : W.ownsRow w.heap.size 24 5 (.slice (some ⟨g, 0, none⟩) n c) n (cellsP acc)
  len : n = acc.length
  bel : Below w.heap.size w W
theorem OutR.at {w W : World} {g n c : Nat} {acc : List Pl} (h : OutR w W g n c acc) : PlAt W (.slice (some ⟨g, 0, none⟩) n c) acc := PlAt.of_own (by rw [← h.len]; exact h.own)
theorem OutR.below {w W W' : World} {g n c : Nat} {acc : List Pl} (h : OutR w W g n c acc) (hB : Below W.heap.size W W') : OutR w W' g n c acc :=
  ⟨below_own h.own hB, h.len, h.bel.trans (hB.mono h.bel.size)⟩
theorem OutR.cap {w W : World} {g n c : Nat} {acc : List Pl} (h : OutR w W g n c acc) : n ≤ c := by
  rcases h.own.2 with ⟨e, _⟩ | ⟨g', cap, cur, e, h1, h2, h3, _⟩
  · cases e
  · injection e with e1 e2 e3
    subst e3
    exact h3
theorem cellsP_take (l : List Pl) (k : Nat) : cellsP (l.take k) = (cellsP l).take (k * 5) := by
  induction l generalizing k with
  | nil => simp [cellsP]
  | cons x l ih =>
    cases k with
    | zero => simp [cellsP]
    | succ k =>
      rw [List.take_succ_cons]
      show x.cells ++ cellsP (l.take k) = (x.cells ++ cellsP l).take ((k + 1) * 5)
      rw [ih, List.take_append]
      have hl : x.cells.length = 5 := rfl
      rw [List.take_of_length_le (l := x.cells) (by rw [hl]; omega), hl, show (k + 1) * 5 - 5 = k * 5 by omega]
theorem cellsP_drop (l : List Pl) (k : Nat) : cellsP (l.drop k) = (cellsP l).drop (k * 5) := by
  induction l generalizing k with
  | nil => simp [cellsP]
  | cons x l ih =>
    cases k with
    | zero => simp
    | succ k =>
      rw [List.drop_succ_cons]
      show cellsP (l.drop k) = (x.cells ++ cellsP l).drop ((k + 1) * 5)
      have hl : x.cells.length = 5 := rfl
      rw [ih, List.drop_append, List.drop_of_length_le (l := x.cells) (by rw [hl]; omega), hl, show (k + 1) * 5 - 5 = k * 5 by omega, List.nil_append]
/-- All cells of a slice of places. -/
theorem PlAt.all {w : World} {g o n c : Nat} {l : List Pl} (h : PlAt w (.slice (some ⟨g, o, none⟩) n c) l) : ∀ (j : Nat) u, (cellsP l)[j]? = some u → w.cell? ⟨g, o + j, none⟩ = some u := by
  obtain ⟨hl, p, c', e, h1, h2, h3⟩ := h
  injection e with e1 e2 e3
  intro j u hj
  have hjl := (List.getElem?_eq_some_iff.1 hj).1
  rw [hl] at hjl
  obtain ⟨g', o', e', hg⟩ := h3 (by omega)
  rw [e'] at e1
  injection e1 with e1
  injection e1 with e3 e4
  subst e3; subst e4
  exact hg j u hj
theorem cells_all (l : List Pl) : ∀ u ∈ cellsP l, u.oneCell' = true := by
  intro u hu
  obtain ⟨x, -, hx⟩ := List.mem_flatMap.1 hu
  exact cells_one x u hx
/-- What is behind place k. -/
theorem OutR.drop {w W : World} {g n c k : Nat} {acc : List Pl} {a : Addr} (h : OutR w W g n c acc) (hk : k ≤ n) (ha : 0 < n - k → a = ⟨g, 0 + k * 5, none⟩) : RowAt W (.slice (some a) (n - k) (c - k)) 5 (n - k) (cellsP (acc.drop k)) := by
  have hcap := h.cap
  refine ⟨by rw [cellsP_length, List.length_drop, ← h.len], some a, c - k, rfl, by omega, (fun e => by cases e), fun h0 => ?_⟩
  refine ⟨g, 0 + k * 5, by rw [ha h0], fun j u hj => ?_⟩
  rw [cellsP_drop, List.getElem?_drop] at hj
  rw [Nat.add_assoc]
  exact h.at.all _ u hj
theorem OutR.pre {w W : World} {g n c : Nat} {acc : List Pl} (h : OutR w W g n c acc) (k : Nat) : ∀ (j : Nat) u, (cellsP (acc.take k))[j]? = some u → W.cell? ((⟨g, 0, none⟩ : Addr).add j) = some u := by
  intro j u hj
  rw [addr_add_none]
  rw [cellsP_take, List.getElem?_take] at hj
  split at hj
  · exact h.at.all j u hj
  · cases hj
theorem own_cells {w : World} {base : Nat} {e : TypeId} {size g n c : Nat} {xs : List Value} (h : w.ownsRow base e size (.slice (some ⟨g, 0, none⟩) n c) n xs) : ∀ (j : Nat) u, xs[j]? = some u → w.cell? ((⟨g, 0, none⟩ : Addr).add j) = some u := by
  intro j u hj
  obtain ⟨-, p, c', e', h1, h2, h3⟩ := RowAt.of_own h
  have hjl := (List.getElem?_eq_some_iff.1 hj).1
  rw [h.1] at hjl
  obtain ⟨g', o', e2, hg⟩ := h3 (Nat.pos_of_ne_zero fun h0 => by rw [h0] at hjl; simp at hjl)
  rw [e2] at e'
  injection e' with e3 e4 e5
  injection e3 with e3
  injection e3 with e6 e7
  subst e6; subst e7
  rw [addr_add_none]
  exact hg j u hj
end Go.Proofs.Ytcflnjmglanneaa
