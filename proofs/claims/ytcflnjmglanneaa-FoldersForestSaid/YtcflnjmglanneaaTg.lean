/- General facts: cells, rows of ints, worlds that keep what lay below. -/
import Derived.Test.YtcflnjmglanneaaRows
import Derived.Test.YtcflnjmglanneaaMp
import Derived.WalkKit
import Derived.Below
import Derived.Laws.AppendOwn
import Derived.Laws.AppendOwnNone
import Derived.Maps.AppendAt
import Derived.RangeFuncBox
namespace Go.Proofs.Ytcflnjmglanneaa
open Go.RowKit
set_option maxRecDepth 100000
set_option linter.unusedVariables false
set_option linter.unusedSimpArgs false

theorem cellLt {w : World} {a : Addr} {v : Value} (h : w.cell? a = some v) : a.block < w.heap.size := by
  unfold World.cell? at h
  cases hb : w.heap[a.block]? with
  | none => simp [hb] at h
  | some o => exact (Array.getElem?_eq_some_iff.1 hb).1
theorem cellOld {w w' : World} {p : Addr} {v : Value} (h : w.cell? p = some v) (hs : w'.heap[p.block]? = w.heap[p.block]?) : w'.cell? p = some v := by
  rw [World.cell?_of_block hs]; exact h
theorem below_alloc (w : World) (o : Obj) : Below w.heap.size w (w.alloc o) := (Below.refl _ w).alloc (Nat.le_refl _) o
theorem below_trans {w w1 w2 : World} (h : Below w.heap.size w w1) (h2 : Below w1.heap.size w1 w2) : Below w.heap.size w w2 := h.trans (h2.mono h.size)
theorem below_drew {w w' : World} (h : Below w.heap.size w w') : Below w.heap.size w w'.drew := h.trans ⟨rfl, rfl, rfl, Nat.le_refl _, fun _ _ => rfl⟩
def IntsAt (w : World) (v : Value) (l : List Int) : Prop :=
  ∃ p c, v = .slice p l.length c ∧ l.length ≤ c ∧ (0 < l.length → ∃ g o, p = some ⟨g, o, none⟩ ∧ ∀ j, j < l.length → w.cell? ⟨g, o + j, none⟩ = some (.int .i64 (l.getD j 0)))
theorem ints_form {w : World} {B : Nat} {v : Value} {l : List Int} (h : w.ownsRow B 3 1 v l.length (l.map (Value.int .i64))) :
    ∃ p c, v = .slice p l.length c ∧ l.length ≤ c ∧ (0 < l.length → ∃ g, p = some ⟨g, 0, none⟩ ∧ B ≤ g ∧ g < w.heap.size ∧ ∀ j, j < l.length → w.cell? ⟨g, j, none⟩ = some (.int .i64 (l.getD j 0))) := by
  rcases h.2 with ⟨rfl, hn⟩ | ⟨g, cap, cur, rfl, hb, hg, h1, h2, h3, h4⟩
  · exact ⟨none, 0, by rw [hn], by omega, fun h => by omega⟩
  · refine ⟨_, cap, rfl, h1, fun _ => ⟨g, rfl, hb, (Array.getElem?_eq_some_iff.1 hg).1, fun j hj => ?_⟩⟩
    have e := congrArg (fun z : List Value => z[j]?) h4
    simp only [Nat.mul_one] at e
    rw [List.getElem?_take_of_lt hj] at e
    unfold World.cell?
    rw [hg]
    simp only [Option.isSome_none, Bool.false_eq_true, if_false]
    rw [← Array.getElem?_toList, e]
    simp [List.getD, hj]
theorem ints_of_row {w : World} {B : Nat} {v : Value} {l : List Int} (h : w.ownsRow B 3 1 v l.length (l.map (Value.int .i64))) : IntsAt w v l := by
  obtain ⟨p, c, rfl, hc, hcs⟩ := ints_form h
  refine ⟨p, c, rfl, hc, fun h0 => ?_⟩
  obtain ⟨g, rfl, -, -, h1⟩ := hcs h0
  exact ⟨g, 0, rfl, fun j hj => by rw [Nat.zero_add]; exact h1 j hj⟩
theorem ints_below {w w' : World} {v : Value} {l : List Int} (h : IntsAt w v l) (hB : Below w.heap.size w w') : IntsAt w' v l := by
  obtain ⟨p, c, rfl, hc, hcs⟩ := h
  refine ⟨p, c, rfl, hc, fun h0 => ?_⟩
  obtain ⟨g, o, rfl, h1⟩ := hcs h0
  exact ⟨g, o, rfl, fun j hj => cellOld (h1 j hj) (hB.block g (cellLt (h1 j hj)))⟩
theorem row_ints {w : World} {v : Value} {l : List Int} (h : IntsAt w v l) {p : Option Addr} {n c : Nat} (hv : v = .slice p n c) : n = l.length ∧ (0 < n → ∃ g o, p = some ⟨g, o, none⟩ ∧ ∀ j, j < n → w.cell? ⟨g, o + j, none⟩ = some (.int .i64 (l.getD j 0))) := by
  obtain ⟨p', c', h1, h2, h3⟩ := h
  rw [hv] at h1
  injection h1 with e1 e2 e3
  subst e1; subst e2; subst e3
  exact ⟨rfl, h3⟩
theorem ints_lit (w : World) (l : List Int) (hl : l.length ≤ 1000000) : IntsAt (w.alloc (.cells (l.map (Value.int .i64)).toArray 3)) (.slice (some ⟨w.heap.size, 0, none⟩) l.length l.length) l := by
  refine ints_of_row (B := 0) ?_
  have h := World.ownsRow_lit (base := 0) (size := 1) (e := 3) w (l.map (Value.int .i64)).toArray l.length (Nat.zero_le _) (by unfold maxLen; omega) (by simp)
  simpa using h
theorem ints_at {w wr : World} {l : List Int} {g o k : Nat} (hcs : ∀ j, j < l.length → w.cell? ⟨g, o + j, none⟩ = some (.int .i64 (l.getD j 0))) (hk : k < l.length) (hB : Below w.heap.size w wr) :
    ∃ a, wr.cell? ⟨g, o + k, none⟩ = some (.int .i64 a) ∧ l.getD k 0 = a ∧ l.take (k + 1) = l.take k ++ [a] := by
  have c := hcs k hk
  have hg : l.getD k 0 = l[k] := by simp [List.getD, hk]
  exact ⟨l[k], by rw [← hg]; exact cellOld c (hB.block g (cellLt c)), hg, List.take_succ_eq_append_getElem hk⟩
theorem box_new (w : World) (t : TypeId) (v : Value) : Boxed (w.alloc (.cells #[v] t)) w.heap.size t v := World.alloc_heap_new w _
theorem take_snoc {l : List Int} {j : Nat} (h : j < l.length) : l.take (j + 1) = l.take j ++ [l.getD j 0] := by
  rw [List.take_succ_eq_append_getElem h]; simp [List.getD, h]
/-- The cells of a new block. -/
theorem cells_new_at (w : World) (l : List Value) (t : TypeId) (j : Nat) (v : Value) (h : l[j]? = some v) : (w.alloc (.cells l.toArray t)).cell? ⟨w.heap.size, j, none⟩ = some v := by
  unfold World.cell?
  rw [World.alloc_heap_new]
  simpa using h
end Go.Proofs.Ytcflnjmglanneaa
