/- Folders: rows of places as they lie. -/
import Derived.Test.YtcflnjmglanneaaTe
import Derived.Test.YtcflnjmglanneaaRo
namespace Go.Proofs.Ytcflnjmglanneaa
open Go.RowKit Go.Maps
set_option maxRecDepth 100000
set_option linter.unusedVariables false
set_option linter.unusedSimpArgs false

/-- The cells of a list of places. -/
def cellsP (l : List Pl) : List Value := l.flatMap Pl.cells
theorem cellsP_length (l : List Pl) : (cellsP l).length = l.length * 5 := by
  unfold cellsP
  induction l with
  | nil => rfl
  | cons x l ih => rw [List.flatMap_cons, List.length_append, ih, List.length_cons]; simp [Pl.cells]; omega
theorem cellsP_append (l m : List Pl) : cellsP (l ++ m) = cellsP l ++ cellsP m := by unfold cellsP; exact List.flatMap_append
theorem cellsP_one (x : Pl) : cellsP [x] = x.cells := by simp [cellsP]
theorem cellsP_get : ∀ (l : List Pl) (j i : Nat) (x : Pl), l[j]? = some x → i < 5 → (cellsP l)[j * 5 + i]? = x.cells[i]?
  | [], j, i, x, h, _ => by simp at h
  | y :: l, 0, i, x, h, hi => by
    have e : y = x := by simpa using h
    subst e
    show (y.cells ++ cellsP l)[0 * 5 + i]? = _
    rw [Nat.zero_mul, Nat.zero_add, List.getElem?_append_left (by simp [Pl.cells]; omega)]
  | y :: l, j + 1, i, x, h, hi => by
    show (y.cells ++ cellsP l)[(j + 1) * 5 + i]? = _
    have hl : y.cells.length = 5 := rfl
    rw [List.getElem?_append_right (by rw [hl]; omega), hl, show (j + 1) * 5 + i - 5 = j * 5 + i by omega]
    exact cellsP_get l j i x (by simpa using h) hi
/-- A slice of places as it lies. -/
def PlAt (w : World) (v : Value) (l : List Pl) : Prop := RowAt w v 5 l.length (cellsP l)
theorem PlAt.below {w w' : World} {v : Value} {l : List Pl} (h : PlAt w v l) (hB : Below w.heap.size w w') : PlAt w' v l := RowAt.below h hB
theorem PlAt.of_own {w : World} {B : Nat} {v : Value} {l : List Pl} (h : w.ownsRow B 24 5 v l.length (cellsP l)) : PlAt w v l := RowAt.of_own h
theorem PlAt.form {w : World} {v : Value} {l : List Pl} (h : PlAt w v l) : ∃ p c, v = .slice p l.length c ∧ l.length ≤ c ∧ (p = none → c = 0) := by
  obtain ⟨_, p, c, e, h1, h2, _⟩ := h
  exact ⟨p, c, e, h1, h2⟩
/-- The cells of an element, in a later world. -/
structure PlCell (w : World) (g o j : Nat) (x : Pl) : Prop where
  c0 : w.cell? ⟨g, o + j * 5, none⟩ = some (.int .i64 x.t)
  c1 : w.cell? ⟨g, o + j * 5 + 1, none⟩ = some (.int .i64 x.d)
  c2 : w.cell? ⟨g, o + j * 5 + 2, none⟩ = some (.int .i64 x.f)
  c3 : w.cell? ⟨g, o + j * 5 + 3, none⟩ = some (.int .i64 x.p)
  c4 : w.cell? ⟨g, o + j * 5 + 4, none⟩ = some (.string x.n)
theorem PlCell.below {w w' : World} {g o j : Nat} {x : Pl} (h : PlCell w g o j x) (hB : Below w.heap.size w w') : PlCell w' g o j x :=
  ⟨cellOld h.c0 (hB.block _ (cellLt h.c0)), cellOld h.c1 (hB.block _ (cellLt h.c1)), cellOld h.c2 (hB.block _ (cellLt h.c2)), cellOld h.c3 (hB.block _ (cellLt h.c3)), cellOld h.c4 (hB.block _ (cellLt h.c4))⟩
theorem PlAt.cells {w : World} {p : Option Addr} {n c : Nat} {l : List Pl} (h : PlAt w (.slice p n c) l) : n = l.length ∧ n ≤ c ∧ (0 < n → ∃ g o, p = some ⟨g, o, none⟩ ∧ ∀ j x, l[j]? = some x → PlCell w g o j x) := by
  obtain ⟨_, p', c', e, h1, h2, h3⟩ := h
  injection e with e1 e2 e3
  subst e1; subst e2; subst e3
  refine ⟨rfl, h1, fun h0 => ?_⟩
  obtain ⟨g, o, e, hg⟩ := h3 h0
  refine ⟨g, o, e, fun j x hx => ?_⟩
  have k := fun i hi => cellsP_get l j i x hx hi
  exact ⟨hg (j * 5) _ (k 0 (by decide)), hg (j * 5 + 1) _ (k 1 (by decide)), hg (j * 5 + 2) _ (k 2 (by decide)), hg (j * 5 + 3) _ (k 3 (by decide)), hg (j * 5 + 4) _ (k 4 (by decide))⟩
theorem take_at {l : List Pl} {j : Nat} (h : j < l.length) : ∃ x, l[j]? = some x ∧ l.take (j + 1) = l.take j ++ [x] :=
  ⟨l[j], List.getElem?_eq_getElem h, List.take_succ_eq_append_getElem h⟩
theorem PlAt.nil {w : World} : PlAt w (.slice none 0 0) [] := ⟨rfl, none, 0, rfl, Nat.le_refl _, fun _ => rfl, fun h => absurd h (Nat.lt_irrefl _)⟩
end Go.Proofs.Ytcflnjmglanneaa
