/- Folders: slices.SortFunc over the program's own row of places. -/
import Derived.Test.YtcflnjmglanneaaUd
namespace Go.Proofs.Ytcflnjmglanneaa
open Go.RowKit Go.Maps Go.Sort
set_option maxRecDepth 100000
set_option linter.unusedVariables false
set_option linter.unusedSimpArgs false

theorem flat_cells (d : List Pl) (t : Nat) (ht : t < d.length * 5) : (cellsP d)[t]? = some ((Pl.cells d.toArray[t / 5]!)[t % 5]!) := by
  have hj : t / 5 < d.length := by omega
  have hi : t % 5 < 5 := Nat.mod_lt _ (by decide)
  have h := cellsP_get d (t / 5) (t % 5) d[t / 5] (List.getElem?_eq_getElem hj) hi
  rw [show t / 5 * 5 + t % 5 = t by omega] at h
  have e : d.toArray[t / 5]! = d[t / 5] := by rw [getElem!_pos d.toArray _ (by simpa using hj)]; simp
  rw [h, e]
  have hl : (Pl.cells d[t / 5]).length = 5 := rfl
  rw [List.getElem?_eq_getElem (by rw [hl]; exact hi), getElem!_pos _ _ (by rw [hl]; exact hi)]
/-- An own row as the sort holds it. -/
theorem OwnR.holds {n0 : Nat} {w W : World} {g n c : Nat} {d : List Pl} (h : OwnR n0 w W g n c d) : HoldsK Pl.cells 5 W g 0 d.toArray := by
  obtain ⟨hl, hrow⟩ := h.own
  rcases hrow with ⟨e', _⟩ | ⟨g', cap, cur, e', h1, h2, h3, h4, h5, h6⟩
  · cases e'
  injection e' with e1 e2 e3
  injection e1 with e1
  injection e1 with e1
  subst e1; subst e3
  intro t ht
  rw [size_flatK] at ht
  have ht' : t < d.length * 5 := by simpa using ht
  have hc := flat_cells d t ht'
  rw [get_flatK _ _ _ _ ht]
  refine ⟨?_, by simp [World.frozen?, h2]⟩
  rw [Nat.zero_add, World.cell?, h2]
  rw [← h6, List.getElem?_take_of_lt (by have := h.len; omega)] at hc
  simpa using hc
theorem at_holds {W : World} {g n c : Nat} {d : List Pl} (h : HoldsK Pl.cells 5 W g 0 d.toArray) (hn : n = d.length) (hc : n ≤ c) : PlAt W (.slice (some ⟨g, 0, none⟩) n c) d := by
  refine ⟨cellsP_length d, some ⟨g, 0, none⟩, c, by rw [hn], by omega, (fun e => by cases e), fun _ => ⟨g, 0, rfl, fun j u hj => ?_⟩⟩
  have hjl := (List.getElem?_eq_some_iff.1 hj).1
  rw [cellsP_length] at hjl
  have h1 := (h j (by rw [size_flatK]; simpa using hjl)).1
  rw [get_flatK _ _ _ _ (by simpa using hjl)] at h1
  rw [flat_cells d j hjl] at hj
  injection hj with hj
  rw [← hj]
  exact h1
theorem sort_below {n0 : Nat} {w : World} {g n : Nat} {d : Array Pl} {os : Array Obj} (hg : n0 ≤ g) (hw : n0 ≤ w.heap.size) : Below n0 w (sortWorldK Pl.cells 5 w g 0 n d os) := by
  unfold sortWorldK putRowK putRow mapBlock Go.Sort.ahead Go.Sort.grow
  refine ⟨rfl, rfl, rfl, by simp, fun k hk => ?_⟩
  simp only
  rw [Array.getElem?_append_left (by simp; omega), Array.getElem?_modify, if_neg (by omega)]
theorem sortF_ok (l : List Pl) (n0 g n c : Nat) (w W : World) (h : OwnR n0 w W g n c l) (hn : n ≤ 1000000) :
    Calls Try.prog 45 #[.slice (some ⟨g, 0, none⟩) n c, .func (.func 46) #[] #[]] W fun e w' => e = .returned (.tuple #[]) ∧ PlAt w' (.slice (some ⟨g, 0, none⟩) n c) (sortP l) ∧ Below n0 W w' ∧ g < w'.heap.size := by
  have hnn : l.toArray.size = n := by rw [List.size_toArray, h.len]
  have hk := fsort_ok g c l.toArray W h.holds h.lt.2 (by rw [hnn]; omega)
  rw [hnn] at hk
  refine hk.mono ?_
  rintro e w' ⟨rfl, m, os, rfl⟩
  have hlen : (sortP l).length = l.length := (List.mergeSort_perm _ _).length_eq
  have hsz : l.toArray.size = (sortP l).toArray.size := by simp [hlen]
  refine ⟨rfl, at_holds ?_ (by rw [hlen]; exact h.len) h.cap, sort_below h.lt.1 (by have := h.lt; omega), lt_sortWorldK _ _ _ _ _ _ _ _ h.lt.2⟩
  have e : (l.toArray.toList) = l := rfl
  exact holdsK_sortWorldK Pl.cells 5 W g 0 m l.toArray (sortP l).toArray os h.lt.2 h.holds (by simp [hlen])
theorem sortF_none (c : Nat) (w : World) : Calls Try.prog 45 #[.slice none 0 c, .func (.func 46) #[] #[]] w fun e w' => e = .returned (.tuple #[]) ∧ w' = w :=
  AnyF.slices_SortFunc_none Tryx.lays6 none c _ w
theorem delete_none (c : Nat) (w : World) : Calls Try.prog 42 #[.slice none 0 0, .func (.func 44) #[] #[]] w fun e w' => e = .returned (.slice none 0 0) ∧ Below w.heap.size w w' := by
  have HI := Lib.hid (idxBad_ok [] (.slice none 0 0) w PlAt.nil (by simp))
  go_enter Try.func42, Try.ntmps42
  go_wp2_with fail
  refine (HI.out).mono ?_
  rintro e w1 ⟨r, rfl, hr, hB⟩
  have HB := Lib.hid hB
  clear hB HI
  rcases hr with ⟨rfl, -⟩ | ⟨k, e, -, he, -⟩
  · go_wp2_with fail
    go_ret
    exact ⟨rfl, HB.out⟩
  · simp at he
end Go.Proofs.Ytcflnjmglanneaa
