/- Folders: what comes in: places, a place, names. -/
import Derived.Test.YtcflnjmglanneaaUk
import Derived.Deep.Slices
import Derived.SliceStrings
import Derived.ChangeSlices
import Derived.ChangeArms
import Derived.WideShapes
import Derived.Below
namespace Go.Proofs.Ytcflnjmglanneaa
open Go.RowKit Go.ChangeShapes Go.WideShapes Go.Deep
set_option maxRecDepth 100000
set_option linter.unusedVariables false
set_option linter.unusedSimpArgs false

theorem addr_add2 (g o j : Nat) : (⟨g, o, none⟩ : Addr).add j = ⟨g, o + j, none⟩ := by unfold Addr.add; split <;> simp_all
/-- The cells of a place, as data. -/
theorem place_trod {H : Type} {enc : TypeId × Value → H} {W : World} {base : Nat} {spare : Nat → Bool} {held : Bool} {fuel : Nat} {cs : List Value} {x : DataW H × List MemPlace} (h : DataW.trod enc Try.prog W base spare held fuel 24 cs = some x) :
    ∃ e : Pl, cs = e.cells ∧ I64 e.t ∧ I64 e.d ∧ I64 e.f ∧ I64 e.p ∧ e.n.size ≤ maxLen := by
  obtain ⟨xs, n, -, -, hl, hxl, hf⟩ := DataW.trod_struct Try.underlying24 h
  have h5 : cs.length = 5 := hl.trans (by kernel_rfl)
  have i1 : Try.prog.cellsOf 3 = 1 := by kernel_rfl
  have s1 : Try.prog.cellsOf 9 = 1 := by kernel_rfl
  match cs, h5, xs, hxl with
  | [v0, v1, v2, v3, v4], _, [y0, y1, y2, y3, y4], _ =>
    have g0 := hf 0 _ rfl
    have g1 := hf 1 _ rfl
    have g2 := hf 2 _ rfl
    have g3 := hf 3 _ rfl
    have g4 := hf 4 _ rfl
    simp only [List.getElem_toArray, List.getElem_cons_zero, List.getElem_cons_succ, i1, s1] at g0 g1 g2 g3 g4
    obtain ⟨a0, e0, -, w0⟩ := DataW.trod_int Try.underlying3 g0
    obtain ⟨a1, e1, -, w1⟩ := DataW.trod_int Try.underlying3 g1
    obtain ⟨a2, e2, -, w2⟩ := DataW.trod_int Try.underlying3 g2
    obtain ⟨a3, e3, -, w3⟩ := DataW.trod_int Try.underlying3 g3
    obtain ⟨a4, e4, -, w4⟩ := DataW.trod_string Try.underlying9 g4
    simp at e0 e1 e2 e3 e4
    exact ⟨⟨a0, a1, a2, a3, a4⟩, by rw [e0, e1, e2, e3, e4]; rfl, w0, w1, w2, w3, w4⟩
theorem placesIn {H : Type} {enc : TypeId × Value → H} {W : World} {base : Nat} {v : Value} {d : DataW H} {p : List MemPlace} (h : DataW.Trod enc Try.prog W 0 (fun _ => true) true 22 v d p) (hv : Value.okWide Try.prog W .any base 22 v) :
    ∃ l, PlAt W v l ∧ l.length ≤ maxLen := by
  obtain ⟨a1, len, cap, rfl⟩ := okWide_slice Try.underlying22 hv
  obtain ⟨fuel, hf⟩ := h
  have c5 : Try.prog.cellsOf 24 = 5 := by kernel_rfl
  rcases open_slice Try.underlying22 hf with ⟨hcs, -⟩ | ⟨a, len', cap', m, n, D, P0, hcs, -, hl, hm, hmm, -, hx⟩
  · simp [Value.cells] at hcs
    obtain ⟨rfl, rfl, rfl⟩ := hcs
    exact ⟨[], PlAt.nil, Nat.zero_le _⟩
  · simp [Value.cells] at hcs
    obtain ⟨rfl, rfl, rfl⟩ := hcs
    have hm2 : m = cap := by simpa using hmm
    have each : ∀ i, i < len → ∃ e : Pl, ∀ j, j < 5 → W.cell? (a.add (i * 5 + j)) = (Pl.cells e)[j]? := fun i hi => by
      obtain ⟨cs', h1, h2⟩ := hx i (by omega)
      rw [c5] at h1
      obtain ⟨e, rfl, -⟩ := place_trod h2
      obtain ⟨-, -, hc⟩ := World.cells?_some h1
      refine ⟨e, fun j hj => ?_⟩
      have := hc j hj
      rwa [add_add] at this
    obtain ⟨E, hE⟩ := choose_lt each
    have hlen : ((List.range len).map E).length = len := by simp
    refine ⟨(List.range len).map E, ⟨cellsP_length _, some a, cap, by rw [hlen], by rw [hlen]; exact hl, (fun e => by cases e), fun h0 => ?_⟩, by rw [hlen]; omega⟩
    rw [hlen] at h0
    obtain ⟨g, o, spot⟩ := a
    have hspot : spot = none := by
      have h := hE 0 h0 0 (by decide)
      simp [Pl.cells, Addr.add] at h
      exact World.cell?_spot h
    subst hspot
    refine ⟨g, o, rfl, fun j u hj => ?_⟩
    have hjl := (List.getElem?_eq_some_iff.1 hj).1
    rw [cellsP_length, hlen] at hjl
    have hi : j / 5 < len := by omega
    have hr : j % 5 < 5 := Nat.mod_lt _ (by decide)
    have h1 := cellsP_get ((List.range len).map E) (j / 5) (j % 5) (E (j / 5)) (by simp [hi]) hr
    rw [show j / 5 * 5 + j % 5 = j by omega] at h1
    have h2 := hE (j / 5) hi (j % 5) hr
    rw [show j / 5 * 5 + j % 5 = j by omega, addr_add2] at h2
    rw [h2, ← h1]
    exact hj
theorem placeIn {H : Type} {enc : TypeId × Value → H} {W : World} {base : Nat} {v : Value} {d : DataW H} {p : List MemPlace} (h : DataW.Trod enc Try.prog W 0 (fun _ => true) true 24 v d p) (hv : Value.okWide Try.prog W .any base 24 v) :
    ∃ e : Pl, v = e.ev ∧ I64 e.t ∧ I64 e.d ∧ I64 e.f ∧ I64 e.p ∧ e.n.size ≤ maxLen := by
  obtain ⟨cs, rfl, hsz⟩ := okWide_struct Try.underlying24 hv
  obtain ⟨fuel, hf⟩ := h
  obtain ⟨e, he, hr⟩ := place_trod hf
  refine ⟨e, ?_, hr⟩
  have : cs.toList = e.cells := he
  obtain ⟨cl⟩ := cs
  simp at this
  subst this
  rfl
theorem strsIn {H : Type} {enc : TypeId × Value → H} {W : World} {base : Nat} {v : Value} {d : DataW H} {p : List MemPlace} (h : DataW.Trod enc Try.prog W 0 (fun _ => true) true 35 v d p) (hv : Value.okWide Try.prog W .any base 35 v) :
    ∃ l, StrsAt W v l ∧ l.length ≤ maxLen := by
  obtain ⟨a1, len, cap, rfl⟩ := okWide_slice Try.underlying35 hv
  obtain ⟨fuel, hf⟩ := h
  rcases open_strings Try.underlying35 Try.underlying9 (by kernel_rfl) hf with ⟨hcs, hx⟩ | ⟨a, len', cap', zs, hcs, _, hl, hm, hz, hx, hcell, hwz⟩
  · simp [Value.cells] at hcs
    obtain ⟨rfl, rfl, rfl⟩ := hcs
    exact ⟨[], ⟨rfl, none, 0, rfl, Nat.le_refl _, fun _ => rfl, fun h => absurd h (Nat.lt_irrefl _)⟩, Nat.zero_le _⟩
  · simp [Value.cells] at hcs
    obtain ⟨rfl, rfl, rfl⟩ := hcs
    have hz2 : zs.length = cap := by simpa using hz
    have hll : (zs.take len).length = len := by simp; omega
    refine ⟨zs.take len, ⟨by simp, some a, cap, by rw [hll], by rw [hll]; exact hl, (fun e => by cases e), fun h0 => ?_⟩, by rw [hll]; omega⟩
    rw [hll] at h0
    obtain ⟨g, o, spot⟩ := a
    have hspot : spot = none := by
      have h := hcell 0 (by omega)
      simpa [Addr.add] using World.cell?_spot h
    subst hspot
    refine ⟨g, o, rfl, fun j u hj => ?_⟩
    have hjl := (List.getElem?_eq_some_iff.1 hj).1
    rw [List.length_map, hll] at hjl
    have h := hcell j (by omega)
    rw [addr_add2] at h
    rw [h, ← hj]
    simp [List.getD, hjl, show j < zs.length by omega]
end Go.Proofs.Ytcflnjmglanneaa
