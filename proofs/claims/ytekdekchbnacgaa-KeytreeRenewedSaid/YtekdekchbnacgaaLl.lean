/- The reference: Remove. -/
import Derived.Test.YtekdekchbnacgaaLk
import Derived.Test.YtekdekchbnacgaaKx
namespace Go.Proofs.Ytekdekchbnacgaa
open Go.RowKit
set_option maxRecDepth 100000
set_option linter.unusedVariables false
set_option linter.unusedSimpArgs false

set_option maxHeartbeats 2000000 in
theorem rremove_ok (t : List (Int × Int)) (v : Value) (d : Int) (w : World) (ht : NodesAt w v t) (hl : t.length ≤ 800000) :
    Calls Try.prog 24 #[.agg #[v], .int .i64 d] w fun e w' => ∃ u, e = .returned (.tuple #[.agg #[u], .int .i64 (chgE t d true)]) ∧ NodesAt w' u (remL t d) ∧ Below w.heap.size w w' := by
  have hwf : ∀ e ∈ t, I64 e.1 ∧ I64 e.2 := by obtain ⟨p, c, -, -, -, -, h⟩ := ht; exact h
  have HT := Lib.hid ht
  have hb1 : Below w.heap.size w ((w.alloc (.cells #[v] 24)).alloc (.cells #[.slice none 0 0] 24)) := ((Below.refl _ w).alloc (Nat.le_refl _) _).alloc (by simp) _
  have cb : ((w.alloc (.cells #[v] 24)).alloc (.cells #[.slice none 0 0] 24)).cell? ⟨w.heap.size, 0, none⟩ = some v := by
    unfold World.cell?; rw [Below.heap_alloc _ _ _ (by simp), World.alloc_heap_new]; rfl
  have hbx : Boxed ((w.alloc (.cells #[v] 24)).alloc (.cells #[.slice none 0 0] 24)) (w.heap.size + 1) 24 (.slice none 0 0) := by
    have h := World.alloc_heap_new (w.alloc (.cells #[v] 24)) (.cells #[.slice none 0 0] 24)
    rw [World.size_alloc] at h
    exact h
  have HWF := Lib.hid hwf
  have HL := Lib.hid hl
  obtain ⟨E, hE⟩ : ∃ E, E = chkT t := ⟨_, rfl⟩
  have HE := Lib.hid hE
  clear ht hl hE hwf
  go_enter Try.func24, Try.ntmps24
  go_wp2_with fail
  obtain ⟨W0, hW0⟩ : ∃ W0, W0 = (w.alloc (.cells #[v] 24)).alloc (.cells #[.slice none 0 0] 24) := ⟨_, rfl⟩
  rw [← hW0] at hbx hb1 cb ⊢
  clear hW0
  have HRC := Lib.hid (rcheck_ok t v W0 (HT.out.below hb1) (by have := HL.out; omega))
  rw [← HE.out] at HRC
  refine HRC.out.mono ?_
  rintro e w1 ⟨rfl, hB1⟩
  have hbx1 : Boxed w1 (w.heap.size + 1) 24 (.slice none 0 0) := (hB1.block _ hbx.lt).trans hbx
  have cb1 := cellOld cb (hB1.block _ (cellLt cb))
  have HB1 := Lib.hid (hb1.trans (hB1.mono hb1.size))
  have HBX := Lib.hid hbx1
  have hs1 : w.heap.size + 1 < w1.heap.size := hbx1.lt
  have c1b := hbx1.cell
  have c1f := hbx1.frozen
  have c1n := (Boxed.set (.slice none 0 0) hbx1).cell
  have HGE := Lib.hid (grownBy_setCell' w1 (w.heap.size + 1) (.slice none 0 0))
  have HBE := Lib.hid (HB1.out.grown HGE.out (by omega) (fun j e => by cases e; omega))
  clear hB1 hb1 hbx HRC cb hbx1
  by_cases h0 : E = 0
  case neg =>
    have hd0 : decide (E = 0) = false := by simp; omega
    have hd0' : (E != 0) = true := by simpa using h0
    have HSE : Hid (chgE t d true = E) := Lib.hid (by
      unfold chgE; rw [if_neg (by rw [← HE.out]; exact h0)]; exact HE.out.symm)
    have HSL : Hid (remL t d = []) := Lib.hid (by unfold remL; rw [if_neg (by rw [HSE.out]; exact h0)])
    clear h0
    go_wp2_with fail
    refine bodyPost_ret (v := .tuple #[.agg #[.slice none 0 0], .int .i64 E]) (by simp [results, Try.results24, go_sem, c1n]) rfl ?_
    exact ⟨_, by rw [HSE.out], by rw [HSL.out]; exact nodes_nil _, HBE.out⟩
  subst h0
  by_cases hd : 0 ≤ d ∧ d < 512
  case neg =>
    have HDV := Lib.hid (device_ok d)
    rw [decide_eq_false hd] at HDV
    have HSE : Hid (chgE t d true = 200) := Lib.hid (by unfold chgE; rw [if_pos HE.out.symm, if_pos (by omega)])
    have HSL : Hid (remL t d = []) := Lib.hid (by unfold remL; rw [if_neg (by rw [HSE.out]; decide)])
    clear hd
    go_wp2_with fail
    refine (HDV.out w1).mono ?_
    rintro e w2 ⟨rfl, hw⟩
    rw [hw]
    clear hw
    go_wp2_with fail
    refine bodyPost_ret (v := .tuple #[.agg #[.slice none 0 0], .int .i64 200]) (by simp [results, Try.results24, go_sem, c1n]) rfl ?_
    exact ⟨_, by rw [HSE.out], by rw [HSL.out]; exact nodes_nil _, HBE.out⟩
  have HDV := Lib.hid (device_ok d)
  rw [decide_eq_true hd] at HDV
  have hz : IntKind.i64.wrap (512 + d) = 512 + d := by rw [IntKind.wrap_i64]; omega
  have HBK := Lib.hid (rblank_ok t v (512 + d) w1 (HT.out.below HB1.out) (by have := HL.out; omega))
  obtain ⟨sb, hsb⟩ : ∃ sb, sb = (ofF t (512 + d)).isSome := ⟨_, rfl⟩
  rw [← hsb] at HBK
  have HSB := Lib.hid hsb
  clear hsb c1n HGE HBE
  go_wp2_with fail
  refine (HDV.out w1).mono ?_
  rintro e w2 ⟨rfl, hw⟩
  rw [hw]
  clear hw w2
  clear HDV
  go_wp2_with fail
  refine HBK.out.mono ?_
  rintro e w2 ⟨rfl, hB2⟩
  have hbx2 : Boxed w2 (w.heap.size + 1) 24 (.slice none 0 0) := (hB2.block _ (by omega)).trans HBX.out
  have cb2 := cellOld cb1 (hB2.block _ (cellLt cb1))
  have HB2 := Lib.hid (HB1.out.trans (hB2.mono HB1.out.size))
  have HBX2 := Lib.hid hbx2
  have hs2 : w.heap.size + 1 < w2.heap.size := hbx2.lt
  have c2b := hbx2.cell
  have c2f := hbx2.frozen
  clear hB2 HBK cb1 HBX c1b c1f hs1 hbx2
  cases sb with
  | false =>
    have c1n := (Boxed.set (.slice none 0 0) HBX2.out).cell
    have HGE := Lib.hid (grownBy_setCell' w2 (w.heap.size + 1) (.slice none 0 0))
    have HBE := Lib.hid (HB2.out.grown HGE.out (by omega) (fun j e => by cases e; omega))
    have HSE : Hid (chgE t d true = 200) := Lib.hid (by
      have hn : ofF t (512 + d) = none := by
        cases h : ofF t (512 + d) with
        | none => rfl
        | some y => have h2 := HSB.out; rw [h] at h2; cases h2
      unfold chgE; rw [if_pos HE.out.symm, if_pos (.inr (.inr ⟨rfl, hn⟩))])
    have HSL : Hid (remL t d = []) := Lib.hid (by unfold remL; rw [if_neg (by rw [HSE.out]; decide)])
    clear hd
    go_wp2_with fail
    refine bodyPost_ret (v := .tuple #[.agg #[.slice none 0 0], .int .i64 200]) (by simp [results, Try.results24, go_sem, c1n]) rfl ?_
    exact ⟨_, by rw [HSE.out], by rw [HSL.out]; exact nodes_nil _, HBE.out⟩
  | true =>
    have HSE : Hid (chgE t d true = 0) := Lib.hid (by
      unfold chgE; rw [if_pos HE.out.symm, if_neg]
      rintro (h | h | ⟨-, h⟩)
      · omega
      · omega
      · have := HSB.out; rw [h] at this; cases this)
    have HSL : Hid (remL t d = withoutL t d) := Lib.hid (by unfold remL; rw [if_pos HSE.out])
    have HWO := Lib.hid (without_ok t v d w2 (HT.out.below HB2.out) (by have := HL.out; omega) hd.1 hd.2)
    clear hd
    go_wp2_with fail
    refine HWO.out.mono ?_
    rintro e w3 ⟨u2, rfl, hr3, hB3⟩
    have hbx3 : Boxed w3 (w.heap.size + 1) 24 (.slice none 0 0) := (hB3.block _ (by omega)).trans HBX2.out
    obtain ⟨q, cq, rfl⟩ := node_form hr3
    have HR3 := Lib.hid hr3
    have HB3 := Lib.hid (HB2.out.trans (hB3.mono HB2.out.size))
    have hs3 := hB3.size
    have c3 := hbx3.cell
    have c3f := hbx3.frozen
    have HGE := Lib.hid (grownBy_setCell' w3 (w.heap.size + 1) (.slice q (withoutL t d).length cq))
    have HBE := Lib.hid (HB3.out.grown HGE.out (by omega) (fun j e => by cases e; omega))
    have HRE := Lib.hid (ownsRow_setCell_below HR3.out (a := ⟨w.heap.size + 1, 0, none⟩) (by show w.heap.size + 1 < w2.heap.size; omega) (.slice q (withoutL t d).length cq))
    have c1n := (Boxed.set (.slice q (withoutL t d).length cq) hbx3).cell
    clear hr3 hB3 HWO hbx3 cb2 c2b c2f
    go_wp2_with fail
    refine bodyPost_ret (v := .tuple #[.agg #[.slice q (withoutL t d).length cq], .int .i64 0]) (by simp [results, Try.results24, go_sem, c1n]) rfl ?_
    refine ⟨_, by rw [HSE.out], ?_, HBE.out⟩
    rw [HSL.out]
    exact nodes_of_row HRE.out (withoutL_wf HWF.out)
end Go.Proofs.Ytekdekchbnacgaa
