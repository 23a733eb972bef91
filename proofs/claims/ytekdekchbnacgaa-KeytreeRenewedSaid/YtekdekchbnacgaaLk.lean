/- The reference: Set, Remove. -/
import Derived.Test.YtekdekchbnacgaaLi
import Derived.Test.YtekdekchbnacgaaLj
import Derived.Test.YtekdekchbnacgaaKv
namespace Go.Proofs.Ytekdekchbnacgaa
open Go.RowKit
set_option maxRecDepth 100000
set_option linter.unusedVariables false
set_option linter.unusedSimpArgs false

theorem nodes_nil (w : World) : NodesAt w (.slice none 0 0) [] := ⟨none, 0, rfl, Nat.le_refl _, fun _ => rfl, fun h => absurd h (by simp), fun x h => by cases h⟩
theorem withL_mem {z e : Int × Int} : ∀ {l : List (Int × Int)}, e ∈ withL z l → e = z ∨ e ∈ l
  | [], h => by left; simpa [withL] using h
  | x :: r, h => by
    unfold withL at h
    split at h
    · rcases List.mem_cons.1 h with h | h
      · exact .inl h
      · exact .inr h
    · rcases List.mem_cons.1 h with h | h
      · exact .inr (h ▸ List.mem_cons_self ..)
      · rcases withL_mem h with h | h
        · exact .inl h
        · exact .inr (List.mem_cons_of_mem _ h)
/-- What Set leaves, as a list. -/
noncomputable def setL (t : List (Int × Int)) (d x : Int) : List (Int × Int) := if setE t d x = 0 then withL (512 + d, x) (withoutL t d) else []
noncomputable def remL (t : List (Int × Int)) (d : Int) : List (Int × Int) := if chgE t d true = 0 then withoutL t d else []
theorem withoutL_wf {t : List (Int × Int)} {d : Int} (h : ∀ e ∈ t, I64 e.1 ∧ I64 e.2) : ∀ e ∈ withoutL t d, I64 e.1 ∧ I64 e.2 := fun e he => h e (List.mem_filter.1 he).1

set_option maxHeartbeats 2000000 in
theorem rset_ok (t : List (Int × Int)) (v : Value) (d x : Int) (w : World) (ht : NodesAt w v t) (hl : t.length ≤ 800000) (hx : I64 x) :
    Calls Try.prog 22 #[.agg #[v], .int .i64 d, .int .i64 x] w fun e w' => ∃ u, e = .returned (.tuple #[.agg #[u], .int .i64 (setE t d x)]) ∧ NodesAt w' u (setL t d x) ∧ Below w.heap.size w w' := by
  have hwf : ∀ e ∈ t, I64 e.1 ∧ I64 e.2 := by obtain ⟨p, c, -, -, -, -, h⟩ := ht; exact h
  have HT := Lib.hid ht
  have hb1 : Below w.heap.size w ((w.alloc (.cells #[v] 24)).alloc (.cells #[.slice none 0 0] 24)) := ((Below.refl _ w).alloc (Nat.le_refl _) _).alloc (by simp) _
  have cb : ((w.alloc (.cells #[v] 24)).alloc (.cells #[.slice none 0 0] 24)).cell? ⟨w.heap.size, 0, none⟩ = some v := by
    unfold World.cell?; rw [Below.heap_alloc _ _ _ (by simp), World.alloc_heap_new]; rfl
  have hbx : Boxed ((w.alloc (.cells #[v] 24)).alloc (.cells #[.slice none 0 0] 24)) (w.heap.size + 1) 24 (.slice none 0 0) := by
    have h := World.alloc_heap_new (w.alloc (.cells #[v] 24)) (.cells #[.slice none 0 0] 24)
    rw [World.size_alloc] at h
    exact h
  have HWF := Lib.hid hwf
  have HX := Lib.hid hx
  have HL := Lib.hid hl
  obtain ⟨E, hE⟩ : ∃ E, E = chkT t := ⟨_, rfl⟩
  have HE := Lib.hid hE
  clear ht hl hE hwf hx
  go_enter Try.func22, Try.ntmps22
  go_wp2_with fail
  obtain ⟨W0, hW0⟩ : ∃ W0, W0 = (w.alloc (.cells #[v] 24)).alloc (.cells #[.slice none 0 0] 24) := ⟨_, rfl⟩
  rw [← hW0] at hbx hb1 cb ⊢
  clear hW0
  have HRC := Lib.hid (rcheck_ok t v W0 (HT.out.below hb1) (by have := HL.out; omega))
  rw [← HE.out] at HRC
  refine HRC.out.mono ?_
  rintro e w1 ⟨rfl, hB1⟩
  have hbx1 : Boxed w1 (w.heap.size + 1) 24 (.slice none 0 0) := (hB1.block _ hbx.lt).trans hbx
  have cb1 := cellOld cb (hB1.block _ (cellLt cb))
  have HB1 := Lib.hid (hb1.trans (hB1.mono hb1.size))
  have HBX := Lib.hid hbx1
  have hs1 : w.heap.size + 1 < w1.heap.size := hbx1.lt
  have c1b := hbx1.cell
  have c1f := hbx1.frozen
  have c1n := (Boxed.set (.slice none 0 0) hbx1).cell
  have HGE := Lib.hid (grownBy_setCell' w1 (w.heap.size + 1) (.slice none 0 0))
  have HBE := Lib.hid (HB1.out.grown HGE.out (by omega) (fun j e => by cases e; omega))
  clear hB1 hb1 hbx HRC cb hbx1
  by_cases h0 : E = 0
  case neg =>
    have hd0 : decide (E = 0) = false := by simp; omega
    have hd0' : (E != 0) = true := by simpa using h0
    have HSE : Hid (setE t d x = E) := Lib.hid (by
      have : chgE t d false = E := by unfold chgE; rw [if_neg (by rw [← HE.out]; exact h0)]; exact HE.out.symm
      unfold setE; rw [if_neg (by rw [this]; exact h0)]; exact this)
    have HSL : Hid (setL t d x = []) := Lib.hid (by unfold setL; rw [if_neg (by rw [HSE.out]; exact h0)])
    clear h0
    go_wp2_with fail
    refine bodyPost_ret (v := .tuple #[.agg #[.slice none 0 0], .int .i64 E]) (by simp [results, Try.results22, go_sem, c1n]) rfl ?_
    exact ⟨_, by rw [HSE.out], by rw [HSL.out]; exact nodes_nil _, HBE.out⟩
  subst h0
  by_cases hd : 0 ≤ d ∧ d < 512
  case neg =>
    have HDV := Lib.hid (device_ok d)
    rw [decide_eq_false hd] at HDV
    have HSE : Hid (setE t d x = 200) := Lib.hid (by
      have : chgE t d false = 200 := by unfold chgE; rw [if_pos HE.out.symm, if_pos (by omega)]
      unfold setE; rw [if_neg (by rw [this]; decide)]; exact this)
    have HSL : Hid (setL t d x = []) := Lib.hid (by unfold setL; rw [if_neg (by rw [HSE.out]; decide)])
    clear hd
    go_wp2_with fail
    refine (HDV.out w1).mono ?_
    rintro e w2 ⟨rfl, hw⟩
    rw [hw]
    clear hw
    go_wp2_with fail
    refine bodyPost_ret (v := .tuple #[.agg #[.slice none 0 0], .int .i64 200]) (by simp [results, Try.results22, go_sem, c1n]) rfl ?_
    exact ⟨_, by rw [HSE.out], by rw [HSL.out]; exact nodes_nil _, HBE.out⟩
  have HDV := Lib.hid (device_ok d)
  rw [decide_eq_true hd] at HDV
  have HCE : Hid (chgE t d false = 0) := Lib.hid (by
    unfold chgE; rw [if_pos HE.out.symm, if_neg]
    rintro (h | h | ⟨h, -⟩)
    · omega
    · omega
    · cases h)
  go_wp2_with fail
  refine (HDV.out w1).mono ?_
  rintro e w2 ⟨rfl, hw⟩
  rw [hw]
  clear hw
  clear HDV
  have HRG := Lib.hid (rgcheck_ok x)
  by_cases hck : chkE x = 0
  case neg =>
    have HSE : Hid (setE t d x = 50) := Lib.hid (by unfold setE; rw [if_pos HCE.out, if_neg hck])
    have HSL : Hid (setL t d x = []) := Lib.hid (by unfold setL; rw [if_neg (by rw [HSE.out]; decide)])
    have hcd : chkE x = 40 := chkE_no (fun h => hck (chkE_yes h))
    rw [hcd] at HRG
    clear hck hcd hd
    go_wp2_with fail
    refine (HRG.out _).mono ?_
    rintro e w3 ⟨rfl, hw⟩
    rw [← hw]
    clear hw
    go_wp2_with fail
    refine bodyPost_ret (v := .tuple #[.agg #[.slice none 0 0], .int .i64 50]) (by simp [results, Try.results22, go_sem, c1n]) rfl ?_
    exact ⟨_, by rw [HSE.out], by rw [HSL.out]; exact nodes_nil _, HBE.out⟩
  have HSE : Hid (setE t d x = 0) := Lib.hid (by unfold setE; rw [if_pos HCE.out, if_pos hck])
  have HSL : Hid (setL t d x = withL (512 + d, x) (withoutL t d)) := Lib.hid (by unfold setL; rw [if_pos HSE.out])
  rw [hck] at HRG
  clear hck c1n HGE HBE
  go_wp2_with fail
  refine (HRG.out _).mono ?_
  rintro e w3 ⟨rfl, hw⟩
  rw [← hw]
  clear hw
  clear HRG
  have HWO := Lib.hid (without_ok t v d w1 (HT.out.below HB1.out) (by have := HL.out; omega) hd.1 hd.2)
  go_wp2_with fail
  refine HWO.out.mono ?_
  rintro e w2 ⟨u1, rfl, hr2, hB2⟩
  have HN2 : Hid (NodesAt w2 u1 (withoutL t d)) := Lib.hid (nodes_of_row hr2 (withoutL_wf HWF.out))
  have HB2 := Lib.hid (HB1.out.trans (hB2.mono HB1.out.size))
  have HBX2 : Hid (Boxed w2 (w.heap.size + 1) 24 (.slice none 0 0)) := Lib.hid ((hB2.block _ HBX.out.lt).trans HBX.out)
  have hs2 := hB2.size
  have hz : IntKind.i64.wrap (512 + d) = 512 + d := by rw [IntKind.wrap_i64]; omega
  have HI : Hid (I64 (512 + d)) := Lib.hid (I64.of (by omega))
  have HWI := Lib.hid (with_ok (withoutL t d) u1 (512 + d) x w2 HN2.out (by have h := withoutL_length t d; have := HL.out; omega))
  clear hr2 hB2 HWO hd c1b c1f HBX cb1
  go_wp2_with fail
  refine HWI.out.mono ?_
  rintro e w3 ⟨u2, rfl, hr3, hB3⟩
  have hbx3 : Boxed w3 (w.heap.size + 1) 24 (.slice none 0 0) := (hB3.block _ (by omega)).trans HBX2.out
  obtain ⟨q, cq, rfl⟩ := node_form hr3
  have HR3 := Lib.hid hr3
  have HB3 := Lib.hid (HB2.out.trans (hB3.mono HB2.out.size))
  have hs3 := hB3.size
  have c3 := hbx3.cell
  have c3f := hbx3.frozen
  have HGE := Lib.hid (grownBy_setCell' w3 (w.heap.size + 1) (.slice q (withL (512 + d, x) (withoutL t d)).length cq))
  have HBE := Lib.hid (HB3.out.grown HGE.out (by omega) (fun j e => by cases e; omega))
  have HRE := Lib.hid (ownsRow_setCell_below HR3.out (a := ⟨w.heap.size + 1, 0, none⟩) (by show w.heap.size + 1 < w2.heap.size; omega) (.slice q (withL (512 + d, x) (withoutL t d)).length cq))
  have c1n := (Boxed.set (.slice q (withL (512 + d, x) (withoutL t d)).length cq) hbx3).cell
  clear hr3 hB3 HWI hbx3
  go_wp2_with fail
  refine bodyPost_ret (v := .tuple #[.agg #[.slice q (withL (512 + d, x) (withoutL t d)).length cq], .int .i64 0]) (by simp [results, Try.results22, go_sem, c1n]) rfl ?_
  refine ⟨_, by rw [HSE.out], ?_, HBE.out⟩
  rw [HSL.out]
  refine nodes_of_row HRE.out (fun e he => ?_)
  rcases withL_mem he with rfl | he
  · exact ⟨HI.out, HX.out⟩
  · exact withoutL_wf HWF.out e he
end Go.Proofs.Ytekdekchbnacgaa
