/- Package keytree: Remove. -/
import Derived.Test.YtekdekchbnacgaaKw
namespace Go.Proofs.Ytekdekchbnacgaa
open Go.RowKit
set_option maxRecDepth 100000
set_option linter.unusedVariables false
set_option linter.unusedSimpArgs false

/-- The map behind Remove. -/
def remM (t : List (Int × Int)) (d : Int) : Int → Option Int := delF (ofF t) ((512 + d) :: pathZ d)
theorem remM_keys {t : List (Int × Int)} {d : Int} {xs : List Int} (h : KeysOf (remM t d) xs) : xs.length ≤ t.length := by
  have hs : xs ⊆ t.map (·.1) := by
    intro y hy
    obtain ⟨-, h2⟩ := h.2.1 y hy
    obtain ⟨v, hv⟩ := Option.isSome_iff_exists.1 h2
    exact List.mem_map.2 ⟨_, ofF_mem (delF_some hv).1, rfl⟩
  have := h.1.length_le_of_subset hs
  simpa using this
theorem remM_val {t : List (Int × Int)} {d : Int} (hwf : ∀ e ∈ t, I64 e.1 ∧ I64 e.2) : ∀ y v, I64 y → remM t d y = some v → I64 v :=
  fun y v _ h => (hwf _ (ofF_mem (delF_some h).1)).2

/-- What Remove leaves. -/
def RemP (t : List (Int × Int)) (d : Int) (w : World) (E : Int) (e : Ending) (w' : World) : Prop :=
  Below w.heap.size w w' ∧ (E ≠ 0 → e = .returned (.tuple #[.agg #[.slice none 0 0], .int .i64 E])) ∧
  (E = 0 → ∃ v xs, e = .returned (.tuple #[.agg #[v], .int .i64 0]) ∧ KeysOf (remM t d) xs ∧ NodesAt w' v (nodesL (remM t d) (xs.mergeSort leI)))

set_option maxHeartbeats 2000000 in
theorem remove_ok (t : List (Int × Int)) (v : Value) (d : Int) (w : World) (ht : NodesAt w v t) (hl : t.length ≤ 900000) (hd : I64 d) :
    Calls Try.prog 23 #[.agg #[v], .int .i64 d] w fun e w' => RemP t d w (chgE t d true) e w' := by
  have hwf : ∀ e ∈ t, I64 e.1 ∧ I64 e.2 := by obtain ⟨p, c, -, -, -, -, h⟩ := ht; exact h
  have hb1 : Below w.heap.size w ((w.alloc (.cells #[v] 24)).alloc (.cells #[.slice none 0 0] 24)) := ((Below.refl _ w).alloc (Nat.le_refl _) _).alloc (by simp) _
  have HCH := Lib.hid (change_ok t v d true ((w.alloc (.cells #[v] 24)).alloc (.cells #[.slice none 0 0] 24)) (ht.below hb1) (by omega) hd)
  have hbx : Boxed ((w.alloc (.cells #[v] 24)).alloc (.cells #[.slice none 0 0] 24)) (w.heap.size + 1) 24 (.slice none 0 0) := by
    have h := World.alloc_heap_new (w.alloc (.cells #[v] 24)) (.cells #[.slice none 0 0] 24)
    rw [World.size_alloc] at h
    exact h
  have HWF := Lib.hid hwf
  have HL := Lib.hid hl
  obtain ⟨E, hE⟩ : ∃ E, E = chgE t d true := ⟨_, rfl⟩
  rw [← hE] at HCH
  rw [← hE]
  clear ht hl hE hwf hd
  go_enter Try.func23, Try.ntmps23
  go_wp2_with fail
  obtain ⟨W0, hW0⟩ : ∃ W0, W0 = (w.alloc (.cells #[v] 24)).alloc (.cells #[.slice none 0 0] 24) := ⟨_, rfl⟩
  rw [← hW0] at HCH hbx hb1 ⊢
  clear hW0
  refine HCH.out.mono ?_
  rintro e w1 ⟨hB1, he0, he1⟩
  have hbx1 : Boxed w1 (w.heap.size + 1) 24 (.slice none 0 0) := (hB1.block _ hbx.lt).trans hbx
  have HB1 := Lib.hid (hb1.trans (hB1.mono hb1.size))
  have HBX := Lib.hid hbx1
  have hs1 : w.heap.size + 1 < w1.heap.size := hbx1.lt
  by_cases h0 : E = 0
  · obtain ⟨b, p, c, rfl, hbl, hM, -⟩ := he1 h0
    have HM : Hid (KMap (intK Try.underlying3) 3 w1 b t.length (remM t d)) := Lib.hid hM
    subst h0
    clear he0 he1 hB1 hb1 hbx hbx1 HCH hM hbl
    go_wp2_with fail
    refine (tree_ok b t.length (remM t d) w1 HM.out (by have := HL.out; omega) (fun xs h => Nat.le_trans (remM_keys h) (by have := HL.out; omega)) (remM_val HWF.out)).mono ?_
    rintro e w4 ⟨v', xs, rfl, hks, ⟨hrow, hwf4⟩, hB4⟩
    obtain ⟨q, cq, rfl⟩ := node_form hrow
    have HBX4 : Hid (Boxed w4 (w.heap.size + 1) 24 (.slice none 0 0)) := Lib.hid ((hB4.block _ (by omega)).trans HBX.out)
    have HB4 := Lib.hid (HB1.out.trans (hB4.mono HB1.out.size))
    have HKS := Lib.hid hks
    have HROW := Lib.hid hrow
    have HWF4 := Lib.hid hwf4
    have hs4 := hB4.size
    have cb := HBX4.out.cell
    have cf := HBX4.out.frozen
    clear hks hrow hwf4 hB4
    go_wp2_with fail
    have HGS := Lib.hid (grownBy_setCell' w4 (w.heap.size + 1) (.slice q (nodesL (remM t d) (xs.mergeSort leI)).length cq))
    have cb5 := (Boxed.set (.slice q (nodesL (remM t d) (xs.mergeSort leI)).length cq) HBX4.out).cell
    refine bodyPost_ret (v := .tuple #[.agg #[.slice q (nodesL (remM t d) (xs.mergeSort leI)).length cq], .int .i64 0]) (by simp [results, Try.results23, go_sem, cb5]) rfl ?_
    refine ⟨HB4.out.grown HGS.out (by have := HB4.out.size; omega) (fun j e => by cases e; omega), fun h => absurd rfl h, fun _ => ⟨_, xs, rfl, HKS.out, ?_⟩⟩
    exact nodes_of_row (B := w1.heap.size) (ownsRow_setCell_below HROW.out (a := ⟨w.heap.size + 1, 0, none⟩) (by show w.heap.size + 1 < w1.heap.size; omega) _) HWF4.out
  · obtain rfl := he0 h0
    have HE0 := Lib.hid h0
    clear he0 he1 hB1 hb1 hbx hbx1 HCH h0
    go_wp2_with fail
    refine (tree_none w1).mono ?_
    rintro e w4 ⟨rfl, hB4⟩
    have HBX4 : Hid (Boxed w4 (w.heap.size + 1) 24 (.slice none 0 0)) := Lib.hid ((hB4.block _ (by omega)).trans HBX.out)
    have HB4 := Lib.hid (HB1.out.trans (hB4.mono HB1.out.size))
    have cb := HBX4.out.cell
    have cf := HBX4.out.frozen
    clear hB4
    go_wp2_with fail
    have cb5 := (Boxed.set (.slice none 0 0) HBX4.out).cell
    refine bodyPost_ret (v := .tuple #[.agg #[.slice none 0 0], .int .i64 E]) (by simp [results, Try.results23, go_sem, cb5]) rfl ?_
    exact ⟨HB4.out.grown (grownBy_setCell' w4 (w.heap.size + 1) _) (by have := HB4.out.size; omega) (fun j e => by cases e; omega), fun _ => rfl, fun h => absurd h HE0.out⟩
end Go.Proofs.Ytekdekchbnacgaa
