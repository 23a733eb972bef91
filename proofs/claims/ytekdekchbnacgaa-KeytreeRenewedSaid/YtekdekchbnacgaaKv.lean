/- Package keytree: Set. -/
import Derived.Test.YtekdekchbnacgaaKu
namespace Go.Proofs.Ytekdekchbnacgaa
open Go.RowKit
set_option maxRecDepth 100000
set_option linter.unusedVariables false
set_option linter.unusedSimpArgs false

theorem ofF_mem {t : List (Int × Int)} {x v : Int} (h : ofF t x = some v) : (x, v) ∈ t := by
  unfold ofF at h
  cases hf : t.find? (fun y => y.1 == x) with
  | none => rw [hf] at h; cases h
  | some y =>
    rw [hf] at h
    have h1 := List.find?_some hf
    have h2 := List.mem_of_find?_eq_some hf
    obtain ⟨a, b⟩ := y
    simp at h h1
    subst h; subst h1
    exact h2
/-- The map behind Set. -/
def setM (t : List (Int × Int)) (d x : Int) (y : Int) : Option Int := if y = 512 + d then some x else delF (ofF t) ((512 + d) :: pathZ d) y
theorem delF_some {f : Int → Option Int} {L : List Int} {y v : Int} (h : delF f L y = some v) : f y = some v ∧ y ∉ L := by
  unfold delF at h
  split at h
  · cases h
  · exact ⟨h, by assumption⟩
theorem setM_keys {t : List (Int × Int)} {d x : Int} {xs : List Int} (h : KeysOf (setM t d x) xs) : xs.length ≤ t.length + 1 := by
  have hs : xs ⊆ (512 + d) :: t.map (·.1) := by
    intro y hy
    obtain ⟨-, h2⟩ := h.2.1 y hy
    by_cases e : y = 512 + d
    · rw [e]; exact List.mem_cons_self ..
    · unfold setM at h2
      rw [if_neg e] at h2
      obtain ⟨v, hv⟩ := Option.isSome_iff_exists.1 h2
      exact List.mem_cons_of_mem _ (List.mem_map.2 ⟨_, ofF_mem (delF_some hv).1, rfl⟩)
  have := h.1.length_le_of_subset hs
  simpa using this
theorem setM_val {t : List (Int × Int)} {d x : Int} (hwf : ∀ e ∈ t, I64 e.1 ∧ I64 e.2) (hx : I64 x) : ∀ y v, I64 y → setM t d x y = some v → I64 v := by
  intro y v _ h
  unfold setM at h
  split at h
  · cases h; exact hx
  · exact (hwf _ (ofF_mem (delF_some h).1)).2

theorem chgE_range {t : List (Int × Int)} {d : Int} {m : Bool} (h : chgE t d m = 0) : 0 ≤ d ∧ d < 512 := by
  unfold chgE at h
  split at h
  · split at h
    · exact absurd h (by decide)
    · omega
  · rename_i h'; exact absurd h h'
/-- What Set answers: the error. -/
noncomputable def setE (t : List (Int × Int)) (d x : Int) : Int := if chgE t d false = 0 then (if chkE x = 0 then 0 else 50) else chgE t d false
/-- What Set leaves. -/
def SetP (t : List (Int × Int)) (d x : Int) (w : World) (E : Int) (e : Ending) (w' : World) : Prop :=
  Below w.heap.size w w' ∧ (E ≠ 0 → e = .returned (.tuple #[.agg #[.slice none 0 0], .int .i64 E])) ∧
  (E = 0 → ∃ v xs, e = .returned (.tuple #[.agg #[v], .int .i64 0]) ∧ KeysOf (setM t d x) xs ∧ NodesAt w' v (nodesL (setM t d x) (xs.mergeSort leI)))

set_option maxHeartbeats 2000000 in
theorem set_ok (t : List (Int × Int)) (v : Value) (d x : Int) (w : World) (ht : NodesAt w v t) (hl : t.length ≤ 900000) (hd : I64 d) (hx : I64 x) :
    Calls Try.prog 21 #[.agg #[v], .int .i64 d, .int .i64 x] w fun e w' => SetP t d x w (setE t d x) e w' := by
  have hwf : ∀ e ∈ t, I64 e.1 ∧ I64 e.2 := by obtain ⟨p, c, -, -, -, -, h⟩ := ht; exact h
  have hb1 : Below w.heap.size w ((w.alloc (.cells #[v] 24)).alloc (.cells #[.slice none 0 0] 24)) := ((Below.refl _ w).alloc (Nat.le_refl _) _).alloc (by simp) _
  have HCH := Lib.hid (change_ok t v d false ((w.alloc (.cells #[v] 24)).alloc (.cells #[.slice none 0 0] 24)) (ht.below hb1) (by omega) hd)
  have hbx : Boxed ((w.alloc (.cells #[v] 24)).alloc (.cells #[.slice none 0 0] 24)) (w.heap.size + 1) 24 (.slice none 0 0) := by
    have h := World.alloc_heap_new (w.alloc (.cells #[v] 24)) (.cells #[.slice none 0 0] 24)
    rw [World.size_alloc] at h
    exact h
  have HWF := Lib.hid hwf
  have HX := Lib.hid hx
  have HL := Lib.hid hl
  obtain ⟨E, hE⟩ : ∃ E, E = chgE t d false := ⟨_, rfl⟩
  have HE := Lib.hid hE
  rw [← hE] at HCH
  clear ht hl hE hwf hx hd
  go_enter Try.func21, Try.ntmps21
  go_wp2_with fail
  obtain ⟨W0, hW0⟩ : ∃ W0, W0 = (w.alloc (.cells #[v] 24)).alloc (.cells #[.slice none 0 0] 24) := ⟨_, rfl⟩
  rw [← hW0] at HCH hbx hb1 ⊢
  clear hW0
  refine HCH.out.mono ?_
  rintro e w1 ⟨hB1, he0, he1⟩
  have hbx1 : Boxed w1 (w.heap.size + 1) 24 (.slice none 0 0) := (hB1.block _ hbx.lt).trans hbx
  have HB1 := Lib.hid (hb1.trans (hB1.mono hb1.size))
  have HBX := Lib.hid hbx1
  have hs1 : w.heap.size + 1 < w1.heap.size := hbx1.lt
  by_cases h0 : E = 0
  · obtain ⟨b, p, c, rfl, hbl, hM, -⟩ := he1 h0
    have HM := Lib.hid hM
    have hbw : w.heap.size + 1 < b := Nat.lt_of_lt_of_le hbx.lt hbl
    clear he0 he1 hB1 hb1 hbx hbx1 HCH hM hbl
    have hrg := chgE_range (HE.out.symm.trans h0)
    have HZ : Hid (I64 (512 + d)) := Lib.hid (I64.of (x := 512 + d) (by omega))
    have hwr : IntKind.i64.wrap (512 + d) = 512 + d := by rw [IntKind.wrap_i64]; omega
    subst h0
    obtain ⟨d0, d1⟩ := hrg
    go_wp2_with fail
    refine (gcheck_ok x w1).mono ?_
    rintro e w2 ⟨rfl, hB2⟩
    have HM2 := Lib.hid (HM.out.below hB2 HM.out.lt)
    have HBX2 : Hid (Boxed w2 (w.heap.size + 1) 24 (.slice none 0 0)) := Lib.hid ((hB2.block _ HBX.out.lt).trans HBX.out)
    have hs2 := hB2.size
    have HB2 := Lib.hid (HB1.out.trans (hB2.mono HB1.out.size))
    obtain ⟨ck, hck⟩ : ∃ ck, ck = chkE x := ⟨_, rfl⟩
    rw [← hck]
    have HCK := Lib.hid hck
    clear hB2 hck HM HB1
    by_cases h1 : ck = 0
    · subst h1
      go_wp2_with (at_mapUpdate; refine wpList_put (E := intK Try.underlying3) rfl _ _ _ 59 rfl Try.underlying3 Try.underlying59 b _ _ rfl HM2.out (by have := HL.out; unfold maxLen; omega) (512 + d) rfl HZ.out x rfl HX.out ?_; intro w3 hm3 ht3; have HM3 := Lib.hid hm3; have HT3 := Lib.hid ht3; have hs3 := ht3.grown.size; clear hm3 ht3)
      have HBX3 : Hid (Boxed w3 (w.heap.size + 1) 24 (.slice none 0 0)) := Lib.hid ((HT3.out.grown.block _ (by omega) (by simp; omega)).trans HBX2.out)
      have HB3 := Lib.hid (HB2.out.grown HT3.out.grown (by have := HB2.out.size; omega) (fun j e => by cases e; omega))
      refine (tree_ok b (t.length + 1) (setM t d x) w3 HM3.out (by have := HL.out; omega) (fun xs h => Nat.le_trans (setM_keys h) (by have := HL.out; omega)) (setM_val HWF.out HX.out)).mono ?_
      rintro e w4 ⟨v', xs, rfl, hks, ⟨hrow, hwf4⟩, hB4⟩
      obtain ⟨q, cq, rfl⟩ := node_form hrow
      have HBX4 : Hid (Boxed w4 (w.heap.size + 1) 24 (.slice none 0 0)) := Lib.hid ((hB4.block _ (by omega)).trans HBX3.out)
      have HB4 := Lib.hid (HB3.out.trans (hB4.mono HB3.out.size))
      have HKS := Lib.hid hks
      have HROW := Lib.hid hrow
      have HWF4 := Lib.hid hwf4
      have hs4 := hB4.size
      have cb := HBX4.out.cell
      have cf := HBX4.out.frozen
      have hE0 : setE t d x = 0 := by unfold setE; rw [if_pos HE.out.symm, if_pos HCK.out.symm]
      have HE0 := Lib.hid hE0
      clear hks hrow hwf4 hB4 hE0
      go_wp2_with fail
      have HGS := Lib.hid (grownBy_setCell' w4 (w.heap.size + 1) (.slice q (nodesL (setM t d x) (xs.mergeSort leI)).length cq))
      have cb5 := (Boxed.set (.slice q (nodesL (setM t d x) (xs.mergeSort leI)).length cq) HBX4.out).cell
      refine bodyPost_ret (v := .tuple #[.agg #[.slice q (nodesL (setM t d x) (xs.mergeSort leI)).length cq], .int .i64 0]) (by simp [results, Try.results21, go_sem, cb5]) rfl ?_
      refine ⟨HB4.out.grown HGS.out (by have := HB4.out.size; omega) (fun j e => by cases e; omega), fun h => absurd HE0.out h, fun _ => ⟨_, xs, rfl, HKS.out, ?_⟩⟩
      exact nodes_of_row (B := w3.heap.size) (ownsRow_setCell_below HROW.out (a := ⟨w.heap.size + 1, 0, none⟩) (by show w.heap.size + 1 < w3.heap.size; omega) _) HWF4.out
    · have hd1 : decide (ck = 0) = false := by simp; omega
      have cb := HBX2.out.cell
      have cf := HBX2.out.frozen
      have cb5 := (Boxed.set (.slice none 0 0) HBX2.out).cell
      have HE0 : Hid (setE t d x = 50) := Lib.hid (by unfold setE; rw [if_pos HE.out.symm, if_neg (by rw [← HCK.out]; exact h1)])
      go_wp2_with fail
      refine bodyPost_ret (v := .tuple #[.agg #[.slice none 0 0], .int .i64 50]) (by simp [results, Try.results21, go_sem, cb5]) rfl ?_
      exact ⟨HB2.out.grown (grownBy_setCell' w2 (w.heap.size + 1) _) (by have := HB2.out.size; omega) (fun j e => by cases e; omega), fun _ => by rw [HE0.out], fun h => absurd (HE0.out.symm.trans h) (by decide)⟩
  · obtain rfl := he0 h0
    have hd0 : decide (E = 0) = false := by simp; omega
    have cb := hbx1.cell
    have cf := hbx1.frozen
    have cb5 := (Boxed.set (.slice none 0 0) hbx1).cell
    clear he0 he1 hB1 hb1 hbx hbx1 HCH
    go_wp2_with fail
    have HE0 : Hid (setE t d x = E) := Lib.hid (by unfold setE; rw [if_neg (by rw [← HE.out]; exact h0)]; exact HE.out.symm)
    refine bodyPost_ret (v := .tuple #[.agg #[.slice none 0 0], .int .i64 E]) (by simp [results, Try.results21, go_sem, cb5]) rfl ?_
    exact ⟨HB1.out.grown (grownBy_setCell' w1 (w.heap.size + 1) _) (by have := HB1.out.size; omega) (fun j e => by cases e; omega), fun _ => by rw [HE0.out], fun h => absurd (HE0.out.symm.trans h) h0⟩
end Go.Proofs.Ytekdekchbnacgaa
