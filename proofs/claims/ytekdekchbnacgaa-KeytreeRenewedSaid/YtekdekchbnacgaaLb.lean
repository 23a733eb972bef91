/- Package keytree: the walk of Renew. -/
import Derived.Test.YtekdekchbnacgaaLa
namespace Go.Proofs.Ytekdekchbnacgaa
open Go.RowKit
set_option maxRecDepth 100000
set_option linter.unusedVariables false
set_option linter.unusedSimpArgs false

theorem KMap.no_cell {P : Program} {k e : TypeId} {α : Type} {E : EKind P e α} {w : World} {b n : Nat} {f : Int → Option α} (h : KMap E k w b n f) {j : Nat} {v : Value} : w.cell? ⟨b, j, none⟩ ≠ some v := by
  obtain ⟨D, ⟨es, clock, h1, _⟩, _⟩ := h
  unfold World.cell?
  rw [h1]
  simp
noncomputable def renE (t : List (Int × Int)) (d : Int) (l : List Int) : Int := by classical exact if chgE t d true = 0 then (if l.length = 10 ∧ AllOk l then 0 else 50) else chgE t d true

/-- What Renew leaves. -/
def RenP (t : List (Int × Int)) (d : Int) (l : List Int) (w : World) (E : Int) (e : Ending) (w' : World) : Prop :=
  Below w.heap.size w w' ∧ (E ≠ 0 → e = .returned (.tuple #[.agg #[.slice none 0 0], .int .i64 E])) ∧
  (E = 0 → ∃ v xs, e = .returned (.tuple #[.agg #[v], .int .i64 0]) ∧ KeysOf (renM t d l 9) xs ∧ NodesAt w' v (nodesL (renM t d l 9) (xs.mergeSort leI)))

set_option maxHeartbeats 2000000 in
theorem renew_ok (t : List (Int × Int)) (v : Value) (d : Int) (l : List Int) (u : Value) (w : World) (ht : NodesAt w v t) (hl : t.length ≤ 900000) (hd : I64 d) (hu : IntsAt w u l) (hll : l.length ≤ 1000000) (hli : ∀ j, I64 (l.getD j 0)) :
    Calls Try.prog 25 #[.agg #[v], .int .i64 d, u] w fun e w' => RenP t d l w (renE t d l) e w' := by
  have hwf : ∀ e ∈ t, I64 e.1 ∧ I64 e.2 := by obtain ⟨p, c, -, -, -, -, h⟩ := ht; exact h
  obtain ⟨pl, cl, rfl, hcl, hcs⟩ := hu
  have hb1 : Below w.heap.size w ((w.alloc (.cells #[v] 24)).alloc (.cells #[.slice none 0 0] 24)) := ((Below.refl _ w).alloc (Nat.le_refl _) _).alloc (by simp) _
  have HCH := Lib.hid (change_ok t v d true ((w.alloc (.cells #[v] 24)).alloc (.cells #[.slice none 0 0] 24)) (ht.below hb1) (by omega) hd)
  have hbx : Boxed ((w.alloc (.cells #[v] 24)).alloc (.cells #[.slice none 0 0] 24)) (w.heap.size + 1) 24 (.slice none 0 0) := by
    have h := World.alloc_heap_new (w.alloc (.cells #[v] 24)) (.cells #[.slice none 0 0] 24)
    rw [World.size_alloc] at h
    exact h
  have HWF := Lib.hid hwf
  have HL := Lib.hid hl
  have HCS := Lib.hid hcs
  have HLI := Lib.hid hli
  have HLL := Lib.hid hll
  obtain ⟨E, hE⟩ : ∃ E, E = chgE t d true := ⟨_, rfl⟩
  have HE := Lib.hid hE
  rw [← hE] at HCH
  clear ht hl hE hwf hd hcs hli hll
  go_enter Try.func25, Try.ntmps25
  go_wp2_with fail
  obtain ⟨W0, hW0⟩ : ∃ W0, W0 = (w.alloc (.cells #[v] 24)).alloc (.cells #[.slice none 0 0] 24) := ⟨_, rfl⟩
  rw [← hW0] at HCH hbx hb1 ⊢
  clear hW0
  refine HCH.out.mono ?_
  rintro e w1 ⟨hB1, he0, he1⟩
  have hbx1 : Boxed w1 (w.heap.size + 1) 24 (.slice none 0 0) := (hB1.block _ hbx.lt).trans hbx
  have HB1 := Lib.hid (hb1.trans (hB1.mono hb1.size))
  have HBX := Lib.hid hbx1
  have hs1 : w.heap.size + 1 < w1.heap.size := hbx1.lt
  by_cases h0 : E = 0
  · obtain ⟨b, p, c, rfl, hbl, hM, hrow⟩ := he1 h0
    have HM := Lib.hid hM
    have hbw : w.heap.size + 1 < b := Nat.lt_of_lt_of_le hbx.lt hbl
    have hrg := chgE_range (HE.out.symm.trans h0)
    have HZ : Hid (I64 (512 + d)) := Lib.hid (I64.of (x := 512 + d) (by omega))
    have hwr : IntKind.i64.wrap (512 + d) = 512 + d := by rw [IntKind.wrap_i64]; omega
    have HROW := Lib.hid hrow
    have HE0 : Hid (∀ z, (l.length = 10 ∧ AllOk l → z = 0) → (¬ (l.length = 10 ∧ AllOk l) → z = 50) → renE t d l = z) := Lib.hid (fun z h1 h2 => by
      unfold renE
      rw [if_pos (HE.out.symm.trans h0)]
      by_cases h : l.length = 10 ∧ AllOk l
      · rw [if_pos h, h1 h]
      · rw [if_neg h, h2 h])
    subst h0
    obtain ⟨d0, d1⟩ := hrg
    have hbw1 : b < w1.heap.size := hM.lt
    clear he0 he1 hB1 hb1 hbx hbx1 HCH hM hbl hrow
    by_cases h10 : l.length = 10
    · obtain ⟨gl, ol, rfl, hcells⟩ := HCS.out (by omega)
      have HCL := Lib.hid hcells
      have HIA : Hid (IntsAt w1 (.slice (some ⟨gl, ol, none⟩) l.length cl) l) := Lib.hid ⟨_, cl, rfl, hcl, fun _ => ⟨gl, ol, rfl, fun j hj => cellOld (hcells j hj) (HB1.out.block gl (cellLt (hcells j hj)))⟩⟩
      have HCF := Lib.hid (containsFunc_ok l _ w1 HIA.out HLL.out)
      have H10 := Lib.hid h10
      rw [h10] at HCF hcl ⊢
      clear hcells h10
      go_wp2_with fail
      refine HCF.out.mono ?_
      rintro e w2 ⟨bb, rfl, hbb, hB2⟩
      have HBX2 : Hid (Boxed w2 (w.heap.size + 1) 24 (.slice none 0 0)) := Lib.hid ((hB2.block _ (by omega)).trans HBX.out)
      have HM2 := Lib.hid (HM.out.below hB2 hbw1)
      have hs2 := hB2.size
      have HB2 := Lib.hid (HB1.out.trans (hB2.mono HB1.out.size))
      have HROW2 := Lib.hid (hB2)
      clear hB2
      by_cases hok : AllOk l
      · obtain rfl := hbb.out.1 hok
        have HR := Lib.hid (HE0.out 0 (fun _ => rfl) (fun h => absurd ⟨H10.out, hok⟩ h))
        clear hbb hok
        have HCE : Hid (∀ j, j < 10 → w2.cell? ⟨gl, ol + j, none⟩ = some (.int .i64 (l.getD j 0))) := Lib.hid fun j hj => cellOld (HCL.out j (by rw [H10.out]; exact hj)) (HB2.out.block gl (cellLt (HCL.out j (by rw [H10.out]; exact hj))))
        have hglw : gl < w.heap.size := cellLt (HCL.out 0 (by rw [H10.out]; omega))
        have cl0 : w2.cell? ⟨gl, ol, none⟩ = some (.int .i64 (l.getD 0 0)) := HCE.out 0 (by omega)
        have HPL := Lib.hid (pathZ_length d d0 d1)
        have HPB := Lib.hid (pathZ_bd d d0 d1)
        have hgl2 : gl < w2.heap.size := by omega
        have hrow9 : w1.ownsRow W0.heap.size 3 1 (.slice p 9 c) (pathZ d).length ((pathZ d).map (Value.int .i64)) := by rw [HPL.out]; exact HROW.out
        obtain ⟨p', c', hpe, -, hpc⟩ := ints_form hrow9
        rw [HPL.out] at hpe hpc
        cases hpe
        obtain ⟨g2, rfl, hg21, hg22, hcs2⟩ := hpc (by omega)
        have HC2 := Lib.hid hcs2
        have hgb : g2 ≠ b := fun e => by have h := hcs2 0 (by omega); rw [e] at h; exact KMap.no_cell HM.out h
        clear hrow9 hpc hcs2
        go_wp2_with (at_mapUpdate; refine wpList_put (E := intK Try.underlying3) rfl _ _ _ 59 rfl Try.underlying3 Try.underlying59 b _ _ rfl HM2.out (by have := HL.out; unfold maxLen; omega) (512 + d) rfl HZ.out (l.getD 0 0) rfl (HLI.out 0) ?_; intro w3 hm3 ht3; have HM3 := Lib.hid hm3; have HT3 := Lib.hid ht3; have hs3 := ht3.grown.size; clear hm3 ht3)
        have HB3 : Hid (Below w.heap.size w w3) := Lib.hid (HB2.out.grown HT3.out.grown (by have := HB2.out.size; omega) (fun j e => by cases e; omega))
        have HM30 : Hid (KMap (intK Try.underlying3) 3 w3 b (t.length + 1 + 0) (renM t d l 0)) := Lib.hid HM3.out
        have hs23 : w2.heap.size ≤ w3.heap.size := hs3
        have hw12 : w1.heap.size ≤ w2.heap.size := hs2
        go_wp2_with fail
        go_loopw [39] (fun i wr => ∃ j : Nat, i = .int .i64 j ∧ j ≤ 9 ∧ Hid (KMap (intK Try.underlying3) 3 wr b (t.length + 1 + j) (renM t d l j)) ∧ Hid (Below w.heap.size w wr) ∧ Hid (∀ k, k < w3.heap.size → k ≠ b → wr.heap[k]? = w3.heap[k]?) ∧ w3.heap.size ≤ wr.heap.size) (fun i _ => 9 - (intOf i).toNat)
        case atStart => exact ⟨0, rfl, Nat.zero_le _, HM30, HB3, Lib.hid (fun _ _ _ => rfl), Nat.le_refl _⟩
        case round =>
          obtain ⟨j, rfl, hj, HMr, HBr, HKr, hszr⟩ := hrel
          by_cases hlt9 : j < 9
          · have hd9 : decide ((j : Int) < 9) = true := by simp; omega
            have cy : wr.cell? ⟨g2, j, none⟩ = some (.int .i64 ((pathZ d).getD j 0)) := cellOld (cellOld (cellOld (HC2.out j hlt9) (HROW2.out.block g2 hg22)) (HT3.out.grown.block g2 (by omega) (by simpa using hgb))) (HKr.out g2 (by omega) hgb)
            have cz : wr.cell? ⟨gl, ol + (j + 1), none⟩ = some (.int .i64 (l.getD (j + 1) 0)) := cellOld (cellOld (HCE.out (j + 1) (by omega)) (HT3.out.grown.block gl (by omega) (by simp; omega))) (HKr.out gl (by omega) (by omega))
            have hjl : j < (pathZ d).length := by rw [HPL.out]; exact hlt9
            have hgy : (pathZ d).getD j 0 = (pathZ d)[j] := by simp [List.getD, hjl]
            have HIy : Hid (0 ≤ (pathZ d).getD j 0 ∧ (pathZ d).getD j 0 < 1024) := Lib.hid (by rw [hgy]; exact HPB.out _ (List.getElem_mem hjl))
            obtain ⟨y, hy⟩ : ∃ y, y = (pathZ d).getD j 0 := ⟨_, rfl⟩
            obtain ⟨z, hz⟩ : ∃ z, z = l.getD (j + 1) 0 := ⟨_, rfl⟩
            rw [← hy] at cy HIy
            rw [← hz] at cz
            have HI64 : Hid (I64 y) := Lib.hid (I64.of (x := y) (by have := HIy.out; omega))
            have HZ64 : Hid (I64 z) := Lib.hid (by rw [hz]; exact HLI.out _)
            have HY := Lib.hid hy
            have HZZ := Lib.hid hz
            have hgr2 : g2 < wr.heap.size := by omega
            have hgl3 : gl < wr.heap.size := by omega
            clear hjl hgy hy hz
            go_wp2_with (at_mapUpdate; refine wpList_put (E := intK Try.underlying3) rfl _ _ _ 59 rfl Try.underlying3 Try.underlying59 b _ _ rfl HMr.out (by have := HL.out; unfold maxLen; omega) y rfl HI64.out z rfl HZ64.out ?_; intro w5 hm5 ht5; have HM5 := Lib.hid hm5; have HT5 := Lib.hid ht5; have hs5 := ht5.grown.size; clear hm5 ht5)
            refine ⟨⟨j + 1, by go_num, by omega, Lib.hid ?_, Lib.hid (HBr.out.grown HT5.out.grown (by have := HBr.out.size; omega) (fun j e => by cases e; omega)), Lib.hid fun k hk hn => (HT5.out.grown.block k (by omega) (by simpa using hn)).trans (HKr.out k hk hn), by omega⟩, by simp only [intOf]; omega⟩
            refine KMap.congr HM5.out (fun x _ => ?_)
            show (if x = y then some z else renM t d l j x) = renM t d l (j + 1) x
            rw [HY.out, HZZ.out]
            rfl
          · have hd9 : decide ((j : Int) < 9) = false := by simp; omega
            obtain rfl : j = 9 := by omega
            have HBX3 : Hid (Boxed wr (w.heap.size + 1) 24 (.slice none 0 0)) := Lib.hid ((HKr.out _ (by omega) (by omega)).trans ((HT3.out.grown.block _ (by omega) (by simp; omega)).trans HBX2.out))
            have hwrs : w.heap.size + 1 < wr.heap.size := by omega
            go_wp2_with fail
            refine (tree_ok b (t.length + 1 + 9) (renM t d l 9) wr HMr.out (by have := HL.out; omega) (fun xs h => Nat.le_trans (renM_keys h) (by have := HL.out; omega)) (renM_val HWF.out HLI.out 9)).mono ?_
            rintro e w4 ⟨v', xs, rfl, hks, ⟨hrow, hwf4⟩, hB4⟩
            obtain ⟨q, cq, rfl⟩ := node_form hrow
            have HBX4 : Hid (Boxed w4 (w.heap.size + 1) 24 (.slice none 0 0)) := Lib.hid ((hB4.block _ hwrs).trans HBX3.out)
            have HB4 := Lib.hid (HBr.out.trans (hB4.mono HBr.out.size))
            have HKS := Lib.hid hks
            have HRW := Lib.hid hrow
            have HWF4 := Lib.hid hwf4
            have cb := HBX4.out.cell
            have cf := HBX4.out.frozen
            clear hks hrow hwf4 hB4
            go_wp2_with fail
            have HGS := Lib.hid (grownBy_setCell' w4 (w.heap.size + 1) (.slice q (nodesL (renM t d l 9) (xs.mergeSort leI)).length cq))
            have cb5 := (Boxed.set (.slice q (nodesL (renM t d l 9) (xs.mergeSort leI)).length cq) HBX4.out).cell
            refine bodyPost_ret (v := .tuple #[.agg #[.slice q (nodesL (renM t d l 9) (xs.mergeSort leI)).length cq], .int .i64 0]) (by simp [results, Try.results25, go_sem, cb5]) rfl ?_
            refine ⟨HB4.out.grown HGS.out (by have := HB4.out.size; omega) (fun j e => by cases e; omega), fun h => absurd HR.out h, fun _ => ⟨_, xs, rfl, HKS.out, ?_⟩⟩
            exact nodes_of_row (B := wr.heap.size) (ownsRow_setCell_below HRW.out (a := ⟨w.heap.size + 1, 0, none⟩) (by show w.heap.size + 1 < wr.heap.size; omega) _) HWF4.out
      · obtain rfl := hbb.out.2 hok
        have HR := Lib.hid (HE0.out 50 (fun h => absurd h.2 hok) (fun _ => rfl))
        have cb := HBX2.out.cell
        have cf := HBX2.out.frozen
        have cb5 := (Boxed.set (.slice none 0 0) HBX2.out).cell
        clear hbb hok
        go_wp2_with fail
        refine bodyPost_ret (v := .tuple #[.agg #[.slice none 0 0], .int .i64 50]) (by simp [results, Try.results25, go_sem, cb5]) rfl ?_
        exact ⟨HB2.out.grown (grownBy_setCell' w2 (w.heap.size + 1) _) (by have := HB2.out.size; omega) (fun j e => by cases e; omega), fun _ => by rw [HR.out], fun h => absurd (HR.out.symm.trans h) (by decide)⟩
    · obtain ⟨n, hn⟩ : ∃ n, n = l.length := ⟨_, rfl⟩
      rw [← hn] at hcl h10 ⊢
      have HN := Lib.hid hn
      have hd1 : decide ((n : Int) = 10) = false := by simp; omega
      have hd2 : decide (n = 10) = false := by simp; omega
      have hd3 : ((n : Int) != 10) = true := by simp; omega
      have HR := Lib.hid (HE0.out 50 (fun h => absurd (HN.out.trans h.1) h10) (fun _ => rfl))
      have H10 := Lib.hid h10
      have cb := HBX.out.cell
      have cf := HBX.out.frozen
      have cb5 := (Boxed.set (.slice none 0 0) HBX.out).cell
      clear hn h10
      go_wp2_with fail
      refine bodyPost_ret (v := .tuple #[.agg #[.slice none 0 0], .int .i64 50]) (by simp [results, Try.results25, go_sem, cb5]) rfl ?_
      exact ⟨HB1.out.grown (grownBy_setCell' w1 (w.heap.size + 1) _) (by have := HB1.out.size; omega) (fun j e => by cases e; omega), fun _ => by rw [HR.out], fun h => absurd (HR.out.symm.trans h) (by decide)⟩
  · obtain rfl := he0 h0
    have hd0 : decide (E = 0) = false := by simp; omega
    have cb := hbx1.cell
    have cf := hbx1.frozen
    have cb5 := (Boxed.set (.slice none 0 0) hbx1).cell
    clear he0 he1 hB1 hb1 hbx hbx1 HCH
    go_wp2_with fail
    have HE0 : Hid (renE t d l = E) := Lib.hid (by unfold renE; rw [if_neg (by rw [← HE.out]; exact h0)]; exact HE.out.symm)
    refine bodyPost_ret (v := .tuple #[.agg #[.slice none 0 0], .int .i64 E]) (by simp [results, Try.results25, go_sem, cb5]) rfl ?_
    exact ⟨HB1.out.grown (grownBy_setCell' w1 (w.heap.size + 1) _) (by have := HB1.out.size; omega) (fun j e => by cases e; omega), fun _ => by rw [HE0.out], fun h => absurd (HE0.out.symm.trans h) h0⟩
end Go.Proofs.Ytekdekchbnacgaa
