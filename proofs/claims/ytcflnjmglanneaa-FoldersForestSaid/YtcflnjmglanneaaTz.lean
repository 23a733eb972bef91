/- Folders: slices.DeleteFunc as the program calls it: the places that are not valid go. -/
import Derived.Test.YtcflnjmglanneaaTy
namespace Go.Proofs.Ytcflnjmglanneaa
open Go.RowKit Go.Maps Go.Sort
set_option maxRecDepth 100000
set_option linter.unusedVariables false
set_option linter.unusedSimpArgs false

/-- 's[:h]' of a slice of elements of k cells. -/
theorem slice_toK {P : Program} (t e : TypeId) (k : Nat) (ht : P.underlying t = some (.slice e)) (hz : ∀ w, (sizeOf e).run P w = .ok k w) (g o n c h : Nat) (hc : h ≤ c) (W : World) :
    (Instr.sliceAt t (.slice (some ⟨g, o, none⟩) n c) none (some (.int .i64 (h : Int))) none).run P W = .ok (.slice (some ⟨g, o, none⟩) h c) W := by
  have he : P.elem t = e := by simp [Program.elem, ht]
  rw [run_sliceAt_slice W t _ _ _ _ (by rw [he]; exact ht), run_slice_h W t _ n c (by rw [he]; exact ht) .i64 _ (by omega) (by omega), he]
  simp [hz, Result.andThen, sliced, Addr.add]
theorem zero_place : ∀ w, (zeroValue 24).run Try.prog w = .ok (.agg pl0.cells.toArray) w := Try.zeroValue24
theorem filter_all {l : List Pl} (h : ∀ x ∈ l, decide (¬ okP x) = false) : l.filter (fun x => decide (okP x)) = l :=
  List.filter_eq_self.2 fun x hx => by have := h x hx; simpa using this
set_option maxHeartbeats 4000000 in
theorem delete_ok (l : List Pl) (n0 g n c : Nat) (w : World) (h : OwnR n0 w w g n c l) (hl : n ≤ 1000000) :
    Calls Try.prog 42 #[.slice (some ⟨g, 0, none⟩) n c, .func (.func 44) #[] #[]] w fun e w' => ∃ n', e = .returned (.slice (some ⟨g, 0, none⟩) n' c) ∧ OwnR n0 w w' g n' c (l.filter fun x => decide (okP x)) := by
  have HH := Lib.hid h
  have HI := Lib.hid (idxBad_ok l (.slice (some ⟨g, 0, none⟩) n c) w h.at (by rw [← h.len]; exact hl))
  have hcap := h.cap
  have HN := Lib.hid h.len
  clear h
  go_enter Try.func42, Try.ntmps42
  go_wp2_with fail
  refine (HI.out).mono ?_
  rintro e w1 ⟨r, rfl, hr, hB⟩
  have HH1 := Lib.hid (HH.out.later hB)
  clear hB HI HH
  rcases hr with ⟨rfl, hall⟩ | ⟨k, e, rfl, he, hbad, hpre⟩
  · have HF := Lib.hid (filter_all hall)
    clear hall
    go_wp2_with fail
    go_ret
    exact ⟨_, rfl, by rw [HF.out]; exact HH1.out⟩
  have hkn : k < n := by rw [HN.out]; exact (List.getElem?_eq_some_iff.1 he).1
  have HT0 : Hid (l.take k = (l.take (k + 1)).filter (fun x => decide (okP x))) := Lib.hid (by
    obtain ⟨e', he', ht1⟩ := take_at (l := l) (j := k) (by rw [← HN.out]; exact hkn)
    rw [he] at he'
    injection he' with he'
    subst he'
    rw [ht1, List.filter_append, filter_all hpre, List.filter_cons_of_neg (by simpa using hbad), List.filter_nil, List.append_nil])
  have hd1 : decide ((k : Int) = -1) = false := by simp
  have hd2 : ((k : Int) == -1) = false := by simp
  clear he hbad hpre
  go_wp2_with fail
  go_loopw [5, 6] (fun v5 v6 wr => ∃ (i j : Nat) (d : List Pl), v5 = .int .i64 i ∧ v6 = .int .i64 j ∧ i < j ∧ j ≤ n ∧ Hid (d.take i = (l.take j).filter (fun x => decide (okP x))) ∧ Hid (d.drop j = l.drop j) ∧ Hid (OwnR n0 w wr g n c d)) (fun _ v6 _ => n - (intOf v6).toNat)
  case atStart => exact ⟨k, k + 1, l, rfl, by go_num, by omega, by omega, HT0, Lib.hid rfl, HH1⟩
  case round =>
    obtain ⟨i, j, d, rfl, rfl, hij, hj, HT, HD, HO⟩ := hrel
    by_cases hjn : j < n
    case neg =>
      obtain rfl : j = n := by omega
      have hd := decide_eq_false (show ¬ ((j : Int) < (j : Int)) by omega)
      have hd' := decide_eq_false hjn
      obtain ⟨aa, haa, hsl⟩ := slice_offK (P := Try.prog) 22 24 5 Try.underlying22 Try.sizeOf24 g 0 j c i (by omega) hcap
      rw [haa (by omega), Nat.zero_add] at hsl
      have hto := slice_toK (P := Try.prog) 22 24 5 Try.underlying22 Try.sizeOf24 g 0 j c i (by omega)
      obtain ⟨W', hcl, hO'⟩ := HO.out.clear (P := Try.prog) hij 22 24 Try.underlying22 pl0 zero_place
      rw [Nat.zero_add] at hcl
      have HO' : Hid (OwnR n0 w W' g i c (l.filter fun x => decide (okP x))) := Lib.hid (by
        have h1 := HT.out
        rw [List.take_of_length_le (l := l) (by rw [← HN.out]; exact Nat.le_refl _)] at h1
        rw [← h1]
        exact hO')
      clear hO' haa
      go_wp2_with fail
      go_ret
      exact ⟨_, rfl, HO'.out⟩
    have hd := decide_eq_true (show ((j : Int) < (n : Int)) by omega)
    have hd' := decide_eq_true hjn
    obtain ⟨e, he, ht1⟩ := take_at (l := l) (j := j) (by rw [← HN.out]; exact hjn)
    have hde : d[j]? = some e := by
      have h := congrArg (fun z : List Pl => z[0]?) HD.out
      simp only [List.getElem?_drop, Nat.add_zero] at h
      rw [h]; exact he
    have hD2 : d.drop (j + 1) = l.drop (j + 1) := by
      have h := congrArg (List.drop 1) HD.out
      rw [List.drop_drop, List.drop_drop] at h
      exact h
    have hin : i < n := by omega
    have hdl := HO.out.len
    have hBad : Hid (¬ okP e → d.take i = (l.take (j + 1)).filter (fun x => decide (okP x))) := Lib.hid fun hb => by
      rw [ht1, List.filter_append, List.filter_cons_of_neg (by simpa using hb), List.filter_nil, List.append_nil]; exact HT.out
    have hOk : Hid (okP e → (d.set i e).take (i + 1) = (l.take (j + 1)).filter (fun x => decide (okP x))) := Lib.hid fun hb => by
      rw [ht1, List.filter_append, List.filter_cons_of_pos (by simpa using hb), List.filter_nil, ← HT.out, List.take_succ_eq_append_getElem (by rw [List.length_set]; omega), List.getElem_set_self, List.take_set_of_le (Nat.le_refl _)]
    have hDs : Hid ((d.set i e).drop (j + 1) = l.drop (j + 1)) := Lib.hid (by rw [List.drop_set_of_lt (by omega)]; exact hD2)
    have HD2 := Lib.hid hD2
    obtain ⟨ga, oa, hga, hcs⟩ := (HO.out.at.cells).2.2 (by omega)
    injection hga with hga
    injection hga with hga1 hga2
    subst hga1; subst hga2
    obtain ⟨c0, c1, c2, c3, c4⟩ := hcs j e hde
    rw [Nat.zero_add] at c0 c1 c2 c3 c4
    have hA := below_alloc wr (.cells e.cells.toArray 24)
    have hX := World.alloc_heap_new wr (.cells e.cells.toArray 24)
    have HP := Lib.hid (fun W => keep_ok e W)
    obtain ⟨r, hr⟩ : ∃ r, r = decide (¬ okP e) := ⟨_, rfl⟩
    rw [← hr] at HP
    have HR := Lib.hid hr
    obtain ⟨E, hE⟩ : ∃ E : Pl, E = e := ⟨_, rfl⟩
    have HEE := Lib.hid hE
    rw [← hE] at hBad hOk hDs HR hA hX
    have HA := Lib.hid hA
    have HX := Lib.hid hX
    obtain ⟨et, ed, ef, ep, en⟩ := e
    unfold Pl.ev at HP
    dsimp only at c0 c1 c2 c3 c4 HP
    clear he ht1 hde hD2 hdl HT HD hcs hr hA hX hE
    go_upto_region 8 with fail
    obtain ⟨B, hB⟩ : ∃ B, B = wr.heap.size := ⟨_, rfl⟩
    have hW1' : wr.alloc (.cells #[.int .i64 et, .int .i64 ed, .int .i64 ef, .int .i64 ep, .string en] 24) = wr.alloc (.cells E.cells.toArray 24) := by rw [HEE.out]; rfl
    rw [hW1', ← hB]
    rw [← hB] at HX
    obtain ⟨W1, hW1⟩ : ∃ W, W = wr.alloc (.cells E.cells.toArray 24) := ⟨_, rfl⟩
    rw [← hW1] at HA HX ⊢
    have HO1 := Lib.hid (HO.out.later HA.out)
    have hBW : B < W1.heap.size := (Array.getElem?_eq_some_iff.1 HX.out).1
    have hgB : g ≠ B := by have := HO.out.lt; omega
    rw [HEE.out] at HX
    obtain ⟨b0, b1, b2, b3, b4⟩ := box_cells HX.out
    dsimp only at b0 b1 b2 b3 b4
    clear hW1' hB hW1 HO HA c0 c1 c2 c3 c4
    go_wp2_with fail
    refine (HP.out _).mono ?_
    rintro x W2 ⟨rfl, hB2⟩
    have HO2 := Lib.hid (HO1.out.later hB2)
    have HX2 := Lib.hid ((hB2.block B hBW).trans HX.out)
    clear HP HO1 HX hB2 b0 b1 b2 b3 b4
    cases r with
    | true =>
      have hb : ¬ okP E := by have := HR.out; simpa using this.symm
      have HT2 := Lib.hid (hBad.out hb)
      clear hb hBad hOk
      go_wp2_with fail
      exact ⟨⟨i, j + 1, d, rfl, by go_num, by omega, by omega, HT2, HD2, HO2⟩, by simp only [intOf]; omega⟩
    | false =>
      have hb : okP E := by have := HR.out; simpa using this.symm
      have HT2 := Lib.hid (hOk.out hb)
      clear hb hBad hOk
      obtain ⟨b0, b1, b2, b3, b4⟩ := box_cells HX2.out
      dsimp only at b0 b1 b2 b3 b4
      have hd3 := decide_eq_true (show ((i : Int) < (n : Int)) by omega)
      go_wp2_with (refine wpList_plain rfl fun _ hK => wp_store_own 24 _ _ rfl HO2.out hin ⟨et, ed, ef, ep, en⟩ place_size (by rw [Nat.zero_add]; rfl) rfl fun W3 hO3 hbl hsz => hK _ _ ?_)
      have HO3 : Hid (OwnR n0 w W3 g n c (d.set i E)) := Lib.hid (by rw [HEE.out]; exact hO3)
      exact ⟨⟨i + 1, j + 1, d.set i E, by go_num, by go_num, by omega, by omega, HT2, hDs, HO3⟩, by simp only [intOf]; omega⟩
end Go.Proofs.Ytcflnjmglanneaa
