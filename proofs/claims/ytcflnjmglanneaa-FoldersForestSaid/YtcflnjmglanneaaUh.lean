/- Folders: the program's Tree and Above. -/
import Derived.Test.YtcflnjmglanneaaUg
namespace Go.Proofs.Ytcflnjmglanneaa
open Go.RowKit Go.Maps Go.Sort
set_option maxRecDepth 100000
set_option linter.unusedVariables false
set_option linter.unusedSimpArgs false

theorem OutAt.nil (w W : World) (A : Nat) (hB : Below w.heap.size w W) : OutAt w A W none 0 0 [] := ⟨World.ownsRow_nil _ _ _ _, rfl, (fun a e => by cases e), hB⟩
set_option maxHeartbeats 4000000 in
theorem tree_ok (l : List Pl) (v : Value) (w : World) (ht : PlAt w v l) (hl : l.length ≤ 100000) :
    Calls Try.prog 13 #[v] w fun e w' => ∃ u, e = .returned u ∧ PlAt w' u (treeP l) ∧ Below w.heap.size w w' := by
  have HG := Lib.hid (grow_ok l v w ht hl)
  obtain ⟨L, hF⟩ := treeP_frst l
  have HF := Lib.hid hF
  obtain ⟨T, hT⟩ : ∃ T, T = treeP l := ⟨_, rfl⟩
  rw [← hT] at HG HF ⊢
  obtain ⟨i0, hi, hz0, hz1, hzb⟩ := info_parts info_place
  have HLEN := Lib.hid hl
  clear ht hF hT hl
  go_enter Try.func13, Try.ntmps13
  go_wp2_with fail
  refine (HG.out).mono ?_
  rintro e w1 ⟨b, nn, rfl, hM, hnn, hbw, hB⟩
  have HB1 := Lib.hid hB
  have HKA := Lib.hid (keys_any (some b) w1)
  have hM2 : MapP (w1.alloc (.cells #[.map (some b)] 48)) b nn (placeT T) := SMap.alloc hM _
  have hbl := SMap.lt hM
  have hm2 := Boxed.new w1 48 (.map (some b))
  have hs2 : (w1.alloc (.cells #[.map (some b)] 48)).heap.size = w1.heap.size + 1 := by simp
  have hit := keys_iter b nn w1.heap.size (w1.heap.size + 1) (placeT T) (w1.alloc (.cells #[.map (some b)] 48)) hM2 hm2 (by omega) (by omega)
  have hnn2 : nn ≤ 100000 := by have := HLEN.out; omega
  have hKL : ∀ xs, KeysOf (placeT T) xs → xs.length ≤ 1000000 := fun xs hx => by
    have h := congrArg List.length (keys_tree HF.out hx)
    rw [(List.mergeSort_perm _ _).length_eq, List.length_map] at h
    have := HF.out.few
    omega
  have HS := Lib.hid (sorted_ok (enters_of Try.func49 (by kernel_rfl) rfl) hit (by omega) (fun _ h => h.elim) (fun ys hy => by omega) hKL w1.heap.size (by omega) (fun _ h => h.elim))
  have HBA := Lib.hid (below_alloc w1 (.cells #[.map (some b)] 48))
  have HM1 := Lib.hid hM
  clear hM hM2 hm2 hs2 hit hKL hB HG hbw hnn
  go_wp2_with fail
  refine (HKA.out).mono ?_
  rintro e w2 ⟨rfl, rfl⟩
  go_wp2_with fail
  refine (HS.out).mono ?_
  rintro e w3 ⟨u, xs, rfl, hK, hrow, hB3⟩
  have HMT := Lib.hid (keys_tree HF.out hK)
  rw [HMT.out] at hrow
  have hxl : xs.length = (T.map Pl.f).length := by rw [← HMT.out]; exact (List.mergeSort_perm _ _).length_eq.symm
  rw [hxl] at hrow
  have hI := ints_of_row hrow
  obtain ⟨pi, ci, rfl, hci, hic⟩ := hI
  have HIC := Lib.hid hic
  obtain ⟨m, hm⟩ : ∃ m, m = (T.map Pl.f).length := ⟨_, rfl⟩
  have HMM : Hid (m = T.length) := Lib.hid (by rw [hm, List.length_map])
  have hm16 : m ≤ 16 := by rw [HMM.out]; exact HF.out.few
  rw [← hm] at hci ⊢
  have HM3 : Hid (MapP w3 b nn (placeT T)) := Lib.hid (SMap.below HM1.out (HBA.out.trans hB3) hbl)
  have HBw : Hid (Below w.heap.size w w3) := Lib.hid (below_trans HB1.out (HBA.out.trans hB3))
  have hbl3 : b < w3.heap.size := SMap.lt HM3.out
  clear hrow hic hm hxl hK hB3 HM1 HS HKA HMT HBA HB1 hbl
  go_wp2_with fail
  go_loopw [2, 12] (fun v2 v12 wr => ∃ (q : Option Addr) (n c k : Nat), v2 = .slice q n c ∧ v12 = .int .i64 k ∧ k ≤ m ∧ n ≤ k ∧ Hid (OutAt w3 b wr q n c (T.take k))) (fun _ v12 _ => m - (intOf v12).toNat)
  case atStart => exact ⟨none, 0, 0, 0, rfl, rfl, Nat.zero_le _, Nat.le_refl _, Lib.hid (OutAt.nil w3 w3 b (Below.refl _ _))⟩
  case round =>
    obtain ⟨q, n, c, k, rfl, rfl, hk, hnk, HO⟩ := hrel
    by_cases hkn : k < m
    case neg =>
      have hd := decide_eq_false (show ¬ ((k : Int) < (m : Int)) by omega)
      have hd' := decide_eq_false hkn
      have HO2 : Hid (OutAt w3 b wr q n c T) := Lib.hid (by
        have h := HO.out
        rw [List.take_of_length_le (by rw [← HMM.out]; omega)] at h
        exact h)
      go_wp2_with fail
      go_ret
      exact ⟨_, rfl, HO2.out.at, below_trans HBw.out HO2.out.bel⟩
    have hd := decide_eq_true (show ((k : Int) < (m : Int)) by omega)
    have hd' := decide_eq_true hkn
    obtain ⟨e, he, ht1⟩ := take_at (l := T) (j := k) (by rw [← HMM.out]; exact hkn)
    obtain ⟨gi, oi, rfl, hcs⟩ := HIC.out (by rw [List.length_map, ← HMM.out]; omega)
    have hgk := hcs k (by rw [List.length_map, ← HMM.out]; exact hkn)
    have hfk : (T.map Pl.f).getD k 0 = e.f := by simp [List.getD, he]
    rw [hfk] at hgk
    have hc0 := cellOld hgk (HO.out.bel.block gi (cellLt hgk))
    have heT := List.mem_of_getElem? he
    have hok := (HF.out.ok e heT).2.2.1
    have hlook := MapP.look1 (MapP.below HM3.out HO.out.bel hbl3) (x := e.f) (I64_lim (by omega) hok.2)
    rw [HF.out.sort.once e heT] at hlook
    simp only [Option.getD_some] at hlook
    have HT1 := Lib.hid ht1
    have hbr : b < wr.heap.size := Nat.lt_of_lt_of_le hbl3 HO.out.bel.size
    obtain ⟨E, hE⟩ : ∃ E : Pl, E = e := ⟨_, rfl⟩
    have HEE := Lib.hid hE
    rw [← hE] at HT1
    obtain ⟨et, ed, ef, ep, en⟩ := e
    unfold Pl.ev at hlook
    dsimp only at hlook hc0
    clear he ht1 hcs hgk hfk heT hok hE
    go_wp2_with (at_builtin; refine Hid.out ?_)
    refine Lib.hid ?_
    refine wpList_plain rfl fun _ hK => ?_
    refine wp_append_row_at _ _ 22 rfl w3.heap.size 24 i0 (.agg #[.int .i64 0, .int .i64 0, .int .i64 0, .int .i64 0, .string ⟨#[]⟩]) 5 48 Try.underlying22 hi hz0 hz1 hzb rfl (by decide) _ _ _ rfl (HO.out.row (.cells (Pl.cells ⟨et, ed, ef, ep, en⟩).toArray 24)) _ _ _ rfl (lit_place wr ⟨et, ed, ef, ep, en⟩) (cells_one _) (by unfold maxLen; omega) (by omega) (by have := HO.out.bel.size; rw [World.size_alloc]; omega) ?_
    intro v' w5 hown5 hgrow5 hwh5
    obtain ⟨q5, c5, rfl, ho5, hA5, hsz5⟩ := HO.out.app (e := ⟨et, ed, ef, ep, en⟩) hbr hown5 hgrow5 hwh5
    have HO5 : Hid (OutAt w3 b w5 q5 (n + 1) c5 (T.take (k + 1))) := Lib.hid (by rw [HT1.out, HEE.out]; exact ho5)
    clear hown5 hgrow5 hwh5 ho5 hA5 hsz5
    refine hK _ _ ?_
    clear hK
    go_wp2_with fail
    exact ⟨⟨q5, n + 1, c5, k + 1, rfl, by go_num, by omega, by omega, HO5⟩, by simp only [intOf]; omega⟩
theorem above_ok (l : List Pl) (v : Value) (x : Int) (w : World) (ht : PlAt w v l) (hl : l.length ≤ 100000) (hI : I64 x) :
    Calls Try.prog 20 #[v, .int .i64 x] w fun e w' => ∃ u, e = .returned u ∧ IntsAt w' u (upT (treeP l) 32 x) ∧ Below w.heap.size w w' := by
  have HG := Lib.hid (grow_ok l v w ht hl)
  obtain ⟨L, hF⟩ := treeP_frst l
  have HF := Lib.hid hF
  obtain ⟨T, hT⟩ : ∃ T, T = treeP l := ⟨_, rfl⟩
  rw [← hT] at HG HF ⊢
  clear ht hF hT hl
  go_enter Try.func20, Try.ntmps20
  go_wp2_with fail
  refine (HG.out).mono ?_
  rintro e w1 ⟨b, nn, rfl, hM, hnn, hbw, hB⟩
  have HB1 := Lib.hid hB
  have HU := Lib.hid (up_any (some b) x w1)
  obtain ⟨h1, h2, h3, h4, h5⟩ := up_boxes b nn (placeT T) x w1 hM
  have hN32 : (upF (placeT T) 32 x).length = L x := HF.out.lev.upF 32 x (by have := HF.out.le x; omega)
  have hFI : ∀ y e, placeT T y = some e → I64 e.p := fun y e he => by
    have h := HF.out.ok e (placeT_some he).1
    exact I64_lim h.2.2.2.1.1 h.2.2.2.1.2
  have hl7 := HF.out.le x
  have hit := up_iter b nn w1.heap.size (w1.heap.size + 1) w1.heap.size 32 (placeT T) x _ h1 h2 h3 hI hFI (by omega) (SMap.lt hM)
  have HC := Lib.hid (collect_ok (enters_of Try.func54 (by kernel_rfl) rfl) hit (by omega) (by rintro k (rfl | rfl) <;> omega) (fun ys hy => by have := hy.length_le; omega) w1.heap.size (by omega) (by rintro k (rfl | rfl) <;> omega))
  have HB := Lib.hid h4
  clear hM hnn hbw hB HG h1 h2 h3 h4 h5 hN32 hFI hl7 hit hI
  go_wp2_with fail
  refine (HU.out).mono ?_
  rintro e w2 ⟨rfl, rfl⟩
  go_wp2_with fail
  refine (HC.out).mono ?_
  rintro e w3 ⟨v, xs, rfl, rfl, hrow, hB⟩
  have HR := Lib.hid (ints_of_row hrow)
  have HB2 := Lib.hid (below_trans HB1.out (HB.out.trans hB))
  clear hrow hB HB HC HU
  go_wp2_with fail
  go_ret
  exact ⟨_, rfl, by rw [upT_upF]; exact HR.out, HB2.out⟩
end Go.Proofs.Ytcflnjmglanneaa
