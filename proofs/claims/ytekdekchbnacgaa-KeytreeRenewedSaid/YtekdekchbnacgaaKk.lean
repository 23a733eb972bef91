/- Package keytree: Members, Public. -/
import Derived.Test.YtekdekchbnacgaaKj
namespace Go.Proofs.Ytekdekchbnacgaa
open Go.RowKit
set_option maxRecDepth 100000
set_option linter.unusedVariables false
set_option linter.unusedSimpArgs false

theorem devs_snoc (t : List (Int × Int)) (a p : Int) : devs (t ++ [(a, p)]) = devs t ++ if 512 ≤ a ∧ a ≤ 1023 then [a - 512] else [] := by
  unfold devs
  rw [List.filter_append, List.map_append]
  congr 1
  by_cases h : 512 ≤ a ∧ a ≤ 1023
  · simp [h.1, h.2]
  · rw [if_neg h]
    simp only [List.filter_cons, List.filter_nil]
    rw [if_neg (by simpa using h)]
    rfl
theorem devs_length (t : List (Int × Int)) : (devs t).length ≤ t.length := by
  unfold devs
  rw [List.length_map]
  exact List.length_filter_le _ _
/-- What a loop over the nodes needs of the k-th. -/
theorem node_at {w wr : World} {t : List (Int × Int)} {g o k : Nat} (hcs : ∀ j, j < t.length → w.cell? ⟨g, o + j * 2, none⟩ = some (.int .i64 (t.getD j (0, 0)).1) ∧ w.cell? ⟨g, o + j * 2 + 1, none⟩ = some (.int .i64 (t.getD j (0, 0)).2))
    (hwf : ∀ x ∈ t, I64 x.1 ∧ I64 x.2) (hk : k < t.length) (hB : Below w.heap.size w wr) :
    ∃ a p, wr.cell? ⟨g, o + k * 2, none⟩ = some (.int .i64 a) ∧ wr.cell? ⟨g, o + k * 2 + 1, none⟩ = some (.int .i64 p) ∧ I64 a ∧ I64 p ∧ t.getD k (0, 0) = (a, p) ∧ t.take (k + 1) = t.take k ++ [(a, p)] ∧ (a, p) ∈ t := by
  obtain ⟨c1, c2⟩ := hcs k hk
  have hg : t.getD k (0, 0) = t[k] := by simp [List.getD, hk]
  have hm : t[k] ∈ t := List.getElem_mem hk
  refine ⟨t[k].1, t[k].2, ?_, ?_, (hwf _ hm).1, (hwf _ hm).2, hg, by rw [List.take_succ_eq_append_getElem hk], hm⟩
  · rw [← hg]; exact cellOld c1 (hB.block g (cellLt c1))
  · rw [← hg]; exact cellOld c2 (hB.block g (cellLt c2))

set_option maxHeartbeats 1000000 in
theorem members_ok (t : List (Int × Int)) (v : Value) (w : World) (ht : NodesAt w v t) (hl : t.length ≤ 1000000) :
    Calls Try.prog 19 #[.agg #[v]] w fun e w' => ∃ u, e = .returned u ∧ w'.ownsRow w.heap.size 3 1 u (memZ t).length ((memZ t).map (Value.int .i64)) ∧ Below w.heap.size w w' := by
  obtain ⟨p, c, rfl, hc, hp, hcell, hwf⟩ := ht
  obtain ⟨i0, hi, hz0, hz1, hz2⟩ := info_parts info_i64
  go_enter Try.func19, Try.ntmps19
  go_wp2_with fail
  obtain ⟨W0, hW0⟩ : ∃ W0, W0 = w.alloc (.cells #[.slice p t.length c] 24) := ⟨_, rfl⟩
  have hB0 : Below w.heap.size w W0 := by rw [hW0]; exact (Below.refl _ w).alloc (Nat.le_refl _) _
  have HR0 := Lib.hid (World.ownsRow_nil W0 w.heap.size 3 1)
  rw [← hW0]
  clear hW0
  have HB0 := Lib.hid hB0
  have HC := Lib.hid hcell
  have HWF := Lib.hid hwf
  have HDL := Lib.hid (fun k => Nat.le_trans (devs_length (t.take k)) (by rw [List.length_take]; exact Nat.min_le_left k _))
  obtain ⟨n, hn⟩ : ∃ n, n = t.length := ⟨_, rfl⟩
  have HN := Lib.hid hn
  rw [← hn] at hl hc ⊢
  clear hB0 hcell hwf hn hp
  go_loopw [2, 8] (fun u i wr => ∃ k : Nat, i = .int .i64 k ∧ k ≤ n ∧ Hid (wr.ownsRow w.heap.size 3 1 u (devs (t.take k)).length ((devs (t.take k)).map (Value.int .i64))) ∧ Hid (Below w.heap.size w wr)) (fun _ i _ => n - (intOf i).toNat)
  case atStart => exact ⟨0, rfl, Nat.zero_le _, HR0, HB0⟩
  case round =>
    obtain ⟨k, rfl, hk, HR, HB⟩ := hrel
    by_cases hlt : k < n
    · have hd : decide ((k : Int) < (n : Int)) = true := by simp; omega
      have hd' : decide (k < n) = true := by simp; omega
      obtain ⟨g, o, rfl, hcs⟩ := HC.out (by rw [← HN.out]; omega)
      obtain ⟨a, pb, c1, c2, w1, w2, -, ht, -⟩ := node_at hcs HWF.out (by rw [← HN.out]; exact hlt) HB.out
      have HT := Lib.hid ht
      have HDk := HDL.out k
      have HBa := Lib.hid (HB.out.alloc HB.out.size (.cells #[.int .i64 a, .int .i64 pb] 48))
      have HRa := Lib.hid (HR.out.alloc (.cells #[.int .i64 a, .int .i64 pb] 48))
      have hws : w.heap.size ≤ wr.heap.size := HB.out.size
      clear hcs ht w1 w2
      by_cases h5 : 512 ≤ a
      · have hd1 : decide (512 ≤ a) = true := by simp; omega
        by_cases h6 : a ≤ 1023
        · have hd2 : decide (a ≤ 1023) = true := by simp; omega
          have HCN := Lib.hid (cell_one_new (wr.alloc (.cells #[.int .i64 a, .int .i64 pb] 48)) (.int .i64 (a - 512)) 3)
          rw [World.size_alloc] at HCN
          go_wp2_with (at_builtin; refine wpList_append_own _ rfl _ _ 27 rfl w.heap.size 3 i0 (.int .i64 0) 1 8 Try.underlying27 hi hz0 hz1 hz2 rfl (by decide) _ _ _ rfl (HRa.out.alloc _) ⟨wr.heap.size + 1, 0, none⟩ 1 1 [.int .i64 (a - 512)] rfl rfl HCN.out (by simp [Value.oneCell']) (by unfold maxLen; omega) (by omega) (by simp; omega) ?_; intro v' w1 hown1 hgrow1 _)
          have HO1 := Lib.hid hown1
          have hba := HBa.out
          have HB1 := Lib.hid ((Below.alloc hba hba.size (.cells #[.int .i64 (a - 512)] 3)).grown hgrow1 (by have := hba.size; simp; omega) (fun j hj => (HRa.out.lt j hj).1))
          clear hown1 hgrow1 hba
          refine ⟨⟨k + 1, by go_num, by omega, ?_, HB1⟩, by simp only [intOf]; omega⟩
          rw [HT.out, devs_snoc, if_pos ⟨h5, h6⟩, List.length_append, List.map_append]
          exact HO1
        · have hd2 : decide (a ≤ 1023) = false := by simp; omega
          go_wp2
          refine ⟨⟨k + 1, by go_num, by omega, ?_, HBa⟩, by simp only [intOf]; omega⟩
          rw [HT.out, devs_snoc, if_neg (by omega), List.append_nil]
          exact HRa
      · have hd1 : decide (512 ≤ a) = false := by simp; omega
        go_wp2
        refine ⟨⟨k + 1, by go_num, by omega, ?_, HBa⟩, by simp only [intOf]; omega⟩
        rw [HT.out, devs_snoc, if_neg (by omega), List.append_nil]
        exact HRa
    · have hd : decide ((k : Int) < (n : Int)) = false := by simp; omega
      have hd' : decide (k < n) = false := by simp; omega
      obtain rfl : k = n := by omega
      have hr := HR.out
      rw [HN.out, List.take_length] at hr
      have hdl := HDL.out k
      have hln : (devs t).length ≤ 1000000 := Nat.le_trans (devs_length t) (by rw [← HN.out]; exact hl)
      have HSO := Lib.hid (sort_row _ (devs t) w.heap.size w.heap.size wr hr (Nat.le_refl _) hln)
      have HLN := Lib.hid hln
      clear hr hdl hln
      go_wp2_with fail
      refine HSO.out.mono ?_
      rintro e w2 ⟨rfl, hrow2, hB2⟩
      have hl2 : ((devs t).mergeSort leI).length = (devs t).length := List.length_mergeSort _
      have HCO := Lib.hid (compact_row _ ((devs t).mergeSort leI) w.heap.size w.heap.size w2 (by rw [hl2]; exact hrow2) (Nat.le_refl _) (by rw [hl2]; exact HLN.out))
      have HB2 := Lib.hid hB2
      clear hrow2 hB2 hl2
      go_wp2_with fail
      refine HCO.out.mono ?_
      rintro e w3 ⟨u, rfl, hrow3, hB3⟩
      have HR3 := Lib.hid hrow3
      have HB3 := Lib.hid hB3
      clear hrow3 hB3
      go_wp2
      go_ret
      exact ⟨u, rfl, HR3.out, HB.out.trans (HB2.out.trans HB3.out)⟩
end Go.Proofs.Ytekdekchbnacgaa
