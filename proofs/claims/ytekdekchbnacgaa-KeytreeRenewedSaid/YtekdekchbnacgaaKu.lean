/- Package keytree: tree. -/
import Derived.Test.YtekdekchbnacgaaKo
import Derived.Handy
namespace Go.Proofs.Ytekdekchbnacgaa
open Go.RowKit
set_option maxRecDepth 100000
set_option linter.unusedVariables false
set_option linter.unusedSimpArgs false

theorem info_node : (Try.prog.info? 48).map (fun i => (i.zero, i.size, i.bytes)) = some (some (.agg #[.int .i64 0, .int .i64 0]), 2, 16) := by kernel_rfl
theorem cells_new2 (w : World) (l : List Value) (t : TypeId) : ∀ j u, l[j]? = some u → (w.alloc (.cells l.toArray t)).cell? ((⟨w.heap.size, 0, none⟩ : Addr).add j) = some u := by
  intro j u hj
  have hadd : (⟨w.heap.size, 0, none⟩ : Addr).add j = ⟨w.heap.size, j, none⟩ := by unfold Addr.add; split <;> simp_all
  rw [hadd]
  have hb := World.alloc_heap_new w (.cells l.toArray t)
  simp only [World.cell?, hb]
  simpa using hj
/-- The nodes of a map, by the list of its keys. -/
def nodesL (f : Int → Option Int) (L : List Int) : List (Int × Int) := L.map fun x => (x, (f x).getD 0)
def cellsL (t : List (Int × Int)) : List Value := t.flatMap fun x => [.int .i64 x.1, .int .i64 x.2]
theorem cellsL_length (t : List (Int × Int)) : (cellsL t).length = t.length * 2 := by
  induction t with
  | nil => rfl
  | cons a t ih => simp [cellsL] at ih ⊢; omega
theorem cellsL_get (t : List (Int × Int)) : ∀ j, j < t.length → (cellsL t)[j * 2]? = some (.int .i64 (t.getD j (0, 0)).1) ∧ (cellsL t)[j * 2 + 1]? = some (.int .i64 (t.getD j (0, 0)).2) := by
  induction t with
  | nil => intro j hj; simp at hj
  | cons a t ih =>
    intro j hj
    have e : cellsL (a :: t) = .int .i64 a.1 :: .int .i64 a.2 :: cellsL t := rfl
    cases j with
    | zero => rw [e]; exact ⟨rfl, rfl⟩
    | succ j =>
      obtain ⟨p, q⟩ := ih j (by simpa using hj)
      rw [e, show (j + 1) * 2 = j * 2 + 1 + 1 by omega]
      exact ⟨p, q⟩
theorem nodes_of_row {w : World} {B : Nat} {v : Value} {t : List (Int × Int)} (h : w.ownsRow B 48 2 v t.length (cellsL t)) (hwf : ∀ x ∈ t, I64 x.1 ∧ I64 x.2) : NodesAt w v t := by
  rcases h.2 with ⟨rfl, hn⟩ | ⟨g, cap, cur, rfl, hb, hg, h1, h2, h3, h4⟩
  · exact ⟨none, 0, by rw [hn], by omega, fun _ => hn, fun h => by omega, hwf⟩
  · refine ⟨_, cap, rfl, h1, (fun h => by cases h), fun h0 => ⟨g, 0, rfl, fun j hj => ?_⟩, hwf⟩
    obtain ⟨p, q⟩ := cellsL_get t j hj
    have e : ∀ i u, i < t.length * 2 → (cellsL t)[i]? = some u → w.cell? ⟨g, i, none⟩ = some u := fun i u hi hu => by
      rw [← h4, List.getElem?_take_of_lt hi] at hu
      unfold World.cell?
      rw [hg]
      simp only [Option.isSome_none, Bool.false_eq_true, if_false]
      rw [← Array.getElem?_toList, hu]
    rw [Nat.zero_add]
    exact ⟨e _ _ (by omega) p, e _ _ (by omega) q⟩
theorem node_form {w : World} {B n : Nat} {v : Value} {xs : List Value} (h : w.ownsRow B 48 2 v n xs) : ∃ p c, v = .slice p n c := by
  rcases h.2 with ⟨rfl, hn⟩ | ⟨g, cap, cur, rfl, hb, hg, hnc, hcm, hsz, htk⟩
  · exact ⟨none, 0, by rw [hn]⟩
  · exact ⟨_, cap, rfl⟩

set_option maxHeartbeats 2000000 in
theorem tree_ok (b n : Nat) (f : Int → Option Int) (w : World) (hM : KMap (intK Try.underlying3) 3 w b n f) (hn : n ≤ 1000000) (hS : ∀ xs, KeysOf f xs → xs.length ≤ 1000000) (hV : ∀ x v, I64 x → f x = some v → I64 v) :
    Calls Try.prog 46 #[.map (some b)] w fun e w' => ∃ v xs, e = .returned (.agg #[v]) ∧ KeysOf f xs ∧ (w'.ownsRow w.heap.size 48 2 v (nodesL f (xs.mergeSort leI)).length (cellsL (nodesL f (xs.mergeSort leI))) ∧ ∀ x ∈ nodesL f (xs.mergeSort leI), I64 x.1 ∧ I64 x.2) ∧ Below w.heap.size w w' := by
  obtain ⟨i0, hi, hz0, hz1, hz2⟩ := info_parts info_node
  have HM := Lib.hid hM
  have HN := Lib.hid hn
  have HS := Lib.hid hS
  have HV := Lib.hid hV
  have hbw : b < w.heap.size := hM.lt
  clear hM hn hS hV
  go_enter Try.func46, Try.ntmps46
  go_wp2_with fail
  have hbt : Boxed (w.alloc (.cells #[.slice none 0 0] 24)) w.heap.size 24 (.slice none 0 0) := World.alloc_heap_new w _
  have hB0 : Below w.heap.size w (w.alloc (.cells #[.slice none 0 0] 24)) := (Below.refl _ w).alloc (Nat.le_refl _) _
  have hM0 := HM.out.alloc (.cells #[.slice none 0 0] 24)
  have hs0 : w.heap.size < (w.alloc (.cells #[.slice none 0 0] 24)).heap.size := by simp
  obtain ⟨W0, hW0⟩ : ∃ W0, W0 = w.alloc (.cells #[.slice none 0 0] 24) := ⟨_, rfl⟩
  rw [← hW0] at hbt hB0 hM0 hs0 ⊢
  clear hW0
  refine (keys_any (some b) W0).mono ?_
  rintro e w1 ⟨rfl, rfl⟩
  have hs1 : W0.heap.size < (W0.alloc (.cells #[.map (some b)] 59)).heap.size := by simp
  have hbm : Boxed (W0.alloc (.cells #[.map (some b)] 59)) W0.heap.size 59 (.map (some b)) := World.alloc_heap_new W0 _
  have hbt1 : Boxed (W0.alloc (.cells #[.map (some b)] 59)) w.heap.size 24 (.slice none 0 0) := (Below.heap_alloc _ _ _ (by omega)).trans hbt
  have hM1 := hM0.alloc (.cells #[.map (some b)] 59)
  have hB1 := hB0.alloc hB0.size (.cells #[.map (some b)] 59)
  obtain ⟨W1, hW1⟩ : ∃ W1, W1 = W0.alloc (.cells #[.map (some b)] 59) := ⟨_, rfl⟩
  rw [← hW1] at hs1 hbm hbt1 hM1 hB1 ⊢
  clear hW1 hbt hM0 hB0
  have HSO := Lib.hid (sorted_ok (fun _ _ => rfl) (keys_iter b n W0.heap.size W1.heap.size f W1 hM1 hbm hM1.lt hbm.lt) (Nat.le_refl _) (fun _ h => h.elim) (fun ys h => Nat.le_trans h HN.out) HS.out W1.heap.size (Nat.le_refl _) (fun _ h => h.elim))
  have HM1 := Lib.hid hM1
  have HB1 := Lib.hid hB1
  have HBT1 := Lib.hid hbt1
  clear hM1 hB1 hbt1 hbm
  go_wp2_with fail
  refine HSO.out.mono ?_
  rintro e w2 ⟨u, xs, rfl, hks, hrow, hB2⟩
  have hll : (xs.mergeSort leI).length = xs.length := List.length_mergeSort _
  have HKI : Hid (∀ x ∈ xs.mergeSort leI, I64 x) := Lib.hid (fun x hx => (hks.2.1 x ((sort_mem xs x).1 hx)).1)
  have HLN := Lib.hid (HS.out xs hks)
  have HKS := Lib.hid hks
  obtain ⟨L, hL⟩ : ∃ L, L = xs.mergeSort leI := ⟨_, rfl⟩
  rw [← hL] at hrow HKI hll
  rw [← hll] at hrow HLN
  have HLL := Lib.hid hL
  clear hks hL hll HSO
  obtain ⟨pu, cu, rfl, hcu, hms⟩ := ints_form hrow
  have HMS := Lib.hid hms
  have HM2 := Lib.hid (HM1.out.below hB2 (by have := HM1.out.lt; omega))
  have HB2 := Lib.hid (HB1.out.trans (hB2.mono (by omega)))
  have HBT2 : Hid (Boxed w2 w.heap.size 24 (.slice none 0 0)) := Lib.hid ((hB2.block _ (by omega)).trans HBT1.out)
  have hs2 := hB2.size
  obtain ⟨m, hm⟩ : ∃ m, m = L.length := ⟨_, rfl⟩
  rw [← hm] at hcu HLN ⊢
  have HMM := Lib.hid hm
  clear hrow hms hB2 hm HM1 HB1 HBT1
  go_wp2_with fail
  go_loopw [9] (fun i wr => ∃ (k : Nat) (q : Option Addr) (cq : Nat), i = .int .i64 k ∧ k ≤ m ∧ Hid (Boxed wr w.heap.size 24 (.slice q k cq)) ∧ Hid (wr.ownsRow w2.heap.size 48 2 (.slice q k cq) k (cellsL (nodesL f (L.take k)))) ∧ Hid (∀ k, k < w2.heap.size → k ≠ w.heap.size → wr.heap[k]? = w2.heap[k]?) ∧ Hid (Below w.heap.size w wr) ∧ w2.heap.size ≤ wr.heap.size) (fun i _ => m - (intOf i).toNat)
  case atStart => exact ⟨0, none, 0, rfl, Nat.zero_le _, HBT2, Lib.hid (World.ownsRow_nil _ _ _ _), Lib.hid (fun _ _ _ => rfl), HB2, Nat.le_refl _⟩
  case round =>
    obtain ⟨k, q, cq, rfl, hk, HBX, HRW, HKP, HBR, hszr⟩ := hrel
    by_cases hlt : k < m
    · have hd : decide ((k : Int) < (m : Int)) = true := by simp; omega
      have hd' : decide (k < m) = true := by simp; omega
      have hlm : m ≤ 1000000 := HLN.out
      have hkl : k < L.length := by rw [← HMM.out]; exact hlt
      obtain ⟨g, rfl, hg1, hg2, hcs⟩ := HMS.out (by omega)
      have c0 := hcs k hkl
      have hgd : L.getD k 0 = L[k] := by simp [List.getD, hkl]
      have HTK := Lib.hid (List.take_succ_eq_append_getElem hkl)
      have HIX := Lib.hid (HKI.out L[k] (List.getElem_mem hkl))
      rw [hgd] at c0
      obtain ⟨x, hx⟩ : ∃ x, x = L[k] := ⟨_, rfl⟩
      rw [← hx] at c0 HTK HIX
      have c1 : wr.cell? ⟨g, k, none⟩ = some (.int .i64 x) := cellOld c0 (HKP.out g hg2 (by omega))
      have HMR := Lib.hid (HM2.out.of_block (HKP.out b (by omega) (by omega)))
      have hgr : g < wr.heap.size := by omega
      have cb := HBX.out.cell
      have cf := HBX.out.frozen
      obtain ⟨y, hy⟩ : ∃ y, y = (f x).getD 0 := ⟨_, rfl⟩
      have HY := Lib.hid hy
      have HRA := Lib.hid (HRW.out.alloc (.cells #[.int .i64 x, .int .i64 y] 48))
      have HNW := Lib.hid (cells_new2 wr [.int .i64 x, .int .i64 y] 48)
      clear c0 hgd hkl hcs hx hy
      go_upto_region 4 with fail
      go_wp2_with (first
        | (at_lookup; refine wpList_look (he := Try.underlying3) rfl _ _ 59 rfl Try.underlying3 Try.underlying59 (zero_int _) b n _ rfl HMR.out x rfl HIX.out ?_; rw [← HY.out])
        | (at_builtin; refine wpList_append_own _ rfl _ _ 22 rfl w2.heap.size 48 i0 (.agg #[.int .i64 0, .int .i64 0]) 2 16 Try.underlying22 hi hz0 hz1 hz2 rfl (by decide) _ _ _ rfl HRA.out ⟨wr.heap.size, 0, none⟩ 1 1 [.int .i64 x, .int .i64 y] rfl rfl HNW.out (by simp [Value.oneCell']) (by have := HLN.out; unfold maxLen; omega) (by have := HLN.out; omega) (by simp; omega) ?_; intro v' w5 hown5 hgrow5 _; have HO5 := Lib.hid hown5; have HG5 : Hid ((wr.alloc (.cells #[.int .i64 x, .int .i64 y] 48)).grownBy w5 (Value.slice q k cq).ownBlock) := Lib.hid hgrow5; obtain ⟨q', cq', rfl⟩ := node_form hown5; have hs5 := hgrow5.size; have hb5 : Boxed w5 w.heap.size 24 (.slice q k cq) := (hgrow5.block w.heap.size (by simp; omega) (fun e => by have := (HRA.out.lt _ e.symm).1; omega)).trans ((Below.heap_alloc _ _ _ (by omega)).trans HBX.out); have cb5 := hb5.cell; have cf5 := hb5.frozen; have HBX5 := Lib.hid (Boxed.set (.slice q' (k + 1) cq') hb5); clear hown5 hgrow5 hb5))
      have HRS := Lib.hid (ownsRow_setCell_below HO5.out (a := ⟨w.heap.size, 0, none⟩) (by show w.heap.size < w2.heap.size; omega) (.slice q' (k + 1) cq'))
      have HGS := Lib.hid (grownBy_setCell' w5 w.heap.size (.slice q' (k + 1) cq'))
      have hss := HGS.out.size
      rw [World.size_alloc] at hs5
      have e1 : cellsL (nodesL f (L.take (k + 1))) = cellsL (nodesL f (L.take k)) ++ [.int .i64 x, .int .i64 y] := by rw [HTK.out, HY.out]; simp [nodesL, cellsL]
      refine ⟨⟨k + 1, q', cq', by go_num, by omega, HBX5, Lib.hid (by rw [e1]; exact HRS.out), Lib.hid (fun j hj hne => ?_), Lib.hid ?_, by omega⟩, by simp only [intOf]; omega⟩
      · refine (HGS.out.block j (by omega) (by simpa using hne)).trans ((HG5.out.block j (by rw [World.size_alloc]; omega) (fun e => by have := (HRA.out.lt _ e.symm).1; omega)).trans ((Below.heap_alloc _ _ _ (by omega)).trans (HKP.out j hj hne)))
      · exact ((HBR.out.alloc HBR.out.size (.cells #[.int .i64 x, .int .i64 y] 48)).grown HG5.out (by have := HBR.out.size; rw [World.size_alloc]; omega) (fun j e => by have := (HRA.out.lt _ e).1; omega)).grown HGS.out (by have := HBR.out.size; omega) (fun j e => by cases e; exact Nat.le_refl _)
    · have hd : decide ((k : Int) < (m : Int)) = false := by simp; omega
      have hd' : decide (k < m) = false := by simp; omega
      obtain rfl : k = m := by omega
      have cb := HBX.out.cell
      have cf := HBX.out.frozen
      have HRE : Hid (wr.ownsRow w2.heap.size 48 2 (.slice q k cq) (nodesL f L).length (cellsL (nodesL f L))) := Lib.hid (by
        have h := HRW.out
        rw [List.take_of_length_le (by rw [← HMM.out]; exact Nat.le_refl _)] at h
        have e : (nodesL f L).length = k := by unfold nodesL; rw [List.length_map, ← HMM.out]
        rw [e]; exact h)
      have HGE := Lib.hid (grownBy_setCell' wr w.heap.size (.slice q k cq))
      have hwrs : w.heap.size ≤ wr.heap.size := HBR.out.size
      go_wp2_with fail
      have cb5 := (Boxed.set (.slice q k cq) HBX.out).cell
      refine bodyPost_ret (v := .agg #[.slice q k cq]) (by simp [results, Try.results46, go_sem, cb5]) rfl ?_
      refine ⟨.slice q k cq, xs, rfl, HKS.out, ?_, HBR.out.grown HGE.out hwrs (fun j e => by cases e; exact Nat.le_refl _)⟩
      rw [← HLL.out]
      refine ⟨own_low (ownsRow_setCell_below HRE.out (a := ⟨w.heap.size, 0, none⟩) (by show w.heap.size < w2.heap.size; omega) _) (by omega), ?_⟩
      intro x hx
      obtain ⟨z, hz, rfl⟩ := List.mem_map.1 hx
      refine ⟨HKI.out z hz, ?_⟩
      show I64 ((f z).getD 0)
      cases h : f z with
      | none => exact I64.of (by simp)
      | some y => exact HV.out z y (HKI.out z hz) h
end Go.Proofs.Ytekdekchbnacgaa
