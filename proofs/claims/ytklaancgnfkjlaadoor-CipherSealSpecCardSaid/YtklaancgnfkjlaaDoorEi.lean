/- The walk of the law CipherPlaces. -/
import Derived.Test.YtklaancgnfkjlaaDoorEh
namespace Go.Proofs.YtklaancgnfkjlaaDoor
open Go.RowKit
set_option maxRecDepth 100000
set_option maxHeartbeats 2000000
set_option linter.unusedVariables false
set_option linter.unusedSimpArgs false

theorem and1023 (n : Int) : bits .and .i64 n 1023 = (((n % 1024).toNat : Nat) : Int) := by
  have h255 : (BitVec.ofInt 64 1023).toNat = 2 ^ 10 - 1 := by decide
  have key : (BitVec.ofInt 64 n &&& BitVec.ofInt 64 1023).toNat = (n % ((2 ^ 64 : Nat) : Int)).toNat % 2 ^ 10 := by
    rw [BitVec.toNat_and, BitVec.toNat_ofInt, h255, Nat.and_two_pow_sub_one_eq_mod]
  show IntKind.i64.wrap ((BitVec.ofInt 64 n &&& BitVec.ofInt 64 1023).toNat : Nat) = _
  rw [key, IntKind.wrap_i64]
  omega
theorem stream_take (kb nb l : List (BitVec 8)) (m : Nat) (hm : m ≤ l.length) : streamL kb nb (l.take m) = (streamL kb nb l).take m := by
  apply ext_getD (by rw [streamL_length, List.length_take, List.length_take, streamL_length])
  intro i hi
  rw [streamL_length, List.length_take] at hi
  have e : ∀ r : List (BitVec 8), (r.take m).getD i 0 = r.getD i 0 := fun r => by simp only [List.getD]; rw [List.getElem?_take, if_pos (by omega)]
  rw [stream_get _ _ _ _ (by rw [List.length_take]; omega), e, e, stream_get _ _ _ _ (by omega)]
theorem stream_xor (kb nb l : List (BitVec 8)) (i : Nat) (hi : i < l.length) : (streamL kb nb l).getD i 0 = l.getD i 0 ^^^ (streamL kb nb (List.replicate l.length 0)).getD i 0 := by
  rw [stream_get _ _ _ _ hi, stream_get _ _ _ _ (by simpa using hi)]
  simp [List.getD, hi]

theorem cipherPlaces_walk (kb nb ab : List (BitVec 8)) (va : Value) (z : Int) (w : World) (hk : kb.length = 32) (hn : nb.length = 12) (hva : BytesAt w va ab) (hT : Tabs w) :
    Calls Tryd.prog 7 #[.agg (kb.map v8).toArray, .agg (nb.map v8).toArray, va, .int .i64 z] w fun e w' => e = .returned (.bool true) ∧ Below w.heap.size w w' := by
  obtain ⟨q, hq⟩ : ∃ q, q = (z % 1024).toNat := ⟨_, rfl⟩
  have hq2 : q ≤ 1023 := by omega
  have hand : bits .and .i64 z 1023 = (q : Int) := by rw [and1023, hq]
  have hks : (kb.map v8).length = 32 := by simp [hk]
  have hns : (nb.map v8).length = 12 := by simp [hn]
  have hStr : ∀ (l : List (BitVec 8)) (m : Nat), l.length = m → m ≤ 400 → ∀ v w, BytesAt w v l → ConstTab w → Calls Tryd.prog 14 #[.agg (kb.map v8).toArray, .agg (nb.map v8).toArray, v] w fun e w' =>
      ∃ p c, e = .returned (.tuple #[.slice p m c, .int .i64 0]) ∧ BytesAt w' (.slice p m c) (streamL kb nb l) ∧ (0 < m → ∃ g, p = some ⟨g, 0, none⟩) ∧ m ≤ c ∧ Below w.heap.size w w' := fun l m hm hl v w h hT => by
    subst hm
    refine (stream_ok kb nb l v w hk hn (by omega) h hT).mono ?_
    rintro e w' ⟨v, rfl, hown, hB⟩
    obtain ⟨p, c, rfl, h1, h2⟩ := own_form hown
    exact ⟨p, c, rfl, BytesAt.of_own (B := w.heap.size) (by rw [streamL_length]; exact hown), fun h => by obtain ⟨g, e, _⟩ := h2 h; exact ⟨g, e⟩, h1, hB⟩
  obtain ⟨pa, ca, rfl, hca, hpa⟩ := bytes_form hva
  obtain ⟨n, hnl⟩ : ∃ n, n = ab.length := ⟨_, rfl⟩
  have hSt : ∀ a, a ≤ ab.length → streamL kb nb (ab.take a) = (streamL kb nb ab).take a := fun a h => stream_take kb nb ab a h
  have hSx : ∀ i, i < ab.length → (streamL kb nb ab).getD i 0 = ab.getD i 0 ^^^ (streamL kb nb (List.replicate ab.length 0)).getD i 0 := fun i h => stream_xor kb nb ab i h
  have hSs := stream_stream kb nb ab
  have hSn := streamL_length kb nb ab
  have hSz : (streamL kb nb (List.replicate ab.length 0)).length = ab.length := by rw [streamL_length, List.length_replicate]
  rw [← hnl] at hca hpa hSt hSx hSn hSz hva ⊢
  generalize kb.map v8 = kl at hks hStr ⊢
  generalize nb.map v8 = nl at hns hStr ⊢
  have HStr := Lib.hid hStr
  have HKS := Lib.hid hks
  have HNS := Lib.hid hns
  have HT := Lib.hid hT
  have HVA := Lib.hid hva
  have HSt := Lib.hid hSt
  have HSx := Lib.hid hSx
  have HSs := Lib.hid hSs
  have HSn := Lib.hid hSn
  have HSz := Lib.hid hSz
  have HNL := Lib.hid hnl
  clear hStr hks hns hT hq hva hSt hSx hSs hSn hSz hnl
  have hu23 := Tryd.underlying23
  have hu25 := Tryd.underlying25
  have hi23 : (Tryd.prog.info? 23).map (·.size) = some kl.length := by rw [HKS.out]; kernel_rfl
  have hi25 : (Tryd.prog.info? 25).map (·.size) = some nl.length := by rw [HNS.out]; kernel_rfl
  have HK0 := Lib.hid (boxes_K w kl.toArray nl.toArray)
  have HN0 := Lib.hid (alloc_new2 w (.cells kl.toArray 23) (.cells nl.toArray 25))
  have HB0 := Lib.hid (below_two w kl.toArray nl.toArray)
  go_enter Tryd.func7, Tryd.ntmps7
  go_wp2_with fail
  obtain ⟨w0, hw0⟩ : ∃ w0, w0 = (w.alloc (.cells kl.toArray 23)).alloc (.cells nl.toArray 25) := ⟨_, rfl⟩
  rw [← hw0] at HK0 HN0 HB0 ⊢
  clear hw0
  refine (sane_ok _ (HT.out.below HB0.out)).mono ?_
  rintro e w1 ⟨rfl, hB1⟩
  have HK1 := Lib.hid ((hB1.block _ (Array.getElem?_eq_some_iff.1 HK0.out).1).trans HK0.out)
  have HN1 := Lib.hid ((hB1.block _ (Array.getElem?_eq_some_iff.1 HN0.out).1).trans HN0.out)
  have HB1 := Lib.hid (HB0.out.trans (hB1.mono HB0.out.size))
  clear hB1 HK0 HN0 HB0
  by_cases hlb : 400 < n
  · have h1 : decide ((400 : Int) < (n : Int)) = true := by simp; omega
    go_wp2
    go_ret
    exact ⟨rfl, HB1.out⟩
  have h1 : decide ((400 : Int) < (n : Int)) = false := by simp; omega
  by_cases hl0 : n = 0
  · subst hl0
    go_wp2
    go_ret
    exact ⟨rfl, HB1.out⟩
  have h2 : decide ((n : Int) = 0) = false := by simp; omega
  have h3 : decide (n = 0) = false := by simp; omega
  obtain ⟨a, ha⟩ : ∃ a, a = q % (n + 1) := ⟨_, rfl⟩
  have hal : a ≤ n := by have := Nat.mod_lt q (show 0 < n + 1 by omega); omega
  have hrem : Int.tmod (q : Int) ((n : Int) + 1) = (a : Int) := by
    have e : ((q % (n + 1) : Nat) : Int) = (q : Int) % ((n : Int) + 1) := by simp
    rw [ha, Int.tmod_eq_emod_of_nonneg (by omega), e]
  obtain ⟨Z, hZ, hmk⟩ := make_bytes n (by omega)
  have HZ := Lib.hid hZ
  clear hZ ha
  obtain ⟨ga, oa, rfl⟩ := hpa (by omega)
  obtain ⟨N, hN⟩ : ∃ N, N = w.heap.size + 1 := ⟨_, rfl⟩
  rw [← hN] at HN1 ⊢
  clear hN hpa
  go_upto_region 7 with fail
  have hB2 : Below w1.heap.size w1 (w1.alloc (.cells Z 5)) := Below.al (Below.refl _ _) _
  have hz2 := bytes_zero (W := w1) HZ.out
  obtain ⟨w2, hw2⟩ : ∃ w2, w2 = w1.alloc (.cells Z 5) := ⟨_, rfl⟩
  rw [← hw2] at hB2 hz2 ⊢
  obtain ⟨gz, hgz⟩ : ∃ gz, gz = w1.heap.size := ⟨_, rfl⟩
  rw [← hgz] at hz2 ⊢
  have HZ2 := Lib.hid hz2
  clear hz2 hw2 hgz hmk
  have HK2 := Lib.hid ((hB2.block _ (Array.getElem?_eq_some_iff.1 HK1.out).1).trans HK1.out)
  have HN2 := Lib.hid ((hB2.block _ (Array.getElem?_eq_some_iff.1 HN1.out).1).trans HN1.out)
  have HB2 := Lib.hid (HB1.out.trans (hB2.mono HB1.out.size))
  clear hB2 HK1 HN1 HB1
  refine wp_region_lit ?_
  refine wpList_load_row rfl 23 _ rfl w.heap.size rfl 23 kl.toArray (0, 0) _ HK2.out hu23 rfl (by rw [List.size_toArray]; exact hi23) ?_
  refine wpList_load_row rfl 25 _ rfl N rfl 25 nl.toArray (0, 0) _ HN2.out hu25 rfl (by rw [List.size_toArray]; exact hi25) ?_
  go_wp2_with fail
  refine (HStr.out ab n HNL.out.symm (by omega) _ _ (HVA.out.below HB2.out) (HT.out.below HB2.out).const).mono ?_
  rintro e w3 ⟨px, cx, rfl, hbx, hpx, hcx, hB3⟩
  obtain ⟨gx, rfl⟩ := hpx (by omega)
  have HX3 := Lib.hid hbx
  clear hbx hpx
  have HK3 := Lib.hid ((hB3.block _ (Array.getElem?_eq_some_iff.1 HK2.out).1).trans HK2.out)
  have HN3 := Lib.hid ((hB3.block _ (Array.getElem?_eq_some_iff.1 HN2.out).1).trans HN2.out)
  have HZ3 := Lib.hid (HZ2.out.below hB3)
  have HB3 := Lib.hid (HB2.out.trans (hB3.mono HB2.out.size))
  clear hB3 HK2 HN2 HB2 HZ2
  go_upto_region 8 with fail
  refine wp_region_lit ?_
  refine wpList_load_row rfl 23 _ rfl w.heap.size rfl 23 kl.toArray (0, 0) _ HK3.out hu23 rfl (by rw [List.size_toArray]; exact hi23) ?_
  refine wpList_load_row rfl 25 _ rfl N rfl 25 nl.toArray (0, 0) _ HN3.out hu25 rfl (by rw [List.size_toArray]; exact hi25) ?_
  go_wp2_with fail
  refine (HStr.out (List.replicate n 0) n (by simp) (by omega) _ _ HZ3.out (HT.out.below HB3.out).const).mono ?_
  rintro e w4 ⟨pq, cq, rfl, hbq, hpq, hcq, hB4⟩
  obtain ⟨gq, rfl⟩ := hpq (by omega)
  have HQ4 := Lib.hid hbq
  clear hbq hpq
  have HK4 := Lib.hid ((hB4.block _ (Array.getElem?_eq_some_iff.1 HK3.out).1).trans HK3.out)
  have HN4 := Lib.hid ((hB4.block _ (Array.getElem?_eq_some_iff.1 HN3.out).1).trans HN3.out)
  have HX4 := Lib.hid (HX3.out.below hB4)
  have HB4 := Lib.hid (HB3.out.trans (hB4.mono HB3.out.size))
  clear hB4 HK3 HN3 HB3 HX3
  go_upto_region 9 with fail
  refine wp_region_lit ?_
  refine wpList_load_row rfl 23 _ rfl w.heap.size rfl 23 kl.toArray (0, 0) _ HK4.out hu23 rfl (by rw [List.size_toArray]; exact hi23) ?_
  refine wpList_load_row rfl 25 _ rfl N rfl 25 nl.toArray (0, 0) _ HN4.out hu25 rfl (by rw [List.size_toArray]; exact hi25) ?_
  go_wp2_with fail
  refine (HStr.out (streamL kb nb ab) n HSn.out (by omega) _ _ HX4.out (HT.out.below HB4.out).const).mono ?_
  rintro e w5 ⟨py, cy, rfl, hby, hpy, hcy, hB5⟩
  rw [HSs.out] at hby
  have HY5 := Lib.hid hby
  clear hby hpy
  have HK5 := Lib.hid ((hB5.block _ (Array.getElem?_eq_some_iff.1 HK4.out).1).trans HK4.out)
  have HN5 := Lib.hid ((hB5.block _ (Array.getElem?_eq_some_iff.1 HN4.out).1).trans HN4.out)
  have HX5 := Lib.hid (HX4.out.below hB5)
  have HQ5 := Lib.hid (HQ4.out.below hB5)
  have HB5 := Lib.hid (HB4.out.trans (hB5.mono HB4.out.size))
  clear hB5 HK4 HN4 HB4 HX4 HQ4
  go_upto_region 10 with fail
  have hrk : w5.drew.rangeAt w.heap.size 0 kl := range_new (t := 23) HK5.out
  have hrn : w5.drew.rangeAt N 0 nl := range_new (t := 25) HN5.out
  have sla : ∀ W, (Instr.sliceAt 28 (.slice (some ⟨ga, oa, none⟩) n ca) none (some (.int .i64 (a : Int))) none).run Tryd.prog W = .ok (.slice (some ⟨ga, oa, none⟩) a ca) W :=
    slice_to (P := Tryd.prog) 28 5 Tryd.underlying28 size5 ga oa n ca a (by omega) (by omega)
  refine wp_region_noPanic ?_
  refine region_sched (fun w' => w'.rangeAt w.heap.size 0 kl ∧ w'.rangeAt N 0 nl) 100 [(0, true), (1, true), (2, true), (3, true), (4, true), (5, false), (6, true), (7, true), (8, true), (9, true), (10, true)]
    (by kernel_rfl) (by kernel_rfl) (by kernel_rfl) rfl (fun _ _ _ _ h => h) ⟨hrk, hrn⟩ ?_
  refine sched_take rfl (by rfl) (fun W' hS => exec_load_mid _ _ _ _ rfl _ _ rfl _ _ hS.1 hu23 rfl hi23) ?_
  try simp only [Act.put, List.getElem_toArray, List.getElem_cons_zero, List.setIfInBounds_toArray, List.set_cons_zero, List.set_cons_succ]
  refine sched_take rfl (by rfl) (fun W' hS => exec_load_mid _ _ _ _ rfl _ _ rfl _ _ hS.2 hu25 rfl hi25) ?_
  try simp only [Act.put, List.getElem_toArray, List.getElem_cons_succ, List.getElem_cons_zero, List.setIfInBounds_toArray, List.set_cons_zero, List.set_cons_succ]
  refine sched_take (v := ?_) rfl (by rfl) (fun W' hS => ?_) ?_
  rotate_left
  · go_simp; with_reducible rfl
  try simp only [Act.put, List.getElem_toArray, List.getElem_cons_succ, List.getElem_cons_zero, List.setIfInBounds_toArray, List.set_cons_zero, List.set_cons_succ]
  refine sched_take (v := ?_) rfl (by rfl) (fun W' hS => ?_) ?_
  rotate_left
  · go_simp; with_reducible rfl
  try simp only [Act.put, List.getElem_toArray, List.getElem_cons_succ, List.getElem_cons_zero, List.setIfInBounds_toArray, List.set_cons_zero, List.set_cons_succ]
  refine sched_take (v := ?_) rfl (by rfl) (fun W' hS => ?_) ?_
  rotate_left
  · go_simp; with_reducible rfl
  try simp only [Act.put, List.getElem_toArray, List.getElem_cons_succ, List.getElem_cons_zero, List.setIfInBounds_toArray, List.set_cons_zero, List.set_cons_succ]
  refine sched_do rfl (fun K' hK => ?_)
  go_simp
  have hbt : BytesAt w5.drew (.slice (some ⟨ga, oa, none⟩) a ca) (ab.take a) := bytes_take (b := ab.drop a) (n := n) (by rw [List.take_append_drop]; exact HVA.out.below (w' := w5.drew) (HB5.out.trans ⟨rfl, rfl, rfl, Nat.le_refl _, fun _ _ => rfl⟩)) (by rw [List.length_take, ← HNL.out]; omega)
  refine (HStr.out (ab.take a) a (by rw [List.length_take, ← HNL.out]; omega) (by omega) _ _ hbt (HT.out.below (w' := w5.drew) (HB5.out.trans ⟨rfl, rfl, rfl, Nat.le_refl _, fun _ _ => rfl⟩)).const).mono ?_
  rintro e w6 ⟨pp, cp, rfl, hbp, -, hcp, hB6'⟩
  have hB6 : Below w5.heap.size w5 w6 := Below.tr (Below.dr (Below.refl _ _)) hB6'
  refine hK.out _ _ ⟨range_below (w := w5) hrk hB6, range_below (w := w5) hrn hB6⟩ fun _ => ?_
  rw [HSt.out a hal] at hbp
  have HP6 := Lib.hid hbp
  clear hK hbt hrk hrn hbp hB6' sla
  have HK6 := Lib.hid ((hB6.block _ (Array.getElem?_eq_some_iff.1 HK5.out).1).trans HK5.out)
  have HN6 := Lib.hid ((hB6.block _ (Array.getElem?_eq_some_iff.1 HN5.out).1).trans HN5.out)
  have HX6 := Lib.hid (HX5.out.below hB6)
  have HQ6 := Lib.hid (HQ5.out.below hB6)
  have HY6 := Lib.hid (HY5.out.below hB6)
  have HB6 := Lib.hid (HB5.out.trans (hB6.mono HB5.out.size))
  clear hB6 HK5 HN5 HB5 HX5 HQ5 HY5
  try simp only [Act.put, List.getElem_toArray, List.getElem_cons_succ, List.getElem_cons_zero, List.setIfInBounds_toArray, List.set_cons_zero, List.set_cons_succ]
  refine sched_take (v := ?_) rfl (by rfl) (fun W' hS => ?_) ?_
  rotate_left
  · go_simp; with_reducible rfl
  try simp only [Act.put, List.getElem_toArray, List.getElem_cons_succ, List.getElem_cons_zero, List.setIfInBounds_toArray, List.set_cons_zero, List.set_cons_succ]
  refine sched_take (v := ?_) rfl (by rfl) (fun W' hS => ?_) ?_
  rotate_left
  · go_simp; with_reducible rfl
  try simp only [Act.put, List.getElem_toArray, List.getElem_cons_succ, List.getElem_cons_zero, List.setIfInBounds_toArray, List.set_cons_zero, List.set_cons_succ]
  refine sched_take (v := ?_) rfl (by rfl) (fun W' hS => ?_) ?_
  rotate_left
  · go_simp; with_reducible rfl
  try simp only [Act.put, List.getElem_toArray, List.getElem_cons_succ, List.getElem_cons_zero, List.setIfInBounds_toArray, List.set_cons_zero, List.set_cons_succ]
  refine sched_take (v := ?_) rfl (by rfl) (fun W' hS => ?_) ?_
  rotate_left
  · go_simp; with_reducible rfl
  try simp only [Act.put, List.getElem_toArray, List.getElem_cons_succ, List.getElem_cons_zero, List.setIfInBounds_toArray, List.set_cons_zero, List.set_cons_succ]
  refine sched_take (v := ?_) rfl (by rfl) (fun W' hS => ?_) ?_
  rotate_left
  · go_simp; with_reducible rfl
  try simp only [Act.put, List.getElem_toArray, List.getElem_cons_succ, List.getElem_cons_zero, List.setIfInBounds_toArray, List.set_cons_zero, List.set_cons_succ]

  refine NoPanic.normal ?_
  go_upto_region 11 with fail
  have HVA6 := Lib.hid (HVA.out.below HB6.out)
  have hx6 := HX6.out
  rw [← List.take_append_drop a (streamL kb nb ab)] at hx6
  have hxa := bytes_take hx6 (m := a) (by rw [List.length_take, HSn.out]; omega)
  have hy6 := HY6.out
  have hv6 := HVA6.out
  have hp6 := HP6.out
  have cvy : ∀ q, (convert 28 9 (.slice py n cy)).run Tryd.prog (w6.drewN q) = .ok (.string (strB ab)) (w6.drewN q) := fun q => conv_ok (w := w6.drewN q) hy6
  have cva : ∀ q, (convert 28 9 (.slice (some ⟨ga, oa, none⟩) n ca)).run Tryd.prog (w6.drewN q) = .ok (.string (strB ab)) (w6.drewN q) := fun q => conv_ok (w := w6.drewN q) hv6
  have cvp : ∀ q, (convert 28 9 (.slice pp a cp)).run Tryd.prog (w6.drewN q) = .ok (.string (strB ((streamL kb nb ab).take a))) (w6.drewN q) := fun q => conv_ok (w := w6.drewN q) hp6
  have cvx : ∀ q, (convert 28 9 (.slice (some ⟨gx, 0, none⟩) a cx)).run Tryd.prog (w6.drewN q) = .ok (.string (strB ((streamL kb nb ab).take a))) (w6.drewN q) := fun q => conv_ok (w := w6.drewN q) hxa
  generalize strB ab = SA at cvy cva
  generalize strB ((streamL kb nb ab).take a) = SB at cvp cvx
  have slx : ∀ W, (Instr.sliceAt 28 (.slice (some ⟨gx, 0, none⟩) n cx) none (some (.int .i64 (a : Int))) none).run Tryd.prog W = .ok (.slice (some ⟨gx, 0, none⟩) a cx) W :=
    slice_to (P := Tryd.prog) 28 5 Tryd.underlying28 size5 gx 0 n cx a (by omega) (by omega)
  clear hx6 hxa hy6 hv6 hp6
  go_quiet (fail)
  clear cvy cva cvp cvx slx
  have HCX : Hid (∀ j, j < n → w6.cell? ⟨gx, j, none⟩ = some (.int .u8 ((streamL kb nb ab).getD j 0).toNat)) := Lib.hid fun j hj => by
    obtain ⟨p, c, he, -, -, hc⟩ := HX6.out
    obtain ⟨g, o, hp, hg⟩ := hc (by rw [HSn.out]; omega)
    rw [hp] at he
    obtain ⟨rfl, rfl⟩ : gx = g ∧ o = 0 := by
      simp only [Value.slice.injEq, Option.some.injEq, Addr.mk.injEq] at he
      exact ⟨he.1.1, he.1.2.1.symm⟩
    have := hg j (by rw [HSn.out]; exact hj)
    rw [Nat.zero_add] at this
    exact this
  have HCQ : Hid (∀ j, j < n → w6.cell? ⟨gq, j, none⟩ = some (.int .u8 ((streamL kb nb (List.replicate n 0)).getD j 0).toNat)) := Lib.hid fun j hj => by
    obtain ⟨p, c, he, -, -, hc⟩ := HQ6.out
    obtain ⟨g, o, hp, hg⟩ := hc (by rw [HSz.out]; omega)
    rw [hp] at he
    obtain ⟨rfl, rfl⟩ : gq = g ∧ o = 0 := by
      simp only [Value.slice.injEq, Option.some.injEq, Addr.mk.injEq] at he
      exact ⟨he.1.1, he.1.2.1.symm⟩
    have := hg j (by rw [HSz.out]; exact hj)
    rw [Nat.zero_add] at this
    exact this
  have HCA : Hid (∀ j, j < n → w6.cell? ⟨ga, oa + j, none⟩ = some (.int .u8 (ab.getD j 0).toNat)) := Lib.hid fun j hj => by
    obtain ⟨p, c, he, -, -, hc⟩ := HVA6.out
    obtain ⟨g, o, hp, hg⟩ := hc (by rw [← HNL.out]; omega)
    rw [hp] at he
    obtain ⟨rfl, rfl⟩ : ga = g ∧ oa = o := by
      simp only [Value.slice.injEq, Option.some.injEq, Addr.mk.injEq] at he
      exact ⟨he.1.1, he.1.2.1⟩
    exact hg j (by rw [← HNL.out]; exact hj)
  clear HX6 HQ6 HVA6 HY6 HP6 HK6 HN6
  go_wp2_with fail
  go_loopw [115] (fun x wr => ∃ (k q : Nat), x = .int .i64 k ∧ k ≤ n ∧ wr = w6.drewN q) (fun x _ => n - (intOf x).toNat)
  case atStart => exact ⟨0, _, rfl, Nat.zero_le _, rfl⟩
  case round =>
    obtain ⟨k, qq, rfl, hk, rfl⟩ := hrel
    by_cases hlt : k < n
    · have hd : decide ((k : Int) < (n : Int)) = true := by simp; omega
      have f1 := HCX.out k hlt
      have f2 := HCQ.out k hlt
      have f3 := HCA.out k hlt
      have hxr := HSx.out k hlt
      generalize (streamL kb nb ab).getD k 0 = bx at f1 hxr
      generalize (streamL kb nb (List.replicate n 0)).getD k 0 = bq at f2 hxr
      generalize ab.getD k 0 = ba at f3 hxr
      have hx8 := xor8 ba bq
      rw [← hxr] at hx8
      clear hxr
      have hk0 : (0 : Int) ≤ k := by omega
      have hkn : (k : Int) < n := by omega
      go_wp2
      go_quiet (fail)
      go_wp2
      exact ⟨⟨k + 1, _, by go_num, by omega, rfl⟩, by simp [intOf]; omega⟩
    · have hd : decide ((k : Int) < (n : Int)) = false := by simp; omega
      go_wp2
      go_ret
      exact ⟨rfl, HB6.out.trans ⟨rfl, rfl, rfl, Nat.le_refl _, fun _ _ => rfl⟩⟩
theorem cipherPlaces_w {H : Type} {enc : TypeId × Value → H} {base : Nat} (v0 : Value) (d0 : DataW H) (p0 : List MemPlace) {W : World} (h0 : DataW.Trod enc Tryd.prog W 0 (fun _ => true) true 23 v0 d0 p0) (o0 : Value.okWide Tryd.prog W .any base 23 v0)
    (v1 : Value) (d1 : DataW H) (p1 : List MemPlace) (h1 : DataW.Trod enc Tryd.prog W 0 (fun _ => true) true 25 v1 d1 p1) (o1 : Value.okWide Tryd.prog W .any base 25 v1)
    (v2 : Value) (d2 : DataW H) (p2 : List MemPlace) (h2 : DataW.Trod enc Tryd.prog W 0 (fun _ => true) true 28 v2 d2 p2) (o2 : Value.okWide Tryd.prog W .any base 28 v2)
    (z : Int) {Q : Prop} (_ : Q)
    (hL : laidMetH Tryd.prog Rows.cipherPlacesRow.laid W) :
    Calls Tryd.prog 7 #[v0, v1, v2, .int .i64 z] W fun e w' => e = .returned (.bool true) ∧ Below W.heap.size W w' := by
  obtain ⟨kb, rfl, hk⟩ := arrK h0 o0
  obtain ⟨nb, rfl, hn⟩ := arrN h1 o1
  obtain ⟨ab, b2, _⟩ := bytesIn h2 o2
  exact cipherPlaces_walk kb nb ab _ z W hk hn b2 (tabs_of hL)
end Go.Proofs.YtklaancgnfkjlaaDoor
