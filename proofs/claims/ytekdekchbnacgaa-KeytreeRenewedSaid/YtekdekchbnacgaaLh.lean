/- The reference: without. -/
import Derived.Test.YtekdekchbnacgaaLf
import Derived.Test.YtekdekchbnacgaaRo
import Derived.Test.YtekdekchbnacgaaKu
namespace Go.Proofs.Ytekdekchbnacgaa
open Go.RowKit
set_option maxRecDepth 100000
set_option linter.unusedVariables false
set_option linter.unusedSimpArgs false

/-- A tree without a device's leaf and the nodes above it. -/
noncomputable def withoutL (t : List (Int × Int)) (d : Int) : List (Int × Int) := t.filter fun e => !undB (512 + d) e.1
theorem withoutL_succ {t : List (Int × Int)} {d a q : Int} {k : Nat} (h : t.take (k + 1) = t.take k ++ [(a, q)]) : withoutL (t.take (k + 1)) d = withoutL (t.take k) d ++ if undB (512 + d) a = false then [(a, q)] else [] := by
  unfold withoutL
  rw [h, List.filter_append]
  congr 1
  cases hb : undB (512 + d) a <;> simp [hb]
theorem withoutL_length (t : List (Int × Int)) (d : Int) : (withoutL t d).length ≤ t.length := List.length_filter_le _ _
theorem cellsL_append (s t : List (Int × Int)) : cellsL (s ++ t) = cellsL s ++ cellsL t := by
  unfold cellsL; rw [List.flatMap_append]

set_option maxHeartbeats 1000000 in
theorem without_ok (t : List (Int × Int)) (v : Value) (d : Int) (w : World) (ht : NodesAt w v t) (hl : t.length ≤ 900000) (hd0 : 0 ≤ d) (hd1 : d < 512) :
    Calls Try.prog 49 #[.agg #[v], .int .i64 d] w fun e w' => ∃ u, e = .returned (.agg #[u]) ∧ w'.ownsRow w.heap.size 48 2 u (withoutL t d).length (cellsL (withoutL t d)) ∧ Below w.heap.size w w' := by
  obtain ⟨i0, hi, hz0, hz1, hzb⟩ := info_parts info_node
  obtain ⟨p, c, rfl, hc, -, hcell, hwf⟩ := ht
  have HC := Lib.hid hcell
  have HWF := Lib.hid hwf
  have hwr : IntKind.i64.wrap (512 + d) = 512 + d := by rw [IntKind.wrap_i64]; omega
  have HI : Hid (I64 (512 + d)) := Lib.hid (I64.of (by omega))
  obtain ⟨B, hB⟩ : ∃ B, B = w.heap.size := ⟨_, rfl⟩
  obtain ⟨W0, hW0⟩ : ∃ W0, W0 = ((w.alloc (.cells #[.slice p t.length c] 24)).alloc (.cells #[.slice none 0 0] 24)).alloc (.cells #[.slice none 0 0] 24) := ⟨_, rfl⟩
  have hb1 : Below B w W0 := by rw [hW0, hB]; exact (((Below.refl _ w).alloc (Nat.le_refl _) _).alloc (by simp) _).alloc (by simp; omega) _
  have hs0 : W0.heap.size = B + 3 := by rw [hW0, hB]; simp
  have cb : W0.cell? ⟨B, 0, none⟩ = some (.slice p t.length c) := by
    rw [hW0, hB]; unfold World.cell?
    rw [Below.heap_alloc _ _ _ (by simp; omega), Below.heap_alloc _ _ _ (by simp), World.alloc_heap_new]; rfl
  have hbr : Boxed W0 (B + 1) 24 (.slice none 0 0) := by
    rw [hW0, hB]
    refine (Below.heap_alloc _ _ _ (by simp)).trans ?_
    have h := World.alloc_heap_new (w.alloc (.cells #[.slice p t.length c] 24)) (.cells #[.slice none 0 0] 24)
    rw [World.size_alloc] at h
    exact h
  have hbx : Boxed W0 (B + 2) 24 (.slice none 0 0) := by
    rw [hW0, hB]
    have h := World.alloc_heap_new ((w.alloc (.cells #[.slice p t.length c] 24)).alloc (.cells #[.slice none 0 0] 24)) (.cells #[.slice none 0 0] 24)
    rw [World.size_alloc, World.size_alloc] at h
    exact h
  clear hcell hwf
  go_enter Try.func49, Try.ntmps49
  go_wp2_with fail
  rw [← hW0]
  rw [← hB]
  have HB0 := Lib.hid hb1
  have HBR := Lib.hid hbr
  have HBX := Lib.hid hbx
  obtain ⟨n, hn⟩ : ∃ n, n = t.length := ⟨_, rfl⟩
  have HN := Lib.hid hn
  rw [← hn] at hc hl cb
  have HR0 := Lib.hid (World.ownsRow_nil W0 (B + 3) 48 2)
  have HBW := Lib.hid hB
  obtain ⟨X, hX⟩ : ∃ X, X = B + 2 := ⟨_, rfl⟩
  rw [show B + 1 + 1 = X by omega]
  rw [← hX] at HBX
  have HXB : Hid (X = B + 2) := Lib.hid hX
  clear hW0 hb1 hn hbr hbx hB hX
  go_loopw [6] (fun i wr => ∃ (k m : Nat) (q : Option Addr) (cq : Nat), i = .int .i64 k ∧ k ≤ n ∧ m ≤ k ∧ Hid (m = (withoutL (t.take k) d).length) ∧ Hid (Boxed wr X 24 (.slice q m cq)) ∧ Hid (wr.ownsRow (B + 3) 48 2 (.slice q m cq) m (cellsL (withoutL (t.take k) d))) ∧ Hid (Below B w wr) ∧ Hid (Boxed wr (B + 1) 24 (.slice none 0 0)) ∧ wr.cell? ⟨B, 0, none⟩ = some (.slice p n c) ∧ B + 3 ≤ wr.heap.size) (fun i _ => n - (intOf i).toNat)
  case atStart => exact ⟨0, 0, none, 0, rfl, Nat.zero_le _, Nat.le_refl _, Lib.hid rfl, HBX, HR0, HB0, HBR, cb, by omega⟩
  case round =>
    obtain ⟨k, m, q, cq, rfl, hk, hmk, HM, HX, HRW, HB, HRS, cbr, hsz⟩ := hrel
    clear cb hs0
    by_cases hlt : k < n
    · have hd : decide ((k : Int) < (n : Int)) = true := by simp; omega
      have hd' : decide (k < n) = true := by simp; omega
      obtain ⟨g, o, rfl, hcs⟩ := HC.out (by rw [← HN.out]; omega)
      have HBw : Hid (Below w.heap.size w wr) := Lib.hid (by rw [← HBW.out]; exact HB.out)
      obtain ⟨a, pb, c1, c2, w1, w2, -, htk, -⟩ := node_at hcs HWF.out (by rw [← HN.out]; exact hlt) HBw.out
      have HS := Lib.hid (withoutL_succ (d := d) htk)
      have HU := Lib.hid (runder_ok (512 + d) a HI.out)
      obtain ⟨ub, hub⟩ : ∃ ub, ub = undB (512 + d) a := ⟨_, rfl⟩
      rw [← hub] at HU HS
      have cx := HX.out.cell
      have cxf := HX.out.frozen
      have HCS := Lib.hid (hcs k (by rw [← HN.out]; exact hlt))
      clear hcs htk w1 w2 hub
      go_wp2_with fail
      refine (HU.out wr).mono ?_
      rintro e w' ⟨rfl, rfl⟩
      cases ub with
      | true =>
        go_wp2_with fail
        refine ⟨⟨k + 1, m, q, cq, by go_num, by omega, by omega, ?_, HX, ?_, HB, HRS, cbr, hsz⟩, by simp only [intOf]; omega⟩
        · rw [HS.out, if_neg (by decide), List.append_nil]; exact HM
        · rw [HS.out, if_neg (by decide), List.append_nil]; exact HRW
      | false =>
        go_upto_region 6 with fail
        refine wp_region_noPanic ?_
        refine region_sched (fun W' => W'.cell? ⟨X, 0, none⟩ = some (.slice q m cq) ∧ W'.cell? ⟨B, 0, none⟩ = some (.slice (some ⟨g, o, none⟩) n c) ∧ W'.cell? ⟨g, o + k * 2, none⟩ = some (.int .i64 a) ∧ W'.cell? ⟨g, o + k * 2 + 1, none⟩ = some (.int .i64 pb)) 10 [(0, true), (1, true), (2, true), (3, true), (4, true), (5, true), (6, true), (7, false), (8, false), (9, false), (10, false)]
          (by kernel_rfl) (by kernel_rfl) (by kernel_rfl) rfl (fun _ _ _ _ h => h) ⟨cx, cbr, c1, c2⟩ ?_
        (refine sched_take (v := ?_) rfl (by rfl) (fun W' hS => ?_) ?_; rotate_left; (obtain ⟨s0, s1, s2, s3⟩ := hS; go_simp; with_reducible rfl); (try simp only [Act.put, List.getElem_toArray, List.getElem_cons_succ, List.getElem_cons_zero, List.setIfInBounds_toArray, List.set_cons_zero, List.set_cons_succ]))
        (refine sched_take (v := ?_) rfl (by rfl) (fun W' hS => ?_) ?_; rotate_left; (obtain ⟨s0, s1, s2, s3⟩ := hS; go_simp; with_reducible rfl); (try simp only [Act.put, List.getElem_toArray, List.getElem_cons_succ, List.getElem_cons_zero, List.setIfInBounds_toArray, List.set_cons_zero, List.set_cons_succ]))
        (refine sched_take (v := ?_) rfl (by rfl) (fun W' hS => ?_) ?_; rotate_left; (obtain ⟨s0, s1, s2, s3⟩ := hS; go_simp; with_reducible rfl); (try simp only [Act.put, List.getElem_toArray, List.getElem_cons_succ, List.getElem_cons_zero, List.setIfInBounds_toArray, List.set_cons_zero, List.set_cons_succ]))
        (refine sched_take (v := ?_) rfl (by rfl) (fun W' hS => ?_) ?_; rotate_left; (obtain ⟨s0, s1, s2, s3⟩ := hS; go_simp; with_reducible rfl); (try simp only [Act.put, List.getElem_toArray, List.getElem_cons_succ, List.getElem_cons_zero, List.setIfInBounds_toArray, List.set_cons_zero, List.set_cons_succ]))
        (refine sched_take (v := ?_) rfl (by rfl) (fun W' hS => ?_) ?_; rotate_left; (obtain ⟨s0, s1, s2, s3⟩ := hS; go_simp; with_reducible rfl); (try simp only [Act.put, List.getElem_toArray, List.getElem_cons_succ, List.getElem_cons_zero, List.setIfInBounds_toArray, List.set_cons_zero, List.set_cons_succ]))
        (refine sched_take (v := ?_) rfl (by rfl) (fun W' hS => ?_) ?_; rotate_left; (obtain ⟨s0, s1, s2, s3⟩ := hS; go_simp; with_reducible rfl); (try simp only [Act.put, List.getElem_toArray, List.getElem_cons_succ, List.getElem_cons_zero, List.setIfInBounds_toArray, List.set_cons_zero, List.set_cons_succ]))
        (refine sched_take (v := ?_) rfl (by rfl) (fun W' hS => ?_) ?_; rotate_left; (obtain ⟨s0, s1, s2, s3⟩ := hS; go_simp; with_reducible rfl); (try simp only [Act.put, List.getElem_toArray, List.getElem_cons_succ, List.getElem_cons_zero, List.setIfInBounds_toArray, List.set_cons_zero, List.set_cons_succ]))
        obtain ⟨Wd, hWd⟩ : ∃ W, W = wr.drew := ⟨_, rfl⟩
        have dx : Boxed Wd X 24 (.slice q m cq) := by rw [hWd]; exact HX.out
        have dxc := dx.cell
        have dxf := dx.frozen
        have db : Wd.cell? ⟨B, 0, none⟩ = some (.slice (some ⟨g, o, none⟩) n c) := by rw [hWd]; exact cbr
        have d1 : Wd.cell? ⟨g, o + k * 2, none⟩ = some (.int .i64 a) := by rw [hWd]; exact c1
        have d2 : Wd.cell? ⟨g, o + k * 2 + 1, none⟩ = some (.int .i64 pb) := by rw [hWd]; exact c2
        have HRWd : Hid (Wd.ownsRow (B + 3) 48 2 (.slice q m cq) m (cellsL (withoutL (t.take k) d))) := Lib.hid (by rw [hWd]; exact HRW.out)
        have HBd : Hid (Below B w Wd) := Lib.hid (by rw [hWd]; exact HB.out.trans ⟨rfl, rfl, rfl, Nat.le_refl _, fun _ _ => rfl⟩)
        have HRSd : Hid (Boxed Wd (B + 1) 24 (.slice none 0 0)) := Lib.hid (by rw [hWd]; exact HRS.out)
        have hszd : B + 3 ≤ Wd.heap.size := by rw [hWd]; exact hsz
        rw [← hWd]
        clear hWd cx cxf cbr c1 c2 HX HRW HB HRS hsz HBw
        refine sched_do rfl (fun K' hK => ?_)
        go_simp
        have HCN : Hid (RowAt (Wd.alloc (.cells #[.int .i64 a, .int .i64 pb] 48)) (.slice (some ⟨Wd.heap.size, 0, none⟩) 1 1) 2 1 [.int .i64 a, .int .i64 pb]) := Lib.hid (RowAt.of_own (World.ownsRow_lit (base := 0) (size := 2) (e := 48) Wd #[.int .i64 a, .int .i64 pb] 1 (Nat.zero_le _) (by unfold maxLen; omega) (by simp)))
        have HR5 := Lib.hid (HRWd.out.alloc (.cells #[.int .i64 a, .int .i64 pb] 48))
        have HB5 := Lib.hid (HBd.out.alloc (by omega) (.cells #[.int .i64 a, .int .i64 pb] 48))
        have bx5 : Boxed (Wd.alloc (.cells #[.int .i64 a, .int .i64 pb] 48)) X 24 (.slice q m cq) := (Below.heap_alloc _ _ _ (by have := HXB.out; omega)).trans dx
        have br5 : Hid (Boxed (Wd.alloc (.cells #[.int .i64 a, .int .i64 pb] 48)) (B + 1) 24 (.slice none 0 0)) := Lib.hid ((Below.heap_alloc _ _ _ (by omega)).trans HRSd.out)
        have d05 := cellOld db (Below.heap_alloc Wd (.cells #[.int .i64 a, .int .i64 pb] 48) _ (cellLt db))
        have d15 := cellOld d1 (Below.heap_alloc Wd (.cells #[.int .i64 a, .int .i64 pb] 48) _ (cellLt d1))
        have d25 := cellOld d2 (Below.heap_alloc Wd (.cells #[.int .i64 a, .int .i64 pb] 48) _ (cellLt d2))
        have hs5 : B + 3 ≤ (Wd.alloc (.cells #[.int .i64 a, .int .i64 pb] 48)).heap.size := by simp; omega
        have hgB : Hid (g < B) := Lib.hid (by rw [HBW.out]; have h := cellLt (HCS.out).1; exact h)
        obtain ⟨W5, hW5⟩ : ∃ W, W = Wd.alloc (.cells #[.int .i64 a, .int .i64 pb] 48) := ⟨_, rfl⟩
        rw [← hW5] at HCN HR5 HB5 bx5 br5 d05 d15 d25 hs5 ⊢
        clear hW5 dx dxc dxf db d1 d2 HRWd HBd HRSd hszd
        have b5c := bx5.cell
        refine hK.out _ _ ⟨b5c, d05, d15, d25⟩ fun _ => ?_
        clear hK
        (try simp only [Act.put, List.getElem_toArray, List.getElem_cons_succ, List.getElem_cons_zero, List.setIfInBounds_toArray, List.set_cons_zero, List.set_cons_succ])
        refine sched_do rfl (fun K' hK => ?_)
        rw [if_pos (by rfl)]
        refine wp_append_row _ _ 22 rfl (B + 3) 48 i0 (.agg #[.int .i64 0, .int .i64 0]) 2 16 Try.underlying22 hi hz0 hz1 hzb rfl (by decide) (.slice q m cq) _ _ rfl HR5.out _ _ _ rfl HCN.out (by simp [Value.oneCell']) (by unfold maxLen; omega) (by omega) hs5 ?_
        intro v' w6 hown hgrow
        obtain ⟨q', cq', rfl⟩ := node_form hown
        have HR6 := Lib.hid hown
        have HB6 := Lib.hid (HB5.out.grown hgrow (by omega) (fun j hj => by have := (HR5.out.lt j hj).1; omega))
        have bx6 : Boxed w6 X 24 (.slice q m cq) := (hgrow.block X bx5.lt (fun h => by have := (HR5.out.lt _ h.symm).1; have := HXB.out; omega)).trans bx5
        have br6 : Hid (Boxed w6 (B + 1) 24 (.slice none 0 0)) := Lib.hid ((hgrow.block (B + 1) (by omega) (fun h => by have := (HR5.out.lt _ h.symm).1; omega)).trans br5.out)
        have d06 := cellOld d05 (hgrow.block _ (cellLt d05) (fun h => by have := (HR5.out.lt _ h.symm).1; simp at this; omega))
        have d16 := cellOld d15 (hgrow.block _ (cellLt d15) (fun h => by have h1 : B + 3 ≤ g := (HR5.out.lt _ h.symm).1; have := hgB.out; omega))
        have d26 := cellOld d25 (hgrow.block _ (cellLt d25) (fun h => by have h1 : B + 3 ≤ g := (HR5.out.lt _ h.symm).1; have := hgB.out; omega))
        have hs6 := hgrow.size
        have b6c := bx6.cell
        have b6f := bx6.frozen
        clear hown hgrow HR5 HB5 bx5 br5 b5c
        refine hK.out _ _ ⟨b6c, d06, d16, d26⟩ fun _ => ?_
        clear hK
        (try simp only [Act.put, List.getElem_toArray, List.getElem_cons_succ, List.getElem_cons_zero, List.setIfInBounds_toArray, List.set_cons_zero, List.set_cons_succ])
        refine sched_do rfl (fun K' hK => ?_)
        go_simp
        refine hK.out _ _ ⟨b6c, d06, d16, d26⟩ fun _ => ?_
        clear hK
        (try simp only [Act.put, List.getElem_toArray, List.getElem_cons_succ, List.getElem_cons_zero, List.setIfInBounds_toArray, List.set_cons_zero, List.set_cons_succ])
        refine sched_end rfl (fun K' hK => ?_)
        go_simp
        refine hK.out _ _ ?_
        clear hK
        refine NoPanic.normal ?_
        have HX7 := Lib.hid (Boxed.set (.slice q' (m + 1) cq') bx6)
        have HG7 := Lib.hid (grownBy_setCell' w6 X (.slice q' (m + 1) cq'))
        have HR7 := Lib.hid (ownsRow_setCell_below HR6.out (a := ⟨X, 0, none⟩) (by show X < B + 3; have := HXB.out; omega) (.slice q' (m + 1) cq'))
        have HB7 := Lib.hid (HB6.out.grown HG7.out (by omega) (fun j e => by cases e; have := HXB.out; omega))
        have HBR7 : Hid (Boxed (w6.setCell ⟨X, 0, none⟩ (.slice q' (m + 1) cq')) (B + 1) 24 (.slice none 0 0)) := Lib.hid ((HG7.out.block (B + 1) (by omega) (by have := HXB.out; simp; omega)).trans br6.out)
        have d07 := cellOld d06 (HG7.out.block _ (cellLt d06) (by have := HXB.out; simp; omega))
        have hs7 := HG7.out.size
        clear bx6 b6c b6f d06 d16 d26 d05 d15 d25 HR6 HB6 br6
        go_wp2_with fail
        refine ⟨⟨k + 1, m + 1, q', cq', by go_num, by omega, by omega, Lib.hid ?_, HX7, Lib.hid ?_, HB7, HBR7, d07, by omega⟩, by simp only [intOf]; omega⟩
        · rw [HS.out, if_pos trivial, List.length_append, ← HM.out]; rfl
        · rw [HS.out, if_pos trivial, cellsL_append]; exact HR7.out
    · have hd : decide ((k : Int) < (n : Int)) = false := by simp; omega
      have hd' : decide (k < n) = false := by simp; omega
      obtain rfl : k = n := by omega
      have cx := HX.out.cell
      have cr := HRS.out.cell
      have crf := HRS.out.frozen
      have HG7 := Lib.hid (grownBy_setCell' wr (B + 1) (.slice q m cq))
      have HR7 := Lib.hid (ownsRow_setCell_below HRW.out (a := ⟨B + 1, 0, none⟩) (by show B + 1 < B + 3; omega) (.slice q m cq))
      have HB7 := Lib.hid (HB.out.grown HG7.out (by omega) (fun j e => by cases e; omega))
      have HWL : Hid (withoutL (t.take k) d = withoutL t d) := Lib.hid (by rw [HN.out, List.take_length])
      go_wp2_with fail
      have cb5 := (Boxed.set (.slice q m cq) HRS.out).cell
      refine bodyPost_ret (v := .agg #[.slice q m cq]) (by simp [results, Try.results49, go_sem, cb5]) rfl ?_
      rw [← HBW.out, ← HWL.out, ← HM.out]
      exact ⟨_, rfl, row_low HR7.out (by omega), HB7.out⟩
end Go.Proofs.Ytekdekchbnacgaa
