/- The reference: with. -/
import Derived.Test.YtekdekchbnacgaaLh
import Derived.BigQuiet
namespace Go.Proofs.Ytekdekchbnacgaa
open Go.RowKit
set_option maxRecDepth 100000
set_option linter.unusedVariables false
set_option linter.unusedSimpArgs false

/-- A tree with a node, ahead of the first one with a greater number. -/
def withL (z : Int × Int) : List (Int × Int) → List (Int × Int)
  | [] => [z]
  | x :: r => if z.1 < x.1 then z :: x :: r else x :: withL z r
theorem withL_length (z : Int × Int) : ∀ l, (withL z l).length = l.length + 1
  | [] => rfl
  | x :: r => by
    unfold withL
    split
    · rfl
    · simp [withL_length z r]
theorem drop_of_take {t : List (Int × Int)} {k : Nat} {y : Int × Int} (h : t.take (k + 1) = t.take k ++ [y]) : t.drop k = y :: t.drop (k + 1) := by
  have h1 := List.take_append_drop (k + 1) t
  have h2 := List.take_append_drop k t
  rw [h, List.append_assoc] at h1
  have h3 := List.append_cancel_left (h1.trans h2.symm)
  exact h3.symm
/-- What is left to be done, behind the first k nodes. -/
def WithAt (t : List (Int × Int)) (z : Int × Int) (k : Nat) (mt : Bool) (A : List (Int × Int)) : Prop :=
  (if mt = true then A ++ t.drop k else A ++ withL z (t.drop k)) = withL z t
theorem withAt_zero (t : List (Int × Int)) (z : Int × Int) : WithAt t z 0 false [] := by simp [WithAt]
theorem withAt_met {t : List (Int × Int)} {z y : Int × Int} {k : Nat} {A : List (Int × Int)} (h : WithAt t z k true A) (ht : t.take (k + 1) = t.take k ++ [y]) : WithAt t z (k + 1) true (A ++ [y]) := by
  unfold WithAt at *
  rw [drop_of_take ht] at h
  simpa using h
theorem withAt_put {t : List (Int × Int)} {z y : Int × Int} {k : Nat} {A : List (Int × Int)} (h : WithAt t z k false A) (ht : t.take (k + 1) = t.take k ++ [y]) (hz : z.1 < y.1) : WithAt t z (k + 1) true (A ++ [z] ++ [y]) := by
  unfold WithAt at *
  rw [drop_of_take ht] at h
  conv at h => lhs; unfold withL
  rw [if_neg (by decide), if_pos hz] at h
  simpa using h
theorem withAt_not {t : List (Int × Int)} {z y : Int × Int} {k : Nat} {A : List (Int × Int)} (h : WithAt t z k false A) (ht : t.take (k + 1) = t.take k ++ [y]) (hz : ¬ z.1 < y.1) : WithAt t z (k + 1) false (A ++ [y]) := by
  unfold WithAt at *
  rw [drop_of_take ht] at h
  conv at h => lhs; unfold withL
  rw [if_neg (by decide), if_neg hz] at h
  simpa using h
theorem withAt_end {t : List (Int × Int)} {z : Int × Int} {k : Nat} {A : List (Int × Int)} (h : WithAt t z k true A) (hk : t.length ≤ k) : A = withL z t := by
  unfold WithAt at h
  rw [List.drop_of_length_le hk] at h
  simpa using h
theorem withAt_end2 {t : List (Int × Int)} {z : Int × Int} {k : Nat} {A : List (Int × Int)} (h : WithAt t z k false A) (hk : t.length ≤ k) : A ++ [z] = withL z t := by
  unfold WithAt at h
  rw [List.drop_of_length_le hk] at h
  simpa [withL] using h

set_option maxHeartbeats 2000000 in
theorem with_ok (t : List (Int × Int)) (v : Value) (z y : Int) (w : World) (ht : NodesAt w v t) (hl : t.length ≤ 900000) :
    Calls Try.prog 48 #[.agg #[v], .agg #[.int .i64 z, .int .i64 y]] w fun e w' => ∃ u, e = .returned (.agg #[u]) ∧ w'.ownsRow w.heap.size 48 2 u (withL (z, y) t).length (cellsL (withL (z, y) t)) ∧ Below w.heap.size w w' := by
  obtain ⟨i0, hi, hz0, hz1, hzb⟩ := info_parts info_node
  obtain ⟨p, c, rfl, hc, -, hcell, hwf⟩ := ht
  have HC := Lib.hid hcell
  have HWF := Lib.hid hwf
  obtain ⟨B, hB⟩ : ∃ B, B = w.heap.size := ⟨_, rfl⟩
  obtain ⟨W0, hW0⟩ : ∃ W0, W0 = (((w.alloc (.cells #[.slice p t.length c] 24)).alloc (.cells #[.int .i64 z, .int .i64 y] 48)).alloc (.cells #[.slice none 0 0] 24)).alloc (.cells #[.slice none 0 0] 24) := ⟨_, rfl⟩
  have hb1 : Below B w W0 := by rw [hW0, hB]; exact ((((Below.refl _ w).alloc (Nat.le_refl _) _).alloc (by simp) _).alloc (by simp; omega) _).alloc (by simp; omega) _
  have hs0 : W0.heap.size = B + 4 := by rw [hW0, hB]; simp
  have cb : W0.cell? ⟨B, 0, none⟩ = some (.slice p t.length c) := by
    rw [hW0, hB]; unfold World.cell?
    rw [Below.heap_alloc _ _ _ (by simp; omega), Below.heap_alloc _ _ _ (by simp; omega), Below.heap_alloc _ _ _ (by simp), World.alloc_heap_new]; rfl
  have hbz : W0.heap[B + 1]? = some (.cells #[.int .i64 z, .int .i64 y] 48) := by
    rw [hW0, hB]
    rw [Below.heap_alloc _ _ _ (by simp), Below.heap_alloc _ _ _ (by simp)]
    have h := World.alloc_heap_new (w.alloc (.cells #[.slice p t.length c] 24)) (.cells #[.int .i64 z, .int .i64 y] 48)
    rw [World.size_alloc] at h
    exact h
  have hbr : Boxed W0 (B + 2) 24 (.slice none 0 0) := by
    rw [hW0, hB]
    refine (Below.heap_alloc _ _ _ (by simp)).trans ?_
    have h := World.alloc_heap_new ((w.alloc (.cells #[.slice p t.length c] 24)).alloc (.cells #[.int .i64 z, .int .i64 y] 48)) (.cells #[.slice none 0 0] 24)
    rw [World.size_alloc, World.size_alloc] at h
    exact h
  have hbx : Boxed W0 (B + 3) 24 (.slice none 0 0) := by
    rw [hW0, hB]
    have h := World.alloc_heap_new (((w.alloc (.cells #[.slice p t.length c] 24)).alloc (.cells #[.int .i64 z, .int .i64 y] 48)).alloc (.cells #[.slice none 0 0] 24)) (.cells #[.slice none 0 0] 24)
    rw [World.size_alloc, World.size_alloc, World.size_alloc] at h
    exact h
  clear hcell hwf
  go_enter Try.func48, Try.ntmps48
  go_wp2_with fail
  rw [← hW0]
  rw [← hB]
  have HBX := Lib.hid hbx
  obtain ⟨n, hn⟩ : ∃ n, n = t.length := ⟨_, rfl⟩
  have HN := Lib.hid hn
  rw [← hn] at hc hl cb
  have HR0 := Lib.hid (World.ownsRow_nil W0 (B + 4) 48 2)
  have HBW := Lib.hid hB
  obtain ⟨X, hX⟩ : ∃ X, X = B + 3 := ⟨_, rfl⟩
  obtain ⟨R, hR⟩ : ∃ R, R = B + 2 := ⟨_, rfl⟩
  obtain ⟨Z, hZ⟩ : ∃ Z, Z = B + 1 := ⟨_, rfl⟩
  rw [show B + 1 + 1 + 1 = X by omega]
  rw [show B + 1 + 1 = R by omega]
  rw [← hZ] at hbz ⊢
  rw [← hX] at HBX
  rw [← hR] at hbr
  have HAD : Hid (X = B + 3 ∧ R = B + 2 ∧ Z = B + 1) := Lib.hid ⟨hX, hR, hZ⟩
  have HBZ := Lib.hid hbz
  have HCB := Lib.hid cb
  have HBR := Lib.hid hbr
  have HB0 := Lib.hid hb1
  have HS0 := Lib.hid hs0
  clear hW0 hb1 hn hbr hbx hB hX hR hZ hbz cb hs0
  go_loopw [6, 7] (fun b i wr => ∃ (k m : Nat) (mt : Bool) (A : List (Int × Int)) (q : Option Addr) (cq : Nat), b = .bool mt ∧ i = .int .i64 k ∧ k ≤ n ∧ m ≤ k + 1 ∧ Hid (mt = false → m ≤ k) ∧ Hid (m = A.length) ∧ Hid (WithAt t (z, y) k mt A) ∧ Hid (Boxed wr X 24 (.slice q m cq)) ∧ Hid (wr.ownsRow (B + 4) 48 2 (.slice q m cq) m (cellsL A)) ∧ Hid (Below B w wr) ∧ Hid (∀ j, j < B + 3 → wr.heap[j]? = W0.heap[j]?) ∧ B + 4 ≤ wr.heap.size) (fun _ i _ => n - (intOf i).toNat)
  case atStart => exact ⟨0, 0, false, [], none, 0, rfl, rfl, Nat.zero_le _, Nat.zero_le _, Lib.hid (fun _ => Nat.le_refl _), Lib.hid rfl, Lib.hid (withAt_zero _ _), HBX, HR0, HB0, Lib.hid (fun _ _ => rfl), by rw [HS0.out]; exact Nat.le_refl _⟩
  case round =>
    obtain ⟨k, m, mt, A, q, cq, rfl, rfl, hk, hmk, HMK, HM, HW, HX, HRW, HB, HK, hsz⟩ := hrel
    have cbr : wr.cell? ⟨B, 0, none⟩ = some (.slice p n c) := cellOld HCB.out (HK.out B (by omega))
    by_cases hlt : k < n
    · have hd : decide ((k : Int) < (n : Int)) = true := by simp; omega
      have hd' : decide (k < n) = true := by simp; omega
      obtain ⟨g, o, rfl, hcs⟩ := HC.out (by rw [← HN.out]; omega)
      have HBw : Hid (Below w.heap.size w wr) := Lib.hid (by rw [← HBW.out]; exact HB.out)
      obtain ⟨a, pb, c1, c2, w1, w2, -, htk, -⟩ := node_at hcs HWF.out (by rw [← HN.out]; exact hlt) HBw.out
      have HTK := Lib.hid htk
      have HGB : Hid (g < B) := Lib.hid (by rw [HBW.out]; have h := cellLt (hcs k (by rw [← HN.out]; exact hlt)).1; exact h)
      clear hcs htk w1 w2 HBw
      cases mt with
      | true =>
        go_upto_region 6 with fail
        go_quiet (fail)
        obtain ⟨V, hV⟩ : ∃ W, W = wr.drewN nq := ⟨_, rfl⟩
        have HXV : Hid (Boxed V X 24 (.slice q m cq)) := Lib.hid (by rw [hV]; exact HX.out)
        have HRV : Hid (V.ownsRow (B + 4) 48 2 (.slice q m cq) m (cellsL A)) := Lib.hid (by rw [hV]; exact HRW.out)
        have HBV : Hid (Below B w V) := Lib.hid (by rw [hV]; exact HB.out.trans ⟨rfl, rfl, rfl, Nat.le_refl _, fun _ _ => rfl⟩)
        have HKV : Hid (∀ j, j < B + 3 → V.heap[j]? = W0.heap[j]?) := Lib.hid (by rw [hV]; exact HK.out)
        have hszV : B + 4 ≤ V.heap.size := by rw [hV]; exact hsz
        have v1 : V.cell? ⟨g, o + k * 2, none⟩ = some (.int .i64 a) := by rw [hV]; exact c1
        have v2 : V.cell? ⟨g, o + k * 2 + 1, none⟩ = some (.int .i64 pb) := by rw [hV]; exact c2
        have vb : V.cell? ⟨B, 0, none⟩ = some (.slice (some ⟨g, o, none⟩) n c) := by rw [hV]; exact cbr
        rw [← hV]
        clear hV HX HRW HB HK hsz c1 c2 cbr
        go_wp2_with fail
        have vx := HXV.out.cell
        go_upto_region 9 with fail
        refine wp_region_noPanic ?_
        refine region_sched (fun W' => W'.cell? ⟨X, 0, none⟩ = some (.slice q (m) cq) ∧ W'.cell? ⟨B, 0, none⟩ = some (.slice (some ⟨g, o, none⟩) n c) ∧ W'.cell? ⟨g, o + k * 2, none⟩ = some (.int .i64 a) ∧ W'.cell? ⟨g, o + k * 2 + 1, none⟩ = some (.int .i64 pb)) 10 [(0, true), (1, true), (2, true), (3, true), (4, true), (5, true), (6, true), (7, false), (8, false), (9, false), (10, false)]
          (by kernel_rfl) (by kernel_rfl) (by kernel_rfl) rfl (fun _ _ _ _ h => h) ⟨vx, vb, v1, v2⟩ ?_
        (refine sched_take (v := ?_) rfl (by rfl) (fun W' hS => ?_) ?_; rotate_left; (obtain ⟨s0, s1, s2, s3⟩ := hS; go_simp; with_reducible rfl); (try simp only [Act.put, List.getElem_toArray, List.getElem_cons_succ, List.getElem_cons_zero, List.setIfInBounds_toArray, List.set_cons_zero, List.set_cons_succ]))
        (refine sched_take (v := ?_) rfl (by rfl) (fun W' hS => ?_) ?_; rotate_left; (obtain ⟨s0, s1, s2, s3⟩ := hS; go_simp; with_reducible rfl); (try simp only [Act.put, List.getElem_toArray, List.getElem_cons_succ, List.getElem_cons_zero, List.setIfInBounds_toArray, List.set_cons_zero, List.set_cons_succ]))
        (refine sched_take (v := ?_) rfl (by rfl) (fun W' hS => ?_) ?_; rotate_left; (obtain ⟨s0, s1, s2, s3⟩ := hS; go_simp; with_reducible rfl); (try simp only [Act.put, List.getElem_toArray, List.getElem_cons_succ, List.getElem_cons_zero, List.setIfInBounds_toArray, List.set_cons_zero, List.set_cons_succ]))
        (refine sched_take (v := ?_) rfl (by rfl) (fun W' hS => ?_) ?_; rotate_left; (obtain ⟨s0, s1, s2, s3⟩ := hS; go_simp; with_reducible rfl); (try simp only [Act.put, List.getElem_toArray, List.getElem_cons_succ, List.getElem_cons_zero, List.setIfInBounds_toArray, List.set_cons_zero, List.set_cons_succ]))
        (refine sched_take (v := ?_) rfl (by rfl) (fun W' hS => ?_) ?_; rotate_left; (obtain ⟨s0, s1, s2, s3⟩ := hS; go_simp; with_reducible rfl); (try simp only [Act.put, List.getElem_toArray, List.getElem_cons_succ, List.getElem_cons_zero, List.setIfInBounds_toArray, List.set_cons_zero, List.set_cons_succ]))
        (refine sched_take (v := ?_) rfl (by rfl) (fun W' hS => ?_) ?_; rotate_left; (obtain ⟨s0, s1, s2, s3⟩ := hS; go_simp; with_reducible rfl); (try simp only [Act.put, List.getElem_toArray, List.getElem_cons_succ, List.getElem_cons_zero, List.setIfInBounds_toArray, List.set_cons_zero, List.set_cons_succ]))
        (refine sched_take (v := ?_) rfl (by rfl) (fun W' hS => ?_) ?_; rotate_left; (obtain ⟨s0, s1, s2, s3⟩ := hS; go_simp; with_reducible rfl); (try simp only [Act.put, List.getElem_toArray, List.getElem_cons_succ, List.getElem_cons_zero, List.setIfInBounds_toArray, List.set_cons_zero, List.set_cons_succ]))
        obtain ⟨Wd, hWd⟩ : ∃ W, W = V.drew := ⟨_, rfl⟩
        have dx : Boxed Wd X 24 (.slice q (m) cq) := by rw [hWd]; exact HXV.out
        have db : Wd.cell? ⟨B, 0, none⟩ = some (.slice (some ⟨g, o, none⟩) n c) := by rw [hWd]; exact vb
        have d1 : Wd.cell? ⟨g, o + k * 2, none⟩ = some (.int .i64 a) := by rw [hWd]; exact v1
        have d2 : Wd.cell? ⟨g, o + k * 2 + 1, none⟩ = some (.int .i64 pb) := by rw [hWd]; exact v2
        have HRWd : Hid (Wd.ownsRow (B + 4) 48 2 (.slice q (m) cq) (m) (cellsL (A))) := Lib.hid (by rw [hWd]; exact HRV.out)
        have HBd : Hid (Below B w Wd) := Lib.hid (by rw [hWd]; exact HBV.out.trans ⟨rfl, rfl, rfl, Nat.le_refl _, fun _ _ => rfl⟩)
        have HKd : Hid (∀ j, j < B + 3 → Wd.heap[j]? = W0.heap[j]?) := Lib.hid (by rw [hWd]; exact HKV.out)
        have hszd : B + 4 ≤ Wd.heap.size := by rw [hWd]; exact hszV
        rw [← hWd]
        clear hWd vx vb v1 v2 HXV HRV HBV HKV hszV
        refine sched_do rfl (fun K' hK => ?_)
        go_simp
        have HCN : Hid (RowAt (Wd.alloc (.cells #[.int .i64 a, .int .i64 pb] 48)) (.slice (some ⟨Wd.heap.size, 0, none⟩) 1 1) 2 1 [.int .i64 a, .int .i64 pb]) := Lib.hid (RowAt.of_own (World.ownsRow_lit (base := 0) (size := 2) (e := 48) Wd #[.int .i64 a, .int .i64 pb] 1 (Nat.zero_le _) (by unfold maxLen; omega) (by simp)))
        have HR5 := Lib.hid (HRWd.out.alloc (.cells #[.int .i64 a, .int .i64 pb] 48))
        have HB5 := Lib.hid (HBd.out.alloc (by omega) (.cells #[.int .i64 a, .int .i64 pb] 48))
        have bx5 : Boxed (Wd.alloc (.cells #[.int .i64 a, .int .i64 pb] 48)) X 24 (.slice q (m) cq) := (Below.heap_alloc _ _ _ (by have := HAD.out; omega)).trans dx
        have HK5 : Hid (∀ j, j < B + 3 → (Wd.alloc (.cells #[.int .i64 a, .int .i64 pb] 48)).heap[j]? = W0.heap[j]?) := Lib.hid (fun j hj => (Below.heap_alloc _ _ _ (by omega)).trans (HKd.out j hj))
        have d05 := cellOld db (Below.heap_alloc Wd (.cells #[.int .i64 a, .int .i64 pb] 48) _ (cellLt db))
        have d15 := cellOld d1 (Below.heap_alloc Wd (.cells #[.int .i64 a, .int .i64 pb] 48) _ (cellLt d1))
        have d25 := cellOld d2 (Below.heap_alloc Wd (.cells #[.int .i64 a, .int .i64 pb] 48) _ (cellLt d2))
        have hs5 : B + 4 ≤ (Wd.alloc (.cells #[.int .i64 a, .int .i64 pb] 48)).heap.size := by simp; omega
        obtain ⟨W5, hW5⟩ : ∃ W, W = Wd.alloc (.cells #[.int .i64 a, .int .i64 pb] 48) := ⟨_, rfl⟩
        rw [← hW5] at HCN HR5 HB5 bx5 HK5 d05 d15 d25 hs5 ⊢
        clear hW5 dx db d1 d2 HRWd HBd HKd hszd
        have b5c := bx5.cell
        refine hK.out _ _ ⟨b5c, d05, d15, d25⟩ fun _ => ?_
        clear hK
        (try simp only [Act.put, List.getElem_toArray, List.getElem_cons_succ, List.getElem_cons_zero, List.setIfInBounds_toArray, List.set_cons_zero, List.set_cons_succ])
        refine sched_do rfl (fun K' hK => ?_)
        rw [if_pos (by rfl)]
        refine wp_append_row _ _ 22 rfl (B + 4) 48 i0 (.agg #[.int .i64 0, .int .i64 0]) 2 16 Try.underlying22 hi hz0 hz1 hzb rfl (by decide) (.slice q (m) cq) _ _ rfl HR5.out _ _ _ rfl HCN.out (by simp [Value.oneCell']) (by unfold maxLen; omega) (by omega) hs5 ?_
        intro v' w6 hown hgrow
        obtain ⟨q', cq', rfl⟩ := node_form hown
        have HR6 := Lib.hid hown
        have HB6 := Lib.hid (HB5.out.grown hgrow (by omega) (fun j hj => by have := (HR5.out.lt j hj).1; omega))
        have bx6 : Boxed w6 X 24 (.slice q (m) cq) := (hgrow.block X bx5.lt (fun h => by have := (HR5.out.lt _ h.symm).1; have := HAD.out; omega)).trans bx5
        have HK6 : Hid (∀ j, j < B + 3 → w6.heap[j]? = W0.heap[j]?) := Lib.hid (fun j hj => (hgrow.block j (by omega) (fun h => by have := (HR5.out.lt _ h.symm).1; omega)).trans (HK5.out j hj))
        have d06 := cellOld d05 (hgrow.block _ (cellLt d05) (fun h => by have h1 : B + 4 ≤ B := (HR5.out.lt _ h.symm).1; omega))
        have d16 := cellOld d15 (hgrow.block _ (cellLt d15) (fun h => by have h1 : B + 4 ≤ g := (HR5.out.lt _ h.symm).1; have := HGB.out; omega))
        have d26 := cellOld d25 (hgrow.block _ (cellLt d25) (fun h => by have h1 : B + 4 ≤ g := (HR5.out.lt _ h.symm).1; have := HGB.out; omega))
        have hs6 := hgrow.size
        have b6c := bx6.cell
        have b6f := bx6.frozen
        clear hown hgrow HR5 HB5 bx5 HK5 b5c
        refine hK.out _ _ ⟨b6c, d06, d16, d26⟩ fun _ => ?_
        clear hK
        (try simp only [Act.put, List.getElem_toArray, List.getElem_cons_succ, List.getElem_cons_zero, List.setIfInBounds_toArray, List.set_cons_zero, List.set_cons_succ])
        refine sched_do rfl (fun K' hK => ?_)
        go_simp
        refine hK.out _ _ ⟨b6c, d06, d16, d26⟩ fun _ => ?_
        clear hK
        (try simp only [Act.put, List.getElem_toArray, List.getElem_cons_succ, List.getElem_cons_zero, List.setIfInBounds_toArray, List.set_cons_zero, List.set_cons_succ])
        refine sched_end rfl (fun K' hK => ?_)
        go_simp
        refine hK.out _ _ ?_
        clear hK
        refine NoPanic.normal ?_
        have HX7 := Lib.hid (Boxed.set (.slice q' (m + 1) cq') bx6)
        have HG7 := Lib.hid (grownBy_setCell' w6 X (.slice q' (m + 1) cq'))
        have HR7 := Lib.hid (ownsRow_setCell_below HR6.out (a := ⟨X, 0, none⟩) (by show X < B + 4; have := HAD.out; omega) (.slice q' (m + 1) cq'))
        have HB7 := Lib.hid (HB6.out.grown HG7.out (by omega) (fun j e => by cases e; have := HAD.out; omega))
        have HK7 : Hid (∀ j, j < B + 3 → (w6.setCell ⟨X, 0, none⟩ (.slice q' (m + 1) cq')).heap[j]? = W0.heap[j]?) := Lib.hid (fun j hj => (HG7.out.block j (by omega) (by have := HAD.out; simp; omega)).trans (HK6.out j hj))
        have hs7 := HG7.out.size
        clear bx6 b6c b6f d06 d16 d26 d05 d15 d25 HR6 HB6 HK6
        go_wp2_with fail
        exact ⟨⟨k + 1, m + 1, true, A ++ [(a, pb)], q', cq', rfl, by go_num, by omega, by omega, Lib.hid (fun h => by cases h), Lib.hid (by rw [List.length_append, ← HM.out]; rfl), Lib.hid (withAt_met HW.out HTK.out), HX7, Lib.hid (by rw [cellsL_append]; exact HR7.out), HB7, HK7, by omega⟩, by simp only [intOf]; omega⟩
      | false =>
        have cz0 : wr.cell? ⟨Z, 0, none⟩ = some (.int .i64 z) := by unfold World.cell?; rw [HK.out Z (by have := HAD.out; omega), HBZ.out]; rfl
        by_cases hza : z < a
        · have hd1 : decide (z < a) = true := by simp; omega
          have HZA := Lib.hid hza
          clear hza
          go_upto_region 6 with fail
          go_quiet (fail)
          clear cz0
          obtain ⟨V, hV⟩ : ∃ W, W = wr.drewN nq := ⟨_, rfl⟩
          have HXV : Hid (Boxed V X 24 (.slice q m cq)) := Lib.hid (by rw [hV]; exact HX.out)
          have HRV : Hid (V.ownsRow (B + 4) 48 2 (.slice q m cq) m (cellsL A)) := Lib.hid (by rw [hV]; exact HRW.out)
          have HBV : Hid (Below B w V) := Lib.hid (by rw [hV]; exact HB.out.trans ⟨rfl, rfl, rfl, Nat.le_refl _, fun _ _ => rfl⟩)
          have HKV : Hid (∀ j, j < B + 3 → V.heap[j]? = W0.heap[j]?) := Lib.hid (by rw [hV]; exact HK.out)
          have hszV : B + 4 ≤ V.heap.size := by rw [hV]; exact hsz
          have v1 : V.cell? ⟨g, o + k * 2, none⟩ = some (.int .i64 a) := by rw [hV]; exact c1
          have v2 : V.cell? ⟨g, o + k * 2 + 1, none⟩ = some (.int .i64 pb) := by rw [hV]; exact c2
          have vb : V.cell? ⟨B, 0, none⟩ = some (.slice (some ⟨g, o, none⟩) n c) := by rw [hV]; exact cbr
          rw [← hV]
          clear hV HX HRW HB HK hsz c1 c2 cbr
          have vz0 : V.cell? ⟨Z, 0, none⟩ = some (.int .i64 z) := by unfold World.cell?; rw [HKV.out Z (by have := HAD.out; omega), HBZ.out]; rfl
          have vz1 : V.cell? ⟨Z, 1, none⟩ = some (.int .i64 y) := by unfold World.cell?; rw [HKV.out Z (by have := HAD.out; omega), HBZ.out]; rfl
          have vx := HXV.out.cell
          have vxf := HXV.out.frozen
          have HRA := Lib.hid (HRV.out.alloc (.cells #[.int .i64 z, .int .i64 y] 48))
          have HNW := Lib.hid (cells_new2 V [.int .i64 z, .int .i64 y] 48)
          go_wp2_with (at_builtin; refine wpList_append_own _ rfl _ _ 22 rfl (B + 4) 48 i0 (.agg #[.int .i64 0, .int .i64 0]) 2 16 Try.underlying22 hi hz0 hz1 hzb rfl (by decide) _ _ _ rfl HRA.out ⟨V.heap.size, 0, none⟩ 1 1 [.int .i64 z, .int .i64 y] rfl rfl HNW.out (by simp [Value.oneCell']) (by unfold maxLen; omega) (by omega) (by simp; omega) ?_; intro v' w5 hown5 hgrow5 _; have HO5 := Lib.hid hown5; have HG5 : Hid ((V.alloc (.cells #[.int .i64 z, .int .i64 y] 48)).grownBy w5 (Value.slice q m cq).ownBlock) := Lib.hid hgrow5; obtain ⟨q1, cq1, rfl⟩ := node_form hown5; have hs5 := hgrow5.size; have hb5 : Boxed w5 X 24 (.slice q m cq) := (hgrow5.block X (by have := HXV.out.lt; simp; omega) (fun e => by have := (HRA.out.lt _ e.symm).1; have := HAD.out; omega)).trans ((Below.heap_alloc _ _ _ HXV.out.lt).trans HXV.out); have cb5 := hb5.cell; have cf5 := hb5.frozen; have HBX5 := Lib.hid (Boxed.set (.slice q1 (m + 1) cq1) hb5); clear hown5 hgrow5 hb5)
          have HRS := Lib.hid (ownsRow_setCell_below HO5.out (a := ⟨X, 0, none⟩) (by show X < B + 4; have := HAD.out; omega) (.slice q1 (m + 1) cq1))
          have HGS := Lib.hid (grownBy_setCell' w5 X (.slice q1 (m + 1) cq1))
          have hss := HGS.out.size
          rw [World.size_alloc] at hs5
          obtain ⟨V2, hV2⟩ : ∃ W, W = w5.setCell ⟨X, 0, none⟩ (.slice q1 (m + 1) cq1) := ⟨_, rfl⟩
          have HX2 : Hid (Boxed V2 X 24 (.slice q1 (m + 1) cq1)) := Lib.hid (by rw [hV2]; exact HBX5.out)
          have HR2 : Hid (V2.ownsRow (B + 4) 48 2 (.slice q1 (m + 1) cq1) (m + 1) (cellsL (A ++ [(z, y)]))) := Lib.hid (by rw [hV2, cellsL_append]; exact HRS.out)
          have HB2 : Hid (Below B w V2) := Lib.hid (by rw [hV2]; exact ((HBV.out.alloc (by omega) (.cells #[.int .i64 z, .int .i64 y] 48)).grown HG5.out (by rw [World.size_alloc]; omega) (fun j e => by have := (HRA.out.lt _ e).1; omega)).grown HGS.out (by omega) (fun j e => by cases e; have := HAD.out; omega))
          have HK2 : Hid (∀ j, j < B + 3 → V2.heap[j]? = W0.heap[j]?) := Lib.hid (fun j hj => by rw [hV2]; exact (HGS.out.block j (by omega) (by have := HAD.out; simp; omega)).trans ((HG5.out.block j (by rw [World.size_alloc]; omega) (fun e => by have := (HRA.out.lt _ e.symm).1; omega)).trans ((Below.heap_alloc _ _ _ (by omega)).trans (HKV.out j hj))))
          have hsz2 : B + 4 ≤ V2.heap.size := by rw [hV2]; omega
          have u1 : V2.cell? ⟨g, o + k * 2, none⟩ = some (.int .i64 a) := cellOld v1 (by rw [hV2]; exact (HGS.out.block g (by have := HGB.out; omega) (by have := HAD.out; have := HGB.out; simp; omega)).trans ((HG5.out.block g (by have := HGB.out; rw [World.size_alloc]; omega) (fun e => by have := (HRA.out.lt _ e.symm).1; have := HGB.out; omega)).trans (Below.heap_alloc _ _ _ (cellLt v1))))
          have u2 : V2.cell? ⟨g, o + k * 2 + 1, none⟩ = some (.int .i64 pb) := cellOld v2 (by rw [hV2]; exact (HGS.out.block g (by have := HGB.out; omega) (by have := HAD.out; have := HGB.out; simp; omega)).trans ((HG5.out.block g (by have := HGB.out; rw [World.size_alloc]; omega) (fun e => by have := (HRA.out.lt _ e.symm).1; have := HGB.out; omega)).trans (Below.heap_alloc _ _ _ (cellLt v2))))
          have ub : V2.cell? ⟨B, 0, none⟩ = some (.slice (some ⟨g, o, none⟩) n c) := cellOld HCB.out (HK2.out B (by omega))
          rw [← hV2]
          clear hV2 HBX5 HRS HGS HG5 HO5 HXV HRV HBV HKV hszV v1 v2 vb vx vxf vz0 vz1 cb5 cf5 hss hs5 HRA HNW
          obtain ⟨V, hVV⟩ : ∃ V, V = V2 := ⟨_, rfl⟩
          subst hVV
          have HXV := HX2
          have HRV := HR2
          have HBV := HB2
          have HKV := HK2
          have hszV := hsz2
          have v1 := u1
          have v2 := u2
          have vb := ub
          clear HX2 HR2 HB2 HK2 hsz2 u1 u2 ub
          have vx := HXV.out.cell
          go_upto_region 9 with fail
          refine wp_region_noPanic ?_
          refine region_sched (fun W' => W'.cell? ⟨X, 0, none⟩ = some (.slice q1 (m + 1) cq1) ∧ W'.cell? ⟨B, 0, none⟩ = some (.slice (some ⟨g, o, none⟩) n c) ∧ W'.cell? ⟨g, o + k * 2, none⟩ = some (.int .i64 a) ∧ W'.cell? ⟨g, o + k * 2 + 1, none⟩ = some (.int .i64 pb)) 10 [(0, true), (1, true), (2, true), (3, true), (4, true), (5, true), (6, true), (7, false), (8, false), (9, false), (10, false)]
            (by kernel_rfl) (by kernel_rfl) (by kernel_rfl) rfl (fun _ _ _ _ h => h) ⟨vx, vb, v1, v2⟩ ?_
          (refine sched_take (v := ?_) rfl (by rfl) (fun W' hS => ?_) ?_; rotate_left; (obtain ⟨s0, s1, s2, s3⟩ := hS; go_simp; with_reducible rfl); (try simp only [Act.put, List.getElem_toArray, List.getElem_cons_succ, List.getElem_cons_zero, List.setIfInBounds_toArray, List.set_cons_zero, List.set_cons_succ]))
          (refine sched_take (v := ?_) rfl (by rfl) (fun W' hS => ?_) ?_; rotate_left; (obtain ⟨s0, s1, s2, s3⟩ := hS; go_simp; with_reducible rfl); (try simp only [Act.put, List.getElem_toArray, List.getElem_cons_succ, List.getElem_cons_zero, List.setIfInBounds_toArray, List.set_cons_zero, List.set_cons_succ]))
          (refine sched_take (v := ?_) rfl (by rfl) (fun W' hS => ?_) ?_; rotate_left; (obtain ⟨s0, s1, s2, s3⟩ := hS; go_simp; with_reducible rfl); (try simp only [Act.put, List.getElem_toArray, List.getElem_cons_succ, List.getElem_cons_zero, List.setIfInBounds_toArray, List.set_cons_zero, List.set_cons_succ]))
          (refine sched_take (v := ?_) rfl (by rfl) (fun W' hS => ?_) ?_; rotate_left; (obtain ⟨s0, s1, s2, s3⟩ := hS; go_simp; with_reducible rfl); (try simp only [Act.put, List.getElem_toArray, List.getElem_cons_succ, List.getElem_cons_zero, List.setIfInBounds_toArray, List.set_cons_zero, List.set_cons_succ]))
          (refine sched_take (v := ?_) rfl (by rfl) (fun W' hS => ?_) ?_; rotate_left; (obtain ⟨s0, s1, s2, s3⟩ := hS; go_simp; with_reducible rfl); (try simp only [Act.put, List.getElem_toArray, List.getElem_cons_succ, List.getElem_cons_zero, List.setIfInBounds_toArray, List.set_cons_zero, List.set_cons_succ]))
          (refine sched_take (v := ?_) rfl (by rfl) (fun W' hS => ?_) ?_; rotate_left; (obtain ⟨s0, s1, s2, s3⟩ := hS; go_simp; with_reducible rfl); (try simp only [Act.put, List.getElem_toArray, List.getElem_cons_succ, List.getElem_cons_zero, List.setIfInBounds_toArray, List.set_cons_zero, List.set_cons_succ]))
          (refine sched_take (v := ?_) rfl (by rfl) (fun W' hS => ?_) ?_; rotate_left; (obtain ⟨s0, s1, s2, s3⟩ := hS; go_simp; with_reducible rfl); (try simp only [Act.put, List.getElem_toArray, List.getElem_cons_succ, List.getElem_cons_zero, List.setIfInBounds_toArray, List.set_cons_zero, List.set_cons_succ]))
          obtain ⟨Wd, hWd⟩ : ∃ W, W = V.drew := ⟨_, rfl⟩
          have dx : Boxed Wd X 24 (.slice q1 (m + 1) cq1) := by rw [hWd]; exact HXV.out
          have db : Wd.cell? ⟨B, 0, none⟩ = some (.slice (some ⟨g, o, none⟩) n c) := by rw [hWd]; exact vb
          have d1 : Wd.cell? ⟨g, o + k * 2, none⟩ = some (.int .i64 a) := by rw [hWd]; exact v1
          have d2 : Wd.cell? ⟨g, o + k * 2 + 1, none⟩ = some (.int .i64 pb) := by rw [hWd]; exact v2
          have HRWd : Hid (Wd.ownsRow (B + 4) 48 2 (.slice q1 (m + 1) cq1) (m + 1) (cellsL (A ++ [(z, y)]))) := Lib.hid (by rw [hWd]; exact HRV.out)
          have HBd : Hid (Below B w Wd) := Lib.hid (by rw [hWd]; exact HBV.out.trans ⟨rfl, rfl, rfl, Nat.le_refl _, fun _ _ => rfl⟩)
          have HKd : Hid (∀ j, j < B + 3 → Wd.heap[j]? = W0.heap[j]?) := Lib.hid (by rw [hWd]; exact HKV.out)
          have hszd : B + 4 ≤ Wd.heap.size := by rw [hWd]; exact hszV
          rw [← hWd]
          clear hWd vx vb v1 v2 HXV HRV HBV HKV hszV
          refine sched_do rfl (fun K' hK => ?_)
          go_simp
          have HCN : Hid (RowAt (Wd.alloc (.cells #[.int .i64 a, .int .i64 pb] 48)) (.slice (some ⟨Wd.heap.size, 0, none⟩) 1 1) 2 1 [.int .i64 a, .int .i64 pb]) := Lib.hid (RowAt.of_own (World.ownsRow_lit (base := 0) (size := 2) (e := 48) Wd #[.int .i64 a, .int .i64 pb] 1 (Nat.zero_le _) (by unfold maxLen; omega) (by simp)))
          have HR5 := Lib.hid (HRWd.out.alloc (.cells #[.int .i64 a, .int .i64 pb] 48))
          have HB5 := Lib.hid (HBd.out.alloc (by omega) (.cells #[.int .i64 a, .int .i64 pb] 48))
          have bx5 : Boxed (Wd.alloc (.cells #[.int .i64 a, .int .i64 pb] 48)) X 24 (.slice q1 (m + 1) cq1) := (Below.heap_alloc _ _ _ (by have := HAD.out; omega)).trans dx
          have HK5 : Hid (∀ j, j < B + 3 → (Wd.alloc (.cells #[.int .i64 a, .int .i64 pb] 48)).heap[j]? = W0.heap[j]?) := Lib.hid (fun j hj => (Below.heap_alloc _ _ _ (by omega)).trans (HKd.out j hj))
          have d05 := cellOld db (Below.heap_alloc Wd (.cells #[.int .i64 a, .int .i64 pb] 48) _ (cellLt db))
          have d15 := cellOld d1 (Below.heap_alloc Wd (.cells #[.int .i64 a, .int .i64 pb] 48) _ (cellLt d1))
          have d25 := cellOld d2 (Below.heap_alloc Wd (.cells #[.int .i64 a, .int .i64 pb] 48) _ (cellLt d2))
          have hs5 : B + 4 ≤ (Wd.alloc (.cells #[.int .i64 a, .int .i64 pb] 48)).heap.size := by simp; omega
          obtain ⟨W5, hW5⟩ : ∃ W, W = Wd.alloc (.cells #[.int .i64 a, .int .i64 pb] 48) := ⟨_, rfl⟩
          rw [← hW5] at HCN HR5 HB5 bx5 HK5 d05 d15 d25 hs5 ⊢
          clear hW5 dx db d1 d2 HRWd HBd HKd hszd
          have b5c := bx5.cell
          refine hK.out _ _ ⟨b5c, d05, d15, d25⟩ fun _ => ?_
          clear hK
          (try simp only [Act.put, List.getElem_toArray, List.getElem_cons_succ, List.getElem_cons_zero, List.setIfInBounds_toArray, List.set_cons_zero, List.set_cons_succ])
          refine sched_do rfl (fun K' hK => ?_)
          rw [if_pos (by rfl)]
          refine wp_append_row _ _ 22 rfl (B + 4) 48 i0 (.agg #[.int .i64 0, .int .i64 0]) 2 16 Try.underlying22 hi hz0 hz1 hzb rfl (by decide) (.slice q1 (m + 1) cq1) _ _ rfl HR5.out _ _ _ rfl HCN.out (by simp [Value.oneCell']) (by unfold maxLen; omega) (by omega) hs5 ?_
          intro v' w6 hown hgrow
          obtain ⟨q', cq', rfl⟩ := node_form hown
          have HR6 := Lib.hid hown
          have HB6 := Lib.hid (HB5.out.grown hgrow (by omega) (fun j hj => by have := (HR5.out.lt j hj).1; omega))
          have bx6 : Boxed w6 X 24 (.slice q1 (m + 1) cq1) := (hgrow.block X bx5.lt (fun h => by have := (HR5.out.lt _ h.symm).1; have := HAD.out; omega)).trans bx5
          have HK6 : Hid (∀ j, j < B + 3 → w6.heap[j]? = W0.heap[j]?) := Lib.hid (fun j hj => (hgrow.block j (by omega) (fun h => by have := (HR5.out.lt _ h.symm).1; omega)).trans (HK5.out j hj))
          have d06 := cellOld d05 (hgrow.block _ (cellLt d05) (fun h => by have h1 : B + 4 ≤ B := (HR5.out.lt _ h.symm).1; omega))
          have d16 := cellOld d15 (hgrow.block _ (cellLt d15) (fun h => by have h1 : B + 4 ≤ g := (HR5.out.lt _ h.symm).1; have := HGB.out; omega))
          have d26 := cellOld d25 (hgrow.block _ (cellLt d25) (fun h => by have h1 : B + 4 ≤ g := (HR5.out.lt _ h.symm).1; have := HGB.out; omega))
          have hs6 := hgrow.size
          have b6c := bx6.cell
          have b6f := bx6.frozen
          clear hown hgrow HR5 HB5 bx5 HK5 b5c
          refine hK.out _ _ ⟨b6c, d06, d16, d26⟩ fun _ => ?_
          clear hK
          (try simp only [Act.put, List.getElem_toArray, List.getElem_cons_succ, List.getElem_cons_zero, List.setIfInBounds_toArray, List.set_cons_zero, List.set_cons_succ])
          refine sched_do rfl (fun K' hK => ?_)
          go_simp
          refine hK.out _ _ ⟨b6c, d06, d16, d26⟩ fun _ => ?_
          clear hK
          (try simp only [Act.put, List.getElem_toArray, List.getElem_cons_succ, List.getElem_cons_zero, List.setIfInBounds_toArray, List.set_cons_zero, List.set_cons_succ])
          refine sched_end rfl (fun K' hK => ?_)
          go_simp
          refine hK.out _ _ ?_
          clear hK
          refine NoPanic.normal ?_
          have HX7 := Lib.hid (Boxed.set (.slice q' (m + 1 + 1) cq') bx6)
          have HG7 := Lib.hid (grownBy_setCell' w6 X (.slice q' (m + 1 + 1) cq'))
          have HR7 := Lib.hid (ownsRow_setCell_below HR6.out (a := ⟨X, 0, none⟩) (by show X < B + 4; have := HAD.out; omega) (.slice q' (m + 1 + 1) cq'))
          have HB7 := Lib.hid (HB6.out.grown HG7.out (by omega) (fun j e => by cases e; have := HAD.out; omega))
          have HK7 : Hid (∀ j, j < B + 3 → (w6.setCell ⟨X, 0, none⟩ (.slice q' (m + 1 + 1) cq')).heap[j]? = W0.heap[j]?) := Lib.hid (fun j hj => (HG7.out.block j (by omega) (by have := HAD.out; simp; omega)).trans (HK6.out j hj))
          have hs7 := HG7.out.size
          clear bx6 b6c b6f d06 d16 d26 d05 d15 d25 HR6 HB6 HK6
          go_wp2_with fail
          exact ⟨⟨k + 1, m + 1 + 1, true, A ++ [(z, y)] ++ [(a, pb)], q', cq', rfl, by go_num, by omega, by have := HMK.out trivial; omega, Lib.hid (fun h => by cases h), Lib.hid (by rw [List.length_append, List.length_append, ← HM.out]; rfl), Lib.hid (withAt_put HW.out HTK.out HZA.out), HX7, Lib.hid (by rw [cellsL_append]; exact HR7.out), HB7, HK7, by omega⟩, by simp only [intOf]; omega⟩
        · have hd1 : decide (z < a) = false := by simp; omega
          have HZA := Lib.hid hza
          clear hza
          go_upto_region 6 with fail
          go_quiet (fail)
          clear cz0
          obtain ⟨V, hV⟩ : ∃ W, W = wr.drewN nq := ⟨_, rfl⟩
          have HXV : Hid (Boxed V X 24 (.slice q m cq)) := Lib.hid (by rw [hV]; exact HX.out)
          have HRV : Hid (V.ownsRow (B + 4) 48 2 (.slice q m cq) m (cellsL A)) := Lib.hid (by rw [hV]; exact HRW.out)
          have HBV : Hid (Below B w V) := Lib.hid (by rw [hV]; exact HB.out.trans ⟨rfl, rfl, rfl, Nat.le_refl _, fun _ _ => rfl⟩)
          have HKV : Hid (∀ j, j < B + 3 → V.heap[j]? = W0.heap[j]?) := Lib.hid (by rw [hV]; exact HK.out)
          have hszV : B + 4 ≤ V.heap.size := by rw [hV]; exact hsz
          have v1 : V.cell? ⟨g, o + k * 2, none⟩ = some (.int .i64 a) := by rw [hV]; exact c1
          have v2 : V.cell? ⟨g, o + k * 2 + 1, none⟩ = some (.int .i64 pb) := by rw [hV]; exact c2
          have vb : V.cell? ⟨B, 0, none⟩ = some (.slice (some ⟨g, o, none⟩) n c) := by rw [hV]; exact cbr
          rw [← hV]
          clear hV HX HRW HB HK hsz c1 c2 cbr
          go_wp2_with fail
          have vx := HXV.out.cell
          go_upto_region 9 with fail
          refine wp_region_noPanic ?_
          refine region_sched (fun W' => W'.cell? ⟨X, 0, none⟩ = some (.slice q (m) cq) ∧ W'.cell? ⟨B, 0, none⟩ = some (.slice (some ⟨g, o, none⟩) n c) ∧ W'.cell? ⟨g, o + k * 2, none⟩ = some (.int .i64 a) ∧ W'.cell? ⟨g, o + k * 2 + 1, none⟩ = some (.int .i64 pb)) 10 [(0, true), (1, true), (2, true), (3, true), (4, true), (5, true), (6, true), (7, false), (8, false), (9, false), (10, false)]
            (by kernel_rfl) (by kernel_rfl) (by kernel_rfl) rfl (fun _ _ _ _ h => h) ⟨vx, vb, v1, v2⟩ ?_
          (refine sched_take (v := ?_) rfl (by rfl) (fun W' hS => ?_) ?_; rotate_left; (obtain ⟨s0, s1, s2, s3⟩ := hS; go_simp; with_reducible rfl); (try simp only [Act.put, List.getElem_toArray, List.getElem_cons_succ, List.getElem_cons_zero, List.setIfInBounds_toArray, List.set_cons_zero, List.set_cons_succ]))
          (refine sched_take (v := ?_) rfl (by rfl) (fun W' hS => ?_) ?_; rotate_left; (obtain ⟨s0, s1, s2, s3⟩ := hS; go_simp; with_reducible rfl); (try simp only [Act.put, List.getElem_toArray, List.getElem_cons_succ, List.getElem_cons_zero, List.setIfInBounds_toArray, List.set_cons_zero, List.set_cons_succ]))
          (refine sched_take (v := ?_) rfl (by rfl) (fun W' hS => ?_) ?_; rotate_left; (obtain ⟨s0, s1, s2, s3⟩ := hS; go_simp; with_reducible rfl); (try simp only [Act.put, List.getElem_toArray, List.getElem_cons_succ, List.getElem_cons_zero, List.setIfInBounds_toArray, List.set_cons_zero, List.set_cons_succ]))
          (refine sched_take (v := ?_) rfl (by rfl) (fun W' hS => ?_) ?_; rotate_left; (obtain ⟨s0, s1, s2, s3⟩ := hS; go_simp; with_reducible rfl); (try simp only [Act.put, List.getElem_toArray, List.getElem_cons_succ, List.getElem_cons_zero, List.setIfInBounds_toArray, List.set_cons_zero, List.set_cons_succ]))
          (refine sched_take (v := ?_) rfl (by rfl) (fun W' hS => ?_) ?_; rotate_left; (obtain ⟨s0, s1, s2, s3⟩ := hS; go_simp; with_reducible rfl); (try simp only [Act.put, List.getElem_toArray, List.getElem_cons_succ, List.getElem_cons_zero, List.setIfInBounds_toArray, List.set_cons_zero, List.set_cons_succ]))
          (refine sched_take (v := ?_) rfl (by rfl) (fun W' hS => ?_) ?_; rotate_left; (obtain ⟨s0, s1, s2, s3⟩ := hS; go_simp; with_reducible rfl); (try simp only [Act.put, List.getElem_toArray, List.getElem_cons_succ, List.getElem_cons_zero, List.setIfInBounds_toArray, List.set_cons_zero, List.set_cons_succ]))
          (refine sched_take (v := ?_) rfl (by rfl) (fun W' hS => ?_) ?_; rotate_left; (obtain ⟨s0, s1, s2, s3⟩ := hS; go_simp; with_reducible rfl); (try simp only [Act.put, List.getElem_toArray, List.getElem_cons_succ, List.getElem_cons_zero, List.setIfInBounds_toArray, List.set_cons_zero, List.set_cons_succ]))
          obtain ⟨Wd, hWd⟩ : ∃ W, W = V.drew := ⟨_, rfl⟩
          have dx : Boxed Wd X 24 (.slice q (m) cq) := by rw [hWd]; exact HXV.out
          have db : Wd.cell? ⟨B, 0, none⟩ = some (.slice (some ⟨g, o, none⟩) n c) := by rw [hWd]; exact vb
          have d1 : Wd.cell? ⟨g, o + k * 2, none⟩ = some (.int .i64 a) := by rw [hWd]; exact v1
          have d2 : Wd.cell? ⟨g, o + k * 2 + 1, none⟩ = some (.int .i64 pb) := by rw [hWd]; exact v2
          have HRWd : Hid (Wd.ownsRow (B + 4) 48 2 (.slice q (m) cq) (m) (cellsL (A))) := Lib.hid (by rw [hWd]; exact HRV.out)
          have HBd : Hid (Below B w Wd) := Lib.hid (by rw [hWd]; exact HBV.out.trans ⟨rfl, rfl, rfl, Nat.le_refl _, fun _ _ => rfl⟩)
          have HKd : Hid (∀ j, j < B + 3 → Wd.heap[j]? = W0.heap[j]?) := Lib.hid (by rw [hWd]; exact HKV.out)
          have hszd : B + 4 ≤ Wd.heap.size := by rw [hWd]; exact hszV
          rw [← hWd]
          clear hWd vx vb v1 v2 HXV HRV HBV HKV hszV
          refine sched_do rfl (fun K' hK => ?_)
          go_simp
          have HCN : Hid (RowAt (Wd.alloc (.cells #[.int .i64 a, .int .i64 pb] 48)) (.slice (some ⟨Wd.heap.size, 0, none⟩) 1 1) 2 1 [.int .i64 a, .int .i64 pb]) := Lib.hid (RowAt.of_own (World.ownsRow_lit (base := 0) (size := 2) (e := 48) Wd #[.int .i64 a, .int .i64 pb] 1 (Nat.zero_le _) (by unfold maxLen; omega) (by simp)))
          have HR5 := Lib.hid (HRWd.out.alloc (.cells #[.int .i64 a, .int .i64 pb] 48))
          have HB5 := Lib.hid (HBd.out.alloc (by omega) (.cells #[.int .i64 a, .int .i64 pb] 48))
          have bx5 : Boxed (Wd.alloc (.cells #[.int .i64 a, .int .i64 pb] 48)) X 24 (.slice q (m) cq) := (Below.heap_alloc _ _ _ (by have := HAD.out; omega)).trans dx
          have HK5 : Hid (∀ j, j < B + 3 → (Wd.alloc (.cells #[.int .i64 a, .int .i64 pb] 48)).heap[j]? = W0.heap[j]?) := Lib.hid (fun j hj => (Below.heap_alloc _ _ _ (by omega)).trans (HKd.out j hj))
          have d05 := cellOld db (Below.heap_alloc Wd (.cells #[.int .i64 a, .int .i64 pb] 48) _ (cellLt db))
          have d15 := cellOld d1 (Below.heap_alloc Wd (.cells #[.int .i64 a, .int .i64 pb] 48) _ (cellLt d1))
          have d25 := cellOld d2 (Below.heap_alloc Wd (.cells #[.int .i64 a, .int .i64 pb] 48) _ (cellLt d2))
          have hs5 : B + 4 ≤ (Wd.alloc (.cells #[.int .i64 a, .int .i64 pb] 48)).heap.size := by simp; omega
          obtain ⟨W5, hW5⟩ : ∃ W, W = Wd.alloc (.cells #[.int .i64 a, .int .i64 pb] 48) := ⟨_, rfl⟩
          rw [← hW5] at HCN HR5 HB5 bx5 HK5 d05 d15 d25 hs5 ⊢
          clear hW5 dx db d1 d2 HRWd HBd HKd hszd
          have b5c := bx5.cell
          refine hK.out _ _ ⟨b5c, d05, d15, d25⟩ fun _ => ?_
          clear hK
          (try simp only [Act.put, List.getElem_toArray, List.getElem_cons_succ, List.getElem_cons_zero, List.setIfInBounds_toArray, List.set_cons_zero, List.set_cons_succ])
          refine sched_do rfl (fun K' hK => ?_)
          rw [if_pos (by rfl)]
          refine wp_append_row _ _ 22 rfl (B + 4) 48 i0 (.agg #[.int .i64 0, .int .i64 0]) 2 16 Try.underlying22 hi hz0 hz1 hzb rfl (by decide) (.slice q (m) cq) _ _ rfl HR5.out _ _ _ rfl HCN.out (by simp [Value.oneCell']) (by unfold maxLen; omega) (by omega) hs5 ?_
          intro v' w6 hown hgrow
          obtain ⟨q', cq', rfl⟩ := node_form hown
          have HR6 := Lib.hid hown
          have HB6 := Lib.hid (HB5.out.grown hgrow (by omega) (fun j hj => by have := (HR5.out.lt j hj).1; omega))
          have bx6 : Boxed w6 X 24 (.slice q (m) cq) := (hgrow.block X bx5.lt (fun h => by have := (HR5.out.lt _ h.symm).1; have := HAD.out; omega)).trans bx5
          have HK6 : Hid (∀ j, j < B + 3 → w6.heap[j]? = W0.heap[j]?) := Lib.hid (fun j hj => (hgrow.block j (by omega) (fun h => by have := (HR5.out.lt _ h.symm).1; omega)).trans (HK5.out j hj))
          have d06 := cellOld d05 (hgrow.block _ (cellLt d05) (fun h => by have h1 : B + 4 ≤ B := (HR5.out.lt _ h.symm).1; omega))
          have d16 := cellOld d15 (hgrow.block _ (cellLt d15) (fun h => by have h1 : B + 4 ≤ g := (HR5.out.lt _ h.symm).1; have := HGB.out; omega))
          have d26 := cellOld d25 (hgrow.block _ (cellLt d25) (fun h => by have h1 : B + 4 ≤ g := (HR5.out.lt _ h.symm).1; have := HGB.out; omega))
          have hs6 := hgrow.size
          have b6c := bx6.cell
          have b6f := bx6.frozen
          clear hown hgrow HR5 HB5 bx5 HK5 b5c
          refine hK.out _ _ ⟨b6c, d06, d16, d26⟩ fun _ => ?_
          clear hK
          (try simp only [Act.put, List.getElem_toArray, List.getElem_cons_succ, List.getElem_cons_zero, List.setIfInBounds_toArray, List.set_cons_zero, List.set_cons_succ])
          refine sched_do rfl (fun K' hK => ?_)
          go_simp
          refine hK.out _ _ ⟨b6c, d06, d16, d26⟩ fun _ => ?_
          clear hK
          (try simp only [Act.put, List.getElem_toArray, List.getElem_cons_succ, List.getElem_cons_zero, List.setIfInBounds_toArray, List.set_cons_zero, List.set_cons_succ])
          refine sched_end rfl (fun K' hK => ?_)
          go_simp
          refine hK.out _ _ ?_
          clear hK
          refine NoPanic.normal ?_
          have HX7 := Lib.hid (Boxed.set (.slice q' (m + 1) cq') bx6)
          have HG7 := Lib.hid (grownBy_setCell' w6 X (.slice q' (m + 1) cq'))
          have HR7 := Lib.hid (ownsRow_setCell_below HR6.out (a := ⟨X, 0, none⟩) (by show X < B + 4; have := HAD.out; omega) (.slice q' (m + 1) cq'))
          have HB7 := Lib.hid (HB6.out.grown HG7.out (by omega) (fun j e => by cases e; have := HAD.out; omega))
          have HK7 : Hid (∀ j, j < B + 3 → (w6.setCell ⟨X, 0, none⟩ (.slice q' (m + 1) cq')).heap[j]? = W0.heap[j]?) := Lib.hid (fun j hj => (HG7.out.block j (by omega) (by have := HAD.out; simp; omega)).trans (HK6.out j hj))
          have hs7 := HG7.out.size
          clear bx6 b6c b6f d06 d16 d26 d05 d15 d25 HR6 HB6 HK6
          go_wp2_with fail
          exact ⟨⟨k + 1, m + 1, false, A ++ [(a, pb)], q', cq', rfl, by go_num, by omega, by omega, Lib.hid (fun _ => by have := HMK.out trivial; omega), Lib.hid (by rw [List.length_append, ← HM.out]; rfl), Lib.hid (withAt_not HW.out HTK.out (by have h := HZA.out; show ¬ z < a; omega)), HX7, Lib.hid (by rw [cellsL_append]; exact HR7.out), HB7, HK7, by omega⟩, by simp only [intOf]; omega⟩
    · have hd : decide ((k : Int) < (n : Int)) = false := by simp; omega
      have hd' : decide (k < n) = false := by simp; omega
      obtain rfl : k = n := by omega
      cases mt with
      | true =>
        have HWL : Hid (A = withL (z, y) t) := Lib.hid (withAt_end HW.out (by rw [← HN.out]; exact Nat.le_refl _))
        have HML := HM
        have fbr : Boxed wr R 24 (.slice none 0 0) := (HK.out R (by have := HAD.out; omega)).trans HBR.out
        have fr := fbr.cell
        have frf := fbr.frozen
        have fx := HX.out.cell
        have FBR := Lib.hid fbr
        clear fbr
        have HG7 := Lib.hid (grownBy_setCell' wr R (.slice q (m) cq))
        have HR7 := Lib.hid (ownsRow_setCell_below HRW.out (a := ⟨R, 0, none⟩) (by show R < B + 4; have := HAD.out; omega) (.slice q (m) cq))
        have HB7 := Lib.hid (HB.out.grown HG7.out (by omega) (fun j e => by cases e; have := HAD.out; omega))
        go_wp2_with fail
        have cb5 := (Boxed.set (.slice q (m) cq) FBR.out).cell
        refine bodyPost_ret (v := .agg #[.slice q (m) cq]) (by simp [results, Try.results48, go_sem, cb5]) rfl ?_
        rw [← HBW.out, ← HWL.out, ← HML.out]
        exact ⟨_, rfl, row_low HR7.out (by omega), HB7.out⟩
      | false =>
        have HWL : Hid (A ++ [(z, y)] = withL (z, y) t) := Lib.hid (withAt_end2 HW.out (by rw [← HN.out]; exact Nat.le_refl _))
        have HML : Hid (m + 1 = (A ++ [(z, y)]).length) := Lib.hid (by rw [List.length_append, ← HM.out]; rfl)
        have vz0 : wr.cell? ⟨Z, 0, none⟩ = some (.int .i64 z) := by unfold World.cell?; rw [HK.out Z (by have := HAD.out; omega), HBZ.out]; rfl
        have vz1 : wr.cell? ⟨Z, 1, none⟩ = some (.int .i64 y) := by unfold World.cell?; rw [HK.out Z (by have := HAD.out; omega), HBZ.out]; rfl
        obtain ⟨V, hVV⟩ : ∃ V, V = wr := ⟨_, rfl⟩
        subst hVV
        have HXV := HX
        have HRV := HRW
        have HBV := HB
        have HKV := HK
        have hszV := hsz
        clear HX HRW HB HK hsz
        go_upto_region 11 with fail
        have vx := HXV.out.cell
        have vxf := HXV.out.frozen
        have HRA := Lib.hid (HRV.out.alloc (.cells #[.int .i64 z, .int .i64 y] 48))
        have HNW := Lib.hid (cells_new2 V [.int .i64 z, .int .i64 y] 48)
        go_upto_region 12 with (at_builtin; refine wpList_append_own _ rfl _ _ 22 rfl (B + 4) 48 i0 (.agg #[.int .i64 0, .int .i64 0]) 2 16 Try.underlying22 hi hz0 hz1 hzb rfl (by decide) _ _ _ rfl HRA.out ⟨V.heap.size, 0, none⟩ 1 1 [.int .i64 z, .int .i64 y] rfl rfl HNW.out (by simp [Value.oneCell']) (by unfold maxLen; omega) (by omega) (by simp; omega) ?_; intro v' w5 hown5 hgrow5 _; have HO5 := Lib.hid hown5; have HG5 : Hid ((V.alloc (.cells #[.int .i64 z, .int .i64 y] 48)).grownBy w5 (Value.slice q m cq).ownBlock) := Lib.hid hgrow5; obtain ⟨q1, cq1, rfl⟩ := node_form hown5; have hs5 := hgrow5.size; have hb5 : Boxed w5 X 24 (.slice q m cq) := (hgrow5.block X (by have := HXV.out.lt; simp; omega) (fun e => by have := (HRA.out.lt _ e.symm).1; have := HAD.out; omega)).trans ((Below.heap_alloc _ _ _ HXV.out.lt).trans HXV.out); have cb5 := hb5.cell; have cf5 := hb5.frozen; have HBX5 := Lib.hid (Boxed.set (.slice q1 (m + 1) cq1) hb5); clear hown5 hgrow5 hb5)
        have HRS := Lib.hid (ownsRow_setCell_below HO5.out (a := ⟨X, 0, none⟩) (by show X < B + 4; have := HAD.out; omega) (.slice q1 (m + 1) cq1))
        have HGS := Lib.hid (grownBy_setCell' w5 X (.slice q1 (m + 1) cq1))
        have hss := HGS.out.size
        rw [World.size_alloc] at hs5
        obtain ⟨V2, hV2⟩ : ∃ W, W = w5.setCell ⟨X, 0, none⟩ (.slice q1 (m + 1) cq1) := ⟨_, rfl⟩
        have HX2 : Hid (Boxed V2 X 24 (.slice q1 (m + 1) cq1)) := Lib.hid (by rw [hV2]; exact HBX5.out)
        have HR2 : Hid (V2.ownsRow (B + 4) 48 2 (.slice q1 (m + 1) cq1) (m + 1) (cellsL (A ++ [(z, y)]))) := Lib.hid (by rw [hV2, cellsL_append]; exact HRS.out)
        have HB2 : Hid (Below B w V2) := Lib.hid (by rw [hV2]; exact ((HBV.out.alloc (by omega) (.cells #[.int .i64 z, .int .i64 y] 48)).grown HG5.out (by rw [World.size_alloc]; omega) (fun j e => by have := (HRA.out.lt _ e).1; omega)).grown HGS.out (by omega) (fun j e => by cases e; have := HAD.out; omega))
        have HK2 : Hid (∀ j, j < B + 3 → V2.heap[j]? = W0.heap[j]?) := Lib.hid (fun j hj => by rw [hV2]; exact (HGS.out.block j (by omega) (by have := HAD.out; simp; omega)).trans ((HG5.out.block j (by rw [World.size_alloc]; omega) (fun e => by have := (HRA.out.lt _ e.symm).1; omega)).trans ((Below.heap_alloc _ _ _ (by omega)).trans (HKV.out j hj))))
        have hsz2 : B + 4 ≤ V2.heap.size := by rw [hV2]; omega
        rw [← hV2]
        clear hV2 HBX5 HRS HGS HG5 HO5 HXV HRV HBV HKV hszV vx vxf vz0 vz1 cb5 cf5 hss hs5 HRA HNW cbr
        have fbr : Boxed V2 R 24 (.slice none 0 0) := (HK2.out R (by have := HAD.out; omega)).trans HBR.out
        have fr := fbr.cell
        have frf := fbr.frozen
        have fx := HX2.out.cell
        have FBR := Lib.hid fbr
        clear fbr
        have HG7 := Lib.hid (grownBy_setCell' V2 R (.slice q1 (m + 1) cq1))
        have HR7 := Lib.hid (ownsRow_setCell_below HR2.out (a := ⟨R, 0, none⟩) (by show R < B + 4; have := HAD.out; omega) (.slice q1 (m + 1) cq1))
        have HB7 := Lib.hid (HB2.out.grown HG7.out (by omega) (fun j e => by cases e; have := HAD.out; omega))
        go_wp2_with fail
        have cb5 := (Boxed.set (.slice q1 (m + 1) cq1) FBR.out).cell
        refine bodyPost_ret (v := .agg #[.slice q1 (m + 1) cq1]) (by simp [results, Try.results48, go_sem, cb5]) rfl ?_
        rw [← HBW.out, ← HWL.out, ← HML.out]
        exact ⟨_, rfl, row_low HR7.out (by omega), HB7.out⟩
end Go.Proofs.Ytekdekchbnacgaa
