/- Folders: the forest's level and within. -/
import Derived.Test.YtcflnjmglanneaaUb
namespace Go.Proofs.Ytcflnjmglanneaa
open Go.RowKit Go.Maps
attribute [local go_sem] Oper.semAt_some
set_option maxRecDepth 100000
set_option linter.unusedVariables false
set_option linter.unusedSimpArgs false

theorem up_boxes (b nn : Nat) (F : Int → Option Pl) (x : Int) (w : World) (hb : MapP w b nn F) :
    MapP ((w.alloc (.cells #[.map (some b)] 48)).alloc (.cells #[.int .i64 x] 3)) b nn F ∧
    Boxed ((w.alloc (.cells #[.map (some b)] 48)).alloc (.cells #[.int .i64 x] 3)) w.heap.size 48 (.map (some b)) ∧
    Boxed ((w.alloc (.cells #[.map (some b)] 48)).alloc (.cells #[.int .i64 x] 3)) (w.heap.size + 1) 3 (.int .i64 x) ∧
    Below w.heap.size w ((w.alloc (.cells #[.map (some b)] 48)).alloc (.cells #[.int .i64 x] 3)) ∧
    ((w.alloc (.cells #[.map (some b)] 48)).alloc (.cells #[.int .i64 x] 3)).heap.size = w.heap.size + 2 := by
  refine ⟨SMap.alloc (SMap.alloc hb _) _, (Boxed.new w _ _).alloc _, ?_, ((Below.refl _ w).alloc (Nat.le_refl _) _).alloc (by simp) _, by simp⟩
  have := Boxed.new (w.alloc (.cells #[.map (some b)] 48)) 3 (.int .i64 x)
  rw [World.size_alloc] at this
  exact this
set_option maxHeartbeats 1000000 in
theorem level_ok (b nn N : Nat) (F : Int → Option Pl) (x : Int) (w : World) (hb : MapP w b nn F) (hI : I64 x) (hF : ∀ y e, F y = some e → I64 e.p) (hN : (upF F N x).length < N) (hN2 : N ≤ 100000) :
    Calls Try.prog 47 #[.map (some b), .int .i64 x] w fun e w' => e = .returned (.int .i64 (if x < 0 then 0 else 1 + ((upF F N x).length : Int))) ∧ Below w.heap.size w w' := by
  by_cases hx : x < 0
  · rw [if_pos hx]
    have hd := decide_eq_true hx
    clear hx
    go_enter Try.func47, Try.ntmps47
    go_wp2_with fail
    go_ret
    exact ⟨rfl, Below.refl _ _⟩
  rw [if_neg hx]
  have hd := decide_eq_false hx
  have HU := Lib.hid (up_any (some b) x w)
  obtain ⟨h1, h2, h3, h4, h5⟩ := up_boxes b nn F x w hb
  have hit := up_iter b nn w.heap.size (w.heap.size + 1) w.heap.size N F x _ h1 h2 h3 hI hF hN (SMap.lt hb)
  have HC := Lib.hid (collect_ok (enters_of Try.func54 (by kernel_rfl) rfl) hit (by omega) (by rintro k (rfl | rfl) <;> omega) (fun ys hy => by have := hy.length_le; omega) w.heap.size (by omega) (by rintro k (rfl | rfl) <;> omega))
  have HB := Lib.hid h4
  have hl : (upF F N x).length ≤ 100000 := by omega
  obtain ⟨L, hL⟩ : ∃ L, L = upF F N x := ⟨_, rfl⟩
  rw [← hL] at HC hl ⊢
  clear hb hI hF hN h1 h2 h3 h4 h5 hit hx hL
  go_enter Try.func47, Try.ntmps47
  go_wp2_with fail
  refine (HU.out).mono ?_
  rintro e w1 ⟨rfl, rfl⟩
  go_wp2_with fail
  refine (HC.out).mono ?_
  rintro e w2 ⟨v, xs, rfl, rfl, hrow, hB⟩
  obtain ⟨p, c, rfl, hc, -⟩ := ints_form hrow
  have HB2 := Lib.hid (HB.out.trans hB)
  clear hrow hB HB HC
  go_wp2_with fail
  go_ret
  exact ⟨rfl, HB2.out⟩
set_option maxHeartbeats 2000000 in
theorem within_ok (b nn N : Nat) (F : Int → Option Pl) (x y : Int) (w : World) (hb : MapP w b nn F) (hI : I64 x) (hF : ∀ y e, F y = some e → I64 e.p) (hN : (upF F N x).length < N) (hN2 : N ≤ 100000) :
    Calls Try.prog 33 #[.map (some b), .int .i64 x, .int .i64 y] w fun e w' => e = .returned (.bool (decide (x = y ∨ y ∈ upF F N x))) ∧ Below w.heap.size w w' := by
  have hA0 := Boxed.new w 3 (.int .i64 y)
  have hA1 := (Boxed.new w 3 (.int .i64 y)).alloc (.cells #[.bool false] 4)
  have hA2 := Boxed.new (w.alloc (.cells #[.int .i64 y] 3)) 4 (.bool false)
  have hBB : Below w.heap.size w ((w.alloc (.cells #[.int .i64 y] 3)).alloc (.cells #[.bool false] 4)) := ((Below.refl _ w).alloc (Nat.le_refl _) _).alloc (by simp) _
  have hMM : MapP ((w.alloc (.cells #[.int .i64 y] 3)).alloc (.cells #[.bool false] 4)) b nn F := SMap.alloc (SMap.alloc hb _) _
  have hs2 : ((w.alloc (.cells #[.int .i64 y] 3)).alloc (.cells #[.bool false] 4)).heap.size = w.heap.size + 2 := by simp
  rw [World.size_alloc] at hA2
  have hbl := SMap.lt hb
  have hll : (upF F N x).length ≤ 100000 := by omega
  obtain ⟨L, hL⟩ : ∃ L, L = upF F N x := ⟨_, rfl⟩
  rw [← hL] at hll ⊢
  have HLL := Lib.hid hL
  clear hL
  refine (callsIn_wide (n := 0)).1 ?_
  refine callsIn_of_wp_marks Try.func33 rfl trivial ?_ rfl
  simp only [Try.ntmps33, List.size_toArray, List.length_cons, List.length_nil, Nat.reduceAdd, Nat.reduceSub, Array.replicate_succ, Array.replicate_zero, List.push_toArray, List.append_toArray, List.nil_append, List.cons_append]
  gi_wp2_with fail
  refine ⟨trivial, rfl, (callsIn_wide.2 (up_any (some b) x _)).mono ?_⟩
  rintro e w' ⟨rfl, rfl⟩
  gi_wp2_with fail
  obtain ⟨h1, h2, h3, h4, h5⟩ := up_boxes b nn F x _ hMM
  have hO4 : Boxed ((((w.alloc (.cells #[.int .i64 y] 3)).alloc (.cells #[.bool false] 4)).alloc (.cells #[.map (some b)] 48)).alloc (.cells #[.int .i64 x] 3)) w.heap.size 3 (.int .i64 y) := (hA1.alloc _).alloc _
  have hR4 : Boxed ((((w.alloc (.cells #[.int .i64 y] 3)).alloc (.cells #[.bool false] 4)).alloc (.cells #[.map (some b)] 48)).alloc (.cells #[.int .i64 x] 3)) (w.heap.size + 1) 4 (.bool false) := (hA2.alloc _).alloc _
  have hB4 : Below w.heap.size w ((((w.alloc (.cells #[.int .i64 y] 3)).alloc (.cells #[.bool false] 4)).alloc (.cells #[.map (some b)] 48)).alloc (.cells #[.int .i64 x] 3)) := below_trans hBB h4
  rw [hs2] at h2 h3 h5
  obtain ⟨W4, hW4⟩ : ∃ W4, W4 = ((((w.alloc (.cells #[.int .i64 y] 3)).alloc (.cells #[.bool false] 4)).alloc (.cells #[.map (some b)] 48)).alloc (.cells #[.int .i64 x] 3)) := ⟨_, rfl⟩
  rw [← hW4] at h1 h2 h3 h5 hO4 hR4 hB4 ⊢
  have HSZ := Lib.hid h5
  have hit := up_iter b nn (w.heap.size + 2) (w.heap.size + 2 + 1) w.heap.size N F x W4 h1 h2 h3 hI hF hN hbl
  rw [← HLL.out] at hit
  clear hW4 hMM hBB hA0 hA1 hA2 hs2 h4 h1 h2 h3 hb hI hF hN hN2
  refine rf_law (n := 0) (gf := 54) (lb := #[.pointer (some ⟨w.heap.size + 2, 0, none⟩), .pointer (some ⟨w.heap.size + 2 + 1, 0, none⟩)]) rfl (enters_of Try.func54 (by kernel_rfl) rfl)
    hit (by omega) (fun _ => rfl) (by rintro k (rfl | rfl) <;> omega)
    (fun pre Ψ W => (y ∉ pre ∧ pre.length ≤ L.length) ∧ (Boxed W w.heap.size 3 (.int .i64 y) ∧ ¬ Ψ w.heap.size) ∧ (Boxed W (w.heap.size + 1) 4 (.bool false) ∧ ¬ Ψ (w.heap.size + 1)) ∧ (Below w.heap.size w W ∧ ∀ k, Ψ k → w.heap.size ≤ k))
    (fun c pre Ψ W => (c = Code.ret ∧ y ∈ pre ∧ pre <+: L) ∧ (Boxed W (w.heap.size + 1) 4 (.bool true) ∧ ¬ Ψ (w.heap.size + 1)) ∧ (Below w.heap.size w W ∧ ∀ k, Ψ k → w.heap.size ≤ k))
    ((stable_pure _ (fun pre : List Int => y ∉ pre ∧ pre.length ≤ L.length)).and ((stable_boxed _ _ _ (fun _ => _)).and ((stable_boxed _ _ _ (fun _ => _)).and (stable_below _ _ w (Nat.le_refl _) (by omega)))))
    (fun c => (stable_pure _ (fun pre : List Int => c = Code.ret ∧ y ∈ pre ∧ pre <+: L)).and ((stable_boxed _ _ _ (fun _ => _)).and (stable_below _ _ w (Nat.le_refl _) (by omega))))
    ⟨⟨by simp, Nat.zero_le _⟩, ⟨hO4, by omega⟩, ⟨hR4, by omega⟩, hB4, by rintro k (rfl | rfl) <;> omega⟩
    (fun z a1 _ _ => a1 = { tmps := #[.map (some b), .int .i64 x, .int .i64 y, undef, undef, .pointer (some ⟨w.heap.size, 0, none⟩), .pointer (some ⟨w.heap.size + 1, 0, none⟩), .int .i64 z, .map (some b), .int .i64 x,
      .func (.func 54) #[] #[.pointer (some ⟨w.heap.size + 2, 0, none⟩), .pointer (some ⟨w.heap.size + 2 + 1, 0, none⟩)], .int .i64 z, undef, undef, undef, undef, undef, undef], defers := [] }) (stable_pure _ _)
    ?assign ?body ?done ?stop
  case assign =>
    intro l pre z Ψ A K hI _ hK
    gi_wp2
    exact hK _ _ (Below.refl _ _) hI rfl
  case body =>
    rintro l pre z Ψ a1 A ⟨⟨hny, hpl⟩, ⟨hO, hnO⟩, ⟨hR, hnR⟩, hBA, hΨ⟩ rfl hV hΨl hsz hlr
    have hc := hO.cell
    have hr := hR.cell
    have hrf := hR.frozen
    have HBA := Lib.hid hBA
    have HVL := Lib.hid hV
    have HNY := Lib.hid hny
    have hvl := hV.length_le
    rw [List.length_append, List.length_singleton] at hvl
    clear hBA hV hny
    by_cases hzy : z = y
    · have he1 : (z == y) = true := by simpa using hzy
      have he2 : decide (z = y) = true := decide_eq_true hzy
      have HZY := Lib.hid hzy
      clear hzy
      gi_wp2
      refine ⟨⟨(KeepsOthers.setCell A ⟨w.heap.size + 1, 0, none⟩ (.bool true)).from _, Below.setCell (Below.refl _ _) (p := ⟨w.heap.size + 1, 0, none⟩) (by simp) _, fun k hk => Below.heap_setCell _ _ _ _ (by rintro rfl; exact hnR hk)⟩, ⟨rfl, by rw [HZY.out]; simp, HVL.out⟩, ⟨hR.set _, hnR⟩, HBA.out.trans (Below.setCell (Below.refl _ _) (p := ⟨w.heap.size + 1, 0, none⟩) (by simp) _), hΨ⟩
    · have he1 : (z == y) = false := by simpa using hzy
      have he2 : decide (z = y) = false := decide_eq_false hzy
      have HZY := Lib.hid hzy
      clear hzy
      gi_wp2
      refine ⟨⟨KeepsFrom.refl _ _, Below.refl _ _, fun _ _ => rfl⟩, ⟨?_, by simpa using hvl⟩, ⟨hO, hnO⟩, ⟨hR, hnR⟩, HBA.out, hΨ⟩
      rw [List.mem_append, List.mem_singleton]
      exact fun h => h.elim HNY.out (fun e => HZY.out e.symm)
  case done =>
    rintro D xs Ψ W hD rfl ⟨⟨hny, -⟩, ⟨hO, hnO⟩, ⟨hR, hnR⟩, hBA, hΨ⟩ hK
    have hc := hO.cell
    have hr := hR.cell
    have hrf := hR.frozen
    have HBA := Lib.hid hBA
    clear hBA
    by_cases hxy : x = y
    · have he1 : (x == y) = true := by simpa using hxy
      have he2 : decide (x = y) = true := decide_eq_true hxy
      have HR : Hid (decide (x = y ∨ y ∈ xs) = true) := Lib.hid (decide_eq_true (.inl hxy))
      clear hxy
      gi_wp2
      refine ⟨by simp, .inl ⟨_, _, rfl, run_takeDeferred ((Below.heap_setCell _ _ _ _ (by show D ≠ w.heap.size + 1; omega)).trans hK), ?_⟩⟩
      have hb6 : Boxed ((W.setCell ⟨w.heap.size + 1, 0, none⟩ (.bool true)).putObj D (.deferred none)) (w.heap.size + 1) 4 (.bool true) := (World.putObj_heap_other (by omega)).trans (hR.set _)
      have hb6c := hb6.cell
      refine ⟨.bool true, by simp [results, Try.results33, go_sem, hb6c], by rw [HR.out], ?_⟩
      exact (HBA.out.trans (Below.setCell (Below.refl _ _) (p := ⟨w.heap.size + 1, 0, none⟩) (by simp) _)).trans (below_putObj (by omega))
    · have he1 : (x == y) = false := by simpa using hxy
      have he2 : decide (x = y) = false := decide_eq_false hxy
      have HR : Hid (decide (x = y ∨ y ∈ xs) = false) := Lib.hid (decide_eq_false (fun h => h.elim hxy hny))
      clear hxy
      gi_wp2
      refine ⟨by simp, .inl ⟨_, _, rfl, run_takeDeferred ((Below.heap_setCell _ _ _ _ (by show D ≠ w.heap.size + 1; omega)).trans hK), ?_⟩⟩
      have hb6 : Boxed ((W.setCell ⟨w.heap.size + 1, 0, none⟩ (.bool false)).putObj D (.deferred none)) (w.heap.size + 1) 4 (.bool false) := (World.putObj_heap_other (by omega)).trans (hR.set _)
      have hb6c := hb6.cell
      refine ⟨.bool false, by simp [results, Try.results33, go_sem, hb6c], by rw [HR.out], ?_⟩
      exact (HBA.out.trans (Below.setCell (Below.refl _ _) (p := ⟨w.heap.size + 1, 0, none⟩) (by simp) _)).trans (below_putObj (by omega))
  case stop =>
    rintro D c pre Ψ W hD _ ⟨⟨rfl, hmem, hpre⟩, ⟨hR, hnR⟩, hBA, hΨ⟩ hK
    have HR : Hid (decide (x = y ∨ y ∈ L) = true) := Lib.hid (decide_eq_true (.inr (hpre.subset hmem)))
    have HBA := Lib.hid hBA
    clear hBA hmem hpre
    gi_wp2
    refine ⟨by simp, .inl ⟨_, _, rfl, run_takeDeferred hK, ?_⟩⟩
    have hb6 : Boxed (W.putObj D (.deferred none)) (w.heap.size + 1) 4 (.bool true) := (World.putObj_heap_other (by omega)).trans hR
    have hb6c := hb6.cell
    refine ⟨.bool true, by simp [results, Try.results33, go_sem, hb6c], by rw [HR.out], ?_⟩
    exact HBA.out.trans (below_putObj (by omega))
end Go.Proofs.Ytcflnjmglanneaa
