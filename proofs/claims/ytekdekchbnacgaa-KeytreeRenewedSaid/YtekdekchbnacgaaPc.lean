/- Contracts of package paths, part 3: along, Path, Copath. -/
import Derived.Test.YtekdekchbnacgaaPb
import Derived.Test.YtekdekchbnacgaaRf
import Derived.Test.YtekdekchbnacgaaRg
import Derived.RangeFuncNested
import Derived.RangeFuncBound
import Derived.RangeFuncCalls
import Derived.RangeFuncLeaves
import Derived.Shelf.Abstract
import Derived.Shelf.RegionOpen
import Derived.WalkKit
import Derived.OwnWalkIn
import Derived.TacticsInMore
import Derived.LoopNIn
import Derived.LoopIn
import Derived.Maps.AppendAt
import Derived.Lib.Hide
import Derived.Deep.AppendLies
namespace Go.Proofs.Ytekdekchbnacgaa
open Go.RowKit Go.Shelf
attribute [local go_sem] Oper.semAt_some

theorem info_int : (Try.prog.info? 3).map (fun i => (i.zero, i.size, i.bytes)) = some (some (.int .i64 0), 1, 8) := by kernel_rfl



set_option maxRecDepth 100000 in
set_option maxHeartbeats 1000000 in
theorem along_parent (d : Nat) (hd : d < 512) (w : World) :
    Calls Try.prog 52 #[.int .i64 d, .func (.func 53) #[] #[]] w fun e w' => ∃ v, e = .returned (.tuple #[v, .int .i64 0]) ∧
      w'.ownsRow w.heap.size 3 1 v 9 ((upL 10 (512 + d)).map fun n => Value.int .i64 (parN n : Nat)) ∧ Below w.heap.size w w' := by
  obtain ⟨i0, hi, hz0, hz1, hz2⟩ := info_parts info_int
  refine (callsIn_wide (n := 0)).1 ?_
  refine callsIn_of_wp_marks Try.func52 rfl trivial ?_ rfl
  simp only [Try.ntmps52, List.size_toArray, List.length_cons, List.length_nil, Nat.reduceAdd, Nat.reduceSub, Array.replicate_succ, Array.replicate_zero, List.push_toArray, List.append_toArray, List.nil_append, List.cons_append]
  gi_wp2_with fail
  refine ⟨trivial, rfl, (callsIn_wide.2 (leaf_ok _ (by omega) (by omega) _)).mono ?_⟩
  rintro e w' ⟨rfl, rfl⟩
  gi_wp2_with fail
  refine ⟨trivial, rfl, (callsIn_wide.2 (up_any _ _)).mono ?_⟩
  rintro e w' ⟨rfl, rfl⟩
  gi_wp2_with fail
  have bO : Boxed (((w.alloc (.cells #[.func (.func 53) #[] #[]] 75)).alloc (.cells #[.slice none 0 0] 27)).alloc (.cells #[.int .i64 (512 + d)] 77)) w.heap.size 75 (.func (.func 53) #[] #[]) :=
    ((Boxed.new w _ _).alloc _).alloc _
  have bN : Boxed (((w.alloc (.cells #[.func (.func 53) #[] #[]] 75)).alloc (.cells #[.slice none 0 0] 27)).alloc (.cells #[.int .i64 (512 + d)] 77)) (w.heap.size + 1) 27 (.slice none 0 0) := by
    have := Boxed.new (w.alloc (.cells #[.func (.func 53) #[] #[]] 75)) 27 (.slice none 0 0)
    rw [World.size_alloc] at this
    exact this.alloc _
  have bI : Boxed (((w.alloc (.cells #[.func (.func 53) #[] #[]] 75)).alloc (.cells #[.slice none 0 0] 27)).alloc (.cells #[.int .i64 (512 + d)] 77)) (w.heap.size + 1 + 1) 77 (.int .i64 ((512 + d : Nat) : Int)) := by
    have := Boxed.new ((w.alloc (.cells #[.func (.func 53) #[] #[]] 75)).alloc (.cells #[.slice none 0 0] 27)) 77 (.int .i64 ((512 + d : Nat) : Int))
    rw [World.size_alloc, World.size_alloc] at this
    exact this
  have bB : Below w.heap.size w (((w.alloc (.cells #[.func (.func 53) #[] #[]] 75)).alloc (.cells #[.slice none 0 0] 27)).alloc (.cells #[.int .i64 (512 + d)] 77)) :=
    (((Below.refl _ w).alloc (Nat.le_refl _) _).alloc (by simp) _).alloc (by simp; omega) _
  have hw3 : (((w.alloc (.cells #[.func (.func 53) #[] #[]] 75)).alloc (.cells #[.slice none 0 0] 27)).alloc (.cells #[.int .i64 (512 + d)] 77)).heap.size = w.heap.size + 3 := by simp
  generalize (((w.alloc (.cells #[.func (.func 53) #[] #[]] 75)).alloc (.cells #[.slice none 0 0] 27)).alloc (.cells #[.int .i64 (512 + d)] 77)) = W0 at bO bN bI bB hw3 ⊢
  have HW3 : Hid (W0.heap.size = w.heap.size + 3) := hw3
  have hW3 : w.heap.size + 3 ≤ W0.heap.size := by omega
  clear hw3
  refine rf_law (n := 0) (gf := 85) (lb := #[.pointer (some ⟨w.heap.size + 1 + 1, 0, none⟩)]) rfl (enters_of Try.func85 (by kernel_rfl) rfl)
    (up1_iter (512 + d) 10 (by omega) (by omega) (w.heap.size + 1 + 1) W0 bI) (Nat.zero_le _) (fun _ => rfl) (by rintro k rfl; exact bI.lt)
    (fun pre Ψ W => BoxRow (w.heap.size + 1) 27 w.heap.size 3 1 pre.length (pre.map fun n => Value.int .i64 (parN n : Nat)) (fun _ => True) Ψ W ∧ (Boxed W w.heap.size 75 (.func (.func 53) #[] #[]) ∧ ¬ Ψ w.heap.size) ∧ (Below w.heap.size w W ∧ ∀ k, Ψ k → w.heap.size ≤ k))
    (fun _ _ _ _ => False)
    ((stable_boxRow W0.heap.size (w.heap.size + 1) 27 w.heap.size 3 1 (fun pre => pre.length) (fun pre : List Nat => pre.map fun n => Value.int .i64 (parN n : Nat)) (fun _ _ => True)).and ((stable_boxed _ _ _ (fun _ => _)).and (stable_below _ _ w (Nat.le_refl _) (by omega))))
    (fun _ => stable_pure _ _)
    ⟨⟨_, bN, by omega, World.ownsRow_nil _ _ _ _, by simp [Value.ownBlock], trivial⟩, ⟨bO, by omega⟩, bB, by rintro k rfl; omega⟩
    (fun x a1 _ _ => a1 = { tmps := #[.int .i64 d, .func (.func 53) #[] #[], undef, .pointer (some ⟨w.heap.size, 0, none⟩), .pointer (some ⟨w.heap.size + 1, 0, none⟩), .int .i64 0,
      .int .i64 (512 + d), .int .i64 x, .tuple #[.int .i64 (512 + d), .int .i64 0], .int .i64 d, .tuple #[.int .i64 (512 + d), .int .i64 0], .int .i64 (512 + d), .int .i64 0, .int .i64 0, .bool false, undef, .int .i64 (512 + d),
      .func (.func 85) #[] #[.pointer (some ⟨w.heap.size + 1 + 1, 0, none⟩)], .int .i64 x, undef, undef, undef, undef, undef, undef, undef], defers := [] }) (stable_pure _ _)
    ?assign ?body ?done ?stop
  case assign =>
    intro l pre x Ψ A K hI _ hK
    gi_wp2
    exact hK _ _ (Below.refl _ _) hI rfl
  case body =>
    rintro l pre x Ψ a1 A ⟨⟨v, hv, hnb, hrow, hnj, -⟩, ⟨hO, hnO⟩, hBA, hΨ⟩ rfl hV hΨl hsz hlr
    obtain ⟨hx, hxl⟩ := upL_pre 10 (512 + d) (by omega) hV
    clear hV
    have hc := hv.cell
    have hcO := hO.cell
    have HB := Lib.hid hBA
    have hszA := hBA.size
    clear hBA
    gi_wp2
    refine region_sched_round (fun W' => W'.cell? ⟨w.heap.size + 1, 0, none⟩ = some v ∧ W'.cell? ⟨w.heap.size, 0, none⟩ = some (.func (.func 53) #[] #[])) 6
      [(0, true), (1, true), (2, true), (3, false), (4, false), (5, false), (6, false)] (by kernel_rfl) (by kernel_rfl) (by kernel_rfl) (by kernel_rfl) rfl (fun _ _ _ _ h => h) (fun ⟨_, _, h⟩ => h) ⟨hc, hcO⟩ ?_
    refine sched_take (v := ?_) rfl rfl (fun W' hS => ?_) ?_
    rotate_left
    · obtain ⟨hs1, hs2⟩ := hS; go_simp; with_reducible rfl
    refine sched_take (v := ?_) rfl rfl (fun W' hS => ?_) ?_
    rotate_left
    · obtain ⟨hs1, hs2⟩ := hS; go_simp; with_reducible rfl
    refine sched_take (v := ?_) rfl rfl (fun W' hS => ?_) ?_
    rotate_left
    · go_simp; with_reducible rfl
    refine sched_do rfl (fun K' hK => ?_)
    go_simp
    refine (parent_par _ (by omega) _).mono ?_
    rintro e w' ⟨rfl, rfl⟩
    refine hK.out _ _ ⟨hc, hcO⟩ fun _ => ?_
    clear hK
    refine sched_do rfl (fun K' hK => ?_)
    go_simp
    have hc1 : (A.alloc (.cells #[.int .i64 (parN x : Nat)] 3)).cell? ⟨w.heap.size + 1, 0, none⟩ = some v := (hv.alloc _).cell
    have hc2 : (A.alloc (.cells #[.int .i64 (parN x : Nat)] 3)).cell? ⟨w.heap.size, 0, none⟩ = some (.func (.func 53) #[] #[]) := (hO.alloc _).cell
    refine hK.out _ _ ⟨hc1, hc2⟩ fun _ => ?_
    clear hK
    refine sched_do rfl (fun K' hK => ?_)
    refine step_append_lies _ rfl (.tmp 19) (.tmp 23) 27 rfl w.heap.size 3 i0 (.int .i64 0) 1 8 Try.underlying27 hi hz0 hz1 hz2 rfl (by decide) v pre.length _ rfl (hrow.alloc _)
      ⟨A.heap.size, 0, none⟩ 1 1 [.int .i64 (parN x : Nat)] rfl rfl (cell_one_new _ _ _) (by simp [Value.oneCell']) (by omega) (by unfold maxLen; omega) (by omega) (by simp; omega) _ rfl ?_
    intro g cap w1 hown1 hgrow1 hg1 hlt1
    have hgr := grownBy_drew hgrow1
    obtain ⟨hkeep, hbr⟩ := appended_round (B0 := W0.heap.size) hv (by decide) hrow hszA (by omega) hnb hnj hΨl hown1 hgr (by
      intro j hj; simp only [Value.ownBlock, Option.some.injEq] at hj; subst hj; simpa using hg1)
    have hbA1 : Boxed w1 w.heap.size 75 (.func (.func 53) #[] #[]) := (hO.alloc _).kept hgr (by have := hO.not_row (e := 3) (by decide) hrow; exact this)
    have hbN1 : Boxed w1 (w.heap.size + 1) 27 v := (hv.alloc _).kept hgr (by have := hv.not_row (e := 3) (by decide) hrow; exact this)
    have hN1 := hbN1.cell
    have hF1 := hbN1.frozen
    have hO1 := hbA1.cell
    refine hK.out _ _ ⟨hN1, hO1⟩ fun _ => ?_
    clear hK
    refine sched_end rfl (fun K' hK => ?_)
    go_simp
    refine hK.out _ _ ⟨⟨hkeep.1, hkeep.2.1.mono (Nat.zero_le _), hkeep.2.2⟩, ?_, ⟨hbA1.other (by omega) _, hnO⟩, HB.out.trans hkeep.2.1, hΨ⟩
    obtain ⟨v', b1, b2, b3, b4, -⟩ := hbr
    exact ⟨v', b1, b2, by simpa using b3, b4, trivial⟩
  case done =>
    rintro D xs Ψ W hD rfl ⟨⟨v, hv, hnb, hrow, hnj, -⟩, ⟨hO, hnO⟩, hBA, hΨ⟩ hK
    have hc := hv.cell
    have hf := hv.frozen
    have HB := Lib.hid hBA
    clear hBA
    have hl9 := upL_nine d hd
    rw [hl9] at hrow
    clear hl9
    obtain ⟨g, cap, rfl⟩ := ownsRow_succ hrow
    gi_wp2
    refine ⟨by simp, .inl ⟨_, _, rfl, run_takeDeferred (b := D) (ds := []) ?_, ?_⟩⟩
    · exact (KeepsOthers.setCell W _ _).same D _ hK rfl
    · have hN : Boxed (W.setCell ⟨w.heap.size + 1, 0, none⟩ (.slice (some ⟨g, 0, none⟩) 9 cap)) (w.heap.size + 1) 27 (.slice (some ⟨g, 0, none⟩) 9 cap) := hv.set _
      have hK' : (W.setCell ⟨w.heap.size + 1, 0, none⟩ (.slice (some ⟨g, 0, none⟩) 9 cap)).heap[D]? = some (.deferred (some [])) := (KeepsOthers.setCell W _ _).same D _ hK rfl
      have hrow' : (W.setCell ⟨w.heap.size + 1, 0, none⟩ (.slice (some ⟨g, 0, none⟩) 9 cap)).ownsRow w.heap.size 3 1 (.slice (some ⟨g, 0, none⟩) 9 cap) 9 ((upL 10 (512 + d)).map fun n => Value.int .i64 (parN n : Nat)) :=
        hrow.kept (grownBy_setCell' W _ _) (.inr (hv.not_row (e := 3) (by decide) hrow).symm)
      have hN2 : Boxed ((W.setCell ⟨w.heap.size + 1, 0, none⟩ (.slice (some ⟨g, 0, none⟩) 9 cap)).putObj D (.deferred none)) (w.heap.size + 1) 27 (.slice (some ⟨g, 0, none⟩) 9 cap) :=
        (World.putObj_heap_other (by omega)).trans hN
      have hc2 := hN2.cell
      refine ⟨.tuple #[.slice (some ⟨g, 0, none⟩) 9 cap, .int .i64 0], by simp [results, Try.results52, go_sem, hc2], _, rfl, ownsRow_putObj hrow' _ hK' rfl, ?_⟩
      exact (HB.out.setCell (p := ⟨w.heap.size + 1, 0, none⟩) (by simp) _).trans (below_putObj (by omega))
  case stop =>
    intro D c pre Ψ W _ _ h
    exact h.elim



set_option maxRecDepth 100000 in
set_option maxHeartbeats 1000000 in
theorem along_sibling (d : Nat) (hd : d < 512) (w : World) :
    Calls Try.prog 52 #[.int .i64 d, .func (.func 57) #[] #[]] w fun e w' => ∃ v, e = .returned (.tuple #[v, .int .i64 0]) ∧
      w'.ownsRow w.heap.size 3 1 v 9 ((upL 10 (512 + d)).map fun n => Value.int .i64 (sibN n : Nat)) ∧ Below w.heap.size w w' := by
  obtain ⟨i0, hi, hz0, hz1, hz2⟩ := info_parts info_int
  refine (callsIn_wide (n := 0)).1 ?_
  refine callsIn_of_wp_marks Try.func52 rfl trivial ?_ rfl
  simp only [Try.ntmps52, List.size_toArray, List.length_cons, List.length_nil, Nat.reduceAdd, Nat.reduceSub, Array.replicate_succ, Array.replicate_zero, List.push_toArray, List.append_toArray, List.nil_append, List.cons_append]
  gi_wp2_with fail
  refine ⟨trivial, rfl, (callsIn_wide.2 (leaf_ok _ (by omega) (by omega) _)).mono ?_⟩
  rintro e w' ⟨rfl, rfl⟩
  gi_wp2_with fail
  refine ⟨trivial, rfl, (callsIn_wide.2 (up_any _ _)).mono ?_⟩
  rintro e w' ⟨rfl, rfl⟩
  gi_wp2_with fail
  have bO : Boxed (((w.alloc (.cells #[.func (.func 57) #[] #[]] 75)).alloc (.cells #[.slice none 0 0] 27)).alloc (.cells #[.int .i64 (512 + d)] 77)) w.heap.size 75 (.func (.func 57) #[] #[]) :=
    ((Boxed.new w _ _).alloc _).alloc _
  have bN : Boxed (((w.alloc (.cells #[.func (.func 57) #[] #[]] 75)).alloc (.cells #[.slice none 0 0] 27)).alloc (.cells #[.int .i64 (512 + d)] 77)) (w.heap.size + 1) 27 (.slice none 0 0) := by
    have := Boxed.new (w.alloc (.cells #[.func (.func 57) #[] #[]] 75)) 27 (.slice none 0 0)
    rw [World.size_alloc] at this
    exact this.alloc _
  have bI : Boxed (((w.alloc (.cells #[.func (.func 57) #[] #[]] 75)).alloc (.cells #[.slice none 0 0] 27)).alloc (.cells #[.int .i64 (512 + d)] 77)) (w.heap.size + 1 + 1) 77 (.int .i64 ((512 + d : Nat) : Int)) := by
    have := Boxed.new ((w.alloc (.cells #[.func (.func 57) #[] #[]] 75)).alloc (.cells #[.slice none 0 0] 27)) 77 (.int .i64 ((512 + d : Nat) : Int))
    rw [World.size_alloc, World.size_alloc] at this
    exact this
  have bB : Below w.heap.size w (((w.alloc (.cells #[.func (.func 57) #[] #[]] 75)).alloc (.cells #[.slice none 0 0] 27)).alloc (.cells #[.int .i64 (512 + d)] 77)) :=
    (((Below.refl _ w).alloc (Nat.le_refl _) _).alloc (by simp) _).alloc (by simp; omega) _
  have hw3 : (((w.alloc (.cells #[.func (.func 57) #[] #[]] 75)).alloc (.cells #[.slice none 0 0] 27)).alloc (.cells #[.int .i64 (512 + d)] 77)).heap.size = w.heap.size + 3 := by simp
  generalize (((w.alloc (.cells #[.func (.func 57) #[] #[]] 75)).alloc (.cells #[.slice none 0 0] 27)).alloc (.cells #[.int .i64 (512 + d)] 77)) = W0 at bO bN bI bB hw3 ⊢
  have HW3 : Hid (W0.heap.size = w.heap.size + 3) := hw3
  have hW3 : w.heap.size + 3 ≤ W0.heap.size := by omega
  clear hw3
  refine rf_law (n := 0) (gf := 85) (lb := #[.pointer (some ⟨w.heap.size + 1 + 1, 0, none⟩)]) rfl (enters_of Try.func85 (by kernel_rfl) rfl)
    (up1_iter (512 + d) 10 (by omega) (by omega) (w.heap.size + 1 + 1) W0 bI) (Nat.zero_le _) (fun _ => rfl) (by rintro k rfl; exact bI.lt)
    (fun pre Ψ W => BoxRow (w.heap.size + 1) 27 w.heap.size 3 1 pre.length (pre.map fun n => Value.int .i64 (sibN n : Nat)) (fun _ => True) Ψ W ∧ (Boxed W w.heap.size 75 (.func (.func 57) #[] #[]) ∧ ¬ Ψ w.heap.size) ∧ (Below w.heap.size w W ∧ ∀ k, Ψ k → w.heap.size ≤ k))
    (fun _ _ _ _ => False)
    ((stable_boxRow W0.heap.size (w.heap.size + 1) 27 w.heap.size 3 1 (fun pre => pre.length) (fun pre : List Nat => pre.map fun n => Value.int .i64 (sibN n : Nat)) (fun _ _ => True)).and ((stable_boxed _ _ _ (fun _ => _)).and (stable_below _ _ w (Nat.le_refl _) (by omega))))
    (fun _ => stable_pure _ _)
    ⟨⟨_, bN, by omega, World.ownsRow_nil _ _ _ _, by simp [Value.ownBlock], trivial⟩, ⟨bO, by omega⟩, bB, by rintro k rfl; omega⟩
    (fun x a1 _ _ => a1 = { tmps := #[.int .i64 d, .func (.func 57) #[] #[], undef, .pointer (some ⟨w.heap.size, 0, none⟩), .pointer (some ⟨w.heap.size + 1, 0, none⟩), .int .i64 0,
      .int .i64 (512 + d), .int .i64 x, .tuple #[.int .i64 (512 + d), .int .i64 0], .int .i64 d, .tuple #[.int .i64 (512 + d), .int .i64 0], .int .i64 (512 + d), .int .i64 0, .int .i64 0, .bool false, undef, .int .i64 (512 + d),
      .func (.func 85) #[] #[.pointer (some ⟨w.heap.size + 1 + 1, 0, none⟩)], .int .i64 x, undef, undef, undef, undef, undef, undef, undef], defers := [] }) (stable_pure _ _)
    ?assign ?body ?done ?stop
  case assign =>
    intro l pre x Ψ A K hI _ hK
    gi_wp2
    exact hK _ _ (Below.refl _ _) hI rfl
  case body =>
    rintro l pre x Ψ a1 A ⟨⟨v, hv, hnb, hrow, hnj, -⟩, ⟨hO, hnO⟩, hBA, hΨ⟩ rfl hV hΨl hsz hlr
    obtain ⟨hx, hxl⟩ := upL_pre 10 (512 + d) (by omega) hV
    clear hV
    have hc := hv.cell
    have hcO := hO.cell
    have HB := Lib.hid hBA
    have hszA := hBA.size
    clear hBA
    gi_wp2
    refine region_sched_round (fun W' => W'.cell? ⟨w.heap.size + 1, 0, none⟩ = some v ∧ W'.cell? ⟨w.heap.size, 0, none⟩ = some (.func (.func 57) #[] #[])) 6
      [(0, true), (1, true), (2, true), (3, false), (4, false), (5, false), (6, false)] (by kernel_rfl) (by kernel_rfl) (by kernel_rfl) (by kernel_rfl) rfl (fun _ _ _ _ h => h) (fun ⟨_, _, h⟩ => h) ⟨hc, hcO⟩ ?_
    refine sched_take (v := ?_) rfl rfl (fun W' hS => ?_) ?_
    rotate_left
    · obtain ⟨hs1, hs2⟩ := hS; go_simp; with_reducible rfl
    refine sched_take (v := ?_) rfl rfl (fun W' hS => ?_) ?_
    rotate_left
    · obtain ⟨hs1, hs2⟩ := hS; go_simp; with_reducible rfl
    refine sched_take (v := ?_) rfl rfl (fun W' hS => ?_) ?_
    rotate_left
    · go_simp; with_reducible rfl
    refine sched_do rfl (fun K' hK => ?_)
    go_simp
    refine (sibling_sib _ (by omega) _).mono ?_
    rintro e w' ⟨rfl, rfl⟩
    refine hK.out _ _ ⟨hc, hcO⟩ fun _ => ?_
    clear hK
    refine sched_do rfl (fun K' hK => ?_)
    go_simp
    have hc1 : (A.alloc (.cells #[.int .i64 (sibN x : Nat)] 3)).cell? ⟨w.heap.size + 1, 0, none⟩ = some v := (hv.alloc _).cell
    have hc2 : (A.alloc (.cells #[.int .i64 (sibN x : Nat)] 3)).cell? ⟨w.heap.size, 0, none⟩ = some (.func (.func 57) #[] #[]) := (hO.alloc _).cell
    refine hK.out _ _ ⟨hc1, hc2⟩ fun _ => ?_
    clear hK
    refine sched_do rfl (fun K' hK => ?_)
    refine step_append_lies _ rfl (.tmp 19) (.tmp 23) 27 rfl w.heap.size 3 i0 (.int .i64 0) 1 8 Try.underlying27 hi hz0 hz1 hz2 rfl (by decide) v pre.length _ rfl (hrow.alloc _)
      ⟨A.heap.size, 0, none⟩ 1 1 [.int .i64 (sibN x : Nat)] rfl rfl (cell_one_new _ _ _) (by simp [Value.oneCell']) (by omega) (by unfold maxLen; omega) (by omega) (by simp; omega) _ rfl ?_
    intro g cap w1 hown1 hgrow1 hg1 hlt1
    have hgr := grownBy_drew hgrow1
    obtain ⟨hkeep, hbr⟩ := appended_round (B0 := W0.heap.size) hv (by decide) hrow hszA (by omega) hnb hnj hΨl hown1 hgr (by
      intro j hj; simp only [Value.ownBlock, Option.some.injEq] at hj; subst hj; simpa using hg1)
    have hbA1 : Boxed w1 w.heap.size 75 (.func (.func 57) #[] #[]) := (hO.alloc _).kept hgr (by have := hO.not_row (e := 3) (by decide) hrow; exact this)
    have hbN1 : Boxed w1 (w.heap.size + 1) 27 v := (hv.alloc _).kept hgr (by have := hv.not_row (e := 3) (by decide) hrow; exact this)
    have hN1 := hbN1.cell
    have hF1 := hbN1.frozen
    have hO1 := hbA1.cell
    refine hK.out _ _ ⟨hN1, hO1⟩ fun _ => ?_
    clear hK
    refine sched_end rfl (fun K' hK => ?_)
    go_simp
    refine hK.out _ _ ⟨⟨hkeep.1, hkeep.2.1.mono (Nat.zero_le _), hkeep.2.2⟩, ?_, ⟨hbA1.other (by omega) _, hnO⟩, HB.out.trans hkeep.2.1, hΨ⟩
    obtain ⟨v', b1, b2, b3, b4, -⟩ := hbr
    exact ⟨v', b1, b2, by simpa using b3, b4, trivial⟩
  case done =>
    rintro D xs Ψ W hD rfl ⟨⟨v, hv, hnb, hrow, hnj, -⟩, ⟨hO, hnO⟩, hBA, hΨ⟩ hK
    have hc := hv.cell
    have hf := hv.frozen
    have HB := Lib.hid hBA
    clear hBA
    have hl9 := upL_nine d hd
    rw [hl9] at hrow
    clear hl9
    obtain ⟨g, cap, rfl⟩ := ownsRow_succ hrow
    gi_wp2
    refine ⟨by simp, .inl ⟨_, _, rfl, run_takeDeferred (b := D) (ds := []) ?_, ?_⟩⟩
    · exact (KeepsOthers.setCell W _ _).same D _ hK rfl
    · have hN : Boxed (W.setCell ⟨w.heap.size + 1, 0, none⟩ (.slice (some ⟨g, 0, none⟩) 9 cap)) (w.heap.size + 1) 27 (.slice (some ⟨g, 0, none⟩) 9 cap) := hv.set _
      have hK' : (W.setCell ⟨w.heap.size + 1, 0, none⟩ (.slice (some ⟨g, 0, none⟩) 9 cap)).heap[D]? = some (.deferred (some [])) := (KeepsOthers.setCell W _ _).same D _ hK rfl
      have hrow' : (W.setCell ⟨w.heap.size + 1, 0, none⟩ (.slice (some ⟨g, 0, none⟩) 9 cap)).ownsRow w.heap.size 3 1 (.slice (some ⟨g, 0, none⟩) 9 cap) 9 ((upL 10 (512 + d)).map fun n => Value.int .i64 (sibN n : Nat)) :=
        hrow.kept (grownBy_setCell' W _ _) (.inr (hv.not_row (e := 3) (by decide) hrow).symm)
      have hN2 : Boxed ((W.setCell ⟨w.heap.size + 1, 0, none⟩ (.slice (some ⟨g, 0, none⟩) 9 cap)).putObj D (.deferred none)) (w.heap.size + 1) 27 (.slice (some ⟨g, 0, none⟩) 9 cap) :=
        (World.putObj_heap_other (by omega)).trans hN
      have hc2 := hN2.cell
      refine ⟨.tuple #[.slice (some ⟨g, 0, none⟩) 9 cap, .int .i64 0], by simp [results, Try.results52, go_sem, hc2], _, rfl, ownsRow_putObj hrow' _ hK' rfl, ?_⟩
      exact (HB.out.setCell (p := ⟨w.heap.size + 1, 0, none⟩) (by simp) _).trans (below_putObj (by omega))
  case stop =>
    intro D c pre Ψ W _ _ h
    exact h.elim

theorem path_ok (d : Nat) (hd : d < 512) (w : World) :
    Calls Try.prog 29 #[.int .i64 d] w fun e w' => ∃ v, e = .returned (.tuple #[v, .int .i64 0]) ∧
      w'.ownsRow w.heap.size 3 1 v 9 (iv (pathN d)) ∧ Below w.heap.size w w' := by
  rw [iv_path]
  go_enter Try.func29, Try.ntmps29
  go_wp2_with fail
  refine (along_parent d hd _).mono ?_
  rintro e w' ⟨v, rfl, hrow, hB⟩
  go_wp2
  go_ret2
  exact ⟨v, rfl, hrow, hB⟩

theorem copath_ok (d : Nat) (hd : d < 512) (w : World) :
    Calls Try.prog 33 #[.int .i64 d] w fun e w' => ∃ v, e = .returned (.tuple #[v, .int .i64 0]) ∧
      w'.ownsRow w.heap.size 3 1 v 9 (iv (copN d)) ∧ Below w.heap.size w w' := by
  rw [iv_cop]
  go_enter Try.func33, Try.ntmps33
  go_wp2_with fail
  refine (along_sibling d hd _).mono ?_
  rintro e w' ⟨v, rfl, hrow, hB⟩
  go_wp2
  go_ret2
  exact ⟨v, rfl, hrow, hB⟩

theorem along_no (d : Int) (h : d < 0 ∨ 512 ≤ d) (K : Nat) (w : World) :
    Calls Try.prog 52 #[.int .i64 d, .func (.func K) #[] #[]] w fun e w' => e = .returned (.tuple #[.slice none 0 0, .int .i64 200]) ∧ Below w.heap.size w w' := by
  go_enter Try.func52, Try.ntmps52
  go_wp2_with fail
  refine (leaf_no _ h _).mono ?_
  rintro e w' ⟨rfl, rfl⟩
  go_wp2
  exact bodyPost_ret (v := .tuple #[.slice none 0 0, .int .i64 200]) (by simp [results, Try.results52, go_sem]) rfl ⟨rfl, ((Below.refl _ w).alloc (Nat.le_refl _) _).alloc (by simp) _⟩

theorem path_no (d : Int) (h : d < 0 ∨ 512 ≤ d) (w : World) :
    Calls Try.prog 29 #[.int .i64 d] w fun e w' => e = .returned (.tuple #[.slice none 0 0, .int .i64 200]) ∧ Below w.heap.size w w' := by
  go_enter Try.func29, Try.ntmps29
  go_wp2_with fail
  refine (along_no d h _ _).mono ?_
  rintro e w' ⟨rfl, hB⟩
  go_wp2
  go_ret2
  exact ⟨rfl, hB⟩

theorem copath_no (d : Int) (h : d < 0 ∨ 512 ≤ d) (w : World) :
    Calls Try.prog 33 #[.int .i64 d] w fun e w' => e = .returned (.tuple #[.slice none 0 0, .int .i64 200]) ∧ Below w.heap.size w w' := by
  go_enter Try.func33, Try.ntmps33
  go_wp2_with fail
  refine (along_no d h _ _).mono ?_
  rintro e w' ⟨rfl, hB⟩
  go_wp2
  go_ret2
  exact ⟨rfl, hB⟩
end Go.Proofs.Ytekdekchbnacgaa
