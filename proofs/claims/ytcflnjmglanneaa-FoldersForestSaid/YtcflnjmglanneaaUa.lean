/- The library's iterators at ints: slices.AppendSeq, slices.Collect. -/
import Derived.Test.YtcflnjmglanneaaRf
import Derived.OwnWalkIn
import Derived.TacticsInMore
import Derived.LoopNIn
import Derived.LoopIn
import Derived.Maps.AppendAt
import Derived.Lib.Hide
import Derived.Deep.AppendLies
import Derived.RangeFuncBox
import Derived.Test.YtcflnjmglanneaaRows
import Derived.Maps.OwnIn
namespace Go.Proofs.Ytcflnjmglanneaa
open Go.RowKit
attribute [local go_sem] Oper.semAt_some
set_option maxRecDepth 100000
set_option linter.unusedVariables false
set_option linter.unusedSimpArgs false

theorem info_i64 : (Try.prog.info? 3).map (fun i => (i.zero, i.size, i.bytes)) = some (some (.int .i64 0), 1, 8) := by kernel_rfl
theorem IterC.later {α : Type} {P : Program} {g : Nat} {lb : Array Value} {encs : α → Array Value} {Ψ0 : Nat → Prop} {n₀ : Nat} {S Sp V : List α → Prop} {w w' : World} (h : IterC P g lb encs Ψ0 n₀ S Sp V w) (hB : Below w.heap.size w w') : IterC P g lb encs Ψ0 n₀ S Sp V w' :=
  fun l J Jx W hW hJ hJx hY h0 => h l J Jx W (hB.trans (hW.mono hB.size)) hJ hJx hY h0

set_option maxHeartbeats 1000000 in
theorem appendSeq_ok {gf : Nat} {lb : Array Value} (eg : ∀ args w, (callFunc gf args).run Try.prog w = .ok (.enter gf args) w) {Ψ0 : Nat → Prop} {n₀ : Nat} {S Sp V : List Int → Prop} {w : World}
    (hit : IterC Try.prog gf lb (fun x : Int => #[.int .i64 x]) Ψ0 n₀ S Sp V w) (hn₀ : n₀ ≤ w.heap.size) (hΨ0 : ∀ k, Ψ0 k → k < w.heap.size) (hV : ∀ ys, V ys → ys.length ≤ 1000000) (nb : Nat) (hnb : nb ≤ w.heap.size) (hΨn : ∀ k, Ψ0 k → nb ≤ k) :
    Calls Try.prog 53 #[.slice none 0 0, .func (.func gf) #[] lb] w fun e w' => ∃ v xs, e = .returned v ∧ S xs ∧ w'.ownsRow w.heap.size 3 1 v xs.length (xs.map (Value.int .i64)) ∧ Below nb w w' := by
  obtain ⟨i0, hi, hz0, hz1, hz2⟩ := info_parts info_i64
  have HIT := Lib.hid hit
  have HEG := Lib.hid eg
  have HV := Lib.hid hV
  clear hit eg hV
  refine (callsIn_wide (n := 0)).1 ?_
  refine callsIn_of_wp_marks Try.func53 rfl trivial ?_ rfl
  simp only [Try.ntmps53, List.size_toArray, List.length_cons, List.length_nil, Nat.reduceAdd, Nat.reduceSub, Array.replicate_succ, Array.replicate_zero, List.push_toArray, List.append_toArray, List.nil_append, List.cons_append]
  gi_wp2_with fail
  obtain ⟨W0, hW0⟩ : ∃ W0, W0 = w.alloc (.cells #[.slice none 0 0] 31) := ⟨_, rfl⟩
  have bN : Boxed W0 w.heap.size 31 (.slice none 0 0) := by rw [hW0]; exact Boxed.new w _ _
  have bB : Below w.heap.size w W0 := by rw [hW0]; exact (Below.refl _ w).alloc (Nat.le_refl _) _
  have hsz : w.heap.size + 1 ≤ W0.heap.size := by rw [hW0]; simp
  rw [← hW0]
  clear hW0
  refine rf_law (n := 0) (gf := gf) (lb := lb) rfl HEG.out (HIT.out.later bB) (by omega) (fun _ => rfl) (fun k hk => by have := hΨ0 k hk; omega)
    (fun pre Ψ W => BoxRow w.heap.size 31 w.heap.size 3 1 pre.length (pre.map (Value.int .i64)) (fun _ => True) Ψ W ∧ (Below nb w W ∧ ∀ k, Ψ k → nb ≤ k))
    (fun _ _ _ _ => False)
    ((stable_boxRow W0.heap.size w.heap.size 31 w.heap.size 3 1 (fun pre => pre.length) (fun pre : List Int => pre.map (Value.int .i64)) (fun _ _ => True)).and (stable_below _ _ w hnb (by omega)))
    (fun _ => stable_pure _ _)
    ⟨⟨_, bN, fun h => by have := hΨ0 _ h; omega, World.ownsRow_nil _ _ _ _, by simp [Value.ownBlock], trivial⟩, bB.mono hnb, hΨn⟩
    (fun x a1 _ _ => a1 = { tmps := #[.slice none 0 0, .func (.func gf) #[] lb, .pointer (some ⟨w.heap.size, 0, none⟩), undef, .slice none 0 0, .int .i64 x, .func (.func gf) #[] lb, .int .i64 x, undef, undef, undef, undef, undef], defers := [] }) (stable_pure _ _)
    ?assign ?body ?done ?stop
  case assign =>
    intro l pre x Ψ A K hI _ hK
    gi_wp2
    exact hK _ _ (Below.refl _ _) hI rfl
  case body =>
    rintro l pre x Ψ a1 A ⟨⟨v, hv, hnb1, hrow, hnj, -⟩, hBA, hΨ⟩ rfl hVx hΨl hsz' hlr
    have hlen := HV.out _ hVx
    rw [List.length_append, List.length_singleton] at hlen
    have hc := hv.cell
    have HB := Lib.hid hBA
    have hszA := hBA.size
    clear hBA hVx
    gi_wp2_with (gi_at_builtin; refine wpListIn_append_own_at _ rfl _ _ 31 rfl w.heap.size 3 i0 (.int .i64 0) 1 8 Try.underlying31 hi hz0 hz1 hz2 rfl (by decide) _ _ _ rfl (hrow.alloc _) ⟨A.heap.size, 0, none⟩ 1 1 [.int .i64 x] rfl rfl (cell_one_new _ _ _) (by simp [Value.oneCell']) (by unfold maxLen; omega) (by omega) (by simp; omega) ?_; intro v' w1 hown1 hgrow1 hnil hloc; obtain ⟨g', cap', rfl⟩ := ownsRow_succ hown1; obtain ⟨hkeep, hbr⟩ := appended_round (B0 := W0.heap.size) hv (by decide) hrow (by omega) (Nat.le_refl _) hnb1 hnj hΨl hown1 hgrow1 (by intro j hj; rw [hj] at hloc; rcases hloc with h | h; exact .inl h.symm; exact .inr (by simpa using h)); have hbN1 : Boxed w1 w.heap.size 31 v := (hv.alloc _).kept hgrow1 (by have := hv.not_row (e := 3) (by decide) hrow; exact this); have hN1 := hbN1.cell; have hF1 := hbN1.frozen)
    obtain ⟨v', b1, b2, b3, b4, b5⟩ := hbr
    refine ⟨⟨hkeep.1, hkeep.2.1.mono hn₀, hkeep.2.2⟩, ⟨v', b1, b2, by simpa using b3, b4, trivial⟩, HB.out.trans (hkeep.2.1.mono hnb), hΨ⟩
  case done =>
    rintro D xs Ψ W hD hS ⟨⟨v, hv, hnb1, hrow, hnj, -⟩, hBA, hΨ⟩ hK
    have hc := hv.cell
    have HB := Lib.hid hBA
    clear hBA
    gi_wp2
    refine ⟨by simp, .inl ⟨_, _, rfl, run_takeDeferred hK, ?_⟩⟩
    exact ⟨_, results_tmp rfl _ _ _, _, xs, rfl, hS, ownsRow_putObj hrow _ hK rfl, HB.out.trans (below_putObj (by omega))⟩
  case stop =>
    intro D c pre Ψ W _ _ h
    exact h.elim
theorem collect_ok {gf : Nat} {lb : Array Value} (eg : ∀ args w, (callFunc gf args).run Try.prog w = .ok (.enter gf args) w) {Ψ0 : Nat → Prop} {n₀ : Nat} {S Sp V : List Int → Prop} {w : World}
    (hit : IterC Try.prog gf lb (fun x : Int => #[.int .i64 x]) Ψ0 n₀ S Sp V w) (hn₀ : n₀ ≤ w.heap.size) (hΨ0 : ∀ k, Ψ0 k → k < w.heap.size) (hV : ∀ ys, V ys → ys.length ≤ 1000000) (nb : Nat) (hnb : nb ≤ w.heap.size) (hΨn : ∀ k, Ψ0 k → nb ≤ k) :
    Calls Try.prog 37 #[.func (.func gf) #[] lb] w fun e w' => ∃ v xs, e = .returned v ∧ S xs ∧ w'.ownsRow w.heap.size 3 1 v xs.length (xs.map (Value.int .i64)) ∧ Below nb w w' := by
  have HA := Lib.hid (appendSeq_ok eg hit hn₀ hΨ0 hV nb hnb hΨn)
  clear eg hit hn₀ hΨ0 hV hΨn
  go_enter Try.func37, Try.ntmps37
  go_wp2_with fail
  refine HA.out.mono ?_
  rintro e w1 ⟨v, xs, rfl, hS, hrow, hB⟩
  have HR := Lib.hid hrow
  have HB := Lib.hid hB
  clear hrow hB
  go_wp2
  go_ret
  exact ⟨v, xs, rfl, hS, HR.out, HB.out⟩
end Go.Proofs.Ytcflnjmglanneaa
