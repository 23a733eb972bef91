/- Package group: power, Check. -/
import Derived.Test.YtekdekchbnacgaaKb
namespace Go.Proofs.Ytekdekchbnacgaa
open Go.RowKit Go.Shelf
attribute [local go_sem] Oper.semAt_some
set_option maxRecDepth 100000
set_option linter.unusedVariables false
set_option linter.unusedSimpArgs false

theorem keeps_below {n : Nat} {A B : World} (h : Below A.heap.size A B) (hn : n ≤ A.heap.size) : KeepsFrom n A B := ⟨h.size, fun k o _ hk _ => (h.block k (Array.getElem?_eq_some_iff.1 hk).1).trans hk⟩

set_option maxHeartbeats 1000000 in
theorem power_ok (a k : Nat) (ha : a < PN) (hk : k < 18446744073709551616) (w : World) :
    Calls Try.prog 60 #[.int .u64 a, .int .u64 k] w fun e w' => ∃ c : Nat, e = .returned (.int .u64 c) ∧ Hid (c = a ^ k % PN) ∧ Below w.heap.size w w' := by
  have hbl : bitLen k ≤ 64 := by
    by_cases h0 : k = 0
    · subst h0; decide
    · have h := (bitLen_spec k).2 h0
      rcases Nat.lt_or_ge 64 (bitLen k) with h1 | h1
      · have h2 : 2 ^ 64 ≤ 2 ^ (bitLen k - 1) := Nat.pow_le_pow_right (by decide) (by omega)
        omega
      · exact h1
  obtain ⟨n, hn⟩ : ∃ n, bitLen k = n := ⟨_, rfl⟩
  rw [hn] at hbl
  have HP := Lib.hid (pwL_all a k n (by rw [← hn]; exact (bitLen_spec k).1))
  have HA := Lib.hid ha
  refine (callsIn_wide (n := 0)).1 ?_
  refine callsIn_of_wp_marks Try.func60 rfl trivial ?_ rfl
  simp only [Try.ntmps60, List.size_toArray, List.length_cons, List.length_nil, Nat.reduceAdd, Nat.reduceSub, Array.replicate_succ, Array.replicate_zero, List.push_toArray, List.append_toArray, List.nil_append, List.cons_append]
  gi_wp2_with fail
  refine ⟨trivial, rfl, (callsIn_wide.2 (digits_any _ _)).mono ?_⟩
  rintro e w' ⟨rfl, rfl⟩
  gi_wp2_with fail
  obtain ⟨W0, hW0⟩ : ∃ W0, W0 = ((w.alloc (.cells #[.int .u64 a] 82)).alloc (.cells #[.int .u64 1] 82)).alloc (.cells #[.int .u64 k] 82) := ⟨_, rfl⟩
  have bA : Boxed W0 w.heap.size 82 (.int .u64 a) := by rw [hW0]; exact ((Boxed.new w _ _).alloc _).alloc _
  have bC : Boxed W0 (w.heap.size + 1) 82 (.int .u64 (1 : Nat)) := by
    have := Boxed.new (w.alloc (.cells #[.int .u64 a] 82)) 82 (.int .u64 (1 : Nat))
    rw [World.size_alloc] at this
    rw [hW0]; exact this.alloc _
  have bK : Boxed W0 (w.heap.size + 1 + 1) 82 (.int .u64 k) := by
    have := Boxed.new ((w.alloc (.cells #[.int .u64 a] 82)).alloc (.cells #[.int .u64 1] 82)) 82 (.int .u64 k)
    rw [World.size_alloc, World.size_alloc] at this
    rw [hW0]; exact this
  have bB : Below w.heap.size w W0 := by rw [hW0]; exact (((Below.refl _ w).alloc (Nat.le_refl _) _).alloc (by simp) _).alloc (by simp; omega) _
  have hW3 : w.heap.size + 3 ≤ W0.heap.size := by rw [hW0]; simp
  rw [← hW0]
  clear hW0
  refine rf_law (n := 0) (gf := 86) (lb := #[.pointer (some ⟨w.heap.size + 1 + 1, 0, none⟩)]) rfl (enters_of Try.func86 (by kernel_rfl) rfl)
    (digits_iter k n hk hn hbl (w.heap.size + 1 + 1) W0 bK) (Nat.zero_le _) (fun _ => rfl) (by rintro k rfl; exact bK.lt)
    (fun pre Ψ W => (Boxed W (w.heap.size + 1) 82 (.int .u64 (pwL a pre : Nat)) ∧ ¬ Ψ (w.heap.size + 1)) ∧ (Boxed W w.heap.size 82 (.int .u64 a) ∧ ¬ Ψ w.heap.size) ∧ (Below w.heap.size w W ∧ ∀ k, Ψ k → w.heap.size ≤ k))
    (fun _ _ _ _ => False)
    ((stable_boxed W0.heap.size (w.heap.size + 1) 82 (fun pre => Value.int .u64 (pwL a pre : Nat))).and ((stable_boxed _ _ _ (fun _ => _)).and (stable_below _ _ w (Nat.le_refl _) (by omega))))
    (fun _ => stable_pure _ _)
    ⟨⟨bC, by omega⟩, ⟨bA, by omega⟩, bB, by rintro k rfl; omega⟩
    (fun x a1 _ _ => a1 = { tmps := #[.int .u64 a, .int .u64 k, .pointer (some ⟨w.heap.size, 0, none⟩), undef, .int .u64 0, .pointer (some ⟨w.heap.size + 1, 0, none⟩), .bool x, .int .u64 k,
      .func (.func 86) #[] #[.pointer (some ⟨w.heap.size + 1 + 1, 0, none⟩)], .bool x, undef, undef, undef, undef, undef, undef, undef, undef], defers := [] }) (stable_pure _ _)
    ?assign ?body ?done ?stop
  case assign =>
    intro l pre x Ψ A K hI _ hK
    gi_wp2
    exact hK _ _ (Below.refl _ _) hI rfl
  case body =>
    rintro l pre x Ψ a1 A ⟨⟨hC, hnC⟩, ⟨hA, hnA⟩, hBA, hΨ⟩ rfl _ hΨl hsz hlr
    have hlt := pwL_lt a pre
    have hsn := pwL_snoc a pre x
    generalize pwL a pre = c at hC hlt hsn
    have hc := hC.cell
    have hcf := hC.frozen
    have HT1 := Lib.hid (times_ok c c hlt hlt)
    have HS := Lib.hid hsn
    have HBA := Lib.hid hBA
    clear hsn hlt hBA
    gi_wp2_with fail
    refine ⟨trivial, rfl, (CallsIn.inRound l (callsIn_wide.2 (HT1.out _))).mono ?_⟩
    rintro e A1 ⟨c1, rfl, HC1, hB1⟩
    have hC1 : Boxed A1 (w.heap.size + 1) 82 (.int .u64 c) := (hB1.block _ hC.lt).trans hC
    have hA1 : Boxed A1 w.heap.size 82 (.int .u64 a) := (hB1.block _ hA.lt).trans hA
    have hC2 : Boxed (A1.setCell ⟨w.heap.size + 1, 0, none⟩ (.int .u64 c1)) (w.heap.size + 1) 82 (.int .u64 c1) := hC1.set _
    have hA2 : Boxed (A1.setCell ⟨w.heap.size + 1, 0, none⟩ (.int .u64 c1)) w.heap.size 82 (.int .u64 a) := hA1.other (by omega) _
    have hk1 : KeepsFrom W0.heap.size A A1 := keeps_below hB1 hsz
    have HKE := Lib.hid (hk1.trans ((KeepsOthers.setCell A1 ⟨w.heap.size + 1, 0, none⟩ (.int .u64 c1)).from _))
    have HB2 := Lib.hid (Below.setCell (hB1.mono (show w.heap.size ≤ A.heap.size by omega)) (p := ⟨w.heap.size + 1, 0, none⟩) (by simp) (.int .u64 c1))
    have HPS : Hid (∀ k, Ψ k → (A1.setCell ⟨w.heap.size + 1, 0, none⟩ (.int .u64 c1)).heap[k]? = A.heap[k]?) := fun k hk => by
      rw [Below.heap_setCell _ _ _ _ (by rintro rfl; exact hnC hk)]; exact hB1.block _ (hΨl k hk)
    have hcc := hC1.cell
    have hff := hC1.frozen
    clear hk1 hB1 HT1
    cases x
    · gi_wp2
      refine ⟨⟨HKE.out, HB2.out.mono (Nat.zero_le _), HPS.out⟩, ⟨?_, hnC⟩, ⟨hA2, hnA⟩, HBA.out.trans HB2.out, hΨ⟩
      have e : (if false = true then c * c % PN * a % PN else c * c % PN) = c1 := by rw [if_neg (by decide), HC1.out]
      rw [HS.out, e]
      exact hC2
    · have hlt1 : c1 < PN := by rw [HC1.out]; exact Nat.mod_lt _ (by rw [PN_eq]; decide)
      have HT2 := Lib.hid (times_ok c1 a hlt1 HA.out)
      obtain ⟨A2, hA2e⟩ : ∃ A2, A2 = A1.setCell ⟨w.heap.size + 1, 0, none⟩ (.int .u64 c1) := ⟨_, rfl⟩
      have HA2E := Lib.hid hA2e
      have hca := hA1.cell
      clear hA2e
      gi_wp2_with fail
      rw [← HA2E.out] at hC2 hA2 HKE HB2 HPS ⊢
      clear hcc hff hca
      refine ⟨trivial, rfl, (CallsIn.inRound l (callsIn_wide.2 (HT2.out _))).mono ?_⟩
      rintro e A3 ⟨c2, rfl, HC2, hB3⟩
      have hC3 : Boxed A3 (w.heap.size + 1) 82 (.int .u64 c1) := (hB3.block _ hC2.lt).trans hC2
      have hA3 : Boxed A3 w.heap.size 82 (.int .u64 a) := (hB3.block _ hA2.lt).trans hA2
      have hC4 : Boxed (A3.setCell ⟨w.heap.size + 1, 0, none⟩ (.int .u64 c2)) (w.heap.size + 1) 82 (.int .u64 c2) := hC3.set _
      have hA4 : Boxed (A3.setCell ⟨w.heap.size + 1, 0, none⟩ (.int .u64 c2)) w.heap.size 82 (.int .u64 a) := hA3.other (by omega) _
      have hsz2 : W0.heap.size ≤ A2.heap.size := Nat.le_trans hsz HKE.out.size
      have HKE2 := Lib.hid ((HKE.out.trans (keeps_below hB3 hsz2)).trans ((KeepsOthers.setCell A3 ⟨w.heap.size + 1, 0, none⟩ (.int .u64 c2)).from _))
      have HB4 := Lib.hid (HB2.out.trans (Below.setCell (hB3.mono (show w.heap.size ≤ A2.heap.size by omega)) (p := ⟨w.heap.size + 1, 0, none⟩) (by simp) (.int .u64 c2)))
      have HPS2 : Hid (∀ k, Ψ k → (A3.setCell ⟨w.heap.size + 1, 0, none⟩ (.int .u64 c2)).heap[k]? = A.heap[k]?) := fun k hk => by
        rw [Below.heap_setCell _ _ _ _ (by rintro rfl; exact hnC hk)]
        exact (hB3.block _ (Nat.lt_of_lt_of_le (hΨl k hk) HKE.out.size)).trans (HPS.out k hk)
      have hcc := hC3.cell
      have hff := hC3.frozen
      clear hB3 HT2
      gi_wp2
      refine ⟨⟨HKE2.out, HB4.out.mono (Nat.zero_le _), HPS2.out⟩, ⟨?_, hnC⟩, ⟨hA4, hnA⟩, HBA.out.trans HB4.out, hΨ⟩
      have e : ∀ (p : Prop) [Decidable p], p → (if p then c * c % PN * a % PN else c * c % PN) = c2 := fun p _ h => by rw [if_pos h, HC2.out, HC1.out]
      rw [HS.out, e _ (by trivial)]
      exact hC4
  case done =>
    rintro D xs Ψ W hD rfl ⟨⟨hC, hnC⟩, -, hBA, hΨ⟩ hK
    rw [HP.out] at hC
    have hc := hC.cell
    have HB := Lib.hid hBA
    clear hBA
    gi_wp2
    refine ⟨by simp, .inl ⟨_, _, rfl, run_takeDeferred hK, ?_⟩⟩
    exact ⟨_, results_tmp rfl _ _ _, _, rfl, Lib.hid rfl, HB.out.trans (below_putObj (by omega))⟩
  case stop =>
    intro D c pre Ψ W _ _ h
    exact h.elim
end Go.Proofs.Ytekdekchbnacgaa
