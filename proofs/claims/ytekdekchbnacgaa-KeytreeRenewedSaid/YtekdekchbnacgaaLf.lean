/- The reference: Check. -/
import Derived.Test.YtekdekchbnacgaaLe
import Derived.Test.YtekdekchbnacgaaKm
import Derived.BigQuiet
namespace Go.Proofs.Ytekdekchbnacgaa
open Go.RowKit
set_option maxRecDepth 100000
set_option linter.unusedVariables false
set_option linter.unusedSimpArgs false

theorem up_mem : ∀ (k n : Nat), 1 ≤ n → n < 2 ^ k → ∀ x : Nat, (x ∈ n :: (upL k n).map parN ↔ 1 ≤ x ∧ ∃ j, n / 2 ^ j = x)
  | 0, n, h0, h1, x => by simp at h1; omega
  | k + 1, n, h0, h1, x => by
    by_cases hb : 1 < n
    · obtain ⟨i, e, h2, h3⟩ := upL_big hb h1
      obtain rfl : i = k := by omega
      have ih := up_mem i (n / 2) (by omega) h3 x
      rw [h2, List.map_cons, List.mem_cons, show parN n = n / 2 from rfl, ih]
      have e1 : ∀ j, n / 2 ^ (j + 1) = n / 2 / 2 ^ j := fun j => by rw [Nat.pow_succ, Nat.mul_comm, Nat.div_div_eq_div_mul]
      constructor
      · rintro (rfl | ⟨h4, j, h5⟩)
        · exact ⟨h0, 0, by simp⟩
        · exact ⟨h4, j + 1, by rw [e1]; exact h5⟩
      · rintro ⟨h4, j, h5⟩
        cases j with
        | zero => exact .inl (by simpa using h5.symm)
        | succ j => exact .inr ⟨h4, j, by rw [← e1]; exact h5⟩
    · have hn : n = 1 := by omega
      rw [upL_small (by omega)]
      subst hn
      simp only [List.map_nil, List.mem_singleton]
      constructor
      · rintro rfl; exact ⟨by omega, 0, rfl⟩
      · rintro ⟨h4, j, h5⟩
        have : 1 / 2 ^ j ≤ 1 := Nat.div_le_self _ _
        omega
theorem path_und (d : Int) (h0 : 0 ≤ d) (h1 : d < 512) (x : Int) : x ∈ (512 + d) :: pathZ d ↔ Und (512 + d) x := by
  obtain ⟨n, rfl⟩ := Int.eq_ofNat_of_zero_le h0
  have h := up_mem 10 (512 + n) (by omega) (by omega)
  have e : (512 + (n : Int)) :: pathZ (n : Int) = ((512 + n) :: (upL 10 (512 + n)).map parN).map fun m : Nat => (m : Int) := by
    simp [pathZ, pathN]
  rw [e]
  simp only [List.mem_map, h]
  have c : ∀ j : Nat, (512 + (n : Int)) / 2 ^ j = (((512 + n) / 2 ^ j : Nat) : Int) := fun j => by
    rw [Int.natCast_ediv]; push_cast; rfl
  unfold Und
  constructor
  · rintro ⟨y, ⟨h2, j, h3⟩, rfl⟩
    exact ⟨by omega, j, by rw [c, h3]⟩
  · rintro ⟨h2, j, h3⟩
    refine ⟨(512 + n) / 2 ^ j, ⟨?_, j, rfl⟩, by rw [← c]; exact h3⟩
    rw [c] at h3
    omega
theorem usedL_mem (ms : List Int) (x : Int) : x ∈ usedL ms ↔ ∃ d ∈ ms, x ∈ (512 + d) :: pathZ d := by
  unfold usedL
  rw [List.mem_flatMap]

/-- A node with a key at a leaf's number or above, under the node a. -/
def MetR (t : List (Int × Int)) (a : Int) : Prop := ∃ e ∈ t, 512 ≤ e.1 ∧ Und e.1 a
def BadR (t : List (Int × Int)) (i : Nat) : Prop :=
  (t.getD i (0, 0)).1 < 1 ∨ 1023 < (t.getD i (0, 0)).1 ∨ (0 < i ∧ (t.getD i (0, 0)).1 ≤ (t.getD (i - 1) (0, 0)).1) ∨ ¬ GrpOk (t.getD i (0, 0)).2 ∨ ¬ MetR t (t.getD i (0, 0)).1
theorem used_met {t : List (Int × Int)} {a : Int} (h : a ∈ usedL (memZ t)) : MetR t a := by
  obtain ⟨d, h1, h2⟩ := (usedL_mem _ _).1 h
  obtain ⟨h3, h4, e, h5, h6⟩ := (memZ_mem _ _).1 h1
  exact ⟨e, h5, by omega, by rw [h6]; exact (path_und d h3 h4 a).1 h2⟩
theorem chkT_badR {t : List (Int × Int)} {i : Nat} (hi : i < t.length) (h : BadR t i) : chkT t = 210 := by
  refine chkT_bad (U := usedL (memZ t)) rfl hi ?_
  rcases h with h | h | h | h | h
  · exact .inl h
  · exact .inr (.inl h)
  · exact .inr (.inr (.inl h))
  · exact .inr (.inr (.inr (.inl h)))
  · exact .inr (.inr (.inr (.inr (fun h' => h (used_met h')))))
theorem getD_mem {t : List (Int × Int)} {i : Nat} (hi : i < t.length) : t.getD i (0, 0) ∈ t := by
  simp only [List.getD]; rw [List.getElem?_eq_getElem hi]; simp
theorem chkT_goodR {t : List (Int × Int)} (h : ∀ i, i < t.length → ¬ BadR t i) : chkT t = 0 := by
  refine chkT_good (U := usedL (memZ t)) rfl (fun i hi hb => ?_)
  have h1 := h i hi
  rcases hb with hb | hb | hb | hb | hb
  · exact h1 (.inl hb)
  · exact h1 (.inr (.inl hb))
  · exact h1 (.inr (.inr (.inl hb)))
  · exact h1 (.inr (.inr (.inr (.inl hb))))
  · refine h1 (.inr (.inr (.inr (.inr ?_))))
    rintro ⟨e, he, h5, hu⟩
    obtain ⟨k, hk, rfl⟩ := List.getElem_of_mem he
    have h2 := h k hk
    have hg : t.getD k (0, 0) = t[k] := by simp [List.getD, hk]
    have h3 : ¬ 1023 < t[k].1 := fun h' => h2 (.inr (.inl (by rw [hg]; exact h')))
    refine hb ((usedL_mem _ _).2 ⟨t[k].1 - 512, (memZ_mem _ _).2 ⟨by omega, by omega, t[k], he, by omega⟩, ?_⟩)
    refine (path_und _ (by omega) (by omega) _).2 ?_
    rw [show 512 + (t[k].1 - 512) = t[k].1 by omega]
    exact hu
/-- Has one of the first k nodes been met? -/
noncomputable def metP (t : List (Int × Int)) (a : Int) (k : Nat) : Bool := (t.take k).any fun e => decide (512 ≤ e.1) && undB e.1 a
theorem metP_succ {t : List (Int × Int)} {a b q : Int} {k : Nat} (h : t.take (k + 1) = t.take k ++ [(b, q)]) : metP t a (k + 1) = (metP t a k || (decide (512 ≤ b) && undB b a)) := by
  unfold metP
  rw [h, List.any_append]
  simp
theorem metP_all {t : List (Int × Int)} {a : Int} {n : Nat} (hn : n = t.length) : metP t a n = true ↔ MetR t a := by
  unfold metP MetR
  rw [hn, List.take_length, List.any_eq_true]
  simp [undB_iff]
theorem runder_same (n a : Int) (hn : I64 n) (w : World) :
    Calls Try.prog 41 #[.int .i64 n, .int .i64 a] w fun e w' => e = .returned (.bool (undB n a)) ∧ w' = w :=
  (runder_ok n a hn w).mono fun _ _ h => ⟨h.1, h.2.symm⟩
theorem rgcheck_same (n : Int) (w : World) :
    Calls Try.prog 40 #[.int .i64 n] w fun e w' => e = .returned (.int .i64 (chkE n)) ∧ w' = w :=
  (rgcheck_ok n w).mono fun _ _ h => ⟨h.1, h.2.symm⟩

set_option maxHeartbeats 2000000 in
theorem rcheck_ok (t : List (Int × Int)) (v : Value) (w : World) (ht : NodesAt w v t) (hl : t.length ≤ 1000000) :
    Calls Try.prog 18 #[.agg #[v]] w fun e w' => e = .returned (.int .i64 (chkT t)) ∧ Below w.heap.size w w' := by
  have hb1 : Below w.heap.size w (w.alloc (.cells #[v] 24)) := (Below.refl _ w).alloc (Nat.le_refl _) _
  obtain ⟨p, c, rfl, hc, -, hcell, hwf⟩ := ht
  have HC := Lib.hid hcell
  have HWF := Lib.hid hwf
  obtain ⟨W0, hW0⟩ : ∃ W0, W0 = w.alloc (.cells #[.slice p t.length c] 24) := ⟨_, rfl⟩
  have cb : W0.cell? ⟨w.heap.size, 0, none⟩ = some (.slice p t.length c) := by rw [hW0]; unfold World.cell?; rw [World.alloc_heap_new]; rfl
  have hs0 : w.heap.size < W0.heap.size := by rw [hW0]; simp
  clear hcell hwf
  go_enter Try.func18, Try.ntmps18
  go_wp2_with fail
  rw [← hW0] at hb1 ⊢
  have HB0 := Lib.hid hb1
  obtain ⟨n, hn⟩ : ∃ n, n = t.length := ⟨_, rfl⟩
  have HN := Lib.hid hn
  rw [← hn] at hc hl cb
  clear hW0 hb1 hn
  go_loopw [3] (fun i wr => ∃ k : Nat, i = .int .i64 k ∧ k ≤ n ∧ Hid (∀ j, j < k → ¬ BadR t j) ∧ Hid (Below w.heap.size w wr) ∧ wr.cell? ⟨w.heap.size, 0, none⟩ = some (.slice p n c) ∧ w.heap.size < wr.heap.size) (fun i _ => n - (intOf i).toNat)
  case atStart => exact ⟨0, rfl, Nat.zero_le _, Lib.hid (fun j h => absurd h (Nat.not_lt_zero _)), HB0, cb, hs0⟩
  case round =>
    obtain ⟨k, rfl, hk, HG, HB, cbr, hsz⟩ := hrel
    clear cb hs0
    by_cases hlt : k < n
    · have hd : decide ((k : Int) < (n : Int)) = true := by simp; omega
      have hd' : decide (k < n) = true := by simp; omega
      obtain ⟨g, o, rfl, hcs⟩ := HC.out (by rw [← HN.out]; omega)
      obtain ⟨a, q, c1, c2, w1, w2, hgt, -, -⟩ := node_at hcs HWF.out (by rw [← HN.out]; exact hlt) HB.out
      have HCS := Lib.hid hcs
      have HGT := Lib.hid hgt
      have HKN : Hid (k < t.length) := Lib.hid (by rw [← HN.out]; exact hlt)
      clear hcs hgt w1 w2
      go_upto_region 5 with fail
      obtain ⟨X, hX⟩ : ∃ X, X = wr.heap.size := ⟨_, rfl⟩
      rw [← hX] at hsz ⊢
      obtain ⟨W5, hW5⟩ : ∃ W, W = wr.alloc (.cells #[.int .i64 a, .int .i64 q] 48) := ⟨_, rfl⟩
      have cx0 : W5.cell? ⟨X, 0, none⟩ = some (.int .i64 a) := by rw [hW5, hX]; unfold World.cell?; rw [World.alloc_heap_new]; rfl
      have cx1 : W5.cell? ⟨X, 1, none⟩ = some (.int .i64 q) := by rw [hW5, hX]; unfold World.cell?; rw [World.alloc_heap_new]; rfl
      have cb5 : W5.cell? ⟨w.heap.size, 0, none⟩ = some (.slice (some ⟨g, o, none⟩) n c) := cellOld cbr (by rw [hW5]; exact Below.heap_alloc _ _ _ (by show w.heap.size < _; omega))
      have HB5 : Hid (Below w.heap.size w W5) := Lib.hid (by rw [hW5]; exact HB.out.alloc HB.out.size _)
      have hs5 : X < W5.heap.size := by rw [hW5, hX]; simp
      rw [← hW5]
      clear hW5 hX cbr c1 c2
      by_cases h1 : a < 1
      · have hd1 : decide (a < 1) = true := by simp; omega
        have HE : Hid (chkT t = 210) := Lib.hid (chkT_badR HKN.out (by unfold BadR; rw [HGT.out]; exact .inl h1))
        clear h1
        go_quiet (fail)
        go_wp2_with fail
        go_ret
        exact ⟨ret_eq HE.out, HB5.out.trans ⟨rfl, rfl, rfl, Nat.le_refl _, fun _ _ => rfl⟩⟩
      have hd1 : decide (a < 1) = false := by simp; omega
      by_cases h2 : 1023 < a
      · have hd2 : decide (1023 < a) = true := by simp; omega
        have HE : Hid (chkT t = 210) := Lib.hid (chkT_badR HKN.out (by unfold BadR; rw [HGT.out]; exact .inr (.inl h2)))
        clear h2
        go_quiet (fail)
        go_wp2_with fail
        go_ret
        exact ⟨ret_eq HE.out, HB5.out.trans ⟨rfl, rfl, rfl, Nat.le_refl _, fun _ _ => rfl⟩⟩
      have hd2 : decide (1023 < a) = false := by simp; omega
      by_cases h3 : 0 < k
      · have hd3 : decide ((0 : Int) < (k : Int)) = true := by simp; omega
        have hd3' : decide (0 < k) = true := by simp; omega
        obtain ⟨m, rfl⟩ : ∃ m, k = m + 1 := ⟨k - 1, by omega⟩
        obtain ⟨a2, q2, c3, -, -, -, hgt2, -, -⟩ := node_at HCS.out HWF.out (k := m) (by rw [← HN.out]; omega) HB5.out
        have HGT2 := Lib.hid hgt2
        clear hgt2
        by_cases h4 : a ≤ a2
        · have hd4 : decide (a ≤ a2) = true := by simp; omega
          have HE : Hid (chkT t = 210) := Lib.hid (chkT_badR HKN.out (by unfold BadR; rw [HGT.out]; exact .inr (.inr (.inl ⟨by omega, by rw [show m + 1 - 1 = m by omega, HGT2.out]; exact h4⟩))))
          clear h4
          go_quiet (fail)
          go_wp2_with fail
          go_ret
          exact ⟨ret_eq HE.out, HB5.out.trans ⟨rfl, rfl, rfl, Nat.le_refl _, fun _ _ => rfl⟩⟩
        · have hd4 : decide (a ≤ a2) = false := by simp; omega
          have HP3 : Hid (¬ (0 < m + 1 ∧ a ≤ (t.getD (m + 1 - 1) (0, 0)).1)) := Lib.hid (fun h => h4 (by have := h.2; rw [show m + 1 - 1 = m by omega, HGT2.out] at this; exact this))
          clear h4
          by_cases h4 : GrpOk q
          · have HGC : Hid (∀ W, Calls Try.prog 40 #[.int .i64 q] W fun e w' => e = .returned (.int .i64 0) ∧ w' = W) := Lib.hid (fun W => by have h := rgcheck_same q W; rw [chkE_yes h4] at h; exact h)
            have HG1 := Lib.hid h4
            go_quiet (exact Calls.quiet_of_same (HGC.out _))
            have HNB : Hid (MetR t a → ¬ BadR t (m + 1)) := Lib.hid (fun hm => by
              unfold BadR; rw [HGT.out]
              rintro (h | h | h | h | h)
              · omega
              · omega
              · exact HP3.out h
              · exact h HG1.out
              · exact h hm)
            obtain ⟨W6, hW6⟩ : ∃ W, W = W5.drewN nq := ⟨_, rfl⟩
            have cx6 : W6.cell? ⟨X, 0, none⟩ = some (.int .i64 a) := by rw [hW6]; exact cx0
            have cb6 : W6.cell? ⟨w.heap.size, 0, none⟩ = some (.slice (some ⟨g, o, none⟩) n c) := by rw [hW6]; exact cb5
            have HB6 : Hid (Below w.heap.size w W6) := Lib.hid (by rw [hW6]; exact HB5.out.trans ⟨rfl, rfl, rfl, Nat.le_refl _, fun _ _ => rfl⟩)
            have hs6 : X < W6.heap.size := by rw [hW6]; exact hs5
            rw [← hW6]
            clear hW6 cx0 cx1 cb5 HB5 HGC h4 hs5 HG1
            go_wp2_with fail
            go_loopw [5, 6] (fun b i wr2 => ∃ (j : Nat) (mt : Bool), i = .int .i64 j ∧ j ≤ n ∧ b = .bool mt ∧ Hid (mt = metP t a j) ∧ Hid (Below W6.heap.size W6 wr2)) (fun _ i _ => n - (intOf i).toNat)
            case atStart => exact ⟨0, false, rfl, Nat.zero_le _, rfl, Lib.hid (by simp [metP]), Lib.hid (Below.refl _ _)⟩
            case round =>
              obtain ⟨j, mt, rfl, hj, rfl, HM, HBr⟩ := hrel
              have cb7 := cellOld cb6 (HBr.out.block _ (by show w.heap.size < _; omega))
              have cx7 := cellOld cx6 (HBr.out.block _ hs6)
              have HB7 : Hid (Below w.heap.size w wr) := Lib.hid (HB6.out.trans (HBr.out.mono HB6.out.size))
              have hs7 := HBr.out.size
              by_cases hlt2 : j < n
              · have he : decide ((j : Int) < (n : Int)) = true := by simp; omega
                have he' : decide (j < n) = true := by simp; omega
                obtain ⟨b, q3, c4, -, hIb, -, -, htk, -⟩ := node_at HCS.out HWF.out (k := j) (by rw [← HN.out]; exact hlt2) HB7.out
                have HMS := Lib.hid (metP_succ (a := a) htk)
                have HIB := Lib.hid hIb
                clear htk hIb cb6 cx6
                cases mt with
                | true =>
                  go_upto_region 11 with fail
                  go_quiet (fail)
                  go_wp2_with fail
                  exact ⟨⟨j + 1, true, by go_num, by omega, rfl, Lib.hid (by rw [HMS.out, ← HM.out]; rfl), Lib.hid (HBr.out.trans ⟨rfl, rfl, rfl, Nat.le_refl _, fun _ _ => rfl⟩)⟩, by simp only [intOf]; omega⟩
                | false =>
                  by_cases h5 : 512 ≤ b
                  · have he1 : decide (512 ≤ b) = true := by simp; omega
                    have HD : Hid (decide (512 ≤ b) = true) := Lib.hid he1
                    have HU : Hid (∀ W, Calls Try.prog 41 #[.int .i64 b, .int .i64 a] W fun e w' => e = .returned (.bool (undB b a)) ∧ w' = W) := Lib.hid (fun W => runder_same b a HIB.out W)
                    obtain ⟨ub, hub⟩ : ∃ ub, ub = undB b a := ⟨_, rfl⟩
                    rw [← hub] at HU HMS
                    clear hub h5
                    go_upto_region 11 with fail
                    go_quiet (exact Calls.quiet_of_same (HU.out _))
                    go_wp2_with fail
                    exact ⟨⟨j + 1, ub, by go_num, by omega, rfl, Lib.hid (by rw [HMS.out, ← HM.out, HD.out]; rfl), Lib.hid (HBr.out.trans ⟨rfl, rfl, rfl, Nat.le_refl _, fun _ _ => rfl⟩)⟩, by simp only [intOf]; omega⟩
                  · have he1 : decide (512 ≤ b) = false := by simp; omega
                    have HD : Hid (decide (512 ≤ b) = false) := Lib.hid he1
                    clear h5
                    go_upto_region 11 with fail
                    go_quiet (fail)
                    go_wp2_with fail
                    exact ⟨⟨j + 1, false, by go_num, by omega, rfl, Lib.hid (by rw [HMS.out, ← HM.out, HD.out]; rfl), Lib.hid (HBr.out.trans ⟨rfl, rfl, rfl, Nat.le_refl _, fun _ _ => rfl⟩)⟩, by simp only [intOf]; omega⟩
              · have he : decide ((j : Int) < (n : Int)) = false := by simp; omega
                have he' : decide (j < n) = false := by simp; omega
                obtain rfl : j = n := by omega
                clear cb6 cx6
                cases mt with
                | true =>
                  have HS : Hid (∀ i, i < m + 1 + 1 → ¬ BadR t i) := Lib.hid (fun i hi => by
                    rcases Nat.lt_or_eq_of_le (Nat.le_of_lt_succ hi) with h | h
                    · exact HG.out i h
                    · rw [h]; exact HNB.out ((metP_all HN.out).1 HM.out.symm))
                  go_wp2_with fail
                  exact ⟨⟨m + 1 + 1, by go_num, by omega, HS, HB7, cb7, by omega⟩, by simp only [intOf]; omega⟩
                | false =>
                  have HE : Hid (chkT t = 210) := Lib.hid (chkT_badR HKN.out (by unfold BadR; rw [HGT.out]; exact .inr (.inr (.inr (.inr (fun h => by have h2 := (metP_all HN.out).2 h; rw [← HM.out] at h2; cases h2))))))
                  go_wp2_with fail
                  go_ret
                  exact ⟨ret_eq HE.out, HB7.out⟩
          · have HGC : Hid (∀ W, Calls Try.prog 40 #[.int .i64 q] W fun e w' => e = .returned (.int .i64 40) ∧ w' = W) := Lib.hid (fun W => by have h := rgcheck_same q W; rw [chkE_no h4] at h; exact h)
            have HE : Hid (chkT t = 210) := Lib.hid (chkT_badR HKN.out (by unfold BadR; rw [HGT.out]; exact .inr (.inr (.inr (.inl h4)))))
            clear h4
            go_quiet (exact Calls.quiet_of_same (HGC.out _))
            go_wp2_with fail
            go_ret
            exact ⟨ret_eq HE.out, HB5.out.trans ⟨rfl, rfl, rfl, Nat.le_refl _, fun _ _ => rfl⟩⟩
      · have hd3 : decide ((0 : Int) < (k : Int)) = false := by simp; omega
        have hd3' : decide (0 < k) = false := by simp; omega
        have HP3 : Hid (¬ (0 < k ∧ a ≤ (t.getD (k - 1) (0, 0)).1)) := Lib.hid (fun h => h3 h.1)
        clear h3
        by_cases h4 : GrpOk q
        · have HGC : Hid (∀ W, Calls Try.prog 40 #[.int .i64 q] W fun e w' => e = .returned (.int .i64 0) ∧ w' = W) := Lib.hid (fun W => by have h := rgcheck_same q W; rw [chkE_yes h4] at h; exact h)
          have HG1 := Lib.hid h4
          go_quiet (exact Calls.quiet_of_same (HGC.out _))
          have HNB : Hid (MetR t a → ¬ BadR t (k)) := Lib.hid (fun hm => by
            unfold BadR; rw [HGT.out]
            rintro (h | h | h | h | h)
            · omega
            · omega
            · exact HP3.out h
            · exact h HG1.out
            · exact h hm)
          obtain ⟨W6, hW6⟩ : ∃ W, W = W5.drewN nq := ⟨_, rfl⟩
          have cx6 : W6.cell? ⟨X, 0, none⟩ = some (.int .i64 a) := by rw [hW6]; exact cx0
          have cb6 : W6.cell? ⟨w.heap.size, 0, none⟩ = some (.slice (some ⟨g, o, none⟩) n c) := by rw [hW6]; exact cb5
          have HB6 : Hid (Below w.heap.size w W6) := Lib.hid (by rw [hW6]; exact HB5.out.trans ⟨rfl, rfl, rfl, Nat.le_refl _, fun _ _ => rfl⟩)
          have hs6 : X < W6.heap.size := by rw [hW6]; exact hs5
          rw [← hW6]
          clear hW6 cx0 cx1 cb5 HB5 HGC h4 hs5 HG1
          go_wp2_with fail
          go_loopw [5, 6] (fun b i wr2 => ∃ (j : Nat) (mt : Bool), i = .int .i64 j ∧ j ≤ n ∧ b = .bool mt ∧ Hid (mt = metP t a j) ∧ Hid (Below W6.heap.size W6 wr2)) (fun _ i _ => n - (intOf i).toNat)
          case atStart => exact ⟨0, false, rfl, Nat.zero_le _, rfl, Lib.hid (by simp [metP]), Lib.hid (Below.refl _ _)⟩
          case round =>
            obtain ⟨j, mt, rfl, hj, rfl, HM, HBr⟩ := hrel
            have cb7 := cellOld cb6 (HBr.out.block _ (by show w.heap.size < _; omega))
            have cx7 := cellOld cx6 (HBr.out.block _ hs6)
            have HB7 : Hid (Below w.heap.size w wr) := Lib.hid (HB6.out.trans (HBr.out.mono HB6.out.size))
            have hs7 := HBr.out.size
            by_cases hlt2 : j < n
            · have he : decide ((j : Int) < (n : Int)) = true := by simp; omega
              have he' : decide (j < n) = true := by simp; omega
              obtain ⟨b, q3, c4, -, hIb, -, -, htk, -⟩ := node_at HCS.out HWF.out (k := j) (by rw [← HN.out]; exact hlt2) HB7.out
              have HMS := Lib.hid (metP_succ (a := a) htk)
              have HIB := Lib.hid hIb
              clear htk hIb cb6 cx6
              cases mt with
              | true =>
                go_upto_region 11 with fail
                go_quiet (fail)
                go_wp2_with fail
                exact ⟨⟨j + 1, true, by go_num, by omega, rfl, Lib.hid (by rw [HMS.out, ← HM.out]; rfl), Lib.hid (HBr.out.trans ⟨rfl, rfl, rfl, Nat.le_refl _, fun _ _ => rfl⟩)⟩, by simp only [intOf]; omega⟩
              | false =>
                by_cases h5 : 512 ≤ b
                · have he1 : decide (512 ≤ b) = true := by simp; omega
                  have HD : Hid (decide (512 ≤ b) = true) := Lib.hid he1
                  have HU : Hid (∀ W, Calls Try.prog 41 #[.int .i64 b, .int .i64 a] W fun e w' => e = .returned (.bool (undB b a)) ∧ w' = W) := Lib.hid (fun W => runder_same b a HIB.out W)
                  obtain ⟨ub, hub⟩ : ∃ ub, ub = undB b a := ⟨_, rfl⟩
                  rw [← hub] at HU HMS
                  clear hub h5
                  go_upto_region 11 with fail
                  go_quiet (exact Calls.quiet_of_same (HU.out _))
                  go_wp2_with fail
                  exact ⟨⟨j + 1, ub, by go_num, by omega, rfl, Lib.hid (by rw [HMS.out, ← HM.out, HD.out]; rfl), Lib.hid (HBr.out.trans ⟨rfl, rfl, rfl, Nat.le_refl _, fun _ _ => rfl⟩)⟩, by simp only [intOf]; omega⟩
                · have he1 : decide (512 ≤ b) = false := by simp; omega
                  have HD : Hid (decide (512 ≤ b) = false) := Lib.hid he1
                  clear h5
                  go_upto_region 11 with fail
                  go_quiet (fail)
                  go_wp2_with fail
                  exact ⟨⟨j + 1, false, by go_num, by omega, rfl, Lib.hid (by rw [HMS.out, ← HM.out, HD.out]; rfl), Lib.hid (HBr.out.trans ⟨rfl, rfl, rfl, Nat.le_refl _, fun _ _ => rfl⟩)⟩, by simp only [intOf]; omega⟩
            · have he : decide ((j : Int) < (n : Int)) = false := by simp; omega
              have he' : decide (j < n) = false := by simp; omega
              obtain rfl : j = n := by omega
              clear cb6 cx6
              cases mt with
              | true =>
                have HS : Hid (∀ i, i < k + 1 → ¬ BadR t i) := Lib.hid (fun i hi => by
                  rcases Nat.lt_or_eq_of_le (Nat.le_of_lt_succ hi) with h | h
                  · exact HG.out i h
                  · rw [h]; exact HNB.out ((metP_all HN.out).1 HM.out.symm))
                go_wp2_with fail
                exact ⟨⟨k + 1, by go_num, by omega, HS, HB7, cb7, by omega⟩, by simp only [intOf]; omega⟩
              | false =>
                have HE : Hid (chkT t = 210) := Lib.hid (chkT_badR HKN.out (by unfold BadR; rw [HGT.out]; exact .inr (.inr (.inr (.inr (fun h => by have h2 := (metP_all HN.out).2 h; rw [← HM.out] at h2; cases h2))))))
                go_wp2_with fail
                go_ret
                exact ⟨ret_eq HE.out, HB7.out⟩
        · have HGC : Hid (∀ W, Calls Try.prog 40 #[.int .i64 q] W fun e w' => e = .returned (.int .i64 40) ∧ w' = W) := Lib.hid (fun W => by have h := rgcheck_same q W; rw [chkE_no h4] at h; exact h)
          have HE : Hid (chkT t = 210) := Lib.hid (chkT_badR HKN.out (by unfold BadR; rw [HGT.out]; exact .inr (.inr (.inr (.inl h4)))))
          clear h4
          go_quiet (exact Calls.quiet_of_same (HGC.out _))
          go_wp2_with fail
          go_ret
          exact ⟨ret_eq HE.out, HB5.out.trans ⟨rfl, rfl, rfl, Nat.le_refl _, fun _ _ => rfl⟩⟩
    · have hd : decide ((k : Int) < (n : Int)) = false := by simp; omega
      have hd' : decide (k < n) = false := by simp; omega
      obtain rfl : k = n := by omega
      have HR : Hid (chkT t = 0) := Lib.hid (chkT_goodR (fun i hi => HG.out i (by rw [HN.out]; exact hi)))
      go_wp2_with fail
      go_ret
      exact ⟨ret_eq HR.out, HB.out⟩
end Go.Proofs.Ytekdekchbnacgaa
