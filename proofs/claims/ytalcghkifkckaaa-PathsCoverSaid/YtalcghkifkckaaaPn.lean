/- The walk of the main theorem of stage 20: PathsCover. -/
import Derived.Test.YtalcghkifkckaaaPj
namespace Go.Proofs.Ytalcghkifkckaaa
open Go.RowKit
set_option maxRecDepth 100000
set_option linter.unusedVariables false

/-- 512 zeros. -/
def zeros512 : Array Value := madeCells #[.int .i64 0] 512
theorem zeros512_get (j : Nat) (h : j < 512) : zeros512[j]? = some (.int .i64 0) := by
  have h : ∀ j : Fin 512, (zeros512[j.val]?).map (fun v => match v with | .int .i64 n => n == 0 | _ => false) = some true := by decide +kernel
  have h1 := h ⟨j, by assumption⟩
  cases hz : zeros512[j]? with
  | none => rw [hz] at h1; simp at h1
  | some v =>
    simp only [hz, Option.map_some, Option.some.injEq] at h1
    split at h1
    · simp at h1; subst h1; rfl
    · simp at h1

/-- Block M is n cells of numbers f. -/
def ArrAt (w : World) (M n : Nat) (f : Nat → Nat) : Prop := ∀ j, j < n → w.cell? ⟨M, j, none⟩ = some (.int .i64 (f j)) ∧ w.frozen? ⟨M, j, none⟩ = false

theorem ArrAt.set {w : World} {M n : Nat} {f g : Nat → Nat} {j0 v : Nat} (h : ArrAt w M n f) (h0 : j0 < n) (hg : ∀ j, j < n → g j = if j = j0 then v else f j) : ArrAt (w.setCell ⟨M, j0, none⟩ (.int .i64 v)) M n g := by
  intro j hj
  obtain ⟨h1, h2⟩ := h j hj
  refine ⟨?_, by rw [World.frozen?_setCell]; exact h2⟩
  rw [hg j hj]
  by_cases e : j = j0
  · subst e; rw [if_pos rfl]; exact World.cell?_setCell_same' _ _ _ (by rw [h1]; rfl)
  · rw [if_neg e, World.cell?_setCell_other _ _ _ _ (by intro h; exact e (by simpa using (congrArg Addr.off h).symm))]; exact h1

theorem ArrAt.congr {w : World} {M n : Nat} {f g : Nat → Nat} (h : ArrAt w M n f) (hg : ∀ j, j < n → g j = f j) : ArrAt w M n g := fun j hj => by rw [hg j hj]; exact h j hj
theorem ArrAt.below {w w' : World} {M n : Nat} {f : Nat → Nat} (h : ArrAt w M n f) (hB : Below w.heap.size w w') : ArrAt w' M n f := by
  intro j hj
  obtain ⟨h1, h2⟩ := h j hj
  have hl := World.block_lt_of_cell? w ⟨M, j, none⟩ h1
  exact ⟨by rw [hB.cell (p := ⟨M, j, none⟩) hl]; exact h1, by rw [hB.frozen (p := ⟨M, j, none⟩) hl]; exact h2⟩

theorem ArrAt.made (w : World) : ArrAt (w.alloc (.cells zeros512 3)) w.heap.size 512 (fun _ => 0) := by
  intro j hj
  have hb : (w.alloc (.cells zeros512 3)).heap[w.heap.size]? = some (.cells zeros512 3) := World.alloc_heap_new w _
  refine ⟨?_, ?_⟩
  · simp only [World.cell?]; rw [hb]; simpa using zeros512_get j hj
  · simp only [World.frozen?]; rw [hb]; simp

/-- Under the copath's node number j are just the devices that meet at the level j + 1. -/
theorem under_cop (d x j : Nat) (hd : d < 512) (hx : x < 512) (hj : j < 9) : ∀ c, c = (copN d).getD j 0 → 1 ≤ c ∧ c < 1024 ∧ ((froN c ≤ x ∧ x < toN c) ↔ lenD d x = j + 1) := by
  rintro c rfl
  rw [copN_get d hd j hj]
  obtain ⟨l1, l2, l3⟩ := lev_div (512 + d) j (by omega) (by omega) (by omega)
  have hm2 : 2 ≤ (512 + d) / 2 ^ j := by
    have hp : 0 < 2 ^ j := Nat.two_pow_pos j
    have h8 : 2 ^ j ≤ 2 ^ 8 := Nat.pow_le_pow_right (by decide) (by omega)
    exact (Nat.le_div_iff_mul_le hp).2 (by omega)
  obtain ⟨s1, s2, s3⟩ := sib_spec _ l3
  have e1 : (512 + d) / 2 ^ (j + 1) = (512 + d) / 2 ^ j / 2 := by rw [Nat.pow_succ, Nat.div_div_eq_div_mul]
  have e2 : (512 + x) / 2 ^ (j + 1) = (512 + x) / 2 ^ j / 2 := by rw [Nat.pow_succ, Nat.div_div_eq_div_mul]
  have k1 := half_eq (512 + d) (512 + x) (j + 1)
  have k0 := half_eq (512 + d) (512 + x) j
  obtain ⟨m1, m2, m3⟩ := lev_div (512 + x) j (by omega) (by omega) (by omega)
  have hlev : levN (sibN ((512 + d) / 2 ^ j)) = j := by
    have h : ∀ n : Fin 1024, 2 ≤ n.val → levN (sibN n.val) = levN n.val := by decide +kernel
    exact (h ⟨_, l3⟩ hm2).trans l1
  have hs1 : 1 ≤ sibN ((512 + d) / 2 ^ j) := by omega
  have hs2 : sibN ((512 + d) / 2 ^ j) < 1024 := by
    have h : ∀ n : Fin 1024, sibN n.val < 1024 := by decide +kernel
    exact h ⟨_, l3⟩
  refine ⟨hs1, hs2, ?_⟩
  rw [under_iff _ x hs1 hs2, hlev]
  rw [e1, e2] at k1
  unfold lenD
  generalize bitLen ((512 + d) ^^^ (512 + x)) = B at k0 k1 ⊢
  generalize (512 + d) / 2 ^ j = p at *
  generalize (512 + x) / 2 ^ j = q at *
  generalize sibN p = s at *
  omega

set_option maxHeartbeats 4000000 in
theorem cover_valid (d : Nat) (hd : d < 512) (w : World) :
    Calls Try.prog 5 #[.int .i64 d] w fun e w' => e = .returned (.bool true) ∧ Below w.heap.size w w' := by
  obtain ⟨i0, hi, hz0, hz1, hz2⟩ := info_parts info_int
  have hmk : ∀ w : World, (Instr.makeSlice 26 (.int .i64 512) (.int .i64 512)).run Try.prog w = .ok (.slice (some ⟨w.heap.size, 0, none⟩) 512 512) (w.alloc (.cells zeros512 3)) := fun w => by
    have h := run_make (P := Try.prog) w 26 3 i0 (.int .i64 0) Try.underlying26 hi hz0 .i64 .i64 512 512 (by decide) (by decide) (by rw [hz2]; decide) (by decide)
    rw [hz1] at h
    exact h
  clear hi hz0 hz1 hz2
  go_enter Try.func5, Try.ntmps5
  go_wp2_with fail
  refine (sane_true _).mono ?_
  rintro e w1 ⟨rfl, hB1⟩
  go_wp2_with fail
  refine (copath_ok d hd _).mono ?_
  rintro e w2 ⟨v, rfl, hrow, hB2⟩
  obtain ⟨g1, cap1, rfl, -, -, -, hg1, hcC⟩ := row_nat hrow
  clear hrow
  have HcC := Lib.hid hcC
  have HB2 := Lib.hid (Below.then hB1 hB2)
  clear hcC hB1 hB2
  have hA0 := ArrAt.made w2
  obtain ⟨hc0, hf0⟩ := hA0 d hd
  have HA0 := Lib.hid hA0
  clear hA0
  go_wp2
  clear hmk hc0 hf0
  have HA1 : ArrAt ((w2.alloc (.cells zeros512 3)).setCell ⟨w2.heap.size, d, none⟩ (.int .i64 1)) w2.heap.size 512 (fun x => if lenD d x ≤ 0 then 1 else 0) :=
    HA0.out.set (v := 1) hd fun j hj => by
      by_cases e : j = d
      · subst e; rw [lenD_self]; simp
      · have := lenD_pos d j (by omega); rw [if_neg (by omega), if_neg e]
  have HBW : Below w2.heap.size w2 ((w2.alloc (.cells zeros512 3)).setCell ⟨w2.heap.size, d, none⟩ (.int .i64 1)) := ((Below.refl _ _).alloc (Nat.le_refl _) _).setCell (p := ⟨w2.heap.size, d, none⟩) (Nat.le_refl _) _
  go_loopw [6] (fun i wr => ∃ j : Nat, i = .int .i64 j ∧ j ≤ 9 ∧ Hid (ArrAt wr w2.heap.size 512 (fun x => if lenD d x ≤ j then 1 else 0)) ∧ Hid (Below w2.heap.size w2 wr)) (fun i _ => (9 - intOf i).toNat)
  case atStart =>
    rw [World.setCell_alloc_new] at HA1 HBW
    exact ⟨0, rfl, by omega, HA1, HBW⟩
  case round =>
    obtain ⟨j, rfl, hj, HA, HB⟩ := hrel
    by_cases hlt : j < 9
    · have hc1 := HcC.out j (by omega)
      have hc2 : wr.cell? ⟨g1, j, none⟩ = some (.int .i64 ((copN d).getD j 0 : Nat)) := by rw [HB.out.cell (p := ⟨g1, j, none⟩) hg1]; exact hc1
      clear hc1
      have HUC := fun x hx => under_cop d x j hd hx hlt _ rfl
      generalize (copN d).getD j 0 = c at hc2 HUC
      obtain ⟨c1, c2, -⟩ := HUC 0 (by omega)
      obtain ⟨r1, r2, r3⟩ := under_range c c1 c2
      have hU := under_okB c c1 c2
      have HR : Hid (∀ x, x < 512 → ((froN c ≤ x ∧ x < toN c) ↔ lenD d x = j + 1)) := fun x hx => (HUC x hx).2.2
      clear HUC r3
      generalize froN c = F at hU r1 r2 HR
      generalize toN c = T at hU r1 r2 HR
      have HU := Lib.hid hU
      clear hU
      go_wp2_with fail
      refine (HU.out _).mono ?_
      rintro e w3 ⟨rfl, hB3⟩
      have HA3 : Hid (ArrAt w3 w2.heap.size 512 (fun x => if lenD d x ≤ j then 1 else 0)) := HA.out.below hB3
      have HB3 : Hid (Below w2.heap.size w2 w3) := HB.out.trans (hB3.mono HB.out.size)
      clear hB3 HA HB hc2
      go_wp2
      obtain ⟨wo, hwo⟩ : ∃ wo : World, wo = w3 := ⟨_, rfl⟩
      subst hwo
      go_loopw [10] (fun t wi => ∃ k : Nat, t = .int .i64 k ∧ F ≤ k ∧ k ≤ T ∧ Hid (ArrAt wi w2.heap.size 512 (fun x => if lenD d x ≤ j ∨ (F ≤ x ∧ x < k) then 1 else 0)) ∧ Hid (Below w2.heap.size w2 wi)) (fun t _ => (T - intOf t).toNat)
      case atStart =>
        exact ⟨F, rfl, by omega, by omega, HA3.out.congr fun x hx => by
          have : ¬ (F ≤ x ∧ x < F) := by omega
          simp only [this, or_false], HB3.out⟩
      case round =>
        obtain ⟨k, rfl, hk1, hk2, HAk, HBk⟩ := hrel
        by_cases hkT : k < T
        · have hk512 : k < 512 := by omega
          obtain ⟨f1, f2⟩ := HAk.out k hk512
          have hlk := (HR.out k hk512).1 ⟨hk1, hkT⟩
          have hz : ¬ (lenD d k ≤ j ∨ (F ≤ k ∧ k < k)) := by omega
          simp only [if_neg hz] at f1
          clear hlk hz
          go_wp2
          go_roundw
          case rel =>
            refine ⟨k + 1, by go_num, by omega, by omega, HAk.out.set (v := 1) hk512 fun x hx => ?_, HBk.out.setCell (p := ⟨w2.heap.size, k, none⟩) (Nat.le_refl _) _⟩
            by_cases e : x = k
            · subst e; rw [if_pos rfl, if_pos (.inr ⟨hk1, by omega⟩)]
            · have : (lenD d x ≤ j ∨ (F ≤ x ∧ x < k + 1)) ↔ (lenD d x ≤ j ∨ (F ≤ x ∧ x < k)) := by omega
              simp only [this, if_neg e]
          case measure => simp [intOf]; omega
        · have e : k = T := by omega
          subst e
          go_wp2
          go_roundw
          case rel =>
            refine ⟨j + 1, by go_num, by omega, HAk.out.congr fun x hx => ?_, HBk.out⟩
            have := HR.out x hx
            have : (lenD d x ≤ j + 1) ↔ (lenD d x ≤ j ∨ (F ≤ x ∧ x < k)) := by omega
            simp only [this]
          case measure => simp [intOf]; omega
    · have e : j = 9 := by omega
      subst e
      have HA9 : Hid (ArrAt wr w2.heap.size 512 (fun _ => 1)) := HA.out.congr fun x hx => by rw [if_pos (lenD_le d x hd hx)]
      have HBF := Lib.hid (HB2.out.trans (HB.out.mono HB2.out.size))
      clear HA HB
      go_wp2
      obtain ⟨wo, hwo⟩ : ∃ wo : World, wo = wr := ⟨_, rfl⟩
      subst hwo
      go_loop [11] (fun t => ∃ k : Nat, t = .int .i64 k ∧ k ≤ 512) (fun t => (512 - intOf t).toNat)
      case atStart => exact ⟨0, rfl, by omega⟩
      case round =>
        obtain ⟨k, rfl, hk⟩ := hrel
        by_cases hk5 : k < 512
        · obtain ⟨f1, -⟩ := HA9.out k hk5
          go_wp2
          go_round
          case rel => exact ⟨k + 1, by go_num, by omega⟩
          case measure => simp [intOf]; omega
        · go_wp2
          go_ret
          exact ⟨rfl, HBF.out⟩

set_option maxHeartbeats 2000000 in
theorem walk_PathsCover (d : Int) (hd : (Lit.int .i64 d).wf = true) (w : World) :
    Calls Try.prog 5 #[.int .i64 d] w fun e w' => e = .returned (.bool true) ∧ Below w.heap.size w w' := by
  clear hd
  by_cases h : okD d
  · obtain ⟨m, rfl⟩ := Int.eq_ofNat_of_zero_le h.1
    exact cover_valid m (by have := h.2; omega) w
  · have h1 : d < 0 ∨ (0 ≤ d ∧ 512 ≤ d) := by unfold okD at h; omega
    have HD : Hid (d < 0 ∨ 512 ≤ d) := by show _ ∨ _; omega
    clear h
    rcases h1 with h1 | ⟨h1, h2⟩
    all_goals
      go_enter Try.func5, Try.ntmps5
      go_wp2_with fail
      refine (sane_true _).mono ?_
      rintro e w1 ⟨rfl, hB1⟩
      go_wp2_with fail
      refine (copath_no d HD.out _).mono ?_
      rintro e w2 ⟨rfl, hB2⟩
      go_wp2
      go_ret
      exact ⟨rfl, Below.then hB1 hB2⟩
end Go.Proofs.Ytalcghkifkckaaa
