/- The reference: Renew. -/
import Derived.Test.YtekdekchbnacgaaLl
import Derived.Test.YtekdekchbnacgaaLb
namespace Go.Proofs.Ytekdekchbnacgaa
open Go.RowKit
set_option maxRecDepth 100000
set_option linter.unusedVariables false
set_option linter.unusedSimpArgs false

/-- The tree behind Renew, after k nodes from the leaf up. -/
noncomputable def renL (t : List (Int × Int)) (d : Int) (l : List Int) : Nat → List (Int × Int)
  | 0 => withoutL t d
  | k + 1 => withL ((512 + d) / 2 ^ k, l.getD k 0) (renL t d l k)
theorem renL_length (t : List (Int × Int)) (d : Int) (l : List Int) : ∀ k, (renL t d l k).length ≤ t.length + k
  | 0 => withoutL_length t d
  | k + 1 => by
    unfold renL
    rw [withL_length]
    have := renL_length t d l k
    omega
noncomputable def renR (t : List (Int × Int)) (d : Int) (l : List Int) : List (Int × Int) := if renE t d l = 0 then renL t d l 10 else []
theorem und_range {d : Int} {k : Nat} (h0 : 0 ≤ d) (h1 : d < 512) : 0 ≤ (512 + d) / 2 ^ k ∧ (512 + d) / 2 ^ k ≤ 1023 := by
  have hp : (0 : Int) < 2 ^ k := by exact_mod_cast Nat.two_pow_pos k
  refine ⟨Int.ediv_nonneg (by omega) (by omega), ?_⟩
  have : (512 + d) / 2 ^ k ≤ 512 + d := Int.ediv_le_self _ (by omega)
  omega
theorem renL_wf {t : List (Int × Int)} {d : Int} {l : List Int} (h : ∀ e ∈ t, I64 e.1 ∧ I64 e.2) (hl : ∀ j, I64 (l.getD j 0)) (h0 : 0 ≤ d) (h1 : d < 512) : ∀ k, ∀ e ∈ renL t d l k, I64 e.1 ∧ I64 e.2
  | 0, e, he => withoutL_wf h e he
  | k + 1, e, he => by
    unfold renL at he
    rcases withL_mem he with rfl | he
    · exact ⟨I64.of (by have := und_range (k := k) h0 h1; omega), hl k⟩
    · exact renL_wf h hl h0 h1 k e he
theorem half_step (d : Int) (k : Nat) : (512 + d) / 2 ^ k / 2 = (512 + d) / 2 ^ (k + 1) := by
  rw [Int.pow_succ, Int.ediv_ediv_of_nonneg (by exact_mod_cast Nat.zero_le (2 ^ k))]

set_option maxHeartbeats 4000000 in
theorem rrenew_ok (t : List (Int × Int)) (v : Value) (d : Int) (l : List Int) (u : Value) (w : World) (ht : NodesAt w v t) (hl : t.length ≤ 800000) (hu : IntsAt w u l) (hll : l.length ≤ 1000000) (hli : ∀ j, I64 (l.getD j 0)) :
    Calls Try.prog 26 #[.agg #[v], .int .i64 d, u] w fun e w' => ∃ x, e = .returned (.tuple #[.agg #[x], .int .i64 (renE t d l)]) ∧ NodesAt w' x (renR t d l) ∧ Below w.heap.size w w' := by
  have hwf : ∀ e ∈ t, I64 e.1 ∧ I64 e.2 := by obtain ⟨p, c, -, -, -, -, h⟩ := ht; exact h
  have HT := Lib.hid ht
  have hb1 : Below w.heap.size w ((w.alloc (.cells #[v] 24)).alloc (.cells #[.slice none 0 0] 24)) := ((Below.refl _ w).alloc (Nat.le_refl _) _).alloc (by simp) _
  have cb : ((w.alloc (.cells #[v] 24)).alloc (.cells #[.slice none 0 0] 24)).cell? ⟨w.heap.size, 0, none⟩ = some v := by
    unfold World.cell?; rw [Below.heap_alloc _ _ _ (by simp), World.alloc_heap_new]; rfl
  have hbx : Boxed ((w.alloc (.cells #[v] 24)).alloc (.cells #[.slice none 0 0] 24)) (w.heap.size + 1) 24 (.slice none 0 0) := by
    have h := World.alloc_heap_new (w.alloc (.cells #[v] 24)) (.cells #[.slice none 0 0] 24)
    rw [World.size_alloc] at h
    exact h
  have HWF := Lib.hid hwf
  have HL := Lib.hid hl
  obtain ⟨E, hE⟩ : ∃ E, E = chkT t := ⟨_, rfl⟩
  have HE := Lib.hid hE
  clear ht hl hE hwf
  have HIA := Lib.hid hu
  obtain ⟨pu, cu, rfl, hcu, hcs⟩ := hu
  have HCS := Lib.hid hcs
  have HLI := Lib.hid hli
  have HLL := Lib.hid hll
  clear hcs hli hll
  go_enter Try.func26, Try.ntmps26
  go_wp2_with fail
  obtain ⟨W0, hW0⟩ : ∃ W0, W0 = (w.alloc (.cells #[v] 24)).alloc (.cells #[.slice none 0 0] 24) := ⟨_, rfl⟩
  rw [← hW0] at hbx hb1 cb ⊢
  clear hW0
  have HRC := Lib.hid (rcheck_ok t v W0 (HT.out.below hb1) (by have := HL.out; omega))
  rw [← HE.out] at HRC
  refine HRC.out.mono ?_
  rintro e w1 ⟨rfl, hB1⟩
  have hbx1 : Boxed w1 (w.heap.size + 1) 24 (.slice none 0 0) := (hB1.block _ hbx.lt).trans hbx
  have cb1 := cellOld cb (hB1.block _ (cellLt cb))
  have HB1 := Lib.hid (hb1.trans (hB1.mono hb1.size))
  have HBX := Lib.hid hbx1
  have hs1 : w.heap.size + 1 < w1.heap.size := hbx1.lt
  have c1b := hbx1.cell
  have c1f := hbx1.frozen
  have c1n := (Boxed.set (.slice none 0 0) hbx1).cell
  have HGE := Lib.hid (grownBy_setCell' w1 (w.heap.size + 1) (.slice none 0 0))
  have HBE := Lib.hid (HB1.out.grown HGE.out (by omega) (fun j e => by cases e; omega))
  clear hB1 hb1 hbx HRC cb hbx1
  by_cases h0 : E = 0
  case neg =>
    have hd0 : decide (E = 0) = false := by simp; omega
    have hd0' : (E != 0) = true := by simpa using h0
    have HSE : Hid (renE t d l = E) := Lib.hid (by
      have hc : chgE t d true = E := by unfold chgE; rw [if_neg (by rw [← HE.out]; exact h0)]; exact HE.out.symm
      unfold renE; rw [if_neg (by rw [hc]; exact h0)]; exact hc)
    have HSL : Hid (renR t d l = []) := Lib.hid (by unfold renR; rw [if_neg (by rw [HSE.out]; exact h0)])
    clear h0
    go_wp2_with fail
    refine bodyPost_ret (v := .tuple #[.agg #[.slice none 0 0], .int .i64 E]) (by simp [results, Try.results26, go_sem, c1n]) rfl ?_
    exact ⟨_, by rw [HSE.out], by rw [HSL.out]; exact nodes_nil _, HBE.out⟩
  subst h0
  by_cases hd : 0 ≤ d ∧ d < 512
  case neg =>
    have HDV := Lib.hid (device_ok d)
    rw [decide_eq_false hd] at HDV
    have HSE : Hid (renE t d l = 200) := Lib.hid (by
      have hc : chgE t d true = 200 := by unfold chgE; rw [if_pos HE.out.symm, if_pos (by omega)]
      unfold renE; rw [if_neg (by rw [hc]; decide)]; exact hc)
    have HSL : Hid (renR t d l = []) := Lib.hid (by unfold renR; rw [if_neg (by rw [HSE.out]; decide)])
    clear hd
    go_wp2_with fail
    refine (HDV.out w1).mono ?_
    rintro e w2 ⟨rfl, hw⟩
    rw [hw]
    clear hw
    go_wp2_with fail
    refine bodyPost_ret (v := .tuple #[.agg #[.slice none 0 0], .int .i64 200]) (by simp [results, Try.results26, go_sem, c1n]) rfl ?_
    exact ⟨_, by rw [HSE.out], by rw [HSL.out]; exact nodes_nil _, HBE.out⟩
  have HDV := Lib.hid (device_ok d)
  rw [decide_eq_true hd] at HDV
  have hz : IntKind.i64.wrap (512 + d) = 512 + d := by rw [IntKind.wrap_i64]; omega
  have HBK := Lib.hid (rblank_ok t v (512 + d) w1 (HT.out.below HB1.out) (by have := HL.out; omega))
  obtain ⟨sb, hsb⟩ : ∃ sb, sb = (ofF t (512 + d)).isSome := ⟨_, rfl⟩
  rw [← hsb] at HBK
  have HSB := Lib.hid hsb
  clear hsb c1n HGE HBE
  go_wp2_with fail
  refine (HDV.out w1).mono ?_
  rintro e w2 ⟨rfl, hw⟩
  rw [hw]
  clear hw w2
  clear HDV
  go_wp2_with fail
  refine HBK.out.mono ?_
  rintro e w2 ⟨rfl, hB2⟩
  have hbx2 : Boxed w2 (w.heap.size + 1) 24 (.slice none 0 0) := (hB2.block _ (by omega)).trans HBX.out
  have cb2 := cellOld cb1 (hB2.block _ (cellLt cb1))
  have HB2 := Lib.hid (HB1.out.trans (hB2.mono HB1.out.size))
  have HBX2 := Lib.hid hbx2
  have hs2 : w.heap.size + 1 < w2.heap.size := hbx2.lt
  have c2b := hbx2.cell
  have c2f := hbx2.frozen
  clear hB2 HBK cb1 HBX c1b c1f hs1 hbx2
  cases sb with
  | false =>
    have c1n := (Boxed.set (.slice none 0 0) HBX2.out).cell
    have HGE := Lib.hid (grownBy_setCell' w2 (w.heap.size + 1) (.slice none 0 0))
    have HBE := Lib.hid (HB2.out.grown HGE.out (by omega) (fun j e => by cases e; omega))
    have HSE : Hid (renE t d l = 200) := Lib.hid (by
      have hn : ofF t (512 + d) = none := by
        cases h : ofF t (512 + d) with
        | none => rfl
        | some y => have h2 := HSB.out; rw [h] at h2; cases h2
      have hc : chgE t d true = 200 := by unfold chgE; rw [if_pos HE.out.symm, if_pos (.inr (.inr ⟨rfl, hn⟩))]
      unfold renE; rw [if_neg (by rw [hc]; decide)]; exact hc)
    have HSL : Hid (renR t d l = []) := Lib.hid (by unfold renR; rw [if_neg (by rw [HSE.out]; decide)])
    clear hd
    go_wp2_with fail
    refine bodyPost_ret (v := .tuple #[.agg #[.slice none 0 0], .int .i64 200]) (by simp [results, Try.results26, go_sem, c1n]) rfl ?_
    exact ⟨_, by rw [HSE.out], by rw [HSL.out]; exact nodes_nil _, HBE.out⟩
  | true =>
    have HCE : Hid (chgE t d true = 0) := Lib.hid (by
      unfold chgE; rw [if_pos HE.out.symm, if_neg]
      rintro (h | h | ⟨-, h⟩)
      · omega
      · omega
      · have := HSB.out; rw [h] at this; cases this)
    have HBAD : Hid (¬ (l.length = 10 ∧ AllOk l) → renE t d l = 50 ∧ renR t d l = []) := Lib.hid (fun h => by
      have h1 : renE t d l = 50 := by unfold renE; rw [if_pos HCE.out, if_neg h]
      exact ⟨h1, by unfold renR; rw [if_neg (by rw [h1]; decide)]⟩)
    obtain ⟨m, hm⟩ : ∃ m, m = l.length := ⟨_, rfl⟩
    have HM := Lib.hid hm
    rw [← hm] at hcu ⊢
    have hm2 : m ≤ 1000000 := by rw [hm]; exact HLL.out
    clear hm
    by_cases h10 : m = 10
    case neg =>
      have hd1 : ((m : Int) == 10) = false := by simp; omega
      have hd2 : decide ((m : Int) = 10) = false := by simp; omega
      have hd3 : decide (m = 10) = false := by simp; omega
      have hd4 : ((m : Int) != 10) = true := by simp; omega
      have HB5 := Lib.hid (HBAD.out (fun h => h10 (by rw [HM.out]; exact h.1)))
      have c1n := (Boxed.set (.slice none 0 0) HBX2.out).cell
      have HGE := Lib.hid (grownBy_setCell' w2 (w.heap.size + 1) (.slice none 0 0))
      have HBE := Lib.hid (HB2.out.grown HGE.out (by omega) (fun j e => by cases e; omega))
      clear hd h10
      go_wp2_with fail
      refine bodyPost_ret (v := .tuple #[.agg #[.slice none 0 0], .int .i64 50]) (by simp [results, Try.results26, go_sem, c1n]) rfl ?_
      exact ⟨_, by rw [HB5.out.1], by rw [HB5.out.2]; exact nodes_nil _, HBE.out⟩
    subst h10
    have c1n := (Boxed.set (.slice none 0 0) HBX2.out).cell
    go_wp2_with fail
    go_loopw [9] (fun i wr => ∃ k : Nat, i = .int .i64 k ∧ k ≤ 10 ∧ Hid (∀ j, j < k → chkE (l.getD j 0) = 0) ∧ wr = w2) (fun i _ => 10 - (intOf i).toNat)
    case atStart => exact ⟨0, rfl, Nat.zero_le _, Lib.hid (fun j h => absurd h (Nat.not_lt_zero _)), rfl⟩
    case round =>
      obtain ⟨k, rfl, hk, HG, hwr⟩ := hrel
      subst hwr
      by_cases hk1 : k < 10
      · have he : decide ((k : Int) < 10) = true := by simp; omega
        have he' : decide (k < 10) = true := by simp; omega
        obtain ⟨g, o, rfl, hcs⟩ := HCS.out (by rw [← HM.out]; omega)
        obtain ⟨x, c5, hx, -⟩ := ints_at hcs (by rw [← HM.out]; exact hk1) HB2.out
        have HX := Lib.hid hx
        have HRG := Lib.hid (rgcheck_same x)
        clear hcs hx
        by_cases hck : chkE x = 0
        · rw [hck] at HRG
          have HCK := Lib.hid hck
          clear hck
          go_wp2_with fail
          refine (HRG.out _).mono ?_
          rintro e w5 ⟨rfl, hw⟩
          rw [hw]
          clear hw w5
          go_wp2_with fail
          refine ⟨⟨k + 1, by go_num, by omega, Lib.hid (fun j hj => ?_), trivial⟩, by simp only [intOf]; omega⟩
          rcases Nat.lt_or_eq_of_le (Nat.le_of_lt_succ hj) with h | h
          · exact HG.out j h
          · rw [h, HX.out]; exact HCK.out
        · have HB5 := Lib.hid (HBAD.out (fun h => hck (by rw [← HX.out]; exact h.2 k (by rw [← HM.out]; exact hk1))))
          have hcd : chkE x = 40 := chkE_no (fun h => hck (chkE_yes h))
          rw [hcd] at HRG
          have HGE := Lib.hid (grownBy_setCell' wr (w.heap.size + 1) (.slice none 0 0))
          have HBE := Lib.hid (HB2.out.grown HGE.out (by omega) (fun j e => by cases e; omega))
          clear hck hcd hd
          go_wp2_with fail
          refine (HRG.out _).mono ?_
          rintro e w5 ⟨rfl, hw⟩
          rw [hw]
          clear hw w5
          go_wp2_with fail
          refine bodyPost_ret (v := .tuple #[.agg #[.slice none 0 0], .int .i64 50]) (by simp [results, Try.results26, go_sem, c1n]) rfl ?_
          exact ⟨_, by rw [HB5.out.1], by rw [HB5.out.2]; exact nodes_nil _, HBE.out⟩
      · have he : decide ((k : Int) < 10) = false := by simp; omega
        have he' : decide (k < 10) = false := by simp; omega
        obtain rfl : k = 10 := by omega
        have HSE : Hid (renE t d l = 0) := Lib.hid (by unfold renE; rw [if_pos HCE.out, if_pos ⟨HM.out.symm, fun j hj => HG.out j (by rw [HM.out]; exact hj)⟩])
        have HSL : Hid (renR t d l = renL t d l 10) := Lib.hid (by unfold renR; rw [if_pos HSE.out])
        have HWO := Lib.hid (without_ok t v d wr (HT.out.below HB2.out) (by have := HL.out; omega) hd.1 hd.2)
        have HD := Lib.hid hd
        clear c1n HBAD hd
        go_wp2_with fail
        refine HWO.out.mono ?_
        rintro e w3 ⟨u2, rfl, hr3, hB3⟩
        obtain ⟨q2, cq2, rfl⟩ := node_form hr3
        have HB3 := Lib.hid (HB2.out.trans (hB3.mono HB2.out.size))
        have HBX3 : Hid (Boxed w3 (w.heap.size + 1) 24 (.slice none 0 0)) := Lib.hid ((hB3.block _ (by omega)).trans HBX2.out)
        have hs3 := hB3.size
        obtain ⟨X, hX⟩ : ∃ X, X = w3.heap.size := ⟨_, rfl⟩
        have HR4 : Hid ((w3.alloc (.cells #[.slice q2 (withoutL t d).length cq2] 24)).ownsRow (w.heap.size + 2) 48 2 (.slice q2 (withoutL t d).length cq2) (renL t d l 0).length (cellsL (renL t d l 0)) ∧ (Value.slice q2 (withoutL t d).length cq2).ownBlock ≠ some X) := Lib.hid ⟨(row_low hr3 (by omega)).alloc _, fun h => by have := (hr3.lt _ h).2; omega⟩
        have HX4 : Hid (Boxed (w3.alloc (.cells #[.slice q2 (withoutL t d).length cq2] 24)) X 24 (.slice q2 (withoutL t d).length cq2)) := Lib.hid (by rw [hX]; exact World.alloc_heap_new w3 _)
        have HB4 := Lib.hid (HB3.out.alloc HB3.out.size (.cells #[.slice q2 (withoutL t d).length cq2] 24))
        have HBX4 : Hid (Boxed (w3.alloc (.cells #[.slice q2 (withoutL t d).length cq2] 24)) (w.heap.size + 1) 24 (.slice none 0 0)) := Lib.hid ((Below.heap_alloc _ _ _ (by omega)).trans HBX3.out)
        have hs4 : X < (w3.alloc (.cells #[.slice q2 (withoutL t d).length cq2] 24)).heap.size := by rw [hX]; simp
        have hX2 : w.heap.size + 2 ≤ X := by omega
        clear hr3 hB3 HWO HB3 HBX3 hs3 c2b c2f cb2
        go_wp2_with fail
        rw [← hX]
        obtain ⟨W4, hW4⟩ : ∃ W, W = w3.alloc (.cells #[.slice q2 (withoutL t d).length cq2] 24) := ⟨_, rfl⟩
        rw [← hW4] at HR4 HX4 HB4 HBX4 hs4 ⊢
        clear hW4 hX
        obtain ⟨y0, hy0⟩ := Int.eq_ofNat_of_zero_le (show 0 ≤ 512 + d by have := HD.out; omega)
        rw [hy0]
        have HY0 : Hid (((y0 : Nat) : Int) = (512 + d) / 2 ^ 0) := Lib.hid (by simp; omega)
        have hy1 : y0 ≤ 1023 := by have := HD.out; omega
        clear hy0 hz
        go_loopw [11, 12] (fun n i wr => ∃ (k y : Nat) (q : Option Addr) (c : Nat), i = .int .i64 k ∧ n = .int .i64 y ∧ k ≤ 10 ∧ y ≤ 1023 ∧ Hid ((y : Int) = (512 + d) / 2 ^ k) ∧ Hid (Boxed wr X 24 (.slice q (renL t d l k).length c)) ∧ Hid (wr.ownsRow (w.heap.size + 2) 48 2 (.slice q (renL t d l k).length c) (renL t d l k).length (cellsL (renL t d l k)) ∧ (Value.slice q (renL t d l k).length c).ownBlock ≠ some X) ∧ Hid (Below w.heap.size w wr) ∧ Hid (Boxed wr (w.heap.size + 1) 24 (.slice none 0 0)) ∧ X < wr.heap.size) (fun _ i _ => 10 - (intOf i).toNat)
        case atStart => exact ⟨0, y0, q2, cq2, rfl, rfl, Nat.zero_le _, hy1, HY0, HX4, HR4, HB4, HBX4, hs4⟩
        case round =>
          obtain ⟨k, y, q, c, rfl, rfl, hk, hy, HY, HXr, HRr, HBr, HBXr, hsr⟩ := hrel
          obtain ⟨L, hL⟩ : ∃ L, L = renL t d l k := ⟨_, rfl⟩
          rw [← hL] at HXr HRr
          have HLE := Lib.hid hL
          have hLL : L.length ≤ 800010 := by rw [hL]; have := renL_length t d l k; have := HL.out; omega
          have HLW : Hid (∀ e ∈ L, I64 e.1 ∧ I64 e.2) := Lib.hid (by rw [hL]; exact renL_wf HWF.out HLI.out HD.out.1 HD.out.2 k)
          clear hL
          by_cases hk1 : k < 10
          · have he : decide ((k : Int) < 10) = true := by simp; omega
            have he' : decide (k < 10) = true := by simp; omega
            obtain ⟨g, o, rfl, hcs⟩ := HCS.out (by rw [← HM.out]; omega)
            obtain ⟨x, c5, hx, -⟩ := ints_at hcs (by rw [← HM.out]; exact hk1) HBr.out
            have HGW : Hid (g < w.heap.size) := Lib.hid (by have h := cellLt (hcs 0 (by rw [← HM.out]; omega)); exact h)
            have HXX := Lib.hid hx
            have HLN : Hid (renL t d l (k + 1) = withL ((y : Int), x) L) := Lib.hid (by rw [HLE.out, HY.out, ← hx]; rfl)
            have HYN : Hid (((y / 2 : Nat) : Int) = (512 + d) / 2 ^ (k + 1)) := Lib.hid (by rw [← half_step, ← HY.out]; omega)
            have hki : (k : Int) < 10 := by omega
            obtain ⟨nL, hnL⟩ : ∃ nL, nL = L.length := ⟨_, rfl⟩
            have HNL := Lib.hid hnL
            rw [← hnL] at HXr HRr hLL
            have cx := HXr.out.cell
            clear hcs hx hnL
            go_upto_region 18 with fail
            refine wp_region_noPanic ?_
            refine region_sched (fun W' => W'.cell? ⟨X, 0, none⟩ = some (.slice q nL c) ∧ W'.cell? ⟨g, o + k, none⟩ = some (.int .i64 x)) 8 [(0, true), (1, true), (2, true), (3, true), (4, true), (5, true), (6, true), (7, false), (8, false)]
              (by kernel_rfl) (by kernel_rfl) (by kernel_rfl) rfl (fun _ _ _ _ h => h) ⟨cx, c5⟩ ?_
            (refine sched_take (v := ?_) rfl (by rfl) (fun W' hS => ?_) ?_; rotate_left; (obtain ⟨s0, s1⟩ := hS; go_simp; with_reducible rfl); (try simp only [Act.put, List.getElem_toArray, List.getElem_cons_succ, List.getElem_cons_zero, List.setIfInBounds_toArray, List.set_cons_zero, List.set_cons_succ]))
            (refine sched_take (v := ?_) rfl (by rfl) (fun W' hS => ?_) ?_; rotate_left; (obtain ⟨s0, s1⟩ := hS; go_simp; with_reducible rfl); (try simp only [Act.put, List.getElem_toArray, List.getElem_cons_succ, List.getElem_cons_zero, List.setIfInBounds_toArray, List.set_cons_zero, List.set_cons_succ]))
            (refine sched_take (v := ?_) rfl (by rfl) (fun W' hS => ?_) ?_; rotate_left; (obtain ⟨s0, s1⟩ := hS; go_simp; with_reducible rfl); (try simp only [Act.put, List.getElem_toArray, List.getElem_cons_succ, List.getElem_cons_zero, List.setIfInBounds_toArray, List.set_cons_zero, List.set_cons_succ]))
            (refine sched_take (v := ?_) rfl (by rfl) (fun W' hS => ?_) ?_; rotate_left; (obtain ⟨s0, s1⟩ := hS; go_simp; with_reducible rfl); (try simp only [Act.put, List.getElem_toArray, List.getElem_cons_succ, List.getElem_cons_zero, List.setIfInBounds_toArray, List.set_cons_zero, List.set_cons_succ]))
            (refine sched_take (v := ?_) rfl (by rfl) (fun W' hS => ?_) ?_; rotate_left; (obtain ⟨s0, s1⟩ := hS; go_simp; with_reducible rfl); (try simp only [Act.put, List.getElem_toArray, List.getElem_cons_succ, List.getElem_cons_zero, List.setIfInBounds_toArray, List.set_cons_zero, List.set_cons_succ]))
            (refine sched_take (v := ?_) rfl (by rfl) (fun W' hS => ?_) ?_; rotate_left; (obtain ⟨s0, s1⟩ := hS; go_simp; with_reducible rfl); (try simp only [Act.put, List.getElem_toArray, List.getElem_cons_succ, List.getElem_cons_zero, List.setIfInBounds_toArray, List.set_cons_zero, List.set_cons_succ]))
            (refine sched_take (v := ?_) rfl (by rfl) (fun W' hS => ?_) ?_; rotate_left; (obtain ⟨s0, s1⟩ := hS; go_simp; with_reducible rfl); (try simp only [Act.put, List.getElem_toArray, List.getElem_cons_succ, List.getElem_cons_zero, List.setIfInBounds_toArray, List.set_cons_zero, List.set_cons_succ]))
            obtain ⟨Wd, hWd⟩ : ∃ W, W = wr.drew := ⟨_, rfl⟩
            have d5 : Wd.cell? ⟨g, o + k, none⟩ = some (.int .i64 x) := by rw [hWd]; exact c5
            have HXd : Hid (Boxed Wd X 24 (.slice q nL c)) := Lib.hid (by rw [hWd]; exact HXr.out)
            have HRd : Hid (Wd.ownsRow (w.heap.size + 2) 48 2 (.slice q nL c) nL (cellsL L)) := Lib.hid (by rw [hWd]; exact HRr.out.1)
            have HBd : Hid (Below w.heap.size w Wd) := Lib.hid (by rw [hWd]; exact HBr.out.trans ⟨rfl, rfl, rfl, Nat.le_refl _, fun _ _ => rfl⟩)
            have HBXd : Hid (Boxed Wd (w.heap.size + 1) 24 (.slice none 0 0)) := Lib.hid (by rw [hWd]; exact HBXr.out)
            have hsd : X < Wd.heap.size := by rw [hWd]; exact hsr
            rw [← hWd]
            clear hWd cx c5 HXr HRr HBr HBXr hsr
            have HWI := Lib.hid (with_ok L (.slice q nL c) y x Wd (nodes_of_row (by rw [← HNL.out]; exact HRd.out) HLW.out) (by rw [← HNL.out]; omega))
            refine sched_do rfl (fun K' hK => ?_)
            go_simp
            refine HWI.out.mono ?_
            rintro e w5 ⟨u5, rfl, hr5, hB5⟩
            obtain ⟨q5, c5', rfl⟩ := node_form hr5
            have bx5 : Boxed w5 X 24 (.slice q nL c) := (hB5.block _ hsd).trans HXd.out
            have d55 := cellOld d5 (hB5.block _ (cellLt d5))
            have HR5 := Lib.hid hr5
            have HB5 := Lib.hid (HBd.out.trans (hB5.mono HBd.out.size))
            have HBX5 : Hid (Boxed w5 (w.heap.size + 1) 24 (.slice none 0 0)) := Lib.hid ((hB5.block _ (by omega)).trans HBXd.out)
            have hs5 := hB5.size
            have b5c := bx5.cell
            have b5f := bx5.frozen
            clear hr5 hB5 HWI
            refine hK.out _ _ ⟨b5c, d55⟩ fun _ => ?_
            clear hK
            (try simp only [Act.put, List.getElem_toArray, List.getElem_cons_succ, List.getElem_cons_zero, List.setIfInBounds_toArray, List.set_cons_zero, List.set_cons_succ])
            refine sched_end rfl (fun K' hK => ?_)
            go_simp
            refine hK.out _ _ ?_
            clear hK
            refine NoPanic.normal ?_
            obtain ⟨nW, hnW⟩ : ∃ nW, nW = (withL ((y : Int), x) L).length := ⟨_, rfl⟩
            rw [← hnW] at HR5 ⊢
            have HX7 := Lib.hid (Boxed.set (.slice q5 nW c5') bx5)
            have HG7 := Lib.hid (grownBy_setCell' w5 X (.slice q5 nW c5'))
            have HR7 := Lib.hid (ownsRow_setCell_below HR5.out (a := ⟨X, 0, none⟩) (by show X < Wd.heap.size; omega) (.slice q5 nW c5'))
            have HB7 := Lib.hid (HB5.out.grown HG7.out (by omega) (fun j e => by cases e; omega))
            have HBX7 : Hid (Boxed (w5.setCell ⟨X, 0, none⟩ (.slice q5 nW c5')) (w.heap.size + 1) 24 (.slice none 0 0)) := Lib.hid ((HG7.out.block _ (by omega) (by simp; omega)).trans HBX5.out)
            have hs7 := HG7.out.size
            have HNO : Hid ((Value.slice q5 nW c5').ownBlock ≠ some X) := Lib.hid (fun h => by have := (HR5.out.lt _ h).1; omega)
            have HNW := Lib.hid hnW
            clear hnW bx5 b5c b5f d55 d5
            go_wp2_with fail
            refine ⟨⟨k + 1, y / 2, q5, c5', by go_num, congrArg (Value.int .i64) (by omega), by omega, by omega, HYN, ?_, ?_, HB7, HBX7, by omega⟩, by simp only [intOf]; omega⟩
            · rw [HLN.out, ← HNW.out]; exact HX7
            · rw [HLN.out, ← HNW.out]; exact Lib.hid ⟨row_low HR7.out (by omega), HNO.out⟩
          · have he : decide ((k : Int) < 10) = false := by simp; omega
            have he' : decide (k < 10) = false := by simp; omega
            obtain rfl : k = 10 := by omega
            obtain ⟨nL, hnL⟩ : ∃ nL, nL = L.length := ⟨_, rfl⟩
            have HNL := Lib.hid hnL
            rw [← hnL] at HXr HRr hLL
            have cx := HXr.out.cell
            have cr := HBXr.out.cell
            have crf := HBXr.out.frozen
            have HG7 := Lib.hid (grownBy_setCell' wr (w.heap.size + 1) (.slice q nL c))
            have HR7 := Lib.hid (ownsRow_setCell_below HRr.out.1 (a := ⟨w.heap.size + 1, 0, none⟩) (by show w.heap.size + 1 < w.heap.size + 2; omega) (.slice q nL c))
            have HB7 := Lib.hid (HBr.out.grown HG7.out (by omega) (fun j e => by cases e; omega))
            have c1n := (Boxed.set (.slice q nL c) HBXr.out).cell
            clear hnL
            go_wp2_with fail
            refine bodyPost_ret (v := .tuple #[.agg #[.slice q nL c], .int .i64 0]) (by simp [results, Try.results26, go_sem, c1n]) rfl ?_
            refine ⟨_, by rw [HSE.out], ?_, HB7.out⟩
            rw [HSL.out, ← HLE.out]
            exact nodes_of_row (by rw [← HNL.out]; exact HR7.out) HLW.out
end Go.Proofs.Ytekdekchbnacgaa
