/- The reference: resolution, Resolution. -/
import Derived.Test.YtekdekchbnacgaaLf
import Derived.Test.YtekdekchbnacgaaRo
import Derived.Test.YtekdekchbnacgaaKn
namespace Go.Proofs.Ytekdekchbnacgaa
open Go.RowKit
set_option maxRecDepth 100000
set_option linter.unusedVariables false
set_option linter.unusedSimpArgs false

def RRes (t : List (Int × Int)) (v : Value) (h n : Nat) : Prop :=
  ∀ w, NodesAt w v t → Calls Try.prog 38 #[.agg #[v], .int .i64 n] w fun e w' => ∃ u, e = .returned u ∧ w'.ownsRow w.heap.size 3 1 u (resL (ofF t) h n).length ((resL (ofF t) h n).map (Value.int .i64)) ∧ Below w.heap.size w w'

theorem resL_none {f : Int → Option Int} {h n : Nat} (hf : (f n).isSome = false) : resL f (h + 1) n = resL f h (2 * n) ++ resL f h (2 * n + 1) := by
  simp [resL, hf]
theorem resL_leaf {f : Int → Option Int} {n : Nat} (hf : (f n).isSome = false) : resL f 0 n = [] := by
  simp [resL, hf]

set_option maxHeartbeats 1000000 in
theorem rres_step (t : List (Int × Int)) (v : Value) (hl : t.length ≤ 1000000) (h n : Nat) (hn1 : n < 1024) (hp : 2 ^ h ≤ 512)
    (hz : n < 512 → ∃ h', h = h' + 1 ∧ RRes t v h' (2 * n) ∧ RRes t v h' (2 * n + 1)) (hz2 : 512 ≤ n → h = 0) : RRes t v h n := by
  intro w ht
  obtain ⟨i0, hi, hz0, hz1, hzb⟩ := info_parts info_i64
  have hb1 : Below w.heap.size w (w.alloc (.cells #[v] 24)) := (Below.refl _ w).alloc (Nat.le_refl _) _
  have HP := Lib.hid (rblank_ok t v n (w.alloc (.cells #[v] 24)) (ht.below hb1) hl)
  have HT := Lib.hid ht
  have HZ := Lib.hid hz
  have HZ2 := Lib.hid hz2
  obtain ⟨sb, hsb⟩ : ∃ sb, sb = (ofF t n).isSome := ⟨_, rfl⟩
  rw [← hsb] at HP
  have HSB := Lib.hid hsb
  obtain ⟨W0, hW0⟩ : ∃ W0, W0 = w.alloc (.cells #[v] 24) := ⟨_, rfl⟩
  have cb : W0.cell? ⟨w.heap.size, 0, none⟩ = some v := by rw [hW0]; unfold World.cell?; rw [World.alloc_heap_new]; rfl
  have hs0 : w.heap.size < W0.heap.size := by rw [hW0]; simp
  have HPW := Lib.hid hp
  rw [← hW0] at HP hb1
  clear ht hl hsb hz hz2 hp
  go_enter Try.func38, Try.ntmps38
  go_wp2_with fail
  rw [← hW0]
  clear hW0
  refine HP.out.mono ?_
  rintro e w1 ⟨rfl, hB1⟩
  have HB1 := Lib.hid (hb1.trans (hB1.mono hb1.size))
  have cb1 := cellOld cb (hB1.block _ (by show w.heap.size < _; omega))
  have hs1 := hB1.size
  clear hB1 hb1 HP cb
  cases sb with
  | true =>
    have HR : Hid (resL (ofF t) h n = [(n : Int)]) := Lib.hid (resL_some HSB.out.symm)
    go_wp2_with fail
    go_ret
    refine ⟨_, rfl, ?_, HB1.out.alloc HB1.out.size _⟩
    rw [HR.out]
    exact World.ownsRow_lit (base := w.heap.size) (size := 1) (e := 3) w1 #[.int .i64 n] 1 HB1.out.size (by unfold maxLen; omega) (by simp)
  | false =>
    by_cases h5 : 512 ≤ n
    · have hd : decide ((512 : Int) ≤ (n : Int)) = true := by simp; omega
      have hd' : decide (512 ≤ n) = true := by simp; omega
      have HR : Hid (resL (ofF t) h n = []) := Lib.hid (by rw [HZ2.out h5]; exact resL_leaf HSB.out.symm)
      go_wp2_with fail
      go_ret
      exact ⟨_, rfl, by rw [HR.out]; exact World.ownsRow_nil _ _ _ _, HB1.out⟩
    · have hd : decide ((512 : Int) ≤ (n : Int)) = false := by simp; omega
      have hd' : decide (512 ≤ n) = false := by simp; omega
      obtain ⟨h', rfl, ih1, ih2⟩ := HZ.out (by omega)
      unfold RRes at ih1 ih2
      have HI1 := Lib.hid ih1
      have HI2 := Lib.hid ih2
      have HR : Hid (resL (ofF t) (h' + 1) n = resL (ofF t) h' (2 * n) ++ resL (ofF t) h' (2 * n + 1)) := Lib.hid (resL_none HSB.out.symm)
      have HL1 := Lib.hid (resL_length (ofF t) h' (2 * n))
      have HL2 := Lib.hid (resL_length (ofF t) h' (2 * n + 1))
      have hpw := HPW.out
      rw [Nat.pow_succ] at hpw
      clear ih1 ih2 HZ HZ2 h5
      go_upto_region 5 with fail
      refine wp_region_noPanic ?_
      refine region_sched (fun W' => W'.cell? ⟨w.heap.size, 0, none⟩ = some v) 100 [(0, true), (1, true), (2, true), (4, true), (5, true), (6, true), (7, true), (3, false), (8, false), (9, false), (10, false)]
        (by kernel_rfl) (by kernel_rfl) (by kernel_rfl) rfl (fun _ _ _ _ h => h) cb1 ?_
      (refine sched_take (v := ?_) rfl (by rfl) (fun W' hS => ?_) ?_; rotate_left; (go_simp; with_reducible rfl); (try simp only [Act.put, List.getElem_toArray, List.getElem_cons_succ, List.getElem_cons_zero, List.setIfInBounds_toArray, List.set_cons_zero, List.set_cons_succ]))
      (refine sched_take (v := ?_) rfl (by rfl) (fun W' hS => ?_) ?_; rotate_left; (go_simp; with_reducible rfl); (try simp only [Act.put, List.getElem_toArray, List.getElem_cons_succ, List.getElem_cons_zero, List.setIfInBounds_toArray, List.set_cons_zero, List.set_cons_succ]))
      (refine sched_take (v := ?_) rfl (by rfl) (fun W' hS => ?_) ?_; rotate_left; (go_simp; with_reducible rfl); (try simp only [Act.put, List.getElem_toArray, List.getElem_cons_succ, List.getElem_cons_zero, List.setIfInBounds_toArray, List.set_cons_zero, List.set_cons_succ]))
      (refine sched_take (v := ?_) rfl (by rfl) (fun W' hS => ?_) ?_; rotate_left; (go_simp; with_reducible rfl); (try simp only [Act.put, List.getElem_toArray, List.getElem_cons_succ, List.getElem_cons_zero, List.setIfInBounds_toArray, List.set_cons_zero, List.set_cons_succ]))
      (refine sched_take (v := ?_) rfl (by rfl) (fun W' hS => ?_) ?_; rotate_left; (go_simp; with_reducible rfl); (try simp only [Act.put, List.getElem_toArray, List.getElem_cons_succ, List.getElem_cons_zero, List.setIfInBounds_toArray, List.set_cons_zero, List.set_cons_succ]))
      (refine sched_take (v := ?_) rfl (by rfl) (fun W' hS => ?_) ?_; rotate_left; (go_simp; with_reducible rfl); (try simp only [Act.put, List.getElem_toArray, List.getElem_cons_succ, List.getElem_cons_zero, List.setIfInBounds_toArray, List.set_cons_zero, List.set_cons_succ]))
      (refine sched_take (v := ?_) rfl (by rfl) (fun W' hS => ?_) ?_; rotate_left; (go_simp; with_reducible rfl); (try simp only [Act.put, List.getElem_toArray, List.getElem_cons_succ, List.getElem_cons_zero, List.setIfInBounds_toArray, List.set_cons_zero, List.set_cons_succ]))
      have hw1 : IntKind.i64.wrap (2 * (n : Int)) = ((2 * n : Nat) : Int) := by rw [IntKind.wrap_i64]; omega
      have hw2 : IntKind.i64.wrap (((2 * n : Nat) : Int) + 1) = ((2 * n + 1 : Nat) : Int) := by rw [IntKind.wrap_i64]; omega
      have HBd : Hid (Below w.heap.size w w1.drew) := Lib.hid (HB1.out.trans ⟨rfl, rfl, rfl, Nat.le_refl _, fun _ _ => rfl⟩)
      have cbd : w1.drew.cell? ⟨w.heap.size, 0, none⟩ = some v := cb1
      have hsd : W0.heap.size ≤ w1.drew.heap.size := hs1
      rw [hw1, hw2]
      obtain ⟨Wd, hWd⟩ : ∃ W, W = w1.drew := ⟨_, rfl⟩
      rw [← hWd] at HBd cbd hsd ⊢
      clear hw1 hw2 hWd cb1 HB1 hs1
      generalize ((2 * n : Nat) : Int) = z1 at *
      generalize ((2 * n + 1 : Nat) : Int) = z2 at *
      refine sched_do rfl (fun K' hK => ?_)
      go_simp
      refine (HI1.out Wd (HT.out.below HBd.out)).mono ?_
      rintro e w2 ⟨u1, rfl, hr1, hB2⟩
      have HR1 := Lib.hid hr1
      have HB2 := Lib.hid (HBd.out.trans (hB2.mono HBd.out.size))
      have cb2 := cellOld cbd (hB2.block _ (by show w.heap.size < _; omega))
      have hs2 := hB2.size
      clear hr1 hB2 HI1
      refine hK.out _ _ cb2 fun _ => ?_
      clear hK
      (try simp only [Act.put, List.getElem_toArray, List.getElem_cons_succ, List.getElem_cons_zero, List.setIfInBounds_toArray, List.set_cons_zero, List.set_cons_succ])
      refine sched_do rfl (fun K' hK => ?_)
      go_simp
      refine (HI2.out w2 (HT.out.below HB2.out)).mono ?_
      rintro e w3 ⟨u2, rfl, hr2, hB3⟩
      have HR2 := Lib.hid (RowAt.of_own hr2)
      have HR1' := Lib.hid (row_below HR1.out hB3)
      have HB3 := Lib.hid (HB2.out.trans (hB3.mono HB2.out.size))
      have cb3 := cellOld cb2 (hB3.block _ (by show w.heap.size < _; omega))
      have hs3 := hB3.size
      clear hr2 hB3 HI2
      refine hK.out _ _ cb3 fun _ => ?_
      clear hK
      (try simp only [Act.put, List.getElem_toArray, List.getElem_cons_succ, List.getElem_cons_zero, List.setIfInBounds_toArray, List.set_cons_zero, List.set_cons_succ])
      refine sched_do rfl (fun K' hK => ?_)
      rw [if_pos (by rfl)]
      refine wp_append_row _ _ 27 rfl Wd.heap.size 3 i0 (.int .i64 0) 1 8 Try.underlying27 hi hz0 hz1 hzb rfl (by decide) u1 _ _ rfl HR1'.out u2 _ _ rfl HR2.out (by simp [Value.oneCell']) (by have := HL1.out; have := HL2.out; unfold maxLen; omega) (by have := HL1.out; have := HL2.out; omega) (by omega) ?_
      intro v' w4 hown hgrow
      have HR4 := Lib.hid hown
      have HB4 := Lib.hid (HB3.out.grown hgrow HB3.out.size (fun j hj => by have := (HR1'.out.lt j hj).1; have := HBd.out.size; omega))
      have cb4 : w4.cell? ⟨w.heap.size, 0, none⟩ = some v := by
        refine cellOld cb3 (hgrow.block w.heap.size (by omega) (fun h => by have := (HR1'.out.lt _ h.symm).1; omega))
      clear hown hgrow
      refine hK.out _ _ cb4 fun _ => ?_
      clear hK
      (try simp only [Act.put, List.getElem_toArray, List.getElem_cons_succ, List.getElem_cons_zero, List.setIfInBounds_toArray, List.set_cons_zero, List.set_cons_succ])
      refine sched_do rfl (fun K' hK => ?_)
      go_simp
      refine hK.out _ _ cb4 fun _ => ?_
      clear hK
      (try simp only [Act.put, List.getElem_toArray, List.getElem_cons_succ, List.getElem_cons_zero, List.setIfInBounds_toArray, List.set_cons_zero, List.set_cons_succ])
      refine NoPanic.normal ?_
      have hwd := HBd.out.size
      go_wp2_with fail
      go_ret
      refine ⟨v', rfl, ?_, HB4.out⟩
      rw [HR.out, List.length_append, List.map_append]
      exact row_low HR4.out hwd

theorem rres_all (t : List (Int × Int)) (v : Value) (hl : t.length ≤ 1000000) : ∀ h n, 512 ≤ n * 2 ^ h → n * 2 ^ h < 1024 → RRes t v h n
  | 0, n, h1, h2 => rres_step t v hl 0 n (by omega) (by decide) (fun h => by omega) (fun _ => rfl)
  | h + 1, n, h1, h2 => by
    rw [Nat.pow_succ] at h1 h2
    have e1 : 2 * n * 2 ^ h = n * (2 ^ h * 2) := by rw [Nat.mul_comm 2 n, Nat.mul_assoc, Nat.mul_comm 2]
    have e2 : (2 * n + 1) * 2 ^ h = n * (2 ^ h * 2) + 2 ^ h := by rw [Nat.add_mul, Nat.one_mul, e1]
    have hp : 1 ≤ 2 ^ h := Nat.one_le_two_pow
    have hn1 : 1 ≤ n := by
      rcases Nat.eq_zero_or_pos n with h0 | h0
      · rw [h0] at h1; omega
      · exact h0
    have hpn : 2 ^ h * 2 ≤ n * (2 ^ h * 2) := Nat.le_mul_of_pos_left _ hn1
    have hlt : n < 512 := by
      have : n * 2 ≤ n * (2 ^ h * 2) := Nat.mul_le_mul_left _ (by omega)
      omega
    have hh : h < 9 := by
      rcases Nat.lt_or_ge h 9 with g | g
      · exact g
      · have : 2 ^ 9 ≤ 2 ^ h := Nat.pow_le_pow_right (by decide) g
        omega
    have hm : n * (2 ^ h * 2) + 2 ^ h < 1024 := by
      have : n * (2 ^ h * 2) + (2 ^ h * 2) ≤ 1024 := by
        have hdiv : 2 ^ h * 2 ∣ 1024 := by
          rw [← Nat.pow_succ, show 1024 = 2 ^ 10 by decide]
          exact Nat.pow_dvd_pow _ (by omega)
        obtain ⟨q, hq⟩ := hdiv
        rw [hq] at h2 ⊢
        have : n < q := by
          rw [Nat.mul_comm] at h2
          exact Nat.lt_of_mul_lt_mul_left h2
        rw [← Nat.succ_mul, Nat.mul_comm (2 ^ h * 2) q]
        exact Nat.mul_le_mul_right _ this
      omega
    have hpw : 2 ^ (h + 1) ≤ 512 := by
      have : 2 ^ (h + 1) ≤ 2 ^ 9 := Nat.pow_le_pow_right (by decide) (by omega)
      simpa using this
    exact rres_step t v hl (h + 1) n (by omega) hpw
      (fun _ => ⟨h, rfl, rres_all t v hl h (2 * n) (by rw [e1]; exact h1) (by rw [e1]; exact h2), rres_all t v hl h (2 * n + 1) (by rw [e2]; omega) (by rw [e2]; exact hm)⟩) (fun h => by omega)

set_option maxHeartbeats 1000000 in
theorem rresolution_ok (t : List (Int × Int)) (v : Value) (x : Int) (w : World) (ht : NodesAt w v t) (hl : t.length ≤ 1000000) :
    Calls Try.prog 13 #[.agg #[v], .int .i64 x] w fun e w' => ∃ u, e = .returned (.tuple #[u, .int .i64 (resE t x)]) ∧ w'.ownsRow w.heap.size 3 1 u (resV t x).length ((resV t x).map (Value.int .i64)) ∧ Below w.heap.size w w' := by
  have hb1 : Below w.heap.size w (w.alloc (.cells #[v] 24)) := (Below.refl _ w).alloc (Nat.le_refl _) _
  have HCK := Lib.hid (rcheck_ok t v (w.alloc (.cells #[v] 24)) (ht.below hb1) hl)
  have HT := Lib.hid ht
  have HL := Lib.hid hl
  obtain ⟨W0, hW0⟩ : ∃ W0, W0 = w.alloc (.cells #[v] 24) := ⟨_, rfl⟩
  have cb : W0.cell? ⟨w.heap.size, 0, none⟩ = some v := by rw [hW0]; unfold World.cell?; rw [World.alloc_heap_new]; rfl
  have hW0s : W0.heap.size = w.heap.size + 1 := by rw [hW0]; simp
  obtain ⟨E, hE⟩ : ∃ E, E = resE t x := ⟨_, rfl⟩
  obtain ⟨V, hV⟩ : ∃ V, V = resV t x := ⟨_, rfl⟩
  have HE := Lib.hid hE
  have HV := Lib.hid hV
  rw [← hE, ← hV]
  obtain ⟨ck, hck⟩ : ∃ ck, ck = chkT t := ⟨_, rfl⟩
  have HC := Lib.hid hck
  rw [← hW0, ← hck] at HCK
  rw [← hW0] at hb1
  clear ht hl hE hV hck
  go_enter Try.func13, Try.ntmps13
  go_wp2_with fail
  rw [← hW0]
  clear hW0
  refine HCK.out.mono ?_
  rintro e w1 ⟨rfl, hB1⟩
  have cb1 := cellOld cb (hB1.block _ (by show w.heap.size < _; omega))
  have HB1 := Lib.hid (hb1.trans (hB1.mono hb1.size))
  clear hB1 hb1 HCK cb hW0s
  by_cases h0 : ck = 0
  · subst h0
    by_cases h1 : x < 1
    · have hd1 : decide (x < 1) = true := by simp; omega
      have HE2 : Hid (E = 200) := Lib.hid (by rw [HE.out]; unfold resE; rw [if_pos HC.out.symm, if_pos (.inl h1)])
      have HV2 : Hid (V = []) := Lib.hid (by rw [HV.out]; unfold resV; rw [if_neg (by rw [← HE.out, HE2.out]; decide)])
      go_wp2_with fail
      go_ret2
      exact ⟨.slice none 0 0, ret_eq2 HE2.out, by rw [HV2.out]; exact World.ownsRow_nil _ _ _ _, HB1.out⟩
    · have hd1 : decide (x < 1) = false := by simp; omega
      by_cases h2 : 1023 < x
      · have hd2 : decide (1023 < x) = true := by simp; omega
        have HE2 : Hid (E = 200) := Lib.hid (by rw [HE.out]; unfold resE; rw [if_pos HC.out.symm, if_pos (.inr h2)])
        have HV2 : Hid (V = []) := Lib.hid (by rw [HV.out]; unfold resV; rw [if_neg (by rw [← HE.out, HE2.out]; decide)])
        go_wp2_with fail
        go_ret2
        exact ⟨.slice none 0 0, ret_eq2 HE2.out, by rw [HV2.out]; exact World.ownsRow_nil _ _ _ _, HB1.out⟩
      · have hd2 : decide (1023 < x) = false := by simp; omega
        have HE2 : Hid (E = 0) := Lib.hid (by rw [HE.out]; unfold resE; rw [if_pos HC.out.symm, if_neg (by omega)])
        have HV2 : Hid (V = resL (ofF t) (hgt x.toNat) x.toNat) := Lib.hid (by rw [HV.out]; unfold resV; rw [if_pos (by rw [← HE.out, HE2.out])])
        obtain ⟨n, hn⟩ : ∃ n, n = x.toNat := ⟨_, rfl⟩
        have HX : Hid (x = (n : Int)) := Lib.hid (by omega)
        have HN : Hid (1 ≤ n ∧ n < 1024) := Lib.hid (by omega)
        rw [← hn] at HV2
        have HRR : Hid (RRes t v (hgt n) n) := Lib.hid (rres_all t v HL.out (hgt n) n (hgt_ok HN.out.1 HN.out.2).1 (hgt_ok HN.out.1 HN.out.2).2)
        unfold RRes at HRR
        rw [← HX.out] at HRR
        clear hn
        go_wp2_with fail
        refine (HRR.out w1 (HT.out.below HB1.out)).mono ?_
        rintro e w2 ⟨u, rfl, hr, hB2⟩
        have HR := Lib.hid hr
        have HB2 := Lib.hid (HB1.out.trans (hB2.mono HB1.out.size))
        have hws := HB1.out.size
        clear hr hB2
        go_wp2_with fail
        go_ret2
        refine ⟨u, ret_eq2 HE2.out, ?_, HB2.out⟩
        rw [HV2.out]
        exact own_low HR.out hws
  · have hd0 : decide (ck = 0) = false := by simp; omega
    have HE2 : Hid (E = ck) := Lib.hid (by rw [HE.out]; unfold resE; rw [if_neg (by rw [← HC.out]; exact h0)]; exact HC.out.symm)
    have HV2 : Hid (V = []) := Lib.hid (by rw [HV.out]; unfold resV; rw [if_neg (by rw [← HE.out, HE2.out]; exact h0)])
    go_wp2_with fail
    go_ret2
    exact ⟨.slice none 0 0, ret_eq2 HE2.out, by rw [HV2.out]; exact World.ownsRow_nil _ _ _ _, HB1.out⟩
end Go.Proofs.Ytekdekchbnacgaa
