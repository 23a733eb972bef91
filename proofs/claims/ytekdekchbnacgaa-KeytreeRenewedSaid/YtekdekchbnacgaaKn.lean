/- Package keytree: Resolution. -/
import Derived.Test.YtekdekchbnacgaaKm
namespace Go.Proofs.Ytekdekchbnacgaa
open Go.RowKit
set_option maxRecDepth 100000
set_option linter.unusedVariables false
set_option linter.unusedSimpArgs false

/-- How high a node stands above the leaves. -/
def hgt (n : Nat) : Nat := 9 - n.log2
theorem hgt_ok {n : Nat} (h0 : 1 ≤ n) (h1 : n < 1024) : 512 ≤ n * 2 ^ hgt n ∧ n * 2 ^ hgt n < 1024 := by
  have a : 2 ^ n.log2 ≤ n := Nat.log2_self_le (by omega)
  have b : n < 2 ^ (n.log2 + 1) := Nat.lt_log2_self
  have c : n.log2 ≤ 9 := by
    rcases Nat.lt_or_ge 9 n.log2 with h | h
    · have := Nat.pow_le_pow_right (n := 2) (by omega) (show 10 ≤ n.log2 from h)
      omega
    · exact h
  unfold hgt
  obtain ⟨l, hl⟩ : ∃ l, l = n.log2 := ⟨_, rfl⟩
  rw [← hl] at a b c ⊢
  have e1 : 2 ^ l * 2 ^ (9 - l) = 512 := by rw [← Nat.pow_add, Nat.add_sub_cancel' c]
  have e2 : 2 ^ (l + 1) * 2 ^ (9 - l) = 1024 := by rw [← Nat.pow_add, show l + 1 + (9 - l) = 10 by omega]
  refine ⟨?_, ?_⟩
  · rw [← e1]; exact Nat.mul_le_mul_right _ a
  · rw [← e2]; exact Nat.mul_lt_mul_of_pos_right b (Nat.two_pow_pos _)
theorem hgt_pow {n h : Nat} (h0 : 1 ≤ n) (h2 : n * 2 ^ h < 1024) : 2 ^ h ≤ 1000000 := by
  have : 1 * 2 ^ h ≤ n * 2 ^ h := Nat.mul_le_mul_right _ h0
  omega

/-- What Resolution answers. -/
noncomputable def resE (t : List (Int × Int)) (x : Int) : Int := if chkT t = 0 then (if x < 1 ∨ 1023 < x then 200 else 0) else chkT t
noncomputable def resV (t : List (Int × Int)) (x : Int) : List Int := if resE t x = 0 then resL (ofF t) (hgt x.toNat) x.toNat else []
theorem chkT_cases (t : List (Int × Int)) : chkT t = 0 ∨ chkT t = 210 := by
  by_cases h : BadT t
  · right; unfold chkT; rw [if_pos h]
  · left; unfold chkT; rw [if_neg h]

theorem own_low {w : World} {B B' : Nat} {e : TypeId} {size : Nat} {v : Value} {n : Nat} {xs : List Value} (h : w.ownsRow B e size v n xs) (hB : B' ≤ B) : w.ownsRow B' e size v n xs := by
  refine ⟨h.1, ?_⟩
  rcases h.2 with hn | ⟨g, cap, cur, hv, hb, rest⟩
  · exact .inl hn
  · exact .inr ⟨g, cap, cur, hv, Nat.le_trans hB hb, rest⟩
theorem ret_eq2 {u : Value} {x y : Int} (h : x = y) : Ending.returned (.tuple #[u, .int .i64 y]) = .returned (.tuple #[u, .int .i64 x]) := by rw [h]
set_option maxHeartbeats 1000000 in
theorem resolution_ok (t : List (Int × Int)) (v : Value) (x : Int) (w : World) (ht : NodesAt w v t) (hl : t.length ≤ 1000000) :
    Calls Try.prog 12 #[.agg #[v], .int .i64 x] w fun e w' => ∃ u, e = .returned (.tuple #[u, .int .i64 (resE t x)]) ∧ w'.ownsRow w.heap.size 3 1 u (resV t x).length ((resV t x).map (Value.int .i64)) ∧ Below w.heap.size w w' := by
  have hb1 : Below w.heap.size w (w.alloc (.cells #[v] 24)) := (Below.refl _ w).alloc (Nat.le_refl _) _
  have HCK := Lib.hid (check_ok t v (w.alloc (.cells #[v] 24)) (ht.below hb1) hl)
  have HT := Lib.hid (ht.below hb1)
  have HL := Lib.hid hl
  obtain ⟨W0, hW0⟩ : ∃ W0, W0 = w.alloc (.cells #[v] 24) := ⟨_, rfl⟩
  have cb : W0.cell? ⟨w.heap.size, 0, none⟩ = some v := by rw [hW0]; unfold World.cell?; rw [World.alloc_heap_new]; rfl
  have hW0s : W0.heap.size = w.heap.size + 1 := by rw [hW0]; simp
  obtain ⟨E, hE⟩ : ∃ E, E = resE t x := ⟨_, rfl⟩
  obtain ⟨V, hV⟩ : ∃ V, V = resV t x := ⟨_, rfl⟩
  have HE := Lib.hid hE
  have HV := Lib.hid hV
  rw [← hE, ← hV]
  obtain ⟨ck, hck⟩ : ∃ ck, ck = chkT t := ⟨_, rfl⟩
  have HC := Lib.hid hck
  rw [← hW0, ← hck] at HCK
  rw [← hW0] at HT hb1
  clear ht hl hE hV hck
  go_enter Try.func12, Try.ntmps12
  go_wp2_with fail
  rw [← hW0]
  clear hW0
  refine HCK.out.mono ?_
  rintro e w1 ⟨rfl, hB1⟩
  have cb1 := cellOld cb (hB1.block _ (by show w.heap.size < _; omega))
  have HB1 := Lib.hid (hb1.trans (hB1.mono hb1.size))
  have HT1 := Lib.hid (HT.out.below hB1)
  clear hB1 hb1 HCK HT cb hW0s
  by_cases h0 : ck = 0
  · subst h0
    by_cases h1 : x < 1
    · have hd1 : decide (x < 1) = true := by simp; omega
      have HE2 : Hid (E = 200) := Lib.hid (by rw [HE.out]; unfold resE; rw [if_pos HC.out.symm, if_pos (.inl h1)])
      have HV2 : Hid (V = []) := Lib.hid (by rw [HV.out]; unfold resV; rw [if_neg (by rw [← HE.out, HE2.out]; decide)])
      go_wp2_with fail
      go_ret2
      exact ⟨.slice none 0 0, ret_eq2 HE2.out, by rw [HV2.out]; exact World.ownsRow_nil _ _ _ _, HB1.out⟩
    · have hd1 : decide (x < 1) = false := by simp; omega
      by_cases h2 : 1023 < x
      · have hd2 : decide (1023 < x) = true := by simp; omega
        have HE2 : Hid (E = 200) := Lib.hid (by rw [HE.out]; unfold resE; rw [if_pos HC.out.symm, if_pos (.inr h2)])
        have HV2 : Hid (V = []) := Lib.hid (by rw [HV.out]; unfold resV; rw [if_neg (by rw [← HE.out, HE2.out]; decide)])
        go_wp2_with fail
        go_ret2
        exact ⟨.slice none 0 0, ret_eq2 HE2.out, by rw [HV2.out]; exact World.ownsRow_nil _ _ _ _, HB1.out⟩
      · have hd2 : decide (1023 < x) = false := by simp; omega
        have HE2 : Hid (E = 0) := Lib.hid (by rw [HE.out]; unfold resE; rw [if_pos HC.out.symm, if_neg (by omega)])
        have HV2 : Hid (V = resL (ofF t) (hgt x.toNat) x.toNat) := Lib.hid (by rw [HV.out]; unfold resV; rw [if_pos (by rw [← HE.out, HE2.out])])
        obtain ⟨n, hn⟩ : ∃ n, n = x.toNat := ⟨_, rfl⟩
        have HX : Hid (x = (n : Int)) := Lib.hid (by omega)
        have HN : Hid (1 ≤ n ∧ n < 1024) := Lib.hid (by omega)
        rw [← hn] at HV2
        clear hn
        go_wp2_with fail
        refine (of_ok t v w1 HT1.out HL.out).mono ?_
        rintro e w2 ⟨b, rfl, hbl, hM, hB2⟩
        have HM := Lib.hid hM
        have HB2 := Lib.hid (HB1.out.trans (hB2.mono HB1.out.size))
        have hbs : b < w2.heap.size := hM.lt
        clear hbl hM hB2
        go_wp2_with fail
        refine (resolution_any (some b) x w2).mono ?_
        rintro e w3 ⟨rfl, rfl⟩
        have hs3 : w2.heap.size + 2 = ((w2.alloc (.cells #[.map (some b)] 59)).alloc (.cells #[.int .i64 x] 3)).heap.size := by simp
        have HB3 := Lib.hid ((HB2.out.alloc HB2.out.size (.cells #[.map (some b)] 59)).alloc (by have := HB2.out.size; simp; omega) (.cells #[.int .i64 x] 3))
        have hbm : Boxed ((w2.alloc (.cells #[.map (some b)] 59)).alloc (.cells #[.int .i64 x] 3)) w2.heap.size 59 (.map (some b)) := (Below.heap_alloc _ _ _ (by simp)).trans (World.alloc_heap_new w2 _)
        have hbn : Boxed ((w2.alloc (.cells #[.map (some b)] 59)).alloc (.cells #[.int .i64 x] 3)) (w2.heap.size + 1) 3 (.int .i64 (n : Int)) := by
          have h := World.alloc_heap_new (w2.alloc (.cells #[.map (some b)] 59)) (.cells #[.int .i64 x] 3)
          rw [World.size_alloc] at h
          rw [← HX.out]
          exact h
        have HIT := Lib.hid (res_all (ofF t) b t.length (hgt n) n (hgt_ok HN.out.1 HN.out.2).1 (hgt_ok HN.out.1 HN.out.2).2 w2.heap.size (w2.heap.size + 1) w2.heap.size _ ((HM.out.alloc _).alloc _) hbs hbm hbn (by rw [← hs3]; omega))
        obtain ⟨w3, hw3⟩ : ∃ w3, w3 = (w2.alloc (.cells #[.map (some b)] 59)).alloc (.cells #[.int .i64 x] 3) := ⟨_, rfl⟩
        rw [← hw3] at HIT HB3 hs3 ⊢
        clear hbm hbn hw3
        have HPW := Lib.hid (hgt_pow HN.out.1 (hgt_ok HN.out.1 HN.out.2).2)
        have hw2s : w.heap.size ≤ w2.heap.size := HB2.out.size
        have HCO := Lib.hid (collect_ok (fun _ _ => rfl) HIT.out (by omega) (by rintro k (rfl | rfl) <;> omega) (fun ys h => Nat.le_trans (Nat.le_trans h.length_le (resL_length _ _ _)) HPW.out) w.heap.size (by omega) (by rintro k (rfl | rfl) <;> omega))
        clear HIT
        go_wp2_with fail
        refine HCO.out.mono ?_
        rintro e w4 ⟨u, xs, rfl, rfl, hrow, hB4⟩
        have HR := Lib.hid hrow
        have HB4 := Lib.hid (HB3.out.trans hB4)
        clear hrow hB4
        go_wp2_with fail
        go_ret2
        refine ⟨u, ret_eq2 HE2.out, ?_, HB4.out⟩
        rw [HV2.out]
        exact own_low HR.out (by omega)
  · have hd0 : decide (ck = 0) = false := by simp; omega
    have HE2 : Hid (E = ck) := Lib.hid (by rw [HE.out]; unfold resE; rw [if_neg (by rw [← HC.out]; exact h0)]; exact HC.out.symm)
    have HV2 : Hid (V = []) := Lib.hid (by rw [HV.out]; unfold resV; rw [if_neg (by rw [← HE.out, HE2.out]; exact h0)])
    go_wp2_with fail
    go_ret2
    exact ⟨.slice none 0 0, ret_eq2 HE2.out, by rw [HV2.out]; exact World.ownsRow_nil _ _ _ _, HB1.out⟩
end Go.Proofs.Ytekdekchbnacgaa
