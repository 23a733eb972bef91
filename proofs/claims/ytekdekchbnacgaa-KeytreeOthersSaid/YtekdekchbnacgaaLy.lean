/- The walk of KeytreeReaches. -/
import Derived.Test.YtekdekchbnacgaaLx
namespace Go.Proofs.Ytekdekchbnacgaa
open Go.RowKit Go.Maps
set_option maxRecDepth 100000
set_option linter.unusedVariables false
set_option linter.unusedSimpArgs false

theorem zero_int2 (w : World) : (zeroValue 3).run Try.prog w = .ok (.int .i64 0) w := by kernel_rfl
/-- The count in the interval from a up to k. -/
def cntR (c : Int → Nat) (a k : Int) (z : Int) : Nat := c z + if a ≤ z ∧ z < k then 1 else 0
theorem cntR_zero (c : Int → Nat) (a : Int) : cntR c a a = c := by funext z; unfold cntR; rw [if_neg (by omega)]; rfl
theorem cntR_succ (c : Int → Nat) {a k : Int} (h : a ≤ k) : (fun z => cntR c a k z + if z = k then 1 else 0) = cntR c a (k + 1) := by
  funext z
  unfold cntR
  by_cases h1 : z = k
  · rw [if_pos h1, if_neg (by omega), if_pos (by omega)]
  · rw [if_neg h1]
    by_cases h2 : a ≤ z ∧ z < k
    · rw [if_pos h2, if_pos (by omega)]
    · rw [if_neg h2, if_neg (by omega)]
theorem cntI_snoc {l : List Int} {i : Nat} {m : Int} (h : l.take (i + 1) = l.take i ++ [m]) : cntR (cntI (l.take i)) (froN m.toNat : Int) (toN m.toNat : Int) = cntI (l.take (i + 1)) := by
  funext z
  rw [h, cntI_append, cntI_one]
  rfl

theorem cntI_le (l : List Int) (z : Int) : cntI l z ≤ l.length := List.length_filter_le _ _

theorem under_b (n : Nat) (h0 : 1 ≤ n) (h1 : n < 1024) (w : World) :
    Calls Try.prog 32 #[.int .i64 n] w fun e w' => e = .returned (.tuple #[.int .i64 (froN n), .int .i64 (toN n), .int .i64 0]) ∧ Below w.heap.size w w' :=
  (under_ok n h0 h1 w).mono fun e w' h => ⟨h.1, by obtain ⟨q, rfl⟩ := h.2; exact ⟨rfl, rfl, rfl, Nat.le_refl _, fun _ _ => rfl⟩⟩

set_option maxHeartbeats 4000000 in
theorem reaches_walk (t : List (Int × Int)) (u : Value) (x : Int) (w : World) (ht : NodesAt w u t) (hl : t.length ≤ maxLen) (hx : I64 x) :
    Calls Try.prog 8 #[.agg #[u], .int .i64 x] w fun e w' => e = .returned (.bool true) ∧ Below w.heap.size w w' := by
  obtain ⟨B, hB⟩ : ∃ B, B = w.heap.size := ⟨_, rfl⟩
  obtain ⟨W0, hW0⟩ : ∃ W0, W0 = w.alloc (.cells #[u] 24) := ⟨_, rfl⟩
  have hb1 : Below w.heap.size w W0 := by rw [hW0]; exact below_alloc _ _
  have cb : W0.cell? ⟨B, 0, none⟩ = some u := by rw [hW0, hB]; unfold World.cell?; rw [World.alloc_heap_new]; rfl
  have HS := Lib.hid (sane_ok W0)
  have HT := Lib.hid ht
  have HX := Lib.hid hx
  obtain ⟨p, c, rfl⟩ := nodes_form ht
  obtain ⟨u, hu⟩ : ∃ u, u = Value.slice p t.length c := ⟨_, rfl⟩
  have hl2 := hl
  clear ht hl hx
  go_enter Try.func8, Try.ntmps8
  go_wp2_with fail
  rw [← hW0, ← hB]
  have HBW := Lib.hid hB
  clear hW0 hB
  refine HS.out.mono ?_
  rintro e w1 ⟨rfl, hB1⟩
  have cb1 := cellOld cb (hB1.block _ (cellLt cb))
  have HB1 := Lib.hid (below_trans hb1 hB1)
  have HF := Lib.hid (few_ok t (.slice p t.length c) w1 (HT.out.below HB1.out) hl2)
  clear hB1 hb1 cb HS
  by_cases hfew : t.length ≤ 80
  case neg =>
    rw [decide_eq_false hfew] at HF
    clear hfew hl2
    generalize t.length = n at *
    go_wp2_with fail
    refine HF.out.mono ?_
    rintro e w2 ⟨rfl, hB2⟩
    have HB2 := Lib.hid (below_trans HB1.out hB2)
    clear hB2 HF
    go_wp2_with fail
    go_ret
    exact ⟨rfl, HB2.out⟩
  rw [decide_eq_true hfew] at HF
  have HL : Hid (t.length ≤ 80) := Lib.hid hfew
  clear hl2 hfew
  rw [← hu] at HT HF cb1 ⊢
  clear hu
  generalize Value.agg #[Value.slice p t.length c] = arg0
  go_wp2_with fail
  refine HF.out.mono ?_
  rintro e w2 ⟨rfl, hB2⟩
  have cb2 := cellOld cb1 (hB2.block _ (cellLt cb1))
  have HB2 := Lib.hid (below_trans HB1.out hB2)
  clear hB2 cb1 HB1 HF
  obtain ⟨E, hE⟩ : ∃ E, E = resE t x := ⟨_, rfl⟩
  have HR1 := Lib.hid (resolution_ok t u x w2 (HT.out.below HB2.out) (by have := HL.out; omega))
  rw [← hE] at HR1
  go_wp2_with fail
  refine HR1.out.mono ?_
  rintro e w3 ⟨a, rfl, hra, hB3⟩
  have HA3 := Lib.hid (ints_of_row hra)
  obtain ⟨pa, ca, rfl, -⟩ := ints_form hra
  have cb3 := cellOld cb2 (hB3.block _ (cellLt cb2))
  have HB3 := Lib.hid (below_trans HB2.out hB3)
  have HE := Lib.hid hE
  clear hB3 cb2 HB2 HR1 hra hE
  by_cases hx1 : 1 ≤ x ∧ x < 1024
  case neg =>
    have HUN := Lib.hid (under_no x (by omega))
    have hx2 : x < 1 ∨ 1023 < x := by omega
    have hV : resV t x = [] ∧ (chkT t = 0 → E = 200) ∧ (chkT t ≠ 0 → E = 210) := by
      have h1 : chkT t = 0 → resE t x = 200 := fun h => by unfold resE; rw [if_pos h, if_pos hx2]
      have h2 : chkT t ≠ 0 → resE t x = 210 := fun h => by
        unfold resE; rw [if_neg h]
        rcases chkT_cases t with h3 | h3
        · exact absurd h3 h
        · exact h3
      refine ⟨?_, fun h => HE.out.trans (h1 h), fun h => HE.out.trans (h2 h)⟩
      unfold resV
      rw [if_neg]
      by_cases h : chkT t = 0
      · rw [h1 h]; decide
      · rw [h2 h]; decide
    rw [hV.1]
    have HCK := Lib.hid (check_ok t u w3 (HT.out.below HB3.out) (by have := HL.out; omega))
    by_cases hc : chkT t = 0
    · obtain rfl := hV.2.1 hc
      clear hc hV HCK hx1 hx2
      go_wp2_with fail
      refine (HUN.out _).mono ?_
      rintro e w4 ⟨rfl, hw⟩
      rw [← hw]
      clear hw w4 HUN
      go_wp2_with fail
      go_ret
      exact ⟨rfl, HB3.out⟩
    · obtain rfl := hV.2.2 hc
      have hc2 : chkT t = 210 := (chkT_cases t).resolve_left hc
      rw [hc2] at HCK
      clear hc hc2 hV hx1 hx2
      go_wp2_with fail
      refine (HUN.out _).mono ?_
      rintro e w4 ⟨rfl, hw⟩
      rw [← hw]
      clear hw w4 HUN
      go_wp2_with fail
      refine HCK.out.mono ?_
      rintro e w4 ⟨rfl, hB4⟩
      have HB4 := Lib.hid (below_trans HB3.out hB4)
      clear hB4 HCK
      go_wp2_with fail
      go_ret
      exact ⟨rfl, HB4.out⟩
  obtain ⟨xn, rfl⟩ := Int.eq_ofNat_of_zero_le (show 0 ≤ x by omega)
  have hn0 : 1 ≤ xn := by omega
  have hn1 : xn < 1024 := by omega
  have HUN := Lib.hid (under_b xn hn0 hn1)
  by_cases hc : chkT t = 0
  case neg =>
    have hE : E = 210 := by
      rw [HE.out]; unfold resE; rw [if_neg hc]; exact (chkT_cases t).resolve_left hc
    have hV : resV t (xn : Int) = [] := by unfold resV; rw [if_neg (by rw [← HE.out, hE]; decide)]
    rw [hV]
    subst hE
    have HC2 : Hid (chkT t = 210) := Lib.hid ((chkT_cases t).resolve_left hc)
    clear hc hV hx1 hn0 hn1
    generalize (froN xn : Nat) = F at *
    generalize (toN xn : Nat) = T at *
    go_wp2_with fail
    refine (HUN.out _).mono ?_
    rintro e w4 ⟨rfl, hB4⟩
    have cb4 := cellOld cb3 (hB4.block _ (cellLt cb3))
    have HB4 := Lib.hid (below_trans HB3.out hB4)
    have HCK := Lib.hid (check_ok t u w4 (HT.out.below HB4.out) (by have := HL.out; omega))
    rw [HC2.out] at HCK
    clear hB4 HUN cb3 HB3
    go_wp2_with fail
    refine HCK.out.mono ?_
    rintro e w5 ⟨rfl, hB5⟩
    have HB5 := Lib.hid (below_trans HB4.out hB5)
    clear hB5 HCK
    go_wp2_with fail
    go_ret
    exact ⟨rfl, HB5.out⟩
  obtain ⟨hE, -⟩ := resV_at hc hn0 hn1
  obtain rfl : E = 0 := HE.out.trans hE
  have HOK := Lib.hid (resV_ok hc hn0 hn1)
  have HCNT : Hid (∀ z : Nat, (ofF t (512 + (z : Int))).isSome = true → cntI (resV t (xn : Int)) z = if froN xn ≤ z ∧ z < toN xn then 1 else 0) := Lib.hid (fun z hz => resV_cnt hc hn0 hn1 hz)
  have HG := Lib.hid (chk_good hc)
  have HIS : Hid (∀ m ∈ resV t (xn : Int), (ofF t m).isSome = true) := Lib.hid (fun m hm => resV_isSome hm)
  have hft : froN xn ≤ toN xn ∧ toN xn ≤ 512 := by
    obtain ⟨u1, u2, u3⟩ := under_bd xn hn0 hn1
    have u4 : xn * 2 ^ levN xn ≤ (xn + 1) * 2 ^ levN xn := Nat.mul_le_mul_right _ (by omega)
    unfold froN toN
    omega
  obtain ⟨l, hl⟩ : ∃ l, l = resV t (xn : Int) := ⟨_, rfl⟩
  rw [← hl] at HOK HCNT HIS HA3 ⊢
  have hll : l.length ≤ 1000000 := by rw [hl]; exact resV_length t _
  clear hl hc hE
  obtain ⟨F, hF⟩ : ∃ F, F = froN xn := ⟨_, rfl⟩
  obtain ⟨T, hT⟩ : ∃ T, T = toN xn := ⟨_, rfl⟩
  rw [← hF, ← hT] at HUN HOK HCNT hft
  clear hF hT hn0 hn1 hx1
  obtain ⟨nl, hnl⟩ : ∃ n, n = l.length := ⟨_, rfl⟩
  have HNL := Lib.hid hnl
  obtain ⟨-, hgl⟩ := row_ints HA3.out rfl
  have HCL := Lib.hid hgl
  rw [← hnl] at hll ⊢
  clear hgl hnl
  have hmm := @run_makeMap Try.prog
  go_wp2_with fail
  refine (HUN.out _).mono ?_
  rintro e w4 ⟨rfl, hB4⟩
  have cb4 := cellOld cb3 (hB4.block _ (cellLt cb3))
  have HB4 := Lib.hid (below_trans HB3.out hB4)
  have HA4 := Lib.hid (ints_below HA3.out hB4)
  obtain ⟨-, hgl⟩ := row_ints HA4.out rfl
  have HCL := Lib.hid hgl
  clear hB4 cb3 HB3 HA3 HUN hgl
  obtain ⟨bm, hbm⟩ : ∃ b, b = w4.heap.size := ⟨_, rfl⟩
  have HM0 : Hid (KMap (intK Try.underlying3) 3 (w4.alloc (.map #[] 0)) bm 0 (cF (cntI (l.take 0)))) := Lib.hid (by
    rw [hbm]
    have h : cntI (l.take 0) = fun _ => 0 := by funext z; simp [cntI]
    rw [h, cF_zero]
    exact KMap.made _ _ _)
  have HBm0 : Hid (Below bm w4 (w4.alloc (.map #[] 0))) := Lib.hid (by rw [hbm]; exact (Below.refl _ w4).alloc (Nat.le_refl _) _)
  have hsm : bm < (w4.alloc (.map #[] 0)).heap.size := by rw [hbm]; simp
  have HBM := Lib.hid hbm
  go_upto_region 13 with fail
  rw [← hbm]
  clear hmm hbm
  obtain ⟨W5, hW5⟩ : ∃ W, W = w4.alloc (.map #[] 0) := ⟨_, rfl⟩
  rw [← hW5] at HM0 HBm0 hsm ⊢
  clear hW5
  go_wp2_with fail
  go_loopw [10, 68] (fun en i wr => ∃ (j : Nat) (ev : Nat), i = .int .i64 j ∧ en = .int .i64 ev ∧ j ≤ nl ∧ ev ≤ 512 ∧ Hid (∀ m ∈ l.drop j, ev ≤ froN m.toNat) ∧ Hid (KMap (intK Try.underlying3) 3 wr bm (j * 512) (cF (cntI (l.take j)))) ∧ Hid (Below bm w4 wr) ∧ bm < wr.heap.size) (fun _ i _ => nl - (intOf i).toNat)
  case atStart => exact ⟨0, 0, rfl, rfl, Nat.zero_le _, by omega, Lib.hid (fun m hm => Nat.zero_le _), HM0, HBm0, hsm⟩
  case round =>
    obtain ⟨j, ev, rfl, rfl, hj, hev, HEV, HM, HB, hsz⟩ := hrel
    by_cases hjn : j < nl
    · have hd1 : decide ((j : Int) < (nl : Int)) = true := by simp; omega
      have hd1' : decide (j < nl) = true := by simp; omega
      obtain ⟨g, o, rfl, hcs⟩ := HCL.out (by rw [← HNL.out]; omega)
      have hjl : j < l.length := by rw [← HNL.out]; exact hjn
      have hcm := hcs j hjl
      have hgm : l.getD j 0 = l[j] := by simp [List.getD, hjl]
      have hTm : l.take (j + 1) = l.take j ++ [l[j]] := List.take_succ_eq_append_getElem hjl
      have hDm : l.drop j = l[j] :: l.drop (j + 1) := List.drop_eq_getElem_cons hjl
      rw [hgm] at hcm
      have hmem : l[j] ∈ l := List.getElem_mem hjl
      obtain ⟨m, hm⟩ : ∃ m, m = l[j] := ⟨_, rfl⟩
      rw [← hm] at hcm hTm hDm hmem
      obtain ⟨k, rfl, k1, k2, k3, k4⟩ := HOK.out.2 m hmem
      have hek : ev ≤ froN k := by
        have := HEV.out (k : Int) (by rw [hDm]; exact List.mem_cons_self ..)
        simpa using this
      have HNX : Hid (∀ m ∈ l.drop (j + 1), toN k ≤ froN m.toNat) := Lib.hid (fun m hm => by
        have hp := HOK.out.1.sublist (List.drop_sublist j l)
        rw [hDm] at hp
        have := (List.pairwise_cons.1 hp).1 m hm
        simpa using this)
      have hfk : froN k < toN k := by
        obtain ⟨u1, u2, u3⟩ := under_bd k k1 k2
        have u4 : (k + 1) * 2 ^ levN k = k * 2 ^ levN k + 2 ^ levN k := by rw [Nat.add_mul, Nat.one_mul]
        have hp : 0 < 2 ^ levN k := Nat.two_pow_pos _
        unfold froN toN
        omega
      have HCC : Hid (cntR (cntI (l.take j)) (froN k : Int) (toN k : Int) = cntI (l.take (j + 1))) := Lib.hid (by
        have := cntI_snoc hTm
        simpa using this)
      have HIS2 : Hid ((ofF t (k : Int)).isSome = true) := Lib.hid (HIS.out (k : Int) hmem)
      have HIK : Hid (I64 (k : Int)) := Lib.hid (I64.of (by omega))
      have cm := cellOld hcm (HB.out.block g (by rw [HBM.out]; exact cellLt hcm))
      have HUK := Lib.hid (under_b k k1 k2)
      have HBr : Hid (Below w.heap.size w wr) := Lib.hid (HB4.out.trans (HB.out.mono (by rw [HBM.out]; exact HB4.out.size)))
      have cbr := cellOld cb4 (HB.out.block B (by rw [HBM.out]; exact cellLt cb4))
      clear hcs hcm hgm hTm hDm hmem hm hjl
      obtain ⟨fk, hfk0⟩ : ∃ f, f = froN k := ⟨_, rfl⟩
      obtain ⟨tk, htk0⟩ : ∃ f, f = toN k := ⟨_, rfl⟩
      rw [← hfk0, ← htk0] at HUK HCC
      rw [← hfk0] at k3 hek hfk
      rw [← htk0] at k4 hfk HNX
      clear hfk0 htk0
      go_wp2_with fail
      refine (HUK.out _).mono ?_
      rintro e w6 ⟨rfl, hA⟩
      have HB6 := Lib.hid (HB.out.trans (hA.mono (by omega)))
      have HM6 := Lib.hid (HM.out.below hA HM.out.lt)
      have cb6 := cellOld cbr (hA.block _ (cellLt cbr))
      have HBw6 := Lib.hid (below_trans HBr.out hA)
      have hs6 := hA.size
      have HPU := Lib.hid (public_ok t u (k : Int) w6 (HT.out.below HBw6.out) (by have := HL.out; omega) HIK.out)
      rw [HIS2.out] at HPU
      clear hA cbr HB HM HBr cm HUK
      go_wp2_with fail
      refine HPU.out.mono ?_
      rintro e w7 ⟨rfl, hA⟩
      have HB7 := Lib.hid (HB6.out.trans (hA.mono (by omega)))
      have HM7 := Lib.hid (HM6.out.below hA HM6.out.lt)
      have hs7 := hA.size
      clear hA cb6 HB6 HM6 HBw6 HPU
      have c1 : decide ((fk : Int) < (ev : Int)) = false := by simp; omega
      have c2 : decide ((fk : Int) < (F : Int)) = false := by simp; omega
      have c3 : decide ((T : Int) < (tk : Int)) = false := by simp; omega
      have c4 : decide ((512 : Int) < (tk : Int) - (fk : Int)) = false := by simp; omega
      have c1' : decide (fk < ev) = false := by simp; omega
      have c2' : decide (fk < F) = false := by simp; omega
      have c3' : decide (T < tk) = false := by simp; omega
      have htk : tk ≤ 512 := by omega
      by_cases hj0 : 0 < j
      · have c0 : decide ((0 : Int) < (j : Int)) = true := by simp; omega
        have c0' : decide (0 < j) = true := by simp; omega
        go_wp2_with fail
        go_loopw [19] (fun i wr' => ∃ z : Nat, i = .int .i64 z ∧ fk ≤ z ∧ z ≤ tk ∧ Hid (KMap (intK Try.underlying3) 3 wr' bm (j * 512 + (z - fk)) (cF (cntR (cntI (l.take j)) (fk : Int) (z : Int)))) ∧ Hid (Below bm w4 wr') ∧ bm < wr'.heap.size) (fun i _ => tk - (intOf i).toNat)
        case atStart => exact ⟨fk, rfl, Nat.le_refl _, by omega, by rw [cntR_zero, Nat.sub_self, Nat.add_zero]; exact HM7, HB7, by omega⟩
        case round =>
          obtain ⟨z, rfl, hz0, hz1, HMz, HBz, hszz⟩ := hrel
          by_cases hzt : z < tk
          · have e1 : decide ((z : Int) < (tk : Int)) = true := by simp; omega
            have e1' : decide (z < tk) = true := by simp; omega
            obtain ⟨cv, hcv⟩ : ∃ c, c = cntR (cntI (l.take j)) (fk : Int) (z : Int) (z : Int) := ⟨_, rfl⟩
            have hget : (cF (cntR (cntI (l.take j)) (fk : Int) (z : Int)) (z : Int)).getD 0 = (cv : Int) := by rw [cF_get, hcv]
            have hcb : cv ≤ 1000001 := by
              have h1 := cntI_le (l.take j) (z : Int)
              have h2 : (l.take j).length ≤ 1000000 := by rw [List.length_take]; exact Nat.le_trans (Nat.min_le_right _ _) (by rw [← HNL.out]; exact hll)
              rw [hcv]; unfold cntR
              split <;> omega
            have HPT : Hid ((fun y => if y = (z : Int) then some ((cv : Int) + 1) else cF (cntR (cntI (l.take j)) (fk : Int) (z : Int)) y) = cF (cntR (cntI (l.take j)) (fk : Int) ((z + 1 : Nat) : Int))) := Lib.hid (by
              rw [hcv, cF_put, cntR_succ _ (by omega)]; rfl)
            have HIZ : Hid (I64 (z : Int)) := Lib.hid (I64.of (by omega))
            have HIC : Hid (I64 ((cv : Int) + 1)) := Lib.hid (I64.of (by omega))
            clear hcv
            go_wp2_with (first
              | (at_lookup; refine wpList_look (he := Try.underlying3) rfl _ _ 54 rfl Try.underlying3 Try.underlying54 (zero_int2 _) bm _ _ rfl HMz.out (z : Int) rfl HIZ.out ?_; rw [hget])
              | (at_mapUpdate; refine wpList_put (E := intK Try.underlying3) rfl _ _ _ 54 rfl Try.underlying3 Try.underlying54 bm _ _ rfl HMz.out (by unfold maxLen; omega) (z : Int) rfl HIZ.out ((cv : Int) + 1) rfl HIC.out ?_; intro w8 hm8 ht8))
            have HM8 := Lib.hid (KMap.congr (hm8.mono (n' := j * 512 + (z + 1 - fk)) (by omega)) (g := cF (cntR (cntI (l.take j)) (fk : Int) ((z + 1 : Nat) : Int))) (fun y _ => congrFun HPT.out y))
            have hs8 := ht8.grown.size
            exact ⟨⟨z + 1, by go_num, by omega, by omega, HM8, Lib.hid (HBz.out.grown ht8.grown (by omega) (fun j e => by cases e; exact Nat.le_refl _)), by omega⟩, by simp only [intOf]; omega⟩
          · have e1 : decide ((z : Int) < (tk : Int)) = false := by simp; omega
            have e1' : decide (z < tk) = false := by simp; omega
            have hzt2 : z = tk := by omega
            have HMn : Hid (KMap (intK Try.underlying3) 3 wr bm ((j + 1) * 512) (cF (cntI (l.take (j + 1))))) := Lib.hid (by
              have h := HMz.out
              rw [hzt2, HCC.out] at h
              exact h.mono (by omega))
            go_wp2_with fail
            exact ⟨⟨j + 1, tk, by go_num, rfl, by omega, by omega, HNX, HMn, HBz, hszz⟩, by simp only [intOf]; omega⟩
      · have c0 : decide ((0 : Int) < (j : Int)) = false := by simp; omega
        have c0' : decide (0 < j) = false := by simp; omega
        go_wp2_with fail
        go_loopw [19] (fun i wr' => ∃ z : Nat, i = .int .i64 z ∧ fk ≤ z ∧ z ≤ tk ∧ Hid (KMap (intK Try.underlying3) 3 wr' bm (j * 512 + (z - fk)) (cF (cntR (cntI (l.take j)) (fk : Int) (z : Int)))) ∧ Hid (Below bm w4 wr') ∧ bm < wr'.heap.size) (fun i _ => tk - (intOf i).toNat)
        case atStart => exact ⟨fk, rfl, Nat.le_refl _, by omega, by rw [cntR_zero, Nat.sub_self, Nat.add_zero]; exact HM7, HB7, by omega⟩
        case round =>
          obtain ⟨z, rfl, hz0, hz1, HMz, HBz, hszz⟩ := hrel
          by_cases hzt : z < tk
          · have e1 : decide ((z : Int) < (tk : Int)) = true := by simp; omega
            have e1' : decide (z < tk) = true := by simp; omega
            obtain ⟨cv, hcv⟩ : ∃ c, c = cntR (cntI (l.take j)) (fk : Int) (z : Int) (z : Int) := ⟨_, rfl⟩
            have hget : (cF (cntR (cntI (l.take j)) (fk : Int) (z : Int)) (z : Int)).getD 0 = (cv : Int) := by rw [cF_get, hcv]
            have hcb : cv ≤ 1000001 := by
              have h1 := cntI_le (l.take j) (z : Int)
              have h2 : (l.take j).length ≤ 1000000 := by rw [List.length_take]; exact Nat.le_trans (Nat.min_le_right _ _) (by rw [← HNL.out]; exact hll)
              rw [hcv]; unfold cntR
              split <;> omega
            have HPT : Hid ((fun y => if y = (z : Int) then some ((cv : Int) + 1) else cF (cntR (cntI (l.take j)) (fk : Int) (z : Int)) y) = cF (cntR (cntI (l.take j)) (fk : Int) ((z + 1 : Nat) : Int))) := Lib.hid (by
              rw [hcv, cF_put, cntR_succ _ (by omega)]; rfl)
            have HIZ : Hid (I64 (z : Int)) := Lib.hid (I64.of (by omega))
            have HIC : Hid (I64 ((cv : Int) + 1)) := Lib.hid (I64.of (by omega))
            clear hcv
            go_wp2_with (first
              | (at_lookup; refine wpList_look (he := Try.underlying3) rfl _ _ 54 rfl Try.underlying3 Try.underlying54 (zero_int2 _) bm _ _ rfl HMz.out (z : Int) rfl HIZ.out ?_; rw [hget])
              | (at_mapUpdate; refine wpList_put (E := intK Try.underlying3) rfl _ _ _ 54 rfl Try.underlying3 Try.underlying54 bm _ _ rfl HMz.out (by unfold maxLen; omega) (z : Int) rfl HIZ.out ((cv : Int) + 1) rfl HIC.out ?_; intro w8 hm8 ht8))
            have HM8 := Lib.hid (KMap.congr (hm8.mono (n' := j * 512 + (z + 1 - fk)) (by omega)) (g := cF (cntR (cntI (l.take j)) (fk : Int) ((z + 1 : Nat) : Int))) (fun y _ => congrFun HPT.out y))
            have hs8 := ht8.grown.size
            exact ⟨⟨z + 1, by go_num, by omega, by omega, HM8, Lib.hid (HBz.out.grown ht8.grown (by omega) (fun j e => by cases e; exact Nat.le_refl _)), by omega⟩, by simp only [intOf]; omega⟩
          · have e1 : decide ((z : Int) < (tk : Int)) = false := by simp; omega
            have e1' : decide (z < tk) = false := by simp; omega
            have hzt2 : z = tk := by omega
            have HMn : Hid (KMap (intK Try.underlying3) 3 wr bm ((j + 1) * 512) (cF (cntI (l.take (j + 1))))) := Lib.hid (by
              have h := HMz.out
              rw [hzt2, HCC.out] at h
              exact h.mono (by omega))
            go_wp2_with fail
            exact ⟨⟨j + 1, tk, by go_num, rfl, by omega, by omega, HNX, HMn, HBz, hszz⟩, by simp only [intOf]; omega⟩
    · have hd1 : decide ((j : Int) < (nl : Int)) = false := by simp; omega
      have hd1' : decide (j < nl) = false := by simp; omega
      have hjl : l.take j = l := by rw [show j = nl by omega, HNL.out, List.take_length]
      rw [hjl] at HM
      have HBr : Hid (Below w.heap.size w wr) := Lib.hid (HB4.out.trans (HB.out.mono (by rw [HBM.out]; exact HB4.out.size)))
      have cbr := cellOld cb4 (HB.out.block B (by rw [HBM.out]; exact cellLt cb4))
      have HMB := Lib.hid (members_ok t u wr (HT.out.below HBr.out) (by have := HL.out; omega))
      have HMI := Lib.hid (fun d (h : d ∈ memZ t) => (mem_iff t d).1 h)
      have HML := Lib.hid (memZ_length t)
      clear hjl
      go_wp2_with fail
      refine HMB.out.mono ?_
      rintro e w9 ⟨um, rfl, hrm, hA⟩
      have HIM := Lib.hid (ints_of_row hrm)
      obtain ⟨pm, cm, rfl, -⟩ := ints_form hrm
      have HB9 := Lib.hid (below_trans HBr.out hA)
      have HM9 := Lib.hid (HM.out.below hA HM.out.lt)
      obtain ⟨M, hM⟩ : ∃ M, M = memZ t := ⟨_, rfl⟩
      rw [← hM] at HIM HMI HML ⊢
      obtain ⟨nm, hnm⟩ : ∃ nm, nm = M.length := ⟨_, rfl⟩
      have HNM := Lib.hid hnm
      obtain ⟨-, hgm⟩ := row_ints HIM.out rfl
      have HGM := Lib.hid hgm
      have hnm2 : nm ≤ 512 := by rw [hnm]; exact HML.out
      rw [← hnm]
      clear hrm hA HMB hM hnm hgm HM HB HBr cbr
      go_wp2_with fail
      go_loopw [131] (fun i wr => ∃ q : Nat, i = .int .i64 q ∧ q ≤ nm ∧ wr = w9) (fun i _ => nm - (intOf i).toNat)
      case atStart => exact ⟨0, rfl, Nat.zero_le _, rfl⟩
      case round =>
        obtain ⟨q, rfl, hq, hwr⟩ := hrel
        rw [hwr]
        clear hwr
        by_cases hqn : q < nm
        · have hd2 : decide ((q : Int) < (nm : Int)) = true := by simp; omega
          have hd2' : decide (q < nm) = true := by simp; omega
          obtain ⟨g, o, rfl, hcs⟩ := HGM.out (by rw [← HNM.out]; omega)
          have hql : q < M.length := by rw [← HNM.out]; exact hqn
          have cd := hcs q hql
          obtain ⟨d, hd⟩ : ∃ d, d = M.getD q 0 := ⟨_, rfl⟩
          rw [← hd] at cd
          have hdM : d ∈ M := by rw [hd]; simp only [List.getD]; rw [List.getElem?_eq_getElem hql]; simp
          obtain ⟨d0, d1, d2⟩ := HMI.out d hdM
          obtain ⟨dn, rfl⟩ := Int.eq_ofNat_of_zero_le d0
          have hcn := HCNT.out dn d2
          have HID : Hid (I64 (dn : Int)) := Lib.hid (I64.of (by omega))
          clear hcs hql hd hdM d2
          by_cases hr : F ≤ dn ∧ dn < T
          · have hget : (cF (cntI l) (dn : Int)).getD 0 = 1 := by rw [cF_get, hcn, if_pos hr]; rfl
            have c1 : decide ((F : Int) ≤ (dn : Int)) = true := by simp; omega
            have c2 : decide ((dn : Int) < (T : Int)) = true := by simp; omega
            have c1' : decide (F ≤ dn) = true := by simp; omega
            have c2' : decide (dn < T) = true := by simp; omega
            clear hcn hr
            go_wp2_with (at_lookup; refine wpList_look (he := Try.underlying3) rfl _ _ 54 rfl Try.underlying3 Try.underlying54 (zero_int2 _) bm _ _ rfl HM9.out (dn : Int) rfl HID.out ?_; rw [hget])
            exact ⟨⟨q + 1, by go_num, by omega, by trivial⟩, by simp only [intOf]; omega⟩
          · have hget : (cF (cntI l) (dn : Int)).getD 0 = 0 := by rw [cF_get, hcn, if_neg hr]; rfl
            clear hcn
            by_cases hr1 : F ≤ dn
            · have c1 : decide ((F : Int) ≤ (dn : Int)) = true := by simp; omega
              have c2 : decide ((dn : Int) < (T : Int)) = false := by simp; omega
              have c1' : decide (F ≤ dn) = true := by simp; omega
              have c2' : decide (dn < T) = false := by simp; omega
              clear hr hr1
              go_wp2_with (at_lookup; refine wpList_look (he := Try.underlying3) rfl _ _ 54 rfl Try.underlying3 Try.underlying54 (zero_int2 _) bm _ _ rfl HM9.out (dn : Int) rfl HID.out ?_; rw [hget])
              exact ⟨⟨q + 1, by go_num, by omega, by trivial⟩, by simp only [intOf]; omega⟩
            · have c1 : decide ((F : Int) ≤ (dn : Int)) = false := by simp; omega
              have c1' : decide (F ≤ dn) = false := by simp; omega
              clear hr hr1
              go_wp2_with (at_lookup; refine wpList_look (he := Try.underlying3) rfl _ _ 54 rfl Try.underlying3 Try.underlying54 (zero_int2 _) bm _ _ rfl HM9.out (dn : Int) rfl HID.out ?_; rw [hget])
              exact ⟨⟨q + 1, by go_num, by omega, by trivial⟩, by simp only [intOf]; omega⟩
        · have hd2 : decide ((q : Int) < (nm : Int)) = false := by simp; omega
          have hd2' : decide (q < nm) = false := by simp; omega
          go_wp2_with fail
          go_ret
          exact ⟨rfl, HB9.out⟩
theorem reaches_w {H : Type} {enc : TypeId × Value → H} {base : Nat} (v0 : Value) (d0 : DataW H) (p0 : List MemPlace) {W : World} (h0 : DataW.Trod enc Try.prog W 0 (fun _ => true) true 24 v0 d0 p0) (o0 : Value.okWide Try.prog W .any base 24 v0)
    (a1 : Int) (w1 : (Lit.int .i64 a1).wf = true) :
    Calls Try.prog 8 #[v0, .int .i64 a1] W fun e w' => e = .returned (.bool true) ∧ Below W.heap.size W w' := by
  obtain ⟨u, t, rfl, ht, hl⟩ := treeIn h0 o0
  exact reaches_walk t u a1 W ht hl w1
end Go.Proofs.Ytekdekchbnacgaa
