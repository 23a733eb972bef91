/- The walk of KeytreeRemoved. -/
import Derived.Test.YtekdekchbnacgaaLt
import Derived.Test.YtekdekchbnacgaaLs
namespace Go.Proofs.Ytekdekchbnacgaa
open Go.RowKit Go.Maps
set_option maxRecDepth 100000
set_option linter.unusedVariables false
set_option linter.unusedSimpArgs false

section
variable {P : Program} {k e : TypeId} {α : Type} {E : EKind P e α} {w : World} {ops : Array Oper} {rest : List Oper} {o : Oper} {a : Act} {Q : Exit → Act → World → Prop}
/-- An entry of a map's literal. -/
theorem wpList_insert (hg : o.guard = none) (m x v : Operand) (t : TypeId) (hop : o.op = Op.insert t m x v) (hk : P.underlying k = some (.int .i64)) (ht : P.underlying t = some (.map k e))
    (b n : Nat) (f : Int → Option α) (hm : a.eval m = .map (some b)) (h : KMap E k w b n f) (hn : n < maxLen) (z : Int) (hx : a.eval x = .int .i64 z) (hw : I64 z) (u : α) (hv : a.eval v = E.ev u) (hu : E.ok u)
    (hK : ∀ w', KMap E k w' b (n + 1) (fun y => if y = z then some u else f y) → w.mapTurned w' b → wpList P ops Q rest (a.put o.dst undef) w') : wpList P ops Q (o :: rest) a w := by
  refine wpList_plain hg fun K' hK' => ?_
  obtain ⟨w', hr, h1, h2⟩ := h.put hk ht hn hw hu
  unfold Oper.wp
  simp [execOp, hop, hm, hx, hv, hr, Result.andThen]
  exact hK' _ _ (hK w' h1 h2)
end
theorem row_ints {w : World} {v : Value} {l : List Int} (h : IntsAt w v l) {p : Option Addr} {n c : Nat} (hv : v = .slice p n c) : n = l.length ∧ (0 < n → ∃ g o, p = some ⟨g, o, none⟩ ∧ ∀ j, j < n → w.cell? ⟨g, o + j, none⟩ = some (.int .i64 (l.getD j 0))) := by
  obtain ⟨p', c', h1, h2, h3⟩ := h
  rw [hv] at h1
  injection h1 with e1 e2 e3
  subst e1; subst e2; subst e3
  exact ⟨rfl, h3⟩

theorem row_nodes {w : World} {v : Value} {t : List (Int × Int)} (h : NodesAt w v t) {p : Option Addr} {n c : Nat} (hv : v = .slice p n c) : n = t.length ∧ n ≤ c ∧ (0 < t.length → ∃ g o, p = some ⟨g, o, none⟩ ∧
    ∀ j, j < t.length → w.cell? ⟨g, o + j * 2, none⟩ = some (.int .i64 (t.getD j (0, 0)).1) ∧ w.cell? ⟨g, o + j * 2 + 1, none⟩ = some (.int .i64 (t.getD j (0, 0)).2)) ∧ ∀ x ∈ t, I64 x.1 ∧ I64 x.2 := by
  obtain ⟨p', c', h1, h2, -, h3, h4⟩ := h
  rw [hv] at h1
  injection h1 with e1 e2 e3
  subst e1; subst e2; subst e3
  exact ⟨rfl, h2, h3, h4⟩
theorem setF_und {d : Int} (h0 : 0 ≤ d) (h1 : d < 512) (a : Int) : (setF ((512 + d) :: pathZ d) a).getD false = undB (512 + d) a := by
  unfold setF
  by_cases h : a ∈ (512 + d) :: pathZ d
  · rw [if_pos h, undB_yes ((path_und d h0 h1 a).1 h)]; rfl
  · rw [if_neg h, undB_no (fun h' => h ((path_und d h0 h1 a).2 h'))]; rfl
theorem below_base {B : Nat} {w w1 w2 : World} (h : Below B w w1) (h2 : Below B w1 w2) : Below B w w2 := h.trans h2

set_option maxHeartbeats 4000000 in
theorem removed_walk (t : List (Int × Int)) (u : Value) (wh : Nat) (w : World) (ht : NodesAt w u t) (hl : t.length ≤ maxLen) (hw1 : wh ≤ 255) :
    Calls Try.prog 5 #[.agg #[u], .int .u8 wh] w fun e w' => e = .returned (.bool true) ∧ Below w.heap.size w w' := by
  obtain ⟨B, hB⟩ : ∃ B, B = w.heap.size := ⟨_, rfl⟩
  obtain ⟨W0, hW0⟩ : ∃ W0, W0 = w.alloc (.cells #[u] 24) := ⟨_, rfl⟩
  have hb1 : Below w.heap.size w W0 := by rw [hW0]; exact below_alloc _ _
  have cb : W0.cell? ⟨B, 0, none⟩ = some u := by rw [hW0, hB]; unfold World.cell?; rw [World.alloc_heap_new]; rfl
  have HS := Lib.hid (sane_ok W0)
  have HT := Lib.hid ht
  obtain ⟨p, c, rfl⟩ := nodes_form ht
  obtain ⟨u, hu⟩ : ∃ u, u = Value.slice p t.length c := ⟨_, rfl⟩
  have hl2 := hl
  clear ht hl
  go_enter Try.func5, Try.ntmps5
  go_wp2_with fail
  rw [← hW0, ← hB]
  have HBW := Lib.hid hB
  clear hW0 hB
  refine HS.out.mono ?_
  rintro e w1 ⟨rfl, hB1⟩
  have cb1 := cellOld cb (hB1.block _ (cellLt cb))
  have HB1 := Lib.hid (below_trans hb1 hB1)
  have HF := Lib.hid (few_ok t (.slice p t.length c) w1 (HT.out.below HB1.out) hl2)
  clear hB1 hb1 cb HS
  by_cases hfew : t.length ≤ 80
  case neg =>
    rw [decide_eq_false hfew] at HF
    clear hfew hl2
    generalize t.length = n at *
    go_wp2_with fail
    refine HF.out.mono ?_
    rintro e w2 ⟨rfl, hB2⟩
    have HB2 := Lib.hid (below_trans HB1.out hB2)
    clear hB2 HF
    go_wp2_with fail
    go_ret
    exact ⟨rfl, HB2.out⟩
  rw [decide_eq_true hfew] at HF
  have HL : Hid (t.length ≤ 80) := Lib.hid hfew
  clear hl2 hfew
  rw [← hu] at HT HF cb1 ⊢
  have HUU := Lib.hid hu
  clear hu
  generalize Value.agg #[Value.slice p t.length c] = arg0
  go_wp2_with fail
  refine HF.out.mono ?_
  rintro e w2 ⟨rfl, hB2⟩
  have cb2 := cellOld cb1 (hB2.block _ (cellLt cb1))
  have HB2 := Lib.hid (below_trans HB1.out hB2)
  clear hB2 cb1 HB1 HF
  have HCK := Lib.hid (check_ok t u w2 (HT.out.below HB2.out) (by have := HL.out; omega))
  obtain ⟨ck, hck⟩ : ∃ ck, ck = chkT t := ⟨_, rfl⟩
  rw [← hck] at HCK
  go_wp2_with fail
  refine HCK.out.mono ?_
  rintro e w3 ⟨rfl, hB3⟩
  have cb3 := cellOld cb2 (hB3.block _ (cellLt cb2))
  have HB3 := Lib.hid (below_trans HB2.out hB3)
  clear hB3 cb2 HB2 HCK
  by_cases h0 : ck = 0
  case neg =>
    have hd1 : decide (ck = 0) = false := by simpa using h0
    have hd2 : (ck == 0) = false := by simpa using h0
    have hd3 : (ck != 0) = true := by simpa using h0
    clear h0 hck
    go_wp2_with fail
    go_ret
    exact ⟨rfl, HB3.out⟩
  subst h0
  have HCT : Hid (chkT t = 0) := Lib.hid hck.symm
  have HG := Lib.hid (chk_good hck.symm)
  clear hck
  have HMB := Lib.hid (members_ok t u w3 (HT.out.below HB3.out) (by have := HL.out; omega))
  go_wp2_with fail
  refine HMB.out.mono ?_
  rintro e w4 ⟨um, rfl, hrm, hB4⟩
  have HIM := Lib.hid (ints_of_row hrm)
  obtain ⟨pm, cm, rfl, hcm, hgm⟩ := ints_form hrm
  have HGM := Lib.hid hgm
  have cb4 := cellOld cb3 (hB4.block _ (cellLt cb3))
  have HB4 := Lib.hid (below_trans HB3.out hB4)
  clear hrm hB4 cb3 HB3 HMB hgm
  have HMI := Lib.hid (fun d (h : d ∈ memZ t) => (mem_iff t d).1 h)
  have HML := Lib.hid (memZ_length t)
  obtain ⟨M, hM⟩ : ∃ M, M = memZ t := ⟨_, rfl⟩
  rw [← hM] at HIM HGM hcm HMI HML ⊢
  have HM := Lib.hid hM
  obtain ⟨nm, hnm⟩ : ∃ nm, nm = M.length := ⟨_, rfl⟩
  have HNM := Lib.hid hnm
  rw [← hnm] at hcm ⊢
  have hnm2 : nm ≤ 512 := by rw [hnm]; exact HML.out
  clear hM hnm
  by_cases hz : nm = 0
  case pos =>
    subst hz
    have ht0 : t = [] := mem_none HG.out (by rw [← HM.out]; exact List.length_eq_zero_iff.1 HNM.out.symm)
    have hlen : t.length = 0 := by rw [ht0]; rfl
    have hu2 : u = .slice p 0 c := by rw [HUU.out, hlen]
    subst hu2
    clear ht0 hlen
    go_wp2_with fail
    go_ret
    exact ⟨rfl, HB4.out⟩
  have he1 : ((nm : Int) == 0) = false := by simpa using hz
  have he2 : decide ((nm : Int) = 0) = false := by simpa using hz
  have he3 : decide (nm = 0) = false := by simpa using hz
  go_upto_region 8 with fail
  obtain ⟨k, hk⟩ : ∃ k, k = wh % nm := ⟨_, rfl⟩
  have hkn : k < nm := by rw [hk]; exact Nat.mod_lt _ (by omega)
  have hkm : Int.tmod (wh : Int) (nm : Int) = (k : Int) := by rw [hk]; exact Int.ofNat_tmod .. |>.symm
  have hkm2 : (wh : Int) % (nm : Int) = (k : Int) := by rw [hk]; exact (Int.natCast_emod ..).symm
  obtain ⟨g, rfl, hg0, hg1, hcs⟩ := HGM.out (by rw [← HNM.out]; omega)
  have cd := hcs k (by rw [← HNM.out]; exact hkn)
  obtain ⟨d, hd⟩ : ∃ d, d = M.getD k 0 := ⟨_, rfl⟩
  rw [← hd] at cd
  have hdM : d ∈ M := by rw [hd]; simp only [List.getD]; rw [List.getElem?_eq_getElem (by rw [← HNM.out]; exact hkn)]; simp
  have HDM := Lib.hid hdM
  have HDR := Lib.hid (HMI.out d hdM)
  clear hk hd hdM hcs
  go_upto_region 9 with fail
  clear hkm hkm2 cd he1 he2 he3 hcm
  have hce : chgE t d true = 0 := chg_mem HCT.out (by rw [← HM.out]; exact HDM.out) true
  have hrl : remL t d = withoutL t d := by unfold remL; rw [if_pos hce]
  obtain ⟨L, hL⟩ : ∃ L, L = withoutL t d := ⟨_, rfl⟩
  have HLE := Lib.hid hL
  have HLL : Hid (L.length ≤ 80) := Lib.hid (by rw [hL]; have := withoutL_length t d; have := HL.out; omega)
  have HGL : Hid (Good L) := Lib.hid (by rw [hL]; exact good_without HG.out HDR.out.1 HDR.out.2.1)
  have HI : Hid (I64 d) := Lib.hid (I64.of (by have := HDR.out; omega))
  obtain ⟨d0, d1, -⟩ := HDR.out
  clear hL
  have HK5 := Lib.hid (remove_list t u d w4 (HT.out.below HB4.out) (by have := HL.out; omega) HI.out)
  rw [hce, hrl, ← HLE.out] at HK5
  clear hce hrl
  go_wp2_with fail
  refine HK5.out.mono ?_
  rintro e v5 ⟨u5, rfl, hn, hB⟩
  obtain ⟨p5, c5, rfl⟩ := nodes_form hn
  obtain ⟨b5, hb⟩ : ∃ b, b = v5.heap.size := ⟨_, rfl⟩
  have hA := below_trans hB (below_alloc v5 (.cells #[.slice p5 L.length c5] 24))
  have HN5 := Lib.hid (hn.below (below_alloc v5 (.cells #[.slice p5 L.length c5] 24)))
  have cc5 : (v5.alloc (.cells #[.slice p5 L.length c5] 24)).cell? ⟨b5, 0, none⟩ = some (.slice p5 L.length c5) := by rw [hb]; unfold World.cell?; rw [World.alloc_heap_new]; rfl
  have cb5 := cellOld cb4 (hA.block _ (cellLt cb4))
  have HB5 := Lib.hid (below_trans HB4.out hA)
  have HMI := Lib.hid (ints_below HIM.out hA)
  clear HIM
  have HIM := HMI
  clear HMI
  clear hn hB hA cb4 HB4 HK5
  go_upto_region 10 with fail
  rw [← hb]
  obtain ⟨w5, hw⟩ : ∃ W, W = v5.alloc (.cells #[.slice p5 L.length c5] 24) := ⟨_, rfl⟩
  rw [← hw] at HN5 cc5 HIM cb5 HB5 ⊢
  clear hw hb
  have HLF := Lib.hid (leaf_ok d d0 d1)
  go_wp2_with fail
  refine (HLF.out _).mono ?_
  rintro e w6 ⟨rfl, hw⟩
  rw [← hw]
  clear hw w6 HLF
  have HPA := Lib.hid (path_z d d0 d1 w5)
  go_wp2_with fail
  refine HPA.out.mono ?_
  rintro e w6 ⟨pv, rfl, hrp, hA⟩
  have HIP := Lib.hid (ints_of_row hrp)
  obtain ⟨pp, cp, rfl, -⟩ := ints_form hrp
  have HPL := Lib.hid (pathZ_length d d0 d1)
  have HB6 := Lib.hid (below_trans HB5.out hA)
  have cb6 := cellOld cb5 (hA.block _ (cellLt cb5))
  have HIM6 := Lib.hid (ints_below HIM.out hA)
  have HM5 := Lib.hid (HN5.out.below hA)
  have dd5 := cellOld cc5 (hA.block _ (cellLt cc5))
  clear HN5 cc5
  have HN5 := HM5
  have cc5 := dd5
  clear HM5 dd5
  clear hA hrp HPA HB5 cb5 HIM
  have hre : resE L 1 = 0 := by unfold resE; rw [if_pos (good_chk HGL.out), if_neg (by decide)]
  have HRV := Lib.hid (resolution_ok L (.slice p5 L.length c5) 1 w6 HN5.out (by have := HLL.out; omega))
  rw [hre] at HRV
  go_wp2_with fail
  refine HRV.out.mono ?_
  rintro e w7 ⟨rv, rfl, hrr, hA⟩
  have HIR := Lib.hid (ints_of_row hrr)
  obtain ⟨pr, cr, rfl, -⟩ := ints_form hrr
  have HB7 := Lib.hid (below_trans HB6.out hA)
  have cb7 := cellOld cb6 (hA.block _ (cellLt cb6))
  have HIM7 := Lib.hid (ints_below HIM6.out hA)
  have HIP7 := Lib.hid (ints_below HIP.out hA)
  have HM5 := Lib.hid (HN5.out.below hA)
  have dd5 := cellOld cc5 (hA.block _ (cellLt cc5))
  clear HN5 cc5
  have HN5 := HM5
  have cc5 := dd5
  clear HM5 dd5
  clear hA hrr HRV HB6 cb6 HIM6 HIP hre
  have HCK := Lib.hid (check_ok L (.slice p5 L.length c5) w7 HN5.out (by have := HLL.out; omega))
  rw [good_chk HGL.out] at HCK
  go_wp2_with fail
  refine HCK.out.mono ?_
  rintro e w8 ⟨rfl, hA⟩
  have HB8 := Lib.hid (below_trans HB7.out hA)
  have cb8 := cellOld cb7 (hA.block _ (cellLt cb7))
  have HIM8 := Lib.hid (ints_below HIM7.out hA)
  have HIP8 := Lib.hid (ints_below HIP7.out hA)
  have HIR8 := Lib.hid (ints_below HIR.out hA)
  have HM5 := Lib.hid (HN5.out.below hA)
  have dd5 := cellOld cc5 (hA.block _ (cellLt cc5))
  clear HN5 cc5
  have HN5 := HM5
  have cc5 := dd5
  clear HM5 dd5
  clear hA HCK HB7 cb7 HIM7 HIP7 HIR
  go_upto_region 15 with fail
  obtain ⟨-, hgp⟩ := row_ints HIP8.out rfl
  rw [HPL.out] at hgp ⊢
  obtain ⟨gp, op, rfl, hcp⟩ := hgp (by decide)
  have HCP := Lib.hid hcp
  have HPLn := HPL
  clear hcp hgp
  have hmm := @run_makeMap Try.prog
  obtain ⟨bm, hbm⟩ : ∃ b, b = w8.heap.size := ⟨_, rfl⟩
  have HM0 : Hid (KMap (boolK Try.underlying4) 3 (w8.alloc (.map #[] 0)) bm 0 (fun _ => none)) := Lib.hid (by rw [hbm]; exact KMap.made _ _ _)
  have HBm0 : Hid (Below bm w8 (w8.alloc (.map #[] 0))) := Lib.hid (by rw [hbm]; exact (Below.refl _ w8).alloc (Nat.le_refl _) _)
  have hsm : bm < (w8.alloc (.map #[] 0)).heap.size := by rw [hbm]; simp
  have HIL : Hid (I64 (512 + d)) := Lib.hid (I64.of (by omega))
  have HBM := Lib.hid hbm
  go_upto_region 16 with (first
    | (refine wpList_insert (E := boolK Try.underlying4) rfl _ _ _ 46 rfl Try.underlying3 Try.underlying46 bm 0 _ (by rw [hbm]; rfl) HM0.out (by unfold maxLen; omega) (512 + d) rfl HIL.out true rfl trivial ?_; intro w9 hm9 ht9))
  clear hmm
  have HM9 : Hid (KMap (boolK Try.underlying4) 3 w9 bm 1 (setF ([512 + d] ++ (pathZ d).take 0))) := Lib.hid (hm9.congr (fun x _ => by simp [setF]))
  have HB9 := Lib.hid (HBm0.out.grown ht9.grown (by omega) (fun j e => by cases e; exact Nat.le_refl _))
  have hs9 := ht9.grown.size
  rw [← hbm]
  clear hm9 ht9 hbm
  clear HM0 HBm0
  go_wp2_with fail
  go_loopw [95] (fun i wr => ∃ j : Nat, i = .int .i64 j ∧ j ≤ 9 ∧ Hid (KMap (boolK Try.underlying4) 3 wr bm (j + 1) (setF ([512 + d] ++ (pathZ d).take j))) ∧ Hid (Below bm w8 wr) ∧ bm < wr.heap.size) (fun i _ => 9 - (intOf i).toNat)
  case atStart => exact ⟨0, rfl, Nat.zero_le _, HM9, HB9, by omega⟩
  case round =>
    obtain ⟨j, rfl, hj, HMj, HBj, hszj⟩ := hrel
    by_cases hj9 : j < 9
    · have hd9 : decide ((j : Int) < 9) = true := by simp; omega
      have hd9' : decide (j < 9) = true := by simp; omega
      have hji : (j : Int) < 9 := by omega
      obtain ⟨y, hy⟩ : ∃ y, y = (pathZ d).getD j 0 := ⟨_, rfl⟩
      have hcy : w8.cell? ⟨gp, op + j, none⟩ = some (.int .i64 y) := by rw [hy]; exact HCP.out j hj9
      have cy := cellOld hcy (HBj.out.block gp (by rw [HBM.out]; exact cellLt hcy))
      have hjl : j < (pathZ d).length := by rw [HPLn.out]; exact hj9
      have HTy : Hid ((pathZ d).take (j + 1) = (pathZ d).take j ++ [y]) := Lib.hid (by rw [List.take_succ_eq_append_getElem hjl, hy]; simp [List.getD, hjl])
      have HIy : Hid (I64 y) := Lib.hid (I64.of (by
        have := pathZ_bd d d0 d1 y (by rw [hy]; simp only [List.getD]; rw [List.getElem?_eq_getElem hjl]; simp)
        omega))
      clear hy hcy hjl
      go_wp2_with (at_mapUpdate; refine wpList_put (E := boolK Try.underlying4) rfl _ _ _ 46 rfl Try.underlying3 Try.underlying46 bm _ _ rfl HMj.out (by unfold maxLen; omega) y rfl HIy.out true rfl trivial ?_; intro w10 hm10 ht10)
      have HM10 := Lib.hid (hm10.congr (g := setF ([512 + d] ++ (pathZ d).take (j + 1))) (fun x _ => by rw [HTy.out, ← List.append_assoc, ← setF_put]))
      have hs10 := ht10.grown.size
      exact ⟨⟨j + 1, by go_num, by omega, HM10, Lib.hid (HBj.out.grown ht10.grown (by omega) (fun j e => by cases e; exact Nat.le_refl _)), by omega⟩, by simp only [intOf]; omega⟩
    · have hd9 : decide ((j : Int) < 9) = false := by simp; omega
      have hd9' : decide (j < 9) = false := by simp; omega
      have hj9e : j = 9 := by omega
      have HMf : Hid (KMap (boolK Try.underlying4) 3 wr bm 10 (setF ((512 + d) :: pathZ d))) := Lib.hid (by
        have h := HMj.out
        rw [hj9e] at h
        rw [List.take_of_length_le (by rw [HPLn.out]; exact Nat.le_refl _)] at h
        exact h)
      obtain ⟨-, hgr⟩ := row_ints HIR8.out rfl
      obtain ⟨nr, hnr⟩ : ∃ n, n = (resV L 1).length := ⟨_, rfl⟩
      have HNR := Lib.hid hnr
      have HCR := Lib.hid hgr
      have hnr2 : nr ≤ 1000000 := by rw [hnr]; exact resV_length L 1
      rw [← hnr]
      clear hgr HMj hnr hj9e
      obtain ⟨W2, hW2⟩ : ∃ W, W = wr := ⟨_, rfl⟩
      rw [← hW2] at HMf HBj hszj ⊢
      clear hW2
      go_wp2_with fail
      go_loopw [104] (fun i wr => ∃ j : Nat, i = .int .i64 j ∧ j ≤ nr ∧ wr = W2) (fun i _ => nr - (intOf i).toNat)
      case atStart => exact ⟨0, rfl, Nat.zero_le _, rfl⟩
      case round =>
        obtain ⟨j, rfl, hj, hwr⟩ := hrel
        rw [hwr]
        clear hwr
        by_cases hjr : j < nr
        · have hd7 : decide ((j : Int) < (nr : Int)) = true := by simp; omega
          have hd7' : decide (j < nr) = true := by simp; omega
          obtain ⟨gr, or, rfl, hcr⟩ := HCR.out (by rw [← HNR.out]; omega)
          have hcy := hcr j (by rw [← HNR.out]; exact hjr)
          obtain ⟨y, hy⟩ : ∃ y, y = (resV L 1).getD j 0 := ⟨_, rfl⟩
          rw [← hy] at hcy
          have hym : y ∈ resV L 1 := by rw [hy]; simp only [List.getD]; rw [List.getElem?_eq_getElem (by rw [← HNR.out]; exact hjr)]; simp
          have hys := resV_isSome hym
          have hyk : I64 y ∧ undB (512 + d) y = false := by
            obtain ⟨e, he, hey⟩ := ofF_isSome.1 hys
            rw [HLE.out] at he
            obtain ⟨h1, h2⟩ := without_key he
            have h3 := HG.out.2 e h1
            rw [hey] at h2 h3
            exact ⟨I64.of (by omega), undB_no h2⟩
          have hse : (setF ((512 + d) :: pathZ d) y).getD false = false := by rw [setF_und d0 d1]; exact hyk.2
          have HIy := Lib.hid hyk.1
          have cy := cellOld hcy (HBj.out.block gr (by rw [HBM.out]; exact cellLt hcy))
          clear hcy hy hym hys hyk hcr
          go_wp2_with (at_lookup; refine wpList_lookB (he := Try.underlying4) rfl _ _ 46 rfl Try.underlying3 Try.underlying46 (zero_bool _) bm 10 _ rfl HMf.out y rfl HIy.out ?_; rw [hse])
          exact ⟨⟨j + 1, by go_num, by omega, by trivial⟩, by simp only [intOf]; omega⟩
        · have hd7 : decide ((j : Int) < (nr : Int)) = false := by simp; omega
          have hd7' : decide (j < nr) = false := by simp; omega
          obtain rfl : j = nr := by omega
          rw [HUU.out] at cb8
          have cbw := cellOld cb8 (HBj.out.block B (by rw [HBM.out]; exact cellLt cb8))
          have ccw := cellOld cc5 (HBj.out.block b5 (by rw [HBM.out]; exact cellLt cc5))
          have HNw : Hid (NodesAt W2 (.slice p5 L.length c5) L) := Lib.hid (HN5.out.below (by rw [← HBM.out]; exact HBj.out))
          have HIMw : Hid (IntsAt W2 (.slice (some ⟨g, 0, none⟩) M.length cm) M) := Lib.hid (ints_below HIM8.out (by rw [← HBM.out]; exact HBj.out))
          have HBw : Hid (Below w.heap.size w W2) := Lib.hid (HB8.out.trans (HBj.out.mono (by rw [HBM.out]; exact HB8.out.size)))
          clear cb8 cc5
          go_upto_region 28 with fail
          obtain ⟨X, hX⟩ : ∃ X, X = W2.heap.size := ⟨_, rfl⟩
          obtain ⟨W3, hW3⟩ : ∃ W, W = W2.alloc (.cells #[.slice none 0 0] 24) := ⟨_, rfl⟩
          have HX0 : Hid (Boxed W3 X 24 (.slice none 0 0)) := Lib.hid (by rw [hW3, hX]; exact box_new _ _ _)
          have HB0 : Hid (Below X W2 W3) := Lib.hid (by rw [hW3, hX]; exact (Below.refl _ W2).alloc (Nat.le_refl _) _)
          have HR0 := Lib.hid (World.ownsRow_nil W3 (X + 1) 48 2)
          have hs3 : X + 1 ≤ W3.heap.size := by rw [hW3, hX]; simp
          have cb3' : W3.cell? ⟨B, 0, none⟩ = some (.slice p t.length c) := cellOld cbw (HB0.out.block B (by rw [hX]; exact cellLt cbw))
          rw [← hX, ← hW3]
          have HXW := Lib.hid hX
          clear hW3 hX
          obtain ⟨-, htc, hct, hwf⟩ := row_nodes HT.out HUU.out
          have HCT2 := Lib.hid hct
          have HWF := Lib.hid hwf
          obtain ⟨i0, hi, hz0, hz1, hzb⟩ := info_parts info_node
          obtain ⟨n, hn⟩ : ∃ n, n = t.length := ⟨_, rfl⟩
          have HN := Lib.hid hn
          have hn80 : n ≤ 80 := by rw [hn]; exact HL.out
          rw [← hn] at htc cb3'
          clear hct hwf hn
          go_wp2_with fail
          go_loopw [116] (fun i wr' => ∃ (j m : Nat) (q : Option Addr) (cq : Nat), i = .int .i64 j ∧ j ≤ n ∧ m ≤ j ∧ Hid (m = (withoutL (t.take j) d).length) ∧ Hid (Boxed wr' X 24 (.slice q m cq)) ∧ Hid (wr'.ownsRow (X + 1) 48 2 (.slice q m cq) m (cellsL (withoutL (t.take j) d))) ∧ Hid (Below X W2 wr') ∧ X + 1 ≤ wr'.heap.size) (fun i _ => n - (intOf i).toNat)
          case atStart => exact ⟨0, 0, none, 0, rfl, Nat.zero_le _, Nat.le_refl _, Lib.hid rfl, HX0, HR0, HB0, hs3⟩
          case round =>
            obtain ⟨j3, m, q, cq, rfl, hj3, hm3, HMm, HX, HR, HB, hsz⟩ := hrel
            clear cb3' hs3
            by_cases hjn : j3 < n
            · have hd8 : decide ((j3 : Int) < (n : Int)) = true := by simp; omega
              have hd8' : decide (j3 < n) = true := by simp; omega
              obtain ⟨gt, ot, rfl, hct⟩ := HCT2.out (by rw [← HN.out]; omega)
              have HBt : Hid (Below w.heap.size w wr) := Lib.hid (HBw.out.trans (HB.out.mono (by rw [HXW.out]; exact HBw.out.size)))
              obtain ⟨a, pb, c1, c2, wa, -, -, htk, -⟩ := node_at hct HWF.out (by rw [← HN.out]; exact hjn) HBt.out
              have HS := Lib.hid (withoutL_succ (d := d) htk)
              have HIA := Lib.hid wa
              clear hct htk wa
              obtain ⟨Z, hZ⟩ : ∃ Z, Z = wr.heap.size := ⟨_, rfl⟩
              obtain ⟨V, hV⟩ : ∃ W, W = wr.alloc (.cells #[.int .i64 a, .int .i64 pb] 48) := ⟨_, rfl⟩
              have HMV : Hid (KMap (boolK Try.underlying4) 3 V bm 10 (setF ((512 + d) :: pathZ d))) := Lib.hid (by rw [hV]; exact (HMf.out.below HB.out (by rw [HXW.out]; exact HMf.out.lt)).alloc _)
              have HXV : Hid (Boxed V X 24 (.slice q m cq)) := Lib.hid (by rw [hV]; exact (Below.heap_alloc _ _ _ HX.out.lt).trans HX.out)
              have HRV : Hid (V.ownsRow (X + 1) 48 2 (.slice q m cq) m (cellsL (withoutL (t.take j3) d))) := Lib.hid (by rw [hV]; exact HR.out.alloc _)
              have HBV : Hid (Below X W2 V) := Lib.hid (by rw [hV]; exact HB.out.alloc (by omega) _)
              have vz0 : V.cell? ⟨Z, 0, none⟩ = some (.int .i64 a) := by rw [hV, hZ]; unfold World.cell?; rw [World.alloc_heap_new]; rfl
              have vz1 : V.cell? ⟨Z, 1, none⟩ = some (.int .i64 pb) := by rw [hV, hZ]; unfold World.cell?; rw [World.alloc_heap_new]; rfl
              have hsV : X + 1 ≤ V.heap.size := by rw [hV]; simp; omega
              go_upto_region 31 with fail
              rw [← hZ, ← hV]
              clear hV hZ HX HR HB hsz c1 c2
              have hgd := setF_und d0 d1 a
              obtain ⟨ub, hub⟩ : ∃ ub, ub = undB (512 + d) a := ⟨_, rfl⟩
              rw [← hub] at hgd HS
              clear hub
              cases ub with
              | true =>
                go_wp2_with (at_lookup; refine wpList_lookB (he := Try.underlying4) rfl _ _ 46 rfl Try.underlying3 Try.underlying46 (zero_bool _) bm 10 _ rfl HMV.out a rfl HIA.out ?_; rw [hgd])
                refine ⟨⟨j3 + 1, m, q, cq, by go_num, by omega, by omega, ?_, HXV, ?_, HBV, hsV⟩, by simp only [intOf]; omega⟩
                · rw [HS.out, if_neg (by decide), List.append_nil]; exact HMm
                · rw [HS.out, if_neg (by decide), List.append_nil]; exact HRV
              | false =>
                have vx := HXV.out.cell
                have vxf := HXV.out.frozen
                have HRA := Lib.hid (HRV.out.alloc (.cells #[.int .i64 a, .int .i64 pb] 48))
                have HNW := Lib.hid (cells_new2 V [.int .i64 a, .int .i64 pb] 48)
                go_wp2_with (first
                  | (at_lookup; refine wpList_lookB (he := Try.underlying4) rfl _ _ 46 rfl Try.underlying3 Try.underlying46 (zero_bool _) bm 10 _ rfl HMV.out a rfl HIA.out ?_; rw [hgd])
                  | (at_builtin; refine wpList_append_own _ rfl _ _ 22 rfl (X + 1) 48 i0 (.agg #[.int .i64 0, .int .i64 0]) 2 16 Try.underlying22 hi hz0 hz1 hzb rfl (by decide) _ _ _ rfl HRA.out ⟨V.heap.size, 0, none⟩ 1 1 [.int .i64 a, .int .i64 pb] rfl rfl HNW.out (by simp [Value.oneCell']) (by unfold maxLen; omega) (by omega) (by simp; omega) ?_; intro v' w5 hown5 hgrow5 _; have HO5 := Lib.hid hown5; have HG5 : Hid ((V.alloc (.cells #[.int .i64 a, .int .i64 pb] 48)).grownBy w5 (Value.slice q m cq).ownBlock) := Lib.hid hgrow5; obtain ⟨q1, cq1, rfl⟩ := node_form hown5; have hs5 := hgrow5.size; have hb5 : Boxed w5 X 24 (.slice q m cq) := (hgrow5.block X (by have := HXV.out.lt; simp; omega) (fun e => by have := (HRA.out.lt _ e.symm).1; omega)).trans ((Below.heap_alloc _ _ _ HXV.out.lt).trans HXV.out); have cb5 := hb5.cell; have cf5 := hb5.frozen; have HBX5 := Lib.hid (Boxed.set (.slice q1 (m + 1) cq1) hb5); clear hown5 hgrow5 hb5))
                have HRS := Lib.hid (ownsRow_setCell_below HO5.out (a := ⟨X, 0, none⟩) (by show X < X + 1; omega) (.slice q1 (m + 1) cq1))
                have HGS := Lib.hid (grownBy_setCell' w5 X (.slice q1 (m + 1) cq1))
                have hss := HGS.out.size
                rw [World.size_alloc] at hs5
                refine ⟨⟨j3 + 1, m + 1, q1, cq1, by go_num, by omega, by omega, Lib.hid ?_, HBX5, Lib.hid ?_, Lib.hid ?_, by omega⟩, by simp only [intOf]; omega⟩
                · rw [HS.out, if_pos rfl, List.length_append, ← HMm.out]; rfl
                · rw [HS.out, if_pos rfl, cellsL_append]; exact HRS.out
                · exact ((HBV.out.alloc (by omega) (.cells #[.int .i64 a, .int .i64 pb] 48)).grown HG5.out (by rw [World.size_alloc]; omega) (fun j e => by have := (HRA.out.lt _ e).1; omega)).grown HGS.out (by omega) (fun j e => by cases e; exact Nat.le_refl _)
            · have hd8 : decide ((j3 : Int) < (n : Int)) = false := by simp; omega
              have hd8' : decide (j3 < n) = false := by simp; omega
              have hj3n : j3 = n := by omega
              have hLe : withoutL (t.take j3) d = L := by rw [hj3n, HN.out, List.take_length]; exact HLE.out.symm
              rw [hLe] at HMm HR
              have cx := HX.out.cell
              have cc := cellOld ccw (HB.out.block b5 (by rw [HXW.out]; exact cellLt ccw))
              have HNx : Hid (NodesAt wr (.slice p5 L.length c5) L) := Lib.hid (HNw.out.below (by rw [← HXW.out]; exact HB.out))
              have HNr : Hid (NodesAt wr (.slice q m cq) L) := Lib.hid (nodes_of_row (by rw [← HMm.out]; exact HR.out) (fun e he => by rw [HLE.out] at he; exact withoutL_wf HWF.out e he))
              have HBt : Hid (Below w.heap.size w wr) := Lib.hid (HBw.out.trans (HB.out.mono (by rw [HXW.out]; exact HBw.out.size)))
              have HSM := Lib.hid (same_self L (.slice p5 L.length c5) (.slice q m cq) wr HNx.out HNr.out (by have := HLL.out; omega))
              have hml : (memZ L).length + 1 = nm := by rw [HLE.out, HNM.out, HM.out]; exact mem_len (by rw [← HM.out]; exact HDM.out)
              clear hLe hj3n HX HR HB HNr
              go_wp2_with fail
              refine HSM.out.mono ?_
              rintro e w20 ⟨rfl, hA⟩
              have HB20 := Lib.hid (below_trans HBt.out hA)
              have cc20 := cellOld cc (hA.block _ (cellLt cc))
              have HMB := Lib.hid (members_ok L (.slice p5 L.length c5) w20 (HNx.out.below hA) (by have := HLL.out; omega))
              clear hA cc HSM HBt cx HNx
              go_wp2_with fail
              refine HMB.out.mono ?_
              rintro e w21 ⟨uq, rfl, hrq, hA⟩
              obtain ⟨pq, cq2, rfl, -⟩ := ints_form hrq
              have HB21 := Lib.hid (below_trans HB20.out hA)
              obtain ⟨nl, hnl⟩ : ∃ n, n = (memZ L).length := ⟨_, rfl⟩
              rw [← hnl] at hml ⊢
              have hf1 : ((nl : Int) == (nm : Int) - 1) = true := by simp; omega
              have hf2 : decide ((nl : Int) = (nm : Int) - 1) = true := by simp; omega
              clear hA hrq HMB cc20 HB20 hnl
              go_wp2_with fail
              go_ret
              exact ⟨rfl, HB21.out⟩
theorem u8_nat {a : Int} (h : (Lit.int .u8 a).wf = true) : ∃ n : Nat, a = n ∧ n ≤ 255 := by
  have hb : 0 ≤ a ∧ a < 256 := by
    simp [Lit.wf, IntKind.min, IntKind.max, IntKind.signed, IntKind.bits] at h
    omega
  exact ⟨a.toNat, by omega, by omega⟩
theorem removed_w {H : Type} {enc : TypeId × Value → H} {base : Nat} (v0 : Value) (d0 : DataW H) (p0 : List MemPlace) {W : World} (h0 : DataW.Trod enc Try.prog W 0 (fun _ => true) true 24 v0 d0 p0) (o0 : Value.okWide Try.prog W .any base 24 v0)
    (a1 : Int) (w1 : (Lit.int .u8 a1).wf = true) :
    Calls Try.prog 5 #[v0, .int .u8 a1] W fun e w' => e = .returned (.bool true) ∧ Below W.heap.size W w' := by
  obtain ⟨u, t, rfl, ht, hl⟩ := treeIn h0 o0
  obtain ⟨n, rfl, hn⟩ := u8_nat w1
  exact removed_walk t u n W ht hl hn
end Go.Proofs.Ytekdekchbnacgaa
