/- Keytree: the siblings of a path reach all others, each once; the walk of KeytreeOthers. -/
import Derived.Test.YtekdekchbnacgaaLy
namespace Go.Proofs.Ytekdekchbnacgaa
open Go.RowKit Go.Maps
set_option maxRecDepth 100000
set_option linter.unusedVariables false
set_option linter.unusedSimpArgs false

theorem bitLen_le (n j : Nat) (h : n < 2 ^ j) : bitLen n ≤ j := by
  unfold bitLen
  split
  · omega
  · rename_i h0
    have := (Nat.log2_lt h0).2 h
    omega

theorem bitLen_big (m : Nat) (h0 : 512 ≤ m) (h1 : m < 1024) : bitLen m = 10 := by
  have h : ∀ n : Fin 1024, 512 ≤ n.val → bitLen n.val = 10 := by decide +kernel
  exact h ⟨m, h1⟩ h0

theorem half_eq (x y k : Nat) : x / 2 ^ k = y / 2 ^ k ↔ bitLen (x ^^^ y) ≤ k := by
  have e : (x ^^^ y) >>> k = (x >>> k) ^^^ (y >>> k) := Nat.shiftRight_xor_distrib ..
  simp only [Nat.shiftRight_eq_div_pow] at e
  constructor
  · intro h
    rw [h, Nat.xor_self] at e
    apply bitLen_le
    exact (Nat.div_eq_zero_iff_lt (Nat.two_pow_pos k)).1 e
  · intro h
    have h1 : x ^^^ y < 2 ^ k := Nat.lt_of_lt_of_le (bitLen_spec _).1 (Nat.pow_le_pow_right (by decide) h)
    rw [Nat.div_eq_of_lt h1] at e
    have h2 := congrArg (x / 2 ^ k ^^^ ·) e
    simpa [← Nat.xor_assoc] using h2

theorem div_under (node k x : Nat) : (node * 2 ^ k ≤ x ∧ x < (node + 1) * 2 ^ k) ↔ x / 2 ^ k = node := by
  have hp : 0 < 2 ^ k := Nat.two_pow_pos k
  rw [← Nat.le_div_iff_mul_le hp, ← Nat.div_lt_iff_lt_mul hp]
  omega

theorem lev_div (x i : Nat) (h0 : 512 ≤ x) (h1 : x < 1024) (hi : i ≤ 9) : levN (x / 2 ^ i) = i ∧ 1 ≤ x / 2 ^ i ∧ x / 2 ^ i < 1024 := by
  have hp : 0 < 2 ^ i := Nat.two_pow_pos i
  have h9 : 2 ^ i ≤ 2 ^ 9 := Nat.pow_le_pow_right (by decide) hi
  have hne : 1 ≤ x / 2 ^ i := (Nat.le_div_iff_mul_le hp).2 (by omega)
  have := bitLen_shift x i (by omega)
  rw [bitLen_big x h0 h1] at this
  refine ⟨by unfold levN; omega, hne, ?_⟩
  exact Nat.lt_of_le_of_lt (Nat.div_le_self _ _) h1

def lenD (a b : Nat) : Nat := bitLen ((512 + a) ^^^ (512 + b))
theorem lenD_self (a : Nat) : lenD a a = 0 := by unfold lenD; rw [Nat.xor_self]; rfl
theorem lenD_le (a b : Nat) (ha : a < 512) (hb : b < 512) : lenD a b ≤ 9 := by
  unfold lenD
  rw [← half_eq]
  have h1 : (512 + a) / 2 ^ 9 = 1 := by omega
  have h2 : (512 + b) / 2 ^ 9 = 1 := by omega
  rw [h1, h2]
theorem lenD_pos (a b : Nat) (h : a ≠ b) : 1 ≤ lenD a b := by
  have := mt (half_eq (512 + a) (512 + b) 0).2 (by simpa using h)
  unfold lenD; omega
theorem under_iff (n d : Nat) (h0 : 1 ≤ n) (h1 : n < 1024) : (froN n ≤ d ∧ d < toN n) ↔ (512 + d) / 2 ^ levN n = n := by
  rw [← div_under]
  obtain ⟨u1, u2, u3⟩ := under_bd n h0 h1
  have u4 : n * 2 ^ levN n ≤ (n + 1) * 2 ^ levN n := Nat.mul_le_mul_right _ (by omega)
  unfold froN toN
  omega
theorem copN_get (d : Nat) (hd : d < 512) (i : Nat) (hi : i < 9) : (copN d).getD i 0 = sibN ((512 + d) / 2 ^ i) := by
  have h : ∀ d : Fin 512, copN d.val = (List.range 9).map fun i => sibN ((512 + d.val) / 2 ^ i) := by decide +kernel
  rw [h ⟨d, hd⟩]; simp [hi]

theorem sib_spec (n : Nat) (h : n < 1024) : sibN n / 2 = n / 2 ∧ sibN n ≠ n ∧ max n (sibN n) = 2 * (n / 2) + 1 := by
  have h : ∀ n : Fin 1024, sibN n.val / 2 = n.val / 2 ∧ sibN n.val ≠ n.val ∧ max n.val (sibN n.val) = 2 * (n.val / 2) + 1 := by decide +kernel
  exact h ⟨n, by assumption⟩

theorem under_cop (d x j : Nat) (hd : d < 512) (hx : x < 512) (hj : j < 9) : ∀ c, c = (copN d).getD j 0 → 1 ≤ c ∧ c < 1024 ∧ ((froN c ≤ x ∧ x < toN c) ↔ lenD d x = j + 1) := by
  rintro c rfl
  rw [copN_get d hd j hj]
  obtain ⟨l1, l2, l3⟩ := lev_div (512 + d) j (by omega) (by omega) (by omega)
  have hm2 : 2 ≤ (512 + d) / 2 ^ j := by
    have hp : 0 < 2 ^ j := Nat.two_pow_pos j
    have h8 : 2 ^ j ≤ 2 ^ 8 := Nat.pow_le_pow_right (by decide) (by omega)
    exact (Nat.le_div_iff_mul_le hp).2 (by omega)
  obtain ⟨s1, s2, s3⟩ := sib_spec _ l3
  have e1 : (512 + d) / 2 ^ (j + 1) = (512 + d) / 2 ^ j / 2 := by rw [Nat.pow_succ, Nat.div_div_eq_div_mul]
  have e2 : (512 + x) / 2 ^ (j + 1) = (512 + x) / 2 ^ j / 2 := by rw [Nat.pow_succ, Nat.div_div_eq_div_mul]
  have k1 := half_eq (512 + d) (512 + x) (j + 1)
  have k0 := half_eq (512 + d) (512 + x) j
  obtain ⟨m1, m2, m3⟩ := lev_div (512 + x) j (by omega) (by omega) (by omega)
  have hlev : levN (sibN ((512 + d) / 2 ^ j)) = j := by
    have h : ∀ n : Fin 1024, 2 ≤ n.val → levN (sibN n.val) = levN n.val := by decide +kernel
    exact (h ⟨_, l3⟩ hm2).trans l1
  have hs1 : 1 ≤ sibN ((512 + d) / 2 ^ j) := by omega
  have hs2 : sibN ((512 + d) / 2 ^ j) < 1024 := by
    have h : ∀ n : Fin 1024, sibN n.val < 1024 := by decide +kernel
    exact h ⟨_, l3⟩
  refine ⟨hs1, hs2, ?_⟩
  rw [under_iff _ x hs1 hs2, hlev]
  rw [e1, e2] at k1
  unfold lenD
  generalize bitLen ((512 + d) ^^^ (512 + x)) = B at k0 k1 ⊢
  generalize (512 + d) / 2 ^ j = p at *
  generalize (512 + x) / 2 ^ j = q at *
  generalize sibN p = s at *
  omega


/-- The siblings of a device's path. -/
def copZ (d : Int) : List Int := (copN d.toNat).map fun n : Nat => (n : Int)
theorem copZ_length (d : Int) (h0 : 0 ≤ d) (h1 : d < 512) : (copZ d).length = 9 := by
  unfold copZ copN
  rw [List.length_map, List.length_map, upL_nine _ (by omega)]
theorem cop_z (d : Int) (h0 : 0 ≤ d) (h1 : d < 512) (w : World) :
    Calls Try.prog 33 #[.int .i64 d] w fun e w' => ∃ v, e = .returned (.tuple #[v, .int .i64 0]) ∧ w'.ownsRow w.heap.size 3 1 v (copZ d).length ((copZ d).map (Value.int .i64)) ∧ Below w.heap.size w w' := by
  obtain ⟨n, rfl⟩ := Int.eq_ofNat_of_zero_le h0
  refine (copath_ok n (by omega) w).mono ?_
  rintro e w' ⟨v, rfl, hr, hB⟩
  refine ⟨v, rfl, ?_, hB⟩
  rw [copZ_length _ h0 h1]
  have e : iv (copN n) = (copZ (n : Int)).map (Value.int .i64) := by simp [iv, copZ, Function.comp_def]
  rw [← e]
  exact hr
theorem copZ_at {d : Int} (h0 : 0 ≤ d) (h1 : d < 512) {j : Nat} (hj : j < 9) : ∃ s : Nat, (copZ d).getD j 0 = s ∧ s = (copN d.toNat).getD j 0 ∧ 1 ≤ s ∧ s < 1024 := by
  have hl : j < (copN d.toNat).length := by
    have := copZ_length d h0 h1
    unfold copZ at this
    rw [List.length_map] at this
    omega
  refine ⟨(copN d.toNat).getD j 0, ?_, rfl, ?_⟩
  · unfold copZ
    simp [List.getD, hl]
  · obtain ⟨a, b, -⟩ := under_cop d.toNat 0 j (by omega) (by omega) hj _ rfl
    exact ⟨a, b⟩
noncomputable def sumC (t : List (Int × Int)) (ss : List Int) (z : Int) : Nat := (ss.map fun s => cntI (resV t s) z).sum
theorem sumC_snoc {t : List (Int × Int)} {ss : List Int} {j : Nat} {s : Int} (h : ss.take (j + 1) = ss.take j ++ [s]) (z : Int) : sumC t (ss.take (j + 1)) z = sumC t (ss.take j) z + cntI (resV t s) z := by
  unfold sumC; rw [h]; simp
theorem sum_nine (f : Nat → Nat) (L : Nat) (hL : L ≤ 9) (h : ∀ j, j < 9 → f j = if L = j + 1 then 1 else 0) : ((List.range 9).map f).sum = if L = 0 then 0 else 1 := by
  have e : ((List.range 9).map f).sum = ((List.range 9).map fun j => if L = j + 1 then 1 else 0).sum := by
    congr 1
    exact List.map_congr_left fun j hj => h j (List.mem_range.1 hj)
  rw [e]
  have : ∀ L : Fin 10, ((List.range 9).map fun j => if L.val = j + 1 then 1 else 0).sum = if L.val = 0 then 0 else 1 := by decide
  exact this ⟨L, by omega⟩
theorem others_sum {t : List (Int × Int)} (hc : chkT t = 0) {d : Int} (h0 : 0 ≤ d) (h1 : d < 512) {x : Nat} (hx1 : x < 512) (hx : (ofF t (512 + (x : Int))).isSome = true) : sumC t (copZ d) x = if (x : Int) = d then 0 else 1 := by
  obtain ⟨n, rfl⟩ := Int.eq_ofNat_of_zero_le h0
  have hl := copZ_length (n : Int) h0 h1
  have e : copZ (n : Int) = (List.range 9).map fun j => (copZ (n : Int)).getD j 0 := by
    apply List.ext_getElem
    · simp [hl]
    · intro i hi1 hi2
      simp [List.getD, hi1]
  unfold sumC
  rw [e, List.map_map]
  rw [sum_nine _ (lenD n x) (lenD_le n x (by omega) hx1) (fun j hj => ?_)]
  · by_cases hnx : x = n
    · subst hnx; rw [lenD_self, if_pos rfl, if_pos rfl]
    · have := lenD_pos n x (fun h => hnx h.symm)
      rw [if_neg (by omega), if_neg (by omega)]
  · simp only [Function.comp]
    obtain ⟨s, e1, e2, s1, s2⟩ := copZ_at h0 h1 hj
    rw [e1, resV_cnt hc s1 s2 hx]
    have hu := (under_cop n x j (by omega) hx1 hj s (by rw [e2]; simp)).2.2
    by_cases hh : froN s ≤ x ∧ x < toN s
    · rw [if_pos hh, if_pos (hu.1 hh)]
    · rw [if_neg hh, if_neg (fun h => hh (hu.2 h))]

theorem cntR_more {c : Int → Nat} {l : List Int} {i : Nat} {m : Int} (h : l.take (i + 1) = l.take i ++ [m]) : cntR (fun z => c z + cntI (l.take i) z) (froN m.toNat : Int) (toN m.toNat : Int) = fun z => c z + cntI (l.take (i + 1)) z := by
  funext z
  rw [h, cntI_append, cntI_one]
  unfold cntR
  dsimp only
  omega

set_option maxHeartbeats 4000000 in
theorem others_walk (t : List (Int × Int)) (u : Value) (wh : Nat) (w : World) (ht : NodesAt w u t) (hl : t.length ≤ maxLen) (hw1 : wh ≤ 255) :
    Calls Try.prog 9 #[.agg #[u], .int .u8 wh] w fun e w' => e = .returned (.bool true) ∧ Below w.heap.size w w' := by
  obtain ⟨B, hB⟩ : ∃ B, B = w.heap.size := ⟨_, rfl⟩
  obtain ⟨W0, hW0⟩ : ∃ W0, W0 = w.alloc (.cells #[u] 24) := ⟨_, rfl⟩
  have hb1 : Below w.heap.size w W0 := by rw [hW0]; exact below_alloc _ _
  have cb : W0.cell? ⟨B, 0, none⟩ = some u := by rw [hW0, hB]; unfold World.cell?; rw [World.alloc_heap_new]; rfl
  have HS := Lib.hid (sane_ok W0)
  have HT := Lib.hid ht
  obtain ⟨p, c, rfl⟩ := nodes_form ht
  obtain ⟨u, hu⟩ : ∃ u, u = Value.slice p t.length c := ⟨_, rfl⟩
  have hl2 := hl
  clear ht hl
  go_enter Try.func9, Try.ntmps9
  go_wp2_with fail
  rw [← hW0, ← hB]
  have HBW := Lib.hid hB
  clear hW0 hB
  refine HS.out.mono ?_
  rintro e w1 ⟨rfl, hB1⟩
  have cb1 := cellOld cb (hB1.block _ (cellLt cb))
  have HB1 := Lib.hid (below_trans hb1 hB1)
  have HF := Lib.hid (few_ok t (.slice p t.length c) w1 (HT.out.below HB1.out) hl2)
  clear hB1 hb1 cb HS
  by_cases hfew : t.length ≤ 80
  case neg =>
    rw [decide_eq_false hfew] at HF
    clear hfew hl2
    generalize t.length = n at *
    go_wp2_with fail
    refine HF.out.mono ?_
    rintro e w2 ⟨rfl, hB2⟩
    have HB2 := Lib.hid (below_trans HB1.out hB2)
    clear hB2 HF
    go_wp2_with fail
    go_ret
    exact ⟨rfl, HB2.out⟩
  rw [decide_eq_true hfew] at HF
  have HL : Hid (t.length ≤ 80) := Lib.hid hfew
  clear hl2 hfew
  rw [← hu] at HT HF cb1 ⊢
  have HUU := Lib.hid hu
  clear hu
  generalize Value.agg #[Value.slice p t.length c] = arg0
  go_wp2_with fail
  refine HF.out.mono ?_
  rintro e w2 ⟨rfl, hB2⟩
  have cb2 := cellOld cb1 (hB2.block _ (cellLt cb1))
  have HB2 := Lib.hid (below_trans HB1.out hB2)
  clear hB2 cb1 HB1 HF
  have HCK := Lib.hid (check_ok t u w2 (HT.out.below HB2.out) (by have := HL.out; omega))
  obtain ⟨ck, hck⟩ : ∃ ck, ck = chkT t := ⟨_, rfl⟩
  rw [← hck] at HCK
  go_wp2_with fail
  refine HCK.out.mono ?_
  rintro e w3 ⟨rfl, hB3⟩
  have cb3 := cellOld cb2 (hB3.block _ (cellLt cb2))
  have HB3 := Lib.hid (below_trans HB2.out hB3)
  clear hB3 cb2 HB2 HCK
  by_cases h0 : ck = 0
  case neg =>
    have hd1 : decide (ck = 0) = false := by simpa using h0
    have hd2 : (ck == 0) = false := by simpa using h0
    have hd3 : (ck != 0) = true := by simpa using h0
    clear h0 hck
    go_wp2_with fail
    go_ret
    exact ⟨rfl, HB3.out⟩
  subst h0
  have HCT : Hid (chkT t = 0) := Lib.hid hck.symm
  have HG := Lib.hid (chk_good hck.symm)
  clear hck
  have HMB := Lib.hid (members_ok t u w3 (HT.out.below HB3.out) (by have := HL.out; omega))
  go_wp2_with fail
  refine HMB.out.mono ?_
  rintro e w4 ⟨um, rfl, hrm, hB4⟩
  have HIM := Lib.hid (ints_of_row hrm)
  obtain ⟨pm, cm, rfl, hcm, hgm⟩ := ints_form hrm
  have HGM := Lib.hid hgm
  have cb4 := cellOld cb3 (hB4.block _ (cellLt cb3))
  have HB4 := Lib.hid (below_trans HB3.out hB4)
  clear hrm hB4 cb3 HB3 HMB hgm
  have HMI := Lib.hid (fun d (h : d ∈ memZ t) => (mem_iff t d).1 h)
  have HML := Lib.hid (memZ_length t)
  obtain ⟨M, hM⟩ : ∃ M, M = memZ t := ⟨_, rfl⟩
  rw [← hM] at HIM HGM hcm HMI HML ⊢
  have HM := Lib.hid hM
  obtain ⟨nm, hnm⟩ : ∃ nm, nm = M.length := ⟨_, rfl⟩
  have HNM := Lib.hid hnm
  rw [← hnm] at hcm ⊢
  have hnm2 : nm ≤ 512 := by rw [hnm]; exact HML.out
  clear hM hnm
  by_cases hz : nm = 0
  case pos =>
    subst hz
    have ht0 : t = [] := mem_none HG.out (by rw [← HM.out]; exact List.length_eq_zero_iff.1 HNM.out.symm)
    have hlen : t.length = 0 := by rw [ht0]; rfl
    have hu2 : u = .slice p 0 c := by rw [HUU.out, hlen]
    subst hu2
    clear ht0 hlen
    go_wp2_with fail
    go_ret
    exact ⟨rfl, HB4.out⟩
  have he1 : ((nm : Int) == 0) = false := by simpa using hz
  have he2 : decide ((nm : Int) = 0) = false := by simpa using hz
  have he3 : decide (nm = 0) = false := by simpa using hz
  go_upto_region 8 with fail
  obtain ⟨k, hk⟩ : ∃ k, k = wh % nm := ⟨_, rfl⟩
  have hkn : k < nm := by rw [hk]; exact Nat.mod_lt _ (by omega)
  have hkm : Int.tmod (wh : Int) (nm : Int) = (k : Int) := by rw [hk]; exact Int.ofNat_tmod .. |>.symm
  have hkm2 : (wh : Int) % (nm : Int) = (k : Int) := by rw [hk]; exact (Int.natCast_emod ..).symm
  obtain ⟨g, rfl, hg0, hg1, hcs⟩ := HGM.out (by rw [← HNM.out]; omega)
  have cd := hcs k (by rw [← HNM.out]; exact hkn)
  obtain ⟨d, hd⟩ : ∃ d, d = M.getD k 0 := ⟨_, rfl⟩
  rw [← hd] at cd
  have hdM : d ∈ M := by rw [hd]; simp only [List.getD]; rw [List.getElem?_eq_getElem (by rw [← HNM.out]; exact hkn)]; simp
  have HDR := Lib.hid (HMI.out d hdM)
  clear hk hd hdM hcs
  go_upto_region 9 with fail
  clear hkm hkm2 cd he1 he2 he3 hcm hkn
  obtain ⟨d0, d1, -⟩ := HDR.out
  have HSUM : Hid (∀ x : Nat, x < 512 → (ofF t (512 + (x : Int))).isSome = true → sumC t (copZ d) x = if (x : Int) = d then 0 else 1) := Lib.hid (fun x h1 h2 => others_sum HCT.out d0 d1 h1 h2)
  have HCA : Hid (∀ j, j < 9 → ∃ s : Nat, (copZ d).getD j 0 = s ∧ 1 ≤ s ∧ s < 1024) := Lib.hid (fun j hj => by
    obtain ⟨s, a, -, b, c⟩ := copZ_at d0 d1 hj
    exact ⟨s, a, b, c⟩)
  have HZL := Lib.hid (copZ_length d d0 d1)
  have HCP := Lib.hid (cop_z d d0 d1 w4)
  go_wp2_with fail
  refine HCP.out.mono ?_
  rintro e w5 ⟨uc, rfl, hrc, hA⟩
  have HIC := Lib.hid (ints_of_row hrc)
  obtain ⟨pc, cc, rfl, -⟩ := ints_form hrc
  have HB5 := Lib.hid (below_trans HB4.out hA)
  have cb5 := cellOld cb4 (hA.block _ (cellLt cb4))
  have HIM5 := Lib.hid (ints_below HIM.out hA)
  obtain ⟨-, hgc⟩ := row_ints HIC.out rfl
  rw [HZL.out] at hgc ⊢
  obtain ⟨gc, oc, rfl, hcc⟩ := hgc (by decide)
  have HCC := Lib.hid hcc
  clear hA hrc HCP HB4 cb4 HIM hgc hcc
  have hmm := @run_makeMap Try.prog
  obtain ⟨bm, hbm⟩ : ∃ b, b = w5.heap.size := ⟨_, rfl⟩
  have HM0 : Hid (KMap (intK Try.underlying3) 3 (w5.alloc (.map #[] 0)) bm 0 (cF (fun z => sumC t ((copZ d).take 0) z))) := Lib.hid (by
    rw [hbm]
    have h : (fun z => sumC t ((copZ d).take 0) z) = fun _ => 0 := by funext z; simp [sumC]
    rw [h, cF_zero]
    exact KMap.made _ _ _)
  have HBm0 : Hid (Below bm w5 (w5.alloc (.map #[] 0))) := Lib.hid (by rw [hbm]; exact (Below.refl _ w5).alloc (Nat.le_refl _) _)
  have hsm : bm < (w5.alloc (.map #[] 0)).heap.size := by rw [hbm]; simp
  have HBM := Lib.hid hbm
  go_upto_region 13 with fail
  rw [← hbm]
  clear hmm hbm
  obtain ⟨W5, hW5⟩ : ∃ W, W = w5.alloc (.map #[] 0) := ⟨_, rfl⟩
  rw [← hW5] at HM0 HBm0 hsm ⊢
  clear hW5
  go_wp2_with fail
  go_loopw [65] (fun i wr => ∃ (j : Nat), i = .int .i64 j ∧ j ≤ 9 ∧ Hid (KMap (intK Try.underlying3) 3 wr bm (j * 300000) (cF (fun z => sumC t ((copZ d).take j) z))) ∧ Hid (∀ z, sumC t ((copZ d).take j) z ≤ j * 512) ∧ Hid (Below bm w5 wr) ∧ bm < wr.heap.size) (fun i _ => 9 - (intOf i).toNat)
  case atStart => exact ⟨0, rfl, Nat.zero_le _, HM0, Lib.hid (fun z => by simp [sumC]), HBm0, hsm⟩
  case round =>
    obtain ⟨j, rfl, hj, HM1, HSB, HB, hsz⟩ := hrel
    by_cases hj9 : j < 9
    · have hd1 : decide ((j : Int) < 9) = true := by simp; omega
      have hd1' : decide (j < 9) = true := by simp; omega
      have hji : (j : Int) < 9 := by omega
      obtain ⟨s, hs, s0, s1⟩ := HCA.out j hj9
      have hjl : j < (copZ d).length := by rw [HZL.out]; exact hj9
      have hgs : (copZ d).getD j 0 = (copZ d)[j] := by simp [List.getD, hjl]
      have hTs : (copZ d).take (j + 1) = (copZ d).take j ++ [(s : Int)] := by rw [List.take_succ_eq_append_getElem hjl, ← hgs, hs]
      have hcm := HCC.out j hj9
      rw [hs] at hcm
      have cm := cellOld hcm (HB.out.block gc (by rw [HBM.out]; exact cellLt hcm))
      have HSN := Lib.hid (fun z => sumC_snoc (t := t) hTs z)
      have HBr : Hid (Below w.heap.size w wr) := Lib.hid (HB5.out.trans (HB.out.mono (by rw [HBM.out]; exact HB5.out.size)))
      have cbr := cellOld cb5 (HB.out.block B (by rw [HBM.out]; exact cellLt cb5))
      obtain ⟨hre, -⟩ := resV_at HCT.out s0 s1
      have HOK := Lib.hid (resV_ok HCT.out s0 s1)
      have HRS := Lib.hid (resolution_ok t u (s : Int) wr (HT.out.below HBr.out) (by have := HL.out; omega))
      rw [hre] at HRS
      have hrl : (resV t (s : Int)).length ≤ 512 := by
        rw [(resV_at HCT.out s0 s1).2]
        have h1 := resL_length (ofF t) (hgt s) s
        have h2 := (hgt_ok s0 s1).2
        have h3 := (hgt_ok s0 s1).1
        have h4 : hgt s ≤ 9 := by unfold hgt; omega
        have h5 : 2 ^ hgt s ≤ 2 ^ 9 := Nat.pow_le_pow_right (by decide) h4
        omega
      obtain ⟨l, hl⟩ : ∃ l, l = resV t (s : Int) := ⟨_, rfl⟩
      rw [← hl] at HRS HOK HSN hrl
      clear hs hjl hgs hTs hcm hre hl
      go_wp2_with fail
      refine HRS.out.mono ?_
      rintro e w6 ⟨ur, rfl, hrr, hA⟩
      have HIR := Lib.hid (ints_of_row hrr)
      obtain ⟨pr, cr, rfl, -⟩ := ints_form hrr
      have HB6 := Lib.hid (HB.out.trans (hA.mono (by omega)))
      have HM6 : Hid (KMap (intK Try.underlying3) 3 w6 bm (j * 300000 + 0 * 512) (cF (fun z => sumC t ((copZ d).take j) z + cntI (l.take 0) z))) := Lib.hid (by
        have h := HM1.out.below hA HM1.out.lt
        have e : (fun z => sumC t ((copZ d).take j) z + cntI (l.take 0) z) = fun z => sumC t ((copZ d).take j) z := by funext z; simp [cntI]
        rw [e]
        simpa using h)
      have hs6 := hA.size
      obtain ⟨nl, hnl⟩ : ∃ n, n = l.length := ⟨_, rfl⟩
      have HNL := Lib.hid hnl
      obtain ⟨-, hgl⟩ := row_ints HIR.out rfl
      have HCL := Lib.hid hgl
      rw [← hnl] at hrl ⊢
      clear hrr hA HRS HB HM1 HBr cm hnl hgl cbr
      have hs6' : bm < w6.heap.size := by omega
      go_wp2_with fail
      go_loopw [79] (fun i wr => ∃ (q : Nat), i = .int .i64 q ∧ q ≤ nl ∧ Hid (KMap (intK Try.underlying3) 3 wr bm (j * 300000 + q * 512) (cF (fun z => sumC t ((copZ d).take j) z + cntI (l.take q) z))) ∧ Hid (Below bm w5 wr) ∧ Hid (∀ b, b < w6.heap.size → b ≠ bm → wr.heap[b]? = w6.heap[b]?) ∧ w6.heap.size ≤ wr.heap.size) (fun i _ => nl - (intOf i).toNat)
      case atStart => exact ⟨0, rfl, Nat.zero_le _, HM6, HB6, Lib.hid (fun _ _ _ => rfl), Nat.le_refl _⟩
      case round =>
        obtain ⟨q, rfl, hq, HMq, HBq, HKq, hsq⟩ := hrel
        by_cases hqn : q < nl
        · have hd2 : decide ((q : Int) < (nl : Int)) = true := by simp; omega
          have hd2' : decide (q < nl) = true := by simp; omega
          obtain ⟨g2, o2, rfl, hcs⟩ := HCL.out (by rw [← HNL.out]; omega)
          have hql : q < l.length := by rw [← HNL.out]; exact hqn
          have hcm := hcs q hql
          have hgm : l.getD q 0 = l[q] := by simp [List.getD, hql]
          have hTm : l.take (q + 1) = l.take q ++ [l[q]] := List.take_succ_eq_append_getElem hql
          rw [hgm] at hcm
          have hmem : l[q] ∈ l := List.getElem_mem hql
          obtain ⟨m, hm⟩ : ∃ m, m = l[q] := ⟨_, rfl⟩
          rw [← hm] at hcm hTm hmem
          obtain ⟨k2, rfl, kk1, kk2, -, -⟩ := HOK.out.2 m hmem
          have hfk : froN k2 < toN k2 ∧ toN k2 ≤ 512 := by
            obtain ⟨u1, u2, u3⟩ := under_bd k2 kk1 kk2
            have u4 : (k2 + 1) * 2 ^ levN k2 = k2 * 2 ^ levN k2 + 2 ^ levN k2 := by rw [Nat.add_mul, Nat.one_mul]
            have hp : 0 < 2 ^ levN k2 := Nat.two_pow_pos _
            unfold froN toN
            omega
          obtain ⟨c, hcd⟩ : ∃ c : Int → Nat, c = fun z => sumC t ((copZ d).take j) z + cntI (l.take q) z := ⟨_, rfl⟩
          have HCR : Hid (cntR c (froN k2 : Int) (toN k2 : Int) = fun z => sumC t ((copZ d).take j) z + cntI (l.take (q + 1)) z) := Lib.hid (by
            have := cntR_more (c := fun z => sumC t ((copZ d).take j) z) hTm
            rw [hcd]
            simpa using this)
          have HCB : Hid (∀ z, c z ≤ 10000) := Lib.hid (fun z => by
            have h1 := HSB.out z
            have h2 := cntI_le (l.take q) z
            have h3 : (l.take q).length ≤ 512 := by rw [List.length_take]; exact Nat.le_trans (Nat.min_le_right _ _) (by rw [← HNL.out]; exact hrl)
            rw [hcd]
            show sumC t ((copZ d).take j) z + cntI (l.take q) z ≤ 10000
            omega)
          rw [← hcd] at HMq
          have hg2 : g2 ≠ bm := fun e => by rw [e] at hcm; exact HM6.out.no_cell hcm
          have cm := cellOld hcm (HKq.out g2 (cellLt hcm) hg2)
          have HUK := Lib.hid (under_b k2 kk1 kk2)
          clear hcs hcm hgm hTm hmem hm hql hcd
          obtain ⟨fk, hfk0⟩ : ∃ f, f = froN k2 := ⟨_, rfl⟩
          obtain ⟨tk, htk0⟩ : ∃ f, f = toN k2 := ⟨_, rfl⟩
          rw [← hfk0, ← htk0] at HUK HCR hfk
          clear hfk0 htk0
          obtain ⟨hft, htk⟩ := hfk
          go_wp2_with fail
          refine (HUK.out _).mono ?_
          rintro e w7 ⟨rfl, hA⟩
          have HB7 := Lib.hid (HBq.out.trans (hA.mono (by omega)))
          have HM7 := Lib.hid (HMq.out.below hA HMq.out.lt)
          have hs7 := hA.size
          have c4 : decide ((512 : Int) < (tk : Int) - (fk : Int)) = false := by simp; omega
          have HK7 : Hid (∀ b, b < w6.heap.size → b ≠ bm → w7.heap[b]? = w6.heap[b]?) := Lib.hid (fun b h1 h2 => (hA.block b (by omega)).trans (HKq.out b h1 h2))
          clear hA HBq HMq cm HUK HKq hg2
          go_wp2_with fail
          go_loopw [19] (fun i wr' => ∃ z : Nat, i = .int .i64 z ∧ fk ≤ z ∧ z ≤ tk ∧ Hid (KMap (intK Try.underlying3) 3 wr' bm (j * 300000 + q * 512 + (z - fk)) (cF (cntR c (fk : Int) (z : Int)))) ∧ Hid (Below bm w5 wr') ∧ Hid (∀ b, b < w6.heap.size → b ≠ bm → wr'.heap[b]? = w6.heap[b]?) ∧ w6.heap.size ≤ wr'.heap.size) (fun i _ => tk - (intOf i).toNat)
          case atStart => exact ⟨fk, rfl, Nat.le_refl _, by omega, by rw [cntR_zero, Nat.sub_self, Nat.add_zero]; exact HM7, HB7, HK7, by omega⟩
          case round =>
            obtain ⟨z, rfl, hz0, hz1, HMz, HBz, HKz, hszz⟩ := hrel
            by_cases hzt : z < tk
            · have e1 : decide ((z : Int) < (tk : Int)) = true := by simp; omega
              have e1' : decide (z < tk) = true := by simp; omega
              obtain ⟨cv, hcv⟩ : ∃ cc, cc = cntR c (fk : Int) (z : Int) (z : Int) := ⟨_, rfl⟩
              have hget : (cF (cntR c (fk : Int) (z : Int)) (z : Int)).getD 0 = (cv : Int) := by rw [cF_get, hcv]
              have hcb : cv ≤ 1000001 := by
                have h1 := HCB.out (z : Int)
                rw [hcv]; unfold cntR
                split <;> omega
              have HPT : Hid ((fun y => if y = (z : Int) then some ((cv : Int) + 1) else cF (cntR c (fk : Int) (z : Int)) y) = cF (cntR c (fk : Int) ((z + 1 : Nat) : Int))) := Lib.hid (by
                rw [hcv, cF_put, cntR_succ _ (by omega)]; rfl)
              have HIZ : Hid (I64 (z : Int)) := Lib.hid (I64.of (by omega))
              have HIC : Hid (I64 ((cv : Int) + 1)) := Lib.hid (I64.of (by omega))
              clear hcv
              go_wp2_with (first
                | (at_lookup; refine wpList_look (he := Try.underlying3) rfl _ _ 54 rfl Try.underlying3 Try.underlying54 (zero_int2 _) bm _ _ rfl HMz.out (z : Int) rfl HIZ.out ?_; rw [hget])
                | (at_mapUpdate; refine wpList_put (E := intK Try.underlying3) rfl _ _ _ 54 rfl Try.underlying3 Try.underlying54 bm _ _ rfl HMz.out (by unfold maxLen; omega) (z : Int) rfl HIZ.out ((cv : Int) + 1) rfl HIC.out ?_; intro w8 hm8 ht8))
              have HM8 := Lib.hid (KMap.congr (hm8.mono (n' := j * 300000 + q * 512 + (z + 1 - fk)) (by omega)) (g := cF (cntR c (fk : Int) ((z + 1 : Nat) : Int))) (fun y _ => congrFun HPT.out y))
              have hs8 := ht8.grown.size
              exact ⟨⟨z + 1, by go_num, by omega, by omega, HM8, Lib.hid (HBz.out.grown ht8.grown (by omega) (fun j e => by cases e; exact Nat.le_refl _)), Lib.hid (fun b h1 h2 => (ht8.grown.block b (by omega) (by simpa using h2)).trans (HKz.out b h1 h2)), by omega⟩, by simp only [intOf]; omega⟩
            · have e1 : decide ((z : Int) < (tk : Int)) = false := by simp; omega
              have e1' : decide (z < tk) = false := by simp; omega
              have hzt2 : z = tk := by omega
              have HMn : Hid (KMap (intK Try.underlying3) 3 wr bm (j * 300000 + (q + 1) * 512) (cF (fun z => sumC t ((copZ d).take j) z + cntI (l.take (q + 1)) z))) := Lib.hid (by
                have h := HMz.out
                rw [hzt2, HCR.out] at h
                exact h.mono (by omega))
              go_wp2_with fail
              exact ⟨⟨q + 1, by go_num, by omega, HMn, HBz, HKz, hszz⟩, by simp only [intOf]; omega⟩
        · have hd2 : decide ((q : Int) < (nl : Int)) = false := by simp; omega
          have hd2' : decide (q < nl) = false := by simp; omega
          have hlt : l.take q = l := by rw [show q = nl by omega, HNL.out, List.take_length]
          rw [hlt] at HMq
          have HMn : Hid (KMap (intK Try.underlying3) 3 wr bm ((j + 1) * 300000) (cF (fun z => sumC t ((copZ d).take (j + 1)) z))) := Lib.hid (by
            have e : (fun z => sumC t ((copZ d).take (j + 1)) z) = fun z => sumC t ((copZ d).take j) z + cntI l z := by funext z; exact HSN.out z
            rw [e]
            exact HMq.out.mono (by omega))
          have HSB2 : Hid (∀ z, sumC t ((copZ d).take (j + 1)) z ≤ (j + 1) * 512) := Lib.hid (fun z => by
            rw [HSN.out z]
            have h1 := HSB.out z
            have h2 := cntI_le l z
            rw [← HNL.out] at h2
            omega)
          clear hlt
          go_wp2_with fail
          exact ⟨⟨j + 1, by go_num, by omega, HMn, HSB2, HBq, by omega⟩, by simp only [intOf]; omega⟩
    · have hd1 : decide ((j : Int) < 9) = false := by simp; omega
      have hd1' : decide (j < 9) = false := by simp; omega
      have hj9e : j = 9 := by omega
      have HM9 : Hid (KMap (intK Try.underlying3) 3 wr bm 2700000 (cF (fun z => sumC t (copZ d) z))) := Lib.hid (by
        have h := HM1.out
        rw [hj9e, List.take_of_length_le (by rw [HZL.out]; exact Nat.le_refl _)] at h
        exact h)
      have HBr : Hid (Below w.heap.size w wr) := Lib.hid (HB5.out.trans (HB.out.mono (by rw [HBM.out]; exact HB5.out.size)))
      have HIMr : Hid (IntsAt wr (.slice (some ⟨g, 0, none⟩) M.length cm) M) := Lib.hid (ints_below HIM5.out (by rw [← HBM.out]; exact HB.out))
      obtain ⟨-, hgm⟩ := row_ints HIMr.out rfl
      have HGM2 := Lib.hid hgm
      obtain ⟨W9, hW9⟩ : ∃ W, W = wr := ⟨_, rfl⟩
      rw [← hW9] at HM9 HBr HGM2 ⊢
      clear hj9e hgm hW9 HM1 HIMr
      go_wp2_with fail
      go_loopw [111] (fun i wr => ∃ q : Nat, i = .int .i64 q ∧ q ≤ nm ∧ wr = W9) (fun i _ => nm - (intOf i).toNat)
      case atStart => exact ⟨0, rfl, Nat.zero_le _, rfl⟩
      case round =>
        obtain ⟨q, rfl, hq, hwr⟩ := hrel
        rw [hwr]
        clear hwr
        by_cases hqn : q < nm
        · have hd2 : decide ((q : Int) < (nm : Int)) = true := by simp; omega
          have hd2' : decide (q < nm) = true := by simp; omega
          obtain ⟨g2, o2, e2, hcs⟩ := HGM2.out (by rw [← HNM.out]; omega)
          have hql : q < M.length := by rw [← HNM.out]; exact hqn
          injection e2 with e2
          injection e2 with e3 e4
          subst e3
          subst e4
          have cd := hcs q hql
          rw [Nat.zero_add] at cd
          obtain ⟨x, hxq⟩ : ∃ d, d = M.getD q 0 := ⟨_, rfl⟩
          rw [← hxq] at cd
          have hdM : x ∈ M := by rw [hxq]; simp only [List.getD]; rw [List.getElem?_eq_getElem hql]; simp
          obtain ⟨x0, x1, x2⟩ := HMI.out x hdM
          obtain ⟨xn, rfl⟩ := Int.eq_ofNat_of_zero_le x0
          have hsm := HSUM.out xn (by omega) x2
          have HIX : Hid (I64 (xn : Int)) := Lib.hid (I64.of (by omega))
          clear hcs hql hxq hdM x2
          by_cases hxd : (xn : Int) = d
          · have hget : (cF (fun z => sumC t (copZ d) z) (xn : Int)).getD 0 = 0 := by rw [cF_get]; show ((sumC t (copZ d) xn : Nat) : Int) = 0; rw [hsm, if_pos hxd]; rfl
            have c1 : ((xn : Int) == d) = true := by simpa using hxd
            have c2 : decide ((xn : Int) = d) = true := by simpa using hxd
            clear hsm hxd
            go_wp2_with (at_lookup; refine wpList_look (he := Try.underlying3) rfl _ _ 54 rfl Try.underlying3 Try.underlying54 (zero_int2 _) bm _ _ rfl HM9.out (xn : Int) rfl HIX.out ?_; rw [hget])
            exact ⟨⟨q + 1, by go_num, by omega, by trivial⟩, by simp only [intOf]; omega⟩
          · have hget : (cF (fun z => sumC t (copZ d) z) (xn : Int)).getD 0 = 1 := by rw [cF_get]; show ((sumC t (copZ d) xn : Nat) : Int) = 1; rw [hsm, if_neg hxd]; rfl
            have c1 : ((xn : Int) == d) = false := by simpa using hxd
            have c2 : decide ((xn : Int) = d) = false := by simpa using hxd
            clear hsm hxd
            go_wp2_with (at_lookup; refine wpList_look (he := Try.underlying3) rfl _ _ 54 rfl Try.underlying3 Try.underlying54 (zero_int2 _) bm _ _ rfl HM9.out (xn : Int) rfl HIX.out ?_; rw [hget])
            exact ⟨⟨q + 1, by go_num, by omega, by trivial⟩, by simp only [intOf]; omega⟩
        · have hd2 : decide ((q : Int) < (nm : Int)) = false := by simp; omega
          have hd2' : decide (q < nm) = false := by simp; omega
          go_wp2_with fail
          go_ret
          exact ⟨rfl, HBr.out⟩
theorem u8_nat {a : Int} (h : (Lit.int .u8 a).wf = true) : ∃ n : Nat, a = n ∧ n ≤ 255 := by
  have hb : 0 ≤ a ∧ a < 256 := by
    simp [Lit.wf, IntKind.min, IntKind.max, IntKind.signed, IntKind.bits] at h
    omega
  exact ⟨a.toNat, by omega, by omega⟩
theorem others_w {H : Type} {enc : TypeId × Value → H} {base : Nat} (v0 : Value) (d0 : DataW H) (p0 : List MemPlace) {W : World} (h0 : DataW.Trod enc Try.prog W 0 (fun _ => true) true 24 v0 d0 p0) (o0 : Value.okWide Try.prog W .any base 24 v0)
    (a1 : Int) (w1 : (Lit.int .u8 a1).wf = true) :
    Calls Try.prog 9 #[v0, .int .u8 a1] W fun e w' => e = .returned (.bool true) ∧ Below W.heap.size W w' := by
  obtain ⟨u, t, rfl, ht, hl⟩ := treeIn h0 o0
  obtain ⟨n, rfl, hn⟩ := u8_nat w1
  exact others_walk t u n W ht hl hn
end Go.Proofs.Ytekdekchbnacgaa
