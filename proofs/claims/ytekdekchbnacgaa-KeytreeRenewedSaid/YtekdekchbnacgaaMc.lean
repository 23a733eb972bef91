/- The walk of KeytreeRenewed. -/
import Derived.Test.YtekdekchbnacgaaLu
import Derived.Test.YtekdekchbnacgaaLp
import Derived.Test.YtekdekchbnacgaaPq
namespace Go.Proofs.Ytekdekchbnacgaa
open Go.RowKit
set_option maxRecDepth 100000
set_option linter.unusedVariables false
set_option linter.unusedSimpArgs false

theorem i64_and1023 (n : Int) : bits .and .i64 n 1023 = n % 1024 := by
  have h127 : (BitVec.ofInt 64 1023).toNat = 2 ^ 10 - 1 := by decide
  have key : (BitVec.ofInt 64 n &&& BitVec.ofInt 64 1023).toNat = (n % ((2 ^ 64 : Nat) : Int)).toNat % 2 ^ 10 := by
    rw [BitVec.toNat_and, BitVec.toNat_ofInt, h127, Nat.and_two_pow_sub_one_eq_mod]
  show IntKind.i64.wrap ((BitVec.ofInt 64 n &&& BitVec.ofInt 64 1023).toNat : Nat) = n % 1024
  rw [key, IntKind.wrap_i64]
  omega
theorem pow_grp (a k Q P : Nat) (hP : 1 < P) (h : a ^ Q % P = 1) : (a ^ k % P) ^ Q % P = 1 := by
  rw [← Nat.pow_mod, ← Nat.pow_mul, Nat.mul_comm, Nat.pow_mul, Nat.pow_mod, h, Nat.one_pow, Nat.mod_eq_of_lt hP]
theorem grp_pow {n : Int} {m : Nat} (h : n.toNat = m) (hg : GrpOk n) : m ^ QN % PN = 1 := by rw [← h]; exact hg.2.2
/-- The k-th power of the base. -/
def baseP (k : Nat) : Nat := 4 ^ k % PN
theorem zero_pow_pos {n : Nat} (h : 0 < n) : 0 ^ n = 0 := Nat.zero_pow h
theorem base_grp (k : Nat) : GrpOk (baseP k : Int) := by
  have hp : (baseP k) ^ QN % PN = 1 := pow_grp 4 k QN PN (by rw [PN_eq]; decide) (grp_pow (n := 4) rfl grp4)
  have hlt : baseP k < PN := Nat.mod_lt _ (by rw [PN_eq]; decide)
  have h1 : 1 ≤ baseP k := by
    rcases Nat.eq_zero_or_pos (baseP k) with h | h
    · rw [h, zero_pow_pos (by unfold QN; decide)] at hp
      exact absurd hp (by rw [Nat.zero_mod]; decide)
    · exact h
  rw [PN_eq] at hlt
  exact ⟨by omega, by omega, by rw [Int.toNat_natCast]; exact hp⟩
theorem scalar_ok (k : Nat) (hk : k < 1000000) (w : World) :
    Calls Try.prog 69 #[.int .i64 k] w fun e w' => e = .returned (.bool true) ∧ w = w' := by
  have hd1 : decide ((0 : Int) ≤ (k : Int)) = true := by simp
  have hd2 : decide ((k : Int) < 2305843009213688669) = true := by simp; omega
  go_enter Try.func69, Try.ntmps69
  go_wp2
  go_ret
  exact ⟨rfl, rfl⟩
theorem exp_ok (k : Nat) (hk : k < 1000000) (w : World) :
    Calls Try.prog 54 #[.int .i64 4, .int .i64 k] w fun e w' => e = .returned (.tuple #[.int .i64 (baseP k), .int .i64 0]) ∧ w = w' := by
  have HC := Lib.hid (rgcheck_ok 4)
  rw [chkE_yes grp4] at HC
  have HS := Lib.hid (scalar_ok k hk)
  have HP := Lib.hid (rpower_ok 4 k (by rw [PN_eq]; decide) (by omega))
  go_enter Try.func54, Try.ntmps54
  go_wp2_with fail
  refine (HC.out _).mono ?_
  rintro e w' ⟨rfl, rfl⟩
  go_wp2_with fail
  refine (HS.out _).mono ?_
  rintro e w' ⟨rfl, rfl⟩
  go_wp2_with fail
  refine (HP.out _).mono ?_
  rintro e w' ⟨c, rfl, -, HE, rfl⟩
  go_wp2_with fail
  go_ret2
  exact ⟨by rw [HE.out]; rfl, rfl⟩
theorem base_ok (k : Nat) (hk : k < 1000000) (w : World) :
    Calls Try.prog 30 #[.int .i64 k] w fun e w' => e = .returned (.tuple #[.int .i64 (baseP k), .int .i64 0]) ∧ w = w' := by
  have HE := Lib.hid (exp_ok k hk)
  go_enter Try.func30, Try.ntmps30
  go_wp2_with fail
  refine (HE.out _).mono ?_
  rintro e w' ⟨rfl, rfl⟩
  go_wp2_with fail
  go_ret2
  exact ⟨rfl, rfl⟩

theorem ofF_ren_in {t : List (Int × Int)} {d : Int} {l : List Int} (h0 : 0 ≤ d) (h1 : d < 512) {k : Nat} : ∀ m, k < m → m ≤ 10 → ofF (renL t d l m) ((512 + d) / 2 ^ k) = some (l.getD k 0)
  | 0, h, _ => absurd h (Nat.not_lt_zero _)
  | m + 1, h, hm => by
    rw [ofF_renL h0 h1 (by omega)]
    rcases Nat.lt_or_eq_of_le (Nat.le_of_lt_succ h) with h2 | rfl
    · have := (half_lt h0 h1 (show m ≤ 9 by omega)).2 k h2
      rw [if_neg (by omega)]
      exact ofF_ren_in h0 h1 m h2 (by omega)
    · rw [if_pos rfl]
theorem ofF_ren_out {t : List (Int × Int)} {d : Int} {l : List Int} (h0 : 0 ≤ d) (h1 : d < 512) {y : Int} (hy : ¬ Und (512 + d) y) : ∀ m, m ≤ 10 → ofF (renL t d l m) y = ofF t y
  | 0, _ => by
    show ofF (withoutL t d) y = _
    rw [ofF_without, if_neg (by rw [undB_no hy]; decide)]
  | m + 1, hm => by
    rw [ofF_renL h0 h1 (by omega), if_neg (fun h => hy (by rw [h]; exact half_und h0 h1 (by omega)))]
    exact ofF_ren_out h0 h1 hy m (by omega)
theorem mem_ren {t : List (Int × Int)} {d : Int} {l : List Int} (hd : d ∈ memZ t) : memZ (renL t d l 10) = memZ t := by
  obtain ⟨h0, h1, h2⟩ := (mem_iff _ _).1 hd
  refine strict_ext (memZ_strict _) (memZ_strict _) (fun x => ?_)
  rw [mem_iff, mem_iff]
  by_cases hx : x = d
  · subst hx
    have := ofF_ren_in (t := t) (l := l) h0 h1 (k := 0) 10 (by decide) (by decide)
    simp only [Int.pow_zero, Int.ediv_one] at this
    rw [this]
    simp [h0, h1, h2]
  · by_cases hr : 0 ≤ x
    · rw [ofF_ren_out h0 h1 (fun h => hx (by have := und_leaf h0 h1 (by omega) h; omega)) 10 (by decide)]
    · constructor
      · rintro ⟨a, -⟩; exact absurd a hr
      · rintro ⟨a, -⟩; exact absurd a hr
theorem mem_set {t : List (Int × Int)} {d v : Int} (hd : d ∈ memZ t) : memZ (withL (512 + d, v) (withoutL t d)) = memZ t := by
  obtain ⟨h0, h1, h2⟩ := (mem_iff _ _).1 hd
  have hf : ∀ y, ofF (withL (512 + d, v) (withoutL t d)) y = if y = 512 + d then some v else if undB (512 + d) y = true then none else ofF t y := fun y => by
    rw [ofF_with (without_ne (und_self (by omega))), ofF_without]
  refine strict_ext (memZ_strict _) (memZ_strict _) (fun x => ?_)
  rw [mem_iff, mem_iff, hf]
  by_cases hx : x = d
  · subst hx
    rw [if_pos rfl]
    simp [h0, h1, h2]
  · by_cases hr : 0 ≤ x
    · rw [if_neg (by omega), if_neg (fun h => hx (by have := und_leaf h0 h1 (by omega) ((undB_iff _ _).1 h); omega))]
    · constructor
      · rintro ⟨a, -⟩; exact absurd a hr
      · rintro ⟨a, -⟩; exact absurd a hr
theorem resV_root {t : List (Int × Int)} (hg : Good t) (h : (ofF t 1).isSome = true) : resE t 1 = 0 ∧ resV t 1 = [1] := by
  have he : resE t 1 = 0 := by unfold resE; rw [if_pos (good_chk hg), if_neg (by decide)]
  refine ⟨he, ?_⟩
  unfold resV
  rw [if_pos he]
  exact resL_some h
end Go.Proofs.Ytekdekchbnacgaa
namespace Go.Proofs.Ytekdekchbnacgaa
open Go.RowKit Go.Maps
set_option maxRecDepth 100000
set_option linter.unusedVariables false
set_option linter.unusedSimpArgs false

/-- The path's keys. -/
def keysL (r k : Nat) : List Int := (List.range k).map fun j => (baseP (r * 16 + j) : Int)
theorem keysL_succ (r k : Nat) : keysL r (k + 1) = keysL r k ++ [(baseP (r * 16 + k) : Int)] := by
  unfold keysL; rw [List.range_succ, List.map_append]; rfl
theorem keysL_length (r k : Nat) : (keysL r k).length = k := by unfold keysL; simp
theorem baseP_lt (k : Nat) : baseP k < 4611686018427377339 := by
  have h : baseP k < PN := Nat.mod_lt _ (by rw [PN_eq]; decide)
  rw [PN_eq] at h
  exact h
theorem keysL_get (r k j : Nat) (h : j < k) : (keysL r k).getD j 0 = (baseP (r * 16 + j) : Int) := by unfold keysL; simp [List.getD, h]
theorem keysL_i64 (r k j : Nat) : I64 ((keysL r k).getD j 0) := by
  rcases Nat.lt_or_ge j k with h | h
  · rw [keysL_get r k j h]; have := baseP_lt (r * 16 + j); exact I64.of (by omega)
  · have : (keysL r k).getD j 0 = 0 := by simp only [List.getD]; rw [List.getElem?_eq_none (by rw [keysL_length]; exact h)]; rfl
    rw [this]; exact I64.of (by decide)
theorem keysL_ok (r k : Nat) : AllOk (keysL r k) := fun j hj => by
  rw [keysL_length] at hj
  rw [keysL_get r k j hj]; exact chkE_yes (base_grp _)

theorem cell_keep {P : Program} {k e : TypeId} {α : Type} {E : EKind P e α} {w wr : World} {bm n : Nat} {f : Int → Option α} (hM : KMap E k w bm n f) (hk : ∀ b, b < w.heap.size → b ≠ bm → wr.heap[b]? = w.heap[b]?) {b i : Nat} {v : Value} (h : w.cell? ⟨b, i, none⟩ = some v) : wr.cell? ⟨b, i, none⟩ = some v :=
  cellOld h (hk b (cellLt h) (fun e => by subst e; exact hM.no_cell h))
theorem nodes_keep {P : Program} {k e : TypeId} {α : Type} {E : EKind P e α} {w wr : World} {bm n : Nat} {f : Int → Option α} (hM : KMap E k w bm n f) (hk : ∀ b, b < w.heap.size → b ≠ bm → wr.heap[b]? = w.heap[b]?) {v : Value} {t : List (Int × Int)} (h : NodesAt w v t) : NodesAt wr v t := by
  obtain ⟨p, c, rfl, h1, h2, h3, h4⟩ := h
  refine ⟨p, c, rfl, h1, h2, fun h0 => ?_, h4⟩
  obtain ⟨g, o, rfl, h5⟩ := h3 h0
  exact ⟨g, o, rfl, fun j hj => ⟨cell_keep hM hk (h5 j hj).1, cell_keep hM hk (h5 j hj).2⟩⟩
theorem ints_keep {P : Program} {k e : TypeId} {α : Type} {E : EKind P e α} {w wr : World} {bm n : Nat} {f : Int → Option α} (hM : KMap E k w bm n f) (hk : ∀ b, b < w.heap.size → b ≠ bm → wr.heap[b]? = w.heap[b]?) {v : Value} {l : List Int} (h : IntsAt w v l) : IntsAt wr v l := by
  obtain ⟨p, c, rfl, h1, h2⟩ := h
  refine ⟨p, c, rfl, h1, fun h0 => ?_⟩
  obtain ⟨g, o, rfl, h5⟩ := h2 h0
  exact ⟨g, o, rfl, fun j hj => cell_keep hM hk (h5 j hj)⟩
theorem nl_get {d : Int} (h0 : 0 ≤ d) (h1 : d < 512) {j : Nat} (hj : j < 10) : ((512 + d) :: pathZ d).getD j 0 = (512 + d) / 2 ^ j := by
  cases j with
  | zero => simp
  | succ j =>
    rw [← pathZ_get h0 h1 (by omega)]
    rfl
theorem nl_nat {d : Int} (h0 : 0 ≤ d) (h1 : d < 512) {j : Nat} (hj : j < 10) : ∃ y : Nat, (512 + d) / 2 ^ j = y ∧ 1 ≤ y ∧ y < 1024 ∧ levN y = j := by
  obtain ⟨n, rfl⟩ := Int.eq_ofNat_of_zero_le h0
  have h : ∀ n : Fin 512, ∀ j : Fin 10, levN ((512 + n.val) / 2 ^ j.val) = j.val := by decide +kernel
  have hb := half_lt (d := (n : Int)) h0 h1 (show j ≤ 9 by omega)
  have hu := und_range (d := (n : Int)) (k := j) h0 h1
  have c : (512 + (n : Int)) / 2 ^ j = (((512 + n) / 2 ^ j : Nat) : Int) := by
    rw [Int.natCast_ediv]; push_cast; rfl
  rw [c] at hb hu ⊢
  exact ⟨_, rfl, by omega, by omega, h ⟨n, by omega⟩ ⟨j, hj⟩⟩

theorem path_cell {w : World} {gp cp : Nat} {P : List Int} (h : IntsAt w (.slice (some ⟨gp, 0, none⟩) 10 cp) P) {j : Nat} (hj : j < 10) : w.cell? ⟨gp, j, none⟩ = some (.int .i64 (P.getD j 0)) := by
  obtain ⟨h1, hq⟩ := row_ints h rfl
  obtain ⟨g', o', e1, hq⟩ := hq (by omega)
  injection e1 with e1
  injection e1 with e1 e2
  subst e1; subst e2
  have := hq j (by omega)
  rw [Nat.zero_add] at this
  exact this
theorem keep_below {w w1 w2 : World} {bm : Nat} (hk : ∀ b, b < w.heap.size → b ≠ bm → w1.heap[b]? = w.heap[b]?) (hs : w.heap.size ≤ w1.heap.size) (hB : Below w1.heap.size w1 w2) : ∀ b, b < w.heap.size → b ≠ bm → w2.heap[b]? = w.heap[b]? :=
  fun b hb hne => (hB.block b (by omega)).trans (hk b hb hne)
theorem keep_grown {w w1 w2 : World} {bm : Nat} (hk : ∀ b, b < w.heap.size → b ≠ bm → w1.heap[b]? = w.heap[b]?) (hs : w.heap.size ≤ w1.heap.size) (hB : w1.grownBy w2 (some bm)) : ∀ b, b < w.heap.size → b ≠ bm → w2.heap[b]? = w.heap[b]? :=
  fun b hb hne => (hB.block b (by omega) (fun e => hne (by injection e))).trans (hk b hb hne)
theorem take_snoc {l : List Int} {j : Nat} (h : j < l.length) : l.take (j + 1) = l.take j ++ [l.getD j 0] := by
  rw [List.take_succ_eq_append_getElem h]; simp [List.getD, h]
theorem und_nine {d : Int} (h0 : 0 ≤ d) (h1 : d < 512) : (512 + d) / 2 ^ 9 = 1 := by
  have h : (2 : Int) ^ 9 = 512 := by decide
  rw [h]
  omega

set_option maxHeartbeats 8000000 in
theorem renewed_walk (t : List (Int × Int)) (u : Value) (wh : Nat) (x : Int) (w : World) (ht : NodesAt w u t) (hl : t.length ≤ maxLen) (hw1 : wh ≤ 255) :
    Calls Try.prog 7 #[.agg #[u], .int .u8 wh, .int .i64 x] w fun e w' => e = .returned (.bool true) ∧ Below w.heap.size w w' := by
  obtain ⟨B, hB⟩ : ∃ B, B = w.heap.size := ⟨_, rfl⟩
  obtain ⟨W0, hW0⟩ : ∃ W0, W0 = w.alloc (.cells #[u] 24) := ⟨_, rfl⟩
  have hb1 : Below w.heap.size w W0 := by rw [hW0]; exact below_alloc _ _
  have cb : W0.cell? ⟨B, 0, none⟩ = some u := by rw [hW0, hB]; unfold World.cell?; rw [World.alloc_heap_new]; rfl
  have HS := Lib.hid (sane_ok W0)
  have HT := Lib.hid ht
  obtain ⟨p, c, rfl⟩ := nodes_form ht
  obtain ⟨u, hu⟩ : ∃ u, u = Value.slice p t.length c := ⟨_, rfl⟩
  have hl2 := hl
  clear ht hl
  go_enter Try.func7, Try.ntmps7
  go_wp2_with fail
  rw [← hW0, ← hB]
  have HBW := Lib.hid hB
  clear hW0 hB
  refine HS.out.mono ?_
  rintro e w1 ⟨rfl, hB1⟩
  have cb1 := cellOld cb (hB1.block _ (cellLt cb))
  have HB1 := Lib.hid (below_trans hb1 hB1)
  have HF := Lib.hid (few_ok t (.slice p t.length c) w1 (HT.out.below HB1.out) hl2)
  clear hB1 hb1 cb HS
  by_cases hfew : t.length ≤ 80
  case neg =>
    rw [decide_eq_false hfew] at HF
    clear hfew hl2
    generalize t.length = n at *
    go_wp2_with fail
    refine HF.out.mono ?_
    rintro e w2 ⟨rfl, hB2⟩
    have HB2 := Lib.hid (below_trans HB1.out hB2)
    clear hB2 HF
    go_wp2_with fail
    go_ret
    exact ⟨rfl, HB2.out⟩
  rw [decide_eq_true hfew] at HF
  have HL : Hid (t.length ≤ 80) := Lib.hid hfew
  clear hl2 hfew
  rw [← hu] at HT HF cb1 ⊢
  have HUU := Lib.hid hu
  clear hu
  generalize Value.agg #[Value.slice p t.length c] = arg0
  go_wp2_with fail
  refine HF.out.mono ?_
  rintro e w2 ⟨rfl, hB2⟩
  have cb2 := cellOld cb1 (hB2.block _ (cellLt cb1))
  have HB2 := Lib.hid (below_trans HB1.out hB2)
  clear hB2 cb1 HB1 HF
  have HCK := Lib.hid (check_ok t u w2 (HT.out.below HB2.out) (by have := HL.out; omega))
  obtain ⟨ck, hck⟩ : ∃ ck, ck = chkT t := ⟨_, rfl⟩
  rw [← hck] at HCK
  go_wp2_with fail
  refine HCK.out.mono ?_
  rintro e w3 ⟨rfl, hB3⟩
  have cb3 := cellOld cb2 (hB3.block _ (cellLt cb2))
  have HB3 := Lib.hid (below_trans HB2.out hB3)
  clear hB3 cb2 HB2 HCK
  by_cases h0 : ck = 0
  case neg =>
    have hd1 : decide (ck = 0) = false := by simpa using h0
    have hd2 : (ck == 0) = false := by simpa using h0
    have hd3 : (ck != 0) = true := by simpa using h0
    clear h0 hck
    go_wp2_with fail
    go_ret
    exact ⟨rfl, HB3.out⟩
  subst h0
  have HCT : Hid (chkT t = 0) := Lib.hid hck.symm
  have HG := Lib.hid (chk_good hck.symm)
  clear hck
  have HMB := Lib.hid (members_ok t u w3 (HT.out.below HB3.out) (by have := HL.out; omega))
  go_wp2_with fail
  refine HMB.out.mono ?_
  rintro e w4 ⟨um, rfl, hrm, hB4⟩
  have HIM := Lib.hid (ints_of_row hrm)
  obtain ⟨pm, cm, rfl, hcm, hgm⟩ := ints_form hrm
  have HGM := Lib.hid hgm
  have cb4 := cellOld cb3 (hB4.block _ (cellLt cb3))
  have HB4 := Lib.hid (below_trans HB3.out hB4)
  clear hrm hB4 cb3 HB3 HMB hgm
  have HMI := Lib.hid (fun d (h : d ∈ memZ t) => (mem_iff t d).1 h)
  have HML := Lib.hid (memZ_length t)
  obtain ⟨M, hM⟩ : ∃ M, M = memZ t := ⟨_, rfl⟩
  rw [← hM] at HIM HGM hcm HMI HML ⊢
  have HM := Lib.hid hM
  obtain ⟨nm, hnm⟩ : ∃ nm, nm = M.length := ⟨_, rfl⟩
  have HNM := Lib.hid hnm
  rw [← hnm] at hcm ⊢
  have hnm2 : nm ≤ 512 := by rw [hnm]; exact HML.out
  clear hM hnm
  by_cases hz : nm = 0
  case pos =>
    subst hz
    have ht0 : t = [] := mem_none HG.out (by rw [← HM.out]; exact List.length_eq_zero_iff.1 HNM.out.symm)
    have hlen : t.length = 0 := by rw [ht0]; rfl
    have hu2 : u = .slice p 0 c := by rw [HUU.out, hlen]
    subst hu2
    clear ht0 hlen
    go_wp2_with fail
    go_ret
    exact ⟨rfl, HB4.out⟩
  have he1 : ((nm : Int) == 0) = false := by simpa using hz
  have he2 : decide ((nm : Int) = 0) = false := by simpa using hz
  have he3 : decide (nm = 0) = false := by simpa using hz
  go_upto_region 8 with fail
  obtain ⟨k, hk⟩ : ∃ k, k = wh % nm := ⟨_, rfl⟩
  have hkn : k < nm := by rw [hk]; exact Nat.mod_lt _ (by omega)
  have hkm : Int.tmod (wh : Int) (nm : Int) = (k : Int) := by rw [hk]; exact Int.ofNat_tmod .. |>.symm
  have hkm2 : (wh : Int) % (nm : Int) = (k : Int) := by rw [hk]; exact (Int.natCast_emod ..).symm
  obtain ⟨g, rfl, hg0, hg1, hcs⟩ := HGM.out (by rw [← HNM.out]; omega)
  have cd := hcs k (by rw [← HNM.out]; exact hkn)
  obtain ⟨d, hd⟩ : ∃ d, d = M.getD k 0 := ⟨_, rfl⟩
  rw [← hd] at cd
  have hdM : d ∈ M := by rw [hd]; simp only [List.getD]; rw [List.getElem?_eq_getElem (by rw [← HNM.out]; exact hkn)]; simp
  have HDM := Lib.hid hdM
  have HDR := Lib.hid (HMI.out d hdM)
  clear hk hd hdM hcs
  go_upto_region 9 with fail
  clear hkm hkm2 cd he1 he2 he3 hcm hkn
  obtain ⟨d0, d1, -⟩ := HDR.out
  obtain ⟨i0, hi, hz0, hz1, hzb⟩ := info_parts info_i64
  obtain ⟨r, hr⟩ : ∃ r, r = (x % 1024).toNat := ⟨_, rfl⟩
  have hand : bits .and .i64 x 1023 = (r : Int) := by rw [i64_and1023, hr]; omega
  have hr2 : r ≤ 1023 := by omega
  clear hr
  have HR0 : Hid ((w4.alloc (.cells #[] 3)).ownsRow w4.heap.size 3 1 (.slice (some ⟨w4.heap.size, 0, none⟩) 0 0) 0 ((keysL r 0).map (Value.int .i64))) := Lib.hid (World.ownsRow_lit (base := w4.heap.size) (size := 1) (e := 3) w4 #[] 0 (Nat.le_refl _) (by unfold maxLen; omega) (by simp))
  have HB40 := Lib.hid (below_alloc w4 (.cells #[] 3))
  go_wp2_with fail
  obtain ⟨W40, hW40⟩ : ∃ W, W = w4.alloc (.cells #[] 3) := ⟨_, rfl⟩
  rw [← hW40] at HR0 HB40 ⊢
  clear hW40
  go_loopw [9, 66] (fun pv i wr => ∃ (j : Nat), i = .int .i64 j ∧ j ≤ 10 ∧ Hid (wr.ownsRow w4.heap.size 3 1 pv j ((keysL r j).map (Value.int .i64))) ∧ Hid (Below w4.heap.size w4 wr)) (fun _ i _ => 10 - (intOf i).toNat)
  case atStart => exact ⟨0, rfl, Nat.zero_le _, HR0, HB40⟩
  case round =>
    obtain ⟨j, rfl, hj, HR, HB⟩ := hrel
    by_cases hj10 : j < 10
    · have hd1 : decide ((j : Int) < 10) = true := by simp; omega
      have hd1' : decide (j < 10) = true := by simp; omega
      have HBA := Lib.hid (base_ok (r * 16 + j) (by omega))
      have hcast : ((r * 16 + j : Nat) : Int) = (r : Int) * 16 + (j : Int) := by push_cast; rfl
      rw [hcast] at HBA
      have HKS := Lib.hid (keysL_succ r j)
      obtain ⟨pk, hpk⟩ : ∃ p, p = baseP (r * 16 + j) := ⟨_, rfl⟩
      rw [← hpk] at HBA HKS
      clear hpk hcast
      go_wp2_with fail
      refine (HBA.out _).mono ?_
      rintro e w5 ⟨rfl, hw⟩
      rw [← hw]
      clear hw w5 HBA
      have HCN := Lib.hid (cell_one_new wr (.int .i64 (pk : Int)) 3)
      have HRa := Lib.hid (HR.out.alloc (.cells #[.int .i64 (pk : Int)] 3))
      have hws := HB.out.size
      go_wp2_with (at_builtin; refine wpList_append_own _ rfl _ _ 27 rfl w4.heap.size 3 i0 (.int .i64 0) 1 8 Try.underlying27 hi hz0 hz1 hzb rfl (by decide) _ _ _ rfl HRa.out ⟨wr.heap.size, 0, none⟩ 1 1 [.int .i64 (pk : Int)] rfl rfl HCN.out (by simp [Value.oneCell']) (by unfold maxLen; omega) (by omega) (by simp; omega) ?_; intro v' w6 hown6 hgrow6 _)
      have HB6 := Lib.hid ((HB.out.alloc HB.out.size (.cells #[.int .i64 (pk : Int)] 3)).grown hgrow6 (by simp; omega) (fun j hj => (HRa.out.lt j hj).1))
      refine ⟨⟨j + 1, by go_num, by omega, ?_, HB6⟩, by simp only [intOf]; omega⟩
      rw [HKS.out, List.map_append]
      exact Lib.hid hown6
    · have hd1 : decide ((j : Int) < 10) = false := by simp; omega
      have hd1' : decide (j < 10) = false := by simp; omega
      have hj10e : j = 10 := by omega
      have hrow := HR.out
      rw [hj10e] at hrow
      have HIPv := Lib.hid (ints_of_row (l := keysL r 10) (by rw [keysL_length]; exact hrow))
      obtain ⟨P, hP⟩ : ∃ P, P = keysL r 10 := ⟨_, rfl⟩
      have HPL : Hid (P.length = 10) := Lib.hid (by rw [hP]; exact keysL_length r 10)
      have HPI : Hid (∀ j, I64 (P.getD j 0)) := Lib.hid (fun j => by rw [hP]; exact keysL_i64 r 10 j)
      have HPK : Hid (AllOk P) := Lib.hid (by rw [hP]; exact keysL_ok r 10)
      rw [← hP] at HIPv
      obtain ⟨pp, cp, hpv, -, hgp⟩ := ints_form (w := wr) (B := w4.heap.size) (l := P) (by rw [HPL.out, hP]; exact hrow)
      rw [HPL.out] at hpv
      obtain ⟨gp, rfl, hgp0, hgp1, hgpc⟩ := hgp (by rw [HPL.out]; decide)
      have cP0 := hgpc 0 (by rw [HPL.out]; decide)
      have HCPv := Lib.hid hgpc
      have HBr : Hid (Below w.heap.size w wr) := Lib.hid (below_trans HB4.out HB.out)
      have cbr := cellOld cb4 (HB.out.block _ (cellLt cb4))
      have HIMr := Lib.hid (ints_below HIM.out HB.out)
      have HI : Hid (I64 d) := Lib.hid (I64.of (by omega))
      have hce : chgE t d true = 0 := chg_mem HCT.out (by rw [← HM.out]; exact HDM.out) true
      have hre : renE t d P = 0 := by unfold renE; rw [if_pos hce, if_pos ⟨HPL.out, HPK.out⟩]
      have hrr : renR t d P = renL t d P 10 := by unfold renR; rw [if_pos hre]
      have hse : setE t d (P.getD 0 0) = 0 := by
        have hcf : chgE t d false = 0 := chg_mem HCT.out (by rw [← HM.out]; exact HDM.out) false
        unfold setE; rw [if_pos hcf, if_pos (HPK.out 0 (by rw [HPL.out]; decide))]
      have hsl : setL t d (P.getD 0 0) = withL (512 + d, P.getD 0 0) (withoutL t d) := by unfold setL; rw [if_pos hse]
      obtain ⟨X, hX⟩ : ∃ X, X = renL t d P 10 := ⟨_, rfl⟩
      obtain ⟨Y, hY⟩ : ∃ Y, Y = withL (512 + d, P.getD 0 0) (withoutL t d) := ⟨_, rfl⟩
      rw [← hX] at hrr
      rw [← hY] at hsl
      have HLX : Hid (X.length ≤ 90) := Lib.hid (by rw [hX]; have := renL_length t d P 10; have := HL.out; omega)
      have HLY : Hid (Y.length ≤ 90) := Lib.hid (by rw [← hsl]; have := setL_length t d (P.getD 0 0); have := HL.out; omega)
      have HGX : Hid (Good X) := Lib.hid (by rw [hX]; exact good_ren HG.out d0 d1 HPL.out HPK.out)
      have HGY : Hid (Good Y) := Lib.hid (by rw [hY]; exact good_set HG.out d0 d1 (chkE_grp (HPK.out 0 (by rw [HPL.out]; decide))))
      have HMX : Hid (memZ X = M) := Lib.hid (by rw [hX, HM.out]; exact mem_ren (by rw [← HM.out]; exact HDM.out))
      have HMY : Hid (memZ Y = M) := Lib.hid (by rw [hY, HM.out]; exact mem_set (by rw [← HM.out]; exact HDM.out))
      have HFX : Hid (∀ i, i < 10 → ofF X ((512 + d) / 2 ^ i) = some (P.getD i 0)) := Lib.hid (fun i hi => by rw [hX]; exact ofF_ren_in d0 d1 10 hi (by decide))
      have HOX : Hid (∀ y, ¬ Und (512 + d) y → ofF X y = ofF t y) := Lib.hid (fun y hy => by rw [hX]; exact ofF_ren_out d0 d1 hy 10 (by decide))
      have HFY : Hid (∀ y, ofF Y y = if y = 512 + d then some (P.getD 0 0) else if undB (512 + d) y = true then none else ofF t y) := Lib.hid (fun y => by rw [hY, ofF_with (without_ne (und_self (by omega))), ofF_without])
      obtain ⟨pk0, hpk0⟩ : ∃ p, p = P.getD 0 0 := ⟨_, rfl⟩
      rw [← hpk0] at cP0 hse hsl HFY
      have HPK0 : Hid (I64 pk0) := Lib.hid (by rw [hpk0]; exact HPI.out 0)
      have HP0 := Lib.hid hpk0
      rw [hpv]
      have HIPr : Hid (IntsAt wr (.slice (some ⟨gp, 0, none⟩) 10 cp) P) := Lib.hid (by rw [← hpv]; exact HIPv.out)
      have HER := Lib.hid (And.intro hre (And.intro hrr (And.intro hse hsl)))
      obtain ⟨W1, hW1⟩ : ∃ W, W = wr := ⟨_, rfl⟩
      rw [← hW1] at HBr cbr HIMr cP0 HIPr hgp1 ⊢
      clear hrow HR HB hj10e hgpc hgp hce hre hrr hse hsl hX hY hP hpv hpk0 hW1 cb4 HB4 HIM HIPv hand
      have HK5 := Lib.hid (renew_list t u d P (.slice (some ⟨gp, 0, none⟩) 10 cp) W1 (HT.out.below HBr.out) (by have := HL.out; omega) HI.out HIPr.out (by rw [HPL.out]; decide) HPI.out)
      rw [HER.out.1, HER.out.2.1] at HK5
      go_wp2_with fail
      refine HK5.out.mono ?_
      rintro e v5 ⟨u5, rfl, hn, hB⟩
      obtain ⟨p5, c5, rfl⟩ := nodes_form hn
      obtain ⟨b5, hb⟩ : ∃ b, b = v5.heap.size := ⟨_, rfl⟩
      have hA := below_trans hB (below_alloc v5 (.cells #[.slice p5 X.length c5] 24))
      have HN5 := Lib.hid (hn.below (below_alloc v5 (.cells #[.slice p5 X.length c5] 24)))
      have cc5 : (v5.alloc (.cells #[.slice p5 X.length c5] 24)).cell? ⟨b5, 0, none⟩ = some (.slice p5 X.length c5) := by rw [hb]; unfold World.cell?; rw [World.alloc_heap_new]; rfl
      have cb5 := cellOld cbr (hA.block _ (cellLt cbr))
      have HB5 := Lib.hid (below_trans HBr.out hA)
      have HMI := Lib.hid (ints_below HIMr.out hA)
      clear HIMr
      have HIMr := HMI
      clear HMI
      have HMI := Lib.hid (ints_below HIPr.out hA)
      clear HIPr
      have HIPr := HMI
      clear HMI
      clear hn hB hA cbr HBr HK5
      go_upto_region 19 with fail
      rw [← hb]
      obtain ⟨w5, hw⟩ : ∃ W, W = v5.alloc (.cells #[.slice p5 X.length c5] 24) := ⟨_, rfl⟩
      rw [← hw] at HN5 cc5 HIMr HIPr cb5 HB5 ⊢
      clear hw hb
      go_upto_region 19 with fail
      have cP5 : w5.cell? ⟨gp, 0, none⟩ = some (.int .i64 pk0) := by
        obtain ⟨-, hq⟩ := row_ints HIPr.out rfl
        obtain ⟨g', o', e1, hq⟩ := hq (by decide)
        injection e1 with e1
        injection e1 with e1 e2
        subst e1; subst e2
        have := hq 0 (by decide)
        rw [HP0.out]; exact this
      have HK6 := Lib.hid (fun w' (hB : Below w5.heap.size w5 w') => set_list t u d pk0 w' (HT.out.below (HB5.out.trans (hB.mono HB5.out.size))) (by have := HL.out; omega) HI.out HPK0.out)
      rw [HER.out.2.2.1, HER.out.2.2.2] at HK6
      go_cut [15, 16] (fun v15 v16 wx => ∃ b p c, v15 = .pointer (some ⟨b, 0, none⟩) ∧ v16 = .int .i64 0 ∧ wx.cell? ⟨b, 0, none⟩ = some (.slice p Y.length c) ∧ NodesAt wx (.slice p Y.length c) Y ∧ Below w5.heap.size w5 wx)
      case first =>
        refine wp_region_noPanic ?_
        refine region_tree (fun W' => W'.cell? ⟨B, 0, none⟩ = some u ∧ W'.cell? ⟨gp, 0, none⟩ = some (.int .i64 pk0)) (.take 0 (.take 1 (.take 2 (.take 3 (.take 4 (.two 5 9 (.take 6 (.take 7 (.take 8 (.one 9 (.one 10 (.one 11 .done)))))) (.one 5 (.take 6 (.take 7 (.take 8 (.one 10 (.one 11 .done))))))))))) ) (by kernel_rfl) (by kernel_rfl) (by kernel_rfl) (by decide) (fun _ _ _ _ h => h) ⟨cb5, cP5⟩ ?_
        (refine tree_take (v := ?_) rfl (by rfl) (fun W' hS => ?_) ?_; rotate_left; (obtain ⟨s0, s1⟩ := hS; go_simp; with_reducible rfl); (try simp only [Act.put, List.getElem_toArray, List.getElem_cons_succ, List.getElem_cons_zero, List.setIfInBounds_toArray, List.set_cons_zero, List.set_cons_succ]))
        (refine tree_take (v := ?_) rfl (by rfl) (fun W' hS => ?_) ?_; rotate_left; (obtain ⟨s0, s1⟩ := hS; go_simp; with_reducible rfl); (try simp only [Act.put, List.getElem_toArray, List.getElem_cons_succ, List.getElem_cons_zero, List.setIfInBounds_toArray, List.set_cons_zero, List.set_cons_succ]))
        (refine tree_take (v := ?_) rfl (by rfl) (fun W' hS => ?_) ?_; rotate_left; (obtain ⟨s0, s1⟩ := hS; go_simp; with_reducible rfl); (try simp only [Act.put, List.getElem_toArray, List.getElem_cons_succ, List.getElem_cons_zero, List.setIfInBounds_toArray, List.set_cons_zero, List.set_cons_succ]))
        (refine tree_take (v := ?_) rfl (by rfl) (fun W' hS => ?_) ?_; rotate_left; (obtain ⟨s0, s1⟩ := hS; go_simp; with_reducible rfl); (try simp only [Act.put, List.getElem_toArray, List.getElem_cons_succ, List.getElem_cons_zero, List.setIfInBounds_toArray, List.set_cons_zero, List.set_cons_succ]))
        (refine tree_take (v := ?_) rfl (by rfl) (fun W' hS => ?_) ?_; rotate_left; (obtain ⟨s0, s1⟩ := hS; go_simp; with_reducible rfl); (try simp only [Act.put, List.getElem_toArray, List.getElem_cons_succ, List.getElem_cons_zero, List.setIfInBounds_toArray, List.set_cons_zero, List.set_cons_succ]))
        obtain ⟨Wd, hWd⟩ : ∃ W, W = w5.drew := ⟨_, rfl⟩
        have cBd : Wd.cell? ⟨B, 0, none⟩ = some u := by rw [hWd]; exact cb5
        have cPd : Wd.cell? ⟨gp, 0, none⟩ = some (.int .i64 pk0) := by rw [hWd]; exact cP5
        have HBd : Hid (Below w5.heap.size w5 Wd) := Lib.hid (by rw [hWd]; exact below_drew (Below.refl _ _))
        rw [← hWd]
        clear hWd
        refine tree_two ?_ ?_
        · refine tree_one rfl (fun K' hK => ?_)
          go_simp
          refine (HK6.out Wd HBd.out).mono ?_
          rintro e w10 ⟨uy, rfl, hx, hBn⟩
          obtain ⟨p7, c7, rfl⟩ := nodes_form hx
          have cB10 := cellOld cBd (hBn.block _ (cellLt cBd))
          have cP10 := cellOld cPd (hBn.block _ (cellLt cPd))
          have HB10 := Lib.hid (HBd.out.trans (hBn.mono HBd.out.size))
          refine hK.out _ _ ⟨cB10, cP10⟩ fun _ => ?_
          clear hK hBn
          (try simp only [Act.put, List.getElem_toArray, List.getElem_cons_succ, List.getElem_cons_zero, List.setIfInBounds_toArray, List.set_cons_zero, List.set_cons_succ])
          (refine tree_take (v := ?_) rfl (by rfl) (fun W' hS => ?_) ?_; rotate_left; (obtain ⟨s0, s1⟩ := hS; go_simp; with_reducible rfl); (try simp only [Act.put, List.getElem_toArray, List.getElem_cons_succ, List.getElem_cons_zero, List.setIfInBounds_toArray, List.set_cons_zero, List.set_cons_succ]))
          (refine tree_take (v := ?_) rfl (by rfl) (fun W' hS => ?_) ?_; rotate_left; (obtain ⟨s0, s1⟩ := hS; go_simp; with_reducible rfl); (try simp only [Act.put, List.getElem_toArray, List.getElem_cons_succ, List.getElem_cons_zero, List.setIfInBounds_toArray, List.set_cons_zero, List.set_cons_succ]))
          (refine tree_take (v := ?_) rfl (by rfl) (fun W' hS => ?_) ?_; rotate_left; (obtain ⟨s0, s1⟩ := hS; go_simp; with_reducible rfl); (try simp only [Act.put, List.getElem_toArray, List.getElem_cons_succ, List.getElem_cons_zero, List.setIfInBounds_toArray, List.set_cons_zero, List.set_cons_succ]))
          refine tree_one rfl (fun K' hK => ?_)
          go_simp
          obtain ⟨bC, hbC⟩ : ∃ b, b = w10.heap.size := ⟨_, rfl⟩
          have hx11 : Boxed (w10.alloc (.cells #[.slice none 0 0] 24)) bC 24 (.slice none 0 0) := by rw [hbC]; exact box_new _ _ _
          have hle : w5.heap.size ≤ bC := by rw [hbC]; exact HB10.out.size
          have hAl := below_alloc w10 (.cells #[.slice none 0 0] 24)
          have HX11 := Lib.hid (hx.below hAl)
          have cB11 := cellOld cB10 (hAl.block _ (cellLt cB10))
          have cP11 := cellOld cP10 (hAl.block _ (cellLt cP10))
          have HB11 := Lib.hid (HB10.out.trans (hAl.mono HB10.out.size))
          obtain ⟨w11, hw11⟩ : ∃ W, W = w10.alloc (.cells #[.slice none 0 0] 24) := ⟨_, rfl⟩
          rw [← hbC, ← hw11]
          rw [← hw11] at hx11 cB11 cP11 HB11 HX11
          refine hK.out _ _ ⟨cB11, cP11⟩ fun _ => ?_
          clear hK hAl hbC hw11 hx
          (try simp only [Act.put, List.getElem_toArray, List.getElem_cons_succ, List.getElem_cons_zero, List.setIfInBounds_toArray, List.set_cons_zero, List.set_cons_succ])
          refine tree_one rfl (fun K' hK => ?_)
          have cx := hx11.cell
          have cxf := hx11.frozen
          go_simp
          have cC := (Boxed.set (.slice p7 Y.length c7) hx11).cell
          have hn := nodes_set (x := .slice p7 Y.length c7) HX11.out hx11
          have hB9 := HB11.out.setCell (p := ⟨bC, 0, none⟩) hle (.slice p7 Y.length c7)
          have cB9 : (w11.setCell ⟨bC, 0, none⟩ (.slice p7 Y.length c7)).cell? ⟨B, 0, none⟩ = some u := by
            rw [World.cell?_setCell_other _ _ _ _ (fun e => by have h1 : bC = B := congrArg Addr.block e; have h2 : B < w5.heap.size := cellLt cb5; omega)]
            exact cB11
          have cP9 : (w11.setCell ⟨bC, 0, none⟩ (.slice p7 Y.length c7)).cell? ⟨gp, 0, none⟩ = some (.int .i64 pk0) := by
            rw [World.cell?_setCell_other _ _ _ _ (fun e => by have h1 : bC = gp := congrArg Addr.block e; have h2 : gp < w5.heap.size := cellLt cP5; omega)]
            exact cP11
          refine hK.out _ _ ⟨cB9, cP9⟩ fun _ => ?_
          clear hK
          (try simp only [Act.put, List.getElem_toArray, List.getElem_cons_succ, List.getElem_cons_zero, List.setIfInBounds_toArray, List.set_cons_zero, List.set_cons_succ])
          refine tree_one rfl (fun K' hK => ?_)
          go_simp
          refine hK.out _ _ ⟨cB9, cP9⟩ fun _ => ?_
          clear hK
          (try simp only [Act.put, List.getElem_toArray, List.getElem_cons_succ, List.getElem_cons_zero, List.setIfInBounds_toArray, List.set_cons_zero, List.set_cons_succ])
          refine NoPanic.normal ?_
          go_wp2_with fail
          go_meet
          exact ⟨bC, p7, c7, rfl, rfl, cC, hn, hB9⟩
        · refine tree_one rfl (fun K' hK => ?_)
          go_simp
          obtain ⟨bC, hbC⟩ : ∃ b, b = Wd.heap.size := ⟨_, rfl⟩
          have hx10 : Boxed (Wd.alloc (.cells #[.slice none 0 0] 24)) bC 24 (.slice none 0 0) := by rw [hbC]; exact box_new _ _ _
          have hle : w5.heap.size ≤ bC := by rw [hbC]; exact HBd.out.size
          have hAl := below_alloc Wd (.cells #[.slice none 0 0] 24)
          have cB10 := cellOld cBd (hAl.block _ (cellLt cBd))
          have cP10 := cellOld cPd (hAl.block _ (cellLt cPd))
          have HB10 := Lib.hid (HBd.out.trans (hAl.mono HBd.out.size))
          obtain ⟨w10, hw10⟩ : ∃ W, W = Wd.alloc (.cells #[.slice none 0 0] 24) := ⟨_, rfl⟩
          rw [← hbC, ← hw10]
          rw [← hw10] at hx10 cB10 cP10 HB10
          refine hK.out _ _ ⟨cB10, cP10⟩ fun _ => ?_
          clear hK hAl hbC hw10
          (try simp only [Act.put, List.getElem_toArray, List.getElem_cons_succ, List.getElem_cons_zero, List.setIfInBounds_toArray, List.set_cons_zero, List.set_cons_succ])
          refine tree_one rfl (fun K' hK => ?_)
          go_simp
          refine (HK6.out w10 HB10.out).mono ?_
          rintro e w11 ⟨uy, rfl, hx, hBn⟩
          obtain ⟨p7, c7, rfl⟩ := nodes_form hx
          have HX11 := Lib.hid hx
          have hx11 : Boxed w11 bC 24 (.slice none 0 0) := (hBn.block _ hx10.lt).trans hx10
          have cB11 := cellOld cB10 (hBn.block _ (cellLt cB10))
          have cP11 := cellOld cP10 (hBn.block _ (cellLt cP10))
          have HB11 := Lib.hid (HB10.out.trans (hBn.mono HB10.out.size))
          refine hK.out _ _ ⟨cB11, cP11⟩ fun _ => ?_
          clear hK hBn hx
          (try simp only [Act.put, List.getElem_toArray, List.getElem_cons_succ, List.getElem_cons_zero, List.setIfInBounds_toArray, List.set_cons_zero, List.set_cons_succ])
          (refine tree_take (v := ?_) rfl (by rfl) (fun W' hS => ?_) ?_; rotate_left; (obtain ⟨s0, s1⟩ := hS; go_simp; with_reducible rfl); (try simp only [Act.put, List.getElem_toArray, List.getElem_cons_succ, List.getElem_cons_zero, List.setIfInBounds_toArray, List.set_cons_zero, List.set_cons_succ]))
          (refine tree_take (v := ?_) rfl (by rfl) (fun W' hS => ?_) ?_; rotate_left; (obtain ⟨s0, s1⟩ := hS; go_simp; with_reducible rfl); (try simp only [Act.put, List.getElem_toArray, List.getElem_cons_succ, List.getElem_cons_zero, List.setIfInBounds_toArray, List.set_cons_zero, List.set_cons_succ]))
          (refine tree_take (v := ?_) rfl (by rfl) (fun W' hS => ?_) ?_; rotate_left; (obtain ⟨s0, s1⟩ := hS; go_simp; with_reducible rfl); (try simp only [Act.put, List.getElem_toArray, List.getElem_cons_succ, List.getElem_cons_zero, List.setIfInBounds_toArray, List.set_cons_zero, List.set_cons_succ]))
          refine tree_one rfl (fun K' hK => ?_)
          have cx := hx11.cell
          have cxf := hx11.frozen
          go_simp
          have cC := (Boxed.set (.slice p7 Y.length c7) hx11).cell
          have hn := nodes_set (x := .slice p7 Y.length c7) HX11.out hx11
          have hB9 := HB11.out.setCell (p := ⟨bC, 0, none⟩) hle (.slice p7 Y.length c7)
          have cB9 : (w11.setCell ⟨bC, 0, none⟩ (.slice p7 Y.length c7)).cell? ⟨B, 0, none⟩ = some u := by
            rw [World.cell?_setCell_other _ _ _ _ (fun e => by have h1 : bC = B := congrArg Addr.block e; have h2 : B < w5.heap.size := cellLt cb5; omega)]
            exact cB11
          have cP9 : (w11.setCell ⟨bC, 0, none⟩ (.slice p7 Y.length c7)).cell? ⟨gp, 0, none⟩ = some (.int .i64 pk0) := by
            rw [World.cell?_setCell_other _ _ _ _ (fun e => by have h1 : bC = gp := congrArg Addr.block e; have h2 : gp < w5.heap.size := cellLt cP5; omega)]
            exact cP11
          refine hK.out _ _ ⟨cB9, cP9⟩ fun _ => ?_
          clear hK
          (try simp only [Act.put, List.getElem_toArray, List.getElem_cons_succ, List.getElem_cons_zero, List.setIfInBounds_toArray, List.set_cons_zero, List.set_cons_succ])
          refine tree_one rfl (fun K' hK => ?_)
          go_simp
          refine hK.out _ _ ⟨cB9, cP9⟩ fun _ => ?_
          clear hK
          (try simp only [Act.put, List.getElem_toArray, List.getElem_cons_succ, List.getElem_cons_zero, List.setIfInBounds_toArray, List.set_cons_zero, List.set_cons_succ])
          refine NoPanic.normal ?_
          go_wp2_with fail
          go_meet
          exact ⟨bC, p7, c7, rfl, rfl, cC, hn, hB9⟩
      obtain ⟨b6, p6, c6, rfl, rfl, cc6, hn6, hA⟩ := hcut
      have HN6 := Lib.hid hn6
      have cb6 := cellOld cb5 (hA.block _ (cellLt cb5))
      have HB6 := Lib.hid (below_trans HB5.out hA)
      have HM5 := Lib.hid (HN5.out.below hA)
      have dd5 := cellOld cc5 (hA.block _ (cellLt cc5))
      clear HN5 cc5
      have HN5 := HM5
      have cc5 := dd5
      clear HM5 dd5
      have HMI := Lib.hid (ints_below HIMr.out hA)
      clear HIMr
      have HIMr := HMI
      clear HMI
      have HMI := Lib.hid (ints_below HIPr.out hA)
      clear HIPr
      have HIPr := HMI
      clear HMI
      clear hA cb5 HB5 hn6 cP5 HK6 cP0
      have HLF := Lib.hid (leaf_ok d d0 d1)
      go_wp2_with fail
      refine (HLF.out _).mono ?_
      rintro e w7 ⟨rfl, hw⟩
      rw [← hw]
      clear hw w7 HLF
      have HPA := Lib.hid (path_z d d0 d1 wc)
      go_wp2_with fail
      refine HPA.out.mono ?_
      rintro e w7 ⟨pv, rfl, hrp, hA⟩
      have HROW := Lib.hid (RowAt.of_own hrp)
      obtain ⟨pq, cq, rfl, -⟩ := ints_form hrp
      have HZL := Lib.hid (pathZ_length d d0 d1)
      rw [HZL.out] at HROW ⊢
      have HB7 := Lib.hid (below_trans HB6.out hA)
      have cb7 := cellOld cb6 (hA.block _ (cellLt cb6))
      have HM5 := Lib.hid (HN5.out.below hA)
      have dd5 := cellOld cc5 (hA.block _ (cellLt cc5))
      clear HN5 cc5
      have HN5 := HM5
      have cc5 := dd5
      clear HM5 dd5
      have HM6 := Lib.hid (HN6.out.below hA)
      have dd6 := cellOld cc6 (hA.block _ (cellLt cc6))
      clear HN6 cc6
      have HN6 := HM6
      have cc6 := dd6
      clear HM6 dd6
      have HMI := Lib.hid (ints_below HIMr.out hA)
      clear HIMr
      have HIMr := HMI
      clear HMI
      have HMI := Lib.hid (ints_below HIPr.out hA)
      clear HIPr
      have HIPr := HMI
      clear HMI
      clear hA hrp HPA HB6 cb6
      have HC1 := Lib.hid (check_ok X (.slice p5 X.length c5) w7 HN5.out (by have := HLX.out; omega))
      rw [good_chk HGX.out] at HC1
      go_wp2_with fail
      refine HC1.out.mono ?_
      rintro e w8 ⟨rfl, hA⟩
      have HROW8 := Lib.hid (HROW.out.below hA)
      have HB8 := Lib.hid (below_trans HB7.out hA)
      have cb8 := cellOld cb7 (hA.block _ (cellLt cb7))
      have HM5 := Lib.hid (HN5.out.below hA)
      have dd5 := cellOld cc5 (hA.block _ (cellLt cc5))
      clear HN5 cc5
      have HN5 := HM5
      have cc5 := dd5
      clear HM5 dd5
      have HM6 := Lib.hid (HN6.out.below hA)
      have dd6 := cellOld cc6 (hA.block _ (cellLt cc6))
      clear HN6 cc6
      have HN6 := HM6
      have cc6 := dd6
      clear HM6 dd6
      have HMI := Lib.hid (ints_below HIMr.out hA)
      clear HIMr
      have HIMr := HMI
      clear HMI
      have HMI := Lib.hid (ints_below HIPr.out hA)
      clear HIPr
      have HIPr := HMI
      clear HMI
      clear hA HC1 HROW HB7 cb7
      have HC2 := Lib.hid (check_ok Y (.slice p6 Y.length c6) w8 HN6.out (by have := HLY.out; omega))
      rw [good_chk HGY.out] at HC2
      go_wp2_with fail
      refine HC2.out.mono ?_
      rintro e w9 ⟨rfl, hA⟩
      have HROW9 := Lib.hid (HROW8.out.below hA)
      have HB9 := Lib.hid (below_trans HB8.out hA)
      have cb9 := cellOld cb8 (hA.block _ (cellLt cb8))
      have HM5 := Lib.hid (HN5.out.below hA)
      have dd5 := cellOld cc5 (hA.block _ (cellLt cc5))
      clear HN5 cc5
      have HN5 := HM5
      have cc5 := dd5
      clear HM5 dd5
      have HM6 := Lib.hid (HN6.out.below hA)
      have dd6 := cellOld cc6 (hA.block _ (cellLt cc6))
      clear HN6 cc6
      have HN6 := HM6
      have cc6 := dd6
      clear HM6 dd6
      have HMI := Lib.hid (ints_below HIMr.out hA)
      clear HIMr
      have HIMr := HMI
      clear HMI
      have HMI := Lib.hid (ints_below HIPr.out hA)
      clear HIPr
      have HIPr := HMI
      clear HMI
      clear hA HC2 HROW8 HB8 cb8
      have hmm := @run_makeMap Try.prog
      obtain ⟨bm, hbm⟩ : ∃ b, b = w9.heap.size := ⟨_, rfl⟩
      have HM0 : Hid (KMap (boolK Try.underlying4) 3 (w9.alloc (.map #[] 0)) bm 0 (setF (((512 + d) :: pathZ d).take 0))) := Lib.hid (by
        rw [hbm]
        have h : setF (((512 + d) :: pathZ d).take 0) = fun _ => none := by funext z; simp [setF]
        rw [h]
        exact KMap.made _ _ _)
      have hAl := below_alloc w9 (.map #[] 0)
      go_upto_region 25 with fail
      rw [← hbm]
      have HBM := Lib.hid hbm
      clear hmm hbm
      obtain ⟨WA, hWA⟩ : ∃ W, W = w9.alloc (.map #[] 0) := ⟨_, rfl⟩
      rw [← hWA] at HM0 hAl ⊢
      clear hWA
      have HROWA := Lib.hid (HROW9.out.below hAl)
      have HBA := Lib.hid (below_trans HB9.out hAl)
      have cbA := cellOld cb9 (hAl.block _ (cellLt cb9))
      have hA := hAl
      have HM5 := Lib.hid (HN5.out.below hA)
      have dd5 := cellOld cc5 (hA.block _ (cellLt cc5))
      clear HN5 cc5
      have HN5 := HM5
      have cc5 := dd5
      clear HM5 dd5
      have HM6 := Lib.hid (HN6.out.below hA)
      have dd6 := cellOld cc6 (hA.block _ (cellLt cc6))
      clear HN6 cc6
      have HN6 := HM6
      have cc6 := dd6
      clear HM6 dd6
      have HMI := Lib.hid (ints_below HIMr.out hA)
      clear HIMr
      have HIMr := HMI
      clear HMI
      have HMI := Lib.hid (ints_below HIPr.out hA)
      clear HIPr
      have HIPr := HMI
      clear HMI
      have HWB9 := Lib.hid HB9.out.size
      clear hA hAl HROW9 HB9 cb9
      have hA := below_alloc WA (.cells #[.int .i64 (512 + d)] 3)
      have HLR : Hid ((WA.alloc (.cells #[.int .i64 (512 + d)] 3)).ownsRow WA.heap.size 3 1 (.slice (some ⟨WA.heap.size, 0, none⟩) 1 1) 1 [.int .i64 (512 + d)]) := Lib.hid (World.ownsRow_lit (base := WA.heap.size) (size := 1) (e := 3) WA #[.int .i64 (512 + d)] 1 (Nat.le_refl _) (by unfold maxLen; omega) (by simp))
      have HROWB := Lib.hid (HROWA.out.below hA)
      have hwb : w.heap.size ≤ bm := by rw [HBM.out]; exact HWB9.out
      go_upto_region 26 with (at_builtin; refine wpList_append_row rfl _ _ 27 rfl WA.heap.size 3 i0 (.int .i64 0) 1 8 Try.underlying27 hi hz0 hz1 hzb rfl (by decide) _ _ _ rfl HLR.out _ _ _ rfl HROWB.out (by simp [Value.oneCell']) (by unfold maxLen; omega) (by omega) (by simp) ?_; intro v' wB hownB hgrowB; have HRB : Hid (wB.ownsRow WA.heap.size 3 1 v' ((512 + d) :: pathZ d).length (((512 + d) :: pathZ d).map (Value.int .i64))) := Lib.hid (by rw [List.length_cons, HZL.out]; exact hownB); have HGB : Hid (Below WA.heap.size WA wB) := Lib.hid (hA.grown hgrowB (by simp) (fun j hj => (HLR.out.lt j hj).1)); obtain ⟨pn, cn, hv, -⟩ := ints_form HRB.out; rw [List.length_cons, HZL.out] at hv; have hv2 : v' = .slice pn 10 cn := hv; clear hownB hgrowB hv; subst hv2)
      clear hA HLR HROWB HROWA
      have HIN := Lib.hid (ints_of_row HRB.out)
      have hA := HGB.out
      have cbB := cellOld cbA (hA.block _ (cellLt cbA))
      have HBB := Lib.hid (below_trans HBA.out hA)
      have HMB : Hid (KMap (boolK Try.underlying4) 3 wB bm 0 (setF (((512 + d) :: pathZ d).take 0))) := Lib.hid (HM0.out.below hA HM0.out.lt)
      have HM5 := Lib.hid (HN5.out.below hA)
      have dd5 := cellOld cc5 (hA.block _ (cellLt cc5))
      clear HN5 cc5
      have HN5 := HM5
      have cc5 := dd5
      clear HM5 dd5
      have HM6 := Lib.hid (HN6.out.below hA)
      have dd6 := cellOld cc6 (hA.block _ (cellLt cc6))
      clear HN6 cc6
      have HN6 := HM6
      have cc6 := dd6
      clear HM6 dd6
      have HMI := Lib.hid (ints_below HIMr.out hA)
      clear HIMr
      have HIMr := HMI
      clear HMI
      have HMI := Lib.hid (ints_below HIPr.out hA)
      clear HIPr
      have HIPr := HMI
      clear HMI
      clear hA HGB HBA cbA HRB HM0
      obtain ⟨-, hgn⟩ := row_ints HIN.out rfl
      obtain ⟨gn, on, rfl, hcn⟩ := hgn (by simp)
      have HCN := Lib.hid hcn
      clear hcn hgn
      have HNLL : Hid (((512 + d) :: pathZ d).length = 10) := Lib.hid (by rw [List.length_cons, HZL.out])
      go_wp2_with fail
      go_loopw [146] (fun i wr => ∃ j : Nat, i = .int .i64 j ∧ j ≤ 10 ∧ Hid (KMap (boolK Try.underlying4) 3 wr bm j (setF (((512 + d) :: pathZ d).take j))) ∧ Hid (∀ b, b < wB.heap.size → b ≠ bm → wr.heap[b]? = wB.heap[b]?) ∧ Hid (Below w.heap.size w wr) ∧ wB.heap.size ≤ wr.heap.size) (fun i _ => 10 - (intOf i).toNat)
      case atStart => exact ⟨0, rfl, Nat.zero_le _, HMB, Lib.hid (fun _ _ _ => rfl), HBB, Nat.le_refl _⟩
      case round =>
        obtain ⟨j, rfl, hj, HMj, HKj, HBj, hszj⟩ := hrel
        by_cases hj10 : j < 10
        · have hd9 : decide ((j : Int) < 10) = true := by simp; omega
          have hd9' : decide (j < 10) = true := by simp; omega
          have hji : (j : Int) < 10 := by omega
          obtain ⟨y, hy0, y1, y2, yl⟩ := nl_nat d0 d1 hj10
          have hyg := (nl_get d0 d1 hj10).trans hy0
          have cy : wr.cell? ⟨gn, on + j, none⟩ = some (.int .i64 (y : Int)) := by rw [← hyg]; exact cell_keep HMB.out HKj.out (HCN.out j hj10)
          have hjl : j < ((512 + d) :: pathZ d).length := by rw [HNLL.out]; exact hj10
          have HTy : Hid (((512 + d) :: pathZ d).take (j + 1) = ((512 + d) :: pathZ d).take j ++ [(y : Int)]) := Lib.hid (by rw [take_snoc hjl, hyg])
          have HN5 := Lib.hid (nodes_keep HMB.out HKj.out HN5.out)
          have HN6 := Lib.hid (nodes_keep HMB.out HKj.out HN6.out)
          have cr5 := cell_keep HMB.out HKj.out cc5
          have cr6 := cell_keep HMB.out HKj.out cc6
          have HIP := Lib.hid (ints_keep HMB.out HKj.out HIPr.out)
          have HLV := Lib.hid (level_ok y y1 y2 wr)
          rw [yl] at HLV
          have HIY : Hid (I64 (y : Int)) := Lib.hid (I64.of (by omega))
          obtain ⟨pj, hpj⟩ : ∃ q, q = P.getD j 0 := ⟨_, rfl⟩
          have hfx : ofF X (y : Int) = some pj := by rw [hpj, ← hy0]; exact HFX.out j hj10
          have cpj : wr.cell? ⟨gp, j, none⟩ = some (.int .i64 pj) := by rw [hpj]; exact path_cell HIP.out hj10
          have cp0 : wr.cell? ⟨gp, 0, none⟩ = some (.int .i64 pk0) := by rw [HP0.out]; exact path_cell HIP.out (by decide)
          have HPX := public_ok X (.slice p5 X.length c5) (y : Int) wr HN5.out (by have := HLX.out; omega) HIY.out
          rw [hfx] at HPX
          simp only [Option.getD_some, Option.isSome_some] at HPX
          have HPX := Lib.hid HPX
          have HY0 := Lib.hid hy0
          clear hpj hfx hyg hjl hy0 yl y1 y2
          go_wp2_with fail
          refine (HLV.out).mono ?_
          rintro e w20 ⟨rfl, hw⟩
          rw [← hw]
          clear hw w20 HLV
          go_wp2_with fail
          refine (HPX.out).mono ?_
          rintro e w20 ⟨rfl, hA⟩
          have cs6 := cellOld cr6 (hA.block _ (cellLt cr6))
          have cqj := cellOld cpj (hA.block _ (cellLt cpj))
          have cq0 := cellOld cp0 (hA.block _ (cellLt cp0))
          have HN620 := Lib.hid (HN6.out.below hA)
          have HM20 := Lib.hid (HMj.out.below hA HMj.out.lt)
          have HK20 := Lib.hid (keep_below HKj.out hszj hA)
          have HB20 := Lib.hid (below_trans HBj.out hA)
          have hsz20 := Nat.le_trans hszj hA.size
          clear hA HMj HKj HBj hszj cr5 cr6 cpj cp0 cy HPX HN6 HN5 HIP
          have HPY := public_ok Y (.slice p6 Y.length c6) (y : Int) w20 HN620.out (by have := HLY.out; omega) HIY.out
          by_cases hj0 : j = 0
          · have hfy : ofF Y (y : Int) = some pk0 := by rw [HFY.out, if_pos (by rw [← HY0.out, hj0]; simp)]
            have hb1 : decide ((j : Int) = 0) = true := by simp; omega
            have hb2 : decide (j = 0) = true := by simp; omega
            have hb3 : ((j : Int) == 0) = true := by simp; omega
            rw [hfy] at HPY
            simp only [Option.getD_some, Option.isSome_some] at HPY
            clear hj0 hfy
            have HPY := Lib.hid HPY
            go_wp2_with fail
            refine (HPY.out).mono ?_
            rintro e w21 ⟨rfl, hA⟩
            have cuj := cellOld cqj (hA.block _ (cellLt cqj))
            have cu0 := cellOld cq0 (hA.block _ (cellLt cq0))
            have HM21 := Lib.hid (HM20.out.below hA HM20.out.lt)
            have HK21 := Lib.hid (keep_below HK20.out hsz20 hA)
            have HB21 := Lib.hid (below_trans HB20.out hA)
            have hsz21 := Nat.le_trans hsz20 hA.size
            clear hA HM20 HK20 HB20 hsz20 cs6 cqj cq0 HPY HN620
            go_wp2_with (at_mapUpdate; refine wpList_put (E := boolK Try.underlying4) rfl _ _ _ 46 rfl Try.underlying3 Try.underlying46 bm _ _ rfl HM21.out (by unfold maxLen; omega) (y : Int) rfl HIY.out true rfl trivial ?_; intro w25 hm25 ht25)
            have HM25 := Lib.hid (hm25.congr (g := setF (((512 + d) :: pathZ d).take (j + 1))) (fun x _ => by rw [HTy.out, ← setF_put]))
            have hs25 := ht25.grown.size
            exact ⟨⟨j + 1, by go_num, by omega, HM25, Lib.hid (keep_grown HK21.out hsz21 ht25.grown), Lib.hid (HB21.out.grown ht25.grown (Nat.le_trans (HB21.out.size) (Nat.le_refl _)) (fun j e => by cases e; exact hwb)), by omega⟩, by simp only [intOf]; omega⟩
          · have hfy : ofF Y (y : Int) = none := by
              rw [HFY.out, if_neg (by rw [← HY0.out]; have := (half_lt d0 d1 (show j ≤ 9 by omega)).2 0 (by omega); rw [Int.pow_zero, Int.ediv_one] at this; omega), if_pos (undB_yes (by rw [← HY0.out]; exact half_und d0 d1 (by omega)))]
            have hb1 : decide ((j : Int) = 0) = false := by simp; omega
            have hb2 : decide (j = 0) = false := by simp; omega
            have hb3 : ((j : Int) == 0) = false := by simp; omega
            rw [hfy] at HPY
            simp only [Option.getD_none, Option.isSome_none] at HPY
            clear hj0 hfy
            have HPY := Lib.hid HPY
            go_wp2_with fail
            refine (HPY.out).mono ?_
            rintro e w21 ⟨rfl, hA⟩
            have cuj := cellOld cqj (hA.block _ (cellLt cqj))
            have cu0 := cellOld cq0 (hA.block _ (cellLt cq0))
            have HM21 := Lib.hid (HM20.out.below hA HM20.out.lt)
            have HK21 := Lib.hid (keep_below HK20.out hsz20 hA)
            have HB21 := Lib.hid (below_trans HB20.out hA)
            have hsz21 := Nat.le_trans hsz20 hA.size
            clear hA HM20 HK20 HB20 hsz20 cs6 cqj cq0 HPY HN620
            go_wp2_with (at_mapUpdate; refine wpList_put (E := boolK Try.underlying4) rfl _ _ _ 46 rfl Try.underlying3 Try.underlying46 bm _ _ rfl HM21.out (by unfold maxLen; omega) (y : Int) rfl HIY.out true rfl trivial ?_; intro w25 hm25 ht25)
            have HM25 := Lib.hid (hm25.congr (g := setF (((512 + d) :: pathZ d).take (j + 1))) (fun x _ => by rw [HTy.out, ← setF_put]))
            have hs25 := ht25.grown.size
            exact ⟨⟨j + 1, by go_num, by omega, HM25, Lib.hid (keep_grown HK21.out hsz21 ht25.grown), Lib.hid (HB21.out.grown ht25.grown (Nat.le_trans (HB21.out.size) (Nat.le_refl _)) (fun j e => by cases e; exact hwb)), by omega⟩, by simp only [intOf]; omega⟩
        · have hd9 : decide ((j : Int) < 10) = false := by simp; omega
          have hd9' : decide (j < 10) = false := by simp; omega
          have hj10e : j = 10 := by omega
          have HMf : Hid (KMap (boolK Try.underlying4) 3 wr bm 10 (setF ((512 + d) :: pathZ d))) := Lib.hid (by
            have h := HMj.out
            rw [hj10e] at h
            rw [List.take_of_length_le (by rw [HNLL.out]; exact Nat.le_refl _)] at h
            exact h)
          have HN5w := Lib.hid (nodes_keep HMB.out HKj.out HN5.out)
          have HN6w := Lib.hid (nodes_keep HMB.out HKj.out HN6.out)
          have cw5 := cell_keep HMB.out HKj.out cc5
          have cw6 := cell_keep HMB.out HKj.out cc6
          have HIMw := Lib.hid (ints_keep HMB.out HKj.out HIMr.out)
          have cbw := cell_keep HMB.out HKj.out cbB
          rw [HUU.out] at cbw
          obtain ⟨W3, hW3⟩ : ∃ W, W = wr := ⟨_, rfl⟩
          rw [← hW3] at HMf HBj HN5w HN6w cw5 cw6 HIMw cbw ⊢
          clear hW3 HMj HKj hszj hj10e HN5 HN6 cc5 cc6 HIMr HIPr cbB HBB HMB HCN
          obtain ⟨-, htc, hct, hwf⟩ := row_nodes HT.out HUU.out
          have HCT2 := Lib.hid hct
          have HWF := Lib.hid hwf
          obtain ⟨n, hn⟩ : ∃ n, n = t.length := ⟨_, rfl⟩
          have HN := Lib.hid hn
          have hn80 : n ≤ 80 := by rw [hn]; exact HL.out
          rw [← hn] at htc cbw
          clear hct hwf hn
          go_wp2_with fail
          go_loopw [209] (fun i wr' => ∃ j : Nat, i = .int .i64 j ∧ j ≤ n ∧ Hid (Below W3.heap.size W3 wr')) (fun i _ => n - (intOf i).toNat)
          case atStart => exact ⟨0, rfl, Nat.zero_le _, Lib.hid (Below.refl _ _)⟩
          case round =>
            obtain ⟨j3, rfl, hj3, HB3⟩ := hrel
            clear cbw
            have HN5z := Lib.hid (HN5w.out.below HB3.out)
            have HN6z := Lib.hid (HN6w.out.below HB3.out)
            have cz5 := cellOld cw5 (HB3.out.block _ (cellLt cw5))
            have cz6 := cellOld cw6 (HB3.out.block _ (cellLt cw6))
            have HBt : Hid (Below w.heap.size w wr) := Lib.hid (below_trans HBj.out HB3.out)
            by_cases hjn : j3 < n
            · have hd8 : decide ((j3 : Int) < (n : Int)) = true := by simp; omega
              have hd8' : decide (j3 < n) = true := by simp; omega
              obtain ⟨gt, ot, rfl, hct⟩ := HCT2.out (by rw [← HN.out]; omega)
              obtain ⟨a, pb, c1, c2, wa, -, -, -, hmem⟩ := node_at hct HWF.out (by rw [← HN.out]; exact hjn) HBt.out
              have HIA := Lib.hid wa
              have hft := ofF_str HG.out.1 _ hmem
              dsimp only at hft
              clear hct wa hmem
              obtain ⟨Z, hZ⟩ : ∃ Z, Z = wr.heap.size := ⟨_, rfl⟩
              obtain ⟨V, hV⟩ : ∃ W, W = wr.alloc (.cells #[.int .i64 a, .int .i64 pb] 48) := ⟨_, rfl⟩
              have HMV : Hid (KMap (boolK Try.underlying4) 3 V bm 10 (setF ((512 + d) :: pathZ d))) := Lib.hid (by rw [hV]; exact (HMf.out.below HB3.out HMf.out.lt).alloc _)
              have hA : Below wr.heap.size wr V := by rw [hV]; exact below_alloc _ _
              have HN5v := Lib.hid (HN5z.out.below hA)
              have HN6v := Lib.hid (HN6z.out.below hA)
              have cv5 := cellOld cz5 (hA.block _ (cellLt cz5))
              have cv6 := cellOld cz6 (hA.block _ (cellLt cz6))
              have HBV := Lib.hid (below_trans HB3.out hA)
              have vz0 : V.cell? ⟨Z, 0, none⟩ = some (.int .i64 a) := by rw [hV, hZ]; unfold World.cell?; rw [World.alloc_heap_new]; rfl
              have vz1 : V.cell? ⟨Z, 1, none⟩ = some (.int .i64 pb) := by rw [hV, hZ]; unfold World.cell?; rw [World.alloc_heap_new]; rfl
              go_upto_region 38 with fail
              rw [← hZ, ← hV]
              clear hV hZ hA HB3 HN5z HN6z cz5 cz6 HBt c1 c2
              by_cases hU : Und (512 + d) a
              · have hgd : (setF ((512 + d) :: pathZ d) a).getD false = true := by rw [setF_und d0 d1, undB_yes hU]
                clear hU hft
                go_wp2_with (at_lookup; refine wpList_lookB (he := Try.underlying4) rfl _ _ 46 rfl Try.underlying3 Try.underlying46 (zero_bool _) bm 10 _ rfl HMV.out a rfl HIA.out ?_; rw [hgd])
                exact ⟨⟨j3 + 1, by go_num, by omega, HBV⟩, by simp only [intOf]; omega⟩
              · have hgd : (setF ((512 + d) :: pathZ d) a).getD false = false := by rw [setF_und d0 d1, undB_no hU]
                have hfx : ofF X a = some pb := (HOX.out a hU).trans hft
                have hfy : ofF Y a = some pb := by
                  rw [HFY.out, if_neg (fun e => hU (by rw [e]; exact und_self (by omega))), if_neg (by rw [undB_no hU]; decide)]
                  exact hft
                have HPX := public_ok X (.slice p5 X.length c5) a V HN5v.out (by have := HLX.out; omega) HIA.out
                rw [hfx] at HPX
                simp only [Option.getD_some, Option.isSome_some] at HPX
                have HPX := Lib.hid HPX
                clear hfx hft hU
                go_wp2_with (at_lookup; refine wpList_lookB (he := Try.underlying4) rfl _ _ 46 rfl Try.underlying3 Try.underlying46 (zero_bool _) bm 10 _ rfl HMV.out a rfl HIA.out ?_; rw [hgd])
                refine (HPX.out).mono ?_
                rintro e w22 ⟨rfl, hA⟩
                have HN622 := Lib.hid (HN6v.out.below hA)
                have cx6 := cellOld cv6 (hA.block _ (cellLt cv6))
                have cx0 := cellOld vz0 (hA.block _ (cellLt vz0))
                have cx1 := cellOld vz1 (hA.block _ (cellLt vz1))
                have HB22 := Lib.hid (below_trans HBV.out hA)
                clear hA HPX HN5v HN6v cv5 cv6 vz0 vz1 HBV HMV hgd
                have HPY := public_ok Y (.slice p6 Y.length c6) a w22 HN622.out (by have := HLY.out; omega) HIA.out
                rw [hfy] at HPY
                simp only [Option.getD_some, Option.isSome_some] at HPY
                have HPY := Lib.hid HPY
                clear hfy
                go_wp2_with fail
                refine (HPY.out).mono ?_
                rintro e w23 ⟨rfl, hA⟩
                have cy0 := cellOld cx0 (hA.block _ (cellLt cx0))
                have cy1 := cellOld cx1 (hA.block _ (cellLt cx1))
                have HB23 := Lib.hid (below_trans HB22.out hA)
                clear hA HPY HN622 cx6 cx0 cx1 HB22
                go_wp2_with fail
                exact ⟨⟨j3 + 1, by go_num, by omega, HB23⟩, by simp only [intOf]; omega⟩
            · have hd8 : decide ((j3 : Int) < (n : Int)) = false := by simp; omega
              have hd8' : decide (j3 < n) = false := by simp; omega
              have HIMz : Hid (IntsAt wr (.slice (some ⟨g, 0, none⟩) nm cm) M) := Lib.hid (by rw [HNM.out]; exact ints_below HIMw.out HB3.out)
              have hroot := resV_root HGX.out (by have h := HFX.out 9 (by decide); rw [und_nine d0 d1] at h; rw [h]; rfl)
              have HRS := Lib.hid (resolution_ok X (.slice p5 X.length c5) 1 wr HN5z.out (by have := HLX.out; omega))
              rw [hroot.1, hroot.2] at HRS
              clear hroot HB3
              go_wp2_with fail
              refine (HRS.out).mono ?_
              rintro e w30 ⟨uq, rfl, hrq, hA⟩
              have HIQ := Lib.hid (ints_of_row hrq)
              obtain ⟨pq2, cq2, rfl, -⟩ := ints_form hrq
              have HN530 := Lib.hid (HN5z.out.below hA)
              have HN630 := Lib.hid (HN6z.out.below hA)
              have ca5 := cellOld cz5 (hA.block _ (cellLt cz5))
              have ca6 := cellOld cz6 (hA.block _ (cellLt cz6))
              have HIM30 := Lib.hid (ints_below HIMz.out hA)
              have HB30 := Lib.hid (below_trans HBt.out hA)
              clear hA hrq HRS HN5z HN6z cz5 cz6 HIMz HBt
              go_upto_region 45 with fail
              have hA := below_alloc w30 (.cells #[.int .i64 1] 3)
              have HL1 := Lib.hid (ints_lit w30 [1] (by decide))
              have HSI := Lib.hid (sameints_self [1] (.slice pq2 [(1 : Int)].length cq2) (.slice (some ⟨w30.heap.size, 0, none⟩) 1 1) (w30.alloc (.cells #[.int .i64 1] 3)) (ints_below HIQ.out hA) HL1.out (by decide))
              have HN5a := Lib.hid (HN530.out.below hA)
              have HN6a := Lib.hid (HN630.out.below hA)
              have da5 := cellOld ca5 (hA.block _ (cellLt ca5))
              have da6 := cellOld ca6 (hA.block _ (cellLt ca6))
              have HIMa := Lib.hid (ints_below HIM30.out hA)
              have HBa := Lib.hid (below_trans HB30.out hA)
              clear hA HN530 HN630 ca5 ca6 HIM30 HB30 HL1 HIQ
              go_wp2_with fail
              refine (HSI.out).mono ?_
              rintro e w31 ⟨rfl, hA⟩
              have HN5b := Lib.hid (HN5a.out.below hA)
              have HN6b := Lib.hid (HN6a.out.below hA)
              have db5 := cellOld da5 (hA.block _ (cellLt da5))
              have db6 := cellOld da6 (hA.block _ (cellLt da6))
              have HIMb := Lib.hid (ints_below HIMa.out hA)
              have HBb := Lib.hid (below_trans HBa.out hA)
              clear hA HSI HN5a HN6a da5 da6 HIMa HBa
              have HMB5 := Lib.hid (members_ok X (.slice p5 X.length c5) w31 HN5b.out (by have := HLX.out; omega))
              rw [HMX.out] at HMB5
              go_wp2_with fail
              refine (HMB5.out).mono ?_
              rintro e w32 ⟨uq, rfl, hrq, hA⟩
              have HIQ := Lib.hid (ints_of_row hrq)
              obtain ⟨pq3, cq3, rfl, -⟩ := ints_form hrq
              have HN6c := Lib.hid (HN6b.out.below hA)
              have dc6 := cellOld db6 (hA.block _ (cellLt db6))
              have HIMc := Lib.hid (ints_below HIMb.out hA)
              have HBc := Lib.hid (below_trans HBb.out hA)
              clear hA hrq HMB5 HN5b HN6b db5 db6 HIMb HBb
              have HSI := Lib.hid (sameints_self M _ _ w32 HIQ.out HIMc.out (by have := HML.out; omega))
              go_wp2_with fail
              refine (HSI.out).mono ?_
              rintro e w33 ⟨rfl, hA⟩
              have HN6d := Lib.hid (HN6c.out.below hA)
              have dd6 := cellOld dc6 (hA.block _ (cellLt dc6))
              have HIMd := Lib.hid (ints_below HIMc.out hA)
              have HBd := Lib.hid (below_trans HBc.out hA)
              clear hA HSI HN6c dc6 HIMc HBc HIQ
              have HMB6 := Lib.hid (members_ok Y (.slice p6 Y.length c6) w33 HN6d.out (by have := HLY.out; omega))
              rw [HMY.out] at HMB6
              go_wp2_with fail
              refine (HMB6.out).mono ?_
              rintro e w34 ⟨uq, rfl, hrq, hA⟩
              have HIQ := Lib.hid (ints_of_row hrq)
              obtain ⟨pq4, cq4, rfl, -⟩ := ints_form hrq
              have HIMe := Lib.hid (ints_below HIMd.out hA)
              have HBe := Lib.hid (below_trans HBd.out hA)
              clear hA hrq HMB6 HN6d dd6 HIMd HBd
              have HSI := Lib.hid (sameints_self M _ _ w34 HIQ.out HIMe.out (by have := HML.out; omega))
              go_wp2_with fail
              refine (HSI.out).mono ?_
              rintro e w35 ⟨rfl, hA⟩
              have HBf := Lib.hid (below_trans HBe.out hA)
              clear hA HSI HBe
              go_wp2_with fail
              go_ret
              exact ⟨rfl, HBf.out⟩
theorem renewed_w {H : Type} {enc : TypeId × Value → H} {base : Nat} (v0 : Value) (d0 : DataW H) (p0 : List MemPlace) {W : World} (h0 : DataW.Trod enc Try.prog W 0 (fun _ => true) true 24 v0 d0 p0) (o0 : Value.okWide Try.prog W .any base 24 v0)
    (a1 : Int) (w1 : (Lit.int .u8 a1).wf = true) (a2 : Int) (w2 : (Lit.int .i64 a2).wf = true) :
    Calls Try.prog 7 #[v0, .int .u8 a1, .int .i64 a2] W fun e w' => e = .returned (.bool true) ∧ Below W.heap.size W w' := by
  obtain ⟨u, t, rfl, ht, hl⟩ := treeIn h0 o0
  obtain ⟨n, rfl, hn⟩ := u8_nat w1
  exact renewed_walk t u n a2 W ht hl hn
end Go.Proofs.Ytekdekchbnacgaa
