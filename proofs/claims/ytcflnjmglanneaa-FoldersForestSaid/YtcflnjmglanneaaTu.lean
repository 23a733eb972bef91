/- Folders: the reference's Tree, Effect, Above. -/
import Derived.Test.YtcflnjmglanneaaTs
namespace Go.Proofs.Ytcflnjmglanneaa
open Go.RowKit Go.Maps Go.Sort
set_option maxRecDepth 100000
set_option linter.unusedVariables false
set_option linter.unusedSimpArgs false

theorem sort_len : ∀ (T : List Pl) (lo : Int), lo ≤ 16 → SortT T → (∀ e ∈ T, lo ≤ e.f ∧ e.f ≤ 15) → (T.length : Int) ≤ 16 - lo
  | [], lo, h, _, _ => by simp; omega
  | e :: T, lo, h, hs, hb => by
    have hs' := List.pairwise_cons.1 hs
    have h0 := hb e (by simp)
    have := sort_len T (e.f + 1) (by omega) hs'.2 fun x hx => ⟨by have := hs'.1 x hx; omega, (hb x (by simp [hx])).2⟩
    rw [List.length_cons]
    omega
theorem Frst.few {T : List Pl} {L : Int → Nat} (h : Frst T L) : T.length ≤ 16 := by
  have := sort_len T 0 (by decide) h.sort fun e he => (h.ok e he).2.2.1
  omega
/-- The tree of the program and of the reference. -/
def treeP (l : List Pl) : List Pl := treeL (ltOf cmpP) l
theorem orderT_len (l : List Pl) : (orderT (ltOf cmpP) l).length ≤ l.length := by
  rw [(orderT_perm cmp_tot l).length_eq]
  exact List.length_filter_le _ _
theorem treeP_frst (l : List Pl) : ∃ L, Frst (treeP l) L := treeL_frst cmp_tot l

set_option maxHeartbeats 4000000 in
theorem rtree_ok (l : List Pl) (v : Value) (w : World) (ht : PlAt w v l) (hl : l.length ≤ 100000) :
    Calls Try.prog 14 #[v] w fun e w' => ∃ u, e = .returned u ∧ PlAt w' u (treeP l) ∧ Below w.heap.size w w' := by
  have HP := Lib.hid (rordered_ok l v w ht hl)
  obtain ⟨O, hO⟩ : ∃ O, O = orderT (ltOf cmpP) l := ⟨_, rfl⟩
  rw [← hO] at HP
  have HT : Hid (treeP l = O.foldl stepT []) := Lib.hid (by rw [hO]; rfl)
  have hOl : O.length ≤ 100000 := by rw [hO]; have := orderT_len l; omega
  have HK : Hid (∀ p ∈ O, okP p) := Lib.hid fun p hp => by rw [hO] at hp; exact ((mem_orderT cmp_tot).1 hp).2
  clear ht hl hO
  go_enter Try.func14, Try.ntmps14
  go_wp2_with fail
  refine (HP.out).mono ?_
  rintro x w1 ⟨u, rfl, hu, hB⟩
  obtain ⟨pt, pc, rfl, hc, -⟩ := hu.form
  have HU := Lib.hid hu
  have HB := Lib.hid hB
  obtain ⟨nt, hnt⟩ : ∃ n, n = O.length := ⟨_, rfl⟩
  have HNT := Lib.hid hnt
  rw [← hnt] at HU hc hOl ⊢
  clear hu hB hnt HP
  have HB2 := Lib.hid (below_trans HB.out (below_alloc w1 (.cells #[] 24)))
  have HBA := Lib.hid (below_alloc w1 (.cells #[] 24))
  have HE0 : Hid (PlAt (w1.alloc (.cells #[] 24)) (.slice (some ⟨w1.heap.size, 0, none⟩) 0 0) []) := Lib.hid ⟨rfl, _, 0, rfl, Nat.le_refl _, (fun e => by cases e), fun h => absurd h (Nat.lt_irrefl _)⟩
  go_upto_region 3 with fail
  obtain ⟨W0, hW0⟩ : ∃ W, W = w1.alloc (.cells #[] 24) := ⟨_, rfl⟩
  obtain ⟨G0, hG0⟩ : ∃ G, G = some (⟨w1.heap.size, 0, none⟩ : Addr) := ⟨_, rfl⟩
  rw [← hW0, ← hG0]
  rw [← hW0] at HB2 HBA HE0
  rw [← hG0] at HE0
  clear hW0 hG0
  go_wp2_with fail
  go_loopw [4, 5] (fun v4 v5 wr => ∃ (p : Option Addr) (c k : Nat) (T : List Pl), v4 = .slice p T.length c ∧ v5 = .int .i64 k ∧ k ≤ nt ∧ Hid (∃ L, Frst T L) ∧ Hid ((O.drop k).foldl stepT T = treeP l) ∧ Hid (PlAt wr (.slice p T.length c) T) ∧ Hid (Below w.heap.size w wr) ∧ Hid (Below w1.heap.size w1 wr)) (fun _ v5 _ => nt - (intOf v5).toNat)
  case atStart => exact ⟨G0, 0, 0, [], rfl, rfl, Nat.zero_le _, Lib.hid ⟨_, Frst.nil⟩, Lib.hid (by rw [HT.out]; rfl), HE0, HB2, HBA⟩
  case round =>
    obtain ⟨p, c, k, T, rfl, rfl, hk, HF, HE, HTT, HBw, HB1⟩ := hrel
    by_cases hkn : k < nt
    case neg =>
      have hd := decide_eq_false (show ¬ ((k : Int) < (nt : Int)) by omega)
      have hd' := decide_eq_false hkn
      have HE2 : Hid (T = treeP l) := Lib.hid (by
        have h := HE.out
        rw [List.drop_of_length_le (by rw [← HNT.out]; omega)] at h
        exact h)
      go_wp2_with fail
      go_ret
      exact ⟨_, rfl, by rw [← HE2.out]; exact HTT.out, HBw.out⟩
    have hd := decide_eq_true (show ((k : Int) < (nt : Int)) by omega)
    have hd' := decide_eq_true hkn
    obtain ⟨e, he⟩ : ∃ e, O[k]? = some e := ⟨O[k]'(by rw [← HNT.out]; exact hkn), List.getElem?_eq_getElem _⟩
    have hok := HK.out e (List.mem_of_getElem? he)
    obtain ⟨gt, ot, rfl, hcs⟩ := (HU.out.cells).2.2 (by omega)
    obtain ⟨c0, c1, c2, c3, c4⟩ := (hcs k e he).below HB1.out
    obtain ⟨L, hF⟩ := HF.out
    obtain ⟨L', hF'⟩ := hF.step hok
    have HF2 : Hid (∃ L, Frst (stepT T e) L) := Lib.hid ⟨L', hF'⟩
    have HPU := Lib.hid (rput_ok T L (.slice p T.length c) e wr hF HTT.out (by have := hF.few; omega) hok)
    have HE2 : Hid ((O.drop (k + 1)).foldl stepT (stepT T e) = treeP l) := Lib.hid (by
      have hkl := (List.getElem?_eq_some_iff.1 he).1
      have hee : O[k] = e := by rw [List.getElem?_eq_getElem hkl] at he; injection he
      have h := HE.out
      rw [List.drop_eq_getElem_cons hkl, List.foldl_cons, hee] at h
      exact h)
    obtain ⟨T', hT'⟩ : ∃ T', T' = stepT T e := ⟨_, rfl⟩
    obtain ⟨r, hr⟩ : ∃ r, r = (putT T e).isSome := ⟨_, rfl⟩
    obtain ⟨nT, hnT⟩ : ∃ n, n = T.length := ⟨_, rfl⟩
    rw [← hT'] at HF2 HE2 HPU
    rw [← hr] at HPU
    rw [← hnT] at HPU ⊢
    obtain ⟨et, ed, ef, ep, en⟩ := e
    unfold Pl.ev at HPU
    dsimp only at c0 c1 c2 c3 c4 HPU
    clear he hcs hF hF' hok hT' hr HF HE HTT hnT
    go_wp2_with fail
    refine (HPU.out).mono ?_
    rintro x w2 ⟨u, rfl, hu, hB⟩
    obtain ⟨p2, c2', rfl, -, -⟩ := hu.form
    have HU2 := Lib.hid hu
    have HB3 := Lib.hid (HBw.out.trans (hB.mono HBw.out.size))
    have HB4 := Lib.hid (HB1.out.trans (hB.mono HB1.out.size))
    clear hu hB HPU c0 c1 c2 c3 c4
    go_wp2_with fail
    exact ⟨⟨p2, c2', k + 1, T', rfl, by go_num, by omega, HF2, HE2, HU2, HB3, HB4⟩, by simp only [intOf]; omega⟩
theorem reffect_ok (t : List Pl) (L : Int → Nat) (v : Value) (p : Pl) (w : World) (hF : Frst t L) (ht : PlAt w v t) (hk : okP p) :
    Calls Try.prog 25 #[v, p.ev] w fun e w' => e = .returned (.bool (putT t p).isSome) ∧ Below w.heap.size w w' := by
  obtain ⟨pt, pc, rfl, hc, -⟩ := ht.form
  have HB0 := Lib.hid (below_alloc w (.cells p.cells.toArray 24))
  have HP := Lib.hid (rput_ok t L (.slice pt t.length pc) p (w.alloc (.cells p.cells.toArray 24)) hF (ht.below HB0.out) (by have := hF.few; omega) hk)
  obtain ⟨r, hr⟩ : ∃ r, r = (putT t p).isSome := ⟨_, rfl⟩
  obtain ⟨n, hn⟩ : ∃ n, n = t.length := ⟨_, rfl⟩
  rw [← hr] at HP ⊢
  rw [← hn] at HP ⊢
  obtain ⟨T', hT'⟩ : ∃ T', T' = stepT t p := ⟨_, rfl⟩
  rw [← hT'] at HP
  obtain ⟨et, ed, ef, ep, en⟩ := p
  unfold Pl.ev Pl.cells at HP
  unfold Pl.cells at HB0
  unfold Pl.ev
  dsimp only at HP HB0 ⊢
  clear hr hn hF ht hk hT'
  go_enter Try.func25, Try.ntmps25
  go_wp2_with fail
  refine (HP.out).mono ?_
  rintro x w2 ⟨u, rfl, hu, hB⟩
  have HB := Lib.hid (below_trans HB0.out hB)
  clear hu hB HP HB0
  go_wp2_with fail
  go_ret
  exact ⟨rfl, HB.out⟩
theorem rabove_ok (l : List Pl) (v : Value) (x : Int) (w : World) (ht : PlAt w v l) (hl : l.length ≤ 100000) :
    Calls Try.prog 21 #[v, .int .i64 x] w fun e w' => ∃ u, e = .returned u ∧ IntsAt w' u (upT (treeP l) 32 x) ∧ Below w.heap.size w w' := by
  have HP := Lib.hid (rtree_ok l v w ht hl)
  obtain ⟨L, hF⟩ := treeP_frst l
  have HF := Lib.hid hF
  obtain ⟨T, hT⟩ : ∃ T, T = treeP l := ⟨_, rfl⟩
  rw [← hT] at HP HF ⊢
  clear ht hl hF hT
  go_enter Try.func21, Try.ntmps21
  go_wp2_with fail
  refine (HP.out).mono ?_
  rintro e w1 ⟨u, rfl, hu, hB⟩
  have HU := Lib.hid (rup_ok T u x 32 w1 hu (by have := HF.out.few; omega) (by rw [HF.out.len (by decide)]; have := HF.out.le x; omega) (by decide))
  have HB := Lib.hid hB
  clear hu hB HP
  go_wp2_with fail
  refine (HU.out).mono ?_
  rintro e w2 ⟨u2, rfl, hrow, hB2⟩
  have HR := Lib.hid (ints_of_row hrow)
  have HB2 := Lib.hid (below_trans HB.out hB2)
  clear hrow hB2 HU
  go_wp2_with fail
  go_ret
  exact ⟨_, rfl, HR.out, HB2.out⟩
end Go.Proofs.Ytcflnjmglanneaa
