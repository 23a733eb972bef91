/- The walk of FoldersBelowSpec. -/
import Derived.Test.YtcflnjmglanneaaUo
namespace Go.Proofs.Ytcflnjmglanneaa
open Go.RowKit Go.Maps Go.Sort
set_option maxRecDepth 100000
set_option linter.unusedVariables false
set_option linter.unusedSimpArgs false

theorem and15 (a : Int) : bits .and .i64 a 15 = a % 16 := by
  show IntKind.i64.wrap ((BitVec.ofInt 64 a &&& BitVec.ofInt 64 15).toNat : Nat) = _
  have e : (BitVec.ofInt 64 a &&& BitVec.ofInt 64 15).toNat = (a % 16).toNat := by
    rw [BitVec.toNat_and, show (BitVec.ofInt 64 15).toNat = 2 ^ 4 - 1 from rfl, Nat.and_two_pow_sub_one_eq_mod, BitVec.toNat_ofInt]
    omega
  rw [e, IntKind.wrap_i64]
  omega
set_option maxHeartbeats 8000000 in
theorem belowSpec_walk (l : List Pl) (v : Value) (a : Int) (w : World) (ht : PlAt w v l) (hl : l.length ≤ maxLen) (ha : I64 a) :
    Calls Try.prog 4 #[v, .int .i64 a] w fun e w' => e = .returned (.bool true) ∧ Below w.heap.size w w' := by
  obtain ⟨pt, pc, rfl, hc, -⟩ := ht.form
  have HT := Lib.hid ht
  obtain ⟨n, hn⟩ : ∃ n, n = l.length := ⟨_, rfl⟩
  have HN := Lib.hid hn
  rw [← hn] at HT hl hc ⊢
  have HA := Lib.hid ha
  have h15 := and15 a
  have HG : Hid (I64 (a % 16)) := Lib.hid (I64.of ⟨by omega, by omega⟩)
  clear ht hn ha
  go_enter Try.func4, Try.ntmps4
  go_wp2_with fail
  refine (sane_ok w).mono ?_
  rintro e W1 ⟨rfl, hB⟩
  have HB1 : Hid (Below w.heap.size w W1) := Lib.hid (hB)
  have HT_1 := Lib.hid ((HT.out).below hB)
  clear hB HT
  go_wp2_with fail
  refine (few_ok pt none n pc 0 0 W1 hl (Nat.zero_le _)).mono ?_
  rintro e W2 ⟨rfl, rfl⟩
  by_cases h30 : n ≤ 30
  case neg =>
    rw [decide_eq_false (show ¬ (n ≤ 30 ∧ 0 ≤ 30) from fun h => h30 h.1)]
    clear h30
    go_wp2_with fail
    go_ret
    exact ⟨rfl, HB1.out⟩
  rw [decide_eq_true (show (n ≤ 30 ∧ 0 ≤ 30) from ⟨h30, by decide⟩)]
  have HL2 := Lib.hid (ints_lit W1 [a, a % 16] (by show 2 ≤ 1000000; omega))
  have HB2 := Lib.hid (below_trans HB1.out (below_alloc W1 (.cells ([a, a % 16].map (Value.int .i64)).toArray 3)))
  have HT2 := Lib.hid (HT_1.out.below (below_alloc W1 (.cells ([a, a % 16].map (Value.int .i64)).toArray 3)))
  go_wp2_with fail
  obtain ⟨g, hg⟩ : ∃ g, g = W1.heap.size := ⟨_, rfl⟩
  obtain ⟨W2, hW2⟩ : ∃ W, W = W1.alloc (.cells ([a, a % 16].map (Value.int .i64)).toArray 3) := ⟨_, rfl⟩
  have hW2' : W1.alloc (.cells #[.int .i64 a, .int .i64 (a % 16)] 3) = W2 := hW2.symm
  try rw [hW2']
  try rw [← hg]
  rw [← hW2] at HL2 HB2 HT2
  rw [← hg] at HL2
  clear hW2 hW2' hg HT_1 HB1 h15
  go_loopw [17] (fun v17 wr => ∃ k : Nat, v17 = .int .i64 k ∧ k ≤ 2 ∧ Hid (Below W2.heap.size W2 wr)) (fun v17 _ => 2 - (intOf v17).toNat)
  case atStart => exact ⟨0, rfl, by decide, Lib.hid (Below.refl _ _)⟩
  case round =>
    obtain ⟨k, rfl, hk, HB⟩ := hrel
    by_cases hk2 : k < 2
    case neg =>
      have hd := decide_eq_false (show ¬ ((k : Int) < 2) by omega)
      have hd' := decide_eq_false hk2
      have HBf := Lib.hid (below_trans HB2.out HB.out)
      go_wp2_with fail
      go_ret
      exact ⟨rfl, HBf.out⟩
    have hd := decide_eq_true (show ((k : Int) < 2) by omega)
    have hd' := decide_eq_true hk2
    obtain ⟨f, hf, hIf⟩ : ∃ f, W2.cell? ⟨g, k, none⟩ = some (.int .i64 f) ∧ I64 f := by
      obtain ⟨p, c, e, -, hcs⟩ := HL2.out
      obtain ⟨g', o', e2, h⟩ := hcs (by show 0 < 2; omega)
      injection e with e3
      rw [← e3] at e2
      injection e2 with e2
      injection e2 with e4 e5
      subst e4; subst e5
      have h2 := h k (by show k < 2; exact hk2)
      rw [Nat.zero_add] at h2
      rcases (by omega : k = 0 ∨ k = 1) with rfl | rfl
      · exact ⟨a, h2, HA.out⟩
      · exact ⟨a % 16, h2, HG.out⟩
    have hfr := cellOld hf (HB.out.block g (cellLt hf))
    have HTr := Lib.hid (HT2.out.below HB.out)
    have h16 := treeP_few l
    have hbl : (belowT (treeP l) f).length ≤ 1000000 := by
      unfold belowT
      split
      · rw [List.length_map]; have := List.length_filter_le (fun e : Pl => decide (e.f = f ∨ f ∈ upT (treeP l) 32 e.f)) (treeP l); omega
      · simp
    have hul : (upT (treeP l) 32 f).length ≤ 1000000 := by
      obtain ⟨L, hL⟩ := treeP_frst l
      rw [hL.len (by decide)]
      have := hL.le f
      omega
    clear hf
    go_wp2_with fail
    refine (below_ok l (.slice pt n pc) f wr HTr.out (by have := HN.out; omega) hIf).mono ?_
    rintro e Wa ⟨ua, rfl, hu, hB⟩
    have HBa := Lib.hid (HB.out.trans (hB.mono HB.out.size))
    have HUa := Lib.hid hu
    have HTa := Lib.hid (HTr.out.below hB)
    clear hB hu hfr
    go_wp2_with fail
    refine (rbelow_ok l (.slice pt n pc) f Wa HTa.out (by have := HN.out; omega)).mono ?_
    rintro e Wb ⟨ub, rfl, hu, hB⟩
    have HBb := Lib.hid (HBa.out.trans (hB.mono HBa.out.size))
    have HUb := Lib.hid hu
    have HUa2 := Lib.hid (ints_below HUa.out hB)
    have HTb := Lib.hid (HTa.out.below hB)
    clear hB hu HUa HTa HBa
    go_wp2_with fail
    refine (sameints_ok (belowT (treeP l) f) (belowT (treeP l) f) ua ub Wb HUa2.out HUb.out hbl hbl).mono ?_
    rintro e Wc ⟨rfl, hB⟩
    rw [decide_eq_true (rfl : belowT (treeP l) f = belowT (treeP l) f)]
    have HBc := Lib.hid (HBb.out.trans (hB.mono HBb.out.size))
    have HTc := Lib.hid (HTb.out.below hB)
    clear hB HUa2 HUb HTb HBb
    go_wp2_with fail
    refine (above_ok l (.slice pt n pc) f Wc HTc.out (by have := HN.out; omega) hIf).mono ?_
    rintro e Wd ⟨ud, rfl, hu, hB⟩
    have HBd := Lib.hid (HBc.out.trans (hB.mono HBc.out.size))
    have HUd := Lib.hid hu
    have HTd := Lib.hid (HTc.out.below hB)
    clear hB hu HTc HBc
    go_wp2_with fail
    refine (rabove_ok l (.slice pt n pc) f Wd HTd.out (by have := HN.out; omega)).mono ?_
    rintro e We ⟨ue, rfl, hu, hB⟩
    have HBe := Lib.hid (HBd.out.trans (hB.mono HBd.out.size))
    have HUe := Lib.hid hu
    have HUd2 := Lib.hid (ints_below HUd.out hB)
    clear hB hu HUd HTd HBd
    go_wp2_with fail
    refine (sameints_ok (upT (treeP l) 32 f) (upT (treeP l) 32 f) ud ue We HUd2.out HUe.out hul hul).mono ?_
    rintro e Wf ⟨rfl, hB⟩
    rw [decide_eq_true (rfl : upT (treeP l) 32 f = upT (treeP l) 32 f)]
    have HBf := Lib.hid (HBe.out.trans (hB.mono HBe.out.size))
    clear hB HUd2 HUe HBe hbl hul
    go_wp2_with fail
    exact ⟨⟨k + 1, by go_num, by omega, HBf⟩, by simp only [intOf]; omega⟩
theorem belowSpec_w {H : Type} {enc : TypeId × Value → H} {w : World} {base : Nat} (v : Value) (d : DataW H) (p : List MemPlace) (h : DataW.Trod enc Try.prog w 0 (fun _ => true) true 22 v d p) (hv : Value.okWide Try.prog w .any base 22 v)
    (a : Int) (ha : (Lit.int .i64 a).wf = true) :
    Calls Try.prog 4 #[v, .int .i64 a] w fun e w' => e = .returned (.bool true) ∧ Below w.heap.size w w' := by
  obtain ⟨l, ht, hl⟩ := placesIn h hv
  exact belowSpec_walk l v a w ht hl ha
end Go.Proofs.Ytcflnjmglanneaa
