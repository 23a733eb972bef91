/- slices.Chunk. -/
import Derived.Test.YtklaancgnfkjlaaDoorDf
import Derived.Test.YtklaancgnfkjlaaDoorRf
import Derived.RangeFuncNested
import Derived.RangeFuncBound
import Derived.RangeFuncCalls
import Derived.RangeFuncLeaves
import Derived.Shelf.Abstract
import Derived.Shelf.RegionOpen
import Derived.OwnWalkIn
import Derived.TacticsInMore
import Derived.LoopNIn
import Derived.LoopIn
import Derived.RegionIn
import Derived.RangeFuncOwn
import Derived.RangeFuncBox
namespace Go.Proofs.YtklaancgnfkjlaaDoor
open Go.RowKit
set_option maxRecDepth 100000
set_option maxHeartbeats 1000000
set_option linter.unusedVariables false
set_option linter.unusedSimpArgs false

/-- How many chunks; how long each is. -/
def nck (L : Nat) : Nat := (L + 63) / 64
def ckl (L j : Nat) : Nat := min 64 (L - 64 * j)
theorem min_spell (a b : Nat) : Min.min (a : Int) (b : Int) = ((Min.min a b : Nat) : Int) := by omega

theorem chunk_any (p : Option Addr) (n c : Nat) (w : World) :
    Calls Tryd.prog 24 #[.slice p n c, .int .i64 64] w fun e w' =>
      e = .returned (.func (.func 34) #[] #[.pointer (some ⟨w.heap.size, 0, none⟩), .pointer (some ⟨w.heap.size + 1, 0, none⟩)]) ∧
      w' = (w.alloc (.cells #[.slice p n c] 28)).alloc (.cells #[.int .i64 64] 3) := by
  go_enter Tryd.func24, Tryd.ntmps24
  go_wp2
  go_ret
  exact ⟨rfl, rfl⟩

theorem slice_lhm {P : Program} (t e : TypeId) (ht : P.underlying t = some (.slice e)) (hz : ∀ w, (sizeOf e).run P w = .ok 1 w) (g n c l h : Nat) (hl : l ≤ h) (hh : h ≤ c) (hlh : l < h) (W : World) :
    (Instr.sliceAt t (.slice (some ⟨g, 0, none⟩) n c) (some (.int .i64 (l : Int))) (some (.int .i64 (h : Int))) (some (.int .i64 (h : Int)))).run P W = .ok (.slice (some ⟨g, l, none⟩) (h - l) (h - l)) W := by
  have he : P.elem t = e := by simp [Program.elem, ht]
  rw [run_sliceAt_slice W t _ _ _ _ (by rw [he]; exact ht), run_slice_lhm W t _ n c (by rw [he]; exact ht) .i64 .i64 .i64 _ _ _ (by omega) (by omega) (by omega) (by omega), he]
  simp [hz, Result.andThen, sliced, Addr.add]
  rw [if_neg (by omega)]
  split <;> simp [*]

theorem chunk_iter (p : Option Addr) (L cap CB : Nat) (hp : 0 < L → p = some ⟨CB, 0, none⟩) (hL : L ≤ cap) (hL2 : L ≤ 100000) (b0 b1 : Nat) (w : World)
    (h0 : Boxed w b0 28 (.slice p L cap)) (h1 : Boxed w b1 3 (.int .i64 64)) :
    IterC Tryd.prog 34 #[.pointer (some ⟨b0, 0, none⟩), .pointer (some ⟨b1, 0, none⟩)] (fun j : Nat => #[.slice (some ⟨CB, 64 * j, none⟩) (ckl L j) (ckl L j)])
      (fun k => k = b0 ∨ k = b1) 0 (fun xs => xs = List.range (nck L)) (fun _ => True) (fun ys => ys <+: List.range (nck L)) w := by
  intro l J Jx W hW hJ hJx hY hs0
  have hb0 : Boxed W b0 28 (.slice p L cap) := (hW.block b0 h0.lt).trans h0
  have hb1 : Boxed W b1 3 (.int .i64 64) := (hW.block b1 h1.lt).trans h1
  clear h0 h1
  refine (callsIn_wide (n := 0)).1 ?_
  refine callsIn_of_wp Tryd.func34 rfl trivial ?_ rfl
  simp only [Tryd.ntmps34, List.size_toArray, List.length_cons, List.length_nil, Nat.reduceAdd, Nat.reduceSub, Array.replicate_succ, Array.replicate_zero, List.push_toArray, List.append_toArray, List.nil_append, List.cons_append]
  gi_wp2
  gi_loopw [4] (fun i wr => W.heap.size ≤ wr.heap.size ∧ ∃ j : Nat, i = .int .i64 ((64 * j : Nat) : Int) ∧ j ≤ nck L ∧ Hid (J (List.range j) (fun k => k = b0 ∨ k = b1) wr) ∧ Boxed wr b0 28 (.slice p L cap) ∧ Boxed wr b1 3 (.int .i64 64))
    (fun i _ => 100064 - (intOf i).toNat)
  case atStart =>
    exact ⟨Nat.le_refl _, 0, rfl, Nat.zero_le _, hs0, hb0, hb1⟩
  case round =>
    obtain ⟨hsz, j, rfl, hj, HJs, hbx, hby⟩ := hrel
    have hc0 := hbx.cell
    have hc1 := hby.cell
    by_cases hlt : 64 * j < L
    · have hjn : j < nck L := by unfold nck; omega
      obtain rfl : p = some ⟨CB, 0, none⟩ := hp (by omega)
      have hpre : List.range j ++ [j] <+: List.range (nck L) := by
        rw [← List.range_succ]
        have : List.range (j + 1) = (List.range (nck L)).take (j + 1) := by
          rw [List.take_range, Nat.min_eq_left (by omega)]
        rw [this]; exact List.take_prefix _ _
      have HJ : Hid (Stable W.heap.size J) := hJ
      have HY := Lib.hid hY
      have HPRE := Lib.hid hpre
      have hd : decide (((64 * j : Nat) : Int) < (L : Int)) = true := by simp; omega
      have hd2 : decide (64 * (j : Int) < (L : Int)) = true := by simp; omega
      have hsl : ∀ W, (Instr.sliceAt 28 (.slice (some ⟨CB, 0, none⟩) L cap) (some (.int .i64 (64 * (j : Int)))) none none).run Tryd.prog W = .ok (.slice (some ⟨CB, 64 * j, none⟩) (L - 64 * j) (cap - 64 * j)) W := fun W => by
        have h := slice_from (P := Tryd.prog) 28 5 Tryd.underlying28 size5 CB 0 L cap (64 * j) (by omega) (by omega) W
        simpa using h
      clear hY hs0 hJx hW hJ hpre hb0 hb1
      gi_wp2
      gi_region
      have hmin : (Min.min 64 ((L - 64 * j : Nat) : Int)) = ((ckl L j : Nat) : Int) := by unfold ckl; omega
      rw [hmin]
      have he1 : 1 ≤ ckl L j := by unfold ckl; omega
      have he2 : ckl L j ≤ 64 := by unfold ckl; omega
      have he3 : 64 * j + ckl L j ≤ L := by unfold ckl; omega
      have HJd : Hid (J (List.range j) (fun k => k = b0 ∨ k = b1) wr.drew) := HJ.out.keep HJs.out ⟨rfl, rfl, rfl, Nat.le_refl _, fun _ _ _ => .inl rfl⟩
      have hbxd : Boxed wr.drew b0 28 (.slice (some ⟨CB, 0, none⟩) L cap) := hbx
      have hbyd : Boxed wr.drew b1 3 (.int .i64 64) := hby
      have hszd : W.heap.size ≤ wr.drew.heap.size := hsz
      obtain ⟨wo, hwo⟩ : ∃ wo, wo = wr.drew := ⟨_, rfl⟩
      rw [← hwo] at HJd hbxd hbyd hszd ⊢
      clear hwo HJs hbx hby hsz hc0 hc1 hsl hmin
      obtain ⟨fn, tmps, assign, body, hy, hR⟩ := HY.out (List.range j) j (fun k => k = b0 ∨ k = b1) wo HJd.out (by rintro _ (rfl | rfl); exact hbxd.lt; exact hbyd.lt) HPRE.out
      have hc0 := hbxd.cell
      have hc1 := hbyd.cell
      generalize ckl L j = E at hy he1 he2 he3 ⊢
      have hsl2 : ∀ W, (Instr.sliceAt 28 (.slice (some ⟨CB, 0, none⟩) L cap) (some (.int .i64 (64 * (j : Int)))) (some (.int .i64 (64 * (j : Int) + (E : Int)))) (some (.int .i64 (64 * (j : Int) + (E : Int))))).run Tryd.prog W = .ok (.slice (some ⟨CB, 64 * j, none⟩) E E) W := fun W => by
        have h := slice_lhm (P := Tryd.prog) 28 5 Tryd.underlying28 size5 CB L cap (64 * j) (64 * j + E) (by omega) (by omega) (by omega) W
        rw [show 64 * j + E - 64 * j = E by omega] at h
        simpa using h
      gi_wp2
      refine ⟨rfl, hR.mono ?_⟩
      rintro e W3 (⟨rfl, hJ3, hB3, hk3⟩ | ⟨rfl, hJx3, hB3, hk3⟩)
      · have hb3 : Boxed W3 b0 28 (.slice (some ⟨CB, 0, none⟩) L cap) := (hk3 b0 (.inl rfl)).trans hbxd
        have hb4 : Boxed W3 b1 3 (.int .i64 64) := (hk3 b1 (.inr rfl)).trans hbyd
        have hc3 := hb3.cell
        have hc4 := hb4.cell
        have hs3 := hB3.size
        clear hk3 hB3 hR hy
        gi_wp2
        go_roundw
        case rel =>
          rw [← List.range_succ] at hJ3
          exact ⟨Nat.le_trans hszd hs3, j + 1, by go_num, by omega, hJ3, hb3, hb4⟩
        case measure => simp [intOf]; omega
      · gi_wp2
        refine bodyPost_ret (results_none rfl _ _ _) rfl ?_
        exact ⟨⟨_, rfl⟩, .inr ⟨_, _, trivial, hJx3⟩⟩
    · have hjn : j = nck L := by unfold nck at *; omega
      have hd2 : decide (64 * (j : Int) < (L : Int)) = false := by simp; omega
      have HJn : Hid (J (List.range (nck L)) (fun k => k = b0 ∨ k = b1) wr) := hjn ▸ HJs
      clear HJs hjn hY hs0 hJ hJx hW hj
      gi_wp2
      refine bodyPost_end (results_none rfl _ _ _) rfl ?_
      exact ⟨⟨_, rfl⟩, .inl ⟨_, _, rfl, HJn.out⟩⟩
end Go.Proofs.YtklaancgnfkjlaaDoor
