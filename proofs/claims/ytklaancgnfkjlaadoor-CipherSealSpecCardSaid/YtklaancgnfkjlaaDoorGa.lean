/- The reference digest: word, numbers; the plain laws between the two ways to write a round. -/
import Derived.Test.YtklaancgnfkjlaaDoorFe
namespace Go.Proofs.YtklaancgnfkjlaaDoor
open Go.RowKit
set_option maxRecDepth 100000
set_option maxHeartbeats 2000000
set_option linter.unusedVariables false
set_option linter.unusedSimpArgs false

theorem be4_close (b0 b1 b2 b3 : BitVec 8) : bits .or .u32 (bits .or .u32 (bits .or .u32 ((b0.toNat : Int) * 16777216) ((b1.toNat : Int) * 65536)) ((b2.toNat : Int) * 256)) (b3.toNat : Int) = ((be4 b0 b1 b2 b3).toNat : Int) := by
  rw [show ((b0.toNat : Int) * 16777216) = _ from bshl8 b0 24 16777216 (by decide) (by decide), show ((b1.toNat : Int) * 65536) = _ from bshl8 b1 16 65536 (by decide) (by decide),
    show ((b2.toNat : Int) * 256) = _ from bshl8 b2 8 256 (by decide) (by decide), bext8 b3, bor, bor, bor]; rfl
theorem rdword_any (g o c n : Nat) (hn : 4 ≤ n) (hn2 : n < 4611686018427387904) (b0 b1 b2 b3 : BitVec 8) (w : World) (h0 : w.cell? ⟨g, o, none⟩ = some (.int .u8 b0.toNat)) (h1 : w.cell? ⟨g, o + 1, none⟩ = some (.int .u8 b1.toNat))
    (h2 : w.cell? ⟨g, o + 2, none⟩ = some (.int .u8 b2.toNat)) (h3 : w.cell? ⟨g, o + 3, none⟩ = some (.int .u8 b3.toNat)) :
    Calls Tryd.prog 48 #[.slice (some ⟨g, o, none⟩) n c] w fun e w' => e = .returned (.int .u32 (be4 b0 b1 b2 b3).toNat) ∧ ∃ q, w' = w.drewN q := by
  go_enter Tryd.func48, Tryd.ntmps48
  go_wp2
  go_quiet (fail)
  go_wp2
  go_ret
  exact ⟨ret_u32 (be4_close b0 b1 b2 b3), _, rfl⟩
theorem wacc_be4 (l : List (BitVec 8)) : wacc l 4 = be4 (l.getD 0 0) (l.getD 1 0) (l.getD 2 0) (l.getD 3 0) := by
  simp only [wacc, be4]
  generalize l.getD 0 0 = a
  generalize l.getD 1 0 = b
  generalize l.getD 2 0 = c
  generalize l.getD 3 0 = d
  rw [show (0 : BitVec 32) <<< 8 ||| a.setWidth 32 = a.setWidth 32 by simp]
  simp only [BitVec.shiftLeft_or_distrib, ← BitVec.shiftLeft_add]
theorem ch_eq (e f g : BitVec 32) : (e &&& f) ^^^ (~~~e &&& g) = g ^^^ (e &&& (f ^^^ g)) := by
  apply BitVec.eq_of_getLsbD_eq
  intro i hi
  simp [hi]
  cases e[i] <;> cases f[i] <;> cases g[i] <;> rfl
theorem maj_eq (a b c : BitVec 32) : (a &&& b) ^^^ (a &&& c) ^^^ (b &&& c) = (a &&& b) ||| (c &&& (a ||| b)) := by
  apply BitVec.eq_of_getLsbD_eq
  intro i hi
  simp [hi]
  cases a[i] <;> cases b[i] <;> cases c[i] <;> rfl
/-- A rotation to the right, by a number as the text has it. -/
def rorv (x : BitVec 32) (k : Int) : BitVec 32 := x.rotateRight k.toNat
theorem ror_any (x : BitVec 32) (k : Int) (hk : k = 7 ∨ k = 18 ∨ k = 17 ∨ k = 19 ∨ k = 6 ∨ k = 11 ∨ k = 25 ∨ k = 2 ∨ k = 13 ∨ k = 22) (w : World) :
    Calls Tryd.prog 49 #[.int .u32 x.toNat, .int .i64 k] w fun e w' => e = .returned (.int .u32 (rorv x k).toNat) ∧ ∃ q, w' = w.drewN q := by
  rcases hk with rfl | rfl | rfl | rfl | rfl | rfl | rfl | rfl | rfl | rfl
  · exact ror_7 x w
  · exact ror_18 x w
  · exact ror_17 x w
  · exact ror_19 x w
  · exact ror_6 x w
  · exact ror_11 x w
  · exact ror_25 x w
  · exact ror_2 x w
  · exact ror_13 x w
  · exact ror_22 x w
theorem bnot (x : BitVec 32) : bits .xor .u32 (if IntKind.u32.signed = true then -1 else IntKind.u32.max) (x.toNat : Int) = ((~~~x).toNat : Int) := by
  have e : (if IntKind.u32.signed = true then -1 else IntKind.u32.max) = ((BitVec.allOnes 32).toNat : Int) := by decide
  rw [e, bxor, BitVec.allOnes_xor]
/-- The two sums of a round, as the reference has them. -/
def pN (v4 v5 v6 v7 k x : BitVec 32) : BitVec 32 := v7 + (rorv v4 6 ^^^ rorv v4 11 ^^^ rorv v4 25) + ((v4 &&& v5) ^^^ (~~~v4 &&& v6)) + k + x
def qN (v0 v1 v2 : BitVec 32) : BitVec 32 := (rorv v0 2 ^^^ rorv v0 13 ^^^ rorv v0 22) + ((v0 &&& v1) ^^^ (v0 &&& v2) ^^^ (v1 &&& v2))
theorem rnd_step (v0 v1 v2 v3 v4 v5 v6 v7 k x : BitVec 32) : rndR [v0, v1, v2, v3, v4, v5, v6, v7] k x =
    [pN v4 v5 v6 v7 k x + qN v0 v1 v2, v0, v1, v2, v3 + pN v4 v5 v6 v7 k x, v4, v5, v6] := by
  have hp : pR [v0, v1, v2, v3, v4, v5, v6, v7] k x = pN v4 v5 v6 v7 k x := by
    unfold pN
    rw [ch_eq]
    rfl
  have hq : qR [v0, v1, v2, v3, v4, v5, v6, v7] = qN v0 v1 v2 := by
    unfold qN
    rw [maj_eq]
    rfl
  unfold rndR
  rw [hp, hq]
  rfl
theorem p_close (v4 v5 v6 v7 k x : BitVec 32) : (((v7.toNat : Int) + ((rorv v4 6 ^^^ rorv v4 11 ^^^ rorv v4 25).toNat : Int) + (((v4 &&& v5) ^^^ (~~~v4 &&& v6)).toNat : Int) + (k.toNat : Int)) % 4294967296 + (x.toNat : Int)) % 4294967296 = ((pN v4 v5 v6 v7 k x).toNat : Int) := by
  rw [badd4, badd]; rfl
theorem q_close (v0 v1 v2 : BitVec 32) : (((rorv v0 2 ^^^ rorv v0 13 ^^^ rorv v0 22).toNat : Int) + (((v0 &&& v1) ^^^ (v0 &&& v2) ^^^ (v1 &&& v2)).toNat : Int)) % 4294967296 = ((qN v0 v1 v2).toNat : Int) := by
  rw [badd]; rfl
theorem addR_eight (s0 s1 s2 s3 s4 s5 s6 s7 v0 v1 v2 v3 v4 v5 v6 v7 : BitVec 32) : addR [s0, s1, s2, s3, s4, s5, s6, s7] [v0, v1, v2, v3, v4, v5, v6, v7] 8 = [s0 + v0, s1 + v1, s2 + v2, s3 + v3, s4 + v4, s5 + v5, s6 + v6, s7 + v7] := rfl
theorem dr_n {W X : World} (h : ∃ n, X = W.drewN n) (a : Nat) : ∃ n, X.drewN a = W.drewN n := by
  obtain ⟨n, rfl⟩ := h
  exact ⟨n + a, World.drewN_drewN _ _ _⟩
theorem info75 : (Tryd.prog.info? 75).map (·.size) = some 64 := by kernel_rfl
theorem numbers_ok (w : World) :
    Calls Tryd.prog 50 #[] w fun e w' => e = .returned (.agg (kNums.map v32).toArray) ∧ Below w.heap.size w w' := by
  obtain ⟨Z, hZ⟩ : ∃ Z : Array Value, Z = (List.replicate 64 (Value.int .u32 0)).toArray := ⟨_, rfl⟩
  have hal : ∀ w, (Instr.alloc 75 true (.tuple #[])).run Tryd.prog w = .ok (.pointer (some ⟨w.heap.size, 0, none⟩)) (w.alloc (.cells Z 75)) := fun w => by rw [hZ]; kernel_rfl
  have hZs : Z.size = 64 := by rw [hZ]; simp
  have HZS := Lib.hid hZs
  clear hZ hZs
  go_enter Tryd.func50, Tryd.ntmps50
  go_upto_region 0 with fail
  refine wp_region_lit ?_
  refine wpList_plain rfl fun _ hK => wp_alloc_as 75 rfl Z hal (hK _ _ ?_)
  go_upto_region 1 with fail
  refine wp_region_lit ?_
  refine wpList_value (v := .agg (kNums.map v32).toArray) rfl (by kernel_rfl) ?_
  have hs : (kNums.map v32).toArray.size = 64 := by simp [kNums]
  have ho := v32_all kNums
  generalize hq : (kNums.map v32).toArray = arr at hs ho ⊢
  have HQ := Lib.hid hq
  have HS := Lib.hid hs
  clear hq hs
  refine wpList_plain rfl fun _ hK => wp_store_row 75 _ _ rfl w.heap.size arr rfl rfl 75 Z (World.alloc_heap_new w _) (by rw [HS.out]; rfl) (by rw [HZS.out, HS.out]) ho (hK _ _ ?_)
  go_wp2_with fail
  refine bodyPost_ret (v := .agg arr) ?_ rfl ?_
  · exact results_cell_row rfl _ _ w.heap.size 75 _ (0, 0) _ rfl (setRow_heap _ _ _ _ _ _ (World.alloc_heap_new w _)) Tryd.underlying75 rfl (by rw [HS.out]; rfl)
  · exact ⟨by rw [HQ.out], Below.setRow (Below.al (Below.refl _ _) _) (Nat.le_refl _) _⟩
end Go.Proofs.YtklaancgnfkjlaaDoor
