/- digest: absorb. -/
import Derived.Test.YtklaancgnfkjlaaDoorDb
import Derived.Test.YtklaancgnfkjlaaDoorQt
import Derived.LoopTactic
import Derived.Deep.WholeRow
import Derived.Deep.QuietTactic
import Derived.BigQuiet
namespace Go.Proofs.YtklaancgnfkjlaaDoor
open Go.RowKit
set_option maxRecDepth 100000
set_option maxHeartbeats 4000000
set_option linter.unusedVariables false
set_option linter.unusedSimpArgs false

def schedA (b : List (BitVec 8)) : Nat → List (BitVec 32)
  | 0 => List.replicate 64 0
  | t + 1 => (schedA b t).set t (wacc (b.drop (4 * t)) 4)
theorem schedA_length (b t) : (schedA b t).length = 64 := by induction t with
  | zero => simp [schedA]
  | succ t ih => simp [schedA, ih]
/-- A rotation to the right, by a negative number as the text has it. -/
def rotv (x : BitVec 32) (k : Int) : BitVec 32 := x.rotateRight (-k).toNat
def nextW (W : List (BitVec 32)) (t : Nat) : BitVec 32 :=
  W.getD (t - 16) 0 + (rotv (W.getD (t - 15) 0) (-7) ^^^ rotv (W.getD (t - 15) 0) (-18) ^^^ (W.getD (t - 15) 0) >>> 3) + W.getD (t - 7) 0 +
    (rotv (W.getD (t - 2) 0) (-17) ^^^ rotv (W.getD (t - 2) 0) (-19) ^^^ (W.getD (t - 2) 0) >>> 10)
theorem nextW_eq (W : List (BitVec 32)) (t : Nat) : nextW W t = W.getD (t - 16) 0 + (rotv (W.getD (t - 15) 0) (-7) ^^^ rotv (W.getD (t - 15) 0) (-18) ^^^ (W.getD (t - 15) 0) >>> 3) + W.getD (t - 7) 0 +
    (rotv (W.getD (t - 2) 0) (-17) ^^^ rotv (W.getD (t - 2) 0) (-19) ^^^ (W.getD (t - 2) 0) >>> 10) := rfl
theorem rot_neg (x : BitVec 32) (k : Int) (hk : k = -7 ∨ k = -18 ∨ k = -17 ∨ k = -19) (w : World) :
    Calls Tryd.prog 41 #[.int .u32 x.toNat, .int .i64 k] w fun e w' => e = .returned (.int .u32 (rotv x k).toNat) ∧ w' = w := by
  rcases hk with rfl | rfl | rfl | rfl
  · exact (rotr_7 x w).mono fun e w' h => ⟨h.1, h.2.symm⟩
  · exact (rotr_18 x w).mono fun e w' h => ⟨h.1, h.2.symm⟩
  · exact (rotr_17 x w).mono fun e w' h => ⟨h.1, h.2.symm⟩
  · exact (rotr_19 x w).mono fun e w' h => ⟨h.1, h.2.symm⟩
theorem badd4 (a b c d : BitVec 32) : ((a.toNat : Int) + (b.toNat : Int) + (c.toNat : Int) + (d.toNat : Int)) % 4294967296 = ((a + b + c + d).toNat : Int) := by
  simp only [BitVec.toNat_add]; omega
theorem badd5 (a b c d e : BitVec 32) : ((a.toNat : Int) + (b.toNat : Int) + (c.toNat : Int) + (d.toNat : Int) + (e.toNat : Int)) % 4294967296 = ((a + b + c + d + e).toNat : Int) := by
  simp only [BitVec.toNat_add]; omega
def rotE (x : BitVec 32) : BitVec 32 := x.rotateRight 6 ^^^ x.rotateRight 11 ^^^ x.rotateRight 25
def rotA (x : BitVec 32) : BitVec 32 := x.rotateRight 2 ^^^ x.rotateRight 13 ^^^ x.rotateRight 22
theorem rotE_ok (x : BitVec 32) (w : World) :
    Calls Tryd.prog 45 #[.int .u32 x.toNat, .int .i64 6, .int .i64 11, .int .i64 25] w fun e w' => e = .returned (.int .u32 (rotE x).toNat) ∧ w' = w :=
  (rotated_e x w).mono fun e w' h => ⟨h.1, h.2.symm⟩
theorem rotA_ok (x : BitVec 32) (w : World) :
    Calls Tryd.prog 45 #[.int .u32 x.toNat, .int .i64 2, .int .i64 13, .int .i64 22] w fun e w' => e = .returned (.int .u32 (rotA x).toNat) ∧ w' = w :=
  (rotated_a x w).mono fun e w' h => ⟨h.1, h.2.symm⟩
def schedB (b : List (BitVec 8)) : Nat → List (BitVec 32)
  | 0 => schedA b 16
  | t + 1 => (schedB b t).set (16 + t) (nextW (schedB b t) (16 + t))
theorem schedB_length (b t) : (schedB b t).length = 64 := by induction t with
  | zero => exact schedA_length b 16
  | succ t ih => simp [schedB, ih]
theorem slice_from {P : Program} (t e : TypeId) (ht : P.underlying t = some (.slice e)) (hz : ∀ w, (sizeOf e).run P w = .ok 1 w) (g o n c l : Nat) (hl : l ≤ n) (hc : l < c) (W : World) :
    (Instr.sliceAt t (.slice (some ⟨g, o, none⟩) n c) (some (.int .i64 (l : Int))) none none).run P W = .ok (.slice (some ⟨g, o + l, none⟩) (n - l) (c - l)) W := by
  have he : P.elem t = e := by simp [Program.elem, ht]
  rw [run_sliceAt_slice W t _ _ _ _ (by rw [he]; exact ht), run_slice_l W t _ n c (by rw [he]; exact ht) .i64 _ (by omega) (by omega), he]
  simp [hz, Result.andThen, sliced, Addr.add]
  rw [if_neg (by omega)]
  split <;> simp [*]
def kNums : List (BitVec 32) := [
  1116352408, 1899447441, 3049323471, 3921009573, 961987163, 1508970993, 2453635748, 2870763221,
  3624381080, 310598401, 607225278, 1426881987, 1925078388, 2162078206, 2614888103, 3248222580,
  3835390401, 4022224774, 264347078, 604807628, 770255983, 1249150122, 1555081692, 1996064986,
  2554220882, 2821834349, 2952996808, 3210313671, 3336571891, 3584528711, 113926993, 338241895,
  666307205, 773529912, 1294757372, 1396182291, 1695183700, 1986661051, 2177026350, 2456956037,
  2730485921, 2820302411, 3259730800, 3345764771, 3516065817, 3600352804, 4094571909, 275423344,
  430227734, 506948616, 659060556, 883997877, 958139571, 1322822218, 1537002063, 1747873779,
  1955562222, 2024104815, 2227730452, 2361852424, 2428436474, 2756734187, 3204031479, 3329325298]
def NumTab (w : World) : Prop := Lib.TabIs Tryd.prog w "chartroom/digest.numbers" .u32 (kNums.map fun x => (x.toNat : Int))
theorem gNum : Tryd.prog.globalNamed "chartroom/digest.numbers" = some 2 := by kernel_rfl
theorem NumTab.cell {w : World} (h : NumTab w) (t : Nat) (ht : t < 64) : w.cell? ⟨2, t, none⟩ = some (.int .u32 (kNums.getD t 0).toNat) := by
  have := Lib.TabIs.cell h gNum t (by simpa [kNums] using ht)
  rw [this]
  have h64 : t < kNums.length := ht
  simp [h64, List.getD]
/-- The two sums of a round. -/
def pR (v : List (BitVec 32)) (k x : BitVec 32) : BitVec 32 :=
  v.getD 7 0 + rotE (v.getD 4 0) + (v.getD 6 0 ^^^ (v.getD 4 0 &&& (v.getD 5 0 ^^^ v.getD 6 0))) + k + x
def qR (v : List (BitVec 32)) : BitVec 32 :=
  rotA (v.getD 0 0) + ((v.getD 0 0 &&& v.getD 1 0) ||| (v.getD 2 0 &&& (v.getD 0 0 ||| v.getD 1 0)))
theorem pR_eq (v : List (BitVec 32)) (k x : BitVec 32) : pR v k x = v.getD 7 0 + rotE (v.getD 4 0) + (v.getD 6 0 ^^^ (v.getD 4 0 &&& (v.getD 5 0 ^^^ v.getD 6 0))) + k + x := rfl
theorem qR_eq (v : List (BitVec 32)) : qR v = rotA (v.getD 0 0) + ((v.getD 0 0 &&& v.getD 1 0) ||| (v.getD 2 0 &&& (v.getD 0 0 ||| v.getD 1 0))) := rfl
/-- After the copy. -/
def shR (v : List (BitVec 32)) : List (BitVec 32) := splice v 1 (v.take 7)
def rndR (v : List (BitVec 32)) (k x : BitVec 32) : List (BitVec 32) :=
  ((shR v).set 4 ((shR v).getD 4 0 + pR v k x)).set 0 (pR v k x + qR v)
theorem shR_length (v) (h : v.length = 8) : (shR v).length = 8 := by simp [shR, splice, h]
theorem rndR_length (v k x) (h : v.length = 8) : (rndR v k x).length = 8 := by simp [rndR, shR_length v h]
def rnds (s W : List (BitVec 32)) : Nat → List (BitVec 32)
  | 0 => s
  | t + 1 => rndR (rnds s W t) (kNums.getD t 0) (W.getD t 0)
theorem rnds_length (s W t) (h : s.length = 8) : (rnds s W t).length = 8 := by induction t with
  | zero => exact h
  | succ t ih => exact rndR_length _ _ _ ih
def addR (s v : List (BitVec 32)) : Nat → List (BitVec 32)
  | 0 => s
  | i + 1 => (addR s v i).set i ((addR s v i).getD i 0 + v.getD i 0)
theorem addR_length (s v i) : (addR s v i).length = s.length := by induction i with
  | zero => rfl
  | succ i ih => simp [addR, ih]
/-- The state behind a block. -/
def absorbS (s : List (BitVec 32)) (b : List (BitVec 8)) : List (BitVec 32) := addR s (rnds s (schedB b 48) 64) 8
theorem absorbS_length (s b) (h : s.length = 8) : (absorbS s b).length = 8 := by rw [absorbS, addR_length, h]

theorem info66 : (Tryd.prog.info? 66).map (·.size) = some 8 := by kernel_rfl
theorem store_new66 (w : World) (c c' : Array Value) (hc : c.size = 8) (hc' : c'.size = 8) (h1 : c'.all (·.oneCell') = true) :
    (storeCells ⟨w.heap.size, 0, none⟩ c'.toList 0).run Tryd.prog (w.alloc (.cells c 66)) = .ok () (w.alloc (.cells c' 66)) :=
  run_storeCells_new w _ c c' (by rw [info66, hc']) (by rw [hc, hc']) h1
theorem addr_add' (g o j : Nat) : (⟨g, o, none⟩ : Addr).add j = ⟨g, o + j, none⟩ := by unfold Addr.add; split <;> simp_all
theorem v32_one (l : List (BitVec 32)) : ∀ u ∈ l.map v32, u.oneCell' = true := by
  intro u hu
  obtain ⟨x, _, rfl⟩ := List.mem_map.1 hu
  rfl

theorem absorb_ok (g gb o n c : Nat) (s : List (BitVec 32)) (b : List (BitVec 8)) (hs : s.length = 8) (hb : b.length = 64) (hn : 64 ≤ n) (hc : n ≤ c) (w : World)
    (hg : Arr32 w g 66 s) (hcell : ∀ j, j < 64 → w.cell? ⟨gb, o + j, none⟩ = some (.int .u8 (b.getD j 0).toNat)) (hT : NumTab w) :
    Calls Tryd.prog 37 #[.pointer (some ⟨g, 0, none⟩), .slice (some ⟨gb, o, none⟩) n c] w fun e w' =>
      e = .returned (.tuple #[]) ∧ Arr32 w' g 66 (absorbS s b) ∧ (∀ k, k < w.heap.size → k ≠ g → w'.heap[k]? = w.heap[k]?) ∧ Below 0 w w' := by
  have hgb : gb < w.heap.size := cell_lt (hcell 0 (by omega))
  have hgl : g < w.heap.size := hg.lt
  have h2l : 2 < w.heap.size := cell_lt (hT.cell 0 (by decide))
  have HT : Hid (∀ t, t < 64 → w.cell? ⟨2, t, none⟩ = some (.int .u32 (kNums.getD t 0).toNat)) := Lib.hid fun t ht => hT.cell t ht
  have HG := Lib.hid hg
  have HC := Lib.hid hcell
  clear hg hcell hT
  go_enter Tryd.func37, Tryd.ntmps37
  go_upto_region 1 with fail
  have hA : Arr32 (w.alloc (.cells #[Value.int .u32 0, Value.int .u32 0, Value.int .u32 0, Value.int .u32 0, Value.int .u32 0, Value.int .u32 0, Value.int .u32 0, Value.int .u32 0, Value.int .u32 0, Value.int .u32 0, Value.int .u32 0, Value.int .u32 0, Value.int .u32 0, Value.int .u32 0, Value.int .u32 0, Value.int .u32 0, Value.int .u32 0, Value.int .u32 0, Value.int .u32 0, Value.int .u32 0, Value.int .u32 0, Value.int .u32 0, Value.int .u32 0, Value.int .u32 0, Value.int .u32 0, Value.int .u32 0, Value.int .u32 0, Value.int .u32 0, Value.int .u32 0, Value.int .u32 0, Value.int .u32 0, Value.int .u32 0, Value.int .u32 0, Value.int .u32 0, Value.int .u32 0, Value.int .u32 0, Value.int .u32 0, Value.int .u32 0, Value.int .u32 0, Value.int .u32 0, Value.int .u32 0, Value.int .u32 0, Value.int .u32 0, Value.int .u32 0, Value.int .u32 0, Value.int .u32 0, Value.int .u32 0, Value.int .u32 0, Value.int .u32 0, Value.int .u32 0, Value.int .u32 0, Value.int .u32 0, Value.int .u32 0, Value.int .u32 0, Value.int .u32 0, Value.int .u32 0, Value.int .u32 0, Value.int .u32 0, Value.int .u32 0, Value.int .u32 0, Value.int .u32 0, Value.int .u32 0, Value.int .u32 0, Value.int .u32 0] 75)) w.heap.size 75 (schedA b 0) := by
    have := World.alloc_heap_new w (.cells #[Value.int .u32 0, Value.int .u32 0, Value.int .u32 0, Value.int .u32 0, Value.int .u32 0, Value.int .u32 0, Value.int .u32 0, Value.int .u32 0, Value.int .u32 0, Value.int .u32 0, Value.int .u32 0, Value.int .u32 0, Value.int .u32 0, Value.int .u32 0, Value.int .u32 0, Value.int .u32 0, Value.int .u32 0, Value.int .u32 0, Value.int .u32 0, Value.int .u32 0, Value.int .u32 0, Value.int .u32 0, Value.int .u32 0, Value.int .u32 0, Value.int .u32 0, Value.int .u32 0, Value.int .u32 0, Value.int .u32 0, Value.int .u32 0, Value.int .u32 0, Value.int .u32 0, Value.int .u32 0, Value.int .u32 0, Value.int .u32 0, Value.int .u32 0, Value.int .u32 0, Value.int .u32 0, Value.int .u32 0, Value.int .u32 0, Value.int .u32 0, Value.int .u32 0, Value.int .u32 0, Value.int .u32 0, Value.int .u32 0, Value.int .u32 0, Value.int .u32 0, Value.int .u32 0, Value.int .u32 0, Value.int .u32 0, Value.int .u32 0, Value.int .u32 0, Value.int .u32 0, Value.int .u32 0, Value.int .u32 0, Value.int .u32 0, Value.int .u32 0, Value.int .u32 0, Value.int .u32 0, Value.int .u32 0, Value.int .u32 0, Value.int .u32 0, Value.int .u32 0, Value.int .u32 0, Value.int .u32 0] 75)
    exact this
  have hB0 : Below w.heap.size w (w.alloc (.cells #[Value.int .u32 0, Value.int .u32 0, Value.int .u32 0, Value.int .u32 0, Value.int .u32 0, Value.int .u32 0, Value.int .u32 0, Value.int .u32 0, Value.int .u32 0, Value.int .u32 0, Value.int .u32 0, Value.int .u32 0, Value.int .u32 0, Value.int .u32 0, Value.int .u32 0, Value.int .u32 0, Value.int .u32 0, Value.int .u32 0, Value.int .u32 0, Value.int .u32 0, Value.int .u32 0, Value.int .u32 0, Value.int .u32 0, Value.int .u32 0, Value.int .u32 0, Value.int .u32 0, Value.int .u32 0, Value.int .u32 0, Value.int .u32 0, Value.int .u32 0, Value.int .u32 0, Value.int .u32 0, Value.int .u32 0, Value.int .u32 0, Value.int .u32 0, Value.int .u32 0, Value.int .u32 0, Value.int .u32 0, Value.int .u32 0, Value.int .u32 0, Value.int .u32 0, Value.int .u32 0, Value.int .u32 0, Value.int .u32 0, Value.int .u32 0, Value.int .u32 0, Value.int .u32 0, Value.int .u32 0, Value.int .u32 0, Value.int .u32 0, Value.int .u32 0, Value.int .u32 0, Value.int .u32 0, Value.int .u32 0, Value.int .u32 0, Value.int .u32 0, Value.int .u32 0, Value.int .u32 0, Value.int .u32 0, Value.int .u32 0, Value.int .u32 0, Value.int .u32 0, Value.int .u32 0, Value.int .u32 0] 75)) := ⟨rfl, rfl, rfl, by simp, fun k hk => Below.heap_alloc _ _ _ hk⟩
  obtain ⟨W1, hW1⟩ : ∃ W, W = w.alloc (.cells #[Value.int .u32 0, Value.int .u32 0, Value.int .u32 0, Value.int .u32 0, Value.int .u32 0, Value.int .u32 0, Value.int .u32 0, Value.int .u32 0, Value.int .u32 0, Value.int .u32 0, Value.int .u32 0, Value.int .u32 0, Value.int .u32 0, Value.int .u32 0, Value.int .u32 0, Value.int .u32 0, Value.int .u32 0, Value.int .u32 0, Value.int .u32 0, Value.int .u32 0, Value.int .u32 0, Value.int .u32 0, Value.int .u32 0, Value.int .u32 0, Value.int .u32 0, Value.int .u32 0, Value.int .u32 0, Value.int .u32 0, Value.int .u32 0, Value.int .u32 0, Value.int .u32 0, Value.int .u32 0, Value.int .u32 0, Value.int .u32 0, Value.int .u32 0, Value.int .u32 0, Value.int .u32 0, Value.int .u32 0, Value.int .u32 0, Value.int .u32 0, Value.int .u32 0, Value.int .u32 0, Value.int .u32 0, Value.int .u32 0, Value.int .u32 0, Value.int .u32 0, Value.int .u32 0, Value.int .u32 0, Value.int .u32 0, Value.int .u32 0, Value.int .u32 0, Value.int .u32 0, Value.int .u32 0, Value.int .u32 0, Value.int .u32 0, Value.int .u32 0, Value.int .u32 0, Value.int .u32 0, Value.int .u32 0, Value.int .u32 0, Value.int .u32 0, Value.int .u32 0, Value.int .u32 0, Value.int .u32 0] 75) := ⟨_, rfl⟩
  rw [← hW1] at hA hB0 ⊢
  have hsz1 : W1.heap.size = w.heap.size + 1 := by rw [hW1]; simp
  have HSZ1 := Lib.hid hsz1
  have HA := Lib.hid hA
  have HB := Lib.hid hB0
  clear hA hB0 hW1 hsz1
  go_wp2_with fail
  go_loopw [14] (fun t' wr => ∃ t : Nat, t' = .int .i64 t ∧ t ≤ 16 ∧ Hid (Arr32 wr w.heap.size 75 (schedA b t)) ∧ Hid (OnlyAt w.heap.size W1 wr)) (fun t' _ => (16 - intOf t').toNat)
  case atStart => exact ⟨0, rfl, by omega, HA, OnlyAt.refl _ _⟩
  case round =>
    obtain ⟨t, rfl, ht, HAt, HOt⟩ := hrel
    by_cases hlt : t < 16
    · have hcl : ∀ j, j < 4 → wr.cell? ⟨gb, (o + 4 * t) + j, none⟩ = some (.int .u8 ((b.drop (4 * t)).getD j 0).toNat) := fun j hj => by
        have h1 := HC.out (4 * t + j) (by omega)
        have h2 : (b.drop (4 * t)).getD j 0 = b.getD (4 * t + j) 0 := by simp [List.getD]
        rw [h2, Nat.add_assoc]
        exact cell_old h1 ((HOt.out.block _ (by show gb ≠ _; omega)).trans (HB.out.block _ hgb))
      have HCL := Lib.hid hcl
      have F := HAt.out.frozen t
      have C := HAt.out.cell (i := t) (by rw [schedA_length]; omega)
      have hsl : ∀ W, (Instr.sliceAt 28 (.slice (some ⟨gb, o, none⟩) n c) (some (.int .i64 (4 * (t : Int)))) none none).run Tryd.prog W = .ok (.slice (some ⟨gb, o + 4 * t, none⟩) (n - 4 * t) (c - 4 * t)) W := fun W => by
        have := slice_from (P := Tryd.prog) 28 5 Tryd.underlying28 size5 gb o n c (4 * t) (by omega) (by omega) W
        simpa using this
      clear hcl
      go_wp2_with fail
      refine (dword_any gb (o + 4 * t) (c - 4 * t) (n - 4 * t) (by omega) (b.drop (4 * t)) _ HCL.out).mono ?_
      rintro e w' ⟨rfl, rfl⟩
      obtain ⟨x, hx⟩ : ∃ x, x = wacc (b.drop (4 * t)) 4 := ⟨_, rfl⟩
      rw [← hx]
      have HX := Lib.hid hx
      clear hx
      go_wp2
      go_roundw
      case rel =>
        refine ⟨t + 1, by go_num, by omega, ?_, HOt.out.trans (OnlyAt.setCell _ _ _ _)⟩
        show Arr32 _ _ _ (List.set _ _ _)
        rw [← HX.out]
        exact HAt.out.set _ _
      case measure => simp [intOf]; omega
    · have ht16 : t = 16 := by omega
      have HA16 : Hid (Arr32 wr w.heap.size 75 (schedB b 0)) := by
        have h := HAt
        rw [ht16] at h
        exact h
      clear HAt ht16
      have hdt : decide ((t : Int) < 16) = false := by simp; omega
      go_wp2_with fail
      go_loopw [6] (fun t' wr => ∃ q : Nat, t' = .int .i64 q ∧ 16 ≤ q ∧ q ≤ 64 ∧ Hid (Arr32 wr w.heap.size 75 (schedB b (q - 16))) ∧ Hid (OnlyAt w.heap.size W1 wr)) (fun t' _ => (64 - intOf t').toNat)
      case atStart => exact ⟨16, rfl, by omega, by omega, HA16, HOt⟩
      case round =>
        obtain ⟨q, rfl, hq1, hq2, HAq, HOq⟩ := hrel
        by_cases hlq : q < 64
        · have hdq : decide ((q : Int) < 64) = true := by simp; omega
          have hc15 := HAq.out.cell (i := q - 15) (by rw [schedB_length]; omega)
          have hc2 := HAq.out.cell (i := q - 2) (by rw [schedB_length]; omega)
          have hnx := nextW_eq (schedB b (q - 16)) q
          generalize (schedB b (q - 16)).getD (q - 15) 0 = x at hc15 hnx
          generalize (schedB b (q - 16)).getD (q - 2) 0 = y at hc2 hnx
          have HNX := Lib.hid hnx
          clear hnx
          go_upto_region 9 with fail
          go_quiet (fail)
          go_upto_region 10 with fail
          have HA9 : Hid (Arr32 (wr.drewN nq) w.heap.size 75 (schedB b (q - 16))) := HAq
          have HO9 : Hid (OnlyAt w.heap.size W1 (wr.drewN nq)) := HOq.out.trans ⟨rfl, rfl, rfl, rfl, fun _ _ => rfl⟩
          obtain ⟨W9, hW9⟩ : ∃ W, W = wr.drewN nq := ⟨_, rfl⟩
          rw [← hW9] at HA9 HO9 ⊢
          clear hW9 hc15 hc2 HAq HOq
          have hnx := HNX.out
          clear HNX
          have hc16 := HA9.out.cell (i := q - 16) (by rw [schedB_length]; omega)
          have hc7 := HA9.out.cell (i := q - 7) (by rw [schedB_length]; omega)
          have hcq := HA9.out.cell (i := q) (by rw [schedB_length]; omega)
          have F := HA9.out.frozen q
          generalize (schedB b (q - 16)).getD (q - 16) 0 = z at hc16 hnx
          generalize (schedB b (q - 16)).getD (q - 7) 0 = u at hc7 hnx
          generalize (schedB b (q - 16)).getD q 0 = u0 at hcq
          have HNX := Lib.hid hnx
          clear hnx
          refine wp_region_quiet_tail 29 (by kernel_rfl) (by kernel_rfl) ?_
          simp only [List.take_succ_cons, List.take_zero, List.drop_succ_cons, List.drop_zero]
          repeat (go_big_quiet_step (exact Calls.quiet_of_same (rot_neg _ _ (by decide) _)))
          refine wpQuiet_nil ?_
          rintro _ ⟨nq2, rfl⟩
          go_wp2
          go_roundw
          case rel =>
            refine ⟨q + 1, by go_num, by omega, by omega, ?_, HO9.out.trans (OnlyAt.trans (b := W9.drewN nq2) ⟨rfl, rfl, rfl, rfl, fun _ _ => rfl⟩ (OnlyAt.setCell _ _ _ _))⟩
            have e1 : q + 1 - 16 = (q - 16) + 1 := by omega
            have e2 : 16 + (q - 16) = q := by omega
            rw [e1]
            show Arr32 _ _ _ (List.set _ (16 + (q - 16)) (nextW _ (16 + (q - 16))))
            rw [e2]
            rw [HNX.out]
            have h := Arr32.set (W := W9.drewN nq2) HA9.out q (z + (rotv x (-7) ^^^ rotv x (-18) ^^^ x >>> 3) + u + (rotv y (-17) ^^^ rotv y (-19) ^^^ y >>> 10))
            have hs3 : ((x.toNat : Int) / (8 : Int)) = ((x >>> 3).toNat : Int) := bshr x 3 8 (by decide)
            have hs10 : ((y.toNat : Int) / (1024 : Int)) = ((y >>> 10).toNat : Int) := bshr y 10 1024 (by decide)
            rw [hs3, hs10, bxor, bxor, bxor, bxor, badd4]
            exact h
          case measure => simp [intOf]; omega
        · have hq64 : q = 64 := by omega
          have HAw : Hid (Arr32 wr w.heap.size 75 (schedB b 48)) := by
            have h := HAq
            rw [hq64] at h
            exact h
          have hdq : decide ((q : Int) < 64) = false := by simp; omega
          clear HAq hq64
          have HGr : Hid (Arr32 wr g 66 s) := (HOq.out.block _ (by show g ≠ _; omega)).trans ((HB.out.block _ hgl).trans HG.out)
          have hsl : s = [s.getD 0 0, s.getD 1 0, s.getD 2 0, s.getD 3 0, s.getD 4 0, s.getD 5 0, s.getD 6 0, s.getD 7 0] := by
            match s, hs with
            | [a0, a1, a2, a3, a4, a5, a6, a7], _ => rfl
          have d0 := HGr.out.cell (i := 0) (by omega)
          have d1 := HGr.out.cell (i := 1) (by omega)
          have d2 := HGr.out.cell (i := 2) (by omega)
          have d3 := HGr.out.cell (i := 3) (by omega)
          have d4 := HGr.out.cell (i := 4) (by omega)
          have d5 := HGr.out.cell (i := 5) (by omega)
          have d6 := HGr.out.cell (i := 6) (by omega)
          have d7 := HGr.out.cell (i := 7) (by omega)
          generalize s.getD 0 0 = s0 at d0 hsl
          generalize s.getD 1 0 = s1 at d1 hsl
          generalize s.getD 2 0 = s2 at d2 hsl
          generalize s.getD 3 0 = s3 at d3 hsl
          generalize s.getD 4 0 = s4 at d4 hsl
          generalize s.getD 5 0 = s5 at d5 hsl
          generalize s.getD 6 0 = s6 at d6 hsl
          generalize s.getD 7 0 = s7 at d7 hsl
          have HSL := Lib.hid hsl
          clear hsl
          go_upto_region 12 with fail
          obtain ⟨arr, harr⟩ : ∃ arr, arr = #[Value.int IntKind.u32 s0.toNat, Value.int IntKind.u32 s1.toNat, Value.int IntKind.u32 s2.toNat, Value.int IntKind.u32 s3.toNat, Value.int IntKind.u32 s4.toNat, Value.int IntKind.u32 s5.toNat, Value.int IntKind.u32 s6.toNat, Value.int IntKind.u32 s7.toNat] := ⟨_, rfl⟩
          rw [← harr]
          have hq : (s.map v32).toArray = arr := by rw [HSL.out, harr]; rfl
          have HQ := Lib.hid hq
          clear hq harr HSL d0 d1 d2 d3 d4 d5 d6 d7
          have hszr : wr.heap.size = w.heap.size + 1 := HOq.out.size.trans HSZ1.out
          have hBr : Below w.heap.size w wr := HB.out.trans (HOq.out.below (Nat.le_refl _))
          have hV0 : Arr32 (wr.alloc (.cells arr 66)) wr.heap.size 66 (rnds s (schedB b 48) 0) := by
            have := World.alloc_heap_new wr (.cells arr 66)
            show _ = some (Obj.cells (s.map v32).toArray 66 (0, 0))
            rw [HQ.out]; exact this
          have hW0 : Arr32 (wr.alloc (.cells arr 66)) w.heap.size 75 (schedB b 48) := (Below.heap_alloc _ _ _ (by omega)).trans HAw.out
          have hG0 : Arr32 (wr.alloc (.cells arr 66)) g 66 s := (Below.heap_alloc _ _ _ (by omega)).trans HGr.out
          have hB2 : Below w.heap.size w (wr.alloc (.cells arr 66)) := hBr.alloc (by omega) _
          obtain ⟨W2, hW2⟩ : ∃ W, W = wr.alloc (.cells arr 66) := ⟨_, rfl⟩
          rw [← hW2] at hV0 hW0 hG0 hB2 ⊢
          obtain ⟨H, hH⟩ : ∃ H, H = wr.heap.size := ⟨_, rfl⟩
          rw [← hH] at hV0 hszr ⊢
          have hHw : w.heap.size < H := by omega
          have HV0 := Lib.hid hV0
          have HW0 := Lib.hid hW0
          have HG0 := Lib.hid hG0
          have HB2 := Lib.hid hB2
          clear hV0 hW0 hG0 hB2 hW2 hH hszr hBr HQ HGr HAw HOq
          have HWL := Lib.hid (schedB_length b 48)
          have habs : absorbS s b = addR s (rnds s (schedB b 48) 64) 8 := rfl
          have HABS := Lib.hid habs
          clear habs
          generalize schedB b 48 = SW at HV0 HW0 HWL HABS
          go_wp2_with fail
          go_loopw [69] (fun t' wx => ∃ r : Nat, t' = .int .i64 r ∧ r ≤ 64 ∧ Hid (Arr32 wx H 66 (rnds s SW r)) ∧ Hid (Below H W2 wx)) (fun t' _ => (64 - intOf t').toNat)
          case atStart => exact ⟨0, rfl, by omega, HV0, Below.refl _ _⟩
          case round =>
            obtain ⟨r, rfl, hr, HVr, HBr⟩ := hrel
            by_cases hlr : r < 64
            · have hdr : decide ((r : Int) < 64) = true := by simp; omega
              have HRN : Hid (rnds s SW (r + 1) = rndR (rnds s SW r) (kNums.getD r 0) (SW.getD r 0)) := Lib.hid rfl
              have HVL := Lib.hid (rnds_length s SW r hs)
              generalize rnds s SW r = V at HVr HRN HVL
              have hwr : wr.cell? ⟨w.heap.size, r, none⟩ = some (.int .u32 (SW.getD r 0).toNat) := cell_old (HW0.out.cell (by rw [HWL.out]; exact hlr)) (HBr.out.block _ hHw)
              have hkr : wr.cell? ⟨2, r, none⟩ = some (.int .u32 (kNums.getD r 0).toNat) :=
                cell_old (cell_old (HT.out r hlr) (HB2.out.block _ h2l)) (HBr.out.block _ (by show 2 < H; omega))
              generalize kNums.getD r 0 = K0 at hkr HRN
              generalize SW.getD r 0 = X0 at hwr HRN
              have HKR := Lib.hid hkr
              have HWR := Lib.hid hwr
              have c0 := HVr.out.cell (i := 0) (by rw [HVL.out]; decide)
              have c1 := HVr.out.cell (i := 1) (by rw [HVL.out]; decide)
              have c2 := HVr.out.cell (i := 2) (by rw [HVL.out]; decide)
              have c4 := HVr.out.cell (i := 4) (by rw [HVL.out]; decide)
              have c5 := HVr.out.cell (i := 5) (by rw [HVL.out]; decide)
              have c6 := HVr.out.cell (i := 6) (by rw [HVL.out]; decide)
              have c7 := HVr.out.cell (i := 7) (by rw [HVL.out]; decide)
              have hp := pR_eq V K0 X0
              have hq := qR_eq V
              generalize V.getD 0 0 = v0 at c0 hp hq
              generalize V.getD 1 0 = v1 at c1 hp hq
              generalize V.getD 2 0 = v2 at c2 hp hq
              generalize V.getD 4 0 = v4 at c4 hp hq
              generalize V.getD 5 0 = v5 at c5 hp hq
              generalize V.getD 6 0 = v6 at c6 hp hq
              generalize V.getD 7 0 = v7 at c7 hp hq
              have HP := Lib.hid hp
              have HQ := Lib.hid hq
              clear hp hq
              go_upto_region 15 with fail
              go_quiet (exact Calls.quiet_of_same (rotE_ok _ _))
              simp only [bxor, band, badd4, badd]
              rw [← HP.out]
              have HV16 : Hid (Arr32 (wr.drewN nq) H 66 V) := HVr
              have HB16 : Hid (Below H W2 (wr.drewN nq)) := HBr.out.trans ⟨rfl, rfl, rfl, Nat.le_refl _, fun _ _ => rfl⟩
              obtain ⟨W16, hW16⟩ : ∃ W, W = wr.drewN nq := ⟨_, rfl⟩
              rw [← hW16] at HV16 HB16 ⊢
              have c0 : W16.cell? ⟨H, 0, none⟩ = some (.int .u32 v0.toNat) := by rw [hW16]; exact c0
              have c1 : W16.cell? ⟨H, 1, none⟩ = some (.int .u32 v1.toNat) := by rw [hW16]; exact c1
              have c2 : W16.cell? ⟨H, 2, none⟩ = some (.int .u32 v2.toNat) := by rw [hW16]; exact c2
              clear hW16 HVr HBr c4 c5 c6 c7 HKR HWR hkr hwr
              go_upto_region 16 with fail
              go_quiet (exact Calls.quiet_of_same (rotA_ok _ _))
              simp only [bor, band, badd]
              rw [← HQ.out]
              have HV17 : Hid (Arr32 (W16.drewN nq) H 66 V) := HV16
              have HB17 : Hid (Below H W2 (W16.drewN nq)) := HB16.out.trans ⟨rfl, rfl, rfl, Nat.le_refl _, fun _ _ => rfl⟩
              obtain ⟨W17, hW17⟩ : ∃ W, W = W16.drewN nq := ⟨_, rfl⟩
              rw [← hW17] at HV17 HB17 ⊢
              clear hW17 HV16 HB16 c0 c1 c2
              go_upto_region 17 with fail
              have hgw : W17.drew.heap[H]? = some (.cells (V.map v32).toArray 66 (0, 0)) := HV17.out
              have hsrc : ∀ (j : Nat) (v : Value), ((V.take 7).map v32)[j]? = some v → W17.drew.cell? ((⟨H, 0, none⟩ : Addr).add j) = some v := by
                intro j v hj
                have hj7 : j < 7 := by
                  have := (List.getElem?_eq_some_iff.1 hj).1
                  simp at this; omega
                have hjl : j < V.length := by rw [HVL.out]; omega
                rw [addr_add', Nat.zero_add, Arr32.cell (W := W17.drew) HV17.out hjl]
                simp [hj7, hjl] at hj
                simp [← hj, v32, hjl, List.getD]
              have HB17d : Hid (Below H W2 W17.drew) := HB17.out.trans ⟨rfl, rfl, rfl, Nat.le_refl _, fun _ _ => rfl⟩
              have HGW := Lib.hid hgw
              have HSRC := Lib.hid hsrc
              have hlen : ((V.take 7).map v32).length = 7 := by simp [HVL.out]
              have HLEN := Lib.hid hlen
              have hfit : 1 + ((V.take 7).map v32).length ≤ (V.map v32).length := by rw [hlen]; simp [HVL.out]
              have HFIT := Lib.hid hfit
              have HONE := Lib.hid (v32_one (V.take 7))
              clear hgw hsrc hlen hfit
              go_region_law (refine step_copy_splice rfl (.tmp 116) (.tmp 117) 70 70 rfl 46 Tryd.underlying70 rfl (some ⟨H, 1, none⟩) (some ⟨H, 0, none⟩) 7 7 7 8 (by simp [Act.eval, Act.put]) (by simp [Act.eval, Act.put]) H 1 (V.map v32) 66 HGW.out ((V.take 7).map v32) (by rw [HLEN.out]; rfl) (fun _ => ⟨rfl, _, rfl, HSRC.out⟩) HFIT.out HONE.out H W2 HB17d.out (Nat.le_refl _) ?_; intro w4 hg4 hb4)
              have hS4 : Arr32 w4 H 66 (shR V) := by
                have e : splice (V.map v32) 1 ((V.take 7).map v32) = (shR V).map v32 := by simp [splice, shR, List.map_take, List.map_drop]
                show w4.heap[_]? = _
                rw [hg4.out, e]
              have HS4 := Lib.hid hS4
              have HB4 := Lib.hid hb4
              have HSL := Lib.hid (shR_length V HVL.out)
              have c4 := hS4.cell (i := 4) (by rw [HSL.out]; decide)
              have f4 := hS4.frozen 4
              have f0 := hS4.frozen 0
              have c0 := hS4.cell (i := 0) (by rw [HSL.out]; decide)
              clear hS4 hg4 hb4 HONE HFIT HLEN HSRC HGW HB17 HB17d HV17
              have hrn : rndR V K0 X0 = ((shR V).set 4 ((shR V).getD 4 0 + pR V K0 X0)).set 0 (pR V K0 X0 + qR V) := rfl
              have HRE := Lib.hid hrn
              clear hrn
              generalize shR V = SV at HS4 c4 c0 HRE
              generalize hs4 : SV.getD 4 0 = s4 at c4 HRE
              generalize SV.getD 0 0 = s0 at c0
              generalize pR V K0 X0 = pp at HRE ⊢
              generalize qR V = qq at HRE ⊢
              go_wp2
              go_roundw
              case rel =>
                refine ⟨r + 1, by go_num, by omega, ?_, ?_⟩
                · rw [HRN.out, HRE.out]
                  have h1 := HS4.out.set 4 (s4 + pp)
                  have h2 := h1.set 0 (pp + qq)
                  simp only [badd]
                  exact h2
                · exact (HB4.out.setCell (Nat.le_refl _) _).setCell (Nat.le_refl _) _
              case measure => simp [intOf]; omega
            · have hr64 : r = 64 := by omega
              have HV : Hid (Arr32 wr H 66 (rnds s SW 64)) := hr64 ▸ HVr
              clear HVr hr64
              have hdr : decide ((r : Int) < 64) = false := by simp; omega
              have HVL := Lib.hid (rnds_length s SW 64 hs)
              generalize rnds s SW 64 = V at HV HVL HABS
              have HGw : Hid (Arr32 wr g 66 (addR s V 0)) := (HBr.out.block _ (by show g < H; omega)).trans HG0.out
              obtain ⟨wo, rfl⟩ : ∃ wo : World, wo = wr := ⟨_, rfl⟩
              go_wp2_with fail
              go_loopw [129] (fun t' wx => ∃ i : Nat, t' = .int .i64 i ∧ i ≤ 8 ∧ Hid (Arr32 wx g 66 (addR s V i)) ∧ Hid (OnlyAt g wo wx)) (fun t' _ => (8 - intOf t').toNat)
              case atStart => exact ⟨0, rfl, by omega, HGw, OnlyAt.refl _ _⟩
              case round =>
                obtain ⟨i, rfl, hi, HAi, HOi⟩ := hrel
                by_cases hli : i < 8
                · have HVi : Hid (Arr32 wr H 66 V) := (HOi.out.block _ (by show H ≠ g; omega)).trans HV.out
                  have A := HAi.out.cell (i := i) (by rw [addR_length]; omega)
                  have B := HVi.out.cell (i := i) (by rw [HVL.out]; omega)
                  have F := HAi.out.frozen i
                  have HAD : Hid (addR s V (i + 1) = (addR s V i).set i ((addR s V i).getD i 0 + V.getD i 0)) := Lib.hid rfl
                  generalize (addR s V i).getD i 0 = x at A HAD
                  generalize V.getD i 0 = y at B HAD
                  go_upto_region 24 with fail
                  go_region
                  rw [badd x y]
                  go_wp2
                  go_roundw
                  case rel =>
                    refine ⟨i + 1, by go_num, by omega, ?_, ?_⟩
                    · rw [HAD.out, badd]; exact Arr32.set (W := wr) HAi.out _ _
                    · exact HOi.out.trans (OnlyAt.trans (OnlyAt.setCell _ _ _ _) ⟨rfl, rfl, rfl, rfl, fun _ _ => rfl⟩)
                  case measure => simp [intOf]; omega
                · have hi8 : i = 8 := by omega
                  have HF : Hid (Arr32 wr g 66 (absorbS s b)) := by rw [HABS.out]; exact hi8 ▸ HAi
                  clear HAi hi8
                  go_wp2
                  go_end0
                  refine ⟨rfl, HF.out, fun k hk hne => ?_, ?_⟩
                  · exact (HOi.out.block k hne).trans ((HBr.out.block k (by omega)).trans (HB2.out.block k hk))
                  · exact ((HB2.out.mono (Nat.zero_le _)).trans (HBr.out.mono (Nat.zero_le _))).trans (HOi.out.below (Nat.zero_le _))
end Go.Proofs.YtklaancgnfkjlaaDoor
