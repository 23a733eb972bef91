/- digest: Sum. -/
import Derived.Test.YtklaancgnfkjlaaDoorDc
import Derived.Test.YtklaancgnfkjlaaDoorCf
import Derived.Deep.DeepCutAuto
import Derived.Laws.MakeOwn
namespace Go.Proofs.YtklaancgnfkjlaaDoor
open Go.RowKit
set_option maxRecDepth 100000
set_option maxHeartbeats 4000000
set_option linter.unusedVariables false
set_option linter.unusedSimpArgs false

/-- Below block B nothing but block g has changed. -/
structure ButAt (g B : Nat) (w w' : World) : Prop where
  os : w'.os = w.os
  tape : w'.tape = w.tape
  output : w'.output = w.output
  size : w.heap.size ≤ w'.heap.size
  block : ∀ k, k < B → k ≠ g → w'.heap[k]? = w.heap[k]?
theorem ButAt.refl (g B : Nat) (w : World) : ButAt g B w w := ⟨rfl, rfl, rfl, Nat.le_refl _, fun _ _ _ => rfl⟩
theorem ButAt.trans {g B B' : Nat} {a b c : World} (h : ButAt g B a b) (k : ButAt g B' b c) (hB : B ≤ B') : ButAt g B a c :=
  ⟨k.os.trans h.os, k.tape.trans h.tape, k.output.trans h.output, Nat.le_trans h.size k.size, fun i hi hn => (k.block i (by omega) hn).trans (h.block i hi hn)⟩
theorem ButAt.below {g B n : Nat} {w w' : World} (h : ButAt g B w w') (hg : n ≤ g) (hB : n ≤ B) : Below n w w' :=
  ⟨h.os, h.tape, h.output, h.size, fun k hk => h.block k (by omega) (by omega)⟩
theorem ButAt.of_below {g B : Nat} {w w' : World} (h : Below B w w') : ButAt g B w w' :=
  ⟨h.os, h.tape, h.output, h.size, fun k hk _ => h.block k hk⟩
theorem OnlyAt.but {g : Nat} {w w' : World} (h : OnlyAt g w w') (B : Nat) : ButAt g B w w' :=
  ⟨h.os, h.tape, h.output, Nat.le_of_eq h.size.symm, fun k _ hn => h.block k hn⟩

/-- The state behind k blocks. -/
def absN (s : List (BitVec 32)) (l : List (BitVec 8)) : Nat → List (BitVec 32)
  | 0 => s
  | k + 1 => absorbS (absN s l k) ((l.drop (64 * k)).take 64)
theorem absN_length (s l k) (h : s.length = 8) : (absN s l k).length = 8 := by induction k with
  | zero => exact h
  | succ k ih => exact absorbS_length _ _ ih
theorem absorb_but (g gb o n c : Nat) (s : List (BitVec 32)) (b : List (BitVec 8)) (hs : s.length = 8) (hb : b.length = 64) (hn : 64 ≤ n) (hc : n ≤ c) (w : World)
    (hg : Arr32 w g 66 s) (hcell : ∀ j, j < 64 → w.cell? ⟨gb, o + j, none⟩ = some (.int .u8 (b.getD j 0).toNat)) (hT : NumTab w) :
    Calls Tryd.prog 37 #[.pointer (some ⟨g, 0, none⟩), .slice (some ⟨gb, o, none⟩) n c] w fun e w' =>
      e = .returned (.tuple #[]) ∧ Arr32 w' g 66 (absorbS s b) ∧ ButAt g w.heap.size w w' :=
  (absorb_ok g gb o n c s b hs hb hn hc w hg hcell hT).mono fun e w' h => ⟨h.1, h.2.1, h.2.2.2.os, h.2.2.2.tape, h.2.2.2.output, h.2.2.2.size, h.2.2.1⟩
def hNums : List (BitVec 32) := [1779033703, 3144134277, 1013904242, 2773480762, 1359893119, 2600822924, 528734635, 1541459225]
def StartTab (w : World) : Prop := Lib.TabIs Tryd.prog w "chartroom/digest.start" .u32 (hNums.map fun x => (x.toNat : Int))
theorem gStart : Tryd.prog.globalNamed "chartroom/digest.start" = some 0 := by kernel_rfl
theorem StartTab.cell {w : World} (h : StartTab w) (t : Nat) (ht : t < 8) : w.cell? ⟨0, t, none⟩ = some (.int .u32 (hNums.getD t 0).toNat) := by
  have := Lib.TabIs.cell h gStart t (by simpa [hNums] using ht)
  rw [this]
  have h8 : t < hNums.length := ht
  simp [h8, List.getD]
/-- The two last blocks, whatever is wanted of them. -/
def endE (n : Nat) : Nat := if 55 < n % 64 then 128 else 64
def endA (l : List (BitVec 8)) : List (BitVec 8) := (splice (List.replicate 128 0) 0 (l.drop (64 * (l.length / 64)))).set (l.length % 64) 0x80
def endL (l : List (BitVec 8)) : List (BitVec 8) := putL (endA l) (endE l.length - 8) 8 (BitVec.ofNat 64 (l.length * 8)) 8
def outL (s : List (BitVec 32)) : Nat → List (BitVec 8)
  | 0 => List.replicate 32 0
  | i + 1 => putL (outL s i) (4 * i) 4 ((s.getD i 0).setWidth 64) 4
theorem outL_length (s i) : (outL s i).length = 32 := by induction i with
  | zero => simp [outL]
  | succ i ih => simp [outL, putL_length, ih]
/-- The hash of bytes. -/
def sumL (l : List (BitVec 8)) : List (BitVec 8) := outL (absN (absN hNums l (l.length / 64)) (endL l) (endE l.length / 64)) 8
theorem sumL_length (l) : (sumL l).length = 32 := outL_length _ _
theorem endA_length (l : List (BitVec 8)) : (endA l).length = 128 := by
  unfold endA
  rw [List.length_set, length_splice _ _ _ (by simp; omega)]
  simp
theorem endL_length (l : List (BitVec 8)) : (endL l).length = 128 := by rw [endL, putL_length, endA_length]
theorem blk_length (l : List (BitVec 8)) (k : Nat) (h : 64 * k + 64 ≤ l.length) : ((l.drop (64 * k)).take 64).length = 64 := by simp; omega
theorem blk_getD (l : List (BitVec 8)) (k j : Nat) (h : j < 64) : ((l.drop (64 * k)).take 64).getD j 0 = l.getD (64 * k + j) 0 := by
  simp [List.getD, h]
/-- A slice's length. -/
def lenOf : Value → Nat
  | .slice _ n _ => n
  | _ => 0
/-- 's[:h]' of a slice. -/
theorem slice_to {P : Program} (t e : TypeId) (ht : P.underlying t = some (.slice e)) (hz : ∀ w, (sizeOf e).run P w = .ok 1 w) (g o n c h : Nat) (hc : h ≤ c) (h0 : 0 < c) (W : World) :
    (Instr.sliceAt t (.slice (some ⟨g, o, none⟩) n c) none (some (.int .i64 (h : Int))) none).run P W = .ok (.slice (some ⟨g, o, none⟩) h c) W := by
  have he : P.elem t = e := by simp [Program.elem, ht]
  rw [run_sliceAt_slice W t _ _ _ _ (by rw [he]; exact ht), run_slice_h W t _ n c (by rw [he]; exact ht) .i64 _ (by omega) (by omega), he]
  simp [hz, Result.andThen, sliced, Addr.add]
  try (rw [if_neg (by omega)])
  try (split <;> simp [*])
/-- 's[l:]' of a slice, at the end too. -/
theorem slice_off {P : Program} (t e : TypeId) (ht : P.underlying t = some (.slice e)) (hz : ∀ w, (sizeOf e).run P w = .ok 1 w) (g o n c l : Nat) (hl : l ≤ n) (hn : n ≤ c) :
    ∃ p, (0 < n - l → p = some ⟨g, o + l, none⟩) ∧ ∀ W, (Instr.sliceAt t (.slice (some ⟨g, o, none⟩) n c) (some (.int .i64 (l : Int))) none none).run P W = .ok (.slice p (n - l) (c - l)) W := by
  have he : P.elem t = e := by simp [Program.elem, ht]
  refine ⟨if c = l then some ⟨g, o, none⟩ else some ⟨g, o + l, none⟩, fun h => by rw [if_neg (by omega)], fun W => ?_⟩
  rw [run_sliceAt_slice W t _ _ _ _ (by rw [he]; exact ht), run_slice_l W t _ n c (by rw [he]; exact ht) .i64 _ (by omega) (by omega), he]
  simp [hz, Result.andThen, sliced, Addr.add]
  by_cases h : c = l
  · simp [h]
  · simp [h]
theorem arr_slice_lh {P : Program} (t e : TypeId) (n : Nat) (ht : P.underlying t = some (.array n e)) (hz : ∀ w, (sizeOf e).run P w = .ok 1 w) (g o l h : Nat) (hl : l ≤ h) (hh : h ≤ n) (hln : l < n) (W : World) :
    (Instr.sliceAt t (.pointer (some ⟨g, o, none⟩)) (some (.int .i64 (l : Int))) (some (.int .i64 (h : Int))) none).run P W = .ok (.slice (some ⟨g, o + l, none⟩) (h - l) (n - l)) W := by
  have he : P.elem t = e := by simp [Program.elem, ht]
  have hn : P.arrayLen t = n := by simp [Program.arrayLen, ht]
  rw [run_sliceAt_array_lh W t _ (by rw [he, hn]; exact ht) .i64 .i64 _ _ (by omega) (by omega) (by rw [hn]; omega)]
  rw [he, hn]
  simp [hz, Result.andThen, slicedAt, Addr.add]
  rw [if_neg (by omega)]
  split <;> simp [*]
theorem put32 (g o c : Nat) (t : TypeId) (cur : List (BitVec 8)) (x : BitVec 32) (w : World) (h : Arr8 w g t cur) (ho : o + 4 ≤ cur.length) (hnc : 4 ≤ c) :
    Calls Tryd.prog 38 #[.slice (some ⟨g, o, none⟩) 4 c, .int .u64 x.toNat] w fun e w' => e = .returned (.tuple #[]) ∧ OnlyAt g w w' ∧ Arr8 w' g t (putL cur o 4 (x.setWidth 64) 4) := by
  have e : (x.toNat : Int) = ((x.setWidth 64).toNat : Int) := by have := x.isLt; rw [BitVec.toNat_setWidth, Nat.mod_eq_of_lt (by omega)]
  rw [e]
  exact put_ok g o c 4 t (by decide) cur (x.setWidth 64) w h ho hnc
theorem put64 (g o c : Nat) (t : TypeId) (cur : List (BitVec 8)) (n : Nat) (hn : n < 1000000000) (w : World) (h : Arr8 w g t cur) (ho : o + 8 ≤ cur.length) (hnc : 8 ≤ c) :
    Calls Tryd.prog 38 #[.slice (some ⟨g, o, none⟩) 8 c, .int .u64 ((n : Int) * 8)] w fun e w' => e = .returned (.tuple #[]) ∧ OnlyAt g w w' ∧ Arr8 w' g t (putL cur o 8 (BitVec.ofNat 64 (n * 8)) 8) := by
  have e : (n : Int) * 8 = ((BitVec.ofNat 64 (n * 8)).toNat : Int) := by rw [BitVec.toNat_ofNat, Nat.mod_eq_of_lt (by omega)]; simp
  rw [e]
  exact put_ok g o c 8 t (by decide) cur (BitVec.ofNat 64 (n * 8)) w h ho hnc
def zeroes128 : List (BitVec 8) := List.replicate 128 0
theorem made128 : madeCells (Value.int .u8 0).cells (128 * 1) = (zeroes128.map v8).toArray := by
  kernel_rfl
theorem v8_all (l : List (BitVec 8)) : ∀ u ∈ l.map v8, u.oneCell' = true := by
  intro u hu
  obtain ⟨x, _, rfl⟩ := List.mem_map.1 hu
  rfl
theorem info_u8d : (Tryd.prog.info? 5).map (fun i => (i.zero, i.size, i.bytes)) = some (some (.int .u8 0), 1, 1) := by kernel_rfl
theorem make128 (w : World) : (Instr.makeSlice 28 (.int .i64 64) (.int .i64 128)).run Tryd.prog w = .ok (.slice (some ⟨w.heap.size, 0, none⟩) 64 128) (w.alloc (.cells (zeroes128.map v8).toArray 5)) := by
  obtain ⟨i0, hi0, hz0, hz1, hz2⟩ := info_parts info_u8d
  have h := run_make (P := Tryd.prog) w 28 5 i0 (.int .u8 0) Tryd.underlying28 hi0 hz0 .i64 .i64 64 128 (by decide) (by decide) (by rw [hz2]; decide) (by decide)
  rw [hz1, show ((128 : Int).toNat * 1) = 128 * 1 from rfl, made128] at h
  exact h
theorem index66 (V : List (BitVec 32)) (hV : V.length = 8) (k : Nat) (hk : k < 8) (W : World) :
    (Instr.index 66 (.agg (V.map v32).toArray) (.int .i64 (k : Int))).run Tryd.prog W = .ok (.int .u32 ((V.getD k 0).toNat : Int)) W := by
  have hu := Tryd.underlying66
  have agg46 : ∀ w, (isAgg 46).run Tryd.prog w = .ok false w := fun w => by go_simp
  have size46 : ∀ w, (sizeOf 46).run Tryd.prog w = .ok 1 w := fun w => by go_simp
  have hc : V[k]? = some (V.getD k 0) := by simp [hV, hk, List.getD]
  unfold Instr.index
  simp only [List.getD_eq_getElem?_getD] at hc ⊢
  generalize V[k]?.getD 0 = x at hc ⊢
  simp [asIntOf, run_underlying hu, part, agg46, size46, hc, hk]
theorem NumTab.below {w w' : World} {B : Nat} (h : NumTab w) (hb : Below B w w') (hB : w.heap.size ≤ B) : NumTab w' := (Lib.tabBelow_of_tabIs h) _ (hb.mono hB)

theorem sum_ok (v : Value) (l : List (BitVec 8)) (hl : l.length ≤ 1000000) (w : World) (hv : BytesAt w v l) (hN : NumTab w) (hS : StartTab w) :
    Calls Tryd.prog 28 #[v] w fun e w' => e = .returned (.agg ((sumL l).map v8).toArray) ∧ Below w.heap.size w w' := by
  obtain ⟨p0, c0, rfl, hc0, hp0, hcl0⟩ := hv
  obtain ⟨g, o, hp1, hcl⟩ : ∃ g o, (0 < l.length → p0 = some ⟨g, o, none⟩) ∧ (∀ j, j < l.length → g < w.heap.size ∧ w.cell? ⟨g, o + j, none⟩ = some (.int .u8 (l.getD j 0).toNat)) := by
    rcases Nat.eq_zero_or_pos l.length with h0 | h0
    · exact ⟨0, 0, fun h => by omega, fun j hj => by omega⟩
    · obtain ⟨g, o, hp, hc⟩ := hcl0 h0
      exact ⟨g, o, fun _ => hp, fun j hj => ⟨cell_lt (hc j hj), hc j hj⟩⟩
  have HP1 := Lib.hid hp1
  have HCL := Lib.hid hcl
  have HN := Lib.hid hN
  have t0 := hS.cell 0 (by decide)
  have t1 := hS.cell 1 (by decide)
  have t2 := hS.cell 2 (by decide)
  have t3 := hS.cell 3 (by decide)
  have t4 := hS.cell 4 (by decide)
  have t5 := hS.cell 5 (by decide)
  have t6 := hS.cell 6 (by decide)
  have t7 := hS.cell 7 (by decide)
  have hlt0 : 0 < w.heap.size := cell_lt t0
  clear hp1 hcl hp0 hcl0 hN hS
  have hh0 : (hNums.map v32).toArray = #[v32 (hNums.getD 0 0), v32 (hNums.getD 1 0), v32 (hNums.getD 2 0), v32 (hNums.getD 3 0), v32 (hNums.getD 4 0), v32 (hNums.getD 5 0), v32 (hNums.getD 6 0), v32 (hNums.getD 7 0)] := rfl
  have hh8 : hNums.length = 8 := rfl
  have hsum : sumL l = outL (absN (absN hNums l (l.length / 64)) (endL l) (endE l.length / 64)) 8 := rfl
  have HSUM := Lib.hid hsum
  clear hsum
  generalize hNums = h0 at t0 t1 t2 t3 t4 t5 t6 t7 hh0 hh8 HSUM
  generalize h0.getD 0 0 = s0 at t0 hh0
  generalize h0.getD 1 0 = s1 at t1 hh0
  generalize h0.getD 2 0 = s2 at t2 hh0
  generalize h0.getD 3 0 = s3 at t3 hh0
  generalize h0.getD 4 0 = s4 at t4 hh0
  generalize h0.getD 5 0 = s5 at t5 hh0
  generalize h0.getD 6 0 = s6 at t6 hh0
  generalize h0.getD 7 0 = s7 at t7 hh0
  have HH0 := Lib.hid hh0
  have HH8 := Lib.hid hh8
  clear hh0 hh8
  go_enter Tryd.func28, Tryd.ntmps28
  go_upto_region 2 with fail
  have hA : Arr32 ((w.alloc (.cells #[Value.int IntKind.u8 0, Value.int IntKind.u8 0, Value.int IntKind.u8 0, Value.int IntKind.u8 0, Value.int IntKind.u8 0, Value.int IntKind.u8 0, Value.int IntKind.u8 0, Value.int IntKind.u8 0, Value.int IntKind.u8 0, Value.int IntKind.u8 0, Value.int IntKind.u8 0, Value.int IntKind.u8 0, Value.int IntKind.u8 0, Value.int IntKind.u8 0, Value.int IntKind.u8 0, Value.int IntKind.u8 0, Value.int IntKind.u8 0, Value.int IntKind.u8 0, Value.int IntKind.u8 0, Value.int IntKind.u8 0, Value.int IntKind.u8 0, Value.int IntKind.u8 0, Value.int IntKind.u8 0, Value.int IntKind.u8 0, Value.int IntKind.u8 0, Value.int IntKind.u8 0, Value.int IntKind.u8 0, Value.int IntKind.u8 0, Value.int IntKind.u8 0, Value.int IntKind.u8 0, Value.int IntKind.u8 0, Value.int IntKind.u8 0] 41)).alloc (.cells #[Value.int IntKind.u32 s0.toNat, Value.int IntKind.u32 s1.toNat, Value.int IntKind.u32 s2.toNat, Value.int IntKind.u32 s3.toNat, Value.int IntKind.u32 s4.toNat, Value.int IntKind.u32 s5.toNat, Value.int IntKind.u32 s6.toNat, Value.int IntKind.u32 s7.toNat] 66)) (w.heap.size + 1) 66 (absN h0 l 0) := by
    have := World.alloc_heap_new (w.alloc (.cells #[Value.int IntKind.u8 0, Value.int IntKind.u8 0, Value.int IntKind.u8 0, Value.int IntKind.u8 0, Value.int IntKind.u8 0, Value.int IntKind.u8 0, Value.int IntKind.u8 0, Value.int IntKind.u8 0, Value.int IntKind.u8 0, Value.int IntKind.u8 0, Value.int IntKind.u8 0, Value.int IntKind.u8 0, Value.int IntKind.u8 0, Value.int IntKind.u8 0, Value.int IntKind.u8 0, Value.int IntKind.u8 0, Value.int IntKind.u8 0, Value.int IntKind.u8 0, Value.int IntKind.u8 0, Value.int IntKind.u8 0, Value.int IntKind.u8 0, Value.int IntKind.u8 0, Value.int IntKind.u8 0, Value.int IntKind.u8 0, Value.int IntKind.u8 0, Value.int IntKind.u8 0, Value.int IntKind.u8 0, Value.int IntKind.u8 0, Value.int IntKind.u8 0, Value.int IntKind.u8 0, Value.int IntKind.u8 0, Value.int IntKind.u8 0] 41)) (.cells #[Value.int IntKind.u32 s0.toNat, Value.int IntKind.u32 s1.toNat, Value.int IntKind.u32 s2.toNat, Value.int IntKind.u32 s3.toNat, Value.int IntKind.u32 s4.toNat, Value.int IntKind.u32 s5.toNat, Value.int IntKind.u32 s6.toNat, Value.int IntKind.u32 s7.toNat] 66)
    rw [World.size_alloc] at this
    show _ = some (Obj.cells (h0.map v32).toArray 66 (0, 0))
    rw [HH0.out]; exact this
  have hD : Arr8 ((w.alloc (.cells #[Value.int IntKind.u8 0, Value.int IntKind.u8 0, Value.int IntKind.u8 0, Value.int IntKind.u8 0, Value.int IntKind.u8 0, Value.int IntKind.u8 0, Value.int IntKind.u8 0, Value.int IntKind.u8 0, Value.int IntKind.u8 0, Value.int IntKind.u8 0, Value.int IntKind.u8 0, Value.int IntKind.u8 0, Value.int IntKind.u8 0, Value.int IntKind.u8 0, Value.int IntKind.u8 0, Value.int IntKind.u8 0, Value.int IntKind.u8 0, Value.int IntKind.u8 0, Value.int IntKind.u8 0, Value.int IntKind.u8 0, Value.int IntKind.u8 0, Value.int IntKind.u8 0, Value.int IntKind.u8 0, Value.int IntKind.u8 0, Value.int IntKind.u8 0, Value.int IntKind.u8 0, Value.int IntKind.u8 0, Value.int IntKind.u8 0, Value.int IntKind.u8 0, Value.int IntKind.u8 0, Value.int IntKind.u8 0, Value.int IntKind.u8 0] 41)).alloc (.cells #[Value.int IntKind.u32 s0.toNat, Value.int IntKind.u32 s1.toNat, Value.int IntKind.u32 s2.toNat, Value.int IntKind.u32 s3.toNat, Value.int IntKind.u32 s4.toNat, Value.int IntKind.u32 s5.toNat, Value.int IntKind.u32 s6.toNat, Value.int IntKind.u32 s7.toNat] 66)) w.heap.size 41 (outL [] 0) := by
    have := World.alloc_heap_new w (.cells #[Value.int IntKind.u8 0, Value.int IntKind.u8 0, Value.int IntKind.u8 0, Value.int IntKind.u8 0, Value.int IntKind.u8 0, Value.int IntKind.u8 0, Value.int IntKind.u8 0, Value.int IntKind.u8 0, Value.int IntKind.u8 0, Value.int IntKind.u8 0, Value.int IntKind.u8 0, Value.int IntKind.u8 0, Value.int IntKind.u8 0, Value.int IntKind.u8 0, Value.int IntKind.u8 0, Value.int IntKind.u8 0, Value.int IntKind.u8 0, Value.int IntKind.u8 0, Value.int IntKind.u8 0, Value.int IntKind.u8 0, Value.int IntKind.u8 0, Value.int IntKind.u8 0, Value.int IntKind.u8 0, Value.int IntKind.u8 0, Value.int IntKind.u8 0, Value.int IntKind.u8 0, Value.int IntKind.u8 0, Value.int IntKind.u8 0, Value.int IntKind.u8 0, Value.int IntKind.u8 0, Value.int IntKind.u8 0, Value.int IntKind.u8 0] 41)
    exact (Below.heap_alloc _ _ _ (by simp)).trans this
  have hB : Below w.heap.size w ((w.alloc (.cells #[Value.int IntKind.u8 0, Value.int IntKind.u8 0, Value.int IntKind.u8 0, Value.int IntKind.u8 0, Value.int IntKind.u8 0, Value.int IntKind.u8 0, Value.int IntKind.u8 0, Value.int IntKind.u8 0, Value.int IntKind.u8 0, Value.int IntKind.u8 0, Value.int IntKind.u8 0, Value.int IntKind.u8 0, Value.int IntKind.u8 0, Value.int IntKind.u8 0, Value.int IntKind.u8 0, Value.int IntKind.u8 0, Value.int IntKind.u8 0, Value.int IntKind.u8 0, Value.int IntKind.u8 0, Value.int IntKind.u8 0, Value.int IntKind.u8 0, Value.int IntKind.u8 0, Value.int IntKind.u8 0, Value.int IntKind.u8 0, Value.int IntKind.u8 0, Value.int IntKind.u8 0, Value.int IntKind.u8 0, Value.int IntKind.u8 0, Value.int IntKind.u8 0, Value.int IntKind.u8 0, Value.int IntKind.u8 0, Value.int IntKind.u8 0] 41)).alloc (.cells #[Value.int IntKind.u32 s0.toNat, Value.int IntKind.u32 s1.toNat, Value.int IntKind.u32 s2.toNat, Value.int IntKind.u32 s3.toNat, Value.int IntKind.u32 s4.toNat, Value.int IntKind.u32 s5.toNat, Value.int IntKind.u32 s6.toNat, Value.int IntKind.u32 s7.toNat] 66)) :=
    ⟨rfl, rfl, rfl, by simp; omega, fun k hk => by rw [Below.heap_alloc _ _ _ (by simp; omega), Below.heap_alloc _ _ _ hk]⟩
  obtain ⟨W2, hW2⟩ : ∃ W, W = (w.alloc (.cells #[Value.int IntKind.u8 0, Value.int IntKind.u8 0, Value.int IntKind.u8 0, Value.int IntKind.u8 0, Value.int IntKind.u8 0, Value.int IntKind.u8 0, Value.int IntKind.u8 0, Value.int IntKind.u8 0, Value.int IntKind.u8 0, Value.int IntKind.u8 0, Value.int IntKind.u8 0, Value.int IntKind.u8 0, Value.int IntKind.u8 0, Value.int IntKind.u8 0, Value.int IntKind.u8 0, Value.int IntKind.u8 0, Value.int IntKind.u8 0, Value.int IntKind.u8 0, Value.int IntKind.u8 0, Value.int IntKind.u8 0, Value.int IntKind.u8 0, Value.int IntKind.u8 0, Value.int IntKind.u8 0, Value.int IntKind.u8 0, Value.int IntKind.u8 0, Value.int IntKind.u8 0, Value.int IntKind.u8 0, Value.int IntKind.u8 0, Value.int IntKind.u8 0, Value.int IntKind.u8 0, Value.int IntKind.u8 0, Value.int IntKind.u8 0] 41)).alloc (.cells #[Value.int IntKind.u32 s0.toNat, Value.int IntKind.u32 s1.toNat, Value.int IntKind.u32 s2.toNat, Value.int IntKind.u32 s3.toNat, Value.int IntKind.u32 s4.toNat, Value.int IntKind.u32 s5.toNat, Value.int IntKind.u32 s6.toNat, Value.int IntKind.u32 s7.toNat] 66) := ⟨_, rfl⟩
  have hsz2 : W2.heap.size = w.heap.size + 2 := by rw [hW2]; simp
  rw [← hW2] at hA hD hB ⊢
  obtain ⟨D, hDD⟩ : ∃ D, D = w.heap.size := ⟨_, rfl⟩
  have HA := Lib.hid hA
  have HD := Lib.hid hD
  have HB := Lib.hid hB
  rw [← hDD] at HA HD HB hsz2 HCL ⊢
  have HSZ2 := Lib.hid hsz2
  have HDD := Lib.hid hDD
  clear hA hD hB hW2 hsz2 t0 t1 t2 t3 t4 t5 t6 t7 HH0 hlt0 hDD
  go_wp2_with fail
  go_loopw [5] (fun v wx => ∃ (k n c : Nat) (p : Option Addr), v = .slice p n c ∧ n ≤ c ∧ Hid (64 * k ≤ l.length ∧ n = l.length - 64 * k ∧ (0 < n → p = some ⟨g, o + 64 * k, none⟩)) ∧ Hid (Arr32 wx (D + 1) 66 (absN h0 l k)) ∧ Hid (ButAt (D + 1) (D + 2) W2 wx)) (fun v _ => lenOf v)
  case atStart => exact ⟨0, l.length, c0, p0, rfl, hc0, ⟨by omega, by omega, HP1.out⟩, HA, ButAt.refl _ _ _⟩
  case round =>
    obtain ⟨k, n, c, p, rfl, hnc, HK, HAk, HBk⟩ := hrel
    by_cases hn : 64 ≤ n
    · have hd : decide (64 ≤ (n : Int)) = true := by simp; omega
      go_upto_region 6 with fail
      obtain ⟨q1, q2, q3⟩ := HK.out
      obtain rfl : p = some ⟨g, o + 64 * k, none⟩ := q3 (by omega)
      have hblk := blk_length l k (by omega)
      have hcb : ∀ j, j < 64 → wr.cell? ⟨g, (o + 64 * k) + j, none⟩ = some (.int .u8 (((l.drop (64 * k)).take 64).getD j 0).toNat) := fun j hj => by
        obtain ⟨r1, r2⟩ := HCL.out (64 * k + j) (by omega)
        rw [blk_getD l k j hj, Nat.add_assoc]
        exact cell_old r2 ((HBk.out.block _ (by show g < _; omega) (by show g ≠ _; omega)).trans (HB.out.block _ (by show g < _; omega)))
      have HCB := Lib.hid hcb
      have HBLK := Lib.hid hblk
      have hNr : NumTab wr := HN.out.below (HB.out.trans (HBk.out.below (by omega) (by omega))) (by have := HDD.out; omega)
      have HNr := Lib.hid hNr
      have HAL := Lib.hid (absN_length h0 l k HH8.out)
      obtain ⟨p', hp', hs2⟩ := slice_off (P := Tryd.prog) 28 5 Tryd.underlying28 size5 g (o + 64 * k) n c 64 hn hnc
      have HP' := Lib.hid hp'
      have hs1 : ∀ W, (Instr.sliceAt 28 (.slice (some ⟨g, o + 64 * k, none⟩) n c) none (some (.int .i64 64)) none).run Tryd.prog W = .ok (.slice (some ⟨g, o + 64 * k, none⟩) 64 c) W :=
        slice_to (P := Tryd.prog) 28 5 Tryd.underlying28 size5 g (o + 64 * k) n c 64 (by omega) (by omega)
      replace hs2 : ∀ W, (Instr.sliceAt 28 (.slice (some ⟨g, o + 64 * k, none⟩) n c) (some (.int .i64 64)) none none).run Tryd.prog W = .ok (.slice p' (n - 64) (c - 64)) W := hs2
      clear hcb hblk hNr hp' q3 q1 q2
      go_wp2_with fail
      refine (absorb_but (D + 1) g (o + 64 * k) 64 c _ _ HAL.out HBLK.out (Nat.le_refl _) (by omega) _ HAk.out HCB.out HNr.out).mono ?_
      rintro e w' ⟨rfl, hA', hB'⟩
      have HA' := Lib.hid hA'
      have HB' := Lib.hid (HBk.out.trans hB' (by have := HBk.out.size; have := HSZ2.out; omega))
      clear hA' hB'
      go_wp2
      go_roundw
      case rel =>
        have q := HK.out
        refine ⟨k + 1, n - 64, c - 64, p', rfl, by omega, ⟨by omega, by omega, fun h => ?_⟩, HA', HB'⟩
        rw [HP'.out h]; congr 2
      case measure => simp [lenOf]; omega
    · have hkf : k = l.length / 64 ∧ n = l.length % 64 := by have := HK.out; omega
      have hn64 : n < 64 := by omega
      have hd : decide (64 ≤ (n : Int)) = false := by simp; omega
      have hpp : 0 < n → p = some ⟨g, o + 64 * k, none⟩ := HK.out.2.2
      have hrl : (l.drop (64 * k)).length = n := by have := HK.out; simp; omega
      have hea : endA l = (splice (List.replicate 128 0) 0 (l.drop (64 * k))).set n 0x80 := by rw [endA, hkf.1, hkf.2]
      have hsm : sumL l = outL (absN (absN h0 l k) (endL l) (endE l.length / 64)) 8 := by rw [HSUM.out, hkf.1]
      have hee : endE l.length = if 55 < n then 128 else 64 := by rw [endE, hkf.2]
      have HEA := Lib.hid hea
      have HSM := Lib.hid hsm
      have HEE := Lib.hid hee
      have HPP := Lib.hid hpp
      have HRL := Lib.hid hrl
      have HA1 := HAk
      have HAL1 := Lib.hid (absN_length h0 l k HH8.out)
      clear hkf hpp hrl hea hsm hee HK HAk HSUM hn
      generalize absN h0 l k = S1 at HA1 HSM HAL1
      have hmk := make128
      obtain ⟨Z, hZ⟩ : ∃ Z, Z = zeroes128.map v8 := ⟨_, rfl⟩
      rw [← hZ] at hmk
      have HZ := Lib.hid hZ
      clear hZ
      have HESZ : Hid (D + 2 ≤ wr.heap.size) := Lib.hid (by have := HBk.out.size; have := HSZ2.out; omega)
      go_upto_region 8 with fail
      clear hmk
      have hW8 : Arr8 (wr.alloc (.cells Z.toArray 5)) wr.heap.size 5 (List.replicate 128 0) := by
        have := World.alloc_heap_new wr (.cells Z.toArray 5)
        show _ = some (Obj.cells (zeroes128.map v8).toArray 5 (0, 0))
        rw [← HZ.out]; exact this
      have hA8 : Arr32 (wr.alloc (.cells Z.toArray 5)) (D + 1) 66 S1 := (Below.heap_alloc _ _ _ HA1.out.lt).trans HA1.out
      have hB8 : ButAt (D + 1) (D + 2) W2 (wr.alloc (.cells Z.toArray 5)) := HBk.out.trans (ButAt.of_below (g := D + 1) ((Below.refl wr.heap.size wr).alloc (Nat.le_refl _) _)) HESZ.out
      have hz8 : (wr.alloc (.cells Z.toArray 5)).heap.size = wr.heap.size + 1 := by simp
      obtain ⟨W8, hW8e⟩ : ∃ W, W = wr.alloc (.cells Z.toArray 5) := ⟨_, rfl⟩
      rw [← hW8e] at hW8 hA8 hB8 hz8 ⊢
      obtain ⟨E, hE⟩ : ∃ E, E = wr.heap.size := ⟨_, rfl⟩
      rw [← hE] at hW8 hz8 HESZ ⊢
      have hDE : D + 2 ≤ E := HESZ.out
      have HA8 := Lib.hid hA8
      have HB8 := Lib.hid hB8
      have HZ8 := Lib.hid hz8
      have hsrc : ∀ (j : Nat) (u : Value), ((l.drop (64 * k)).map v8)[j]? = some u → W8.cell? ((⟨g, o + 64 * k, none⟩ : Addr).add j) = some u := by
        intro j u hj
        have hjn : j < (l.drop (64 * k)).length := by
          have := (List.getElem?_eq_some_iff.1 hj).1
          simpa using this
        have hjl : 64 * k + j < l.length := by simp at hjn; omega
        obtain ⟨r1, r2⟩ := HCL.out (64 * k + j) hjl
        rw [addr_add', Nat.add_assoc, cell_old r2 ((hB8.block _ (by show g < _; omega) (by show g ≠ _; omega)).trans (HB.out.block _ (by show g < _; omega)))]
        simp [hjl] at hj
        simp [← hj, v8, List.getD, hjl]
      have HSRC := Lib.hid hsrc
      have HW8 := Lib.hid (show W8.heap[E]? = some (.cells Z.toArray 5 (0, 0)) by rw [HZ.out]; exact hW8)
      have HONE := Lib.hid (v8_all (l.drop (64 * k)))
      have hfit : 0 + ((l.drop (64 * k)).map v8).length ≤ Z.length := by
        have h1 := HRL.out
        rw [HZ.out, List.length_map, h1, List.length_map]; simp [zeroes128]; omega
      have HFIT := Lib.hid hfit
      have hcl : ((l.drop (64 * k)).map v8).length = n := by rw [List.length_map]; exact HRL.out
      have HCLN := Lib.hid hcl
      clear hA8 hB8 hz8 hsrc hfit hcl hW8 hW8e hE HBk HA1
      obtain ⟨RB, hRB⟩ : ∃ RB, RB = (l.drop (64 * k)).map v8 := ⟨_, rfl⟩
      rw [← hRB] at HSRC HONE HFIT HCLN
      have HRB := Lib.hid hRB
      clear hRB
      go_upto_region 9 with (refine wpList_copy_splice rfl (.tmp 22) (.tmp 23) 28 28 rfl 5 Tryd.underlying28 rfl (some ⟨E, 0, none⟩) p 64 128 n c (by rfl) (by rfl) E 0 Z 5 HW8.out RB (by rw [HCLN.out]; exact (Nat.min_eq_left (by omega)).symm) (fun h => ⟨rfl, _, HPP.out (by rw [← HCLN.out]; exact h), HSRC.out⟩) HFIT.out HONE.out E W8 (Below.refl _ _) (Nat.le_refl _) ?_; intro w4 hg4 hb4)
      have h9 : Arr8 w4 E 5 (splice (List.replicate 128 0) 0 (l.drop (64 * k))) := by
        show w4.heap[E]? = _
        rw [hg4.out, HZ.out, HRB.out]
        simp [splice, zeroes128, List.map_append, List.map_drop]
      have H9 := Lib.hid h9
      have HB9 := Lib.hid hb4
      have hl9 : (splice (List.replicate 128 (0 : BitVec 8)) 0 (l.drop (64 * k))).length = 128 := by rw [length_splice _ _ _ (by rw [HRL.out]; simp; omega)]; simp
      have c9 := h9.cell (i := n) (by rw [hl9]; omega)
      have f9 := h9.frozen n
      clear h9 hg4 hb4 hl9
      go_upto_if 31 with (fail)
      have hA10 : Arr8 (w4.setCell ⟨E, n, none⟩ (.int .u8 128)) E 5 (endA l) := by rw [HEA.out]; exact H9.out.set n 0x80
      have hS10 : Arr32 (w4.setCell ⟨E, n, none⟩ (.int .u8 128)) (D + 1) 66 S1 := (Below.heap_setCell _ _ _ _ (by show D + 1 ≠ E; omega)).trans ((HB9.out.block _ (by omega)).trans HA8.out)
      have hB10 : ButAt (D + 1) (D + 2) W2 (w4.setCell ⟨E, n, none⟩ (.int .u8 128)) := HB8.out.trans (ButAt.of_below (g := D + 1) (HB9.out.setCell (Nat.le_refl E) _)) hDE
      have hz10 : E < (w4.setCell ⟨E, n, none⟩ (.int .u8 128)).heap.size := by have := HB9.out.size; have := HZ8.out; simp; omega
      obtain ⟨W10, hW10⟩ : ∃ W, W = w4.setCell ⟨E, n, none⟩ (.int .u8 128) := ⟨_, rfl⟩
      rw [← hW10] at hA10 hS10 hB10 hz10 ⊢
      have HA10 := Lib.hid hA10
      have HS10 := Lib.hid hS10
      have HB10 := Lib.hid hB10
      have HZ10 := Lib.hid hz10
      clear hA10 hS10 hB10 hz10 hW10 c9 f9 H9 HB9 HCLN HFIT HONE HW8 HSRC HRB
      go_cut [6] (fun v wx => v = .slice (some ⟨E, 0, none⟩) (endE l.length) 128 ∧ W10 = wx)
      case first =>
        by_cases h55 : 55 < n
        · have hd5 : decide (55 < (n : Int)) = true := by simp; omega
          rw [hd5]
          have hs6 : ∀ W, (Instr.sliceAt 28 (.slice (some ⟨E, 0, none⟩) 64 128) none (some (.int .i64 128)) none).run Tryd.prog W = .ok (.slice (some ⟨E, 0, none⟩) 128 128) W :=
            slice_to (P := Tryd.prog) 28 5 Tryd.underlying28 size5 E 0 64 128 128 (by omega) (by omega)
          go_wp2_with fail
          go_meet
          exact ⟨by rw [HEE.out, if_pos h55], rfl⟩
        · have hd5 : decide (55 < (n : Int)) = false := by simp; omega
          rw [hd5]
          go_wp2_with fail
          go_meet
          exact ⟨by rw [HEE.out, if_neg h55], rfl⟩
      obtain ⟨rfl, rfl⟩ := hcut
      have hEE : endE l.length = 64 ∨ endE l.length = 128 := by rw [HEE.out]; split <;> simp
      have hEL : endL l = putL (endA l) (endE l.length - 8) 8 (BitVec.ofNat 64 (l.length * 8)) 8 := rfl
      have HEL := Lib.hid hEL
      have HLL := Lib.hid (endL_length l)
      have HLA := Lib.hid (endA_length l)
      clear hEL HEE HEA
      generalize endE l.length = EE at hEE HEL HSM ⊢
      generalize endL l = el at HSM HEL HLL
      generalize endA l = ea at HEL HA10 HLA
      have hE1 : 64 ≤ EE := by omega
      have hE2 : EE ≤ 128 := by omega
      have hsl : ∀ W, (Instr.sliceAt 28 (.slice (some ⟨E, 0, none⟩) EE 128) (some (.int .i64 ((EE : Int) - 8))) none none).run Tryd.prog W = .ok (.slice (some ⟨E, EE - 8, none⟩) 8 (128 - (EE - 8))) W := fun W => by
        have h := slice_from (P := Tryd.prog) 28 5 Tryd.underlying28 size5 E 0 EE 128 (EE - 8) (by omega) (by omega) W
        rw [show ((EE - 8 : Nat) : Int) = (EE : Int) - 8 by omega, show EE - (EE - 8) = 8 by omega, Nat.zero_add] at h
        exact h
      have HE64 := Lib.hid hEE
      clear hEE
      go_wp2_with fail
      refine (put64 E (EE - 8) (128 - (EE - 8)) 5 ea l.length (by omega) _ HA10.out (by rw [HLA.out]; omega) (by omega)).mono ?_
      rintro e w5 ⟨rfl, hO5, hA5⟩
      rw [← HEL.out] at hA5
      have HA5 := Lib.hid hA5
      have HS5 : Hid (Arr32 w5 (D + 1) 66 (absN S1 el 0)) := (hO5.block _ (by omega)).trans HS10.out
      have HB5 : Hid (ButAt (D + 1) (D + 2) W2 w5) := HB10.out.trans (ButAt.of_below (g := D + 1) (hO5.below (Nat.le_refl E))) hDE
      have hz5 : E < w5.heap.size := by have := hO5.size; have := HZ10.out; omega
      have HZ5 := Lib.hid hz5
      clear hO5 hA5 hz5 hsl HA10 HS10 HB10 HZ10 HEL HLA HA8 HB8 HZ8 HZ HPP HRL HESZ HA
      go_wp2_with fail
      go_loopw [6] (fun v wx => ∃ (k n c : Nat) (p : Option Addr), v = .slice p n c ∧ n ≤ c ∧ Hid (64 * k ≤ EE ∧ n = EE - 64 * k ∧ (0 < n → p = some ⟨E, 64 * k, none⟩)) ∧ Hid (Arr32 wx (D + 1) 66 (absN S1 el k)) ∧ Hid (ButAt (D + 1) w5.heap.size w5 wx)) (fun v _ => lenOf v)
      case atStart => exact ⟨0, EE, 128, some ⟨E, 0, none⟩, rfl, hE2, ⟨by omega, by omega, fun _ => rfl⟩, HS5, ButAt.refl _ _ _⟩
      case round =>
        obtain ⟨k2, n2, c2, p2, rfl, hnc2, HK2, HAk2, HBk2⟩ := hrel
        by_cases hn2 : 0 < n2
        · have hd2 : decide (0 < (n2 : Int)) = true := by simp; omega
          go_upto_region 15 with fail
          obtain ⟨q1, q2, q3⟩ := HK2.out
          obtain rfl : p2 = some ⟨E, 64 * k2, none⟩ := q3 (by omega)
          have hblk := blk_length el k2 (by rw [HLL.out]; have := HE64.out; omega)
          have hn264 : 64 ≤ n2 := by have := HE64.out; omega
          have hcb : ∀ j, j < 64 → wr.cell? ⟨E, 64 * k2 + j, none⟩ = some (.int .u8 (((el.drop (64 * k2)).take 64).getD j 0).toNat) := fun j hj => by
            have h1 : Arr8 wr E 5 el := (HBk2.out.block _ HZ5.out (by omega)).trans HA5.out
            rw [blk_getD el k2 j hj]
            exact h1.cell (by rw [HLL.out]; omega)
          have HCB := Lib.hid hcb
          have HBLK := Lib.hid hblk
          have hDsz : D + 1 < w5.heap.size := by have := HZ5.out; omega
          have hNr : NumTab wr := HN.out.below (HB.out.trans ((HB5.out.below (by omega) (by omega)).trans (HBk2.out.below (by omega) (by omega)))) (by have := HDD.out; omega)
          have HNr := Lib.hid hNr
          have HAL := Lib.hid (absN_length S1 el k2 HAL1.out)
          have hs1 : ∀ W, (Instr.sliceAt 28 (.slice (some ⟨E, 64 * k2, none⟩) n2 c2) none (some (.int .i64 64)) none).run Tryd.prog W = .ok (.slice (some ⟨E, 64 * k2, none⟩) 64 c2) W :=
            slice_to (P := Tryd.prog) 28 5 Tryd.underlying28 size5 E (64 * k2) n2 c2 64 (by omega) (by omega)
          obtain ⟨p', hp', hs2⟩ := slice_off (P := Tryd.prog) 28 5 Tryd.underlying28 size5 E (64 * k2) n2 c2 64 hn264 hnc2
          have HP' := Lib.hid hp'
          replace hs2 : ∀ W, (Instr.sliceAt 28 (.slice (some ⟨E, 64 * k2, none⟩) n2 c2) (some (.int .i64 64)) none none).run Tryd.prog W = .ok (.slice p' (n2 - 64) (c2 - 64)) W := hs2
          clear hcb hblk hNr hp' q3 q1 q2
          go_wp2_with fail
          refine (absorb_but (D + 1) E (64 * k2) 64 c2 _ _ HAL.out HBLK.out (Nat.le_refl _) (by omega) _ HAk2.out HCB.out HNr.out).mono ?_
          rintro e w' ⟨rfl, hA', hB'⟩
          have HA' := Lib.hid hA'
          have HB' := Lib.hid (HBk2.out.trans hB' HBk2.out.size)
          clear hA' hB'
          go_wp2
          go_roundw
          case rel =>
            have q := HK2.out
            refine ⟨k2 + 1, n2 - 64, c2 - 64, p', rfl, by omega, ⟨by omega, by omega, fun h => ?_⟩, HA', HB'⟩
            rw [HP'.out h]; congr 2
          case measure => simp [lenOf]; omega
        · obtain rfl : n2 = 0 := by omega
          have hk2 : k2 = EE / 64 := by have := HK2.out; have := HE64.out; omega
          have HAf : Hid (Arr32 wr (D + 1) 66 (absN S1 el (EE / 64))) := hk2 ▸ HAk2
          have HVL := Lib.hid (absN_length S1 el (EE / 64) HAL1.out)
          clear HAk2 hk2 hn2
          generalize absN S1 el (EE / 64) = V at HAf HVL HSM
          have hDf : Arr8 wr D 41 (outL V 0) := (HBk2.out.block _ (by have := HZ5.out; omega) (by omega)).trans ((HB5.out.block _ (by omega) (by omega)).trans HD.out)
          have hBf : Below D w wr := HB.out.trans ((HB5.out.below (by omega) (by omega)).trans (HBk2.out.below (by omega) (by have := HZ5.out; omega)))
          have HDf := Lib.hid hDf
          have HBf := Lib.hid hBf
          clear hDf hBf HBk2 HB5 HD HB HK2 HA5 HS5 HE64 HLL HZ5 HSZ2 HAL1
          go_upto_region 16 with fail
          refine wp_region_lit ?_
          refine wpList_load_row rfl 66 _ rfl (D + 1) rfl 66 (V.map v32).toArray (0, 0) _ HAf.out Tryd.underlying66 rfl (by rw [List.size_toArray, List.length_map, HVL.out]; rfl) ?_
          have hix : ∀ (k : Nat) (hk : k < 8) (W : World), (Instr.index 66 (.agg (V.map v32).toArray) (.int .i64 (k : Int))).run Tryd.prog W = .ok (.int .u32 ((V.getD k 0).toNat : Int)) W := fun k hk W => index66 V HVL.out k hk W
          generalize (V.map v32).toArray = varr at hix ⊢
          have HIX := Lib.hid hix
          clear hix HAf
          obtain ⟨wo, rfl⟩ : ∃ wo : World, wo = wr := ⟨_, rfl⟩
          go_wp2_with fail
          go_loopw [54] (fun t' wx => ∃ i : Nat, t' = .int .i64 i ∧ i ≤ 8 ∧ Hid (Arr8 wx D 41 (outL V i)) ∧ Hid (OnlyAt D wo wx)) (fun t' _ => (8 - intOf t').toNat)
          case atStart => exact ⟨0, rfl, by omega, HDf, OnlyAt.refl _ _⟩
          case round =>
            obtain ⟨i, rfl, hi, HDi, HOi⟩ := hrel
            by_cases hli : i < 8
            · have hik := HIX.out i hli
              have hol : outL V (i + 1) = putL (outL V i) (4 * i) 4 ((V.getD i 0).setWidth 64) 4 := rfl
              have HOL := Lib.hid hol
              have HLO := Lib.hid (outL_length V i)
              have hsl : ∀ W, (Instr.sliceAt 41 (.pointer (some ⟨D, 0, none⟩)) (some (.int .i64 (4 * (i : Int)))) (some (.int .i64 (4 * (i : Int) + 4))) none).run Tryd.prog W = .ok (.slice (some ⟨D, 4 * i, none⟩) 4 (32 - 4 * i)) W := fun W => by
                have h := arr_slice_lh (P := Tryd.prog) 41 5 32 Tryd.underlying41 size5 D 0 (4 * i) (4 * i + 4) (by omega) (by omega) (by omega) W
                rw [show 4 * i + 4 - 4 * i = 4 by omega, Nat.zero_add] at h
                simpa using h
              clear hol
              generalize V.getD i 0 = vi at hik HOL
              have hdi : decide ((i : Int) < 8) = true := by simp; omega
              go_wp2_with fail
              refine (put32 D (4 * i) (32 - 4 * i) 41 (outL V i) vi _ HDi.out (by rw [HLO.out]; omega) (by omega)).mono ?_
              rintro e w' ⟨rfl, hO', hA'⟩
              rw [← HOL.out] at hA'
              have HA' := Lib.hid hA'
              have HO' := Lib.hid (HOi.out.trans hO')
              clear hO' hA'
              go_wp2
              go_roundw
              case rel => exact ⟨i + 1, by go_num, by omega, HA', HO'⟩
              case measure => simp [intOf]; omega
            · have hdi : decide ((i : Int) < 8) = false := by simp; omega
              have hi8 : i = 8 := by omega
              have HDz : Hid (Arr8 wr D 41 (sumL l)) := by rw [HSM.out]; exact hi8 ▸ HDi
              clear HDi hi8
              have hA2 : wr.heap[D]? = some (.cells ((sumL l).map v8).toArray 41 (0, 0)) := HDz.out
              have hs2 : ((sumL l).map v8).toArray.size = 32 := by rw [List.size_toArray, List.length_map, sumL_length]
              have ho2 : ((sumL l).map v8).toArray.all (·.oneCell') = true := by
                rw [Array.all_eq_true_iff_forall_mem]
                intro u hu
                exact v8_all _ u (by simpa using hu)
              have hBx : Below w.heap.size w wr := by rw [← HDD.out]; exact HBf.out.trans (HOi.out.below (Nat.le_refl _))
              have HBX := Lib.hid hBx
              clear hBx
              generalize hq : ((sumL l).map v8).toArray = arr at hA2 hs2 ho2
              have HQ := Lib.hid hq
              clear hq
              have HA2 := Lib.hid hA2
              have HS2 := Lib.hid hs2
              have HO2 := Lib.hid ho2
              clear hA2 hs2 ho2
              go_upto_region 21 with fail
              refine wp_region_lit ?_
              refine wpList_load_row rfl 41 _ rfl D rfl 41 arr (0, 0) _ HA2.out Tryd.underlying41 rfl (by rw [HS2.out]; rfl) ?_
              refine wpList_plain rfl fun _ hK => wp_store_row 41 _ _ rfl D arr rfl rfl 41 arr HA2.out (by rw [HS2.out]; rfl) rfl HO2.out (hK _ _ ?_)
              rw [setRow_same HA2.out]
              go_wp2_with fail
              refine bodyPost_ret (v := .agg arr) ?_ rfl ?_
              · exact results_cell_row rfl _ _ _ 41 _ (0, 0) _ rfl HA2.out Tryd.underlying41 rfl (by rw [HS2.out]; rfl)
              · exact ⟨by rw [HQ.out], HBX.out⟩
end Go.Proofs.YtklaancgnfkjlaaDoor
