/- Rows of numbers of 32 bits in a block; the quarter round. -/
import Derived.Test.YtklaancgnfkjlaaDoorCa
import Derived.RegionCalls
import Derived.Deep.RegionWith
import Derived.Deep.CutRange
import Derived.RangeFuncOwn
import Derived.RangeFuncBox
import Derived.Lib.Hide
namespace Go.Proofs.YtklaancgnfkjlaaDoor
open Go.RowKit
set_option maxRecDepth 100000
set_option maxHeartbeats 4000000
set_option linter.unusedVariables false
set_option linter.unusedSimpArgs false

/-- A block that holds a row of numbers of 32 bits. -/
def Arr32 (W : World) (g : Nat) (t : TypeId) (v : List (BitVec 32)) : Prop :=
  W.heap[g]? = some (.cells (v.map fun x => Value.int .u32 (x.toNat : Int)).toArray t (0, 0))
theorem Arr32.cell {W : World} {g : Nat} {t : TypeId} {v : List (BitVec 32)} (h : Arr32 W g t v) {i : Nat} (hi : i < v.length) :
    W.cell? ⟨g, i, none⟩ = some (.int .u32 (v.getD i 0).toNat) := by
  simp [World.cell?, show W.heap[g]? = _ from h, hi, List.getD]
theorem Arr32.frozen {W : World} {g : Nat} {t : TypeId} {v : List (BitVec 32)} (h : Arr32 W g t v) (i : Nat) : W.frozen? ⟨g, i, none⟩ = false := by
  simp [World.frozen?, show W.heap[g]? = _ from h]
theorem Arr32.lt {W : World} {g : Nat} {t : TypeId} {v : List (BitVec 32)} (h : Arr32 W g t v) : g < W.heap.size := (Array.getElem?_eq_some_iff.1 h).1
theorem Arr32.set {W : World} {g : Nat} {t : TypeId} {v : List (BitVec 32)} (h : Arr32 W g t v) (i : Nat) (x : BitVec 32) :
    Arr32 (W.setCell ⟨g, i, none⟩ (.int .u32 x.toNat)) g t (v.set i x) := by
  have hl := h.lt
  have h' : W.heap[g] = _ := (Array.getElem?_eq_some_iff.1 h).2
  show (W.heap.modify g _)[g]? = _
  rw [Array.getElem?_modify]
  simp [hl, h', List.map_set]
/-- Nothing but block g has changed. -/
structure OnlyAt (g : Nat) (w w' : World) : Prop where
  os : w'.os = w.os
  tape : w'.tape = w.tape
  output : w'.output = w.output
  size : w'.heap.size = w.heap.size
  block : ∀ k, k ≠ g → w'.heap[k]? = w.heap[k]?
theorem OnlyAt.refl (g : Nat) (w : World) : OnlyAt g w w := ⟨rfl, rfl, rfl, rfl, fun _ _ => rfl⟩
theorem OnlyAt.trans {g : Nat} {a b c : World} (h : OnlyAt g a b) (k : OnlyAt g b c) : OnlyAt g a c :=
  ⟨k.os.trans h.os, k.tape.trans h.tape, k.output.trans h.output, k.size.trans h.size, fun i hi => (k.block i hi).trans (h.block i hi)⟩
theorem OnlyAt.setCell (g i : Nat) (w : World) (x : Value) : OnlyAt g w (w.setCell ⟨g, i, none⟩ x) :=
  ⟨rfl, rfl, rfl, by simp [World.setCell], fun k hk => Below.heap_setCell _ _ _ _ hk⟩
theorem OnlyAt.below {g B : Nat} {w w' : World} (h : OnlyAt g w w') (hg : B ≤ g) : Below B w w' :=
  ⟨h.os, h.tape, h.output, Nat.le_of_eq h.size.symm, fun k hk => h.block k (by omega)⟩

/-- The quarter round, as the text has it. -/
def stA (v : List (BitVec 32)) (a b : Nat) : List (BitVec 32) := v.set a (v.getD a 0 + v.getD b 0)
def stD (v : List (BitVec 32)) (d a k : Nat) : List (BitVec 32) := v.set d ((v.getD d 0 ^^^ v.getD a 0).rotateLeft k)
def qr (v : List (BitVec 32)) (a b c d : Nat) : List (BitVec 32) :=
  stD (stA (stD (stA (stD (stA (stD (stA v a b) d a 16) c d) b c 12) a b) d a 8) c d) b c 7
theorem stA_length (v a b) : (stA v a b).length = v.length := by simp [stA]
theorem stD_length (v a b k) : (stD v a b k).length = v.length := by simp [stD]
theorem qr_length (v a b c d) : (qr v a b c d).length = v.length := by simp [qr, stA_length, stD_length]

theorem xrot_16 (x y z : BitVec 32) (hz : Hid ((x ^^^ y).rotateLeft 16 = z)) (w : World) :
    Calls Tryd.prog 41 #[.int .u32 (bits .xor .u32 (x.toNat : Int) (y.toNat : Int)), .int .i64 16] w fun e w' => e = .returned (.int .u32 z.toNat) ∧ w = w' := by
  rw [bxor, ← hz.out]
  exact rotl_16 _ _
theorem xrot_12 (x y z : BitVec 32) (hz : Hid ((x ^^^ y).rotateLeft 12 = z)) (w : World) :
    Calls Tryd.prog 41 #[.int .u32 (bits .xor .u32 (x.toNat : Int) (y.toNat : Int)), .int .i64 12] w fun e w' => e = .returned (.int .u32 z.toNat) ∧ w = w' := by
  rw [bxor, ← hz.out]
  exact rotl_12 _ _
theorem xrot_8 (x y z : BitVec 32) (hz : Hid ((x ^^^ y).rotateLeft 8 = z)) (w : World) :
    Calls Tryd.prog 41 #[.int .u32 (bits .xor .u32 (x.toNat : Int) (y.toNat : Int)), .int .i64 8] w fun e w' => e = .returned (.int .u32 z.toNat) ∧ w = w' := by
  rw [bxor, ← hz.out]
  exact rotl_8 _ _
theorem xrot_7 (x y z : BitVec 32) (hz : Hid ((x ^^^ y).rotateLeft 7 = z)) (w : World) :
    Calls Tryd.prog 41 #[.int .u32 (bits .xor .u32 (x.toNat : Int) (y.toNat : Int)), .int .i64 7] w fun e w' => e = .returned (.int .u32 z.toNat) ∧ w = w' := by
  rw [bxor, ← hz.out]
  exact rotl_7 _ _
theorem mix_ok (g : Nat) (t : TypeId) (v : List (BitVec 32)) (hv : v.length = 16) (a b c d : Nat) (ha : (a : Int) < 16) (hb : (b : Int) < 16) (hc : (c : Int) < 16) (hd : (d : Int) < 16) (w : World)
    (h : Arr32 w g t v) :
    Calls Tryd.prog 31 #[.pointer (some ⟨g, 0, none⟩), .int .i64 a, .int .i64 b, .int .i64 c, .int .i64 d] w fun e w' =>
      e = .returned (.tuple #[]) ∧ OnlyAt g w w' ∧ Arr32 w' g t (qr v a b c d) := by
  have hO : OnlyAt g w w := OnlyAt.refl g w
  have hqr : qr v a b c d = stD (stA (stD (stA (stD (stA (stD (stA v a b) d a 16) c d) b c 12) a b) d a 8) c d) b c 7 := rfl
  generalize qr v a b c d = R at hqr ⊢
  replace hqr := Lib.hid hqr
  go_enter Tryd.func31, Tryd.ntmps31
  replace hO := Lib.hid hO
  replace h := Lib.hid h
  go_upto_region 0 with fail
  go_cut [] from 10 to 22 (fun wx => Arr32 wx g t (stA v a b) ∧ OnlyAt g w wx)
  case first =>
    have A := h.out.cell (i := a) (by omega)
    have B := h.out.cell (i := b) (by omega)
    have F := h.out.frozen a
    generalize hx : v.getD a 0 = x at A
    generalize hy : v.getD b 0 = y at B
    replace hx := Lib.hid hx
    replace hy := Lib.hid hy
    go_region
    rw [badd x y]
    go_wp2_with fail
    go_meet
    refine ⟨?_, ?_⟩
    · rw [stA, hx.out, hy.out]; exact h.out.set _ _
    · exact hO.out.trans ((OnlyAt.setCell g a w (.int .u32 (x + y).toNat)).trans ⟨rfl, rfl, rfl, rfl, fun _ _ => rfl⟩)
  obtain ⟨h1, hO⟩ := hcut
  clear h
  have l1 : (stA v a b).length = 16 := by rw [stA_length]; exact hv
  generalize stA v a b = V1 at h1 l1 hqr
  generalize wc = W1 at *
  replace hO := Lib.hid hO
  replace h1 := Lib.hid h1
  go_upto_region 1 with fail
  go_cut [] from 23 to 38 (fun wx => Arr32 wx g t (stD V1 d a 16) ∧ OnlyAt g w wx)
  case first =>
    have A := h1.out.cell (i := d) (by omega)
    have B := h1.out.cell (i := a) (by omega)
    have F := h1.out.frozen d
    generalize hx : V1.getD d 0 = x at A
    generalize hy : V1.getD a 0 = y at B
    replace hx := Lib.hid hx
    replace hy := Lib.hid hy
    obtain ⟨z, hz⟩ : ∃ z, Hid ((x ^^^ y).rotateLeft 16 = z) := ⟨_, Lib.hid rfl⟩
    go_region_with (go_at_call 41; refine (xrot_16 x y z hz _).mono ?_; rintro e w' ⟨rfl, rfl⟩)
    all_goals
      go_wp2_with fail
      go_meet
      refine ⟨?_, ?_⟩
      · rw [stD, hx.out, hy.out, hz.out]; exact h1.out.set _ _
      · exact hO.out.trans ((OnlyAt.setCell g d W1 (.int .u32 z.toNat)).trans ⟨rfl, rfl, rfl, rfl, fun _ _ => rfl⟩)
  obtain ⟨h2, hO⟩ := hcut
  clear h1
  have l2 : (stD V1 d a 16).length = 16 := by rw [stD_length]; exact l1
  generalize stD V1 d a 16 = V2 at h2 l2 hqr
  generalize wc = W2 at *
  replace hO := Lib.hid hO
  replace h2 := Lib.hid h2
  go_upto_region 2 with fail
  go_cut [] from 39 to 51 (fun wx => Arr32 wx g t (stA V2 c d) ∧ OnlyAt g w wx)
  case first =>
    have A := h2.out.cell (i := c) (by omega)
    have B := h2.out.cell (i := d) (by omega)
    have F := h2.out.frozen c
    generalize hx : V2.getD c 0 = x at A
    generalize hy : V2.getD d 0 = y at B
    replace hx := Lib.hid hx
    replace hy := Lib.hid hy
    go_region
    rw [badd x y]
    go_wp2_with fail
    go_meet
    refine ⟨?_, ?_⟩
    · rw [stA, hx.out, hy.out]; exact h2.out.set _ _
    · exact hO.out.trans ((OnlyAt.setCell g c W2 (.int .u32 (x + y).toNat)).trans ⟨rfl, rfl, rfl, rfl, fun _ _ => rfl⟩)
  obtain ⟨h3, hO⟩ := hcut
  clear h2
  have l3 : (stA V2 c d).length = 16 := by rw [stA_length]; exact l2
  generalize stA V2 c d = V3 at h3 l3 hqr
  generalize wc = W3 at *
  replace hO := Lib.hid hO
  replace h3 := Lib.hid h3
  go_upto_region 3 with fail
  go_cut [] from 52 to 67 (fun wx => Arr32 wx g t (stD V3 b c 12) ∧ OnlyAt g w wx)
  case first =>
    have A := h3.out.cell (i := b) (by omega)
    have B := h3.out.cell (i := c) (by omega)
    have F := h3.out.frozen b
    generalize hx : V3.getD b 0 = x at A
    generalize hy : V3.getD c 0 = y at B
    replace hx := Lib.hid hx
    replace hy := Lib.hid hy
    obtain ⟨z, hz⟩ : ∃ z, Hid ((x ^^^ y).rotateLeft 12 = z) := ⟨_, Lib.hid rfl⟩
    go_region_with (go_at_call 41; refine (xrot_12 x y z hz _).mono ?_; rintro e w' ⟨rfl, rfl⟩)
    all_goals
      go_wp2_with fail
      go_meet
      refine ⟨?_, ?_⟩
      · rw [stD, hx.out, hy.out, hz.out]; exact h3.out.set _ _
      · exact hO.out.trans ((OnlyAt.setCell g b W3 (.int .u32 z.toNat)).trans ⟨rfl, rfl, rfl, rfl, fun _ _ => rfl⟩)
  obtain ⟨h4, hO⟩ := hcut
  clear h3
  have l4 : (stD V3 b c 12).length = 16 := by rw [stD_length]; exact l3
  generalize stD V3 b c 12 = V4 at h4 l4 hqr
  generalize wc = W4 at *
  replace hO := Lib.hid hO
  replace h4 := Lib.hid h4
  go_upto_region 4 with fail
  go_cut [] from 68 to 80 (fun wx => Arr32 wx g t (stA V4 a b) ∧ OnlyAt g w wx)
  case first =>
    have A := h4.out.cell (i := a) (by omega)
    have B := h4.out.cell (i := b) (by omega)
    have F := h4.out.frozen a
    generalize hx : V4.getD a 0 = x at A
    generalize hy : V4.getD b 0 = y at B
    replace hx := Lib.hid hx
    replace hy := Lib.hid hy
    go_region
    rw [badd x y]
    go_wp2_with fail
    go_meet
    refine ⟨?_, ?_⟩
    · rw [stA, hx.out, hy.out]; exact h4.out.set _ _
    · exact hO.out.trans ((OnlyAt.setCell g a W4 (.int .u32 (x + y).toNat)).trans ⟨rfl, rfl, rfl, rfl, fun _ _ => rfl⟩)
  obtain ⟨h5, hO⟩ := hcut
  clear h4
  have l5 : (stA V4 a b).length = 16 := by rw [stA_length]; exact l4
  generalize stA V4 a b = V5 at h5 l5 hqr
  generalize wc = W5 at *
  replace hO := Lib.hid hO
  replace h5 := Lib.hid h5
  go_upto_region 5 with fail
  go_cut [] from 81 to 96 (fun wx => Arr32 wx g t (stD V5 d a 8) ∧ OnlyAt g w wx)
  case first =>
    have A := h5.out.cell (i := d) (by omega)
    have B := h5.out.cell (i := a) (by omega)
    have F := h5.out.frozen d
    generalize hx : V5.getD d 0 = x at A
    generalize hy : V5.getD a 0 = y at B
    replace hx := Lib.hid hx
    replace hy := Lib.hid hy
    obtain ⟨z, hz⟩ : ∃ z, Hid ((x ^^^ y).rotateLeft 8 = z) := ⟨_, Lib.hid rfl⟩
    go_region_with (go_at_call 41; refine (xrot_8 x y z hz _).mono ?_; rintro e w' ⟨rfl, rfl⟩)
    all_goals
      go_wp2_with fail
      go_meet
      refine ⟨?_, ?_⟩
      · rw [stD, hx.out, hy.out, hz.out]; exact h5.out.set _ _
      · exact hO.out.trans ((OnlyAt.setCell g d W5 (.int .u32 z.toNat)).trans ⟨rfl, rfl, rfl, rfl, fun _ _ => rfl⟩)
  obtain ⟨h6, hO⟩ := hcut
  clear h5
  have l6 : (stD V5 d a 8).length = 16 := by rw [stD_length]; exact l5
  generalize stD V5 d a 8 = V6 at h6 l6 hqr
  generalize wc = W6 at *
  replace hO := Lib.hid hO
  replace h6 := Lib.hid h6
  go_upto_region 6 with fail
  go_cut [] from 97 to 109 (fun wx => Arr32 wx g t (stA V6 c d) ∧ OnlyAt g w wx)
  case first =>
    have A := h6.out.cell (i := c) (by omega)
    have B := h6.out.cell (i := d) (by omega)
    have F := h6.out.frozen c
    generalize hx : V6.getD c 0 = x at A
    generalize hy : V6.getD d 0 = y at B
    replace hx := Lib.hid hx
    replace hy := Lib.hid hy
    go_region
    rw [badd x y]
    go_wp2_with fail
    go_meet
    refine ⟨?_, ?_⟩
    · rw [stA, hx.out, hy.out]; exact h6.out.set _ _
    · exact hO.out.trans ((OnlyAt.setCell g c W6 (.int .u32 (x + y).toNat)).trans ⟨rfl, rfl, rfl, rfl, fun _ _ => rfl⟩)
  obtain ⟨h7, hO⟩ := hcut
  clear h6
  have l7 : (stA V6 c d).length = 16 := by rw [stA_length]; exact l6
  generalize stA V6 c d = V7 at h7 l7 hqr
  generalize wc = W7 at *
  have hO := Lib.hid hO
  replace h7 := Lib.hid h7
  go_upto_region 7 with fail
  have A := h7.out.cell (i := b) (by omega)
  have B := h7.out.cell (i := c) (by omega)
  have F := h7.out.frozen b
  generalize hx : V7.getD b 0 = x at A
  generalize hy : V7.getD c 0 = y at B
  replace hx := Lib.hid hx
  replace hy := Lib.hid hy
  obtain ⟨z, hz⟩ : ∃ z, Hid ((x ^^^ y).rotateLeft 7 = z) := ⟨_, Lib.hid rfl⟩
  go_region_with (go_at_call 41; refine (xrot_7 x y z hz _).mono ?_; rintro e w' ⟨rfl, rfl⟩)
  all_goals
    go_wp2_with fail
    go_end0
    refine ⟨rfl, ?_, ?_⟩
    · exact hO.out.trans ((OnlyAt.setCell g b W7 (.int .u32 z.toNat)).trans ⟨rfl, rfl, rfl, rfl, fun _ _ => rfl⟩)
    · rw [hqr.out, stD, hx.out, hy.out, hz.out]; exact h7.out.set _ _
end Go.Proofs.YtklaancgnfkjlaaDoor
