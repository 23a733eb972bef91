/- The reference: Blank, Members. -/
import Derived.Test.YtekdekchbnacgaaLc
import Derived.Test.YtekdekchbnacgaaLd
namespace Go.Proofs.Ytekdekchbnacgaa
open Go.RowKit
set_option maxRecDepth 100000
set_option linter.unusedVariables false
set_option linter.unusedSimpArgs false

set_option maxHeartbeats 1000000 in
theorem rblank_ok (t : List (Int × Int)) (v : Value) (x : Int) (w : World) (ht : NodesAt w v t) (hl : t.length ≤ 1000000) :
    Calls Try.prog 44 #[.agg #[v], .int .i64 x] w fun e w' => e = .returned (.bool (!(ofF t x).isSome)) ∧ Below w.heap.size w w' := by
  have hb1 : Below w.heap.size w (w.alloc (.cells #[v] 24)) := (Below.refl _ w).alloc (Nat.le_refl _) _
  have HP := Lib.hid (rpublic_ok t v x (w.alloc (.cells #[v] 24)) (ht.below hb1) hl)
  obtain ⟨gv, hgv⟩ : ∃ gv, gv = (ofF t x).getD 0 := ⟨_, rfl⟩
  obtain ⟨sb, hsb⟩ : ∃ sb, sb = (ofF t x).isSome := ⟨_, rfl⟩
  rw [← hgv, ← hsb] at HP
  rw [← hsb]
  obtain ⟨W0, hW0⟩ : ∃ W0, W0 = w.alloc (.cells #[v] 24) := ⟨_, rfl⟩
  have cb : W0.cell? ⟨w.heap.size, 0, none⟩ = some v := by rw [hW0]; unfold World.cell?; rw [World.alloc_heap_new]; rfl
  rw [← hW0] at HP hb1
  clear ht hl hgv hsb
  go_enter Try.func44, Try.ntmps44
  go_wp2_with fail
  rw [← hW0]
  clear hW0
  refine HP.out.mono ?_
  rintro e w1 ⟨rfl, hB1⟩
  have HB1 := Lib.hid (hb1.trans (hB1.mono hb1.size))
  clear hB1 hb1 HP cb
  cases sb with
  | true =>
    go_wp2_with fail
    go_ret
    exact ⟨rfl, HB1.out⟩
  | false =>
    go_wp2_with fail
    go_ret
    exact ⟨rfl, HB1.out⟩

/-- The devices below k with a leaf. -/
def memP (t : List (Int × Int)) (k : Nat) : List Int := ((List.range k).filter fun d : Nat => (ofF t (512 + (d : Int))).isSome).map fun d : Nat => (d : Int)
theorem memP_zero (t : List (Int × Int)) : memP t 0 = [] := rfl
theorem memP_succ (t : List (Int × Int)) (k : Nat) : memP t (k + 1) = memP t k ++ if (ofF t (512 + (k : Int))).isSome then [(k : Int)] else [] := by
  unfold memP
  rw [List.range_succ, List.filter_append, List.map_append]
  congr 1
  cases h : (ofF t (512 + (k : Int))).isSome <;> simp [h]
theorem memP_length (t : List (Int × Int)) (k : Nat) : (memP t k).length ≤ k := by
  unfold memP
  rw [List.length_map]
  exact Nat.le_trans (List.length_filter_le _ _) (by rw [List.length_range]; exact Nat.le_refl _)
theorem ofF_isSome {t : List (Int × Int)} {x : Int} : (ofF t x).isSome = true ↔ ∃ e ∈ t, e.1 = x := by
  unfold ofF
  rw [Option.isSome_map, List.find?_isSome]
  simp
theorem memP_mem (t : List (Int × Int)) (d : Int) : d ∈ memP t 512 ↔ 0 ≤ d ∧ d < 512 ∧ ∃ x ∈ t, x.1 = 512 + d := by
  unfold memP
  simp only [List.mem_map, List.mem_filter, List.mem_range, ofF_isSome]
  constructor
  · rintro ⟨a, ⟨h1, h2⟩, rfl⟩
    exact ⟨by omega, by omega, h2⟩
  · rintro ⟨h0, h1, h2⟩
    exact ⟨d.toNat, ⟨by omega, by rw [Int.toNat_of_nonneg h0]; exact h2⟩, Int.toNat_of_nonneg h0⟩
theorem memP_strict (t : List (Int × Int)) (k : Nat) : (memP t k).Pairwise (· < ·) := by
  unfold memP
  rw [List.pairwise_map]
  have h := (List.pairwise_lt_range (n := k)).filter fun d : Nat => (ofF t (512 + (d : Int))).isSome
  exact h.imp (fun h => by omega)
theorem memP_all (t : List (Int × Int)) : memP t 512 = memZ t :=
  strict_ext (memP_strict t 512) (memZ_strict t) (fun x => by rw [memP_mem, memZ_mem])

theorem row_low {w : World} {B B' : Nat} {e : TypeId} {size : Nat} {v : Value} {n : Nat} {xs : List Value} (h : w.ownsRow B e size v n xs) (hB : B' ≤ B) : w.ownsRow B' e size v n xs := by
  refine ⟨h.1, ?_⟩
  rcases h.2 with hn | ⟨g, cap, cur, hv, hb, rest⟩
  · exact .inl hn
  · exact .inr ⟨g, cap, cur, hv, Nat.le_trans hB hb, rest⟩
theorem row_below {w w' : World} {B n sz : Nat} {e : TypeId} {v : Value} {xs : List Value} (h : w.ownsRow B e sz v n xs) (hB : Below w.heap.size w w') : w'.ownsRow B e sz v n xs := by
  refine ⟨h.1, ?_⟩
  rcases h.2 with hn | ⟨g, cap, cur, rfl, hb, hgg, rest⟩
  · exact .inl hn
  · exact .inr ⟨g, cap, cur, rfl, hb, (hB.block g (Array.getElem?_eq_some_iff.1 hgg).1).trans hgg, rest⟩

set_option maxHeartbeats 1000000 in
theorem rmembers_ok (t : List (Int × Int)) (v : Value) (w : World) (ht : NodesAt w v t) (hl : t.length ≤ 1000000) :
    Calls Try.prog 20 #[.agg #[v]] w fun e w' => ∃ u, e = .returned u ∧ w'.ownsRow w.heap.size 3 1 u (memZ t).length ((memZ t).map (Value.int .i64)) ∧ Below w.heap.size w w' := by
  obtain ⟨i0, hi, hz0, hz1, hz2⟩ := info_parts info_i64
  have hb1 : Below w.heap.size w ((w.alloc (.cells #[v] 24)).alloc (.cells #[] 3)) := ((Below.refl _ w).alloc (Nat.le_refl _) _).alloc (by simp) _
  have HR0 : Hid (((w.alloc (.cells #[v] 24)).alloc (.cells #[] 3)).ownsRow (w.heap.size + 1) 3 1 (.slice (some ⟨w.heap.size + 1, 0, none⟩) 0 0) 0 []) := Lib.hid (by
    have h := World.ownsRow_lit (base := w.heap.size + 1) (size := 1) (e := 3) (w.alloc (.cells #[v] 24)) #[] 0 (by simp) (by unfold maxLen; omega) (by simp)
    rw [World.size_alloc] at h
    exact h)
  have HT := Lib.hid ht
  have HL := Lib.hid hl
  obtain ⟨W0, hW0⟩ : ∃ W0, W0 = (w.alloc (.cells #[v] 24)).alloc (.cells #[] 3) := ⟨_, rfl⟩
  have cb : W0.cell? ⟨w.heap.size, 0, none⟩ = some v := by
    rw [hW0]; unfold World.cell?; rw [Below.heap_alloc _ _ _ (by simp), World.alloc_heap_new]; rfl
  rw [← hW0] at HR0 hb1
  clear ht hl
  go_enter Try.func20, Try.ntmps20
  go_wp2_with fail
  rw [← hW0]
  have hs0 : W0.heap.size = w.heap.size + 2 := by rw [hW0]; simp
  have HB0 := Lib.hid hb1
  have HMA := Lib.hid (memP_all t)
  clear hW0 hb1
  go_loopw [3, 4] (fun u i wr => ∃ k : Nat, i = .int .i64 k ∧ k ≤ 512 ∧ Hid (wr.ownsRow (w.heap.size + 1) 3 1 u (memP t k).length ((memP t k).map (Value.int .i64))) ∧ Hid (Below w.heap.size w wr) ∧ wr.cell? ⟨w.heap.size, 0, none⟩ = some v ∧ w.heap.size < wr.heap.size) (fun _ i _ => 512 - (intOf i).toNat)
  case atStart => exact ⟨0, rfl, by omega, by rw [memP_zero]; exact HR0, HB0, cb, by omega⟩
  case round =>
    obtain ⟨k, rfl, hk, HR, HB, cbr, hsz⟩ := hrel
    clear cb hs0
    by_cases hlt : k < 512
    · have hd : decide ((k : Int) < 512) = true := by simp; omega
      have hd' : decide (k < 512) = true := by simp; omega
      have HPk := Lib.hid (rblank_ok t v (512 + (k : Int)) wr (HT.out.below HB.out) HL.out)
      obtain ⟨sb, hsb⟩ : ∃ sb, sb = (ofF t (512 + (k : Int))).isSome := ⟨_, rfl⟩
      rw [← hsb] at HPk
      have HS := Lib.hid (memP_succ t k)
      rw [← hsb] at HS
      have HDL := Lib.hid (memP_length t k)
      have hws := HB.out.size
      clear hsb
      go_wp2_with fail
      refine HPk.out.mono ?_
      rintro e w1 ⟨rfl, hB1⟩
      have HB1 := Lib.hid (HB.out.trans (hB1.mono HB.out.size))
      have HR1 := Lib.hid (row_below HR.out hB1)
      have cb1 := cellOld cbr (hB1.block _ hsz)
      have hs1 := hB1.size
      clear hB1 cbr HR HB HPk
      cases sb with
      | true =>
        have HCN := Lib.hid (cell_one_new w1 (.int .i64 k) 3)
        have HRa := Lib.hid (HR1.out.alloc (.cells #[.int .i64 k] 3))
        have HDL' := HDL.out
        go_wp2_with (at_builtin; refine wpList_append_own _ rfl _ _ 27 rfl (w.heap.size + 1) 3 i0 (.int .i64 0) 1 8 Try.underlying27 hi hz0 hz1 hz2 rfl (by decide) _ _ _ rfl HRa.out ⟨w1.heap.size, 0, none⟩ 1 1 [.int .i64 k] rfl rfl HCN.out (by simp [Value.oneCell']) (by unfold maxLen; omega) (by omega) (by simp; omega) ?_; intro v' w2 hown2 hgrow2 _)
        have HB2 := Lib.hid ((HB1.out.alloc HB1.out.size (.cells #[.int .i64 k] 3)).grown hgrow2 (by have := HB1.out.size; simp; omega) (fun j hj => by have := (HRa.out.lt j hj).1; omega))
        have cb2 : w2.cell? ⟨w.heap.size, 0, none⟩ = some v := by
          refine cellOld cb1 ?_
          rw [hgrow2.block w.heap.size (by simp; omega) (fun h => by have := (HRa.out.lt _ h.symm).1; omega)]
          exact Below.heap_alloc _ _ _ (by omega)
        have hs2 := hgrow2.size
        rw [World.size_alloc] at hs2
        refine ⟨⟨k + 1, by go_num, by omega, ?_, HB2, cb2, by omega⟩, by simp only [intOf]; omega⟩
        rw [HS.out, if_pos trivial, List.length_append, List.map_append]
        exact Lib.hid hown2
      | false =>
        go_wp2_with fail
        refine ⟨⟨k + 1, by go_num, by omega, ?_, HB1, cb1, by omega⟩, by simp only [intOf]; omega⟩
        rw [HS.out, if_neg (by decide), List.append_nil]
        exact HR1
    · have hd : decide ((k : Int) < 512) = false := by simp; omega
      have hd' : decide (k < 512) = false := by simp; omega
      obtain rfl : k = 512 := by omega
      go_wp2_with fail
      go_ret
      exact ⟨_, rfl, by rw [← HMA.out]; exact row_low HR.out (by omega), HB.out⟩
end Go.Proofs.Ytekdekchbnacgaa
