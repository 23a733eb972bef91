/- What a law's arguments are: arrays and slices of bytes; the tables out of the condition. -/
import Derived.Test.YtklaancgnfkjlaaDoorEe
import Derived.Test.YtklaancgnfkjlaaDoorCards
import Derived.Test.YtklaancgnfkjlaaDoorTie
import Derived.OpenShut
import Derived.ShutString
import Derived.ChangeOld
import Derived.Deep.DeepHandedRow
import Derived.MakeChecks
import Derived.Stop.LaidErr
namespace Go.Proofs.YtklaancgnfkjlaaDoor
open Go.RowKit Go.ChangeShapes Go.WideShapes Go.ChangeAt
set_option maxRecDepth 100000
set_option linter.unusedVariables false
set_option linter.unusedSimpArgs false

theorem v8_of {k : Int} (h : (Lit.int .u8 k).wf = true) : Value.int .u8 k = v8 (BitVec.ofNat 8 k.toNat) := by
  have hb : 0 ≤ k ∧ k < 256 := by
    simp [Lit.wf, IntKind.min, IntKind.max, IntKind.signed, IntKind.bits] at h
    omega
  show _ = Value.int .u8 ((BitVec.ofNat 8 k.toNat).toNat : Int)
  rw [BitVec.toNat_ofNat]
  congr 1
  omega
section
variable {P : Program} {H : Type} {enc : TypeId × Value → H} {W : World} {base : Nat} {sp : Nat → Bool} {held : Bool}
theorem open_arr8 {r : Reach} {b0 t e n : Nat} {v : Value} {d : DataW H} {p : List MemPlace} (ht : P.underlying t = some (.array n e)) (he : P.underlying e = some (.int .u8)) (hc : P.cellsOf e = 1) (hn : P.cellsOf t = n)
    (hv : Value.okWide P W r b0 t v) (h : DataW.Trod enc P W base sp held t v d p) : ∃ kb : List (BitVec 8), v = .agg (kb.map v8).toArray ∧ kb.length = n := by
  have hw : ∃ cs, v = .agg cs ∧ cs.size = P.cellsOf t := by
    unfold Value.okWide at hv
    rw [ht] at hv
    obtain ⟨cs, h1, h2, _⟩ := hv
    exact ⟨cs, h1, h2⟩
  obtain ⟨cs, rfl, hsz⟩ := hw
  rw [hn] at hsz
  obtain ⟨fuel, hf⟩ := h
  cases fuel with
  | zero => cases hf
  | succ fuel =>
    have hcs : (Value.agg cs).cells.toList = cs.toList := rfl
    rw [hcs] at hf
    unfold DataW.trod at hf
    rw [ht] at hf
    simp only [hn, hc, Nat.mul_one, Array.length_toList, hsz, if_true] at hf
    obtain ⟨xs, hm, -⟩ := Option.map_eq_some_iff.1 hf
    have each : ∀ i, i < n → ∃ k : Int, cs[i]? = some (.int .u8 k) ∧ (Lit.int .u8 k).wf = true := by
      intro i hi
      have hlen : i < xs.length := by rw [mapM_some_length hm]; simpa using hi
      have h1 := mapM_some_get hm i i (by simp [hi])
      rw [List.getElem?_eq_getElem hlen] at h1
      have hd : (cs.toList.drop i).take 1 = [cs[i]'(by omega)] := by
        rw [List.drop_eq_getElem_cons (by simp; omega)]
        simp
      rw [hd] at h1
      have hc2 : cs[i]? = some (cs[i]'(by omega)) := Array.getElem?_eq_getElem (by omega)
      rw [hc2]
      generalize cs[i]'(by omega) = x at h1 ⊢
      cases fuel with
      | zero => cases h1
      | succ fuel =>
        unfold DataW.trod at h1
        rw [he] at h1
        cases x <;> simp at h1
        case int k' z =>
          obtain ⟨⟨rfl, hw⟩, _⟩ := h1
          exact ⟨z, rfl, hw⟩
    refine ⟨cs.toList.map fun v => BitVec.ofNat 8 (intOf v).toNat, ?_, by simp [hsz]⟩
    congr 1
    apply Array.ext_getElem?
    intro i
    by_cases hi : i < n
    · obtain ⟨k, h1, h2⟩ := each i hi
      rw [h1, v8_of h2]
      simp [h1, intOf]
    · rw [Array.getElem?_eq_none (by omega)]
      symm
      simp
      omega
theorem open_bytes {r : Reach} {b0 t e : Nat} {v : Value} {d : DataW H} {p : List MemPlace} (ht : P.underlying t = some (.slice e)) (he : P.underlying e = some (.int .u8)) (hc : P.cellsOf e = 1)
    (hv : Value.okWide P W r b0 t v) (h : DataW.Trod enc P W base sp held t v d p) : ∃ l : List (BitVec 8), BytesAt W v l ∧ l.length ≤ maxLen := by
  obtain ⟨a1, len, cap, rfl⟩ := okWide_slice ht hv
  obtain ⟨fuel, hf⟩ := h
  rcases open_ints ht he hc hf with ⟨hcs, hx⟩ | ⟨a, len', cap', zs, hcs, _, hl, hm, hz, hx, hcell, hwz⟩
  · simp [Value.cells] at hcs
    obtain ⟨rfl, rfl, rfl⟩ := hcs
    exact ⟨[], ⟨none, 0, rfl, Nat.le_refl _, fun _ => rfl, fun h => by simp at h⟩, Nat.zero_le _⟩
  · simp [Value.cells] at hcs
    obtain ⟨rfl, rfl, rfl⟩ := hcs
    have hlz : len ≤ zs.length := by rw [hz]; split <;> omega
    have hll : ((zs.take len).map fun k => BitVec.ofNat 8 k.toNat).length = len := by simp; omega
    refine ⟨(zs.take len).map fun k => BitVec.ofNat 8 k.toNat, ⟨some a, cap, by rw [hll], by rw [hll]; exact hl, fun h => (by cases h), fun h0 => ?_⟩, by rw [hll]; omega⟩
    rw [hll] at h0
    obtain ⟨g, o, spot⟩ := a
    have hspot : spot = none := by
      have h := hcell 0 (by omega)
      simpa [Addr.add] using World.cell?_spot h
    subst hspot
    refine ⟨g, o, rfl, fun j hj => ?_⟩
    rw [hll] at hj
    have h := hcell j (by omega)
    rw [addr_add'] at h
    rw [h]
    have hj2 : j < zs.length := by omega
    have hw := hwz (zs.getD j 0) (by simp [List.getD, hj2])
    have e := v8_of hw
    rw [e]
    simp [List.getD, hj, hj2, v8]
end
theorem arrK {H : Type} {enc : TypeId × Value → H} {W : World} {base : Nat} {v : Value} {d : DataW H} {p : List MemPlace} (h : DataW.Trod enc Tryd.prog W 0 (fun _ => true) true 23 v d p) (hv : Value.okWide Tryd.prog W .any base 23 v) :
    ∃ kb : List (BitVec 8), v = .agg (kb.map v8).toArray ∧ kb.length = 32 := open_arr8 Tryd.underlying23 Tryd.underlying5 (by kernel_rfl) (by kernel_rfl) hv h
theorem arrN {H : Type} {enc : TypeId × Value → H} {W : World} {base : Nat} {v : Value} {d : DataW H} {p : List MemPlace} (h : DataW.Trod enc Tryd.prog W 0 (fun _ => true) true 25 v d p) (hv : Value.okWide Tryd.prog W .any base 25 v) :
    ∃ nb : List (BitVec 8), v = .agg (nb.map v8).toArray ∧ nb.length = 12 := open_arr8 Tryd.underlying25 Tryd.underlying5 (by kernel_rfl) (by kernel_rfl) hv h
theorem bytesIn {H : Type} {enc : TypeId × Value → H} {W : World} {base : Nat} {v : Value} {d : DataW H} {p : List MemPlace} (h : DataW.Trod enc Tryd.prog W 0 (fun _ => true) true 28 v d p) (hv : Value.okWide Tryd.prog W .any base 28 v) :
    ∃ l : List (BitVec 8), BytesAt W v l ∧ l.length ≤ maxLen := open_bytes Tryd.underlying28 Tryd.underlying5 (by kernel_rfl) hv h

/-- The tables, out of the row's condition. -/
theorem tabs_of {W : World} (h : laidMetH Tryd.prog [("chartroom/digest.start", Rows.laid_chartroom_digest_start), ("chartroom/digest.numbers", Rows.laid_chartroom_digest_numbers), ("chartroom/cipher.constants", Rows.laid_chartroom_cipher_constants)] W) : Tabs W := by
  have e1 : (Rows.laid_chartroom_digest_start : DataW Unit) = Lib.tabData .u32 (hNums.map fun x => (x.toNat : Int)) := by kernel_rfl
  have e2 : (Rows.laid_chartroom_digest_numbers : DataW Unit) = Lib.tabData .u32 (kNums.map fun x => (x.toNat : Int)) := by kernel_rfl
  have e3 : (Rows.laid_chartroom_cipher_constants : DataW Unit) = Lib.tabData .u32 [0x61707865, 0x3320646e, 0x79622d32, 0x6b206574] := by kernel_rfl
  rw [MakeChecks.laidMetH_plain _ _ _ (by kernel_rfl), e1, e2, e3] at h
  have h2 := h.tail
  have h3 := h2.tail
  exact ⟨Lib.tabIs_of_head (g := 2) (by kernel_rfl) (by kernel_rfl) Tryd.underlying75 Tryd.underlying46 (by kernel_rfl) (by kernel_rfl) h2,
    Lib.tabIs_of_head (g := 0) (by kernel_rfl) (by kernel_rfl) Tryd.underlying65 Tryd.underlying46 (by kernel_rfl) (by kernel_rfl) h,
    Lib.tabIs_of_head (g := 1) (by kernel_rfl) (by kernel_rfl) Tryd.underlying71 Tryd.underlying46 (by kernel_rfl) (by kernel_rfl) h3⟩
theorem bytes_take {W : World} {g o n c m : Nat} {a b : List (BitVec 8)} (h : BytesAt W (.slice (some ⟨g, o, none⟩) n c) (a ++ b)) (hm : a.length = m) : BytesAt W (.slice (some ⟨g, o, none⟩) m c) a := by
  obtain ⟨p, c', e, hc, hp, hcell⟩ := h
  obtain ⟨rfl, rfl, rfl⟩ : some ⟨g, o, none⟩ = p ∧ n = (a ++ b).length ∧ c = c' := by simpa using e
  rw [List.length_append] at hc
  refine ⟨some ⟨g, o, none⟩, c, by rw [hm], by omega, fun h => (by cases h), fun h0 => ⟨g, o, rfl, fun j hj => ?_⟩⟩
  obtain ⟨g', o', e', hg⟩ := hcell (by simp; omega)
  obtain ⟨rfl, rfl⟩ : g = g' ∧ o = o' := by simpa using e'
  rw [hg j (by simp; omega)]
  simp [List.getD, List.getElem?_append_left hj]
/-- A value that is a slice of n bytes with an address. -/
theorem bytes_form {W : World} {v : Value} {l : List (BitVec 8)} (h : BytesAt W v l) : ∃ p c, v = .slice p l.length c ∧ l.length ≤ c ∧ (0 < l.length → ∃ g o, p = some ⟨g, o, none⟩) := by
  obtain ⟨p, c, rfl, hc, hp, hcell⟩ := h
  exact ⟨p, c, rfl, hc, fun h0 => by obtain ⟨g, o, e, _⟩ := hcell h0; exact ⟨g, o, e⟩⟩
end Go.Proofs.YtklaancgnfkjlaaDoor
