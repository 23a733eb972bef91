/- bytes.Equal; strings of bytes. -/
import Derived.Test.YtklaancgnfkjlaaDoorCf
import Derived.Shelf.Bytes.SlEqualAll
namespace Go.Proofs.YtklaancgnfkjlaaDoor
open Go.RowKit
set_option maxRecDepth 100000
set_option maxHeartbeats 4000000
set_option linter.unusedVariables false
set_option linter.unusedSimpArgs false

def numsB (l : List (BitVec 8)) : List Int := l.map fun b => (b.toNat : Int)
theorem numsB_length (l) : (numsB l).length = l.length := by simp [numsB]
def strB (l : List (BitVec 8)) : ByteArray := strOfNums (numsB l)
theorem map_inj {α β : Type} {f : α → β} (hf : ∀ a b, f a = f b → a = b) : ∀ (l m : List α), l.map f = m.map f → l = m
  | [], [], _ => rfl
  | [], _ :: _, h => by simp at h
  | _ :: _, [], h => by simp at h
  | a :: l, b :: m, h => by
    simp only [List.map_cons, List.cons.injEq] at h
    rw [hf a b h.1, map_inj hf l m h.2]
theorem strB_inj {l m : List (BitVec 8)} (h : (strB l).toList = (strB m).toList) : l = m := by
  have h2 : Lib.bytesOf (numsB l) = Lib.bytesOf (numsB m) := by
    rw [← Lib.strOfNums_toList, ← Lib.strOfNums_toList]
    exact h
  unfold Lib.bytesOf numsB at h2
  rw [List.map_map, List.map_map] at h2
  refine map_inj ?_ l m h2
  intro a b hab
  have h3 : UInt8.ofNat a.toNat = UInt8.ofNat b.toNat := by simpa using hab
  have h4 := congrArg UInt8.toNat h3
  have ha := a.isLt
  have hb := b.isLt
  simp at h4
  apply BitVec.eq_of_toNat_eq
  omega
theorem conv_ok {w : World} {v : Value} {l : List (BitVec 8)} (h : BytesAt w v l) : (convert 28 9 v).run Tryd.prog w = .ok (.string (strB l)) w := by
  obtain ⟨p, c, rfl, hc, hp, hcell⟩ := h
  refine Lib.BytesIn.convert (xs := numsB l) ?_ (numsB_length l) c _ 5 _ Tryd.underlying28 Tryd.underlying5 Tryd.underlying9
  rcases Nat.eq_zero_or_pos l.length with h0 | h0
  · rw [h0]
    exact Lib.BytesIn.nil _ _ _
  · obtain ⟨g, o, rfl, hg⟩ := hcell h0
    refine Lib.BytesIn.of_cells fun i hi => ?_
    have hadd : (⟨g, o, none⟩ : Addr).add i = ⟨g, o + i, none⟩ := by unfold Addr.add; split <;> simp_all
    rw [hadd, hg i hi]
    simp [numsB, hi, List.getD]

theorem equal_ok (v u : Value) (l m : List (BitVec 8)) (w : World) (hv : BytesAt w v l) (hu : BytesAt w u m) :
    Calls Tryd.prog 27 #[v, u] w fun e w' => e = .returned (.bool (decide (l = m))) ∧ w = w' := by
  have c1 := conv_ok hv
  have c2 := conv_ok hu
  have hd : ((strB l).toList == (strB m).toList) = decide (l = m) := by
    by_cases h : l = m
    · subst h; simp
    · have h2 : (strB l).toList ≠ (strB m).toList := fun e => h (strB_inj e)
      simp only [h, decide_false, beq_eq_false_iff_ne, ne_eq]
      exact h2
  generalize decide (l = m) = D at hd ⊢
  clear hv hu
  generalize strB l = s1 at c1 hd
  generalize strB m = s2 at c2 hd
  go_enter Tryd.func27, Tryd.ntmps27
  go_wp2
  go_ret
  exact ⟨rfl, rfl⟩
end Go.Proofs.YtklaancgnfkjlaaDoor
