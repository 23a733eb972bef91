/- Package keytree: Public; ints as they lie; the set of used nodes. -/
import Derived.Test.YtekdekchbnacgaaKk
namespace Go.Proofs.Ytekdekchbnacgaa
open Go.RowKit
set_option maxRecDepth 100000
set_option linter.unusedVariables false
set_option linter.unusedSimpArgs false

theorem public_ok (t : List (Int × Int)) (v : Value) (x : Int) (w : World) (ht : NodesAt w v t) (hl : t.length ≤ 1000000) (hx : I64 x) :
    Calls Try.prog 14 #[.agg #[v], .int .i64 x] w fun e w' => e = .returned (.tuple #[.int .i64 ((ofF t x).getD 0), .bool (ofF t x).isSome]) ∧ Below w.heap.size w w' := by
  have hb1 : Below w.heap.size w (w.alloc (.cells #[v] 24)) := (Below.refl _ w).alloc (Nat.le_refl _) _
  have HO := Lib.hid (of_ok t v (w.alloc (.cells #[v] 24)) (ht.below hb1) hl)
  obtain ⟨p, c, rfl, -, -, -, -⟩ := ht
  have HX := Lib.hid hx
  have HB1 := Lib.hid hb1
  obtain ⟨f, hf⟩ : ∃ f, ofF t x = f := ⟨_, rfl⟩
  rw [hf]
  have HF := Lib.hid hf
  clear hx hb1 hf
  go_enter Try.func14, Try.ntmps14
  go_wp2_with fail
  refine HO.out.mono ?_
  rintro e w1 ⟨b, rfl, hbl, hM, hB⟩
  have HM := Lib.hid hM
  have HB := Lib.hid (HB1.out.trans (hB.mono HB1.out.size))
  clear hM hB hbl
  go_wp2_with (at_lookup; refine wpList_look_ok (he := Try.underlying3) rfl _ _ 59 rfl Try.underlying3 Try.underlying59 (zero_int _) b t.length _ rfl HM.out x rfl HX.out ?_; rw [HF.out])
  go_ret2
  exact ⟨rfl, HB.out⟩

theorem ints_form {w : World} {B : Nat} {v : Value} {l : List Int} (h : w.ownsRow B 3 1 v l.length (l.map (Value.int .i64))) :
    ∃ p c, v = .slice p l.length c ∧ l.length ≤ c ∧ (0 < l.length → ∃ g, p = some ⟨g, 0, none⟩ ∧ B ≤ g ∧ g < w.heap.size ∧ ∀ j, j < l.length → w.cell? ⟨g, j, none⟩ = some (.int .i64 (l.getD j 0))) := by
  rcases h.2 with ⟨rfl, hn⟩ | ⟨g, cap, cur, rfl, hb, hg, h1, h2, h3, h4⟩
  · exact ⟨none, 0, by rw [hn], by omega, fun h => by omega⟩
  · refine ⟨_, cap, rfl, h1, fun _ => ⟨g, rfl, hb, (Array.getElem?_eq_some_iff.1 hg).1, fun j hj => ?_⟩⟩
    have e := congrArg (fun z : List Value => z[j]?) h4
    simp only [Nat.mul_one] at e
    rw [List.getElem?_take_of_lt hj] at e
    unfold World.cell?
    rw [hg]
    simp only [Option.isSome_none, Bool.false_eq_true, if_false]
    rw [← Array.getElem?_toList, e]
    simp [List.getD, hj]

/-- A set of numbers. -/
def setF (L : List Int) (y : Int) : Option Bool := if y ∈ L then some true else none
theorem setF_put (L : List Int) (z : Int) : (fun y => if y = z then some true else setF L y) = setF (L ++ [z]) := by
  funext y
  unfold setF
  by_cases h : y = z
  · simp [h]
  · simp [h]
/-- What is above a leaf of a device, and the leaf. -/
def pathZ (d : Int) : List Int := (pathN d.toNat).map fun n : Nat => (n : Int)
def usedL (ms : List Int) : List Int := ms.flatMap fun d => (512 + d) :: pathZ d
theorem usedL_snoc (ms : List Int) (d : Int) : usedL (ms ++ [d]) = (usedL ms ++ [512 + d]) ++ pathZ d := by
  simp [usedL, List.flatMap_append]
theorem pathZ_length (d : Int) (h0 : 0 ≤ d) (h1 : d < 512) : (pathZ d).length = 9 := by
  unfold pathZ pathN
  rw [List.length_map, List.length_map, upL_nine _ (by omega)]
theorem pathZ_bd (d : Int) (h0 : 0 ≤ d) (h1 : d < 512) : ∀ x ∈ pathZ d, 0 ≤ x ∧ x < 1024 := by
  intro x hx
  unfold pathZ pathN at hx
  simp only [List.mem_map] at hx
  obtain ⟨n, ⟨m, hm, rfl⟩, rfl⟩ := hx
  have := upL_le 10 (512 + d.toNat) m hm
  unfold parN
  omega
theorem path_z (d : Int) (h0 : 0 ≤ d) (h1 : d < 512) (w : World) :
    Calls Try.prog 29 #[.int .i64 d] w fun e w' => ∃ v, e = .returned (.tuple #[v, .int .i64 0]) ∧ w'.ownsRow w.heap.size 3 1 v (pathZ d).length ((pathZ d).map (Value.int .i64)) ∧ Below w.heap.size w w' := by
  obtain ⟨n, rfl⟩ := Int.eq_ofNat_of_zero_le h0
  refine (path_ok n (by omega) w).mono ?_
  rintro e w' ⟨v, rfl, hr, hB⟩
  refine ⟨v, rfl, ?_, hB⟩
  rw [pathZ_length _ h0 h1]
  have e : iv (pathN n) = (pathZ (n : Int)).map (Value.int .i64) := by simp [iv, pathZ, Function.comp_def]
  rw [← e]
  exact hr
end Go.Proofs.Ytekdekchbnacgaa
