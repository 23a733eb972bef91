/- The reference: Public. -/
import Derived.Test.YtekdekchbnacgaaKl
namespace Go.Proofs.Ytekdekchbnacgaa
open Go.RowKit
set_option maxRecDepth 100000
set_option linter.unusedVariables false
set_option linter.unusedSimpArgs false

theorem ofF_take_none {t : List (Int × Int)} {x : Int} {k : Nat} {a q : Int} (h : ∀ e ∈ t.take k, e.1 ≠ x) (ht : t.take (k + 1) = t.take k ++ [(a, q)]) (ha : a ≠ x) : ∀ e ∈ t.take (k + 1), e.1 ≠ x := by
  intro e he
  rw [ht] at he
  rcases List.mem_append.1 he with h1 | h1
  · exact h e h1
  · rw [List.mem_singleton.1 h1]; exact ha
theorem ofF_none {t : List (Int × Int)} {x : Int} (h : ∀ e ∈ t, e.1 ≠ x) : ofF t x = none := by
  unfold ofF
  rw [List.find?_eq_none.2 (fun y hy => by simpa using h y hy)]
  rfl
theorem ofF_at {t : List (Int × Int)} {x : Int} {k : Nat} {q : Int} (h : ∀ e ∈ t.take k, e.1 ≠ x) (ht : t.take (k + 1) = t.take k ++ [(x, q)]) : ofF t x = some q := by
  have e : t = t.take k ++ ((x, q) :: t.drop (k + 1)) := by
    have := List.take_append_drop (k + 1) t
    rw [ht, List.append_assoc] at this
    exact this.symm
  unfold ofF
  rw [e, List.find?_append, List.find?_eq_none.2 (fun y hy => by simpa using h y hy)]
  simp

set_option maxHeartbeats 1000000 in
theorem rpublic_ok (t : List (Int × Int)) (v : Value) (x : Int) (w : World) (ht : NodesAt w v t) (hl : t.length ≤ 1000000) :
    Calls Try.prog 15 #[.agg #[v], .int .i64 x] w fun e w' => e = .returned (.tuple #[.int .i64 ((ofF t x).getD 0), .bool (ofF t x).isSome]) ∧ Below w.heap.size w w' := by
  have hb1 : Below w.heap.size w (w.alloc (.cells #[v] 24)) := (Below.refl _ w).alloc (Nat.le_refl _) _
  obtain ⟨p, c, rfl, hc, -, hcell, hwf⟩ := ht
  have HC := Lib.hid hcell
  have HWF := Lib.hid hwf
  have hbx : Boxed (w.alloc (.cells #[.slice p t.length c] 24)) w.heap.size 24 (.slice p t.length c) := World.alloc_heap_new w _
  have hs0 : w.heap.size < (w.alloc (.cells #[.slice p t.length c] 24)).heap.size := by simp
  obtain ⟨W0, hW0⟩ : ∃ W0, W0 = w.alloc (.cells #[.slice p t.length c] 24) := ⟨_, rfl⟩
  clear hcell hwf
  go_enter Try.func15, Try.ntmps15
  go_wp2_with fail
  rw [← hW0] at hbx hs0 hb1 ⊢
  have HB0 := Lib.hid hb1
  obtain ⟨n, hn⟩ : ∃ n, n = t.length := ⟨_, rfl⟩
  have HN := Lib.hid hn
  rw [← hn] at hc hl hbx ⊢
  have cb := hbx.cell
  have cf := hbx.frozen
  clear hW0 hb1 hn hbx
  go_loopw [6] (fun i wr => ∃ k : Nat, i = .int .i64 k ∧ k ≤ n ∧ Hid (∀ e ∈ t.take k, e.1 ≠ x) ∧ wr = W0) (fun i _ => n - (intOf i).toNat)
  case atStart => exact ⟨0, rfl, Nat.zero_le _, Lib.hid (fun e h => by simp at h), rfl⟩
  case round =>
    obtain ⟨k, rfl, hk, HG, rfl⟩ := hrel
    by_cases hlt : k < n
    · have hd : decide ((k : Int) < (n : Int)) = true := by simp; omega
      have hd' : decide (k < n) = true := by simp; omega
      obtain ⟨g, o, rfl, hcs⟩ := HC.out (by rw [← HN.out]; omega)
      obtain ⟨a, q, c1, c2, -, -, -, ht, -⟩ := node_at hcs HWF.out (by rw [← HN.out]; exact hlt) HB0.out
      have HT := Lib.hid ht
      clear hcs ht
      by_cases h1 : a = x
      · subst h1
        have HF := Lib.hid (ofF_at HG.out HT.out)
        go_wp2_with fail
        go_ret2
        exact ⟨by rw [HF.out]; rfl, HB0.out⟩
      · have hd1 : decide (a = x) = false := by simp; omega
        have hd2 : (a == x) = false := by simp; omega
        have HG2 := Lib.hid (ofF_take_none HG.out HT.out h1)
        clear h1
        go_wp2_with fail
        exact ⟨⟨k + 1, by go_num, by omega, HG2, by trivial⟩, by simp only [intOf]; omega⟩
    · have hd : decide ((k : Int) < (n : Int)) = false := by simp; omega
      have hd' : decide (k < n) = false := by simp; omega
      obtain rfl : k = n := by omega
      have HF : Hid (ofF t x = none) := Lib.hid (ofF_none (by have h := HG.out; rw [List.take_of_length_le (by rw [← HN.out]; exact Nat.le_refl _)] at h; exact h))
      go_wp2_with fail
      go_ret2
      exact ⟨by rw [HF.out]; rfl, HB0.out⟩
end Go.Proofs.Ytekdekchbnacgaa
