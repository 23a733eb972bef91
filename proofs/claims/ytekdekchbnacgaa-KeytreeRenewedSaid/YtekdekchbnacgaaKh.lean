/- maps.Keys at a map of ints: its iterator. -/
import Derived.Test.YtekdekchbnacgaaKg
import Derived.Test.YtekdekchbnacgaaMp
import Derived.Lib.SlKeysI
import Derived.Sort.MapsRangeIn
import Derived.RegionIn
namespace Go.Proofs.Ytekdekchbnacgaa
open Go.RowKit Go.Shelf Go.Maps Go.Sort
attribute [local go_sem] Oper.semAt_some
set_option maxRecDepth 100000
set_option linter.unusedVariables false
set_option linter.unusedSimpArgs false

theorem ranges_blocks {H : Type} {w w' : World} {P : Program} {k : TypeId} {R : Value → Option (DataW H × List MemPlace)} {b r n : Nat} {D : DataW H} {left : Lit → Bool} {cnt : Nat} (h : w.ranges P k R b r n D left cnt) (hb : w'.heap[b]? = w.heap[b]?) (hr : w'.heap[r]? = w.heap[r]?) : w'.ranges P k R b r n D left cnt := by
  obtain ⟨es, clock, since, seen, c0, h1, h2, h3, h4, h5, h6⟩ := h
  exact ⟨es, clock, since, seen, c0, hb.trans h1, h2, h3, h4, hr.trans h5, h6⟩
theorem ranges_blt {H : Type} {w : World} {P : Program} {k : TypeId} {R : Value → Option (DataW H × List MemPlace)} {b r n : Nat} {D : DataW H} {left : Lit → Bool} {cnt : Nat} (h : w.ranges P k R b r n D left cnt) : b < w.heap.size ∧ r < w.heap.size := by
  obtain ⟨es, clock, since, seen, c0, h1, h2, h3, h4, h5, h6⟩ := h
  exact ⟨(Array.getElem?_eq_some_iff.1 h1).1, (Array.getElem?_eq_some_iff.1 h5).1⟩
theorem Turns.ofGrown {B0 : Nat} {Ψ : Nat → Prop} {A B : World} {row : Option Nat} (h : A.grownBy B row) (hr : ∀ k, row = some k → Ψ k) : Turns B0 Ψ A B :=
  ⟨h.os, h.tape, h.output, h.size, fun k hk hp => .inl (h.block k hk (fun e => hp (hr k e.symm)))⟩

theorem keys_any (mb : Option Nat) (w : World) :
    Calls Try.prog 66 #[.map mb] w fun e w' => e = .returned (.func (.func 84) #[] #[.pointer (some ⟨w.heap.size, 0, none⟩)]) ∧ w' = w.alloc (.cells #[.map mb] 59) := by
  go_enter Try.func66, Try.ntmps66
  go_wp2
  go_ret
  exact ⟨rfl, rfl⟩

/-- The keys of a map, each once. -/
def KeysOf (f : Int → Option Int) (xs : List Int) : Prop := xs.Nodup ∧ (∀ x ∈ xs, I64 x ∧ (f x).isSome = true) ∧ ∀ x, I64 x → (f x).isSome = true → x ∈ xs

set_option maxHeartbeats 1000000 in
theorem keys_iter (b nn Bm n₀ : Nat) (f : Int → Option Int) (w : World) (hb : KMap (intK Try.underlying3) 3 w b nn f) (hm : Boxed w Bm 59 (.map (some b))) (h1 : b < n₀) (h2 : Bm < n₀) :
    IterC Try.prog 84 #[.pointer (some ⟨Bm, 0, none⟩)] (fun x : Int => #[.int .i64 x]) (fun _ => False) n₀ (KeysOf f) (fun _ => True) (fun ys => ys.length ≤ nn) w := by
  intro l J Jx W hW hJ hJx hY h0
  have hbW : Boxed W Bm 59 (.map (some b)) := (hW.block Bm hm.lt).trans hm
  obtain ⟨D, hown0, hD⟩ := hb.of_block (hW.block b hb.lt)
  have hown := hown0
  have hsz := hown.size_le
  have HD := Lib.hid hD
  clear hD
  have hc := hbW.cell
  refine (callsIn_wide (n := 0)).1 ?_
  refine callsIn_of_wp Try.func84 rfl trivial ?_ rfl
  simp only [Try.ntmps84, List.size_toArray, List.length_cons, List.length_nil, Nat.reduceAdd, Nat.reduceSub, Array.replicate_succ, Array.replicate_zero, List.push_toArray, List.append_toArray, List.nil_append, List.cons_append]
  gi_wp2_with (first
    | (gi_at_range; refine wpListIn_range_own _ rfl _ 59 rfl 3 3 (int_keyed Try.underlying3) Try.underlying59 _ b nn _ rfl hown ?_; intro w0 hrg0 hg0 hs0)
    | gi_in)
  have HJ := Lib.hid hJ
  have HY := Lib.hid hY
  have hT0 : J [] (fun k => k = W.heap.size) w0 := hJ [] _ _ W w0 h0 (Turns.ofGrown hg0 (fun k e => by cases e)) (fun _ h => h.elim) (fun k e => .inr (by omega))
  have HS0 : Hid (W.heap.size + 1 = w0.heap.size) := Lib.hid hs0.symm
  have hle0 : W.heap.size < w0.heap.size := by omega
  have hbl := (ranges_blt hrg0).1
  have hblk : ∀ k, k < W.heap.size → w0.heap[k]? = W.heap[k]? := fun k hk => hg0.block k hk (by simp)
  have hbw : b < W.heap.size := hown0.lt
  clear hJ hY hs0 hg0 hc hown
  gi_loopw [3] (fun _ wr => ∃ (left : Lit → Bool) (cnt : Nat) (ss : List Int), wr.ranges Try.prog 3 (plainElem Try.prog 3) b W.heap.size nn D left cnt ∧ CollectedI D left ss ∧ ss.length + cnt ≤ nn ∧ J ss (fun k => k = W.heap.size) wr ∧ W.heap.size < wr.heap.size)
    (fun _ wr => wr.rangeLeft b W.heap.size)
  case atStart =>
    exact ⟨_, _, [], hrg0, CollectedI.start D, by simpa using hsz, hT0, hle0⟩
  case round =>
    obtain ⟨left, cnt, ss, hrg, hC, hcn, hJs, hszr⟩ := hrel
    gi_wp2_with (first
      | (gi_at_next; refine wpListIn_next_ranges _ rfl _ rfl 3 (int_keyed Try.underlying3) (plainElem Try.prog 3) encZ id (fun key kl hk => by obtain ⟨x, hx, _⟩ := Maps.keyOf_i64 Try.underlying3 hk; exact ⟨x, hx⟩) (fun v _ _ => ⟨v, rfl⟩) b W.heap.size nn _ _ _ rfl hrg ?_ ?_)
      | gi_in)
    · intro hc0 hl0
      gi_wp2
      refine bodyPost_end (results_none rfl _ _ _) rfl ?_
      refine ⟨⟨_, rfl⟩, .inl ⟨ss, _, ?_, hJs⟩⟩
      refine ⟨hC.1, fun x hx => ?_, fun x hx hf => ?_⟩
      · have h := ((hC.2 x).1 hx).1
        have hwf : I64 x := by
          obtain ⟨es, rfl, hko⟩ := hrg.owns.keysOf
          rw [has_eq, List.any_eq_true] at h
          obtain ⟨p, hp, hs⟩ := h
          obtain ⟨v, hv⟩ := hko p hp
          obtain ⟨y, _, hy, hl⟩ := Maps.keyOf_i64 Try.underlying3 hv
          have e := WideAt.sameKey_eq hs
          rw [e] at hy
          have : x = y := by injection hy
          rw [this]; exact hl
        exact ⟨hwf, by rw [← (HD.out x hwf).1]; exact h⟩
      · exact (hC.2 x).2 ⟨by rw [(HD.out x hx).1]; exact hf, hl0 _⟩
    · intro x c kl yd yp w2 cnt2 hkey hlk hv hat hrg2 hlt hg2 hs2 hen
      obtain ⟨x', ex, rfl, _⟩ := Maps.keyOf_i64 Try.underlying3 hkey
      obtain rfl : x = x' := encZ_inj ex
      have hJ2 : J ss (fun k => k = W.heap.size) w2 := HJ.out ss _ _ wr w2 hJs (Turns.ofGrown hg2 (fun k e => by cases e; rfl)) (fun _ h => h) (fun _ h => .inl h)
      have hsz2 : W.heap.size < w2.heap.size := by omega
      have hl2 : (ss ++ [x]).length ≤ nn := by simp; omega
      obtain ⟨fn, tmps, assign, body, hy, hR⟩ := HY.out ss x _ w2 hJ2 (fun k e => by omega) hl2
      clear hs2
      gi_wp2
      refine ⟨rfl, hR.mono ?_⟩
      rintro e W3 (⟨rfl, hJ3, hB3, hk3⟩ | ⟨rfl, hJx3, hB3, hk3⟩)
      · have hrg3 := ranges_blocks hrg2 (hB3.block b h1) (hk3 _ rfl)
        have hsz3 : W.heap.size < W3.heap.size := by have := hB3.size; omega
        clear hk3 hB3 hR hy
        gi_wp2
        go_roundw
        case rel => exact ⟨_, cnt2, ss ++ [x], hrg3, hC.step hlk hat, by simp; omega, hJ3, hsz3⟩
        case measure => rw [hrg3.left_eq, hrg.left_eq]; exact hlt
      · gi_wp2
        refine bodyPost_ret (results_none rfl _ _ _) rfl ?_
        exact ⟨⟨_, rfl⟩, .inr ⟨_, _, trivial, hJx3⟩⟩
end Go.Proofs.Ytekdekchbnacgaa
