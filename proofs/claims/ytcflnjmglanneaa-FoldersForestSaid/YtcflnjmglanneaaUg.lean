/- Folders: maps.Keys, slices.Sorted; the program's Tree. -/
import Derived.Test.YtcflnjmglanneaaUf
import Derived.Test.YtcflnjmglanneaaTt
import Derived.RegionIn
namespace Go.Proofs.Ytcflnjmglanneaa
open Go.RowKit Go.Maps Go.Sort
attribute [local go_sem] Oper.semAt_some
set_option maxRecDepth 100000
set_option linter.unusedVariables false
set_option linter.unusedSimpArgs false

theorem Turns.ofGrown {B0 : Nat} {Ψ : Nat → Prop} {A B : World} {row : Option Nat} (h : A.grownBy B row) (hr : ∀ k, row = some k → Ψ k) : Turns B0 Ψ A B :=
  ⟨h.os, h.tape, h.output, h.size, fun k hk hp => .inl (h.block k hk (fun e => hp (hr k e.symm)))⟩

theorem keys_any (mb : Option Nat) (w : World) :
    Calls Try.prog 29 #[.map mb] w fun e w' => e = .returned (.func (.func 49) #[] #[.pointer (some ⟨w.heap.size, 0, none⟩)]) ∧ w' = w.alloc (.cells #[.map mb] 48) := by
  go_enter Try.func29, Try.ntmps29
  go_wp2
  go_ret
  exact ⟨rfl, rfl⟩

/-- The keys of a map, each once. -/
def KeysOf (f : Int → Option Pl) (xs : List Int) : Prop := xs.Nodup ∧ (∀ x ∈ xs, I64 x ∧ (f x).isSome = true) ∧ ∀ x, I64 x → (f x).isSome = true → x ∈ xs

set_option maxHeartbeats 1000000 in
theorem keys_iter (b nn Bm n₀ : Nat) (f : Int → Option Pl) (w : World) (hb : MapP w b nn f) (hm : Boxed w Bm 48 (.map (some b))) (h1 : b < n₀) (h2 : Bm < n₀) :
    IterC Try.prog 49 #[.pointer (some ⟨Bm, 0, none⟩)] (fun x : Int => #[.int .i64 x]) (fun _ => False) n₀ (KeysOf f) (fun _ => True) (fun ys => ys.length ≤ nn) w := by
  intro l J Jx W hW hJ hJx hY h0
  have hbW : Boxed W Bm 48 (.map (some b)) := (hW.block Bm hm.lt).trans hm
  obtain ⟨D, hown0, hD⟩ := SMap.of_block hb (hW.block b (SMap.lt hb))
  have hown := hown0
  have hsz := hown.size_le
  have HD := Lib.hid hD
  clear hD
  have hc := hbW.cell
  refine (callsIn_wide (n := 0)).1 ?_
  refine callsIn_of_wp Try.func49 rfl trivial ?_ rfl
  simp only [Try.ntmps49, List.size_toArray, List.length_cons, List.length_nil, Nat.reduceAdd, Nat.reduceSub, Array.replicate_succ, Array.replicate_zero, List.push_toArray, List.append_toArray, List.nil_append, List.cons_append]
  gi_wp2_with (first
    | (gi_at_range; refine wpListIn_range_own _ rfl _ 48 rfl 3 24 (int_keyed Try.underlying3) Try.underlying48 _ b nn _ rfl hown ?_; intro w0 hrg0 hg0 hs0)
    | gi_in)
  have HJ := Lib.hid hJ
  have HY := Lib.hid hY
  have hT0 : J [] (fun k => k = W.heap.size) w0 := hJ [] _ _ W w0 h0 (Turns.ofGrown hg0 (fun k e => by cases e)) (fun _ h => h.elim) (fun k e => .inr (by omega))
  have HS0 : Hid (W.heap.size + 1 = w0.heap.size) := Lib.hid hs0.symm
  have hle0 : W.heap.size < w0.heap.size := by omega
  have hbl := (ranges_blt hrg0).1
  have hblk : ∀ k, k < W.heap.size → w0.heap[k]? = W.heap[k]? := fun k hk => hg0.block k hk (by simp)
  have hbw : b < W.heap.size := hown0.lt
  clear hJ hY hs0 hg0 hc hown
  gi_loopw [3] (fun _ wr => ∃ (left : Lit → Bool) (cnt : Nat) (ss : List Int), wr.ranges Try.prog 3 KP.rd b W.heap.size nn D left cnt ∧ CollectedI D left ss ∧ ss.length + cnt ≤ nn ∧ J ss (fun k => k = W.heap.size) wr ∧ W.heap.size < wr.heap.size)
    (fun _ wr => wr.rangeLeft b W.heap.size)
  case atStart =>
    exact ⟨_, _, [], hrg0, CollectedI.start D, by simpa using hsz, hT0, hle0⟩
  case round =>
    obtain ⟨left, cnt, ss, hrg, hC, hcn, hJs, hszr⟩ := hrel
    gi_wp2_with (first
      | (gi_at_next; refine wpListIn_next_ranges _ rfl _ rfl 3 (int_keyed Try.underlying3) KP.rd encZ KP.ev (fun key kl hk => by obtain ⟨x, hx, _⟩ := Maps.keyOf_i64 Try.underlying3 hk; exact ⟨x, hx⟩) (fun v y hv => by obtain ⟨z, hz, _⟩ := KP.inv v y hv; exact ⟨z, hz⟩) b W.heap.size nn _ _ _ rfl hrg ?_ ?_)
      | gi_in)
    · intro hc0 hl0
      gi_wp2
      refine bodyPost_end (results_none rfl _ _ _) rfl ?_
      refine ⟨⟨_, rfl⟩, .inl ⟨ss, _, ?_, hJs⟩⟩
      refine ⟨hC.1, fun x hx => ?_, fun x hx hf => ?_⟩
      · have h := ((hC.2 x).1 hx).1
        have hwf : I64 x := by
          obtain ⟨es, rfl, hko⟩ := hrg.owns.keysOf
          rw [has_eq, List.any_eq_true] at h
          obtain ⟨p, hp, hs⟩ := h
          obtain ⟨v, hv⟩ := hko p hp
          obtain ⟨y, _, hy, hl⟩ := Maps.keyOf_i64 Try.underlying3 hv
          have e := WideAt.sameKey_eq hs
          rw [e] at hy
          have : x = y := by injection hy
          rw [this]; exact hl
        exact ⟨hwf, by rw [← (HD.out x hwf).1]; exact h⟩
      · exact (hC.2 x).2 ⟨by rw [(HD.out x hx).1]; exact hf, hl0 _⟩
    · intro x c kl yd yp w2 cnt2 hkey hlk hv hat hrg2 hlt hg2 hs2 hen
      obtain ⟨x', ex, rfl, _⟩ := Maps.keyOf_i64 Try.underlying3 hkey
      obtain rfl : x = x' := encZ_inj ex
      have hJ2 : J ss (fun k => k = W.heap.size) w2 := HJ.out ss _ _ wr w2 hJs (Turns.ofGrown hg2 (fun k e => by cases e; rfl)) (fun _ h => h) (fun _ h => .inl h)
      have hsz2 : W.heap.size < w2.heap.size := by omega
      have hl2 : (ss ++ [x]).length ≤ nn := by simp; omega
      obtain ⟨fn, tmps, assign, body, hy, hR⟩ := HY.out ss x _ w2 hJ2 (fun k e => by omega) hl2
      clear hs2
      gi_wp2
      refine ⟨rfl, hR.mono ?_⟩
      rintro e W3 (⟨rfl, hJ3, hB3, hk3⟩ | ⟨rfl, hJx3, hB3, hk3⟩)
      · have hrg3 := ranges_blocks hrg2 (hB3.block b h1) (hk3 _ rfl)
        have hsz3 : W.heap.size < W3.heap.size := by have := hB3.size; omega
        clear hk3 hB3 hR hy
        gi_wp2
        go_roundw
        case rel => exact ⟨_, cnt2, ss ++ [x], hrg3, hC.step hlk hat, by simp; omega, hJ3, hsz3⟩
        case measure => rw [hrg3.left_eq, hrg.left_eq]; exact hlt
      · gi_wp2
        refine bodyPost_ret (results_none rfl _ _ _) rfl ?_
        exact ⟨⟨_, rfl⟩, .inr ⟨_, _, trivial, hJx3⟩⟩
/-- slices.Sort at a slice that owns its row. -/
theorem sort_row (v : Value) (xs : List Int) (base nb : Nat) (w : World) (h : w.ownsRow base 3 1 v xs.length (xs.map (Value.int .i64))) (hb : nb ≤ base) (hl : xs.length ≤ 1000000) :
    Calls Try.prog 34 #[v] w fun e w' => e = .returned (.tuple #[]) ∧ w'.ownsRow base 3 1 v xs.length ((xs.mergeSort leI).map (Value.int .i64)) ∧ Below nb w w' := by
  rcases h.2 with ⟨rfl, hn⟩ | ⟨g, cap, cur, rfl, hbase, hg, h1, h2, h3, h4⟩
  · refine (Tryx.slices_Sort_int_none none 0 w).mono ?_
    rintro e w' ⟨rfl, rfl⟩
    have : xs = [] := List.eq_nil_of_length_eq_zero hn
    subst this
    exact ⟨rfl, by simpa using h, Below.refl _ _⟩
  · refine (Tryx.slices_Sort_int g 0 cap xs w (holds_of_block_i hg (by simpa using h4)) (Array.getElem?_eq_some_iff.1 hg).1 (by omega)).mono ?_
    rintro e w' ⟨rfl, n, os, rfl⟩
    exact ⟨rfl, ownsRow_sorted_i (by simp) hbase hg h1 h2 h3, (Below.refl nb w).grown (grownBy_sorted_i _) (by have := (Array.getElem?_eq_some_iff.1 hg).1; omega) (fun k e => by cases e; omega)⟩

set_option maxHeartbeats 1000000 in
theorem sorted_ok {gf : Nat} {lb : Array Value} (eg : ∀ args w, (callFunc gf args).run Try.prog w = .ok (.enter gf args) w) {Ψ0 : Nat → Prop} {n₀ : Nat} {S Sp V : List Int → Prop} {w : World}
    (hit : IterC Try.prog gf lb (fun x : Int => #[.int .i64 x]) Ψ0 n₀ S Sp V w) (hn₀ : n₀ ≤ w.heap.size) (hΨ0 : ∀ k, Ψ0 k → k < w.heap.size) (hV : ∀ ys, V ys → ys.length ≤ 1000000) (hS : ∀ xs, S xs → xs.length ≤ 1000000) (nb : Nat) (hnb : nb ≤ w.heap.size) (hΨn : ∀ k, Ψ0 k → nb ≤ k) :
    Calls Try.prog 28 #[.func (.func gf) #[] lb] w fun e w' => ∃ v xs, e = .returned v ∧ S xs ∧ w'.ownsRow w.heap.size 3 1 v xs.length ((xs.mergeSort leI).map (Value.int .i64)) ∧ Below nb w w' := by
  have HA := Lib.hid (collect_ok eg hit hn₀ hΨ0 hV nb hnb hΨn)
  have HS := Lib.hid hS
  clear eg hit hn₀ hΨ0 hV hΨn hS
  go_enter Try.func28, Try.ntmps28
  go_wp2_with fail
  refine HA.out.mono ?_
  rintro e w1 ⟨v, xs, rfl, hS, hrow, hB⟩
  have HSO := Lib.hid (sort_row v xs w.heap.size nb w1 hrow hnb (HS.out xs hS))
  have HB := Lib.hid hB
  clear hrow hB
  go_wp2_with fail
  refine HSO.out.mono ?_
  rintro e w2 ⟨rfl, hrow2, hB2⟩
  have HR2 := Lib.hid hrow2
  have HB2 := Lib.hid hB2
  clear hrow2 hB2
  go_wp2
  go_ret
  exact ⟨v, xs, rfl, hS, HR2.out, HB.out.trans HB2.out⟩

theorem keys_tree {T : List Pl} {L : Int → Nat} (h : Frst T L) {xs : List Int} (hk : KeysOf (placeT T) xs) : xs.mergeSort leI = T.map Pl.f := by
  have hs : (T.map Pl.f).Pairwise (fun a b => a < b) := List.pairwise_map.2 h.sort
  have hp : xs.Perm (T.map Pl.f) := by
    refine (List.perm_ext_iff_of_nodup hk.1 (hs.imp fun h => Int.ne_of_lt h)).2 fun x => ?_
    constructor
    · intro hx
      obtain ⟨e, he⟩ := Option.isSome_iff_exists.1 (hk.2.1 x hx).2
      obtain ⟨m1, rfl⟩ := placeT_some he
      exact List.mem_map.2 ⟨e, m1, rfl⟩
    · intro hx
      obtain ⟨e, he, rfl⟩ := List.mem_map.1 hx
      have ho := (h.ok e he).2.2.1
      exact hk.2.2 e.f (I64_lim (by omega) ho.2) (by rw [h.sort.once e he]; rfl)
  refine List.Perm.eq_of_pairwise (le := fun a b => a ≤ b) (fun a b _ _ h1 h2 => Int.le_antisymm h1 h2) ?_ (hs.imp fun h => Int.le_of_lt h) ((List.mergeSort_perm _ _).trans hp)
  have h2 := List.pairwise_mergeSort (le := leI) (fun a b c h1 h2 => by unfold leI at *; simp at *; omega) (fun a b => by unfold leI; simp; omega) xs
  exact h2.imp fun h => by unfold leI at h; simpa using h
theorem MapP.look1 {w : World} {b n : Nat} {F : Int → Option Pl} (h : MapP w b n F) {x : Int} (hx : I64 x) : (Instr.lookup 48 (.map (some b)) (.int .i64 x) false).run Try.prog w = .ok ((F x).getD pl0).ev w :=
  SMap.look (E := KP) h Try.underlying3 Try.underlying48 (zero_place w) hx false
end Go.Proofs.Ytcflnjmglanneaa
