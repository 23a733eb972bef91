/- Folders: the program's Below. -/
import Derived.Test.YtcflnjmglanneaaUh
namespace Go.Proofs.Ytcflnjmglanneaa
open Go.RowKit Go.Maps Go.Sort
set_option maxRecDepth 100000
set_option linter.unusedVariables false
set_option linter.unusedSimpArgs false

/-- An own row of ints is kept where its block is. -/
theorem own_kept {w w' : World} {base k : Nat} {e : TypeId} {v : Value} {n : Nat} {xs : List Value} (h : w.ownsRow base e k v n xs) (hb : ∀ j, v.ownBlock = some j → w'.heap[j]? = w.heap[j]?) : w'.ownsRow base e k v n xs := by
  refine ⟨h.1, ?_⟩
  rcases h.2 with h2 | ⟨g, cap, cur, e1, h2, h3, h4⟩
  · exact .inl h2
  · refine .inr ⟨g, cap, cur, e1, h2, (hb g ?_).trans h3, h4⟩
    rw [e1]; rfl
theorem own_form {w : World} {base m : Nat} {v : Value} {xs : List Value} (h : w.ownsRow base 3 1 v m xs) : ∃ q c, v = .slice q m c := by
  rcases h.2 with ⟨rfl, hn⟩ | ⟨g, cap, cur, rfl, -⟩
  · exact ⟨none, 0, by rw [hn]⟩
  · exact ⟨_, _, rfl⟩
theorem below_tree {T : List Pl} {L : Int → Nat} (h : Frst T L) {ss : List Int} {x : Int} (hk : KeysOf (placeT T) ss) (hx : (placeT T x).isSome = true) : (ss.filter fun y => decide (y = x ∨ x ∈ upF (placeT T) 32 y)).mergeSort leI = belowT T x := by
  have hs : (belowT T x).Pairwise (fun a b => a < b) := by
    unfold belowT
    rw [if_pos hx]
    exact List.pairwise_map.2 (List.Pairwise.filter _ h.sort)
  have hp : (ss.filter fun y => decide (y = x ∨ x ∈ upF (placeT T) 32 y)).Perm (belowT T x) := by
    refine (List.perm_ext_iff_of_nodup (hk.1.filter _) (hs.imp fun h => Int.ne_of_lt h)).2 fun y => ?_
    rw [List.mem_filter, mem_belowT h]
    simp only [decide_eq_true_eq]
    rw [mem_upF h.lev 32 y (by have := h.le y; omega)]
    constructor
    · rintro ⟨h1, h2⟩
      exact ⟨hx, (hk.2.1 y h1).2, h2⟩
    · rintro ⟨-, h1, h2⟩
      obtain ⟨e, he⟩ := Option.isSome_iff_exists.1 h1
      obtain ⟨m1, rfl⟩ := placeT_some he
      have ho := (h.ok e m1).2.2.1
      exact ⟨hk.2.2 e.f (I64_lim (by omega) ho.2) h1, h2⟩
  refine List.Perm.eq_of_pairwise (le := fun a b => a ≤ b) (fun a b _ _ h1 h2 => Int.le_antisymm h1 h2) ?_ (hs.imp fun h => Int.le_of_lt h) ((List.mergeSort_perm _ _).trans hp)
  have h2 := List.pairwise_mergeSort (le := leI) (fun a b c h1 h2 => by unfold leI at *; simp at *; omega) (fun a b => by unfold leI; simp; omega) (ss.filter fun y => decide (y = x ∨ x ∈ upF (placeT T) 32 y))
  exact h2.imp fun h => by unfold leI at h; simpa using h

set_option maxHeartbeats 8000000 in
theorem below_ok (l : List Pl) (v : Value) (x : Int) (w : World) (ht : PlAt w v l) (hl : l.length ≤ 100000) (hI : I64 x) :
    Calls Try.prog 18 #[v, .int .i64 x] w fun e w' => ∃ u, e = .returned u ∧ IntsAt w' u (belowT (treeP l) x) ∧ Below w.heap.size w w' := by
  have HG := Lib.hid (grow_ok l v w ht hl)
  obtain ⟨L, hF⟩ := treeP_frst l
  have HF := Lib.hid hF
  obtain ⟨T, hT⟩ : ∃ T, T = treeP l := ⟨_, rfl⟩
  rw [← hT] at HG HF ⊢
  obtain ⟨i0, hi, hz0, hz1, hzb⟩ := info_parts info_int
  have HLEN := Lib.hid hl
  clear ht hF hT hl
  go_enter Try.func18, Try.ntmps18
  go_wp2_with fail
  refine (HG.out).mono ?_
  rintro e w1 ⟨b, nn, rfl, hM, hnn, hbw, hB⟩
  have HB1 := Lib.hid hB
  have hlook := hM.look hI
  have HM1 := Lib.hid hM
  have hnn2 : nn ≤ 100000 := by have := HLEN.out; omega
  obtain ⟨e0, he0⟩ : ∃ e, e = (placeT T x).getD pl0 := ⟨_, rfl⟩
  obtain ⟨ex, hex⟩ : ∃ ex, ex = (placeT T x).isSome := ⟨_, rfl⟩
  rw [← he0, ← hex] at hlook
  have HEX := Lib.hid hex
  obtain ⟨et, ed, ef, ep, en⟩ := e0
  unfold Pl.ev at hlook
  dsimp only at hlook
  clear hM hB HG hbw hnn he0 hex
  go_upto_region 3 with fail
  have hA := below_alloc w1 (.cells #[.int .i64 et, .int .i64 ed, .int .i64 ef, .int .i64 ep, .string en] 24)
  obtain ⟨W2, hW2⟩ : ∃ W, W = w1.alloc (.cells #[.int .i64 et, .int .i64 ed, .int .i64 ef, .int .i64 ep, .string en] 24) := ⟨_, rfl⟩
  rw [← hW2] at hA ⊢
  have HB2 := Lib.hid (below_trans HB1.out hA)
  have HM2 : Hid (MapP W2 b nn (placeT T)) := Lib.hid (MapP.below HM1.out hA (SMap.lt HM1.out))
  clear hlook hA hW2 HM1 HB1
  cases ex with
  | false =>
    have HR : Hid (belowT T x = []) := Lib.hid (by unfold belowT; rw [← HEX.out]; rfl)
    go_wp2_with fail
    go_ret
    exact ⟨_, rfl, by rw [HR.out]; exact ⟨none, 0, rfl, Nat.le_refl _, fun h => absurd h (Nat.lt_irrefl _)⟩, HB2.out⟩
  | true =>
    obtain ⟨D, hown, hD⟩ := HM2.out
    have HD : Hid (HoldP D (placeT T)) := Lib.hid hD
    have HSZ := Lib.hid hown.size_le
    have hbl := hown.lt
    have hFI : Hid (∀ y e, placeT T y = some e → I64 e.p) := Lib.hid fun y e he => by
      have h := HF.out.ok e (placeT_some he).1
      exact I64_lim h.2.2.2.1.1 h.2.2.2.1.2
    have HIX := Lib.hid hI
    clear hD hI
    go_wp2_with (at_range; refine wpList_range_own _ rfl _ 48 rfl 3 24 (int_keyed Try.underlying3) Try.underlying48 _ b nn _ rfl hown ?_; intro w0 hrg0 hg0 hs0)
    obtain ⟨r, hr⟩ : ∃ r, r = W2.heap.size := ⟨_, rfl⟩
    rw [← hr] at hrg0 hbl hs0 ⊢
    have hB0 : Hid (Below r W2 w0) := Lib.hid ⟨hg0.os, hg0.tape, hg0.output, by omega, fun k hk => hg0.block k (by omega) (by simp)⟩
    have HRR := Lib.hid hr
    have HN0 : Hid (w0.ownsRow (r + 1) 3 1 (.slice none 0 0) 0 (([] : List Int).map (Value.int .i64))) := Lib.hid (World.ownsRow_nil _ _ _ _)
    have hs0' : r + 1 ≤ w0.heap.size := by omega
    clear hg0 hs0 hown hr
    go_frame
    go_loopw [4] (fun v4 wr => ∃ (q : Option Addr) (n c : Nat) (left : Lit → Bool) (cnt : Nat) (ss acc : List Int), v4 = .slice q n c ∧ n ≤ ss.length ∧ ss.length + cnt ≤ nn ∧ Hid (acc = ss.filter fun y => decide (y = x ∨ x ∈ upF (placeT T) 32 y)) ∧ Hid (n = acc.length) ∧ Hid (wr.ownsRow (r + 1) 3 1 (.slice q n c) n (acc.map (Value.int .i64))) ∧ Hid (wr.ranges Try.prog 3 KP.rd b r nn D left cnt) ∧ Hid (CollectedI D left ss) ∧ Hid (∀ y ∈ ss, I64 y) ∧ Hid (Below r W2 wr) ∧ r + 1 ≤ wr.heap.size) (fun _ wr => wr.rangeLeft b r)
    case atStart => exact ⟨none, 0, 0, _, _, [], [], rfl, Nat.le_refl _, by have := HSZ.out; simpa using this, Lib.hid rfl, Lib.hid rfl, HN0, Lib.hid hrg0, Lib.hid (CollectedI.start D), Lib.hid (by simp), hB0, hs0'⟩
    case round =>
      obtain ⟨q, n, c, left, cnt, ss, acc, rfl, hns, hcn, HAC, HAL, HO, HRG, HC, HI6, HB, hsr⟩ := hrel
      clear hrg0 hB0 hs0'
      go_wp2_with (at_next; refine wpList_next_ranges _ rfl _ rfl 3 (int_keyed Try.underlying3) KP.rd encZ KP.ev (fun key kl hk => by obtain ⟨z, hz, _⟩ := Maps.keyOf_i64 Try.underlying3 hk; exact ⟨z, hz⟩) (fun v y hv => by obtain ⟨z, hz, _⟩ := KP.inv v y hv; exact ⟨z, hz⟩) b r nn _ _ _ rfl HRG.out ?_ ?_)
      · intro hc0 hl0
        have hK : KeysOf (placeT T) ss := ⟨HC.out.1, fun y hy => ⟨HI6.out y hy, by rw [← (HD.out y (HI6.out y hy)).1]; exact ((HC.out.2 y).1 hy).1⟩, fun y hy h => has_of_left HD.out HC.out hl0 hy h⟩
        have hbt := below_tree HF.out hK HEX.out.symm
        rw [← HAC.out] at hbt
        have HBT := Lib.hid hbt
        have HSO := Lib.hid (sort_row (.slice q n c) acc (r + 1) r wr (by rw [← HAL.out]; exact HO.out) (by omega) (by have := HAL.out; omega))
        have hbtl : (belowT T x).length = acc.length := by rw [← hbt]; exact (List.mergeSort_perm _ _).length_eq
        have HBL := Lib.hid hbtl
        have HBf : Hid (Below w.heap.size w wr) := Lib.hid (HB2.out.trans (HB.out.mono (by have := HB2.out.size; have := HRR.out; omega)))
        have hwr : w.heap.size ≤ r := by have := HB2.out.size; have := HRR.out; omega
        clear hl0 hK hbt hbtl
        go_wp2_with fail
        refine (HSO.out).mono ?_
        rintro e w9 ⟨rfl, hrow, hB9⟩
        rw [HBT.out, ← HBL.out] at hrow
        have HR9 := Lib.hid (ints_of_row hrow)
        have HB9 := Lib.hid (HBf.out.trans (hB9.mono hwr))
        clear hrow hB9 HSO
        go_wp2_with fail
        go_ret
        exact ⟨_, rfl, HR9.out, HB9.out⟩
      · intro z cc kl yd yp w2 cnt2 hkey hlk hv hat hrg2 hlt hg2 hs2 hen
        obtain ⟨z', ez, rfl, hz⟩ := Maps.keyOf_i64 Try.underlying3 hkey
        obtain rfl : z = z' := encZ_inj ez
        have HC2 := Lib.hid (HC.out.step hlk hat)
        have HZ := Lib.hid hz
        have HLE := Lib.hid HRG.out.left_eq
        have HLT := Lib.hid hlt
        have HO2 : Hid (w2.ownsRow (r + 1) 3 1 (.slice q n c) n (acc.map (Value.int .i64))) := Lib.hid (own_kept HO.out fun j hj => hg2.block j (HO.out.lt j hj).2 (by have := (HO.out.lt j hj).1; simp; omega))
        have HB2' : Hid (Below r W2 w2) := Lib.hid (HB.out.trans ⟨hg2.os, hg2.tape, hg2.output, by omega, fun j hj => hg2.block j (by have := HB.out.size; have := HRR.out; omega) (by simp; omega)⟩)
        have HRG2 := Lib.hid hrg2
        have hsr2 : r + 1 ≤ w2.heap.size := by omega
        have hMP : MapP w2 b nn (placeT T) := ⟨D, hrg2.owns, HD.out⟩
        have HW := Lib.hid (within_ok b nn 32 (placeT T) z x w2 hMP hz hFI.out (by rw [HF.out.lev.upF 32 z (by have := HF.out.le z; omega)]; have := HF.out.le z; omega) (by decide))
        obtain ⟨rr, hrr⟩ : ∃ rr, rr = decide (z = x ∨ x ∈ upF (placeT T) 32 z) := ⟨_, rfl⟩
        rw [← hrr] at HW
        have HA : Hid ((ss ++ [z]).filter (fun y => decide (y = x ∨ x ∈ upF (placeT T) 32 y)) = if rr = true then acc ++ [z] else acc) := Lib.hid (by
          rw [List.filter_append, ← HAC.out, List.filter_cons, ← hrr]
          cases rr <;> simp)
        have HI7 : Hid (∀ y ∈ ss ++ [z], I64 y) := Lib.hid fun y hy => by
          rcases List.mem_append.1 hy with hy | hy
          · exact HI6.out y hy
          · rw [List.mem_singleton] at hy; rw [hy]; exact hz
        have hcn2 : (ss ++ [z]).length + cnt2 ≤ nn := by simp; omega
        have hns2 : n ≤ (ss ++ [z]).length := by simp; omega
        have hns3 : n + 1 ≤ (ss ++ [z]).length := by simp; omega
        rw [KP_ev] at hen ⊢
        clear hkey hlk hv hat hrg2 hlt hg2 hs2 hMP hrr hz ez HC HRG HB HO HI6
        go_wp2_with fail
        refine (HW.out).mono ?_
        rintro e w3 ⟨rfl, hB3⟩
        have HO3 : Hid (w3.ownsRow (r + 1) 3 1 (.slice q n c) n (acc.map (Value.int .i64))) := Lib.hid (below_own HO2.out hB3)
        have HB3 : Hid (Below r W2 w3) := Lib.hid (HB2'.out.trans (hB3.mono (by omega)))
        have HRG3 := Lib.hid (ranges_below HRG2.out hB3)
        have hsr3 : r + 1 ≤ w3.heap.size := Nat.le_trans hsr2 hB3.size
        clear hB3 HW HO2 HB2' HRG2 hsr2
        cases rr with
        | false =>
          go_wp2_with fail
          exact ⟨⟨q, n, c, _, cnt2, ss ++ [z], acc, rfl, hns2, hcn2, Lib.hid HA.out.symm, HAL, HO3, HRG3, HC2, HI7, HB3, hsr3⟩, by rw [HRG3.out.left_eq, HLE.out]; exact HLT.out⟩
        | true =>
          go_wp2_with (at_builtin; refine Hid.out ?_)
          refine Lib.hid ?_
          refine wpList_plain rfl fun _ hK => ?_
          refine wp_append_row _ _ 31 rfl (r + 1) 3 i0 (.int .i64 0) 1 8 Try.underlying31 hi hz0 hz1 hzb rfl (by decide) _ _ _ rfl (below_own HO3.out (below_alloc w3 (.cells #[.int .i64 z] 3))) _ _ _ rfl (lit_row w3 (.int .i64 z) 0 3 (Nat.zero_le _)) (by simp [Value.oneCell']) (by unfold maxLen; omega) (by omega) (by rw [World.size_alloc]; omega) ?_
          intro v' w5 hown5 hgrow5
          obtain ⟨q5, c5, rfl⟩ := own_form hown5
          have hsz5 : w3.heap.size + 1 ≤ w5.heap.size := by have := hgrow5.size; rw [World.size_alloc] at this; omega
          have hblk : ∀ j, j < w3.heap.size → j < r + 1 → w5.heap[j]? = w3.heap[j]? := fun j hj hjr => (hgrow5.block j (by rw [World.size_alloc]; omega) (fun e => by have := (HO3.out.lt j e.symm).1; omega)).trans (Below.heap_alloc _ _ _ hj)
          have HRG5 := Lib.hid (ranges_blocks HRG3.out (hblk b (ranges_blt HRG3.out).1 (by omega)) (hblk r (ranges_blt HRG3.out).2 (by omega)))
          have HB5 : Hid (Below r W2 w5) := Lib.hid (HB3.out.trans ⟨hgrow5.os, hgrow5.tape, hgrow5.output, by omega, fun j hj => hblk j (by omega) (by omega)⟩)
          have HO5 : Hid (w5.ownsRow (r + 1) 3 1 (.slice q5 (n + 1) c5) (n + 1) ((acc ++ [z]).map (Value.int .i64))) := Lib.hid (by rw [List.map_append]; exact hown5)
          have HAL5 : Hid (n + 1 = (acc ++ [z]).length) := Lib.hid (by rw [List.length_append, ← HAL.out]; rfl)
          have hsr5 : r + 1 ≤ w5.heap.size := by omega
          clear hown5 hgrow5 hsz5 hblk
          refine hK _ _ ?_
          clear hK
          go_wp2_with fail
          exact ⟨⟨q5, n + 1, c5, _, cnt2, ss ++ [z], acc ++ [z], rfl, hns3, hcn2, Lib.hid HA.out.symm, HAL5, HO5, HRG5, HC2, HI7, HB5, hsr5⟩, by rw [HRG5.out.left_eq, HLE.out]; exact HLT.out⟩
end Go.Proofs.Ytcflnjmglanneaa
