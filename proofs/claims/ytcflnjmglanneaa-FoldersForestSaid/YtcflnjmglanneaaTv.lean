/- Folders: the reference's Below. -/
import Derived.Test.YtcflnjmglanneaaTu
namespace Go.Proofs.Ytcflnjmglanneaa
open Go.RowKit Go.Maps Go.Sort
set_option maxRecDepth 100000
set_option linter.unusedVariables false
set_option linter.unusedSimpArgs false

/-- A row of ints that grows. -/
structure OutI (w W : World) (q : Option Addr) (n c : Nat) (acc : List Int) : Prop where
  own : W.ownsRow w.heap.size 3 1 (.slice q n c) n (acc.map (Value.int .i64))
  len : n = acc.length
  bel : Below w.heap.size w W
theorem OutI.below {w W W' : World} {n c : Nat} {q : Option Addr} {acc : List Int} (h : OutI w W q n c acc) (hB : Below W.heap.size W W') : OutI w W' q n c acc :=
  ⟨below_own h.own hB, h.len, h.bel.trans (hB.mono h.bel.size)⟩
theorem OutI.row {w W : World} {n c : Nat} {q : Option Addr} {acc : List Int} (h : OutI w W q n c acc) (o : Obj) : (W.alloc o).ownsRow w.heap.size 3 1 (.slice q n c) n (acc.map (Value.int .i64)) := below_own h.own (below_alloc W o)
theorem OutI.ints {w W : World} {n c : Nat} {q : Option Addr} {acc : List Int} (h : OutI w W q n c acc) : IntsAt W (.slice q n c) acc := ints_of_row (by rw [← h.len]; exact h.own)
theorem OutI.new (w W : World) (hB : Below w.heap.size w W) : OutI w (W.alloc (.cells #[] 3)) (some ⟨W.heap.size, 0, none⟩) 0 0 [] :=
  ⟨World.ownsRow_lit (base := w.heap.size) (size := 1) (e := 3) W #[] 0 hB.size (by unfold maxLen; omega) (by simp), rfl, hB.alloc hB.size _⟩
theorem OutI.nil (w W : World) (hB : Below w.heap.size w W) : OutI w W none 0 0 [] := ⟨World.ownsRow_nil _ _ _ _, rfl, hB⟩
theorem OutI.app {w W w5 : World} {n c : Nat} {q : Option Addr} {acc : List Int} {x : Int} {v' : Value} {o : Obj} (h : OutI w W q n c acc)
    (hown : w5.ownsRow w.heap.size 3 1 v' (n + 1) (acc.map (Value.int .i64) ++ [.int .i64 x])) (hg : (W.alloc o).grownBy w5 (Value.slice q n c).ownBlock) :
    ∃ q' c', v' = .slice q' (n + 1) c' ∧ OutI w w5 q' (n + 1) c' (acc ++ [x]) := by
  obtain ⟨q', c', rfl⟩ : ∃ q c, v' = .slice q (n + 1) c := by
    rcases hown.2 with ⟨rfl, hn⟩ | ⟨g, cap, cur, rfl, -⟩
    · omega
    · exact ⟨_, _, rfl⟩
  exact ⟨q', c', rfl, ⟨by rw [List.map_append]; exact hown, by rw [h.len]; simp, below_app h.own h.bel hg⟩⟩

set_option maxHeartbeats 4000000 in
theorem rbelow_ok (l : List Pl) (v : Value) (x : Int) (w : World) (ht : PlAt w v l) (hl : l.length ≤ 100000) :
    Calls Try.prog 19 #[v, .int .i64 x] w fun e w' => ∃ u, e = .returned u ∧ IntsAt w' u (belowT (treeP l) x) ∧ Below w.heap.size w w' := by
  have HP := Lib.hid (rtree_ok l v w ht hl)
  obtain ⟨L, hF⟩ := treeP_frst l
  have HF := Lib.hid hF
  obtain ⟨T, hT⟩ : ∃ T, T = treeP l := ⟨_, rfl⟩
  rw [← hT] at HP HF ⊢
  obtain ⟨i0, hi, hz0, hz1, hzb⟩ := info_parts info_int
  clear ht hl hF hT
  go_enter Try.func19, Try.ntmps19
  go_wp2_with fail
  refine (HP.out).mono ?_
  rintro e w1 ⟨u, rfl, hu, hB⟩
  obtain ⟨pt, pc, rfl, hc, -⟩ := hu.form
  have hnt : T.length ≤ 16 := HF.out.few
  obtain ⟨nt, hn⟩ : ∃ n, n = T.length := ⟨_, rfl⟩
  have HU := Lib.hid hu
  have HN := Lib.hid hn
  have HO1 := Lib.hid (OutI.new w1 w1 (Below.refl _ _))
  have HB1 := Lib.hid (below_alloc w1 (.cells #[] 3))
  have HPL := Lib.hid (rplace_ok T (.slice pt T.length pc) x (w1.alloc (.cells #[] 3)) (hu.below HB1.out) (by omega))
  rw [← hn] at HU hc HPL hnt ⊢
  have HBw := Lib.hid hB
  clear hu hB HP hn
  go_wp2_with fail
  refine (HPL.out).mono ?_
  rintro e w2 ⟨rfl, hB⟩
  have HO2 := Lib.hid (HO1.out.below hB)
  have HB2 := Lib.hid (below_trans HB1.out hB)
  obtain ⟨G0, hG0⟩ : ∃ G, G = some (⟨w1.heap.size, 0, none⟩ : Addr) := ⟨_, rfl⟩
  obtain ⟨e0, he0⟩ : ∃ e, e = (placeT T x).getD pl0 := ⟨_, rfl⟩
  obtain ⟨ex, hex⟩ : ∃ ex, ex = (placeT T x).isSome := ⟨_, rfl⟩
  rw [← hG0] at HO2 ⊢
  rw [← he0, ← hex]
  have HEX := Lib.hid hex
  clear hB HPL HO1 HB1 hG0 he0 hex
  obtain ⟨et, ed, ef, ep, en⟩ := e0
  unfold Pl.ev
  dsimp only
  go_upto_region 4 with fail
  have hA3 := below_alloc w2 (.cells #[.int .i64 et, .int .i64 ed, .int .i64 ef, .int .i64 ep, .string en] 24)
  obtain ⟨W3, hW3⟩ : ∃ W, W = w2.alloc (.cells #[.int .i64 et, .int .i64 ed, .int .i64 ef, .int .i64 ep, .string en] 24) := ⟨_, rfl⟩
  rw [← hW3] at hA3 ⊢
  have HO3 := Lib.hid (HO2.out.below hA3)
  have HB3 := Lib.hid (below_trans HB2.out hA3)
  clear hW3 hA3 HO2 HB2
  cases ex with
  | false =>
    have HR : Hid (belowT T x = []) := Lib.hid (by unfold belowT; rw [← HEX.out]; rfl)
    go_wp2_with fail
    go_loopw [6, 9] (fun v6 v9 wr => v6 = .slice G0 0 0 ∧ v9 = .int .i64 (0 : Nat) ∧ wr = W3) (fun _ v9 _ => nt - (intOf v9).toNat)
    case atStart => exact ⟨rfl, rfl, rfl⟩
    case round =>
      obtain ⟨rfl, rfl, rfl⟩ := hrel
      by_cases hn0 : 0 < nt
      · have hd := decide_eq_true (show (0 : Int) < (nt : Int) by omega)
        have hd' := decide_eq_true hn0
        go_wp2_with fail
        go_ret
        exact ⟨_, rfl, by rw [HR.out]; exact HO3.out.ints, below_trans HBw.out HO3.out.bel⟩
      · have hd := decide_eq_false (show ¬ (0 : Int) < (nt : Int) by omega)
        have hd' := decide_eq_false hn0
        go_wp2_with fail
        go_ret
        exact ⟨_, rfl, by rw [HR.out]; exact HO3.out.ints, below_trans HBw.out HO3.out.bel⟩
  | true =>
    have HR : Hid (belowT T x = (T.filter fun e => decide (e.f = x ∨ x ∈ upT T 32 e.f)).map Pl.f) := Lib.hid (by unfold belowT; rw [← HEX.out]; rfl)
    go_wp2_with fail
    go_loopw [6, 9] (fun v6 v9 wr => ∃ (q : Option Addr) (n c k : Nat), v6 = .slice q n c ∧ v9 = .int .i64 k ∧ k ≤ nt ∧ n ≤ k ∧ Hid (OutI w1 wr q n c (((T.take k).filter fun e => decide (e.f = x ∨ x ∈ upT T 32 e.f)).map Pl.f)) ∧ Hid (Below w1.heap.size w1 wr)) (fun _ v9 _ => nt - (intOf v9).toNat)
    case atStart => exact ⟨G0, 0, 0, 0, rfl, rfl, Nat.zero_le _, Nat.le_refl _, HO3, HB3⟩
    case round =>
      obtain ⟨q, n, c, k, rfl, rfl, hk, hnk, HO, HB⟩ := hrel
      by_cases hkn : k < nt
      case neg =>
        have hd := decide_eq_false (show ¬ ((k : Int) < (nt : Int)) by omega)
        have hd' := decide_eq_false hkn
        have HO2 : Hid (OutI w1 wr q n c (belowT T x)) := Lib.hid (by
          have h := HO.out
          rw [List.take_of_length_le (by rw [← HN.out]; omega)] at h
          rw [HR.out]; exact h)
        go_wp2_with fail
        go_ret
        exact ⟨_, rfl, HO2.out.ints, below_trans HBw.out HO2.out.bel⟩
      have hd := decide_eq_true (show ((k : Int) < (nt : Int)) by omega)
      have hd' := decide_eq_true hkn
      obtain ⟨e, he, ht1⟩ := take_at (l := T) (j := k) (by rw [← HN.out]; exact hkn)
      obtain ⟨g, o, rfl, hcs⟩ := (HU.out.cells).2.2 (by omega)
      have HC := Lib.hid fun (W : World) (hW : Below w1.heap.size w1 W) => (hcs k e he).below hW
      obtain ⟨c0, c1, c2, c3, c4⟩ := HC.out _ HB.out
      have HW := Lib.hid (rwithin_ok T (.slice (some ⟨g, o, none⟩) nt pc) e.f x 32 wr (HU.out.below HB.out) (by rw [← HN.out]; omega) (by rw [HF.out.len (by decide)]; have := HF.out.le e.f; omega) (by decide))
      have HT1 := Lib.hid ht1
      obtain ⟨r, hr⟩ : ∃ r, r = decide (e.f = x ∨ x ∈ upT T 32 e.f) := ⟨_, rfl⟩
      rw [← hr] at HW
      obtain ⟨acc, hacc⟩ : ∃ acc, acc = ((T.take k).filter fun e => decide (e.f = x ∨ x ∈ upT T 32 e.f)).map Pl.f := ⟨_, rfl⟩
      rw [← hacc] at HO
      have HA : Hid (((T.take (k + 1)).filter fun e => decide (e.f = x ∨ x ∈ upT T 32 e.f)).map Pl.f = if r = true then acc ++ [e.f] else acc) := Lib.hid (by
        rw [HT1.out, List.filter_append, List.map_append, ← hacc, List.filter_cons, ← hr]
        cases r <;> simp)
      obtain ⟨et, ed, ef, ep, en⟩ := e
      dsimp only at c0 c1 c2 c3 c4 HW HA
      clear hcs he ht1 hr hacc
      go_wp2_with fail
      refine (HW.out).mono ?_
      rintro z w4 ⟨rfl, hB⟩
      have HO4 := Lib.hid (HO.out.below hB)
      have HB4 := Lib.hid (HB.out.trans (hB.mono HB.out.size))
      clear hB HW HO HB c0 c1 c2 c3 c4
      cases r with
      | false =>
        go_wp2_with fail
        exact ⟨⟨q, n, c, k + 1, rfl, by go_num, by omega, by omega, Lib.hid (by rw [HA.out]; exact HO4.out), HB4⟩, by simp only [intOf]; omega⟩
      | true =>
        obtain ⟨c0, c1, c2, c3, c4⟩ := HC.out _ HB4.out
        dsimp only at c0 c1 c2 c3 c4
        go_wp2_with (at_builtin; refine Hid.out ?_)
        refine Lib.hid ?_
        refine wpList_plain rfl fun _ hK => ?_
        refine wp_append_row _ _ 31 rfl w1.heap.size 3 i0 (.int .i64 0) 1 8 Try.underlying31 hi hz0 hz1 hzb rfl (by decide) _ _ _ rfl (HO4.out.row (.cells #[.int .i64 ef] 3)) _ _ _ rfl (lit_row w4 (.int .i64 ef) 0 3 (Nat.zero_le _)) (by simp [Value.oneCell']) (by unfold maxLen; omega) (by omega) (by have := HO4.out.bel.size; rw [World.size_alloc]; omega) ?_
        intro v' w5 hown5 hgrow5
        obtain ⟨q5, c5, rfl, ho5⟩ := HO4.out.app hown5 hgrow5
        have HO5 := Lib.hid ho5
        have HB5 := Lib.hid ho5.bel
        clear hown5 hgrow5 ho5
        refine hK _ _ ?_
        clear hK
        go_wp2_with fail
        exact ⟨⟨q5, n + 1, c5, k + 1, rfl, by go_num, by omega, by omega, Lib.hid (by rw [HA.out]; exact HO5.out), HB5⟩, by simp only [intOf]; omega⟩
end Go.Proofs.Ytcflnjmglanneaa
