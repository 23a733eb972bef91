/- Folders: the reference's up: the folders above a folder. -/
import Derived.Test.YtcflnjmglanneaaTk
namespace Go.Proofs.Ytcflnjmglanneaa
open Go.RowKit Go.Maps
set_option maxRecDepth 100000
set_option linter.unusedVariables false
set_option linter.unusedSimpArgs false

theorem info_int : (Try.prog.info? 3).map (fun i => (i.zero, i.size, i.bytes)) = some (some (.int .i64 0), 1, 8) := by kernel_rfl
/-- The folders above a folder, from below: at most N. -/
def upT (t : List Pl) : Nat → Int → List Int
  | 0, _ => []
  | n + 1, x => match placeT t x with
    | some e => if 0 ≤ e.p then e.p :: upT t n e.p else []
    | none => []
theorem upT_none {t : List Pl} {n : Nat} {x : Int} (h : placeT t x = none) : upT t n x = [] := by
  cases n with
  | zero => rfl
  | succ n => simp only [upT, h]
theorem upT_top {t : List Pl} {n : Nat} {x : Int} {e : Pl} (h : placeT t x = some e) (hp : ¬ 0 ≤ e.p) : upT t n x = [] := by
  cases n with
  | zero => rfl
  | succ n => simp only [upT, h, if_neg hp]
theorem upT_more {t : List Pl} {n : Nat} {x : Int} {e : Pl} (h : placeT t x = some e) (hp : 0 ≤ e.p) : upT t (n + 1) x = e.p :: upT t n e.p := by
  simp only [upT, h, if_pos hp]
def lenOf : Value → Nat
  | .slice _ n _ => n
  | _ => 0
theorem below_own {w1 w2 : World} {B k n : Nat} {e : TypeId} {v : Value} {xs : List Value} (h : w1.ownsRow B e k v n xs) (hB : Below w1.heap.size w1 w2) : w2.ownsRow B e k v n xs := by
  refine ⟨h.1, ?_⟩
  rcases h.2 with h2 | ⟨g, cap, cur, e1, h2, h3, h4⟩
  · exact .inl h2
  · exact .inr ⟨g, cap, cur, e1, h2, (hB.block g (Array.getElem?_eq_some_iff.1 h3).1).trans h3, h4⟩
theorem own_ne {w : World} {q : Option Addr} {n c B : Nat} (h : ∀ a, q = some a → a.block ≠ B) : some B ≠ (Value.slice q n c).ownBlock := by
  cases q with
  | none => intro e; cases e
  | some a => intro e; injection e with e; exact h a rfl e.symm
theorem block_appended {wr w5 : World} {q : Option Addr} {n c B : Nat} {o obj : Obj} (hbx : wr.heap[B]? = some obj) (hq : ∀ a, q = some a → a.block ≠ B) (hg : (wr.alloc o).grownBy w5 (Value.slice q n c).ownBlock) : w5.heap[B]? = some obj := by
  have hlt := (Array.getElem?_eq_some_iff.1 hbx).1
  exact (hg.block B (by rw [World.size_alloc]; omega) (own_ne (w := wr) hq)).trans (((below_alloc wr o).block B hlt).trans hbx)
theorem lit_row (w : World) (x : Value) (B : Nat) (t : TypeId) (hB : B ≤ w.heap.size) : RowAt (w.alloc (.cells #[x] t)) (.slice (some ⟨w.heap.size, 0, none⟩) 1 1) 1 1 [x] :=
  RowAt.of_own (World.ownsRow_lit (base := B) (size := 1) (e := t) w #[x] 1 hB (by unfold maxLen; omega) (by simp))
theorem box_cells {w : World} {b : Nat} {x : Pl} {t : TypeId} (h : w.heap[b]? = some (.cells x.cells.toArray t (0, 0))) : w.cell? ⟨b, 0, none⟩ = some (.int .i64 x.t) ∧ w.cell? ⟨b, 1, none⟩ = some (.int .i64 x.d) ∧ w.cell? ⟨b, 2, none⟩ = some (.int .i64 x.f) ∧ w.cell? ⟨b, 3, none⟩ = some (.int .i64 x.p) ∧ w.cell? ⟨b, 4, none⟩ = some (.string x.n) := by
  refine ⟨?_, ?_, ?_, ?_, ?_⟩ <;> (unfold World.cell?; rw [h]; rfl)

theorem below_app {w wr w5 : World} {e : TypeId} {k n : Nat} {v : Value} {xs : List Value} {o : Obj} (h : wr.ownsRow w.heap.size e k v n xs) (hB : Below w.heap.size w wr) (hg : (wr.alloc o).grownBy w5 v.ownBlock) : Below w.heap.size w w5 := by
  have hA := hB.alloc hB.size o
  refine hA.trans ⟨hg.os, hg.tape, hg.output, hg.size, fun j hj => hg.block j (by have := hA.size; omega) (fun e => ?_)⟩
  have := (h.lt j e.symm).1
  omega
theorem own_setRow {w : World} {b k n B : Nat} {e : TypeId} {v : Value} {xs : List Value} (h : w.ownsRow b e k v n xs) (hne : ∀ j, v.ownBlock = some j → j ≠ B) (cs : Array Value) : (w.setRow B cs).ownsRow b e k v n xs := by
  refine ⟨h.1, ?_⟩
  rcases h.2 with h2 | ⟨g, cap, cur, e1, h2, h3, h4⟩
  · exact .inl h2
  · refine .inr ⟨g, cap, cur, e1, h2, (setRow_other _ _ _ _ (fun e => ?_)).trans h3, h4⟩
    subst e1
    exact hne g rfl e

set_option maxHeartbeats 4000000 in
theorem rup_ok (t : List Pl) (v : Value) (x : Int) (N : Nat) (w : World) (ht : PlAt w v t) (hl : t.length ≤ 1000000) (hN : (upT t N x).length < N) (hN2 : N ≤ 100000) :
    Calls Try.prog 39 #[v, .int .i64 x] w fun e w' => ∃ u, e = .returned u ∧ w'.ownsRow w.heap.size 3 1 u (upT t N x).length ((upT t N x).map (Value.int .i64)) ∧ Below w.heap.size w w' := by
  obtain ⟨p, c, rfl, hc, -⟩ := ht.form
  have HT := Lib.hid ht
  have HLL := Lib.hid hl
  obtain ⟨n, hn⟩ : ∃ n, n = t.length := ⟨_, rfl⟩
  rw [← hn] at HT hc ⊢
  obtain ⟨L, hL⟩ : ∃ L, L = upT t N x := ⟨_, rfl⟩
  rw [← hL] at hN ⊢
  have HLe := Lib.hid hL
  obtain ⟨i0, hi, hz0, hz1, hzb⟩ := info_parts info_int
  have HB0 := Lib.hid (below_alloc w (.cells #[] 3))
  have HR0 : Hid ((w.alloc (.cells #[] 3)).ownsRow w.heap.size 3 1 (.slice (some ⟨w.heap.size, 0, none⟩) 0 0) 0 []) := Lib.hid (World.ownsRow_lit (base := w.heap.size) (size := 1) (e := 3) w #[] 0 (Nat.le_refl _) (by unfold maxLen; omega) (by simp))
  have HP := Lib.hid (rplace_ok t (.slice p n c) x (w.alloc (.cells #[] 3)) (HT.out.below HB0.out) hl)
  clear ht hn hl hL
  go_enter Try.func39, Try.ntmps39
  go_wp2_with fail
  refine (HP.out).mono ?_
  rintro e w1 ⟨rfl, hA⟩
  have HR1 := Lib.hid (below_own HR0.out hA)
  have HB1 := Lib.hid (below_trans HB0.out hA)
  obtain ⟨e0, he0⟩ : ∃ e, e = (placeT t x).getD pl0 := ⟨_, rfl⟩
  rw [← he0]
  have HE0 := Lib.hid he0
  have hsz1 : w.heap.size < w1.heap.size := by have := hA.size; simp at this; omega
  clear HP HR0 HB0 hA he0
  obtain ⟨et, ed, ef, ep, en⟩ := e0
  unfold Pl.ev
  dsimp only
  go_upto_region 3 with fail
  obtain ⟨B, hB⟩ : ∃ b, b = w1.heap.size := ⟨_, rfl⟩
  have hbx := World.alloc_heap_new w1 (.cells (Pl.cells ⟨et, ed, ef, ep, en⟩).toArray 24)
  have hA := below_alloc w1 (.cells (Pl.cells ⟨et, ed, ef, ep, en⟩).toArray 24)
  have hR := below_own HR1.out hA
  have hBB := below_trans HB1.out hA
  rw [HE0.out, ← hB] at hbx
  rw [HE0.out] at hA hR hBB
  rw [← hB]
  obtain ⟨W, hW⟩ : ∃ W, W = w1.alloc (.cells #[.int .i64 et, .int .i64 ed, .int .i64 ef, .int .i64 ep, .string en] 24) := ⟨_, rfl⟩
  have hW2 : w1.alloc (.cells ((placeT t x).getD pl0).cells.toArray 24) = W := by rw [hW, ← HE0.out]; rfl
  rw [hW2] at hbx hR hBB
  rw [← hW]
  have HBX := Lib.hid hbx
  have HR := Lib.hid hR
  have HBE := Lib.hid hBB
  have HBne : Hid (w.heap.size < B) := Lib.hid (by rw [hB]; exact hsz1)
  clear hbx hA hR hBB hW hW2 hB HR1 HB1 hsz1 HE0
  go_loopw [5, 7] (fun v5 v7 wr => ∃ (pre : List Int) (y : Int) (m : Nat) (q : Option Addr) (cq : Nat), v5 = .slice q pre.length cq ∧ v7 = .bool (placeT t y).isSome ∧ Hid (L = pre ++ upT t m y) ∧ Hid ((upT t m y).length < m) ∧ Hid (m ≤ 100000) ∧ Hid (wr.ownsRow w.heap.size 3 1 (.slice q pre.length cq) pre.length (pre.map (Value.int .i64))) ∧ Hid (∀ a, q = some a → a.block ≠ B) ∧ Hid (wr.heap[B]? = some (.cells ((placeT t y).getD pl0).cells.toArray 24 (0, 0))) ∧ Hid (Below w.heap.size w wr)) (fun v5 _ _ => N - lenOf v5)
  case atStart => exact ⟨[], x, N, _, 0, rfl, rfl, Lib.hid HLe.out, Lib.hid (by rw [← HLe.out]; exact hN), Lib.hid hN2, HR, Lib.hid (fun a e => by cases e; exact Nat.ne_of_lt HBne.out), HBX, HBE⟩
  case round =>
    obtain ⟨pre, y, m, q, cq, rfl, rfl, HL, HM, HM2, HR, HQ, HBX, HB⟩ := hrel
    have hbx := box_cells HBX.out
    cases hy : placeT t y with
    | none =>
      rw [hy] at hbx
      have hLe : L = pre := by rw [HL.out, upT_none hy, List.append_nil]
      simp only [Option.isSome_none]
      clear hbx
      go_wp2_with fail
      go_ret
      exact ⟨_, rfl, by rw [hLe]; exact HR.out, HB.out⟩
    | some e =>
      rw [hy] at hbx HBX
      obtain ⟨et, ed, ef, ep, en⟩ := e
      simp only [Option.getD_some, Option.isSome_some] at hbx HBX ⊢
      obtain ⟨b0, b1, b2, b3, b4⟩ := hbx
      by_cases hep : 0 ≤ ep
      case neg =>
        have hLe : L = pre := by rw [HL.out, upT_top hy hep, List.append_nil]
        have hd := decide_eq_false hep
        clear hep hy
        go_wp2_with fail
        go_ret
        exact ⟨_, rfl, by rw [hLe]; exact HR.out, HB.out⟩
      obtain ⟨m', rfl⟩ : ∃ m', m = m' + 1 := ⟨m - 1, by have := HM.out; omega⟩
      have hup := upT_more (n := m') hy hep
      dsimp only at hup
      have HL2 : Hid (L = (pre ++ [ep]) ++ upT t m' ep) := Lib.hid (by rw [HL.out, hup]; simp)
      have HM3 : Hid ((upT t m' ep).length < m') := Lib.hid (by have := HM.out; rw [hup] at this; simpa using this)
      have hlen : pre.length + 1 ≤ L.length := by rw [HL2.out]; simp
      have hd := decide_eq_true hep
      have HRa := Lib.hid (below_own HR.out (below_alloc wr (.cells #[.int .i64 ep] 3)))
      have HNW := Lib.hid (lit_row wr (.int .i64 ep) 0 3 (Nat.zero_le _))
      have hsw := HB.out.size
      have hpl : pre.length ≤ 100000 := by omega
      clear hy hup hep HL HM
      go_wp2_with (at_builtin; refine Hid.out ?_)
      refine Lib.hid ?_
      refine wpList_plain rfl fun _ hK => ?_
      refine wp_append_row_at _ _ 31 rfl w.heap.size 3 i0 (.int .i64 0) 1 8 Try.underlying31 hi hz0 hz1 hzb rfl (by decide) _ _ _ rfl HRa.out _ _ _ rfl HNW.out (by simp [Value.oneCell']) (by unfold maxLen; omega) (by omega) (by simp; omega) ?_
      intro v' w5 hown5 hgrow5 hwh5
      obtain ⟨q', cq', rfl⟩ : ∃ q cq, v' = .slice q (pre.length + 1) cq := by
        rcases hown5.2 with ⟨rfl, hn⟩ | ⟨g, cap, cur, rfl, -⟩
        · omega
        · exact ⟨_, _, rfl⟩
      have HBX5 := Lib.hid (block_appended (o := .cells #[.int .i64 ep] 3) HBX.out HQ.out hgrow5)
      have hB5 := below_app HR.out HB.out hgrow5
      have HO5 := Lib.hid hown5
      have hBw : B < wr.heap.size := (Array.getElem?_eq_some_iff.1 HBX.out).1
      have HQ5 : Hid (∀ a, q' = some a → a.block ≠ B) := Lib.hid (by
        intro a ha
        subst ha
        rcases hwh5 with h | h
        · cases q with
          | none => cases h
          | some a' => injection h with h; rw [h]; exact HQ.out a' rfl
        · have h' : a.block = wr.heap.size + 1 := by injection h with h; rw [h]; simp
          omega)
      have HP := Lib.hid (rplace_ok t (.slice p n c) ep w5 (HT.out.below hB5) HLL.out)
      have HB5 := Lib.hid hB5
      have hBB5 : B < w5.heap.size := (Array.getElem?_eq_some_iff.1 HBX5.out).1
      obtain ⟨d0, d1, d2, d3, d4⟩ := box_cells HBX5.out
      dsimp only at d0 d1 d2 d3 d4
      clear hown5 hgrow5 hwh5 hB5 HRa HNW HR HQ b0 b1 b2 b3 b4 HB hsw
      refine hK _ _ ?_
      clear hK
      go_wp2_with fail
      refine (HP.out).mono ?_
      rintro e w6 ⟨rfl, hA⟩
      have hx6 := (hA.block B hBB5).trans HBX5.out
      have HX6 := Lib.hid hx6
      have HO6 := Lib.hid (below_own HO5.out hA)
      have HB6 := Lib.hid (HB5.out.trans (hA.mono HB5.out.size))
      obtain ⟨e1, he1⟩ : ∃ e, e = (placeT t ep).getD pl0 := ⟨_, rfl⟩
      rw [← he1]
      have HE1 := Lib.hid he1
      clear hA HB5 HO5 HBX5 he1 HP d0 d1 d2 d3 d4 hBB5
      obtain ⟨ft, fd, ff, fp, fn⟩ := e1
      unfold Pl.ev
      dsimp only
      go_wp2_with (refine wpList_plain rfl fun _ hK => wp_store_row 24 _ _ rfl B #[.int .i64 ft, .int .i64 fd, .int .i64 ff, .int .i64 fp, .string fn] rfl rfl 24 _ hx6 place_size rfl (by simp [Value.oneCell']) (hK _ _ ?_))
      refine ⟨⟨pre ++ [ep], ep, m', q', cq', ?_, rfl, HL2, HM3, Lib.hid (by have := HM2.out; omega), Lib.hid ?_, HQ5, Lib.hid ?_, Lib.hid (below_setRow HB6.out (Nat.le_of_lt HBne.out) _)⟩, ?_⟩
      · simp
      · rw [List.length_append, List.map_append]
        exact own_setRow HO6.out (fun j hj => by
          cases q' with
          | none => cases hj
          | some a => injection hj with hj; rw [← hj]; exact HQ5.out a rfl) _
      · rw [← HE1.out]; exact setRow_heap _ _ _ _ _ _ HX6.out
      · simp only [lenOf]
        show N - (pre.length + 1) < N - pre.length
        omega
end Go.Proofs.Ytcflnjmglanneaa
