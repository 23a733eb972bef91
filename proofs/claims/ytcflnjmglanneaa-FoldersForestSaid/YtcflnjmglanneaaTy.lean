/- Folders: slices.Clone, slices.IndexFunc and slices.DeleteFunc as the program calls them. -/
import Derived.Test.YtcflnjmglanneaaTx
import Derived.Lib.SliceRun
namespace Go.Proofs.Ytcflnjmglanneaa
open Go.RowKit Go.Maps Go.Sort
set_option maxRecDepth 100000
set_option linter.unusedVariables false
set_option linter.unusedSimpArgs false

theorem keep_ok (x : Pl) (w : World) : Calls Try.prog 44 #[x.ev] w fun e w' => e = .returned (.bool (decide (¬ okP x))) ∧ Below w.heap.size w w' := by
  have hA := below_alloc w (.cells x.cells.toArray 24)
  have HC := Lib.hid (fcheck_ok x (w.alloc (.cells x.cells.toArray 24)))
  obtain ⟨ck, hck⟩ : ∃ ck, ck = chkP x := ⟨_, rfl⟩
  obtain ⟨r, hr⟩ : ∃ r, r = decide (¬ okP x) := ⟨_, rfl⟩
  rw [← hck] at HC
  rw [← hr]
  have HR : Hid ((ck = 0 ∧ r = false) ∨ (ck = 270 ∧ r = true)) := Lib.hid (by
    rw [hck, hr]
    unfold chkP
    by_cases h : okP x
    · left; simp [h]
    · right; simp [h])
  have HA := Lib.hid hA
  obtain ⟨et, ed, ef, ep, en⟩ := x
  unfold Pl.ev Pl.cells at HC
  unfold Pl.cells at HA
  unfold Pl.ev
  dsimp only at HC HA ⊢
  clear hA hck hr
  go_enter Try.func44, Try.ntmps44
  go_wp2_with fail
  refine (HC.out).mono ?_
  rintro e w1 ⟨rfl, hB⟩
  have HB := Lib.hid (below_trans HA.out hB)
  clear hB HC HA
  rcases HR.out with ⟨rfl, rfl⟩ | ⟨rfl, rfl⟩
  · go_wp2_with fail
    go_ret
    exact ⟨rfl, HB.out⟩
  · go_wp2_with fail
    go_ret
    exact ⟨rfl, HB.out⟩

/-- What slices.IndexFunc gives. -/
def IdxR (p : Pl → Bool) (l : List Pl) (r : Int) : Prop := (r = -1 ∧ ∀ x ∈ l, p x = false) ∨ ∃ (k : Nat) (x : Pl), r = k ∧ l[k]? = some x ∧ p x = true ∧ ∀ y ∈ l.take k, p y = false
set_option maxHeartbeats 1000000 in
theorem idxBad_ok (l : List Pl) (v : Value) (w : World) (h : PlAt w v l) (hl : l.length ≤ 1000000) :
    Calls Try.prog 40 #[v, .func (.func 44) #[] #[]] w fun e w' => ∃ r, e = .returned (.int .i64 r) ∧ IdxR (fun x => decide (¬ okP x)) l r ∧ Below w.heap.size w w' := by
  obtain ⟨p, c, rfl, hc, -⟩ := h.form
  have HU := Lib.hid h
  obtain ⟨n, hn⟩ : ∃ n, n = l.length := ⟨_, rfl⟩
  have HN := Lib.hid hn
  rw [← hn] at hl hc HU ⊢
  clear h hn
  go_enter Try.func40, Try.ntmps40
  go_wp2_with fail
  go_loopw [8] (fun i wr => ∃ k : Nat, i = .int .i64 k ∧ k ≤ n ∧ Hid (∀ y ∈ l.take k, decide (¬ okP y) = false) ∧ Hid (Below w.heap.size w wr)) (fun i _ => n - (intOf i).toNat)
  case atStart => exact ⟨0, rfl, Nat.zero_le _, Lib.hid (by simp), Lib.hid (Below.refl _ _)⟩
  case round =>
    obtain ⟨k, rfl, hk, HG, HB⟩ := hrel
    by_cases hlt : k < n
    · have hd : decide ((k : Int) < (n : Int)) = true := by simp; omega
      have hd' : decide (k < n) = true := by simp; omega
      obtain ⟨e, he, ht1⟩ := take_at (l := l) (j := k) (by rw [← HN.out]; exact hlt)
      obtain ⟨g, o, rfl, hcs⟩ := (HU.out.cells).2.2 (by omega)
      obtain ⟨c0, c1, c2, c3, c4⟩ := (hcs k e he).below HB.out
      have HP := Lib.hid (keep_ok e wr)
      obtain ⟨r, hr⟩ : ∃ r, r = decide (¬ okP e) := ⟨_, rfl⟩
      rw [← hr] at HP
      have HR := Lib.hid hr
      have HT1 := Lib.hid ht1
      have HE := Lib.hid he
      obtain ⟨et, ed, ef, ep, en⟩ := e
      unfold Pl.ev at HP
      dsimp only at c0 c1 c2 c3 c4 HP
      clear hcs he ht1 hr
      go_wp2_with fail
      refine (HP.out).mono ?_
      rintro x w1 ⟨rfl, hB1⟩
      have HB1 := Lib.hid (HB.out.trans (hB1.mono HB.out.size))
      clear hB1 HP c0 c1 c2 c3 c4
      cases r with
      | false =>
        go_wp2_with fail
        exact ⟨⟨k + 1, by go_num, by omega, Lib.hid (by
          rw [HT1.out]
          intro y hy
          rcases List.mem_append.1 hy with hy | hy
          · exact HG.out y hy
          · rw [List.mem_singleton] at hy; rw [hy]; exact HR.out.symm), HB1⟩, by simp only [intOf]; omega⟩
      | true =>
        go_wp2_with fail
        go_ret
        exact ⟨_, rfl, .inr ⟨k, _, rfl, HE.out, HR.out.symm, HG.out⟩, HB1.out⟩
    · have hd : decide ((k : Int) < (n : Int)) = false := by simp; omega
      have hd' : decide (k < n) = false := by simp; omega
      obtain rfl : k = n := by omega
      go_wp2_with fail
      go_ret
      exact ⟨_, rfl, .inl ⟨rfl, by have h := HG.out; rw [List.take_of_length_le (by rw [← HN.out]; exact Nat.le_refl _)] at h; exact h⟩, HB.out⟩
set_option maxHeartbeats 1000000 in
theorem clone_ok (l : List Pl) (v : Value) (w : World) (ht : PlAt w v l) (hl : l.length ≤ 1000000) :
    Calls Try.prog 43 #[v] w fun e w' => ∃ u, e = .returned u ∧ w'.ownsRow w.heap.size 24 5 u l.length (cellsP l) ∧ Below w.heap.size w w' := by
  obtain ⟨p, c, rfl, hc, hp⟩ := ht.form
  obtain ⟨i0, hi, hz0, hz1, hzb⟩ := info_parts info_place
  have q22 : ∀ (w : World) (a : Option Addr) (n c n' c' : Nat), (binOp .eql 22 (.slice a n c) (.slice none n' c')).run Try.prog w = .ok (.bool a.isNone) w := fun w a n c n' c' => Lib.run_eql_slice_nil w _ _ a n c n' c' Try.underlying22
  cases p with
  | none =>
    have hc0 := hp rfl
    have hl0 : l.length = 0 := by omega
    have hnil : l = [] := List.length_eq_zero_iff.1 hl0
    subst hnil
    go_enter Try.func43, Try.ntmps43
    go_wp2_with fail
    go_ret
    exact ⟨_, rfl, World.ownsRow_nil _ _ _ _, Below.refl _ _⟩
  | some a =>
    obtain ⟨n, hn⟩ : ∃ n, n = l.length := ⟨_, rfl⟩
    have HT := Lib.hid (ht.below (below_alloc w (.cells #[] 24)))
    have HO := Lib.hid (World.ownsRow_lit (base := w.heap.size) (size := 5) (e := 24) w #[] 0 (Nat.le_refl _) (by unfold maxLen; omega) (by simp))
    have HB := Lib.hid (below_alloc w (.cells #[] 24))
    unfold PlAt at HT
    rw [← hn] at hc hl HT ⊢
    clear ht hn hp
    go_enter Try.func43, Try.ntmps43
    go_wp2_with (at_builtin; refine Hid.out ?_)
    refine Lib.hid ?_
    refine wpList_plain rfl fun _ hK => ?_
    refine wp_append_row _ _ 22 rfl w.heap.size 24 i0 (.agg #[.int .i64 0, .int .i64 0, .int .i64 0, .int .i64 0, .string ⟨#[]⟩]) 5 48 Try.underlying22 hi hz0 hz1 hzb rfl (by decide) _ _ _ rfl HO.out _ _ _ rfl HT.out (cells_all _) (by unfold maxLen; omega) (by omega) (by rw [World.size_alloc]; omega) ?_
    intro v' w5 hown hgrow
    have HO5 : Hid (w5.ownsRow w.heap.size 24 5 v' n (cellsP l)) := Lib.hid (by rw [Nat.zero_add] at hown; exact hown)
    have HB5 : Hid (Below w.heap.size w w5) := Lib.hid (HB.out.grown hgrow (by rw [World.size_alloc]; omega) (fun j hj => by have := (HO.out.lt j hj).1; omega))
    clear hown hgrow HO HB HT
    refine hK _ _ ?_
    clear hK
    go_wp2_with fail
    go_ret
    exact ⟨_, rfl, HO5.out, HB5.out⟩
end Go.Proofs.Ytcflnjmglanneaa
