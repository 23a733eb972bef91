/- Folders: the program's Find. -/
import Derived.Test.YtcflnjmglanneaaUi
namespace Go.Proofs.Ytcflnjmglanneaa
open Go.RowKit Go.Maps Go.Sort
set_option maxRecDepth 100000
set_option linter.unusedVariables false
set_option linter.unusedSimpArgs false

theorem boxed_later {w w' : World} {B : Nat} {t : TypeId} {v : Value} (h : Boxed w B t v) (hB : Below w.heap.size w w') : Boxed w' B t v := (hB.block B h.lt).trans h
set_option maxHeartbeats 2000000 in
theorem find1_ok (e : Pl) (a : Int) (s : ByteArray) (Bf Bn : Nat) (w : World) (hf : Boxed w Bf 3 (.int .i64 a)) (hn : Boxed w Bn 9 (.string s)) :
    Calls Try.prog 41 #[e.ev, .pointer (some ⟨Bf, 0, none⟩), .pointer (some ⟨Bn, 0, none⟩)] w fun x w' => x = .returned (.bool (decide (e.p = a ∧ e.n = s))) ∧ Below w.heap.size w w' := by
  obtain ⟨et, ed, ef, ep, en⟩ := e
  have hB := below_alloc w (.cells #[.int .i64 et, .int .i64 ed, .int .i64 ef, .int .i64 ep, .string en] 24)
  have hf1 := (boxed_later hf hB).cell
  have hn1 := (boxed_later hn hB).cell
  have HB := Lib.hid hB
  obtain ⟨r, hr⟩ : ∃ r, r = decide (ep = a ∧ en = s) := ⟨_, rfl⟩
  rw [← hr]
  have HR := Lib.hid hr
  unfold Pl.ev
  dsimp only
  clear hf hn hB hr
  by_cases hp : ep = a
  case neg =>
    have hg1 : (ep == a) = false := by simpa using hp
    have hg2 : decide (ep = a) = false := decide_eq_false hp
    have HV : Hid (r = false) := Lib.hid (by rw [HR.out]; exact decide_eq_false fun h => hp h.1)
    clear hp
    go_enter Try.func41, Try.ntmps41
    go_wp2_with fail
    go_ret
    exact ⟨by rw [HV.out]; rfl, HB.out⟩
  have hg1 : (ep == a) = true := by simpa using hp
  have hg2 : decide (ep = a) = true := decide_eq_true hp
  by_cases hs : en = s
  case neg =>
    have hh1 : (en.toList == s.toList) = false := bytes_beq_ne hs
    have hh2 : decide (en = s) = false := decide_eq_false hs
    have HV : Hid (r = false) := Lib.hid (by rw [HR.out]; exact decide_eq_false fun h => hs h.2)
    clear hp hs
    go_enter Try.func41, Try.ntmps41
    go_wp2_with fail
    go_ret
    exact ⟨by rw [HV.out]; rfl, HB.out⟩
  have hh1 : (en.toList == s.toList) = true := bytes_beq_eq hs
  have hh2 : decide (en = s) = true := decide_eq_true hs
  have HV : Hid (r = true) := Lib.hid (by rw [HR.out]; exact decide_eq_true ⟨hp, hs⟩)
  clear hp hs
  go_enter Try.func41, Try.ntmps41
  go_wp2_with fail
  go_ret
  exact ⟨by rw [HV.out]; rfl, HB.out⟩
set_option maxHeartbeats 1000000 in
theorem idxName_ok (l : List Pl) (v : Value) (a : Int) (s : ByteArray) (Bf Bn : Nat) (w : World) (h : PlAt w v l) (hl : l.length ≤ 1000000) (hf : Boxed w Bf 3 (.int .i64 a)) (hn : Boxed w Bn 9 (.string s)) :
    Calls Try.prog 40 #[v, .func (.func 41) #[] #[.pointer (some ⟨Bf, 0, none⟩), .pointer (some ⟨Bn, 0, none⟩)]] w fun e w' => ∃ r, e = .returned (.int .i64 r) ∧ IdxR (fun x => decide (x.p = a ∧ x.n = s)) l r ∧ Below w.heap.size w w' := by
  obtain ⟨p, c, rfl, hc, -⟩ := h.form
  have HU := Lib.hid h
  obtain ⟨n, hn'⟩ : ∃ n, n = l.length := ⟨_, rfl⟩
  have HN := Lib.hid hn'
  rw [← hn'] at hl hc HU ⊢
  have HBF := Lib.hid hf
  have HBN := Lib.hid hn
  clear h hn' hf hn
  go_enter Try.func40, Try.ntmps40
  go_wp2_with fail
  go_loopw [8] (fun i wr => ∃ k : Nat, i = .int .i64 k ∧ k ≤ n ∧ Hid (∀ y ∈ l.take k, decide (y.p = a ∧ y.n = s) = false) ∧ Hid (Below w.heap.size w wr)) (fun i _ => n - (intOf i).toNat)
  case atStart => exact ⟨0, rfl, Nat.zero_le _, Lib.hid (by simp), Lib.hid (Below.refl _ _)⟩
  case round =>
    obtain ⟨k, rfl, hk, HG, HB⟩ := hrel
    by_cases hlt : k < n
    · have hd : decide ((k : Int) < (n : Int)) = true := by simp; omega
      have hd' : decide (k < n) = true := by simp; omega
      obtain ⟨e, he, ht1⟩ := take_at (l := l) (j := k) (by rw [← HN.out]; exact hlt)
      obtain ⟨g, o, rfl, hcs⟩ := (HU.out.cells).2.2 (by omega)
      obtain ⟨c0, c1, c2, c3, c4⟩ := (hcs k e he).below HB.out
      have HP := Lib.hid (find1_ok e a s Bf Bn wr (boxed_later HBF.out HB.out) (boxed_later HBN.out HB.out))
      obtain ⟨r, hr⟩ : ∃ r, r = decide (e.p = a ∧ e.n = s) := ⟨_, rfl⟩
      rw [← hr] at HP
      have HR := Lib.hid hr
      have HT1 := Lib.hid ht1
      have HE := Lib.hid he
      obtain ⟨et, ed, ef, ep, en⟩ := e
      unfold Pl.ev at HP
      dsimp only at c0 c1 c2 c3 c4 HP
      clear hcs he ht1 hr
      go_wp2_with fail
      refine (HP.out).mono ?_
      rintro x w1 ⟨rfl, hB1⟩
      have HB1 := Lib.hid (HB.out.trans (hB1.mono HB.out.size))
      clear hB1 HP c0 c1 c2 c3 c4
      cases r with
      | false =>
        go_wp2_with fail
        exact ⟨⟨k + 1, by go_num, by omega, Lib.hid (by
          rw [HT1.out]
          intro y hy
          rcases List.mem_append.1 hy with hy | hy
          · exact HG.out y hy
          · rw [List.mem_singleton] at hy; rw [hy]; exact HR.out.symm), HB1⟩, by simp only [intOf]; omega⟩
      | true =>
        go_wp2_with fail
        go_ret
        exact ⟨_, rfl, .inr ⟨k, _, rfl, HE.out, HR.out.symm, HG.out⟩, HB1.out⟩
    · have hd : decide ((k : Int) < (n : Int)) = false := by simp; omega
      have hd' : decide (k < n) = false := by simp; omega
      obtain rfl : k = n := by omega
      go_wp2_with fail
      go_ret
      exact ⟨_, rfl, .inl ⟨rfl, by have h := HG.out; rw [List.take_of_length_le (by rw [← HN.out]; exact Nat.le_refl _)] at h; exact h⟩, HB.out⟩
theorem idx_step {T : List Pl} {a : Int} {s : ByteArray} {r : Int} (h : IdxR (fun x => decide (x.p = a ∧ x.n = s)) T r) : (r = -1 ∧ stepF T a s = none) ∨ ∃ (k : Nat) (e : Pl), r = k ∧ T[k]? = some e ∧ stepF T a s = some e := by
  rcases h with ⟨rfl, h⟩ | ⟨k, e, rfl, hk, hp, hpre⟩
  · refine .inl ⟨rfl, ?_⟩
    unfold stepF
    rw [List.find?_eq_none]
    intro x hx
    have := h x hx
    simpa using this
  · refine .inr ⟨k, e, rfl, hk, ?_⟩
    have hkl := (List.getElem?_eq_some_iff.1 hk).1
    have he : T[k] = e := by rw [List.getElem?_eq_getElem hkl] at hk; injection hk
    unfold stepF
    refine find_snoc_some (k := k) ?_ (by rw [List.take_succ_eq_append_getElem hkl, he]) hp
    rw [List.find?_eq_none]
    intro x hx
    have := hpre x hx
    simpa using this
theorem PlAt.away {w1 wr : World} {v : Value} {T : List Pl} {F : Nat} {x : Value} {t : TypeId} (h : PlAt w1 v T) (hA : AwayP F w1 wr) (hF : w1.heap[F]? = some (.cells #[x] t (0, 0))) : PlAt wr v T := by
  obtain ⟨hl, p, c, rfl, hc, hp, hcell⟩ := h
  refine ⟨hl, p, c, rfl, hc, hp, fun h0 => ?_⟩
  obtain ⟨g, o, e, hg⟩ := hcell h0
  refine ⟨g, o, e, fun j u hj => ?_⟩
  have hne : g ≠ F := by
    rintro rfl
    have h1 : 1 < (cellsP T).length := by rw [hl]; omega
    have h2 := hg 1 _ (List.getElem?_eq_getElem h1)
    rw [World.cell?, hF] at h2
    simp at h2
  have hcj := hg j u hj
  exact cellOld hcj (hA.block g (cellLt hcj) hne)
end Go.Proofs.Ytcflnjmglanneaa
