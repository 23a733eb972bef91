/- A law for a range over a function whose iterator may keep state in blocks of its own (Rf), for a body that hands values on to another loop: of what is no cells the loop's own two blocks alone must lie as they lay. Over whatever program. -/
import Derived.Test.YtekdekchbnacgaaRf
namespace Go.Proofs.Ytekdekchbnacgaa
open Go.RowKit

/-- How the body of a round may be left, the loop's own two blocks as they lay. -/
def rbPost2 {α : Type} (B0 n₀ : Nat) (I : List α → (Nat → Prop) → World → Prop) (Ix : Code → List α → (Nat → Prop) → World → Prop) (xs : List α) (Ψ : Nat → Prop) (A : World) : Exit → Act → World → Prop
  | .normal, _, B => ((B.heap[B0]? = A.heap[B0]? ∧ B.heap[B0 + 1]? = A.heap[B0 + 1]?) ∧ Below n₀ A B ∧ ∀ k, Ψ k → B.heap[k]? = A.heap[k]?) ∧ I xs Ψ B
  | .ret, _, B => ((B.heap[B0]? = A.heap[B0]? ∧ B.heap[B0 + 1]? = A.heap[B0 + 1]?) ∧ Below n₀ A B ∧ ∀ k, Ψ k → B.heap[k]? = A.heap[k]?) ∧ Ix .ret xs Ψ B
  | .exit id, _, B => ((B.heap[B0]? = A.heap[B0]? ∧ B.heap[B0 + 1]? = A.heap[B0 + 1]?) ∧ Below n₀ A B ∧ ∀ k, Ψ k → B.heap[k]? = A.heap[k]?) ∧ Ix (.exit id) xs Ψ B
  | .goto t, _, B => ((B.heap[B0]? = A.heap[B0]? ∧ B.heap[B0 + 1]? = A.heap[B0 + 1]?) ∧ Below n₀ A B ∧ ∀ k, Ψ k → B.heap[k]? = A.heap[k]?) ∧ Ix (.goto t) xs Ψ B
  | .panic _, _, _ => False
  | .outgrown, _, _ => False

variable {P : Program}

/-- The law, outermost loop. -/
theorem rf_law2 {α : Type} {g : Operand} {ps : Array Tmp} {assign body : Code} {Q : Exit → Act → World → Prop} {a : Act} {w : World} {n : Nat}
    {gf : Nat} {lb : Array Value} (hg : a.eval g = .func (.func gf) #[] lb) (eg : ∀ args w, (callFunc gf args).run P w = .ok (.enter gf args) w)
    {encs : α → Array Value} {Ψ0 : Nat → Prop} {n₀ : Nat} {S Sp V : List α → Prop} (hit : IterC P gf lb encs Ψ0 n₀ S Sp V w)
    (hn₀ : n₀ ≤ w.heap.size) (hps : ∀ x, (encs x).size = ps.size) (hΨ0 : ∀ k, Ψ0 k → k < w.heap.size)
    (I : List α → (Nat → Prop) → World → Prop) (Ix : Code → List α → (Nat → Prop) → World → Prop) (hI : Stable w.heap.size I) (hIx : ∀ c, Stable w.heap.size (Ix c)) (h0 : I [] Ψ0 w)
    (Ax : α → Act → (Nat → Prop) → World → Prop) (hAx : Stable w.heap.size (fun (s : α × Act) Ψ W => Ax s.1 s.2 Ψ W))
    (hassign : ∀ (l : Nat) (pre : List α) (x : α) (Ψ : Nat → Prop) (A : World) (K : Act → World → Prop), I pre Ψ A → V (pre ++ [x]) →
      (∀ a1 A1, Below A.heap.size A A1 → I pre Ψ A1 → Ax x a1 Ψ A1 → K a1 A1) →
      assign.wpIn (Fence.wide.inRound l) 0 P (Exit.then K (fun _ _ _ => False)) { tmps := (ps.zip (encs x)).foldl (fun t (p, v) => t.setIfInBounds p v) a.tmps, defers := [] } A)
    (hbody : ∀ (l : Nat) (pre : List α) (x : α) (Ψ : Nat → Prop) (a1 : Act) (A : World), I pre Ψ A → Ax x a1 Ψ A → V (pre ++ [x]) → (∀ k, Ψ k → k < A.heap.size) → w.heap.size + 2 ≤ A.heap.size → (∃ r, A.heap[l]? = some (.loop r)) →
      body.wpIn (Fence.wide.inRound l) 0 P (rbPost2 w.heap.size n₀ I Ix (pre ++ [x]) Ψ A) a1 A)
    (hdone : ∀ (D : Nat) (xs : List α) (Ψ : Nat → Prop) (W : World), D = w.heap.size → S xs → I xs Ψ W → W.heap[D]? = some (.deferred (some [])) → Q .normal { a with defers := { target := .collected D, args := #[] } :: a.defers } W)
    (hstop : ∀ (D : Nat) (c : Code) (pre : List α) (Ψ : Nat → Prop) (W : World), D = w.heap.size → Sp pre → Ix c pre Ψ W → W.heap[D]? = some (.deferred (some [])) → c.wpIn Fence.wide n P Q { a with defers := { target := .collected D, args := #[] } :: a.defers } W) :
    (Code.rangeFunc g ps assign body).wpIn Fence.wide n P Q a w := by
  refine wpIn_rangeFunc ?_
  intro fn hfn
  obtain ⟨rec, hrec⟩ : ∃ rec : LoopState → Option Code → Loop, rec = fun st pe => { state := st, pending := pe, fn, tmps := a.tmps, params := ps, assign, body, defers := w.heap.size } := ⟨_, rfl⟩
  obtain ⟨W1, hW1⟩ : ∃ W1, (w.alloc (.deferred (some []))).alloc (.loop (rec .ready none)) = W1 := ⟨_, rfl⟩
  have hsz : W1.heap.size = w.heap.size + 2 := by rw [← hW1]; simp
  have hL1 : W1.heap[w.heap.size + 1]? = some (.loop (rec .ready none)) := by
    rw [← hW1]; have := World.alloc_heap_new (w.alloc (.deferred (some []))) (.loop (rec .ready none)); rwa [World.size_alloc] at this
  have hK1 : W1.heap[w.heap.size]? = some (.deferred (some [])) := by
    rw [← hW1]; exact (Below.heap_alloc _ _ _ (by simp)).trans (World.alloc_heap_new w _)
  have hI1 : I [] Ψ0 W1 := by rw [← hW1]; exact hI.keep (hI.keep h0 (Turns.alloc _ _ _ _)) (Turns.alloc _ _ _ _)
  have hb1 : Below w.heap.size w W1 := by
    rw [← hW1]; exact (((Below.refl _ w).alloc (Nat.le_refl _) _).alloc (by simp) _)
  -- the two blocks of book-keeping, and what lies outside Ψ
  let Bk (st : LoopState) (pe : Option Code) (Ψ : Nat → Prop) (W : World) : Prop :=
    W.heap[w.heap.size + 1]? = some (.loop (rec st pe)) ∧ W.heap[w.heap.size]? = some (.deferred (some [])) ∧ ¬ Ψ w.heap.size ∧ ¬ Ψ (w.heap.size + 1)
  have hBk : ∀ st pe, Stable W1.heap.size (fun (_ : List α) Ψ W => Bk st pe Ψ W) := by
    rintro st pe s Ψ Ψ' A B ⟨h1, h2, h3, h4⟩ ht hs1 hs2
    have hlt := (Array.getElem?_eq_some_iff.1 h1).1
    have n3 : ¬ Ψ' w.heap.size := fun h => by rcases hs2 _ h with h | h; exact h3 h; omega
    have n4 : ¬ Ψ' (w.heap.size + 1) := fun h => by rcases hs2 _ h with h | h; exact h4 h; omega
    refine ⟨?_, ?_, n3, n4⟩
    · rcases ht.block _ hlt n4 with h | ⟨h, _⟩
      · exact h.trans h1
      · omega
    · rcases ht.block _ (by omega) n3 with h | ⟨h, _⟩
      · exact h.trans h2
      · omega
  have up : ∀ {β : Type} {I : β → (Nat → Prop) → World → Prop}, Stable w.heap.size I → Stable W1.heap.size I := by
    intro β I h s Ψ Ψ' A B hs ht h1 h2
    refine h s Ψ Ψ' A B hs ⟨ht.os, ht.tape, ht.output, ht.size, fun k hk hp => ?_⟩ h1 h2
    rcases ht.block k hk hp with h | ⟨h, h'⟩
    · exact .inl h
    · exact .inr ⟨by omega, h'⟩
  have hstIx : Stable W1.heap.size (fun (pre : List α) Ψ W => ∃ c, Ix c pre Ψ W ∧ Bk .done (some c) Ψ W) := by
    rintro s Ψ Ψ' A B ⟨c, hc, hb⟩ ht h1 h2
    exact ⟨c, up (hIx c) s Ψ Ψ' A B hc ht h1 h2, hBk _ _ s Ψ Ψ' A B hb ht h1 h2⟩
  refine ⟨w.heap.size + 1, [{ target := .collected w.heap.size, args := #[] }], W1, { target := .fn (.func gf) lb, args := #[.func (.yield (w.heap.size + 1)) #[] #[]] }, W1, gf,
    #[.func (.yield (w.heap.size + 1)) #[] #[]] ++ lb, W1, ?_, ?_, ?_, ?_, ?_, ?_⟩
  · rw [← hW1, hrec]; exact run_enterLoop_outer _ _ _ _ _
  · simp only [resolve, hg]
    simp [go_sem]
  · intro f' hf'; simp [Target.leads] at hf'; subst hf'; trivial
  · simp [invoke, go_sem, eg]
  · intro h; simp [Fence.wide] at h
  · refine callsIn_wide.2 ((hit (w.heap.size + 1) (fun pre Ψ W => I pre Ψ W ∧ Bk .ready none Ψ W) (fun pre Ψ W => ∃ c, Ix c pre Ψ W ∧ Bk .done (some c) Ψ W) W1 hb1
      ((up hI).and (hBk _ _)) hstIx ?_ ⟨hI1, hL1, hK1, fun h => by have := hΨ0 _ h; omega, fun h => by have := hΨ0 _ h; omega⟩).mono ?_)
    · -- one round
      rintro pre x Ψ W ⟨hi, hl, hk, hd, hl'⟩ hΨlt hlen
      have hlt : w.heap.size + 1 < W.heap.size := (Array.getElem?_eq_some_iff.1 hl).1
      have hy := run_yield (P := P) (args := encs x) hl (by rw [hrec]; exact hps x)
      rw [hrec] at hy
      refine ⟨fn, _, assign, body, hy, roundIn_of_wpIn hfn (hassign _ pre x Ψ W _ hi hlen ?_)⟩
      intro a1 A1 hbA hiA hax
      have hlA : A1.heap[w.heap.size + 1]? = some (.loop (rec .ready none)) := (hbA.block _ hlt).trans hl
      have hkA : A1.heap[w.heap.size]? = some (.deferred (some [])) := (hbA.block _ (by omega)).trans hk
      have hltA : w.heap.size + 1 < A1.heap.size := (Array.getElem?_eq_some_iff.1 hlA).1
      refine ⟨_, run_beginRound hlA (by rw [hrec]), ?_⟩
      have hl2 : (A1.putObj (w.heap.size + 1) (.loop { rec .ready none with state := .busy })).heap[w.heap.size + 1]? = some (.loop { rec .ready none with state := .busy }) := World.putObj_heap_same hltA
      have hk2 : (A1.putObj (w.heap.size + 1) (.loop { rec .ready none with state := .busy })).heap[w.heap.size]? = some (.deferred (some [])) := (World.putObj_heap_other (by omega)).trans hkA
      have t2 : Turns w.heap.size Ψ A1 (A1.putObj (w.heap.size + 1) (.loop { rec .ready none with state := .busy })) := Turns.putObj _ hlA rfl (by omega)
      refine wpIn_mono (hbody _ pre x Ψ a1 _ (hI.keep hiA t2) (hAx.keep (s := (x, a1)) hax t2) hlen (fun k hk' => by have := hΨlt k hk'; have := hbA.size; simp [World.putObj]; omega) (by simp [World.putObj]; omega) ⟨_, hl2⟩) ?_
      obtain ⟨A2, hA2⟩ : ∃ A2, A1.putObj (w.heap.size + 1) (.loop { rec .ready none with state := .busy }) = A2 := ⟨_, rfl⟩
      have hbA2 : Below n₀ W A2 := by rw [← hA2]; exact (hbA.mono (by omega)).trans (below_putObj (by omega))
      have hpA2 : ∀ k, Ψ k → k < W.heap.size → A2.heap[k]? = W.heap[k]? := by
        intro k hk' hkW
        rw [← hA2, World.putObj_heap_other (by intro e; subst e; exact hl' hk'), hbA.block k hkW]
      have hsA2 : W.heap.size ≤ A2.heap.size := hbA2.size
      rw [hA2] at hl2 hk2 ⊢
      have fin : ∀ (jump : Option Code) (W3 : World), ((W3.heap[w.heap.size]? = A2.heap[w.heap.size]? ∧ W3.heap[w.heap.size + 1]? = A2.heap[w.heap.size + 1]?) ∧ Below n₀ A2 W3 ∧ ∀ k, Ψ k → W3.heap[k]? = A2.heap[k]?) →
          (Instr.endRound (w.heap.size + 1) jump).run P W3 = .ok (.bool jump.isNone) (W3.putObj (w.heap.size + 1) (.loop (rec (if jump.isNone then .ready else .done) jump))) ∧
          Turns w.heap.size Ψ W3 (W3.putObj (w.heap.size + 1) (.loop (rec (if jump.isNone then .ready else .done) jump))) ∧
          Bk (if jump.isNone then .ready else .done) jump Ψ (W3.putObj (w.heap.size + 1) (.loop (rec (if jump.isNone then .ready else .done) jump))) ∧
          Below n₀ W (W3.putObj (w.heap.size + 1) (.loop (rec (if jump.isNone then .ready else .done) jump))) ∧
          ∀ k, Ψ k → (W3.putObj (w.heap.size + 1) (.loop (rec (if jump.isNone then .ready else .done) jump))).heap[k]? = W.heap[k]? := by
        rintro jump W3 ⟨hk3, hb3, hp3⟩
        have hl3 := hk3.2.trans hl2
        have hr := run_endRound (P := P) jump hl3
        rw [hrec] at hr ⊢
        refine ⟨hr, Turns.putObj _ hl3 rfl (by omega), ⟨?_, (World.putObj_heap_other (by omega)).trans (hk3.1.trans hk2), hd, hl'⟩, (hbA2.trans hb3).trans (below_putObj (by omega)), fun k hk' => ?_⟩
        · rw [hrec]; exact World.putObj_heap_same (Array.getElem?_eq_some_iff.1 hl3).1
        · rw [World.putObj_heap_other (by intro e; subst e; exact hl' hk'), hp3 k hk']
          by_cases hkW : k < W.heap.size
          · exact hpA2 k hk' hkW
          · exact absurd (hΨlt k hk') hkW
      rintro e a3 W3 hp
      cases e with
      | normal =>
        obtain ⟨hk3, hi3⟩ := hp
        obtain ⟨hr, ht3, hb3, hB3, hp3⟩ := fin none W3 hk3
        exact ⟨_, _, hr, .inl ⟨rfl, ⟨hI.keep hi3 ht3, hb3⟩, hB3, hp3⟩⟩
      | ret =>
        obtain ⟨hk3, hi3⟩ := hp
        obtain ⟨hr, ht3, hb3, hB3, hp3⟩ := fin (some .ret) W3 hk3
        exact ⟨_, _, hr, .inr ⟨rfl, ⟨.ret, (hIx _).keep hi3 ht3, hb3⟩, hB3, hp3⟩⟩
      | exit id =>
        obtain ⟨hk3, hi3⟩ := hp
        obtain ⟨hr, ht3, hb3, hB3, hp3⟩ := fin (some (.exit id)) W3 hk3
        exact ⟨_, _, hr, .inr ⟨rfl, ⟨.exit id, (hIx _).keep hi3 ht3, hb3⟩, hB3, hp3⟩⟩
      | goto t =>
        obtain ⟨hk3, hi3⟩ := hp
        obtain ⟨hr, ht3, hb3, hB3, hp3⟩ := fin (some (.goto t)) W3 hk3
        exact ⟨_, _, hr, .inr ⟨rfl, ⟨.goto t, (hIx _).keep hi3 ht3, hb3⟩, hB3, hp3⟩⟩
      | panic ch => exact hp.elim
      | outgrown => exact hp.elim
    · -- behind the iterator
      rintro e W2 ⟨⟨v, rfl⟩, (⟨xs, Ψ, hS, hi, hl, hk, hd, hl'⟩ | ⟨pre, Ψ, hSp, c, hi, hl, hk, hd, hl'⟩)⟩
      · exact ⟨none, _, by have := run_endLoop (P := P) hl (by rw [hrec]; simp); rw [hrec] at this; exact this, hdone _ xs Ψ _ rfl hS (hI.keep hi (Turns.putObj _ hl rfl (by omega))) ((World.putObj_heap_other (by omega)).trans hk)⟩
      · exact ⟨some c, _, by have := run_endLoop (P := P) hl (by rw [hrec]; simp); rw [hrec] at this; exact this, hstop _ c pre Ψ _ rfl hSp ((hIx c).keep hi (Turns.putObj _ hl rfl (by omega))) ((World.putObj_heap_other (by omega)).trans hk)⟩
end Go.Proofs.Ytekdekchbnacgaa
