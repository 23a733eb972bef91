/- A law for a range over a function whose iterator may keep state in blocks of its own. Over whatever program. -/
import Derived.RangeFuncNested
import Derived.RangeFuncLeaves
import Derived.WalkKit
namespace Go.Proofs.Ytcflnjmglanneaa
open Go.RowKit

/-- From A to B: every block of A's that is not in Ψ lies as it lay, or holds no cells and lies at or beyond B0. -/
structure Turns (B0 : Nat) (Ψ : Nat → Prop) (A B : World) : Prop where
  os : B.os = A.os
  tape : B.tape = A.tape
  output : B.output = A.output
  size : A.heap.size ≤ B.heap.size
  block : ∀ k, k < A.heap.size → ¬ Ψ k → (B.heap[k]? = A.heap[k]? ∨ (B0 ≤ k ∧ ∃ o : Obj, A.heap[k]? = some o ∧ o.isCells = false))

theorem Turns.refl (B0 : Nat) (Ψ : Nat → Prop) (A : World) : Turns B0 Ψ A A := ⟨rfl, rfl, rfl, Nat.le_refl _, fun _ _ _ => .inl rfl⟩

theorem Turns.ofBelow {B0 : Nat} {Ψ : Nat → Prop} {A B : World} {n : Nat} (h : Below n A B) (hn : ∀ k, k < A.heap.size → ¬ Ψ k → k < n) : Turns B0 Ψ A B :=
  ⟨h.os, h.tape, h.output, h.size, fun k hk hp => .inl (h.block k (hn k hk hp))⟩

theorem Turns.alloc (B0 : Nat) (Ψ : Nat → Prop) (A : World) (o : Obj) : Turns B0 Ψ A (A.alloc o) :=
  ⟨rfl, rfl, rfl, by simp, fun k hk _ => .inl (Below.heap_alloc _ _ _ hk)⟩

theorem Turns.putObj {B0 : Nat} {Ψ : Nat → Prop} {A : World} {l : Nat} {o : Obj} (o' : Obj) (hl : A.heap[l]? = some o) (ho : o.isCells = false) (hB : B0 ≤ l) : Turns B0 Ψ A (A.putObj l o') := by
  refine ⟨rfl, rfl, rfl, by simp [World.putObj], fun k hk _ => ?_⟩
  by_cases e : k = l
  · subst e; exact .inr ⟨hB, o, hl, ho⟩
  · exact .inl (World.putObj_heap_other e)

/-- I abides what an iterator does: its own blocks are Ψ, and those that it makes; records are turned. -/
def Stable {β : Type} (B0 : Nat) (I : β → (Nat → Prop) → World → Prop) : Prop :=
  ∀ s Ψ Ψ' A B, I s Ψ A → Turns B0 Ψ' A B → (∀ k, Ψ k → Ψ' k) → (∀ k, Ψ' k → Ψ k ∨ A.heap.size ≤ k) → I s Ψ' B

theorem Stable.and {β : Type} {B0 : Nat} {I I' : β → (Nat → Prop) → World → Prop} (h : Stable B0 I) (h' : Stable B0 I') : Stable B0 (fun s Ψ W => I s Ψ W ∧ I' s Ψ W) :=
  fun s Ψ Ψ' A B hs ht h1 h2 => ⟨h s Ψ Ψ' A B hs.1 ht h1 h2, h' s Ψ Ψ' A B hs.2 ht h1 h2⟩

theorem Stable.keep {β : Type} {B0 : Nat} {I : β → (Nat → Prop) → World → Prop} (h : Stable B0 I) {s : β} {Ψ : Nat → Prop} {A B : World} (hs : I s Ψ A) (ht : Turns B0 Ψ A B) : I s Ψ B :=
  h s Ψ Ψ A B hs ht (fun _ h => h) (fun _ h => .inl h)

theorem Turns.cells {B0 : Nat} {Ψ : Nat → Prop} {A B : World} (h : Turns B0 Ψ A B) {k : Nat} {c : Array Value} {t : TypeId} {f : Nat × Nat} (hk : A.heap[k]? = some (.cells c t f)) (hp : ¬ Ψ k) : B.heap[k]? = some (.cells c t f) := by
  rcases h.block k (Array.getElem?_eq_some_iff.1 hk).1 hp with e | ⟨_, o, ho, hc⟩
  · exact e.trans hk
  · rw [hk] at ho; cases ho; cases hc

theorem Turns.row {B0 : Nat} {Ψ : Nat → Prop} {A B : World} (h : Turns B0 Ψ A B) {base : Nat} {e : TypeId} {size : Nat} {v : Value} {n : Nat} {xs : List Value}
    (hr : A.ownsRow base e size v n xs) (hp : ∀ j, v.ownBlock = some j → ¬ Ψ j) : B.ownsRow base e size v n xs := by
  refine ⟨hr.1, ?_⟩
  rcases hr.2 with hn | ⟨g, cap, cur, rfl, hb, hgg, rest⟩
  · exact .inl hn
  · exact .inr ⟨g, cap, cur, rfl, hb, h.cells hgg (hp g rfl), rest⟩

/-- A variable's box, and a slice in it that owns its row. -/
def BoxRow (b : Nat) (t : TypeId) (base : Nat) (e : TypeId) (size n : Nat) (xs : List Value) (G : Value → Prop) (Ψ : Nat → Prop) (W : World) : Prop :=
  ∃ v, Boxed W b t v ∧ ¬ Ψ b ∧ W.ownsRow base e size v n xs ∧ (∀ j, v.ownBlock = some j → ¬ Ψ j) ∧ G v

theorem stable_boxRow {β : Type} (B0 b : Nat) (t : TypeId) (base : Nat) (e : TypeId) (size : Nat) (n : β → Nat) (f : β → List Value) (G : β → Value → Prop) :
    Stable B0 (fun s Ψ W => BoxRow b t base e size (n s) (f s) (G s) Ψ W) := by
  rintro s Ψ Ψ' A B ⟨v, hv, hb, hr, hp, hG⟩ ht h1 h2
  have n1 : ¬ Ψ' b := fun h => by rcases h2 _ h with h | h; exact hb h; have := hv.lt; omega
  have n2 : ∀ j, v.ownBlock = some j → ¬ Ψ' j := fun j hj h => by
    rcases h2 _ h with h | h
    · exact hp j hj h
    · have := (hr.lt j hj).2; omega
  exact ⟨v, ht.cells hv n1, n1, ht.row hr n2, n2, hG⟩

theorem stable_boxed {β : Type} (B0 b : Nat) (t : TypeId) (f : β → Value) : Stable B0 (fun s Ψ W => Boxed W b t (f s) ∧ ¬ Ψ b) := by
  rintro s Ψ Ψ' A B ⟨hv, hb⟩ ht h1 h2
  have n1 : ¬ Ψ' b := fun h => by rcases h2 _ h with h | h; exact hb h; have := hv.lt; omega
  exact ⟨ht.cells hv n1, n1⟩

theorem stable_below {β : Type} (B0 n : Nat) (w : World) (hw : n ≤ w.heap.size) (hn : n ≤ B0) : Stable B0 (fun (_ : β) Ψ W => Below n w W ∧ ∀ k, Ψ k → n ≤ k) := by
  rintro s Ψ Ψ' A B ⟨hb, hp⟩ ht h1 h2
  have n1 : ∀ k, Ψ' k → n ≤ k := fun k h => by
    rcases h2 _ h with h | h
    · exact hp k h
    · have := hb.size; omega
  refine ⟨hb.trans ⟨ht.os, ht.tape, ht.output, ht.size, fun k hk => ?_⟩, n1⟩
  rcases ht.block k (by have := hb.size; omega) (fun h => by have := n1 k h; omega) with e | ⟨h, _⟩
  · exact e
  · omega

theorem grownBy_drew {A B : World} {r : Option Nat} (h : A.drew.grownBy B r) : A.grownBy B r := ⟨h.os, h.tape, h.output, h.size, h.block⟩

/-- What an append to a boxed slice leaves, in a round. -/
theorem appended_round {A w1 : World} {n₀ b B0 : Nat} {t e : TypeId} {size k m : Nat} {v v' : Value} {xs ys : List Value} {tmp : Obj} {Ψ : Nat → Prop}
    (hv : Boxed A b t v) (hte : t ≠ e) (hrow : A.ownsRow n₀ e size v k xs) (hn₀ : n₀ ≤ A.heap.size) (hB : n₀ ≤ b) (hnb : ¬ Ψ b) (hnj : ∀ j, v.ownBlock = some j → ¬ Ψ j)
    (hΨ : ∀ j, Ψ j → j < A.heap.size) (hown' : w1.ownsRow n₀ e size v' m ys) (hgrow : (A.alloc tmp).grownBy w1 v.ownBlock) (hv' : ∀ j, v'.ownBlock = some j → v.ownBlock = some j ∨ j = A.heap.size + 1) :
    (KeepsFrom B0 A (w1.setCell ⟨b, 0, none⟩ v') ∧ Below n₀ A (w1.setCell ⟨b, 0, none⟩ v') ∧ ∀ k, Ψ k → (w1.setCell ⟨b, 0, none⟩ v').heap[k]? = A.heap[k]?) ∧
    BoxRow b t n₀ e size m ys (fun x => x = v') Ψ (w1.setCell ⟨b, 0, none⟩ v') := by
  obtain ⟨h1, h2, h3, h4, h5⟩ := hv.appended hte hrow hn₀ hB hown' hgrow
  refine ⟨⟨h4.from _, h5, fun k hk => ?_⟩, v', h2, hnb, h3, fun j hj hp => ?_, rfl⟩
  · have hkl := hΨ k hk
    rw [Below.heap_setCell _ _ _ _ (show k ≠ b by rintro rfl; exact hnb hk), hgrow.block k (by simp; omega) (fun h => hnj k h.symm hk), Below.heap_alloc _ _ _ hkl]
  · rcases hv' j hj with h | h
    · exact hnj j h hp
    · have := hΨ j hp; omega

theorem stable_pure {β : Type} (B0 : Nat) (p : β → Prop) : Stable B0 (fun s _ _ => p s) := fun _ _ _ _ _ h _ _ _ => h

/-- The contract of an iterator: Ψ0 its own blocks at the start; n₀: what lies below it no round turns; V: what may have come. -/
def IterC {α : Type} (P : Program) (g : Nat) (lb : Array Value) (encs : α → Array Value) (Ψ0 : Nat → Prop) (n₀ : Nat) (S Sp V : List α → Prop) (w : World) : Prop :=
  ∀ (l : Nat) (J Jx : List α → (Nat → Prop) → World → Prop) (W : World), Below w.heap.size w W → Stable W.heap.size J → Stable W.heap.size Jx →
    (∀ pre x Ψ A, J pre Ψ A → (∀ k, Ψ k → k < A.heap.size) → V (pre ++ [x]) → YieldAt Fence.wide 0 P l (encs x) A fun e B =>
      (e = .returned (.bool true) ∧ J (pre ++ [x]) Ψ B ∧ Below n₀ A B ∧ ∀ k, Ψ k → B.heap[k]? = A.heap[k]?) ∨ (e = .returned (.bool false) ∧ Jx (pre ++ [x]) Ψ B ∧ Below n₀ A B ∧ ∀ k, Ψ k → B.heap[k]? = A.heap[k]?)) →
    J [] Ψ0 W →
    Calls P g (#[.func (.yield l) #[] #[]] ++ lb) W fun e B => (∃ v, e = .returned v) ∧ ((∃ xs Ψ, S xs ∧ J xs Ψ B) ∨ (∃ pre Ψ, Sp pre ∧ Jx pre Ψ B))

/-- How the body of a round may be left. -/
def rbPost {α : Type} (B0 n₀ : Nat) (I : List α → (Nat → Prop) → World → Prop) (Ix : Code → List α → (Nat → Prop) → World → Prop) (xs : List α) (Ψ : Nat → Prop) (A : World) : Exit → Act → World → Prop
  | .normal, _, B => (KeepsFrom B0 A B ∧ Below n₀ A B ∧ ∀ k, Ψ k → B.heap[k]? = A.heap[k]?) ∧ I xs Ψ B
  | .ret, _, B => (KeepsFrom B0 A B ∧ Below n₀ A B ∧ ∀ k, Ψ k → B.heap[k]? = A.heap[k]?) ∧ Ix .ret xs Ψ B
  | .exit id, _, B => (KeepsFrom B0 A B ∧ Below n₀ A B ∧ ∀ k, Ψ k → B.heap[k]? = A.heap[k]?) ∧ Ix (.exit id) xs Ψ B
  | .goto t, _, B => (KeepsFrom B0 A B ∧ Below n₀ A B ∧ ∀ k, Ψ k → B.heap[k]? = A.heap[k]?) ∧ Ix (.goto t) xs Ψ B
  | .panic _, _, _ => False
  | .outgrown, _, _ => False

theorem roundIn_wide {P : Program} {l f : Nat} {tmps : Array Value} {assign body : Code} {w : World} {R : Ending → World → Prop} {n m : Nat}
    (h : RoundIn Fence.wide n P l f tmps assign body w R) : RoundIn Fence.wide m P l f tmps assign body w R :=
  ⟨h.1, fun c cs _ => h.2 c cs (room_wide _)⟩

theorem below_putObj {n : Nat} {W : World} {l : Nat} {o' : Obj} (hl : n ≤ l) : Below n W (W.putObj l o') :=
  ⟨rfl, rfl, rfl, by simp [World.putObj], fun k hk => World.putObj_heap_other (by omega)⟩

variable {P : Program}

/-- The law, outermost loop. -/
theorem rf_law {α : Type} {g : Operand} {ps : Array Tmp} {assign body : Code} {Q : Exit → Act → World → Prop} {a : Act} {w : World} {n : Nat}
    {gf : Nat} {lb : Array Value} (hg : a.eval g = .func (.func gf) #[] lb) (eg : ∀ args w, (callFunc gf args).run P w = .ok (.enter gf args) w)
    {encs : α → Array Value} {Ψ0 : Nat → Prop} {n₀ : Nat} {S Sp V : List α → Prop} (hit : IterC P gf lb encs Ψ0 n₀ S Sp V w)
    (hn₀ : n₀ ≤ w.heap.size) (hps : ∀ x, (encs x).size = ps.size) (hΨ0 : ∀ k, Ψ0 k → k < w.heap.size)
    (I : List α → (Nat → Prop) → World → Prop) (Ix : Code → List α → (Nat → Prop) → World → Prop) (hI : Stable w.heap.size I) (hIx : ∀ c, Stable w.heap.size (Ix c)) (h0 : I [] Ψ0 w)
    (Ax : α → Act → (Nat → Prop) → World → Prop) (hAx : Stable w.heap.size (fun (s : α × Act) Ψ W => Ax s.1 s.2 Ψ W))
    (hassign : ∀ (l : Nat) (pre : List α) (x : α) (Ψ : Nat → Prop) (A : World) (K : Act → World → Prop), I pre Ψ A → V (pre ++ [x]) →
      (∀ a1 A1, Below A.heap.size A A1 → I pre Ψ A1 → Ax x a1 Ψ A1 → K a1 A1) →
      assign.wpIn (Fence.wide.inRound l) 0 P (Exit.then K (fun _ _ _ => False)) { tmps := (ps.zip (encs x)).foldl (fun t (p, v) => t.setIfInBounds p v) a.tmps, defers := [] } A)
    (hbody : ∀ (l : Nat) (pre : List α) (x : α) (Ψ : Nat → Prop) (a1 : Act) (A : World), I pre Ψ A → Ax x a1 Ψ A → V (pre ++ [x]) → (∀ k, Ψ k → k < A.heap.size) → w.heap.size ≤ A.heap.size → (∃ r, A.heap[l]? = some (.loop r)) →
      body.wpIn (Fence.wide.inRound l) 0 P (rbPost w.heap.size n₀ I Ix (pre ++ [x]) Ψ A) a1 A)
    (hdone : ∀ (D : Nat) (xs : List α) (Ψ : Nat → Prop) (W : World), w.heap.size ≤ D → S xs → I xs Ψ W → W.heap[D]? = some (.deferred (some [])) → Q .normal { a with defers := { target := .collected D, args := #[] } :: a.defers } W)
    (hstop : ∀ (D : Nat) (c : Code) (pre : List α) (Ψ : Nat → Prop) (W : World), w.heap.size ≤ D → Sp pre → Ix c pre Ψ W → W.heap[D]? = some (.deferred (some [])) → c.wpIn Fence.wide n P Q { a with defers := { target := .collected D, args := #[] } :: a.defers } W) :
    (Code.rangeFunc g ps assign body).wpIn Fence.wide n P Q a w := by
  refine wpIn_rangeFunc ?_
  intro fn hfn
  obtain ⟨rec, hrec⟩ : ∃ rec : LoopState → Option Code → Loop, rec = fun st pe => { state := st, pending := pe, fn, tmps := a.tmps, params := ps, assign, body, defers := w.heap.size } := ⟨_, rfl⟩
  obtain ⟨W1, hW1⟩ : ∃ W1, (w.alloc (.deferred (some []))).alloc (.loop (rec .ready none)) = W1 := ⟨_, rfl⟩
  have hsz : W1.heap.size = w.heap.size + 2 := by rw [← hW1]; simp
  have hL1 : W1.heap[w.heap.size + 1]? = some (.loop (rec .ready none)) := by
    rw [← hW1]; have := World.alloc_heap_new (w.alloc (.deferred (some []))) (.loop (rec .ready none)); rwa [World.size_alloc] at this
  have hK1 : W1.heap[w.heap.size]? = some (.deferred (some [])) := by
    rw [← hW1]; exact (Below.heap_alloc _ _ _ (by simp)).trans (World.alloc_heap_new w _)
  have hI1 : I [] Ψ0 W1 := by rw [← hW1]; exact hI.keep (hI.keep h0 (Turns.alloc _ _ _ _)) (Turns.alloc _ _ _ _)
  have hb1 : Below w.heap.size w W1 := by
    rw [← hW1]; exact (((Below.refl _ w).alloc (Nat.le_refl _) _).alloc (by simp) _)
  -- the two blocks of book-keeping, and what lies outside Ψ
  let Bk (st : LoopState) (pe : Option Code) (Ψ : Nat → Prop) (W : World) : Prop :=
    W.heap[w.heap.size + 1]? = some (.loop (rec st pe)) ∧ W.heap[w.heap.size]? = some (.deferred (some [])) ∧ ¬ Ψ w.heap.size ∧ ¬ Ψ (w.heap.size + 1)
  have hBk : ∀ st pe, Stable W1.heap.size (fun (_ : List α) Ψ W => Bk st pe Ψ W) := by
    rintro st pe s Ψ Ψ' A B ⟨h1, h2, h3, h4⟩ ht hs1 hs2
    have hlt := (Array.getElem?_eq_some_iff.1 h1).1
    have n3 : ¬ Ψ' w.heap.size := fun h => by rcases hs2 _ h with h | h; exact h3 h; omega
    have n4 : ¬ Ψ' (w.heap.size + 1) := fun h => by rcases hs2 _ h with h | h; exact h4 h; omega
    refine ⟨?_, ?_, n3, n4⟩
    · rcases ht.block _ hlt n4 with h | ⟨h, _⟩
      · exact h.trans h1
      · omega
    · rcases ht.block _ (by omega) n3 with h | ⟨h, _⟩
      · exact h.trans h2
      · omega
  have up : ∀ {β : Type} {I : β → (Nat → Prop) → World → Prop}, Stable w.heap.size I → Stable W1.heap.size I := by
    intro β I h s Ψ Ψ' A B hs ht h1 h2
    refine h s Ψ Ψ' A B hs ⟨ht.os, ht.tape, ht.output, ht.size, fun k hk hp => ?_⟩ h1 h2
    rcases ht.block k hk hp with h | ⟨h, h'⟩
    · exact .inl h
    · exact .inr ⟨by omega, h'⟩
  have hstIx : Stable W1.heap.size (fun (pre : List α) Ψ W => ∃ c, Ix c pre Ψ W ∧ Bk .done (some c) Ψ W) := by
    rintro s Ψ Ψ' A B ⟨c, hc, hb⟩ ht h1 h2
    exact ⟨c, up (hIx c) s Ψ Ψ' A B hc ht h1 h2, hBk _ _ s Ψ Ψ' A B hb ht h1 h2⟩
  refine ⟨w.heap.size + 1, [{ target := .collected w.heap.size, args := #[] }], W1, { target := .fn (.func gf) lb, args := #[.func (.yield (w.heap.size + 1)) #[] #[]] }, W1, gf,
    #[.func (.yield (w.heap.size + 1)) #[] #[]] ++ lb, W1, ?_, ?_, ?_, ?_, ?_, ?_⟩
  · rw [← hW1, hrec]; exact run_enterLoop_outer _ _ _ _ _
  · simp only [resolve, hg]
    simp [go_sem]
  · intro f' hf'; simp [Target.leads] at hf'; subst hf'; trivial
  · simp [invoke, go_sem, eg]
  · intro h; simp [Fence.wide] at h
  · refine callsIn_wide.2 ((hit (w.heap.size + 1) (fun pre Ψ W => I pre Ψ W ∧ Bk .ready none Ψ W) (fun pre Ψ W => ∃ c, Ix c pre Ψ W ∧ Bk .done (some c) Ψ W) W1 hb1
      ((up hI).and (hBk _ _)) hstIx ?_ ⟨hI1, hL1, hK1, fun h => by have := hΨ0 _ h; omega, fun h => by have := hΨ0 _ h; omega⟩).mono ?_)
    · -- one round
      rintro pre x Ψ W ⟨hi, hl, hk, hd, hl'⟩ hΨlt hlen
      have hlt : w.heap.size + 1 < W.heap.size := (Array.getElem?_eq_some_iff.1 hl).1
      have hy := run_yield (P := P) (args := encs x) hl (by rw [hrec]; exact hps x)
      rw [hrec] at hy
      refine ⟨fn, _, assign, body, hy, roundIn_of_wpIn hfn (hassign _ pre x Ψ W _ hi hlen ?_)⟩
      intro a1 A1 hbA hiA hax
      have hlA : A1.heap[w.heap.size + 1]? = some (.loop (rec .ready none)) := (hbA.block _ hlt).trans hl
      have hkA : A1.heap[w.heap.size]? = some (.deferred (some [])) := (hbA.block _ (by omega)).trans hk
      have hltA : w.heap.size + 1 < A1.heap.size := (Array.getElem?_eq_some_iff.1 hlA).1
      refine ⟨_, run_beginRound hlA (by rw [hrec]), ?_⟩
      have hl2 : (A1.putObj (w.heap.size + 1) (.loop { rec .ready none with state := .busy })).heap[w.heap.size + 1]? = some (.loop { rec .ready none with state := .busy }) := World.putObj_heap_same hltA
      have hk2 : (A1.putObj (w.heap.size + 1) (.loop { rec .ready none with state := .busy })).heap[w.heap.size]? = some (.deferred (some [])) := (World.putObj_heap_other (by omega)).trans hkA
      have t2 : Turns w.heap.size Ψ A1 (A1.putObj (w.heap.size + 1) (.loop { rec .ready none with state := .busy })) := Turns.putObj _ hlA rfl (by omega)
      refine wpIn_mono (hbody _ pre x Ψ a1 _ (hI.keep hiA t2) (hAx.keep (s := (x, a1)) hax t2) hlen (fun k hk' => by have := hΨlt k hk'; have := hbA.size; simp [World.putObj]; omega) (by simp [World.putObj]; omega) ⟨_, hl2⟩) ?_
      obtain ⟨A2, hA2⟩ : ∃ A2, A1.putObj (w.heap.size + 1) (.loop { rec .ready none with state := .busy }) = A2 := ⟨_, rfl⟩
      have hbA2 : Below n₀ W A2 := by rw [← hA2]; exact (hbA.mono (by omega)).trans (below_putObj (by omega))
      have hpA2 : ∀ k, Ψ k → k < W.heap.size → A2.heap[k]? = W.heap[k]? := by
        intro k hk' hkW
        rw [← hA2, World.putObj_heap_other (by intro e; subst e; exact hl' hk'), hbA.block k hkW]
      have hsA2 : W.heap.size ≤ A2.heap.size := hbA2.size
      rw [hA2] at hl2 hk2 ⊢
      have fin : ∀ (jump : Option Code) (W3 : World), (KeepsFrom w.heap.size A2 W3 ∧ Below n₀ A2 W3 ∧ ∀ k, Ψ k → W3.heap[k]? = A2.heap[k]?) →
          (Instr.endRound (w.heap.size + 1) jump).run P W3 = .ok (.bool jump.isNone) (W3.putObj (w.heap.size + 1) (.loop (rec (if jump.isNone then .ready else .done) jump))) ∧
          Turns w.heap.size Ψ W3 (W3.putObj (w.heap.size + 1) (.loop (rec (if jump.isNone then .ready else .done) jump))) ∧
          Bk (if jump.isNone then .ready else .done) jump Ψ (W3.putObj (w.heap.size + 1) (.loop (rec (if jump.isNone then .ready else .done) jump))) ∧
          Below n₀ W (W3.putObj (w.heap.size + 1) (.loop (rec (if jump.isNone then .ready else .done) jump))) ∧
          ∀ k, Ψ k → (W3.putObj (w.heap.size + 1) (.loop (rec (if jump.isNone then .ready else .done) jump))).heap[k]? = W.heap[k]? := by
        rintro jump W3 ⟨hk3, hb3, hp3⟩
        have hl3 := hk3.same _ _ (by omega) hl2 rfl
        have hr := run_endRound (P := P) jump hl3
        rw [hrec] at hr ⊢
        refine ⟨hr, Turns.putObj _ hl3 rfl (by omega), ⟨?_, (World.putObj_heap_other (by omega)).trans (hk3.same _ _ (Nat.le_refl _) hk2 rfl), hd, hl'⟩, (hbA2.trans hb3).trans (below_putObj (by omega)), fun k hk' => ?_⟩
        · rw [hrec]; exact World.putObj_heap_same (Array.getElem?_eq_some_iff.1 hl3).1
        · rw [World.putObj_heap_other (by intro e; subst e; exact hl' hk'), hp3 k hk']
          by_cases hkW : k < W.heap.size
          · exact hpA2 k hk' hkW
          · exact absurd (hΨlt k hk') hkW
      rintro e a3 W3 hp
      cases e with
      | normal =>
        obtain ⟨hk3, hi3⟩ := hp
        obtain ⟨hr, ht3, hb3, hB3, hp3⟩ := fin none W3 hk3
        exact ⟨_, _, hr, .inl ⟨rfl, ⟨hI.keep hi3 ht3, hb3⟩, hB3, hp3⟩⟩
      | ret =>
        obtain ⟨hk3, hi3⟩ := hp
        obtain ⟨hr, ht3, hb3, hB3, hp3⟩ := fin (some .ret) W3 hk3
        exact ⟨_, _, hr, .inr ⟨rfl, ⟨.ret, (hIx _).keep hi3 ht3, hb3⟩, hB3, hp3⟩⟩
      | exit id =>
        obtain ⟨hk3, hi3⟩ := hp
        obtain ⟨hr, ht3, hb3, hB3, hp3⟩ := fin (some (.exit id)) W3 hk3
        exact ⟨_, _, hr, .inr ⟨rfl, ⟨.exit id, (hIx _).keep hi3 ht3, hb3⟩, hB3, hp3⟩⟩
      | goto t =>
        obtain ⟨hk3, hi3⟩ := hp
        obtain ⟨hr, ht3, hb3, hB3, hp3⟩ := fin (some (.goto t)) W3 hk3
        exact ⟨_, _, hr, .inr ⟨rfl, ⟨.goto t, (hIx _).keep hi3 ht3, hb3⟩, hB3, hp3⟩⟩
      | panic ch => exact hp.elim
      | outgrown => exact hp.elim
    · -- behind the iterator
      rintro e W2 ⟨⟨v, rfl⟩, (⟨xs, Ψ, hS, hi, hl, hk, hd, hl'⟩ | ⟨pre, Ψ, hSp, c, hi, hl, hk, hd, hl'⟩)⟩
      · exact ⟨none, _, by have := run_endLoop (P := P) hl (by rw [hrec]; simp); rw [hrec] at this; exact this, hdone _ xs Ψ _ (Nat.le_refl _) hS (hI.keep hi (Turns.putObj _ hl rfl (by omega))) ((World.putObj_heap_other (by omega)).trans hk)⟩
      · exact ⟨some c, _, by have := run_endLoop (P := P) hl (by rw [hrec]; simp); rw [hrec] at this; exact this, hstop _ c pre Ψ _ (Nat.le_refl _) hSp ((hIx c).keep hi (Turns.putObj _ hl rfl (by omega))) ((World.putObj_heap_other (by omega)).trans hk)⟩
end Go.Proofs.Ytcflnjmglanneaa
