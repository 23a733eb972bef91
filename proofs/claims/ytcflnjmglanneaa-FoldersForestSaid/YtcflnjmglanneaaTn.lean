/- Folders: the plain law of forests: levels, heights, and what another place does. -/
import Derived.Test.YtcflnjmglanneaaTm
namespace Go.Proofs.Ytcflnjmglanneaa
set_option linter.unusedVariables false
set_option linter.unusedSimpArgs false

/-- The folders above a folder, from below, by a map of places: at most N. -/
def upF (F : Int → Option Pl) : Nat → Int → List Int
  | 0, _ => []
  | n + 1, x => match F x with
    | some e => if 0 ≤ e.p then e.p :: upF F n e.p else []
    | none => []
theorem upT_upF (t : List Pl) : ∀ n x, upT t n x = upF (placeT t) n x
  | 0, _ => rfl
  | n + 1, x => by
    unfold upT upF
    cases placeT t x with
    | none => rfl
    | some e => by_cases h : 0 ≤ e.p <;> simp [h, upT_upF t n e.p]
/-- L is the number of the folders above each folder. -/
def LevF (F : Int → Option Pl) (L : Int → Nat) : Prop := ∀ z, L z = (match F z with | some e => if 0 ≤ e.p then L e.p + 1 else 0 | none => 0)
theorem LevF.none {F : Int → Option Pl} {L : Int → Nat} (h : LevF F L) {z : Int} (hz : F z = none) : L z = 0 := by rw [h z, hz]
theorem LevF.top {F : Int → Option Pl} {L : Int → Nat} (h : LevF F L) {z : Int} {e : Pl} (hz : F z = some e) (hp : ¬ 0 ≤ e.p) : L z = 0 := by rw [h z, hz]; simp [hp]
theorem LevF.up {F : Int → Option Pl} {L : Int → Nat} (h : LevF F L) {z : Int} {e : Pl} (hz : F z = some e) (hp : 0 ≤ e.p) : L z = L e.p + 1 := by rw [h z, hz]; simp [hp]
theorem LevF.upF {F : Int → Option Pl} {L : Int → Nat} (h : LevF F L) : ∀ n z, L z < n → (upF F n z).length = L z
  | 0, z, hz => absurd hz (Nat.not_lt_zero _)
  | n + 1, z, hz => by
    unfold Go.Proofs.Ytcflnjmglanneaa.upF
    cases he : F z with
    | none => rw [h.none he]; rfl
    | some e =>
      by_cases hp : 0 ≤ e.p
      · rw [h.up he hp] at hz ⊢
        simp only [hp, if_true, List.length_cons]
        rw [LevF.upF h n e.p (by omega)]
      · rw [h.top he hp]; simp [hp]
theorem LevF.upF_eq {F : Int → Option Pl} {L : Int → Nat} (h : LevF F L) : ∀ n m z, L z < n → L z < m → Go.Proofs.Ytcflnjmglanneaa.upF F n z = Go.Proofs.Ytcflnjmglanneaa.upF F m z
  | 0, m, z, hz, _ => absurd hz (Nat.not_lt_zero _)
  | n + 1, 0, z, _, hz => absurd hz (Nat.not_lt_zero _)
  | n + 1, m + 1, z, hz, hz' => by
    unfold Go.Proofs.Ytcflnjmglanneaa.upF
    cases he : F z with
    | none => rfl
    | some e =>
      by_cases hp : 0 ≤ e.p
      · rw [h.up he hp] at hz hz'
        simp only [hp, if_true]
        rw [LevF.upF_eq h n m e.p (by omega) (by omega)]
      · simp [hp]
/-- Being a folder or below it. -/
inductive WiF (F : Int → Option Pl) (y : Int) : Int → Prop where
  | here : WiF F y y
  | up {z : Int} {e : Pl} : F z = some e → 0 ≤ e.p → WiF F y e.p → WiF F y z
theorem mem_upF {F : Int → Option Pl} {L : Int → Nat} (h : LevF F L) {y : Int} : ∀ n z, L z < n → ((z = y ∨ y ∈ upF F n z) ↔ WiF F y z)
  | 0, z, hz => absurd hz (Nat.not_lt_zero _)
  | n + 1, z, hz => by
    constructor
    · rintro (rfl | hm)
      · exact .here
      · unfold upF at hm
        cases he : F z with
        | none => rw [he] at hm; simp at hm
        | some e =>
          rw [he] at hm
          by_cases hp : 0 ≤ e.p
          · simp only [hp, if_true, List.mem_cons] at hm
            rw [h.up he hp] at hz
            exact .up he hp ((mem_upF h n e.p (by omega)).1 (hm.imp Eq.symm id))
          · simp [hp] at hm
    · intro hw
      cases hw with
      | here => exact .inl rfl
      | @up _ e he hp hw =>
        right
        rw [h.up he hp] at hz
        unfold upF
        rw [he]
        simp only [hp, if_true, List.mem_cons]
        exact ((mem_upF h n e.p (by omega)).2 hw).imp Eq.symm id
theorem WiF.le {F : Int → Option Pl} {L : Int → Nat} (h : LevF F L) {y z : Int} (hw : WiF F y z) : L y ≤ L z := by
  induction hw with
  | here => exact Nat.le_refl _
  | up he hp _ ih => rw [h.up he hp]; omega
theorem WiF.lt {F : Int → Option Pl} {L : Int → Nat} (h : LevF F L) {y z : Int} (hw : WiF F y z) (hne : z ≠ y) : L y < L z := by
  cases hw with
  | here => exact absurd rfl hne
  | up he hp hw => rw [h.up he hp]; have := hw.le h; omega
theorem WiF.trans {F : Int → Option Pl} {x y z : Int} (h1 : WiF F y z) (h2 : WiF F x y) : WiF F x z := by
  induction h1 with
  | here => exact h2
  | up he hp _ ih => exact .up he hp ih
/-- Another place in a map of places. -/
def updF (F : Int → Option Pl) (p : Pl) : Int → Option Pl := fun x => if x = p.f then some p else F x
theorem updF_same (F : Int → Option Pl) (p : Pl) : updF F p p.f = some p := by simp [updF]
theorem updF_ne (F : Int → Option Pl) (p : Pl) {x : Int} (h : x ≠ p.f) : updF F p x = F x := by simp [updF, h]
/-- The level of a folder (0: the top itself). -/
def levL (L : Int → Nat) (z : Int) : Nat := if 0 ≤ z then L z + 1 else 0
open Classical in
/-- The levels after another place. -/
noncomputable def updL (F : Int → Option Pl) (L : Int → Nat) (p : Pl) (z : Int) : Nat := if WiF F p.f z then L z - L p.f + levL L p.p else L z
theorem updL_in {F : Int → Option Pl} {L : Int → Nat} {p : Pl} {z : Int} (h : WiF F p.f z) : updL F L p z = L z - L p.f + levL L p.p := by unfold updL; rw [if_pos h]
theorem updL_out {F : Int → Option Pl} {L : Int → Nat} {p : Pl} {z : Int} (h : ¬ WiF F p.f z) : updL F L p z = L z := by unfold updL; rw [if_neg h]
theorem LevF.put {F : Int → Option Pl} {L : Int → Nat} (h : LevF F L) {p : Pl} (hp : 0 ≤ p.p → ¬ WiF F p.f p.p) : LevF (updF F p) (updL F L p) := by
  intro z
  by_cases hz : z = p.f
  · subst hz
    rw [updL_in .here, updF_same]
    simp only
    by_cases h0 : 0 ≤ p.p
    · rw [if_pos h0, updL_out (hp h0), levL, if_pos h0]; omega
    · rw [if_neg h0, levL, if_neg h0]; omega
  · rw [updF_ne F p hz]
    by_cases hw : WiF F p.f z
    · rw [updL_in hw]
      cases hw with
      | here => exact absurd rfl hz
      | @up _ e he h0 hw =>
        rw [he]
        simp only [h0, if_true]
        rw [updL_in hw, h.up he h0]
        have := hw.le h
        omega
    · rw [updL_out hw]
      cases he : F z with
      | none => exact h.none he
      | some e =>
        by_cases h0 : 0 ≤ e.p
        · simp only [h0, if_true]
          rw [updL_out (fun k => hw (.up he h0 k)), h.up he h0]
        · simp only [h0, if_false]
          exact h.top he h0
/-- How many levels a folder takes. -/
def hgtT (T : List Pl) : Nat → Int → Nat
  | 0, _ => 0
  | n + 1, x => ((T.filter fun e => decide (e.p = x)).map fun e => hgtT T n e.f).foldr max 0 + 1
theorem foldr_max_le {l : List Nat} {b : Nat} (h : ∀ x ∈ l, x ≤ b) : l.foldr max 0 ≤ b := by
  induction l with
  | nil => exact Nat.zero_le _
  | cons x l ih => simp only [List.foldr_cons]; exact Nat.max_le.2 ⟨h x (by simp), ih fun y hy => h y (by simp [hy])⟩
theorem le_foldr_max {l : List Nat} {x : Nat} (h : x ∈ l) : x ≤ l.foldr max 0 := by
  induction l with
  | nil => simp at h
  | cons y l ih =>
    simp only [List.foldr_cons]
    rcases List.mem_cons.1 h with rfl | h
    · exact Nat.le_max_left _ _
    · exact Nat.le_trans (ih h) (Nat.le_max_right _ _)
theorem foldr_max_mem : ∀ {l : List Nat}, l.foldr max 0 = 0 ∨ l.foldr max 0 ∈ l
  | [] => .inl rfl
  | x :: l => by
    simp only [List.foldr_cons]
    rcases @foldr_max_mem l with h | h
    · rw [h, Nat.max_zero]; right; simp
    · rcases Nat.le_total x (l.foldr max 0) with h2 | h2
      · rw [Nat.max_eq_right h2]; right; simp [h]
      · rw [Nat.max_eq_left h2]; right; simp
theorem hgtT_le (T : List Pl) : ∀ n x, hgtT T n x ≤ n
  | 0, _ => Nat.le_refl _
  | n + 1, x => by
    unfold hgtT
    have : ((T.filter fun e => decide (e.p = x)).map fun e => hgtT T n e.f).foldr max 0 ≤ n := foldr_max_le fun y hy => by
      obtain ⟨e, -, rfl⟩ := List.mem_map.1 hy
      exact hgtT_le T n e.f
    omega
theorem hgtT_child {T : List Pl} {n : Nat} {x : Int} (h : hgtT T (n + 1) x < n + 1) {e : Pl} (he : e ∈ T) (hp : e.p = x) : hgtT T n e.f < n := by
  unfold hgtT at h
  have : hgtT T n e.f ≤ ((T.filter fun e => decide (e.p = x)).map fun e => hgtT T n e.f).foldr max 0 := le_foldr_max (List.mem_map.2 ⟨e, by simp [he, hp], rfl⟩)
  omega
/-- A list of places with each folder once. -/
def Once (T : List Pl) : Prop := ∀ e ∈ T, placeT T e.f = some e
theorem placeT_some {T : List Pl} {x : Int} {e : Pl} (h : placeT T x = some e) : e ∈ T ∧ e.f = x := by
  unfold placeT at h
  exact ⟨List.mem_of_find?_eq_some h, by simpa using List.find?_some h⟩
theorem WiF.child {F : Int → Option Pl} {y z : Int} (h : WiF F y z) (hne : z ≠ y) : ∃ c e, F c = some e ∧ e.p = y ∧ 0 ≤ y ∧ WiF F c z := by
  induction h with
  | here => exact absurd rfl hne
  | @up z e he hp hw ih =>
    by_cases hy : e.p = y
    · exact ⟨z, e, he, hy, hy ▸ hp, .here⟩
    · obtain ⟨c, e2, h1, h2, h3, h4⟩ := ih hy
      exact ⟨c, e2, h1, h2, h3, .up he hp h4⟩
/-- A folder that lies below lies no deeper than the height. -/
theorem hgt_ge {T : List Pl} {L : Int → Nat} (h : LevF (placeT T) L) : ∀ n y z, WiF (placeT T) y z → L z - L y < n → L z - L y + 1 ≤ hgtT T n y
  | 0, y, z, _, hn => absurd hn (Nat.not_lt_zero _)
  | n + 1, y, z, hw, hn => by
    by_cases hzy : z = y
    · subst hzy; unfold hgtT; omega
    obtain ⟨c, e, h1, h2, h3, h4⟩ := hw.child hzy
    have hp : 0 ≤ e.p := h2 ▸ h3
    have hc := h.up h1 hp
    rw [h2] at hc
    have hcz := h4.le h
    have ih := hgt_ge h n c z h4 (by omega)
    obtain ⟨m1, m2⟩ := placeT_some h1
    unfold hgtT
    have : hgtT T n e.f ≤ ((T.filter fun e => decide (e.p = y)).map fun e => hgtT T n e.f).foldr max 0 := le_foldr_max (List.mem_map.2 ⟨e, by simp [m1, h2], rfl⟩)
    rw [m2] at this
    omega
theorem hgt_at {T : List Pl} {L : Int → Nat} (h : LevF (placeT T) L) (ho : Once T) (h0f : ∀ e ∈ T, 0 ≤ e.f) : ∀ n y, 0 < n → 0 ≤ y → ∃ z, WiF (placeT T) y z ∧ L z - L y + 1 = hgtT T n y
  | 0, y, hn, _ => absurd hn (Nat.lt_irrefl _)
  | n + 1, y, _, hy => by
    rcases @foldr_max_mem ((T.filter fun e => decide (e.p = y)).map fun e => hgtT T n e.f) with h0 | h0
    · refine ⟨y, .here, ?_⟩
      unfold hgtT
      rw [h0]; omega
    · obtain ⟨e, he, h1⟩ := List.mem_map.1 h0
      have he2 := List.mem_filter.1 he
      obtain ⟨he3, he4⟩ := he2
      simp only [decide_eq_true_eq] at he4
      have hF := ho e he3
      have hu := h.up hF (he4 ▸ hy)
      rw [he4] at hu
      have hstep : WiF (placeT T) y e.f := .up hF (he4 ▸ hy) (he4 ▸ .here)
      by_cases hn : n = 0
      · subst hn
        refine ⟨y, .here, ?_⟩
        unfold hgtT
        rw [← h1]; unfold hgtT; omega
      by_cases hef : 0 ≤ e.f
      · obtain ⟨z, hz1, hz2⟩ := hgt_at h ho h0f n e.f (by omega) hef
        refine ⟨z, hz1.trans hstep, ?_⟩
        unfold hgtT
        rw [← h1, ← hz2]
        have := hz1.le h
        omega
      · exact absurd (h0f e he3) hef
/-- A tree with another place, as the reference builds it. -/
def insT (p : Pl) : List Pl → List Pl
  | [] => [p]
  | e :: t => if p.f ≤ e.f then p :: (e :: t).filter (fun y => decide (y.f ≠ p.f)) else e :: insT p t
def SortT (t : List Pl) : Prop := t.Pairwise fun a b => a.f < b.f
theorem filter_keep {t : List Pl} {p : Pl} (h : ∀ y ∈ t, y.f ≠ p.f) : t.filter (fun y => decide (y.f ≠ p.f)) = t :=
  List.filter_eq_self.2 fun y hy => by simpa using h y hy
theorem mem_insT {p : Pl} : ∀ {t : List Pl}, SortT t → ∀ y, y ∈ insT p t ↔ y = p ∨ (y ∈ t ∧ y.f ≠ p.f)
  | [], _, y => by simp [insT]
  | e :: t, hs, y => by
    unfold insT
    have hs' := List.pairwise_cons.1 hs
    by_cases h : p.f ≤ e.f
    · rw [if_pos h, List.mem_cons, List.mem_filter]; simp
    · rw [if_neg h, List.mem_cons, mem_insT hs'.2 y, List.mem_cons]
      have hne : e.f ≠ p.f := by omega
      constructor
      · rintro (rfl | h1 | ⟨h1, h2⟩)
        · exact .inr ⟨.inl rfl, hne⟩
        · exact .inl h1
        · exact .inr ⟨.inr h1, h2⟩
      · rintro (h1 | ⟨rfl | h1, h2⟩)
        · exact .inr (.inl h1)
        · exact .inl rfl
        · exact .inr (.inr ⟨h1, h2⟩)
theorem insT_sort {p : Pl} : ∀ {t : List Pl}, SortT t → SortT (insT p t)
  | [], _ => List.pairwise_singleton _ _
  | e :: t, hs => by
    unfold insT
    have hs' := List.pairwise_cons.1 hs
    by_cases h : p.f ≤ e.f
    · rw [if_pos h]
      refine List.pairwise_cons.2 ⟨fun y hy => ?_, List.Pairwise.filter _ hs⟩
      obtain ⟨h1, h2⟩ := List.mem_filter.1 hy
      simp only [decide_eq_true_eq] at h2
      rcases List.mem_cons.1 h1 with rfl | h1
      · omega
      · have := hs'.1 y h1; omega
    · rw [if_neg h]
      refine List.pairwise_cons.2 ⟨fun y hy => ?_, insT_sort hs'.2⟩
      rcases (mem_insT hs'.2 y).1 hy with rfl | ⟨h1, -⟩
      · omega
      · exact hs'.1 y h1
theorem SortT.once : ∀ {t : List Pl}, SortT t → Once t
  | [], _, e, he => by simp at he
  | a :: t, hs, e, he => by
    have hs' := List.pairwise_cons.1 hs
    unfold placeT
    rw [List.find?_cons]
    rcases List.mem_cons.1 he with rfl | h
    · simp
    · have h1 := hs'.1 e h
      have h2 : decide (a.f = e.f) = false := by simp; omega
      rw [h2]
      exact SortT.once hs'.2 e h
theorem placeT_none {T : List Pl} {x : Int} : placeT T x = none ↔ ∀ e ∈ T, e.f ≠ x := by
  unfold placeT
  rw [List.find?_eq_none]
  simp
theorem placeT_iff {T : List Pl} (ho : Once T) {x : Int} {e : Pl} : placeT T x = some e ↔ e ∈ T ∧ e.f = x := by
  constructor
  · exact placeT_some
  · rintro ⟨h1, rfl⟩; exact ho e h1
theorem insT_place {p : Pl} {t : List Pl} (hs : SortT t) : placeT (insT p t) = updF (placeT t) p := by
  funext x
  by_cases h : x = p.f
  · subst h
    rw [updF_same, placeT_iff (insT_sort hs).once]
    exact ⟨(mem_insT hs p).2 (.inl rfl), rfl⟩
  · rw [updF_ne _ _ h]
    cases he : placeT t x with
    | none =>
      rw [placeT_none] at he ⊢
      intro e h1
      rcases (mem_insT hs e).1 h1 with rfl | ⟨h2, -⟩
      · exact fun k => h k.symm
      · exact he e h2
    | some e =>
      obtain ⟨h1, rfl⟩ := placeT_some he
      exact (placeT_iff (insT_sort hs).once).2 ⟨(mem_insT hs e).2 (.inr ⟨h1, h⟩), rfl⟩
/-- A place that has no effect by its parent. -/
def BadP (t : List Pl) (p : Pl) : Prop := 0 ≤ p.p ∧ ((placeT t p.p).isSome = false ∨ p.p = p.f ∨ p.f ∈ upT t 32 p.p)
instance (t : List Pl) (p : Pl) : Decidable (BadP t p) := by unfold BadP; infer_instance
/-- A tree that is too deep. -/
def DeepT (o : List Pl) : Prop := ∃ x ∈ o, 8 < 1 + (upT o 32 x.f).length
instance (o : List Pl) : Decidable (DeepT o) := by unfold DeepT; infer_instance
/-- What the reference's put gives. -/
def putT (t : List Pl) (p : Pl) : Option (List Pl) := if BadP t p then none else if DeepT (insT p t) then none else some (insT p t)
def stepT (t : List Pl) (p : Pl) : List Pl := (putT t p).getD t
/-- A forest of at most eight levels. -/
structure Frst (T : List Pl) (L : Int → Nat) : Prop where
  sort : SortT T
  ok : ∀ e ∈ T, okP e
  par : ∀ e ∈ T, 0 ≤ e.p → (placeT T e.p).isSome = true
  lev : LevF (placeT T) L
  le : ∀ z, L z ≤ 7
theorem Frst.nil : Frst [] fun _ => 0 where
  sort := List.Pairwise.nil
  ok _ h := by simp at h
  par _ h := by simp at h
  lev z := rfl
  le z := Nat.zero_le _
theorem Frst.wi {T : List Pl} {L : Int → Nat} (h : Frst T L) {y z : Int} {n : Nat} (hn : 7 < n) : (z = y ∨ y ∈ upT T n z) ↔ WiF (placeT T) y z := by
  rw [upT_upF]
  exact mem_upF h.lev n z (by have := h.le z; omega)
theorem Frst.len {T : List Pl} {L : Int → Nat} (h : Frst T L) {z : Int} {n : Nat} (hn : 7 < n) : (upT T n z).length = L z := by
  rw [upT_upF]
  exact h.lev.upF n z (by have := h.le z; omega)
theorem Frst.fuel {T : List Pl} {L : Int → Nat} (h : Frst T L) {z : Int} {n m : Nat} (hn : 7 < n) (hm : 7 < m) : upT T n z = upT T m z := by
  rw [upT_upF, upT_upF]
  exact h.lev.upF_eq n m z (by have := h.le z; omega) (by have := h.le z; omega)
theorem Frst.notWi {T : List Pl} {L : Int → Nat} (h : Frst T L) {p : Pl} (hb : ¬ BadP T p) (h0 : 0 ≤ p.p) : ¬ WiF (placeT T) p.f p.p := by
  intro hw
  exact hb ⟨h0, .inr ((h.wi (n := 32) (by decide)).2 hw)⟩
theorem Frst.putLev {T : List Pl} {L : Int → Nat} (h : Frst T L) {p : Pl} (hb : ¬ BadP T p) : LevF (placeT (insT p T)) (updL (placeT T) L p) := by
  rw [insT_place h.sort]
  exact h.lev.put (h.notWi hb)
theorem Frst.updLe {T : List Pl} {L : Int → Nat} (h : Frst T L) (p : Pl) (z : Int) : updL (placeT T) L p z ≤ 15 := by
  have h1 := h.le z
  have h2 := h.le p.p
  by_cases hw : WiF (placeT T) p.f z
  · rw [updL_in hw]; unfold levL; split <;> omega
  · rw [updL_out hw]; omega
/-- The reference's test of the depth is the program's. -/
theorem Frst.deep {T : List Pl} {L : Int → Nat} (h : Frst T L) {p : Pl} (hk : okP p) (hb : ¬ BadP T p) : DeepT (insT p T) ↔ 8 < levL L p.p + hgtT T 9 p.f := by
  have hlen : ∀ z, (upT (insT p T) 32 z).length = updL (placeT T) L p z := fun z => by
    rw [upT_upF]
    exact (h.putLev hb).upF 32 z (by have := h.updLe p z; omega)
  constructor
  · rintro ⟨x, hx, hd⟩
    rw [hlen] at hd
    by_cases hw : WiF (placeT T) p.f x.f
    · rw [updL_in hw] at hd
      have := hgt_ge h.lev 9 p.f x.f hw (by have := h.le x.f; omega)
      omega
    · rw [updL_out hw] at hd
      have := h.le x.f
      omega
  · intro hd
    obtain ⟨z, hz, he⟩ := hgt_at h.lev h.sort.once (fun e he => (h.ok e he).2.2.1.1) 9 p.f (by decide) hk.2.2.1.1
    have hu : 8 < 1 + updL (placeT T) L p z := by rw [updL_in hz]; omega
    by_cases hzp : z = p.f
    · refine ⟨p, (mem_insT h.sort p).2 (.inl rfl), ?_⟩
      rw [hlen, ← hzp]; exact hu
    · cases hz with
      | here => exact absurd rfl hzp
      | @up _ e he h0 hw =>
        obtain ⟨m1, m2⟩ := placeT_some he
        subst m2
        exact ⟨e, (mem_insT h.sort e).2 (.inr ⟨m1, hzp⟩), by rw [hlen]; exact hu⟩
theorem Frst.hgt_lt {T : List Pl} {L : Int → Nat} (h : Frst T L) {y : Int} (hy : 0 ≤ y) : hgtT T 9 y < 9 := by
  obtain ⟨z, hz, he⟩ := hgt_at h.lev h.sort.once (fun e he => (h.ok e he).2.2.1.1) 9 y (by decide) hy
  have := h.le z
  omega
theorem Frst.putT_eq {T : List Pl} {L : Int → Nat} (h : Frst T L) {p : Pl} (hk : okP p) : putT T p = if BadP T p ∨ 8 < levL L p.p + hgtT T 9 p.f then none else some (insT p T) := by
  unfold putT
  by_cases hb : BadP T p
  · rw [if_pos hb, if_pos (.inl hb)]
  · rw [if_neg hb]
    by_cases hd : DeepT (insT p T)
    · rw [if_pos hd, if_pos (.inr ((h.deep hk hb).1 hd))]
    · rw [if_neg hd, if_neg (fun k => k.elim hb (fun k => hd ((h.deep hk hb).2 k)))]
theorem Frst.put {T : List Pl} {L : Int → Nat} (h : Frst T L) {p : Pl} (hk : okP p) (hb : ¬ BadP T p) (hd : ¬ DeepT (insT p T)) : Frst (insT p T) (updL (placeT T) L p) where
  sort := insT_sort h.sort
  ok e he := by
    rcases (mem_insT h.sort e).1 he with rfl | ⟨h1, -⟩
    · exact hk
    · exact h.ok e h1
  par e he h0 := by
    rw [insT_place h.sort]
    by_cases hx : e.p = p.f
    · rw [hx, updF_same]; rfl
    · rw [updF_ne _ _ hx]
      rcases (mem_insT h.sort e).1 he with rfl | ⟨h1, -⟩
      · cases hs : (placeT T e.p).isSome with
        | true => rfl
        | false => exact absurd ⟨h0, .inl hs⟩ hb
      · exact h.par e h1 h0
  lev := h.putLev hb
  le z := by
    have hlen : ∀ z, (upT (insT p T) 32 z).length = updL (placeT T) L p z := fun z => by
      rw [upT_upF]
      exact (h.putLev hb).upF 32 z (by have := h.updLe p z; omega)
    cases he : placeT (insT p T) z with
    | none => rw [(h.putLev hb).none he]; exact Nat.zero_le _
    | some e =>
      obtain ⟨m1, rfl⟩ := placeT_some he
      by_cases h8 : updL (placeT T) L p e.f ≤ 7
      · exact h8
      · exact absurd ⟨e, m1, by rw [hlen]; omega⟩ hd
theorem Frst.step {T : List Pl} {L : Int → Nat} (h : Frst T L) {p : Pl} (hk : okP p) : ∃ L', Frst (stepT T p) L' := by
  unfold stepT putT
  by_cases hb : BadP T p
  · rw [if_pos hb]; exact ⟨L, h⟩
  · rw [if_neg hb]
    by_cases hd : DeepT (insT p T)
    · rw [if_pos hd]; exact ⟨L, h⟩
    · rw [if_neg hd]; exact ⟨_, h.put hk hb hd⟩
theorem Frst.steps : ∀ {l : List Pl} {T : List Pl} {L : Int → Nat}, Frst T L → (∀ p ∈ l, okP p) → ∃ L', Frst (l.foldl stepT T) L'
  | [], T, L, h, _ => ⟨L, h⟩
  | p :: l, T, L, h, hk => by
    obtain ⟨L', h'⟩ := h.step (hk p (by simp))
    exact Frst.steps (l := l) h' fun q hq => hk q (by simp [hq])
end Go.Proofs.Ytcflnjmglanneaa
