/- Folders: the order of places; slices.SortFunc with compare. -/
import Derived.Test.YtcflnjmglanneaaTc
import Derived.Test.YtcflnjmglanneaaTd
namespace Go.Proofs.Ytcflnjmglanneaa
open Go.RowKit Go.Maps Go.Sort
set_option maxRecDepth 100000
set_option linter.unusedVariables false
set_option linter.unusedSimpArgs false

/-- A comparing of what p shows, whole. -/
structure LinC {α β : Type} (p : α → β) (c : α → α → Int) : Prop where
  eq : ∀ x y, c x y = 0 ↔ p x = p y
  anti : ∀ x y, c x y < 0 ↔ 0 < c y x
  trans : ∀ x y z, c x y < 0 → c y z < 0 → c x z < 0
  depl : ∀ x y z, p x = p y → c x z = c y z
  depr : ∀ x y z, p x = p y → c z x = c z y

theorem LinC.lex {α β γ : Type} {p : α → β} {q : α → γ} {c d : α → α → Int} (hc : LinC p c) (hd : LinC q d) : LinC (fun x => (p x, q x)) (fun x y => if c x y = 0 then d x y else c x y) where
  eq x y := by
    by_cases h : c x y = 0
    · rw [if_pos h, hd.eq]
      have := (hc.eq x y).1 h
      simp [this]
    · rw [if_neg h]
      have : ¬ p x = p y := fun e => h ((hc.eq x y).2 e)
      simp [h, this]
  anti x y := by
    by_cases h : c x y = 0
    · have h2 : c y x = 0 := (hc.eq y x).2 ((hc.eq x y).1 h).symm
      rw [if_pos h, if_pos h2]
      exact hd.anti x y
    · have h2 : ¬ c y x = 0 := fun e => h ((hc.eq x y).2 ((hc.eq y x).1 e).symm)
      rw [if_neg h, if_neg h2]
      exact hc.anti x y
  trans x y z hxy hyz := by
    by_cases h : c x y = 0
    · have e := (hc.eq x y).1 h
      rw [if_pos h] at hxy
      by_cases h2 : c y z = 0
      · rw [if_pos h2] at hyz
        rw [if_pos (by rw [hc.depl x y z e]; exact h2)]
        exact hd.trans x y z hxy hyz
      · rw [if_neg h2] at hyz
        rw [if_neg (by rw [hc.depl x y z e]; exact h2), hc.depl x y z e]
        exact hyz
    · rw [if_neg h] at hxy
      by_cases h2 : c y z = 0
      · have e := (hc.eq y z).1 h2
        rw [if_neg (by rw [← hc.depr y z x e]; exact h), ← hc.depr y z x e]
        exact hxy
      · rw [if_neg h2] at hyz
        have h3 := hc.trans x y z hxy hyz
        rw [if_neg (by omega)]
        exact h3
  depl x y z e := by
    have e1 := congrArg Prod.fst e
    have e2 := congrArg Prod.snd e
    simp only at e1 e2
    rw [hc.depl x y z e1, hd.depl x y z e2]
  depr x y z e := by
    have e1 := congrArg Prod.fst e
    have e2 := congrArg Prod.snd e
    simp only at e1 e2
    rw [hc.depr x y z e1, hd.depr x y z e2]
theorem LinC.int {α : Type} (p : α → Int) : LinC p (fun x y => Lib.compareInt (p x) (p y)) where
  eq x y := by unfold Lib.compareInt; split <;> (try split) <;> omega
  anti x y := by unfold Lib.compareInt; split <;> (try split) <;> (try split) <;> omega
  trans x y z := by
    intro h1 h2
    unfold Lib.compareInt at *
    have a : p x < p y := by by_cases h : p x < p y; · exact h
                             · rw [if_neg h] at h1; split at h1 <;> omega
    have b : p y < p z := by by_cases h : p y < p z; · exact h
                             · rw [if_neg h] at h2; split at h2 <;> omega
    rw [if_pos (by omega)]; decide
  depl x y z e := by simp only [e]
  depr x y z e := by simp only [e]
theorem bytes_eq : ∀ (a b : List UInt8), Lib.compareBytes a b = 0 ↔ a = b
  | [], [] => by simp [Lib.compareBytes]
  | [], _ :: _ => by simp [Lib.compareBytes]
  | _ :: _, [] => by simp [Lib.compareBytes]
  | a :: aa, b :: bb => by
    unfold Lib.compareBytes
    by_cases h : a < b
    · rw [if_pos h]
      have : a ≠ b := fun e => by subst e; exact absurd h (UInt8.lt_irrefl a)
      simp [this]
    · rw [if_neg h]
      by_cases h2 : b < a
      · rw [if_pos h2]
        have : a ≠ b := fun e => by subst e; exact absurd h2 (UInt8.lt_irrefl a)
        simp [this]
      · rw [if_neg h2, bytes_eq aa bb]
        have : a = b := UInt8.le_antisymm (UInt8.not_lt.1 h2) (UInt8.not_lt.1 h)
        simp [this]
theorem bytes_anti : ∀ (a b : List UInt8), Lib.compareBytes a b < 0 ↔ 0 < Lib.compareBytes b a
  | [], [] => by simp [Lib.compareBytes]
  | [], _ :: _ => by simp [Lib.compareBytes]
  | _ :: _, [] => by simp [Lib.compareBytes]
  | a :: aa, b :: bb => by
    unfold Lib.compareBytes
    by_cases h : a < b
    · have h2 : ¬ b < a := fun h2 => absurd (UInt8.lt_trans h h2) (UInt8.lt_irrefl a)
      rw [if_pos h, if_neg h2, if_pos h]
      decide
    · rw [if_neg h]
      by_cases h2 : b < a
      · rw [if_pos h2, if_pos h2]
        decide
      · rw [if_neg h2, if_neg h2, if_neg h]
        exact bytes_anti aa bb
theorem bytes_trans : ∀ (a b c : List UInt8), Lib.compareBytes a b < 0 → Lib.compareBytes b c < 0 → Lib.compareBytes a c < 0
  | [], [], c, h, _ => by simp [Lib.compareBytes] at h
  | [], _ :: _, [], _, h => by simp [Lib.compareBytes] at h
  | [], _ :: _, _ :: _, _, _ => by simp [Lib.compareBytes]
  | _ :: _, [], _, h, _ => by simp [Lib.compareBytes] at h
  | _ :: _, _ :: _, [], _, h => by simp [Lib.compareBytes] at h
  | a :: aa, b :: bb, c :: cs, h1, h2 => by
    unfold Lib.compareBytes at *
    have e1 : a < b ∨ (a = b ∧ Lib.compareBytes aa bb < 0) := by
      by_cases h : a < b
      · exact .inl h
      · rw [if_neg h] at h1
        by_cases h' : b < a
        · rw [if_pos h'] at h1; omega
        · rw [if_neg h'] at h1
          exact .inr ⟨UInt8.le_antisymm (UInt8.not_lt.1 h') (UInt8.not_lt.1 h), h1⟩
    have e2 : b < c ∨ (b = c ∧ Lib.compareBytes bb cs < 0) := by
      by_cases h : b < c
      · exact .inl h
      · rw [if_neg h] at h2
        by_cases h' : c < b
        · rw [if_pos h'] at h2; omega
        · rw [if_neg h'] at h2
          exact .inr ⟨UInt8.le_antisymm (UInt8.not_lt.1 h') (UInt8.not_lt.1 h), h2⟩
    rcases e1 with e1 | ⟨rfl, e1⟩
    · rcases e2 with e2 | ⟨rfl, e2⟩
      · rw [if_pos (UInt8.lt_trans e1 e2)]; decide
      · rw [if_pos e1]; decide
    · rcases e2 with e2 | ⟨rfl, e2⟩
      · rw [if_pos e2]; decide
      · rw [if_neg (UInt8.lt_irrefl a), if_neg (UInt8.lt_irrefl a)]
        exact bytes_trans aa bb cs e1 e2
theorem LinC.bytes {α : Type} (p : α → ByteArray) : LinC p (fun x y => Lib.compareBytes (p x).data.toList (p y).data.toList) where
  eq x y := by
    rw [bytes_eq]
    constructor
    · intro h
      cases hx : p x with | mk a => cases hy : p y with | mk b => rw [hx, hy] at h; congr 1; exact Array.toList_inj.1 h
    · intro h; rw [h]
  anti x y := bytes_anti _ _
  trans x y z := bytes_trans _ _ _
  depl x y z e := by simp only [e]
  depr x y z e := by simp only [e]
theorem cmp_lin : LinC (fun x : Pl => (x.t, x.d, x.f, x.p, x.n)) cmpP := by
  have h := (LinC.int Pl.t).lex ((LinC.int Pl.d).lex ((LinC.int Pl.f).lex ((LinC.int Pl.p).lex (LinC.bytes Pl.n))))
  have e : (fun x y : Pl => if Lib.compareInt x.t y.t = 0 then (if Lib.compareInt x.d y.d = 0 then (if Lib.compareInt x.f y.f = 0 then (if Lib.compareInt x.p y.p = 0 then Lib.compareBytes x.n.data.toList y.n.data.toList else Lib.compareInt x.p y.p) else Lib.compareInt x.f y.f) else Lib.compareInt x.d y.d) else Lib.compareInt x.t y.t) = cmpP := by
    funext x y
    unfold cmpP cmpL
    simp only [orL]
    split <;> (try rfl)
    split <;> (try rfl)
    split <;> (try rfl)
    split <;> (try rfl)
    split <;> simp_all
  rw [← e]
  exact h
theorem pl_ext {x y : Pl} (h : (x.t, x.d, x.f, x.p, x.n) = (y.t, y.d, y.f, y.p, y.n)) : x = y := by
  cases x; cases y; simp at h; simp [h]
theorem lt_cmp (x y : Pl) : ltOf cmpP x y = decide (cmpP x y < 0) := rfl
theorem swo_cmp : SWO (ltOf cmpP) where
  irrefl x := by
    rw [lt_cmp, (cmp_lin.eq x x).2 rfl]; rfl
  trans x y z h1 h2 := by
    rw [lt_cmp] at *
    simp at *
    exact cmp_lin.trans x y z h1 h2
  ntrans x y z h1 h2 := by
    rw [lt_cmp] at *
    simp at *
    by_cases h : 0 ≤ cmpP x z
    · exact h
    · exfalso
      have hxz : cmpP x z < 0 := by omega
      rcases Int.lt_or_eq_of_le h1 with h3 | h3
      · have h4 := (cmp_lin.anti y x).2 h3
        have := cmp_lin.trans y x z h4 hxz
        omega
      · have e := (cmp_lin.eq x y).1 h3.symm
        rw [cmp_lin.depl x y z e] at hxz
        omega
theorem tot_cmp (x y : Pl) (h1 : ltOf cmpP x y = false) (h2 : ltOf cmpP y x = false) : x = y := by
  rw [lt_cmp] at *
  simp at *
  apply pl_ext
  apply (cmp_lin.eq x y).1
  rcases Int.lt_or_eq_of_le h1 with h3 | h3
  · have := (cmp_lin.anti y x).2 h3
    omega
  · exact h3.symm
instance : Inhabited Pl := ⟨⟨0, 0, 0, 0, ⟨#[]⟩⟩⟩
/-- Places in their order. -/
def sortP (l : List Pl) : List Pl := l.mergeSort fun x y => !ltOf cmpP y x
theorem fsort_ok (blk cap : Nat) (d : Array Pl) (w : World) (hH : HoldsK Pl.cells 5 w blk 0 d) (hblk : blk < w.heap.size) (hsz : d.size < 4611686018427387904) :
    Calls Try.prog 45 #[.slice (some ⟨blk, 0, none⟩) d.size cap, .func (.func 46) #[] #[]] w fun e w' =>
      e = .returned (.tuple #[]) ∧ ∃ n os, w' = sortWorldK Pl.cells 5 w blk 0 n (sortP d.toList).toArray os :=
  AnyQ.slices_SortFunc_total Tryx.lays6 5 Try.isAgg24 Try.sizeOf24 Pl.cells (fun _ => rfl) (fun x v hv => by simp [Pl.cells] at hv; rcases hv with rfl | rfl | rfl | rfl | rfl <;> rfl) cmpP swo_cmp 46 #[] blk 0 cap d w
    (enters_of Try.func46 (by kernel_rfl) rfl) (fun _ _ _ _ x y => compare_ok x y _) hH hblk hsz tot_cmp
end Go.Proofs.Ytcflnjmglanneaa
