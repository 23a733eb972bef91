/- Mp again for elements of whatever type (structs): each is read as one held thing. Over whatever program. -/
import Derived.Test.YtcflnjmglanneaaMp
import Derived.Maps.OwnSet
import Derived.WalkKit
import Derived.Lib.Hide
namespace Go.Proofs.Ytcflnjmglanneaa
open Go Go.RowKit Go.Maps
set_option linter.unusedVariables false
set_option linter.unusedSimpArgs false

/-- How the elements of a type read: each is one held thing. -/
structure SKind (α : Type) where
  ev : α → Value
  z0 : α
  rd : Value → Option (DataW α × List MemPlace)
  reads : ∀ x, rd (ev x) = some (.held x, [])
  inv : ∀ v z, rd v = some z → ∃ x, v = ev x ∧ z = (.held x, [])

open Classical in
/-- Of an injective way to lay elements. -/
noncomputable def SKind.of {α : Type} (ev : α → Value) (z0 : α) (inj : ∀ x y, ev x = ev y → x = y) : SKind α where
  ev := ev
  z0 := z0
  rd := fun v => if h : ∃ x, v = ev x then some (.held h.choose, []) else none
  reads := fun x => by
    have h : ∃ y, ev x = ev y := ⟨x, rfl⟩
    rw [dif_pos h]
    rw [inj _ _ h.choose_spec.symm]
  inv := fun v z hz => by
    by_cases h : ∃ x, v = ev x
    · rw [dif_pos h] at hz
      injection hz with hz
      exact ⟨_, h.choose_spec, hz.symm⟩
    · rw [dif_neg h] at hz
      cases hz

section
variable {P : Program} {k e : TypeId} {α : Type} {E : SKind α}

/-- Block b is a map of at most n entries: f. -/
def SMap (P : Program) (E : SKind α) (k : TypeId) (w : World) (b n : Nat) (f : Int → Option α) : Prop :=
  ∃ D : DataW α, w.ownsMap P k (E.rd) b n D ∧ ∀ x, I64 x → has D (.int .i64 x) = (f x).isSome ∧ ∀ v, f x = some v → ∀ z, D.atKey (.int .i64 x) z = .held v


theorem SMap.made (P : Program) (E : SKind α) (k : TypeId) (w : World) : SMap P E k (w.alloc (.map #[] 0)) w.heap.size 0 (fun _ => none) :=
  ⟨.map [], World.ownsMap_made _ _ _ _, fun x _ => ⟨rfl, fun v h => by cases h⟩⟩
theorem SMap.lt {w : World} {b n : Nat} {f : Int → Option α} (h : SMap P E k w b n f) : b < w.heap.size := by
  obtain ⟨D, h1, _⟩ := h; exact h1.lt
theorem SMap.mono {w : World} {b n n' : Nat} {f : Int → Option α} (h : SMap P E k w b n f) (hn : n ≤ n') : SMap P E k w b n' f := by
  obtain ⟨D, h1, h2⟩ := h; exact ⟨D, h1.mono hn, h2⟩
theorem SMap.kept {w w' : World} {b n : Nat} {row : Option Nat} {f : Int → Option α} (h : SMap P E k w b n f) (hg : w.grownBy w' row) (hne : some b ≠ row) : SMap P E k w' b n f := by
  obtain ⟨D, h1, h2⟩ := h; exact ⟨D, h1.kept hg hne, h2⟩
theorem SMap.of_block {w w' : World} {b n : Nat} {f : Int → Option α} (h : SMap P E k w b n f) (hb : w'.heap[b]? = w.heap[b]?) : SMap P E k w' b n f := by
  obtain ⟨D, ⟨es, clock, h1, h2⟩, h3⟩ := h
  exact ⟨D, ⟨es, clock, hb.trans h1, h2⟩, h3⟩
theorem SMap.below {w w' : World} {b n B : Nat} {f : Int → Option α} (h : SMap P E k w b n f) (hB : Below B w w') (hb : b < B) : SMap P E k w' b n f := h.of_block (hB.block b hb)
theorem SMap.alloc {w : World} {b n : Nat} {f : Int → Option α} (h : SMap P E k w b n f) (o : Obj) : SMap P E k (w.alloc o) b n f := h.kept (World.grownBy_alloc w o none) (by simp)
theorem SMap.setCell {w : World} {b n : Nat} {f : Int → Option α} (h : SMap P E k w b n f) {a : Addr} (ha : b ≠ a.block) (u : Value) : SMap P E k (w.setCell a u) b n f := by
  obtain ⟨D, h1, h2⟩ := h; exact ⟨D, h1.setCell ha u, h2⟩
theorem SMap.congr {w : World} {b n : Nat} {f g : Int → Option α} (h : SMap P E k w b n f) (hfg : ∀ x, I64 x → f x = g x) : SMap P E k w b n g := by
  obtain ⟨D, h1, h2⟩ := h
  exact ⟨D, h1, fun x hx => by rw [← hfg x hx]; exact h2 x hx⟩

/-- The values of the map are values of their type. -/
theorem SMap.look {w : World} {b n : Nat} {f : Int → Option α} (h : SMap P E k w b n f) (hk : P.underlying k = some (.int .i64)) {t : TypeId} (ht : P.underlying t = some (.map k e)) (hz : (zeroValue e).run P w = .ok (E.ev E.z0) w) {x : Int} (hx : I64 x) (ok : Bool) :
    (Instr.lookup t (.map (some b)) (.int .i64 x) ok).run P w = .ok (if ok then .tuple #[E.ev ((f x).getD E.z0), .bool (f x).isSome] else E.ev ((f x).getD E.z0)) w := by
  obtain ⟨D, h1, h2⟩ := h
  obtain ⟨hh, hat⟩ := h2 x hx
  have hkey : keyOf P k (.int .i64 x) = some (.int .i64 x) := keyOf_int_mk hk hx
  have hval : ∀ v ps, E.rd v = some (D.atKey (.int .i64 x) (.held E.z0), ps) → v = E.ev ((f x).getD E.z0) := fun v ps hv => by
    obtain ⟨y, rfl, hz⟩ := E.inv _ _ hv
    have hz1 := congrArg Prod.fst hz
    simp only at hz1
    cases hf : f x with
    | none =>
      rw [hf] at hh
      rw [atKey_of_not_has (by simpa using hh)] at hz1
      have : E.z0 = y := by injection hz1
      simp [this]
    | some u =>
      rw [hat u hf] at hz1
      have : u = y := by injection hz1
      simp [this]
  cases ok with
  | true =>
    obtain ⟨v, ps, hr, hv⟩ := h1.look_ok (int_keyed hk) ht hz (E.reads _) hkey
    rw [hr, hval v ps hv, hh]
    rfl
  | false =>
    obtain ⟨v, ps, hr, hv⟩ := h1.lookup (int_keyed hk) ht hz (E.reads _) hkey
    rw [hr, hval v ps hv]
    rfl

theorem SMap.put {w : World} {b n : Nat} {f : Int → Option α} (h : SMap P E k w b n f) (hk : P.underlying k = some (.int .i64)) {t : TypeId} (ht : P.underlying t = some (.map k e)) (hn : n < maxLen) {x : Int} (hx : I64 x) {u : α} :
    ∃ w', (Instr.mapUpdate t (.map (some b)) (.int .i64 x) (E.ev u)).run P w = .ok () w' ∧ SMap P E k w' b (n + 1) (fun y => if y = x then some u else f y) ∧ w.mapTurned w' b := by
  obtain ⟨D, h1, h2⟩ := h
  have hkey : keyOf P k (.int .i64 x) = some (.int .i64 x) := keyOf_int_mk hk hx
  obtain ⟨w', hr, ho, ht'⟩ := h1.store (int_keyed hk) ht hn hkey (E.reads _)
  refine ⟨w', hr, ⟨_, ho, fun y hy => ?_⟩, ht'⟩
  dsimp only
  by_cases hyx : y = x
  · subst hyx
    rw [if_pos rfl]
    refine ⟨by rw [has_put_same h1.isMap (isKey_int hx)]; rfl, fun v hv z => ?_⟩
    cases hv
    exact atKey_put_same h1.isMap (isKey_int hx) _ _
  · rw [if_neg hyx]
    have hne : (Lit.int .i64 y) ≠ Lit.int .i64 x := fun h => hyx (by injection h)
    refine ⟨by rw [has_put_other hne]; exact (h2 y hy).1, fun v hv z => ?_⟩
    rw [atKey_put_other hne]
    exact (h2 y hy).2 v hv z

theorem SMap.del {w : World} {b n : Nat} {f : Int → Option α} (h : SMap P E k w b n f) (hk : P.underlying k = some (.int .i64)) {t : TypeId} (ht : P.underlying t = some (.map k e)) {x : Int} (hx : I64 x) (ty : TypeId) :
    ∃ w', (Builtin.delete_ #[t, k] ty #[.map (some b), .int .i64 x]).run P w = .ok (.tuple #[]) w' ∧ SMap P E k w' b n (fun y => if y = x then none else f y) ∧ w.mapTurned w' b := by
  obtain ⟨D, h1, h2⟩ := h
  have hkey : keyOf P k (.int .i64 x) = some (.int .i64 x) := keyOf_int_mk hk hx
  obtain ⟨w', hr, ho, ht'⟩ := h1.drop (int_keyed hk) ht hkey ty
  refine ⟨w', hr, ⟨_, ho, fun y hy => ?_⟩, ht'⟩
  dsimp only
  by_cases hyx : y = x
  · subst hyx
    rw [if_pos rfl]
    exact ⟨has_del_same, fun v hv => by cases hv⟩
  · rw [if_neg hyx]
    have hne : (Lit.int .i64 y) ≠ Lit.int .i64 x := fun h => hyx (by injection h)
    refine ⟨by rw [has_del_other hne]; exact (h2 y hy).1, fun v hv z => ?_⟩
    rw [atKey_del_other hne]
    exact (h2 y hy).2 v hv z

/-! ### at the operation, for the walk -/
variable {w : World} {ops : Array Oper} {rest : List Oper} {o : Oper} {a : Act} {Q : Exit → Act → World → Prop}

/-- 'v, ok := m[k]'. -/
theorem wpList_slook_ok (hg : o.guard = none) (m x : Operand) (t : TypeId) (hop : o.op = Op.lookup t m x true) (hk : P.underlying k = some (.int .i64)) (ht : P.underlying t = some (.map k e))
    (hz : (zeroValue e).run P w = .ok (E.ev E.z0) w) (b n : Nat) (f : Int → Option α) (hm : a.eval m = .map (some b)) (h : SMap P E k w b n f) (z : Int) (hx : a.eval x = .int .i64 z) (hw : I64 z)
    (hK : wpList P ops Q rest (a.put o.dst (.tuple #[E.ev ((f z).getD E.z0), .bool (f z).isSome])) w) : wpList P ops Q (o :: rest) a w := by
  refine wpList_plain hg fun K' hK' => ?_
  have hr := h.look hk ht hz hw true
  unfold Oper.wp
  simp [execOp, hop, hm, hx, hr, Result.andThen]
  exact hK' _ _ hK
/-- 'm[k]'. -/
theorem wpList_slook (hg : o.guard = none) (m x : Operand) (t : TypeId) (hop : o.op = Op.lookup t m x false) (hk : P.underlying k = some (.int .i64)) (ht : P.underlying t = some (.map k e))
    (hz : (zeroValue e).run P w = .ok (E.ev E.z0) w) (b n : Nat) (f : Int → Option α) (hm : a.eval m = .map (some b)) (h : SMap P E k w b n f) (z : Int) (hx : a.eval x = .int .i64 z) (hw : I64 z)
    (hK : wpList P ops Q rest (a.put o.dst (E.ev ((f z).getD E.z0))) w) : wpList P ops Q (o :: rest) a w := by
  refine wpList_plain hg fun K' hK' => ?_
  have hr := h.look hk ht hz hw false
  unfold Oper.wp
  simp [execOp, hop, hm, hx, hr, Result.andThen]
  exact hK' _ _ hK
/-- 'm[k] = v'. -/
theorem wpList_sput (hg : o.guard = none) (m x v : Operand) (t : TypeId) (hop : o.op = Op.mapUpdate t m x v) (hk : P.underlying k = some (.int .i64)) (ht : P.underlying t = some (.map k e))
    (b n : Nat) (f : Int → Option α) (hm : a.eval m = .map (some b)) (h : SMap P E k w b n f) (hn : n < maxLen) (z : Int) (hx : a.eval x = .int .i64 z) (hw : I64 z) (u : α) (hv : a.eval v = E.ev u)
    (hK : ∀ w', SMap P E k w' b (n + 1) (fun y => if y = z then some u else f y) → w.mapTurned w' b → wpList P ops Q rest (a.put o.dst undef) w') : wpList P ops Q (o :: rest) a w := by
  refine wpList_plain hg fun K' hK' => ?_
  obtain ⟨w', hr, h1, h2⟩ := h.put (u := u) hk ht hn hw
  unfold Oper.wp
  simp [execOp, hop, hm, hx, hv, hr, Result.andThen]
  exact hK' _ _ (hK w' h1 h2)
end
end Go.Proofs.Ytcflnjmglanneaa
