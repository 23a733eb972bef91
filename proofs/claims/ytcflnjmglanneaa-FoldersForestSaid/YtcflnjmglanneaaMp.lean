/- A map keyed by ints that a call makes, told by a plain function from ints: made, looked up, stored into, deleted from. Over whatever program. -/
import Derived.Maps.OwnSet
import Derived.WalkKit
import Derived.Lib.Hide
namespace Go.Proofs.Ytcflnjmglanneaa
open Go Go.RowKit Go.Maps
set_option linter.unusedVariables false
set_option linter.unusedSimpArgs false

/-- An int of 64 bits. -/
def I64 (x : Int) : Prop := (Lit.int .i64 x).wf = true
theorem I64.of {x : Int} (h : -9223372036854775808 ≤ x ∧ x ≤ 9223372036854775807) : I64 x := WalkArith.wf_i64 (by omega)

/-- How the elements of a plain type read. -/
structure EKind (P : Program) (e : TypeId) (α : Type) where
  ev : α → Value
  el : α → Lit
  z0 : α
  ok : α → Prop
  reads : ∀ x, ok x → plainElem (H := Unit) P e (ev x) = some (.lit (el x), [])
  inv : ∀ v z, plainElem (H := Unit) P e v = some z → ∃ x, ok x ∧ v = ev x ∧ z = (.lit (el x), [])
  inj : ∀ x y, el x = el y → x = y
  ok0 : ok z0

section
variable {P : Program} {k e : TypeId}
def intK (he : P.underlying e = some (.int .i64)) : EKind P e Int where
  ev := .int .i64
  el := .int .i64
  z0 := 0
  ok := I64
  reads := fun x h => plainElem_int he h
  inv := fun v z h => by obtain ⟨a, h1, h2, h3⟩ := plainElem_int_inv he h; exact ⟨a, h3, h1, h2⟩
  inj := fun x y h => by cases h; rfl
  ok0 := by unfold I64; decide
theorem plainElem_bool_inv {P : Program} {e : TypeId} (he : P.underlying e = some .bool) {v : Value} {z : DataW Unit × List MemPlace} (h : plainElem P e v = some z) : ∃ a, v = .bool a ∧ z = (.lit (.bool a), []) := by
  unfold plainElem at h
  rw [he] at h
  cases v <;> simp at h
  exact ⟨_, rfl, h.symm⟩
def boolK (he : P.underlying e = some .bool) : EKind P e Bool where
  ev := .bool
  el := .bool
  z0 := false
  ok := fun _ => True
  reads := fun x _ => plainElem_bool he x
  inv := fun v z h => by obtain ⟨a, h1, h2⟩ := plainElem_bool_inv he h; exact ⟨a, trivial, h1, h2⟩
  inj := fun x y h => by cases h; rfl
  ok0 := trivial

variable {α : Type} {E : EKind P e α}

/-- Block b is a map of at most n entries: f. -/
def KMap (E : EKind P e α) (k : TypeId) (w : World) (b n : Nat) (f : Int → Option α) : Prop :=
  ∃ D : DataW Unit, w.ownsMap P k (plainElem P e) b n D ∧ ∀ x, I64 x → has D (.int .i64 x) = (f x).isSome ∧ ∀ v, f x = some v → ∀ z, D.atKey (.int .i64 x) z = .lit (E.el v)

theorem isKey_int {x : Int} (h : I64 x) : WideAt.IsKeyLit (.int .i64 x) := trivial

theorem KMap.made (E : EKind P e α) (k : TypeId) (w : World) : KMap E k (w.alloc (.map #[] 0)) w.heap.size 0 (fun _ => none) :=
  ⟨.map [], World.ownsMap_made _ _ _ _, fun x _ => ⟨rfl, fun v h => by cases h⟩⟩
theorem KMap.lt {w : World} {b n : Nat} {f : Int → Option α} (h : KMap E k w b n f) : b < w.heap.size := by
  obtain ⟨D, h1, _⟩ := h; exact h1.lt
theorem KMap.mono {w : World} {b n n' : Nat} {f : Int → Option α} (h : KMap E k w b n f) (hn : n ≤ n') : KMap E k w b n' f := by
  obtain ⟨D, h1, h2⟩ := h; exact ⟨D, h1.mono hn, h2⟩
theorem KMap.kept {w w' : World} {b n : Nat} {row : Option Nat} {f : Int → Option α} (h : KMap E k w b n f) (hg : w.grownBy w' row) (hne : some b ≠ row) : KMap E k w' b n f := by
  obtain ⟨D, h1, h2⟩ := h; exact ⟨D, h1.kept hg hne, h2⟩
theorem KMap.of_block {w w' : World} {b n : Nat} {f : Int → Option α} (h : KMap E k w b n f) (hb : w'.heap[b]? = w.heap[b]?) : KMap E k w' b n f := by
  obtain ⟨D, ⟨es, clock, h1, h2⟩, h3⟩ := h
  exact ⟨D, ⟨es, clock, hb.trans h1, h2⟩, h3⟩
theorem KMap.below {w w' : World} {b n B : Nat} {f : Int → Option α} (h : KMap E k w b n f) (hB : Below B w w') (hb : b < B) : KMap E k w' b n f := h.of_block (hB.block b hb)
theorem KMap.alloc {w : World} {b n : Nat} {f : Int → Option α} (h : KMap E k w b n f) (o : Obj) : KMap E k (w.alloc o) b n f := h.kept (World.grownBy_alloc w o none) (by simp)
theorem KMap.setCell {w : World} {b n : Nat} {f : Int → Option α} (h : KMap E k w b n f) {a : Addr} (ha : b ≠ a.block) (u : Value) : KMap E k (w.setCell a u) b n f := by
  obtain ⟨D, h1, h2⟩ := h; exact ⟨D, h1.setCell ha u, h2⟩
theorem KMap.congr {w : World} {b n : Nat} {f g : Int → Option α} (h : KMap E k w b n f) (hfg : ∀ x, I64 x → f x = g x) : KMap E k w b n g := by
  obtain ⟨D, h1, h2⟩ := h
  exact ⟨D, h1, fun x hx => by rw [← hfg x hx]; exact h2 x hx⟩

/-- The values of the map are values of their type. -/
theorem KMap.look {w : World} {b n : Nat} {f : Int → Option α} (h : KMap E k w b n f) (hk : P.underlying k = some (.int .i64)) {t : TypeId} (ht : P.underlying t = some (.map k e)) (hz : (zeroValue e).run P w = .ok (E.ev E.z0) w) {x : Int} (hx : I64 x) (ok : Bool) :
    (Instr.lookup t (.map (some b)) (.int .i64 x) ok).run P w = .ok (if ok then .tuple #[E.ev ((f x).getD E.z0), .bool (f x).isSome] else E.ev ((f x).getD E.z0)) w := by
  obtain ⟨D, h1, h2⟩ := h
  obtain ⟨hh, hat⟩ := h2 x hx
  have hkey : keyOf P k (.int .i64 x) = some (.int .i64 x) := keyOf_int_mk hk hx
  have hval : ∀ v ps, plainElem (H := Unit) P e v = some (D.atKey (.int .i64 x) (.lit (E.el E.z0)), ps) → v = E.ev ((f x).getD E.z0) := fun v ps hv => by
    obtain ⟨y, hy, rfl, hz⟩ := E.inv _ _ hv
    have hz1 := congrArg Prod.fst hz
    simp only at hz1
    cases hf : f x with
    | none =>
      rw [hf] at hh
      rw [atKey_of_not_has (by simpa using hh)] at hz1
      have : E.z0 = y := E.inj _ _ (by injection hz1)
      simp [this]
    | some u =>
      rw [hat u hf] at hz1
      have : u = y := E.inj _ _ (by injection hz1)
      simp [this]
  cases ok with
  | true =>
    obtain ⟨v, ps, hr, hv⟩ := h1.look_ok (int_keyed hk) ht hz (E.reads _ E.ok0) hkey
    rw [hr, hval v ps hv, hh]
    rfl
  | false =>
    obtain ⟨v, ps, hr, hv⟩ := h1.lookup (int_keyed hk) ht hz (E.reads _ E.ok0) hkey
    rw [hr, hval v ps hv]
    rfl

theorem KMap.put {w : World} {b n : Nat} {f : Int → Option α} (h : KMap E k w b n f) (hk : P.underlying k = some (.int .i64)) {t : TypeId} (ht : P.underlying t = some (.map k e)) (hn : n < maxLen) {x : Int} (hx : I64 x) {u : α} (hu : E.ok u) :
    ∃ w', (Instr.mapUpdate t (.map (some b)) (.int .i64 x) (E.ev u)).run P w = .ok () w' ∧ KMap E k w' b (n + 1) (fun y => if y = x then some u else f y) ∧ w.mapTurned w' b := by
  obtain ⟨D, h1, h2⟩ := h
  have hkey : keyOf P k (.int .i64 x) = some (.int .i64 x) := keyOf_int_mk hk hx
  obtain ⟨w', hr, ho, ht'⟩ := h1.store (int_keyed hk) ht hn hkey (E.reads _ hu)
  refine ⟨w', hr, ⟨_, ho, fun y hy => ?_⟩, ht'⟩
  dsimp only
  by_cases hyx : y = x
  · subst hyx
    rw [if_pos rfl]
    refine ⟨by rw [has_put_same h1.isMap (isKey_int hx)]; rfl, fun v hv z => ?_⟩
    cases hv
    exact atKey_put_same h1.isMap (isKey_int hx) _ _
  · rw [if_neg hyx]
    have hne : (Lit.int .i64 y) ≠ Lit.int .i64 x := fun h => hyx (by injection h)
    refine ⟨by rw [has_put_other hne]; exact (h2 y hy).1, fun v hv z => ?_⟩
    rw [atKey_put_other hne]
    exact (h2 y hy).2 v hv z

theorem KMap.del {w : World} {b n : Nat} {f : Int → Option α} (h : KMap E k w b n f) (hk : P.underlying k = some (.int .i64)) {t : TypeId} (ht : P.underlying t = some (.map k e)) {x : Int} (hx : I64 x) (ty : TypeId) :
    ∃ w', (Builtin.delete_ #[t, k] ty #[.map (some b), .int .i64 x]).run P w = .ok (.tuple #[]) w' ∧ KMap E k w' b n (fun y => if y = x then none else f y) ∧ w.mapTurned w' b := by
  obtain ⟨D, h1, h2⟩ := h
  have hkey : keyOf P k (.int .i64 x) = some (.int .i64 x) := keyOf_int_mk hk hx
  obtain ⟨w', hr, ho, ht'⟩ := h1.drop (int_keyed hk) ht hkey ty
  refine ⟨w', hr, ⟨_, ho, fun y hy => ?_⟩, ht'⟩
  dsimp only
  by_cases hyx : y = x
  · subst hyx
    rw [if_pos rfl]
    exact ⟨has_del_same, fun v hv => by cases hv⟩
  · rw [if_neg hyx]
    have hne : (Lit.int .i64 y) ≠ Lit.int .i64 x := fun h => hyx (by injection h)
    refine ⟨by rw [has_del_other hne]; exact (h2 y hy).1, fun v hv z => ?_⟩
    rw [atKey_del_other hne]
    exact (h2 y hy).2 v hv z

/-! ### at the operation, for the walk -/
variable {w : World} {ops : Array Oper} {rest : List Oper} {o : Oper} {a : Act} {Q : Exit → Act → World → Prop}

/-- 'v, ok := m[k]' at int elements. -/
theorem wpList_look_ok {he : P.underlying e = some (.int .i64)} (hg : o.guard = none) (m x : Operand) (t : TypeId) (hop : o.op = Op.lookup t m x true) (hk : P.underlying k = some (.int .i64)) (ht : P.underlying t = some (.map k e))
    (hz : (zeroValue e).run P w = .ok (.int .i64 0) w) (b n : Nat) (f : Int → Option Int) (hm : a.eval m = .map (some b)) (h : KMap (intK he) k w b n f) (z : Int) (hx : a.eval x = .int .i64 z) (hw : I64 z)
    (hK : wpList P ops Q rest (a.put o.dst (.tuple #[.int .i64 ((f z).getD 0), .bool (f z).isSome])) w) : wpList P ops Q (o :: rest) a w := by
  refine wpList_plain hg fun K' hK' => ?_
  have hr := h.look hk ht hz hw true
  unfold Oper.wp
  simp [execOp, hop, hm, hx, hr, Result.andThen]
  exact hK' _ _ hK
/-- 'm[k]' at int elements. -/
theorem wpList_look {he : P.underlying e = some (.int .i64)} (hg : o.guard = none) (m x : Operand) (t : TypeId) (hop : o.op = Op.lookup t m x false) (hk : P.underlying k = some (.int .i64)) (ht : P.underlying t = some (.map k e))
    (hz : (zeroValue e).run P w = .ok (.int .i64 0) w) (b n : Nat) (f : Int → Option Int) (hm : a.eval m = .map (some b)) (h : KMap (intK he) k w b n f) (z : Int) (hx : a.eval x = .int .i64 z) (hw : I64 z)
    (hK : wpList P ops Q rest (a.put o.dst (.int .i64 ((f z).getD 0))) w) : wpList P ops Q (o :: rest) a w := by
  refine wpList_plain hg fun K' hK' => ?_
  have hr := h.look hk ht hz hw false
  unfold Oper.wp
  simp [execOp, hop, hm, hx, hr, Result.andThen]
  exact hK' _ _ hK
/-- 'm[k]' at bool elements. -/
theorem wpList_lookB {he : P.underlying e = some .bool} (hg : o.guard = none) (m x : Operand) (t : TypeId) (hop : o.op = Op.lookup t m x false) (hk : P.underlying k = some (.int .i64)) (ht : P.underlying t = some (.map k e))
    (hz : (zeroValue e).run P w = .ok (.bool false) w) (b n : Nat) (f : Int → Option Bool) (hm : a.eval m = .map (some b)) (h : KMap (boolK he) k w b n f) (z : Int) (hx : a.eval x = .int .i64 z) (hw : I64 z)
    (hK : wpList P ops Q rest (a.put o.dst (.bool ((f z).getD false))) w) : wpList P ops Q (o :: rest) a w := by
  refine wpList_plain hg fun K' hK' => ?_
  have hr := h.look hk ht hz hw false
  unfold Oper.wp
  simp [execOp, hop, hm, hx, hr, Result.andThen]
  exact hK' _ _ hK
/-- 'm[k] = v'. -/
theorem wpList_put (hg : o.guard = none) (m x v : Operand) (t : TypeId) (hop : o.op = Op.mapUpdate t m x v) (hk : P.underlying k = some (.int .i64)) (ht : P.underlying t = some (.map k e))
    (b n : Nat) (f : Int → Option α) (hm : a.eval m = .map (some b)) (h : KMap E k w b n f) (hn : n < maxLen) (z : Int) (hx : a.eval x = .int .i64 z) (hw : I64 z) (u : α) (hv : a.eval v = E.ev u) (hu : E.ok u)
    (hK : ∀ w', KMap E k w' b (n + 1) (fun y => if y = z then some u else f y) → w.mapTurned w' b → wpList P ops Q rest (a.put o.dst undef) w') : wpList P ops Q (o :: rest) a w := by
  refine wpList_plain hg fun K' hK' => ?_
  obtain ⟨w', hr, h1, h2⟩ := h.put hk ht hn hw hu
  unfold Oper.wp
  simp [execOp, hop, hm, hx, hv, hr, Result.andThen]
  exact hK' _ _ (hK w' h1 h2)
/-- 'delete(m, k)'. -/
theorem wpList_del (hg : o.guard = none) (m x : Operand) (t : TypeId) (hop : o.op = Op.call { callee := Callee.builtin Builtin.delete, args := #[m, x], argTypes := #[t, k] }) (hk : P.underlying k = some (.int .i64)) (ht : P.underlying t = some (.map k e))
    (b n : Nat) (f : Int → Option α) (hm : a.eval m = .map (some b)) (h : KMap E k w b n f) (z : Int) (hx : a.eval x = .int .i64 z) (hw : I64 z)
    (hK : ∀ w', KMap E k w' b n (fun y => if y = z then none else f y) → w.mapTurned w' b → wpList P ops Q rest (a.put o.dst (.tuple #[])) w') : wpList P ops Q (o :: rest) a w := by
  refine wpList_plain hg fun K' hK' => ?_
  obtain ⟨w', hr, h1, h2⟩ := h.del hk ht hw o.type
  unfold Oper.wp
  simp [execOp, hop, resolve, invoke, builtin, hm, hx, hr, Result.andThen]
  exact hK' _ _ (hK w' h1 h2)
end
end Go.Proofs.Ytcflnjmglanneaa
