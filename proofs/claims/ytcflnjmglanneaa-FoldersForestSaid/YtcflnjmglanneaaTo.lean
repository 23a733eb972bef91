/- Folders: the plain law of trees of lists of places: order, repetitions, both ways, the last place. -/
import Derived.Test.YtcflnjmglanneaaTn
namespace Go.Proofs.Ytcflnjmglanneaa
set_option linter.unusedVariables false
set_option linter.unusedSimpArgs false

/-- A strict order, whole. -/
structure TotO (lt : Pl → Pl → Bool) : Prop where
  irr : ∀ x, lt x x = false
  tr : ∀ x y z, lt x y = true → lt y z = true → lt x z = true
  tot : ∀ x y, lt x y = false → lt y x = false → x = y
/-- An element put behind all that are not greater. -/
def insO (lt : Pl → Pl → Bool) (x : Pl) : List Pl → List Pl
  | [] => [x]
  | y :: l => if lt x y then x :: y :: l else y :: insO lt x l
/-- The valid places in order. -/
def orderT (lt : Pl → Pl → Bool) (l : List Pl) : List Pl := l.foldl (fun o x => if okP x then insO lt x o else o) []
def SortO (lt : Pl → Pl → Bool) (l : List Pl) : Prop := l.Pairwise fun a b => lt b a = false
theorem insO_perm {lt : Pl → Pl → Bool} (x : Pl) : ∀ l, (insO lt x l).Perm (x :: l)
  | [] => List.Perm.refl _
  | y :: l => by
    unfold insO
    split
    · exact List.Perm.refl _
    · exact ((insO_perm x l).cons y).trans (List.Perm.swap x y l)
theorem mem_insO {lt : Pl → Pl → Bool} {x z : Pl} {l : List Pl} : z ∈ insO lt x l ↔ z = x ∨ z ∈ l := by rw [(insO_perm x l).mem_iff, List.mem_cons]
theorem nlt_trans {lt : Pl → Pl → Bool} (hO : TotO lt) {x y z : Pl} (h1 : lt y x = false) (h2 : lt z y = false) : lt z x = false := by
  cases hzx : lt z x with
  | false => rfl
  | true =>
    exfalso
    cases hxy : lt x y with
    | true => rw [hO.tr z x y hzx hxy] at h2; cases h2
    | false =>
      have := hO.tot x y hxy h1
      subst this
      rw [h2] at hzx; cases hzx
theorem lt_asymm {lt : Pl → Pl → Bool} (hO : TotO lt) {x y : Pl} (h : lt x y = true) : lt y x = false := by
  cases h2 : lt y x with
  | false => rfl
  | true => have := hO.tr x y x h h2; rw [hO.irr] at this; cases this
theorem insO_sort {lt : Pl → Pl → Bool} (hO : TotO lt) (x : Pl) : ∀ {l}, SortO lt l → SortO lt (insO lt x l)
  | [], _ => List.pairwise_singleton _ _
  | y :: l, hs => by
    have hs' := List.pairwise_cons.1 hs
    unfold insO
    split
    · rename_i h
      refine List.pairwise_cons.2 ⟨fun z hz => ?_, hs⟩
      have hyx := lt_asymm hO h
      rcases List.mem_cons.1 hz with rfl | hz
      · exact hyx
      · exact nlt_trans hO hyx (hs'.1 z hz)
    · rename_i h
      refine List.pairwise_cons.2 ⟨fun z hz => ?_, insO_sort hO x hs'.2⟩
      rcases mem_insO.1 hz with rfl | hz
      · simpa using h
      · exact hs'.1 z hz
theorem order_from {lt : Pl → Pl → Bool} (hO : TotO lt) : ∀ (l o : List Pl), SortO lt o → SortO lt (l.foldl (fun o x => if okP x then insO lt x o else o) o) ∧ (l.foldl (fun o x => if okP x then insO lt x o else o) o).Perm (l.filter (fun x => decide (okP x)) ++ o)
  | [], o, h => ⟨h, List.Perm.refl _⟩
  | x :: l, o, h => by
    rw [List.foldl_cons]
    by_cases hk : okP x
    · simp only [hk, if_true, decide_true, List.filter_cons_of_pos]
      obtain ⟨h1, h2⟩ := order_from hO l (insO lt x o) (insO_sort hO x h)
      refine ⟨h1, h2.trans ?_⟩
      rw [List.cons_append]
      exact ((insO_perm x o).append_left _).trans List.perm_middle
    · simp only [hk, if_false, decide_false, Bool.false_eq_true, not_false_eq_true, List.filter_cons_of_neg]
      exact order_from hO l o h
theorem orderT_sort {lt : Pl → Pl → Bool} (hO : TotO lt) (l : List Pl) : SortO lt (orderT lt l) := (order_from hO l [] List.Pairwise.nil).1
theorem orderT_perm {lt : Pl → Pl → Bool} (hO : TotO lt) (l : List Pl) : (orderT lt l).Perm (l.filter fun x => decide (okP x)) := by
  have := (order_from hO l [] List.Pairwise.nil).2
  rwa [List.append_nil] at this
theorem sort_unique {lt : Pl → Pl → Bool} (hO : TotO lt) {l m : List Pl} (h : l.Perm m) (hl : SortO lt l) (hm : SortO lt m) : l = m :=
  List.Perm.eq_of_pairwise (fun a b _ _ h1 h2 => hO.tot a b h2 h1) hl hm h
theorem order_mergeSort {lt : Pl → Pl → Bool} (hO : TotO lt) (l : List Pl) : orderT lt l = (l.filter fun x => decide (okP x)).mergeSort fun x y => !lt y x := by
  refine sort_unique hO ((orderT_perm hO l).trans (List.mergeSort_perm _ _).symm) (orderT_sort hO l) ?_
  have h := List.pairwise_mergeSort (le := fun x y => !lt y x) (fun a b c h1 h2 => by
    simp only [Bool.not_eq_eq_eq_not, Bool.not_true] at *
    exact nlt_trans hO h1 h2) (fun a b => by
    cases h : lt b a with
    | false => rfl
    | true => simp [lt_asymm hO h]) (l.filter fun x => decide (okP x))
  exact h.imp fun h => by simpa using h
theorem orderT_congr {lt : Pl → Pl → Bool} (hO : TotO lt) {l m : List Pl} (h : l.Perm m) : orderT lt l = orderT lt m :=
  sort_unique hO ((orderT_perm hO l).trans ((h.filter _).trans (orderT_perm hO m).symm)) (orderT_sort hO l) (orderT_sort hO m)
theorem orderT_cons_ok {lt : Pl → Pl → Bool} (hO : TotO lt) {a : Pl} {l : List Pl} (h : okP a) : orderT lt (a :: l) = insO lt a (orderT lt l) := by
  refine sort_unique hO ((orderT_perm hO (a :: l)).trans ?_) (orderT_sort hO _) (insO_sort hO a (orderT_sort hO l))
  simp only [h, decide_true, List.filter_cons_of_pos]
  exact ((orderT_perm hO l).cons a).symm.trans (insO_perm a _).symm
theorem orderT_cons_bad {lt : Pl → Pl → Bool} {a : Pl} {l : List Pl} (h : ¬ okP a) : orderT lt (a :: l) = orderT lt l := by
  unfold orderT
  simp [h]
theorem mem_orderT {lt : Pl → Pl → Bool} (hO : TotO lt) {l : List Pl} {e : Pl} : e ∈ orderT lt l ↔ e ∈ l ∧ okP e := by
  rw [(orderT_perm hO l).mem_iff, List.mem_filter]; simp
theorem insT_insT (p : Pl) : ∀ t, insT p (insT p t) = insT p t
  | [] => by simp [insT]
  | e :: t => by
    by_cases h : p.f ≤ e.f
    · have : insT p (e :: t) = p :: (e :: t).filter (fun y => decide (y.f ≠ p.f)) := by rw [insT, if_pos h]
      rw [this, insT, if_pos (Int.le_refl _)]
      congr 1
      rw [List.filter_cons_of_neg (by simp), List.filter_filter]
      simp
    · have : insT p (e :: t) = e :: insT p t := by rw [insT, if_neg h]
      rw [this, insT, if_neg h, insT_insT p t]
theorem Frst.again {T : List Pl} {L : Int → Nat} (h : Frst T L) {p : Pl} (hk : okP p) : stepT (stepT T p) p = stepT T p := by
  unfold stepT
  cases hp : putT T p with
  | none => simp only [Option.getD_none]; rw [hp]; rfl
  | some T' =>
    simp only [Option.getD_some]
    unfold putT at hp
    by_cases hb : BadP T p
    · rw [if_pos hb] at hp; cases hp
    rw [if_neg hb] at hp
    by_cases hd : DeepT (insT p T)
    · rw [if_pos hd] at hp; cases hp
    rw [if_neg hd] at hp
    injection hp with hp
    subst hp
    have h' := h.put hk hb hd
    have hb' : ¬ BadP (insT p T) p := by
      rintro ⟨h0, h1⟩
      have hF : placeT (insT p T) p.f = some p := by rw [insT_place h.sort, updF_same]
      have hne : p.p ≠ p.f := fun e => hb ⟨h0, .inr (.inl e)⟩
      rcases h1 with h1 | h1
      · rw [insT_place h.sort, updF_ne _ _ hne] at h1
        exact hb ⟨h0, .inl h1⟩
      · have hw := (h'.wi (n := 32) (by decide)).1 h1
        have := hw.le h'.lev
        have hu := h'.lev.up hF h0
        omega
    unfold putT
    rw [if_neg hb', insT_insT, if_neg hd]
    rfl
theorem Frst.ins_dup {lt : Pl → Pl → Bool} (hO : TotO lt) {a : Pl} (ha : okP a) :
    ∀ {s : List Pl} {T : List Pl} {L : Int → Nat}, Frst T L → SortO lt s → (∀ e ∈ s, okP e) → a ∈ s → (insO lt a s).foldl stepT T = s.foldl stepT T
  | [], _, _, _, _, _, hm => by simp at hm
  | y :: s, T, L, h, hs, hk, hm => by
    have hs' := List.pairwise_cons.1 hs
    have hlt : lt a y = false := by
      rcases List.mem_cons.1 hm with rfl | hm
      · exact hO.irr _
      · exact hs'.1 a hm
    rw [insO, hlt, if_neg (by simp), List.foldl_cons, List.foldl_cons]
    obtain ⟨L', h'⟩ := h.step (hk y (by simp))
    by_cases hms : a ∈ s
    · exact Frst.ins_dup hO ha h' hs'.2 (fun e he => hk e (by simp [he])) hms
    · have hay : a = y := by rcases List.mem_cons.1 hm with h | h; exact h; exact absurd h hms
      subst hay
      have : insO lt a s = a :: s := by
        cases s with
        | nil => rfl
        | cons z s =>
          have h1 := hs'.1 z (by simp)
          have h2 : lt a z = true := by
            cases h2 : lt a z with
            | true => rfl
            | false => exact absurd (by rw [hO.tot a z h2 h1]; simp) hms
          rw [insO, if_pos h2]
      rw [this, List.foldl_cons, h.again ha]
/-- The tree of a list of places. -/
def treeL (lt : Pl → Pl → Bool) (l : List Pl) : List Pl := (orderT lt l).foldl stepT []
theorem treeL_frst {lt : Pl → Pl → Bool} (hO : TotO lt) (l : List Pl) : ∃ L, Frst (treeL lt l) L :=
  Frst.nil.steps fun p hp => ((mem_orderT hO).1 hp).2
theorem mem_stepT {T : List Pl} (hs : SortT T) {p e : Pl} (h : e ∈ stepT T p) : e = p ∨ e ∈ T := by
  unfold stepT putT at h
  by_cases hb : BadP T p
  · rw [if_pos hb] at h; exact .inr h
  rw [if_neg hb] at h
  by_cases hd : DeepT (insT p T)
  · rw [if_pos hd] at h; exact .inr h
  rw [if_neg hd] at h
  rcases (mem_insT hs e).1 h with h | ⟨h, -⟩
  · exact .inl h
  · exact .inr h
theorem mem_steps : ∀ {l T : List Pl} {L : Int → Nat}, Frst T L → (∀ p ∈ l, okP p) → ∀ {e}, e ∈ l.foldl stepT T → e ∈ l ∨ e ∈ T
  | [], _, _, _, _, _, h => .inr h
  | p :: l, T, L, hF, hk, e, h => by
    obtain ⟨L', h'⟩ := hF.step (hk p (by simp))
    rcases mem_steps h' (fun q hq => hk q (by simp [hq])) h with h | h
    · exact .inl (by simp [h])
    · rcases mem_stepT hF.sort h with rfl | h
      · exact .inl (by simp)
      · exact .inr h
theorem mem_treeL {lt : Pl → Pl → Bool} (hO : TotO lt) {l : List Pl} {e : Pl} (h : e ∈ treeL lt l) : e ∈ l ∧ okP e := by
  rcases mem_steps Frst.nil (fun p hp => ((mem_orderT hO).1 hp).2) h with h | h
  · exact (mem_orderT hO).1 h
  · simp at h
theorem treeL_congr {lt : Pl → Pl → Bool} (hO : TotO lt) {l m : List Pl} (h : l.Perm m) : treeL lt l = treeL lt m := by unfold treeL; rw [orderT_congr hO h]
theorem treeL_dup {lt : Pl → Pl → Bool} (hO : TotO lt) {a : Pl} {l : List Pl} (h : a ∈ l) : treeL lt (a :: l) = treeL lt l := by
  unfold treeL
  by_cases hk : okP a
  · rw [orderT_cons_ok hO hk]
    exact Frst.ins_dup hO hk Frst.nil (orderT_sort hO l) (fun e he => ((mem_orderT hO).1 he).2) ((mem_orderT hO).2 ⟨h, hk⟩)
  · rw [orderT_cons_bad hk]
/-- The law of the order: a turned list with one place again. -/
theorem treeL_order {lt : Pl → Pl → Bool} (hO : TotO lt) (l m : List Pl) (k : Nat) (a : Pl) (h : l[k]? = some a) : treeL lt (((l.drop k ++ m) ++ l.take k) ++ [a]) = treeL lt (l ++ m) := by
  have hm : a ∈ l := List.mem_of_getElem? h
  have h1 : (((l.drop k ++ m) ++ l.take k) ++ [a]).Perm (a :: (l ++ m)) := by
    refine (List.perm_append_singleton a _).trans (List.Perm.cons a ?_)
    refine List.perm_append_comm.trans ?_
    rw [← List.append_assoc, List.take_append_drop]
  rw [treeL_congr hO h1, treeL_dup hO (List.mem_append_left _ hm)]
/-- A place after all of them. -/
theorem orderT_last {lt : Pl → Pl → Bool} (hO : TotO lt) {l : List Pl} {p : Pl} (hk : okP p) (h : ∀ e ∈ l, lt e p = true) : orderT lt (l ++ [p]) = orderT lt l ++ [p] := by
  refine sort_unique hO ((orderT_perm hO _).trans ?_) (orderT_sort hO _) ?_
  · rw [List.filter_append]
    simp only [hk, decide_true, List.filter_cons_of_pos, List.filter_nil]
    exact (orderT_perm hO l).symm.append_right _
  · refine List.pairwise_append.2 ⟨orderT_sort hO l, List.pairwise_singleton _ _, fun a ha b hb => ?_⟩
    rw [List.mem_singleton] at hb
    subst hb
    exact lt_asymm hO (h a ((mem_orderT hO).1 ha).1)
theorem treeL_last {lt : Pl → Pl → Bool} (hO : TotO lt) {l : List Pl} {p : Pl} (hk : okP p) (h : ∀ e ∈ l, lt e p = true) : treeL lt (l ++ [p]) = stepT (treeL lt l) p := by
  unfold treeL
  rw [orderT_last hO hk h, List.foldl_append]
  rfl
theorem insT_length {p : Pl} : ∀ {t : List Pl}, SortT t → (insT p t).length = (t.filter fun e => decide (e.f ≠ p.f)).length + 1
  | [], _ => rfl
  | e :: t, hs => by
    have hs' := List.pairwise_cons.1 hs
    unfold insT
    by_cases h : p.f ≤ e.f
    · rw [if_pos h]; rfl
    · rw [if_neg h, List.length_cons, insT_length hs'.2, List.filter_cons_of_pos (by simp; omega)]; rfl
/-- The folders at or below a folder. -/
def belowT (T : List Pl) (x : Int) : List Int := if (placeT T x).isSome then (T.filter fun e => decide (e.f = x ∨ x ∈ upT T 32 e.f)).map Pl.f else []
theorem mem_belowT {T : List Pl} {L : Int → Nat} (h : Frst T L) {x y : Int} : y ∈ belowT T x ↔ (placeT T x).isSome = true ∧ (placeT T y).isSome = true ∧ WiF (placeT T) x y := by
  unfold belowT
  by_cases hx : (placeT T x).isSome = true
  · rw [if_pos hx, List.mem_map]
    constructor
    · rintro ⟨e, he, rfl⟩
      obtain ⟨h1, h2⟩ := List.mem_filter.1 he
      simp only [decide_eq_true_eq] at h2
      exact ⟨hx, by rw [h.sort.once e h1]; rfl, (h.wi (n := 32) (by decide)).1 h2⟩
    · rintro ⟨-, h1, h2⟩
      obtain ⟨e, he⟩ := Option.isSome_iff_exists.1 h1
      obtain ⟨m1, rfl⟩ := placeT_some he
      exact ⟨e, List.mem_filter.2 ⟨m1, by simpa using (h.wi (n := 32) (by decide)).2 h2⟩, rfl⟩
  · rw [if_neg hx]
    simp [hx]
theorem WiF.both {T : List Pl} {L : Int → Nat} (h : Frst T L) {x y : Int} (hw : WiF (placeT T) x y) (hne : y ≠ x) : (placeT T x).isSome = true ∧ (placeT T y).isSome = true := by
  induction hw with
  | here => exact absurd rfl hne
  | @up z e he h0 hw ih =>
    refine ⟨?_, by rw [he]; rfl⟩
    by_cases hx : e.p = x
    · rw [← hx]; exact h.par e (placeT_some he).1 h0
    · exact (ih hx).1
theorem upT_self {T : List Pl} {L : Int → Nat} (h : Frst T L) (y : Int) : y ∉ upT T 32 y := by
  intro hm
  rw [upT_upF] at hm
  unfold upF at hm
  cases he : placeT T y with
  | none => rw [he] at hm; simp at hm
  | some e =>
    rw [he] at hm
    by_cases h0 : 0 ≤ e.p
    · simp only [h0, if_true, List.mem_cons] at hm
      have hw : WiF (placeT T) y e.p := (mem_upF h.lev 31 e.p (by have := h.le e.p; omega)).1 (hm.imp Eq.symm id)
      have := hw.le h.lev
      have := h.lev.up he h0
      omega
    · simp [h0] at hm
theorem mem_upT {T : List Pl} {L : Int → Nat} (h : Frst T L) {x y : Int} (hne : x ≠ y) : x ∈ upT T 32 y ↔ WiF (placeT T) x y := by
  rw [← h.wi (n := 32) (by decide)]
  exact ⟨.inr, fun h => h.elim (fun e => absurd e.symm hne) id⟩
/-- The law of both ways. -/
theorem both_ways {T : List Pl} {L : Int → Nat} (h : Frst T L) {x y : Int} (hne : x ≠ y) : y ∈ belowT T x ↔ x ∈ upT T 32 y := by
  rw [mem_belowT h, mem_upT h hne]
  exact ⟨fun k => k.2.2, fun k => have b := k.both h (fun e => hne e.symm); ⟨b.1, b.2, k⟩⟩
theorem self_below {T : List Pl} {L : Int → Nat} (h : Frst T L) {x : Int} : x ∈ belowT T x ↔ (placeT T x).isSome = true := by
  rw [mem_belowT h]
  exact ⟨fun k => k.1, fun k => ⟨k, k, .here⟩⟩
theorem inner_below {T : List Pl} {L : Int → Nat} (h : Frst T L) {x y z : Int} (hy : y ∈ belowT T x) (hz : z ∈ belowT T y) : z ∈ belowT T x := by
  rw [mem_belowT h] at *
  exact ⟨hy.1, hz.2.1, hz.2.2.trans hy.2.2⟩
theorem filter_lt {α : Type} {p q : α → Bool} : ∀ {l : List α} {a : α}, (∀ x ∈ l, p x = true → q x = true) → a ∈ l → p a = false → q a = true → (l.filter p).length < (l.filter q).length
  | [], _, _, h, _, _ => by simp at h
  | x :: l, a, hi, hm, hp, hq => by
    have hle : (l.filter p).length ≤ (l.filter q).length := by
      rw [← List.countP_eq_length_filter, ← List.countP_eq_length_filter]
      exact List.countP_mono_left fun x hx h => hi x (by simp [hx]) h
    rcases List.mem_cons.1 hm with rfl | hm
    · rw [List.filter_cons_of_neg (by simp [hp]), List.filter_cons_of_pos hq, List.length_cons]; omega
    · have ih := filter_lt (fun x hx => hi x (by simp [hx])) hm hp hq
      by_cases hx : p x = true
      · rw [List.filter_cons_of_pos hx, List.filter_cons_of_pos (hi x (by simp) hx), List.length_cons, List.length_cons]; omega
      · rw [List.filter_cons_of_neg hx]
        by_cases hx2 : q x = true
        · rw [List.filter_cons_of_pos hx2, List.length_cons]; omega
        · rw [List.filter_cons_of_neg hx2]; exact ih
theorem inner_less {T : List Pl} {L : Int → Nat} (h : Frst T L) {x y : Int} (hne : x ≠ y) (hy : y ∈ belowT T x) : (belowT T y).length < (belowT T x).length := by
  have hb := (mem_belowT h).1 hy
  have hnw : ¬ WiF (placeT T) y x := fun k => by
    have h1 := k.le h.lev
    have h2 := hb.2.2.lt h.lev (fun e => hne e.symm)
    omega
  unfold belowT
  rw [if_pos hb.1, if_pos hb.2.1, List.length_map, List.length_map]
  obtain ⟨e, he⟩ := Option.isSome_iff_exists.1 hb.1
  obtain ⟨m1, rfl⟩ := placeT_some he
  refine filter_lt (a := e) (fun z hz hp => ?_) m1 ?_ ?_
  · simp only [decide_eq_true_eq] at *
    exact (h.wi (n := 32) (by decide)).2 (((h.wi (n := 32) (by decide)).1 hp).trans hb.2.2)
  · simp only [decide_eq_false_iff_not]
    exact fun k => hnw ((h.wi (n := 32) (by decide)).1 k)
  · simp
theorem cmp_tot : TotO (ltOf cmpP) where
  irr := swo_cmp.irrefl
  tr := swo_cmp.trans
  tot := tot_cmp
/-- The program's order of the valid places is the reference's. -/
theorem sortP_order (l : List Pl) : sortP (l.filter fun x => decide (okP x)) = orderT (ltOf cmpP) l := (order_mergeSort cmp_tot l).symm
end Go.Proofs.Ytcflnjmglanneaa
