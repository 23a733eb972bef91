/- Package keytree, plain: trees as sorted lists; what Set, Remove, Renew leave is what the reference leaves. -/
import Derived.Test.YtekdekchbnacgaaLm
namespace Go.Proofs.Ytekdekchbnacgaa
open Go.RowKit
set_option maxRecDepth 100000
set_option linter.unusedVariables false
set_option linter.unusedSimpArgs false

def Str (t : List (Int × Int)) : Prop := t.Pairwise fun a b => a.1 < b.1
def Wf (t : List (Int × Int)) : Prop := ∀ e ∈ t, I64 e.1 ∧ I64 e.2
theorem Str.keys {t : List (Int × Int)} (h : Str t) : (t.map (·.1)).Pairwise (· < ·) := List.pairwise_map.2 h
theorem ofF_cons (e : Int × Int) (t : List (Int × Int)) (x : Int) : ofF (e :: t) x = if e.1 = x then some e.2 else ofF t x := by
  unfold ofF
  rw [List.find?_cons]
  by_cases h : e.1 = x
  · simp [h]
  · have h2 : (e.1 == x) = false := by simpa using h
    simp [h, h2]
theorem ofF_str : ∀ {t : List (Int × Int)}, Str t → ∀ e ∈ t, ofF t e.1 = some e.2
  | [], _, e, he => by cases he
  | y :: t, h, e, he => by
    rw [ofF_cons]
    have h1 := List.pairwise_cons.1 h
    rcases List.mem_cons.1 he with rfl | he
    · rw [if_pos rfl]
    · rw [if_neg (by have := h1.1 e he; omega)]
      exact ofF_str h1.2 e he
theorem str_norm {t : List (Int × Int)} (h : Str t) : (t.map (·.1)).map (fun x => (x, (ofF t x).getD 0)) = t := by
  rw [List.map_map]
  have : ∀ e ∈ t, ((fun x => (x, (ofF t x).getD 0)) ∘ (·.1)) e = id e := fun e he => by
    simp only [Function.comp, ofF_str h e he, Option.getD_some, id]
  rw [List.map_congr_left this, List.map_id]
theorem ofF_key {t : List (Int × Int)} {x : Int} : (ofF t x).isSome = true ↔ x ∈ t.map (·.1) := by
  rw [ofF_isSome, List.mem_map]
theorem str_ext {s t : List (Int × Int)} (hs : Str s) (ht : Str t) (ws : Wf s) (wt : Wf t) (h : ∀ x, I64 x → ofF s x = ofF t x) : s = t := by
  have hk : s.map (·.1) = t.map (·.1) := strict_ext hs.keys ht.keys (fun x => by
    rw [← ofF_key, ← ofF_key]
    constructor
    · intro h1
      obtain ⟨e, he, rfl⟩ := List.mem_map.1 (ofF_key.1 h1)
      rw [← h _ (ws e he).1]; exact h1
    · intro h1
      obtain ⟨e, he, rfl⟩ := List.mem_map.1 (ofF_key.1 h1)
      rw [h _ (wt e he).1]; exact h1)
  rw [← str_norm hs, ← str_norm ht, ← hk]
  refine List.map_congr_left fun x hx => ?_
  obtain ⟨e, he, rfl⟩ := List.mem_map.1 hx
  rw [h _ (ws e he).1]

/-- A valid tree. -/
def Good (t : List (Int × Int)) : Prop := Str t ∧ ∀ e ∈ t, 1 ≤ e.1 ∧ e.1 ≤ 1023 ∧ GrpOk e.2 ∧ MetR t e.1
theorem getD_at {t : List (Int × Int)} {i : Nat} (hi : i < t.length) : t.getD i (0, 0) = t[i] := by simp [List.getD, hi]
theorem str_of_next {t : List (Int × Int)} (h : ∀ i, i + 1 < t.length → (t.getD i (0, 0)).1 < (t.getD (i + 1) (0, 0)).1) : Str t := by
  have key : ∀ j, j < t.length → ∀ i, i < j → (t.getD i (0, 0)).1 < (t.getD j (0, 0)).1 := by
    intro j
    induction j with
    | zero => intro _ i hi; omega
    | succ j ih =>
      intro hj i hi
      have h1 := h j hj
      rcases Nat.lt_or_eq_of_le (Nat.le_of_lt_succ hi) with h2 | h2
      · have := ih (by omega) i h2; omega
      · rw [h2]; exact h1
  unfold Str
  rw [List.pairwise_iff_getElem]
  intro i j hi hj hij
  have := key j hj i hij
  rwa [getD_at hi, getD_at hj] at this
theorem chk_good {t : List (Int × Int)} (h : chkT t = 0) : Good t := by
  have hb : ∀ i, i < t.length → ¬ BadR t i := fun i hi hb => by rw [chkT_badR hi hb] at h; exact absurd h (by decide)
  refine ⟨str_of_next (fun i hi => ?_), fun e he => ?_⟩
  · have := hb (i + 1) hi
    unfold BadR at this
    have h3 : ¬ (0 < i + 1 ∧ (t.getD (i + 1) (0, 0)).1 ≤ (t.getD (i + 1 - 1) (0, 0)).1) := fun h' => this (.inr (.inr (.inl h')))
    rw [show i + 1 - 1 = i by omega] at h3
    omega
  · obtain ⟨i, hi, rfl⟩ := List.getElem_of_mem he
    have := hb i hi
    unfold BadR at this
    rw [getD_at hi] at this
    refine ⟨?_, ?_, ?_, ?_⟩
    · exact Classical.byContradiction fun h' => this (.inl (by omega))
    · exact Classical.byContradiction fun h' => this (.inr (.inl (by omega)))
    · exact Classical.byContradiction fun h' => this (.inr (.inr (.inr (.inl h'))))
    · exact Classical.byContradiction fun h' => this (.inr (.inr (.inr (.inr h'))))
theorem good_chk {t : List (Int × Int)} (h : Good t) : chkT t = 0 := by
  refine chkT_goodR (fun i hi hb => ?_)
  have hg := h.2 t[i] (List.getElem_mem hi)
  unfold BadR at hb
  rw [getD_at hi] at hb
  rcases hb with hb | hb | hb | hb | hb
  · omega
  · omega
  · have h1 := (List.pairwise_iff_getElem.1 h.1) (i - 1) i (by omega) hi (by omega)
    rw [getD_at (by omega)] at hb
    omega
  · exact hb hg.2.2.1
  · exact hb hg.2.2.2

theorem ofF_without (t : List (Int × Int)) (d x : Int) : ofF (withoutL t d) x = if undB (512 + d) x = true then none else ofF t x := by
  induction t with
  | nil => simp [withoutL, ofF]
  | cons e t ih =>
    unfold withoutL at ih ⊢
    rw [List.filter_cons]
    by_cases hu : undB (512 + d) e.1 = true
    · rw [if_neg (by simp [hu]), ih, ofF_cons]
      by_cases hx : e.1 = x
      · rw [← hx, if_pos hu, if_pos hu]
      · rw [if_neg hx]
    · rw [if_pos (by simp [hu]), ofF_cons, ofF_cons, ih]
      by_cases hx : e.1 = x
      · rw [← hx, if_pos rfl, if_neg hu, if_pos rfl]
      · rw [if_neg hx, if_neg hx]
theorem ofF_with {z : Int × Int} : ∀ {t : List (Int × Int)}, (∀ e ∈ t, e.1 ≠ z.1) → ∀ x, ofF (withL z t) x = if x = z.1 then some z.2 else ofF t x
  | [], _, x => by
    unfold withL
    rw [ofF_cons]
    by_cases h : x = z.1
    · rw [if_pos h.symm, if_pos h]
    · rw [if_neg (fun h' => h h'.symm), if_neg h]
  | e :: t, h, x => by
    unfold withL
    split
    · rw [ofF_cons]
      by_cases hx : x = z.1
      · rw [if_pos hx.symm, if_pos hx]
      · rw [if_neg (fun h' => hx h'.symm), if_neg hx]
    · rw [ofF_cons, ofF_cons, ofF_with (fun e he => h e (List.mem_cons_of_mem _ he))]
      have h0 := h e (List.mem_cons_self ..)
      by_cases hx : e.1 = x
      · rw [if_pos hx, if_pos hx, if_neg (by rw [← hx]; exact h0)]
      · rw [if_neg hx, if_neg hx]
theorem str_without {t : List (Int × Int)} (h : Str t) (d : Int) : Str (withoutL t d) := List.Pairwise.filter _ h
theorem str_with {z : Int × Int} : ∀ {t : List (Int × Int)}, Str t → (∀ e ∈ t, e.1 ≠ z.1) → Str (withL z t)
  | [], _, _ => by unfold withL Str; simp
  | e :: t, hs, h => by
    have h1 := List.pairwise_cons.1 hs
    have h0 := h e (List.mem_cons_self ..)
    unfold withL
    split
    · rename_i hz
      refine List.pairwise_cons.2 ⟨fun y hy => ?_, hs⟩
      rcases List.mem_cons.1 hy with rfl | hy
      · exact hz
      · have := h1.1 y hy; omega
    · refine List.pairwise_cons.2 ⟨fun y hy => ?_, str_with h1.2 (fun e he => h e (List.mem_cons_of_mem _ he))⟩
      rcases withL_mem hy with rfl | hy
      · omega
      · exact h1.1 y hy
theorem without_key {t : List (Int × Int)} {d : Int} {e : Int × Int} (h : e ∈ withoutL t d) : e ∈ t ∧ ¬ Und (512 + d) e.1 := by
  unfold withoutL at h
  obtain ⟨h1, h2⟩ := List.mem_filter.1 h
  refine ⟨h1, fun h3 => ?_⟩
  rw [undB_yes h3] at h2
  cases h2
theorem without_ne {t : List (Int × Int)} {d x : Int} (hx : Und (512 + d) x) : ∀ e ∈ withoutL t d, e.1 ≠ x := fun e he h => (without_key he).2 (by rw [h]; exact hx)

/-! ### what the program leaves -/
theorem nodesL_key (f : Int → Option Int) (L : List Int) : (nodesL f L).map (·.1) = L := by
  unfold nodesL; rw [List.map_map]
  exact (List.map_congr_left (fun x _ => rfl)).trans (List.map_id _)
theorem str_nodesL {f : Int → Option Int} {xs : List Int} (h : xs.Nodup) : Str (nodesL f (xs.mergeSort leI)) := by
  have h1 : (xs.mergeSort leI).Pairwise (· < ·) := by
    have a := sort_pairwise xs
    have b : (xs.mergeSort leI).Nodup := (List.mergeSort_perm xs leI).nodup_iff.2 h
    exact (a.and b).imp fun h => by have := h.1; have := h.2; omega
  unfold Str nodesL
  rw [List.pairwise_map]
  exact h1
theorem ofF_nodesL {f : Int → Option Int} (L : List Int) (x : Int) : ofF (nodesL f L) x = if x ∈ L then some ((f x).getD 0) else none := by
  induction L with
  | nil => rfl
  | cons y L ih =>
    show ofF ((y, (f y).getD 0) :: nodesL f L) x = _
    rw [ofF_cons, ih]
    by_cases h : y = x
    · subst h; simp
    · have : ¬ x = y := fun h' => h h'.symm
      simp [h, this]
theorem ofF_keys {f : Int → Option Int} {xs : List Int} (h : KeysOf f xs) (x : Int) (hx : I64 x) : ofF (nodesL f (xs.mergeSort leI)) x = f x := by
  rw [ofF_nodesL]
  by_cases h1 : x ∈ xs
  · rw [if_pos ((sort_mem xs x).2 h1)]
    obtain ⟨v, hv⟩ := Option.isSome_iff_exists.1 (h.2.1 x h1).2
    rw [hv]; rfl
  · rw [if_neg (fun h' => h1 ((sort_mem xs x).1 h'))]
    cases hf : f x with
    | none => rfl
    | some v => exact absurd (h.2.2 x hx (by rw [hf]; rfl)) h1
theorem nodes_wf {w : World} {v : Value} {t : List (Int × Int)} (h : NodesAt w v t) : Wf t := by obtain ⟨p, c, -, -, -, -, h⟩ := h; exact h
theorem nodes_unique {f : Int → Option Int} {xs : List Int} (h : KeysOf f xs) (hw : Wf (nodesL f (xs.mergeSort leI))) {t : List (Int × Int)} (ht : Str t) (wt : Wf t) (hf : ∀ x, I64 x → f x = ofF t x) : nodesL f (xs.mergeSort leI) = t :=
  str_ext (str_nodesL h.1) ht hw wt (fun x hx => by rw [ofF_keys h x hx, hf x hx])
theorem delF_und {t : List (Int × Int)} {d : Int} (h0 : 0 ≤ d) (h1 : d < 512) (x : Int) : delF (ofF t) ((512 + d) :: pathZ d) x = ofF (withoutL t d) x := by
  rw [ofF_without]
  unfold delF
  by_cases h : x ∈ (512 + d) :: pathZ d
  · rw [if_pos h, if_pos (undB_yes ((path_und d h0 h1 x).1 h))]
  · rw [if_neg h, if_neg (fun h' => h ((path_und d h0 h1 x).2 ((undB_iff _ _).1 h')))]
theorem setM_list {t : List (Int × Int)} {d x : Int} (h0 : 0 ≤ d) (h1 : d < 512) (y : Int) : setM t d x y = ofF (withL (512 + d, x) (withoutL t d)) y := by
  rw [ofF_with (without_ne (und_self (by omega)))]
  unfold setM
  by_cases h : y = 512 + d
  · rw [if_pos h, if_pos h]
  · rw [if_neg h, if_neg h]; exact delF_und h0 h1 y
theorem chgE_ok {t : List (Int × Int)} {d : Int} {m : Bool} (h : chgE t d m = 0) : chkT t = 0 ∧ 0 ≤ d ∧ d < 512 := by
  have h1 := chgE_range h
  refine ⟨?_, h1.1, h1.2⟩
  unfold chgE at h
  split at h
  · assumption
  · exact h

theorem half_lt {d : Int} (h0 : 0 ≤ d) (h1 : d < 512) {k : Nat} (hk : k ≤ 9) : 1 ≤ (512 + d) / 2 ^ k ∧ ∀ j, j < k → (512 + d) / 2 ^ k < (512 + d) / 2 ^ j := by
  obtain ⟨n, rfl⟩ := Int.eq_ofNat_of_zero_le h0
  have h : ∀ n : Fin 512, ∀ k : Fin 10, 1 ≤ (512 + n.val) / 2 ^ k.val := by decide +kernel
  have c : ∀ j : Nat, (512 + (n : Int)) / 2 ^ j = (((512 + n) / 2 ^ j : Nat) : Int) := fun j => by
    rw [Int.natCast_ediv]; push_cast; rfl
  have hb : ∀ k, k ≤ 9 → 1 ≤ (512 + n) / 2 ^ k := fun k hk => h ⟨n, by omega⟩ ⟨k, by omega⟩
  have st : ∀ k, (512 + n) / 2 ^ (k + 1) = (512 + n) / 2 ^ k / 2 := fun k => by rw [Nat.pow_succ, Nat.div_div_eq_div_mul]
  have key : ∀ k, k ≤ 9 → ∀ j, j < k → (512 + n) / 2 ^ k < (512 + n) / 2 ^ j := by
    intro k
    induction k with
    | zero => intro _ j hj; omega
    | succ k ih =>
      intro hk j hj
      have a := hb k (by omega)
      have b := st k
      rcases Nat.lt_or_eq_of_le (Nat.le_of_lt_succ hj) with h2 | h2
      · have := ih (by omega) j h2; omega
      · rw [h2]; omega
  refine ⟨by rw [c]; have := hb k hk; omega, fun j hj => by rw [c, c]; have := key k hk j hj; omega⟩
theorem half_und {d : Int} (h0 : 0 ≤ d) (h1 : d < 512) {k : Nat} (hk : k ≤ 9) : Und (512 + d) ((512 + d) / 2 ^ k) := ⟨(half_lt h0 h1 hk).1, k, rfl⟩
theorem und_half {d x : Int} (h0 : 0 ≤ d) (h1 : d < 512) (h : Und (512 + d) x) : ∃ k, k ≤ 9 ∧ x = (512 + d) / 2 ^ k := by
  obtain ⟨hx, j, hj⟩ := h
  refine ⟨j, ?_, hj.symm⟩
  rcases Nat.lt_or_ge 9 j with h | h
  · have h2 : (512 + d) / 2 ^ j = 0 := by
      have hp : (1024 : Int) ≤ 2 ^ j := by
        have := Nat.pow_le_pow_right (n := 2) (by decide) (show 10 ≤ j from h)
        exact_mod_cast this
      exact Int.ediv_eq_zero_of_lt (by omega) (by omega)
    omega
  · exact h
theorem pathZ_get {d : Int} (h0 : 0 ≤ d) (h1 : d < 512) {k : Nat} (hk : k < 9) : (pathZ d).getD k 0 = (512 + d) / 2 ^ (k + 1) := by
  obtain ⟨n, rfl⟩ := Int.eq_ofNat_of_zero_le h0
  have h : ∀ n : Fin 512, ∀ k : Fin 9, (pathN n.val).getD k.val 0 = (512 + n.val) / 2 ^ (k.val + 1) := by decide +kernel
  have h2 := h ⟨n, by omega⟩ ⟨k, hk⟩
  have hl := pathZ_length (n : Int) h0 h1
  have e : pathZ (n : Int) = (pathN n).map fun m : Nat => (m : Int) := by simp [pathZ]
  have hl2 : k < (pathN n).length := by rw [e, List.length_map] at hl; omega
  rw [e]
  simp only [List.getD, List.getElem?_map, List.getElem?_eq_getElem hl2, Option.map_some, Option.getD_some] at h2 ⊢
  rw [h2, Int.natCast_ediv]; push_cast; rfl
theorem renL_key {t : List (Int × Int)} {d : Int} {l : List Int} : ∀ {k : Nat} {e : Int × Int}, e ∈ renL t d l k → e ∈ withoutL t d ∨ ∃ j, j < k ∧ e = ((512 + d) / 2 ^ j, l.getD j 0)
  | 0, e, h => .inl h
  | k + 1, e, h => by
    unfold renL at h
    rcases withL_mem h with rfl | h
    · exact .inr ⟨k, Nat.lt_succ_self _, rfl⟩
    · rcases renL_key h with h | ⟨j, hj, h⟩
      · exact .inl h
      · exact .inr ⟨j, Nat.lt_succ_of_lt hj, h⟩
theorem renL_ne {t : List (Int × Int)} {d : Int} {l : List Int} (h0 : 0 ≤ d) (h1 : d < 512) {k : Nat} (hk : k ≤ 9) : ∀ e ∈ renL t d l k, e.1 ≠ (512 + d) / 2 ^ k := by
  intro e he
  rcases renL_key he with h | ⟨j, hj, rfl⟩
  · exact without_ne (half_und h0 h1 hk) e h
  · have := (half_lt h0 h1 hk).2 j hj
    show (512 + d) / 2 ^ j ≠ _
    omega
theorem str_renL {t : List (Int × Int)} {d : Int} {l : List Int} (hs : Str t) (h0 : 0 ≤ d) (h1 : d < 512) : ∀ {k : Nat}, k ≤ 10 → Str (renL t d l k)
  | 0, _ => str_without hs d
  | k + 1, hk => str_with (str_renL hs h0 h1 (by omega)) (renL_ne h0 h1 (by omega))
theorem ofF_renL {t : List (Int × Int)} {d : Int} {l : List Int} (h0 : 0 ≤ d) (h1 : d < 512) {k : Nat} (hk : k ≤ 9) (x : Int) : ofF (renL t d l (k + 1)) x = if x = (512 + d) / 2 ^ k then some (l.getD k 0) else ofF (renL t d l k) x :=
  ofF_with (renL_ne h0 h1 hk) x
theorem renM_list {t : List (Int × Int)} {d : Int} {l : List Int} (h0 : 0 ≤ d) (h1 : d < 512) (x : Int) : ∀ k, k ≤ 9 → renM t d l k x = ofF (renL t d l (k + 1)) x
  | 0, hk => by
    rw [ofF_renL h0 h1 hk]
    unfold renM
    simp only [Int.pow_zero, Int.ediv_one]
    by_cases h : x = 512 + d
    · rw [if_pos h, if_pos h]
    · rw [if_neg h, if_neg h]; exact delF_und h0 h1 x
  | k + 1, hk => by
    rw [ofF_renL h0 h1 hk]
    unfold renM
    rw [pathZ_get h0 h1 (by omega), renM_list h0 h1 x k (by omega)]

/-! ### the contracts, by lists -/
theorem set_list (t : List (Int × Int)) (v : Value) (d x : Int) (w : World) (ht : NodesAt w v t) (hl : t.length ≤ 800000) (hd : I64 d) (hx : I64 x) :
    Calls Try.prog 21 #[.agg #[v], .int .i64 d, .int .i64 x] w fun e w' => ∃ u, e = .returned (.tuple #[.agg #[u], .int .i64 (setE t d x)]) ∧ NodesAt w' u (setL t d x) ∧ Below w.heap.size w w' := by
  refine (set_ok t v d x w ht (by omega) hd hx).mono ?_
  rintro e w' ⟨hB, h1, h2⟩
  by_cases h : setE t d x = 0
  · obtain ⟨u, xs, rfl, hk, hn⟩ := h2 h
    have hc : chgE t d false = 0 := by
      unfold setE at h
      split at h
      · assumption
      · exact h
    obtain ⟨h3, h4, h5⟩ := chgE_ok hc
    have hg := chk_good h3
    refine ⟨u, by rw [h], ?_, hB⟩
    unfold setL
    rw [if_pos h, ← nodes_unique hk (nodes_wf hn) (str_with (str_without hg.1 d) (without_ne (und_self (by omega)))) (fun e he => ?_) (fun y _ => setM_list h4 h5 y)]
    · exact hn
    · rcases withL_mem he with rfl | he
      · exact ⟨I64.of (by show -9223372036854775808 ≤ 512 + d ∧ 512 + d ≤ 9223372036854775807; omega), hx⟩
      · exact withoutL_wf (nodes_wf ht) e he
  · refine ⟨_, h1 h, ?_, hB⟩
    unfold setL
    rw [if_neg h]
    exact nodes_nil _
theorem remove_list (t : List (Int × Int)) (v : Value) (d : Int) (w : World) (ht : NodesAt w v t) (hl : t.length ≤ 800000) (hd : I64 d) :
    Calls Try.prog 23 #[.agg #[v], .int .i64 d] w fun e w' => ∃ u, e = .returned (.tuple #[.agg #[u], .int .i64 (chgE t d true)]) ∧ NodesAt w' u (remL t d) ∧ Below w.heap.size w w' := by
  refine (remove_ok t v d w ht (by omega) hd).mono ?_
  rintro e w' ⟨hB, h1, h2⟩
  by_cases h : chgE t d true = 0
  · obtain ⟨u, xs, rfl, hk, hn⟩ := h2 h
    obtain ⟨h3, h4, h5⟩ := chgE_ok h
    have hg := chk_good h3
    refine ⟨u, by rw [h], ?_, hB⟩
    unfold remL
    rw [if_pos h, ← nodes_unique hk (nodes_wf hn) (str_without hg.1 d) (withoutL_wf (nodes_wf ht)) (fun y _ => delF_und h4 h5 y)]
    exact hn
  · refine ⟨_, h1 h, ?_, hB⟩
    unfold remL
    rw [if_neg h]
    exact nodes_nil _
theorem renew_list (t : List (Int × Int)) (v : Value) (d : Int) (l : List Int) (u : Value) (w : World) (ht : NodesAt w v t) (hl : t.length ≤ 800000) (hd : I64 d) (hu : IntsAt w u l) (hll : l.length ≤ 1000000) (hli : ∀ j, I64 (l.getD j 0)) :
    Calls Try.prog 25 #[.agg #[v], .int .i64 d, u] w fun e w' => ∃ x, e = .returned (.tuple #[.agg #[x], .int .i64 (renE t d l)]) ∧ NodesAt w' x (renR t d l) ∧ Below w.heap.size w w' := by
  refine (renew_ok t v d l u w ht (by omega) hd hu hll hli).mono ?_
  rintro e w' ⟨hB, h1, h2⟩
  by_cases h : renE t d l = 0
  · obtain ⟨u, xs, rfl, hk, hn⟩ := h2 h
    have hc : chgE t d true = 0 := by
      unfold renE at h
      split at h
      · assumption
      · exact h
    obtain ⟨h3, h4, h5⟩ := chgE_ok hc
    have hg := chk_good h3
    refine ⟨u, by rw [h], ?_, hB⟩
    unfold renR
    rw [if_pos h, ← nodes_unique hk (nodes_wf hn) (str_renL hg.1 h4 h5 (Nat.le_refl 10)) (renL_wf (nodes_wf ht) hli h4 h5 10) (fun y _ => renM_list h4 h5 y 9 (by omega))]
    exact hn
  · refine ⟨_, h1 h, ?_, hB⟩
    unfold renR
    rw [if_neg h]
    exact nodes_nil _
end Go.Proofs.Ytekdekchbnacgaa
