/- The walk of the law CipherTag. -/
import Derived.Test.YtklaancgnfkjlaaDoorEj
import Derived.Test.YtklaancgnfkjlaaDoorRx
import Derived.Deep.DeepCutAuto
namespace Go.Proofs.YtklaancgnfkjlaaDoor
open Go.RowKit
set_option maxRecDepth 100000
set_option maxHeartbeats 4000000
set_option linter.unusedVariables false
set_option linter.unusedSimpArgs false

theorem and15 (n : Int) : bits .and .i64 n 15 = (((n % 16).toNat : Nat) : Int) := by
  have h255 : (BitVec.ofInt 64 15).toNat = 2 ^ 4 - 1 := by decide
  have key : (BitVec.ofInt 64 n &&& BitVec.ofInt 64 15).toNat = (n % ((2 ^ 64 : Nat) : Int)).toNat % 2 ^ 4 := by
    rw [BitVec.toNat_and, BitVec.toNat_ofInt, h255, Nat.and_two_pow_sub_one_eq_mod]
  show IntKind.i64.wrap ((BitVec.ofInt 64 n &&& BitVec.ofInt 64 15).toNat : Nat) = _
  rw [key, IntKind.wrap_i64]
  omega
theorem tree_store_mid {P : Program} {ops : Array Oper} {S : World → Prop} {op : Oper} {a : Act} {w : World} {Q : Exit → Act → World → Prop} {k : Nat} {r : Sch} (hk : ops[k]? = some op) (hgd : op.guard = none) (ty : TypeId) (x y : Operand) (ho : op.op = .store ty x y)
    (b o : Nat) (cells : Array Value) (hx : a.eval x = .pointer (some ⟨b, o, none⟩)) (hy : a.eval y = .agg cells)
    (ht : w.there b o cells.size) (hi : (P.info? ty).map (·.size) = some cells.size) (h1 : cells.all (·.oneCell') = true)
    (h : S (w.setCells b o cells.toList) ∧ wpTree P ops Q S r (a.put op.dst undef) (w.setCells b o cells.toList)) : wpTree P ops Q S (.one k r) a w :=
  tree_one hk fun K' hK => by
    rw [if_pos (by unfold Region.wanted; simp [hgd])]
    exact wp_store_mid ty x y ho b o cells hx hy ht hi h1 (hK.out _ _ h.1 fun _ => h.2)
theorem row_new (W : World) (xs : List Value) (t : TypeId) (fr : Nat × Nat) (c : Nat) (hc : xs.length ≤ c) : RowAt (W.alloc (.cells xs.toArray t fr)) (.slice (some ⟨W.heap.size, 0, none⟩) xs.length c) 1 xs.length xs := by
  refine ⟨by simp, some ⟨W.heap.size, 0, none⟩, c, rfl, hc, fun e => by simp at e, fun _ => ⟨W.heap.size, 0, rfl, fun j u hj => ?_⟩⟩
  unfold World.cell?
  rw [World.alloc_heap_new]
  simpa using hj
theorem row_of_block {W : World} {g c : Nat} {l : List Value} {t : TypeId} (h : W.heap[g]? = some (.cells l.toArray t (0, 0))) (hc : l.length ≤ c) : RowAt W (.slice (some ⟨g, 0, none⟩) l.length c) 1 l.length l := by
  refine ⟨by simp, some ⟨g, 0, none⟩, c, rfl, hc, fun e => by simp at e, fun _ => ⟨g, 0, rfl, fun j u hj => ?_⟩⟩
  unfold World.cell?
  rw [h]
  simpa using hj

theorem bytes_drop {W : World} {g o n c m : Nat} {a b : List (BitVec 8)} (h : BytesAt W (.slice (some ⟨g, o, none⟩) n c) (a ++ b)) (hm : a.length = m) : BytesAt W (.slice (some ⟨g, o + m, none⟩) b.length (c - m)) b := by
  obtain ⟨p, c', e, hc, hp, hcell⟩ := h
  obtain ⟨rfl, rfl, rfl⟩ : some ⟨g, o, none⟩ = p ∧ n = (a ++ b).length ∧ c = c' := by simpa using e
  rw [List.length_append] at hc
  refine ⟨some ⟨g, o + m, none⟩, c - m, rfl, by omega, fun h => (by cases h), fun h0 => ⟨g, o + m, rfl, fun j hj => ?_⟩⟩
  obtain ⟨g', o', e', hg⟩ := hcell (by simp; omega)
  obtain ⟨rfl, rfl⟩ : g = g' ∧ o = o' := by simpa using e'
  rw [Nat.add_assoc, hg (m + j) (by simp; omega)]
  simp only [List.getD]
  rw [List.getElem?_append_right (by omega), show m + j - a.length = j by omega]
theorem row_k {W : World} {g n : Nat} {l : List Value} {t : TypeId} (h : W.heap[g]? = some (.cells l.toArray t (0, 0))) (hn : l.length = n) : RowAt W (.slice (some ⟨g, 0, none⟩) n n) 1 n l := by
  subst hn
  exact row_of_block h (Nat.le_refl _)
theorem eight_small (n : Nat) (h : n ≤ 400) : (eightL n 8).map v8 = [.int .u8 0, .int .u8 0, .int .u8 0, .int .u8 0, .int .u8 0, .int .u8 0, .int .u8 ((n : Int) / 256), .int .u8 ((n : Int) % 256)] := by
  simp only [eightL, List.nil_append, List.cons_append, List.map_cons, List.map_nil, v8, BitVec.toNat_ofNat]
  have e : ∀ k, k ≤ 5 → n / 2 ^ (56 - 8 * k) = 0 := fun k hk => Nat.div_eq_of_lt (Nat.lt_of_lt_of_le (by omega : n < 2 ^ 16) (Nat.pow_le_pow_right (by omega) (by omega)))
  rw [e 0 (by omega), e 1 (by omega), e 2 (by omega), e 3 (by omega), e 4 (by omega), e 5 (by omega)]
  have e6 : (((n / 2 ^ (56 - 8 * 6)) % 2 ^ 8 : Nat) : Int) = (n : Int) / 256 := by omega
  have e7 : (((n / 2 ^ (56 - 8 * 7)) % 2 ^ 8 : Nat) : Int) = (n : Int) % 256 := by omega
  rw [e6, e7]
  rfl
theorem str_dec (l m : List (BitVec 8)) : ((strB l).toList == (strB m).toList) = decide (l = m) := by
  by_cases h : l = m
  · subst h; simp
  · have h2 : (strB l).toList ≠ (strB m).toList := fun e => h (strB_inj e)
    simp only [h, decide_false, beq_eq_false_iff_ne, ne_eq]
    exact h2
theorem below_mid {W w : World} (h : Below W.heap.size W w) {b : Nat} (hb : W.heap.size ≤ b) (vs : List Value) (o : Nat) : Below W.heap.size W (w.setCells b o vs) := Below.cellsFrom h b hb vs o
theorem okO_split (kb nb hb xb tb : List (BitVec 8)) (hx : xb.length ≤ 60000) (ht : tb.length = 16) : okO kb nb hb (xb ++ tb) = decide (tb = tag16 kb nb hb xb) := by
  have hl : (xb ++ tb).length - 16 = xb.length := by rw [List.length_append]; omega
  unfold okO
  rw [hl, List.drop_left, List.take_left]
  have h1 : 16 ≤ (xb ++ tb).length := by rw [List.length_append]; omega
  have h2 : (xb ++ tb).length ≤ 65552 := by rw [List.length_append]; omega
  simp only [h1, h2, true_and]
theorem okO_flip (kb nb hb cb : List (BitVec 8)) (hc : cb.length ≤ 400) (q : Nat) (hq : q ≤ 15) (b : BitVec 8) :
    okO kb nb hb ((sealL kb nb hb cb).set (cb.length + q) ((sealL kb nb hb cb).getD (cb.length + q) 0 ^^^ b)) = decide (b = 0) := by
  have hs := streamL_length kb nb cb
  have ht := tag16_length kb nb hb (streamL kb nb cb)
  unfold sealL
  generalize streamL kb nb cb = S at hs ht ⊢
  generalize hT : tag16 kb nb hb S = T at ht ⊢
  have e1 : (S ++ T).getD (cb.length + q) 0 = T.getD q 0 := by
    simp only [List.getD]
    rw [List.getElem?_append_right (by omega), show cb.length + q - S.length = q by omega]
  rw [e1, List.set_append_right _ _ (by omega), show cb.length + q - S.length = q by omega, okO_split _ _ _ _ _ (by omega) (by simpa using ht), hT]
  have hq' : q < T.length := by omega
  have e2 : T.getD q 0 = T[q] := by simp [List.getD, hq']
  rw [e2]
  by_cases h0 : b = 0
  · subst h0
    simp
  · rw [decide_eq_false h0]
    refine decide_eq_false fun e => h0 ?_
    have h1 := congrArg (fun l : List (BitVec 8) => l.getD q 0) e
    simp [List.getD, hq'] at h1
    have h2 := congrArg (fun x => T[q] ^^^ x) h1
    simp [← BitVec.xor_assoc] at h2
    exact h2
/-- Two appends and a call of Tagged in a chain, beside them the making of an array, into which the call's result goes: in whatever order. -/
theorem reg_tagged {ops : Array Oper} {Q : Exit → Act → World → Prop} {a : Act} {w : World} (W : World) (M : Nat) (hM : M ≤ 1000) (hb xb : List (BitVec 8)) (hhl : hb.length ≤ 400) (L : List Value) (TL : List Value) (v0 vh vx : Value)
    (s1 s2 s3 s4 r1 r2 r3 rd : Nat) (ct : Value)
    {o2 o6 o7 o8 o9 : Oper} (h2 : ops[2]? = some o2) (h6 : ops[6]? = some o6) (h7 : ops[7]? = some o7) (h8 : ops[8]? = some o8) (h9 : ops[9]? = some o9)
    (g2 : o2.guard = none) (g6 : o6.guard = none) (g7 : o7.guard = none) (g8 : o8.guard = none) (g9 : o9.guard = none)
    (d2 : o2.dst = some r1) (d6 : o6.dst = some r2) (d7 : o7.dst = some r3) (d8 : o8.dst = some rd)
    (p2 : o2.op = .call { callee := .builtin .append, args := #[.tmp s1, .tmp s2], argTypes := #[28, 28] })
    (p6 : o6.op = .call { callee := .builtin .append, args := #[.tmp r1, .tmp s4], argTypes := #[28, 28] })
    (p7 : o7.op = .call { callee := .value (.func 20), args := #[.const ct, .tmp r2], argTypes := #[9, 28] })
    (p8 : o8.op = .alloc 41) (p9 : o9.op = .store 41 (.tmp rd) (.tmp r3))
    (hne1 : r1 ≠ s4) (hne2 : rd ≠ r3) (l1 : r1 < a.tmps.size) (l2 : r2 < a.tmps.size) (l3 : r3 < a.tmps.size) (l4 : rd < a.tmps.size)
    (e1 : a.eval (.tmp s1) = v0) (e2 : a.eval (.tmp s2) = vh) (e4 : a.eval (.tmp s4) = vx)
    (hW : Below W.heap.size W w) (hown : w.ownsRow W.heap.size 5 1 v0 52 L)
    (hrh : ∀ W', Below W.heap.size W W' → RowAt W' vh 1 hb.length (hb.map v8)) (hrx : ∀ W', Below W.heap.size W W' → RowAt W' vx 1 M (xb.map v8))
    (htag : ∀ v w', Below W.heap.size W w' → w'.ownsRow W.heap.size 5 1 v (52 + hb.length + M) (L ++ hb.map v8 ++ xb.map v8) → Calls Tryd.prog 20 #[ct, v] w' fun e w2 => e = .returned (.agg TL.toArray) ∧ Below w'.heap.size w' w2)
    (hlen : TL.length = 32) (hone : ∀ v ∈ TL, v.oneCell' = true)
    (hQ : ∀ G v1 v2 wx, wx.rangeAt G 0 TL → Below W.heap.size W wx → Q .normal (((((a.put (some r1) v1).put (some r2) v2).put (some r3) (.agg TL.toArray)).put (some rd) (.pointer (some ⟨G, 0, none⟩))).put o9.dst undef) wx) :
    wpTree Tryd.prog ops Q (fun _ => True) (.float 8 [2, 6, 7] (.one 9 .done)) a w := by
  obtain ⟨i0, hi0, hz0, hz1, hz2⟩ := info_parts info_u8
  have hi41 : (Tryd.prog.info? 41).map (·.size) = some TL.toArray.size := by rw [List.size_toArray, hlen]; exact info41
  have hal : ∀ w, (Instr.alloc 41 true (.tuple #[])).run Tryd.prog w = .ok (.pointer (some ⟨w.heap.size, 0, none⟩)) (w.alloc (.cells #[.int .u8 0, .int .u8 0, .int .u8 0, .int .u8 0, .int .u8 0, .int .u8 0, .int .u8 0, .int .u8 0, .int .u8 0, .int .u8 0, .int .u8 0, .int .u8 0, .int .u8 0, .int .u8 0, .int .u8 0, .int .u8 0, .int .u8 0, .int .u8 0, .int .u8 0, .int .u8 0, .int .u8 0, .int .u8 0, .int .u8 0, .int .u8 0, .int .u8 0, .int .u8 0, .int .u8 0, .int .u8 0, .int .u8 0, .int .u8 0, .int .u8 0, .int .u8 0] 41)) := fun w => by kernel_rfl
  refine tree_float h8 (fun j a' w' fv => Below W.heap.size W w' ∧ (∀ v, fv = some v → ∃ G, v = .pointer (some ⟨G, 0, none⟩) ∧ w'.there G 0 32 ∧ G < w'.heap.size ∧ W.heap.size ≤ G) ∧
    match j with
    | 0 => a' = a ∧ w'.ownsRow W.heap.size 5 1 v0 52 L ∧ (∀ G, fv = some (.pointer (some ⟨G, 0, none⟩)) → ∀ k, v0.ownBlock = some k → k ≠ G)
    | 1 => ∃ v1, a' = a.put (some r1) v1 ∧ w'.ownsRow W.heap.size 5 1 v1 (52 + hb.length) (L ++ hb.map v8) ∧ (∀ G, fv = some (.pointer (some ⟨G, 0, none⟩)) → ∀ k, v1.ownBlock = some k → k ≠ G)
    | 2 => ∃ v1 v2, a' = (a.put (some r1) v1).put (some r2) v2 ∧ w'.ownsRow W.heap.size 5 1 v2 (52 + hb.length + M) (L ++ hb.map v8 ++ xb.map v8)
    | _ => ∃ v1 v2, a' = ((a.put (some r1) v1).put (some r2) v2).put (some r3) (.agg TL.toArray)) ⟨hW, (fun v e => by cases e), rfl, hown, (fun G e => by cases e)⟩ (fun _ _ _ _ _ => trivial) ?_ ?_ ?_
  · intro j k hjk a1 w1 fv hI
    match j, hjk, hI with
    | 0, hjk, ⟨hB, hG, ha, ho, hne⟩ =>
      obtain rfl : k = 2 := by simpa using hjk.symm
      subst ha
      refine wpOp_of h2 g2 (wp_append_row_at _ _ 28 p2 W.heap.size 5 i0 (.int .u8 0) 1 1 Tryd.underlying28 hi0 hz0 hz1 hz2 rfl (by decide) _ _ _ e1 ho _ _ _ e2 (hrh _ hB) (v8_one _) (by unfold maxLen; omega) (by omega) hB.size ?_)
      intro v' w' ho' hg' hl'
      rw [d2]
      refine ⟨hB.grown hg' hB.size (fun k e => (ho.lt k e).1), fun v e => ?_, v', rfl, ho', fun G e => ?_⟩
      · obtain ⟨G, rfl, h1, h3, h4⟩ := hG v e
        exact ⟨G, rfl, th_far h1 hg' (hne G e) h3, Nat.lt_of_lt_of_le h3 hg'.size, h4⟩
      · obtain ⟨G', e', h1, h3, h4⟩ := hG _ e
        obtain rfl : G = G' := by simpa using e'
        exact lies_ne hl' (hne G e) (fun e => by omega)
    | 1, hjk, ⟨hB, hG, v1, ha, ho, hne⟩ =>
      obtain rfl : k = 6 := by simpa using hjk.symm
      subst ha
      refine wpOp_of h6 g6 (wp_append_row_at _ _ 28 p6 W.heap.size 5 i0 (.int .u8 0) 1 1 Tryd.underlying28 hi0 hz0 hz1 hz2 rfl (by decide) _ _ _ (put_same l1) ho _ _ _ ((put_ne hne1).trans e4) (hrx _ hB) (v8_one _) (by unfold maxLen; omega) (by omega) hB.size ?_)
      intro v' w' ho' hg' hl'
      rw [d6]
      refine ⟨hB.grown hg' hB.size (fun k e => (ho.lt k e).1), fun v e => ?_, v1, v', rfl, ho'⟩
      obtain ⟨G, rfl, h1, h3, h4⟩ := hG v e
      exact ⟨G, rfl, th_far h1 hg' (hne G e) h3, Nat.lt_of_lt_of_le h3 hg'.size, h4⟩
    | 2, hjk, ⟨hB, hG, v1, v2, ha, ho⟩ =>
      obtain rfl : k = 7 := by simpa using hjk.symm
      subst ha
      refine wpOp_of h7 g7 (wp_callf _ _ _ p7 Tryd.call20 (T := fun e w2 => e = .returned (.agg TL.toArray) ∧ Below w1.heap.size w1 w2) ?_ ?_)
      · have e : (#[Operand.const ct, .tmp r2] : Array Operand).map ((a.put (some r1) v1).put (some r2) v2).eval = #[ct, v2] := by
          simp only [List.map_toArray, List.map_cons, List.map_nil]
          rw [put_same (by rw [put_size]; exact l2)]
          rfl
        rw [e]
        exact htag v2 w1 hB ho
      · rintro e w' ⟨rfl, hB'⟩
        refine ⟨_, rfl, hB.trans (hB'.mono hB.size), fun v e => ?_, v1, v2, by rw [d7]⟩
        obtain ⟨G, rfl, h1, h3, h4⟩ := hG v e
        exact ⟨G, rfl, th_below h1 hB', Nat.lt_of_lt_of_le h3 hB'.size, h4⟩
    | j + 3, hjk, _ => simp at hjk
  · intro j hj a1 w1 hI
    refine wpOp_of h8 g8 (wp_alloc_as 41 p8 _ hal ?_)
    refine ⟨_, rfl, ?_⟩
    have hal1 : Below w1.heap.size w1 (w1.alloc (.cells #[.int .u8 0, .int .u8 0, .int .u8 0, .int .u8 0, .int .u8 0, .int .u8 0, .int .u8 0, .int .u8 0, .int .u8 0, .int .u8 0, .int .u8 0, .int .u8 0, .int .u8 0, .int .u8 0, .int .u8 0, .int .u8 0, .int .u8 0, .int .u8 0, .int .u8 0, .int .u8 0, .int .u8 0, .int .u8 0, .int .u8 0, .int .u8 0, .int .u8 0, .int .u8 0, .int .u8 0, .int .u8 0, .int .u8 0, .int .u8 0, .int .u8 0, .int .u8 0] 41)) := Below.al (Below.refl _ _) _
    have hth : (w1.alloc (.cells #[.int .u8 0, .int .u8 0, .int .u8 0, .int .u8 0, .int .u8 0, .int .u8 0, .int .u8 0, .int .u8 0, .int .u8 0, .int .u8 0, .int .u8 0, .int .u8 0, .int .u8 0, .int .u8 0, .int .u8 0, .int .u8 0, .int .u8 0, .int .u8 0, .int .u8 0, .int .u8 0, .int .u8 0, .int .u8 0, .int .u8 0, .int .u8 0, .int .u8 0, .int .u8 0, .int .u8 0, .int .u8 0, .int .u8 0, .int .u8 0, .int .u8 0, .int .u8 0] 41)).there w1.heap.size 0 32 := th_new w1 _ 41 32 rfl
    have hGG : W.heap.size ≤ w1.heap.size := hI.1.size
    have hf : ∀ v, some (Value.pointer (some ⟨w1.heap.size, 0, none⟩)) = some v → ∃ G, v = .pointer (some ⟨G, 0, none⟩) ∧ (w1.alloc (.cells #[.int .u8 0, .int .u8 0, .int .u8 0, .int .u8 0, .int .u8 0, .int .u8 0, .int .u8 0, .int .u8 0, .int .u8 0, .int .u8 0, .int .u8 0, .int .u8 0, .int .u8 0, .int .u8 0, .int .u8 0, .int .u8 0, .int .u8 0, .int .u8 0, .int .u8 0, .int .u8 0, .int .u8 0, .int .u8 0, .int .u8 0, .int .u8 0, .int .u8 0, .int .u8 0, .int .u8 0, .int .u8 0, .int .u8 0, .int .u8 0, .int .u8 0, .int .u8 0] 41)).there G 0 32 ∧ G < (w1.alloc (.cells #[.int .u8 0, .int .u8 0, .int .u8 0, .int .u8 0, .int .u8 0, .int .u8 0, .int .u8 0, .int .u8 0, .int .u8 0, .int .u8 0, .int .u8 0, .int .u8 0, .int .u8 0, .int .u8 0, .int .u8 0, .int .u8 0, .int .u8 0, .int .u8 0, .int .u8 0, .int .u8 0, .int .u8 0, .int .u8 0, .int .u8 0, .int .u8 0, .int .u8 0, .int .u8 0, .int .u8 0, .int .u8 0, .int .u8 0, .int .u8 0, .int .u8 0, .int .u8 0] 41)).heap.size ∧ W.heap.size ≤ G := fun v e => by
      cases e
      exact ⟨_, rfl, hth, by simp, hGG⟩
    have hGe : ∀ G, some (Value.pointer (some ⟨w1.heap.size, 0, none⟩)) = some (.pointer (some ⟨G, 0, none⟩)) → w1.heap.size = G := fun G e => by simpa using e
    match j, hI with
    | 0, ⟨hB, hG, ha, ho, hne⟩ => exact ⟨hB.trans (hal1.mono hB.size), hf, ha, own_below ho hal1 (fun k e => (ho.lt k e).2), fun G e k hk => by have h1 := (ho.lt k hk).2; have h2 := hGe G e; omega⟩
    | 1, ⟨hB, hG, v1, ha, ho, hne⟩ => exact ⟨hB.trans (hal1.mono hB.size), hf, v1, ha, own_below ho hal1 (fun k e => (ho.lt k e).2), fun G e k hk => by have h1 := (ho.lt k hk).2; have h2 := hGe G e; omega⟩
    | 2, ⟨hB, hG, v1, v2, ha, ho⟩ => exact ⟨hB.trans (hal1.mono hB.size), hf, v1, v2, ha, own_below ho hal1 (fun k e => (ho.lt k e).2)⟩
    | j + 3, ⟨hB, hG, v1, v2, ha⟩ => exact ⟨hB.trans (hal1.mono hB.size), hf, v1, v2, ha⟩
  · rintro a1 w1 v ⟨hB, hG, v1, v2, rfl⟩
    obtain ⟨G, rfl, hth, hlt, hge⟩ := hG v rfl
    rw [d8]
    refine tree_store_mid h9 g9 41 _ _ p9 G 0 TL.toArray (put_same (by rw [put_size, put_size, put_size]; exact l4)) ((put_ne hne2).trans (put_same (by rw [put_size, put_size]; exact l3))) (by rw [List.size_toArray, hlen]; exact hth) hi41 (all_oneCell_toArray hone) ⟨trivial, ?_⟩
    exact hQ G v1 v2 _ (World.rangeAt_setCells_same _ _ _ _ (by rw [hlen]; exact hth)) (below_mid hB hge _ _)
theorem cipherTag_walk (kb nb hb cb : List (BitVec 8)) (vh vc : Value) (z : Int) (b8 : BitVec 8) (w : World) (hk : kb.length = 32) (hn : nb.length = 12) (hvh : BytesAt w vh hb) (hvc : BytesAt w vc cb) (hT : Tabs w) :
    Calls Tryd.prog 9 #[.agg (kb.map v8).toArray, .agg (nb.map v8).toArray, vh, vc, .int .i64 z, .int .u8 b8.toNat] w fun e w' => e = .returned (.bool true) ∧ Below w.heap.size w w' := by
  obtain ⟨q, hq⟩ : ∃ q, q = (z % 16).toNat := ⟨_, rfl⟩
  have hq2 : q ≤ 15 := by omega
  have hand : bits .and .i64 z 15 = (q : Int) := by rw [and15, hq]
  have hks : (kb.map v8).length = 32 := by simp [hk]
  have hns : (nb.map v8).length = 12 := by simp [hn]
  have hSeal : ∀ vh v w, hb.length ≤ 400 → cb.length ≤ 400 → BytesAt w vh hb → BytesAt w v cb → Tabs w → Calls Tryd.prog 16 #[.agg (kb.map v8).toArray, .agg (nb.map v8).toArray, vh, v] w fun e w' =>
      ∃ g c, e = .returned (.tuple #[.slice (some ⟨g, 0, none⟩) (cb.length + 16) c, .int .i64 0]) ∧ BytesAt w' (.slice (some ⟨g, 0, none⟩) (cb.length + 16) c) (sealL kb nb hb cb) ∧ cb.length + 16 ≤ c ∧ Below w.heap.size w w' := fun vh v w h1 h2 h3 h4 hT => by
    refine (seal_ok kb nb hb cb vh v w hk hn (by omega) (by omega) h3 h4 hT).mono ?_
    rintro e w' ⟨v, rfl, hown, hB⟩
    obtain ⟨p, c, rfl, h1, h2⟩ := own_form hown
    obtain ⟨g, rfl, _⟩ := h2 (by omega)
    exact ⟨g, c, rfl, BytesAt.of_own (B := w.heap.size) (by rw [sealL_length]; exact hown), h1, hB⟩
  have hNo : ∀ l vh v w, hb.length ≤ 400 → l.length ≤ 1000 → BytesAt w vh hb → BytesAt w v l → Tabs w → okO kb nb hb l = false → Calls Tryd.prog 18 #[.agg (kb.map v8).toArray, .agg (nb.map v8).toArray, vh, v] w fun e w' =>
      e = .returned (.tuple #[.slice none 0 0, .int .i64 60]) ∧ Below w.heap.size w w' := fun l vh v w h1 h2 h3 h4 hT h5 =>
    open_no kb nb hb l vh v w hk hn (by omega) (by omega) h3 h4 hT h5
  have hYes : ∀ l vh v w, hb.length ≤ 400 → l.length ≤ 1000 → BytesAt w vh hb → BytesAt w v l → Tabs w → okO kb nb hb l = true → Calls Tryd.prog 18 #[.agg (kb.map v8).toArray, .agg (nb.map v8).toArray, vh, v] w fun e w' =>
      (∃ u, e = .returned (.tuple #[u, .int .i64 0])) ∧ Below w.heap.size w w' := fun l vh v w h1 h2 h3 h4 hT h5 => by
    refine (open_yes kb nb hb l vh v w hk hn (by omega) (by omega) h3 h4 hT h5).mono ?_
    rintro e w' ⟨u, rfl, _, hB⟩
    exact ⟨⟨u, rfl⟩, hB⟩
  have HSeal := Lib.hid hSeal
  have HNo := Lib.hid hNo
  have HYes := Lib.hid hYes
  clear hSeal hNo hYes
  have HVH := Lib.hid hvh
  have HVC := Lib.hid hvc
  obtain ⟨ph, ch, rfl, hch, hph⟩ := bytes_form hvh
  obtain ⟨pc, cc, rfl, hcc, hpc⟩ := bytes_form hvc
  have hv8k := v8_one kb
  have hv8n := v8_one nb
  have he8 := eight_small hb.length
  generalize hkl : kb.map v8 = kl at hks hv8k HSeal HNo HYes ⊢
  generalize hnlq : nb.map v8 = nl at hns hv8n HSeal HNo HYes ⊢
  have HV8K := Lib.hid hv8k
  have HKL := Lib.hid hkl
  have HNLQ := Lib.hid hnlq
  have HE8 := Lib.hid he8
  have HK := Lib.hid hk
  have HN' := Lib.hid hn
  have HV8N := Lib.hid hv8n
  clear hv8k hv8n hkl hnlq he8 hk hn
  have HKS := Lib.hid hks
  have HNS := Lib.hid hns
  have HT := Lib.hid hT
  clear hks hns hT hq hvh hvc
  have hu23 := Tryd.underlying23
  have hu25 := Tryd.underlying25
  have hi23 : (Tryd.prog.info? 23).map (·.size) = some kl.length := by rw [HKS.out]; kernel_rfl
  have hi25 : (Tryd.prog.info? 25).map (·.size) = some nl.length := by rw [HNS.out]; kernel_rfl
  have HK0 := Lib.hid (boxes_K w kl.toArray nl.toArray)
  have HN0 := Lib.hid (alloc_new2 w (.cells kl.toArray 23) (.cells nl.toArray 25))
  have HB0 := Lib.hid (below_two w kl.toArray nl.toArray)
  go_enter Tryd.func9, Tryd.ntmps9
  go_wp2_with fail
  obtain ⟨w0, hw0⟩ : ∃ w0, w0 = (w.alloc (.cells kl.toArray 23)).alloc (.cells nl.toArray 25) := ⟨_, rfl⟩
  rw [← hw0] at HK0 HN0 HB0 ⊢
  clear hw0
  refine (sane_ok _ (HT.out.below HB0.out)).mono ?_
  rintro e w1 ⟨rfl, hB1⟩
  have HK1 := Lib.hid ((hB1.block _ (Array.getElem?_eq_some_iff.1 HK0.out).1).trans HK0.out)
  have HN1 := Lib.hid ((hB1.block _ (Array.getElem?_eq_some_iff.1 HN0.out).1).trans HN0.out)
  have HB1 := Lib.hid (HB0.out.trans (hB1.mono HB0.out.size))
  clear hB1 HK0 HN0 HB0
  obtain ⟨n, hnl⟩ : ∃ n, n = cb.length := ⟨_, rfl⟩
  by_cases hlb : 400 < cb.length
  · have h1 : decide ((400 : Int) < (cb.length : Int)) = true := by simp; omega
    clear hnl
    go_wp2
    go_ret
    exact ⟨rfl, HB1.out⟩
  have h1 : decide ((400 : Int) < (cb.length : Int)) = false := by simp; omega
  by_cases hlh : 400 < hb.length
  · have h2 : decide ((400 : Int) < (hb.length : Int)) = true := by simp; omega
    clear hnl
    go_wp2
    go_ret
    exact ⟨rfl, HB1.out⟩
  have h2 : decide ((400 : Int) < (hb.length : Int)) = false := by simp; omega
  obtain ⟨N, hN⟩ : ∃ N, N = w.heap.size + 1 := ⟨_, rfl⟩
  rw [← hN] at HN1 ⊢
  clear hN
  rw [← hnl] at hlb h1 hcc hpc HSeal HVC ⊢
  have HNL := Lib.hid hnl
  clear hnl
  obtain ⟨K, hKd⟩ : ∃ K, K = w.heap.size := ⟨_, rfl⟩
  have HKD := Lib.hid hKd
  clear hKd
  go_upto_region 5 with fail
  refine wp_region_lit ?_
  refine wpList_load_row rfl 23 _ rfl w.heap.size rfl 23 kl.toArray (0, 0) _ HK1.out hu23 rfl (by rw [List.size_toArray]; exact hi23) ?_
  refine wpList_load_row rfl 25 _ rfl N rfl 25 nl.toArray (0, 0) _ HN1.out hu25 rfl (by rw [List.size_toArray]; exact hi25) ?_
  go_wp2_with fail
  refine (HSeal.out _ _ _ (by omega) (by omega) (HVH.out.below HB1.out) (HVC.out.below HB1.out) (HT.out.below HB1.out)).mono ?_
  rintro e w2 ⟨gx, cx, rfl, hbx, hcx, hB2⟩
  have HX2 := Lib.hid hbx
  clear hbx
  have HK2 := Lib.hid ((hB2.block _ (Array.getElem?_eq_some_iff.1 HK1.out).1).trans HK1.out)
  have HN2 := Lib.hid ((hB2.block _ (Array.getElem?_eq_some_iff.1 HN1.out).1).trans HN1.out)
  have HB2 := Lib.hid (HB1.out.trans (hB2.mono HB1.out.size))
  clear hB2 HK1 HN1 HB1
  go_upto_region 8 with fail
  obtain ⟨i0, hi0, hz0, hz1, hz2⟩ := info_parts info_u8
  have hxl := sealL_length kb nb hb cb
  have hrx : RowAt (w2.alloc (.cells #[] 5)) (.slice (some ⟨gx, 0, none⟩) (n + 16) cx) 1 (n + 16) ((sealL kb nb hb cb).map v8) := by
    have h := row_bytes HX2.out (Below.al (Below.refl _ w2) (.cells #[] 5))
    rw [hxl, ← HNL.out] at h
    exact h
  have hox : (w2.alloc (.cells #[] 5)).ownsRow w2.heap.size 5 1 (.slice (some ⟨w2.heap.size, 0, none⟩) 0 0) 0 [] := own_nil w2 (Nat.le_refl _)
  have HRX := Lib.hid hrx
  have HOX := Lib.hid hox
  clear hrx hox hxl
  go_upto_region 9 with (at_builtin; refine wpList_append_row rfl _ _ 28 rfl w2.heap.size 5 i0 (.int .u8 0) 1 1 Tryd.underlying28 hi0 hz0 hz1 hz2 rfl (by decide) _ _ _ rfl HOX.out _ _ _ rfl HRX.out (v8_one _) (by unfold maxLen; omega) (by omega) (by simp) ?_; intro v3 w3 hown hgrow; obtain ⟨p3, c3, rfl, hc3, hp3⟩ := own_form hown; obtain ⟨g3, rfl, hg3, hg3'⟩ := hp3 (by omega); have HO3 := Lib.hid hown; have HB3 := Lib.hid ((Below.al (Below.refl _ w2) (.cells #[] 5)).grown hgrow (by simp) (fun k e => (HOX.out.lt k e).1)); clear hown hgrow hp3 HOX HRX)
  obtain ⟨w8, hw8⟩ : ∃ W, W = w3.alloc (.cells #[.slice pc n cc, .slice (some ⟨gx, 0, none⟩) (n + 16) cx, .slice (some ⟨g3, 0, none⟩) (n + 16) c3] 28) := ⟨_, rfl⟩
  have hB38 : Below w3.heap.size w3 w8 := by rw [hw8]; exact Below.al (Below.refl _ _) _
  have hB28 : Below w2.heap.size w2 w8 := Below.tr HB3.out hB38
  have hTT : w8.heap[w3.heap.size]? = some (.cells #[.slice pc n cc, .slice (some ⟨gx, 0, none⟩) (n + 16) cx, .slice (some ⟨g3, 0, none⟩) (n + 16) c3] 28 (0, 0)) := by rw [hw8]; exact World.alloc_heap_new w3 _
  rw [← hw8]
  have hO8 : w8.ownsRow w2.heap.size 5 1 (.slice (some ⟨g3, 0, none⟩) (n + 16) c3) (n + 16) ((sealL kb nb hb cb).map v8) := by
    have h := own_below HO3.out hB38 (fun k e => (HO3.out.lt k e).2)
    rw [List.nil_append] at h
    simpa only [Nat.zero_add] using h
  obtain ⟨TB, hTB⟩ : ∃ TB, TB = w3.heap.size := ⟨_, rfl⟩
  rw [← hTB] at hTT ⊢
  have HO8 := Lib.hid hO8
  have HTT := Lib.hid hTT
  have HX8 := Lib.hid (HX2.out.below hB28)
  have HK8 := Lib.hid ((hB28.block _ (Array.getElem?_eq_some_iff.1 HK2.out).1).trans HK2.out)
  have HN8 := Lib.hid ((hB28.block _ (Array.getElem?_eq_some_iff.1 HN2.out).1).trans HN2.out)
  have HB28 := Lib.hid hB28
  have HB8 := Lib.hid (HB2.out.trans (hB28.mono HB2.out.size))
  have hKl := (Array.getElem?_eq_some_iff.1 HK2.out).1
  have hNl := (Array.getElem?_eq_some_iff.1 HN2.out).1
  clear hw8 hB38 hB28 hTT hO8 hTB HB3 HO3 HX2 HK2 HN2 i0 hi0 hz0 hz1 hz2
  go_wp2_with fail
  go_loopw [58] (fun x wr => ∃ k : Nat, x = .int .i64 k ∧ k ≤ 3 ∧ Hid (Below w.heap.size w wr) ∧ Hid (k ≤ 2 → Below w8.heap.size w8 wr)) (fun x _ => 3 - (intOf x).toNat)
  case atStart => exact ⟨0, rfl, Nat.zero_le _, HB8, Lib.hid fun _ => Below.refl _ _⟩
  case round =>
    obtain ⟨k, rfl, hk, HBr, HFr⟩ := hrel
    by_cases hlt : k < 3
    · have hd : decide ((k : Int) < 3) = true := by simp; omega
      have hB8r : Below w8.heap.size w8 wr := HFr.out (by omega)
      have HTr := Lib.hid ((hB8r.block _ (Array.getElem?_eq_some_iff.1 HTT.out).1).trans HTT.out)
      have HXr := Lib.hid (HX8.out.below hB8r)
      have HOr := Lib.hid (own_below HO8.out hB8r (fun k e => (HO8.out.lt k e).2))
      have HKr := Lib.hid ((hB8r.block _ (Array.getElem?_eq_some_iff.1 HK8.out).1).trans HK8.out)
      have HNr := Lib.hid ((hB8r.block _ (Array.getElem?_eq_some_iff.1 HN8.out).1).trans HN8.out)
      clear hB8r
      by_cases hk2 : k = 2
      · have hcl : wr.cell? ⟨TB, k, none⟩ = some (.slice (some ⟨g3, 0, none⟩) (n + 16) c3) := by
          rw [hk2]; unfold World.cell?; rw [HTr.out]; rfl
        have he : decide ((k : Int) = 2) = true := by simp; omega
        have he2 : ((k : Int) == 2) = true := by simp; omega
        have hk0 : (0 : Int) ≤ k := by omega
        have hk3 : (k : Int) < 3 := by omega
        have HK2' := Lib.hid hk2
        clear hk2
        have hcg := own_cell HOr.out (n + q) (by omega)
        have hse := own_set HOr.out (n + q) (by omega)
        obtain ⟨xq, hxq⟩ : ∃ xq, xq = (sealL kb nb hb cb).getD (n + q) 0 := ⟨_, rfl⟩
        rw [← hxq] at hcg
        have HSE := Lib.hid hse
        have HXQ := Lib.hid hxq
        obtain ⟨hcg1, hcg2⟩ := hcg
        clear hse hxq
        have hx8 := xor8 xq b8
        have hqn : ((n : Int) + q).toNat = n + q := by omega
        go_upto_region 13 with fail
        have hv : Value.int IntKind.u8 ((xq.toNat ^^^ b8.toNat : Nat) : Int) = .int .u8 ((xq ^^^ b8).toNat : Int) := by rw [BitVec.toNat_xor]
        rw [hv]
        have hbt := BytesAt.of_own (B := w2.heap.size) (l := (sealL kb nb hb cb).set (n + q) (xq ^^^ b8)) (by
          have h := HSE.out (.int .u8 ((xq ^^^ b8).toNat : Int))
          rw [List.length_set, sealL_length, ← HNL.out, List.map_set]
          exact h)
        have hbl : Below w2.heap.size wr (wr.setCell ⟨g3, n + q, none⟩ (.int .u8 ((xq ^^^ b8).toNat : Int))) := (OnlyAt.setCell g3 (n + q) wr _).below hg3
        obtain ⟨W, hW⟩ : ∃ W, W = wr.setCell ⟨g3, n + q, none⟩ (.int .u8 ((xq ^^^ b8).toNat : Int)) := ⟨_, rfl⟩
        rw [← hW] at hbt hbl ⊢
        have hsz2 := HB2.out.size
        have HBW := Lib.hid (HBr.out.trans (hbl.mono hsz2))
        have HKW := Lib.hid ((hbl.block _ hKl).trans HKr.out)
        have HNW := Lib.hid ((hbl.block _ hNl).trans HNr.out)
        have hD := okO_flip kb nb hb cb (by rw [← HNL.out]; omega) q hq2 b8
        rw [← HNL.out, ← HXQ.out] at hD
        have hyn : ((sealL kb nb hb cb).set (n + q) (xq ^^^ b8)).length = n + 16 := by rw [List.length_set, sealL_length, ← HNL.out]
        obtain ⟨yl, hyl⟩ : ∃ yl, yl = (sealL kb nb hb cb).set (n + q) (xq ^^^ b8) := ⟨_, rfl⟩
        rw [← hyl] at hbt hD hyn
        have HY := Lib.hid hbt
        have HYN := Lib.hid hyn
        have HDD := Lib.hid hD
        clear hv hbt hbl hW hsz2 hD hyn hyl HSE HXQ hcg1 hcg2 hx8 hqn hcl HXr HOr HKr HNr HTr HBr HX8 HO8 HK8 HN8 HTT HB28 HB8
        obtain ⟨xb, hxb⟩ : ∃ xb, xb = yl.take n := ⟨_, rfl⟩
        obtain ⟨tb, htb⟩ : ∃ tb, tb = yl.drop n := ⟨_, rfl⟩
        have hyx : yl = xb ++ tb := by rw [hxb, htb, List.take_append_drop]
        have hxl : xb.length = n := by rw [hxb, List.length_take, HYN.out]; omega
        have htl : tb.length = 16 := by rw [htb, List.length_drop, HYN.out]; omega
        have hbx := HY.out
        rw [hyx] at hbx
        have HXB := Lib.hid (bytes_take hbx hxl)
        have htb2 := bytes_drop hbx hxl
        rw [htl] at htb2
        rw [Nat.zero_add] at htb2
        have HTB := Lib.hid htb2
        have hok := okO_split kb nb hb xb tb (by omega) htl
        rw [← hyx] at hok
        have HOK := Lib.hid hok
        have HXL := Lib.hid hxl
        have HTL := Lib.hid htl
        clear hxb htb hyx hxl htl hbx htb2 hok
        have hm0 : decide ((0 : Int) ≤ (n : Int)) = true := by simp
        go_upto_region 16 with fail
        obtain ⟨i0, hi0, hz0, hz1, hz2⟩ := info_parts info_u8
        refine wp_region_noPanic ?_
        refine region_tree (fun _ => True) (.take 1 (.take 3 (.one 0 (.one 2 (.one 4 (.take 5 .done)))))) (by kernel_rfl) (by kernel_rfl) (by kernel_rfl) (by decide) (fun _ _ _ _ h => h) trivial ?_
        refine tree_take (v := ?_) rfl (by rfl) (fun W' hS => ?_) ?_
        rotate_left
        · go_simp; with_reducible rfl
        try simp only [Act.put, List.getElem_toArray, List.getElem_cons_succ, List.getElem_cons_zero, List.setIfInBounds_toArray, List.set_cons_zero, List.set_cons_succ]
        refine tree_take (v := ?_) rfl (by rfl) (fun W' hS => ?_) ?_
        rotate_left
        · go_simp; with_reducible rfl
        try simp only [Act.put, List.getElem_toArray, List.getElem_cons_succ, List.getElem_cons_zero, List.setIfInBounds_toArray, List.set_cons_zero, List.set_cons_succ]
        refine tree_one rfl (fun K' hK => ?_)
        go_simp
        refine hK.out _ _ trivial fun _ => ?_
        clear hK
        try simp only [Act.put, List.getElem_toArray, List.getElem_cons_succ, List.getElem_cons_zero, List.setIfInBounds_toArray, List.set_cons_zero, List.set_cons_succ]
        have hb1 : Below W.heap.size W (W.alloc (.cells #[] 5)).drew := Below.dr (Below.al (Below.refl _ _) _)
        have ho1 : (W.alloc (.cells #[] 5)).drew.ownsRow W.heap.size 5 1 (.slice (some ⟨W.heap.size, 0, none⟩) 0 0) 0 [] := own_nil W (Nat.le_refl _)
        have hrk1 : RowAt (W.alloc (.cells #[] 5)).drew (.slice (some ⟨w.heap.size, 0, none⟩) 32 32) 1 32 kl := (row_k HKW.out HKS.out).below hb1
        have hrn1 : RowAt (W.alloc (.cells #[] 5)).drew (.slice (some ⟨N, 0, none⟩) 12 12) 1 12 nl := (row_k HNW.out HNS.out).below hb1
        refine tree_append rfl rfl _ _ 28 rfl W.heap.size 5 i0 (.int .u8 0) 1 1 Tryd.underlying28 hi0 hz0 hz1 hz2 rfl (by decide) _ _ _ rfl ho1 _ _ _ rfl hrk1
          (HV8K.out) (by unfold maxLen; omega) (by omega) hb1.size ?_
        intro va wa hown hgrow
        have hb2 : Below W.heap.size W wa := hb1.grown hgrow hb1.size (fun k e => (ho1.lt k e).1)
        have hNW1 : N < W.heap.size := (Array.getElem?_eq_some_iff.1 HNW.out).1
        have hrn2 := row_far (own := some W.heap.size) hrn1 hgrow (by simp <;> omega) (fun k e => by cases e; omega)
        clear hNW1
        have ho2 := hown
        refine ⟨trivial, ?_⟩
        clear hown hgrow ho1 hrk1 hrn1
        try simp only [Act.put, List.getElem_toArray, List.getElem_cons_succ, List.getElem_cons_zero, List.setIfInBounds_toArray, List.set_cons_zero, List.set_cons_succ]
        refine tree_append rfl rfl _ _ 28 rfl W.heap.size 5 i0 (.int .u8 0) 1 1 Tryd.underlying28 hi0 hz0 hz1 hz2 rfl (by decide) _ _ _ rfl ho2 _ _ _ rfl hrn2
          (HV8N.out) (by unfold maxLen; omega) (by omega) hb2.size ?_
        intro vb wb hown hgrow
        obtain ⟨pb, cpb, rfl, -, -⟩ := own_form hown
        have hob : wb.ownsRow W.heap.size 5 1 (.slice pb 44 cpb) 44 (kl ++ nl) := by simpa using hown
        have HOB := Lib.hid hob
        clear hob
        have HBB := Lib.hid (hb2.grown hgrow hb2.size (fun k e => (ho2.lt k e).1))
        refine ⟨trivial, ?_⟩
        clear hown hgrow ho2 hrn2 hb1 hb2
        try simp only [Act.put, List.getElem_toArray, List.getElem_cons_succ, List.getElem_cons_zero, List.setIfInBounds_toArray, List.set_cons_zero, List.set_cons_succ]
        refine tree_take (v := ?_) rfl (by rfl) (fun W' hS => ?_) ?_
        rotate_left
        · go_simp; with_reducible rfl
        try simp only [Act.put, List.getElem_toArray, List.getElem_cons_succ, List.getElem_cons_zero, List.setIfInBounds_toArray, List.set_cons_zero, List.set_cons_succ]
        refine NoPanic.normal ?_
        go_upto_region 17 with fail
        go_upto_region 18 with (at_builtin; refine wpList_append_row rfl _ _ 28 rfl W.heap.size 5 i0 (.int .u8 0) 1 1 Tryd.underlying28 hi0 hz0 hz1 hz2 rfl (by decide) _ _ _ rfl (own_below HOB.out (Below.al (Below.refl _ wb) _) (fun k e => (HOB.out.lt k e).2)) _ _ _ rfl (row_new wb _ 5 (0, 0) 8 (Nat.le_refl _)) (by simp [Value.oneCell']) (by unfold maxLen; simp) (by simp) (by have := HBB.out.size; simp; omega) ?_; intro v18 w18 hown hgrow; have hb18 := (Below.al HBB.out _).grown hgrow (by have := HBB.out.size; simp; omega) (fun k e => (HOB.out.lt k e).1); obtain ⟨p18, c18, rfl, -, -⟩ := own_form hown)
        have ho18 : w18.ownsRow W.heap.size 5 1 (.slice p18 52 c18) 52 (kl ++ nl ++ (eightL hb.length 8).map v8) := by rw [HE8.out (by omega)]; exact hown
        have HO18 := Lib.hid ho18
        have HB18 := Lib.hid hb18
        clear ho18 hb18 hown hgrow HOB HBB
        have hrh : ∀ W', Below W.heap.size W W' → RowAt W' (.slice ph hb.length ch) 1 hb.length (hb.map v8) := fun W' h => row_bytes (HVH.out.below HBW.out) h
        have hrx : ∀ W', Below W.heap.size W W' → RowAt W' (.slice (some ⟨g3, 0, none⟩) n c3) 1 n (xb.map v8) := fun W' h => by have h2 := row_bytes HXB.out h; rw [HXL.out] at h2; exact h2
        obtain ⟨TL, hTL⟩ : ∃ TL, TL = (taggedL tagL (macL kb nb hb xb)).map v8 := ⟨_, rfl⟩
        have htag : ∀ v w', Below W.heap.size W w' → w'.ownsRow W.heap.size 5 1 v (52 + hb.length + n) (kl ++ nl ++ (eightL hb.length 8).map v8 ++ hb.map v8 ++ xb.map v8) → Calls Tryd.prog 20 #[.string ⟨#[116, 97, 103]⟩, v] w' fun e w2 => e = .returned (.agg TL.toArray) ∧ Below w'.heap.size w' w2 := fun v w' hb' ho => by
          have hT' := HT.out.below (HBW.out.trans (hb'.mono HBW.out.size))
          have hml := macL_length kb nb hb xb HK.out HN'.out
          rw [HXL.out] at hml
          rw [← hml, ← HKL.out, ← HNLQ.out, ← List.map_append, ← List.map_append, ← List.map_append, ← List.map_append] at ho
          rw [hTL]
          exact tagged_ok v _ (by omega) w' (BytesAt.of_own ho) hT'.num hT'.start
        have hlen : TL.length = 32 := by rw [hTL, List.length_map, taggedL_length]
        have hone : ∀ v ∈ TL, v.oneCell' = true := by rw [hTL]; exact v8_one _
        have hi41 : (Tryd.prog.info? 41).map (·.size) = some TL.toArray.size := by rw [List.size_toArray, hlen]; exact info41
        have sl1 : ∀ W, (Instr.sliceAt 28 (.slice (some ⟨g3, 0, none⟩) (n + 16) c3) none (some (.int .i64 (n : Int))) none).run Tryd.prog W = .ok (.slice (some ⟨g3, 0, none⟩) n c3) W :=
          slice_to (P := Tryd.prog) 28 5 Tryd.underlying28 size5 g3 0 (n + 16) c3 n (by omega) (by omega)
        have HTAG := Lib.hid htag
        have HRH := Lib.hid hrh
        have HRX := Lib.hid hrx
        have HTLD := Lib.hid hTL
        have HLEN := Lib.hid hlen
        have HONE := Lib.hid hone
        have HI41 := Lib.hid hi41
        clear htag hrh hrx hTL hlen hone hi41
        go_cut [20] (fun v wx => ∃ G, v = .pointer (some ⟨G, 0, none⟩) ∧ wx.rangeAt G 0 TL ∧ Below W.heap.size W wx)
        case first =>
          refine wp_region_noPanic ?_
          refine region_tree (fun _ => True) (.take 0 (.take 1 (.take 3 (.take 4 (.take 5 (.float 8 [2, 6, 7] (.one 9 .done))))))) (by kernel_rfl) (by kernel_rfl) (by kernel_rfl) (by decide) (fun _ _ _ _ h => h) trivial ?_
          refine tree_take (v := ?_) rfl (by rfl) (fun W' hS => ?_) ?_
          rotate_left
          · go_simp; with_reducible rfl
          try simp only [Act.put, List.getElem_toArray, List.getElem_cons_succ, List.getElem_cons_zero, List.setIfInBounds_toArray, List.set_cons_zero, List.set_cons_succ]
          refine tree_take (v := ?_) rfl (by rfl) (fun W' hS => ?_) ?_
          rotate_left
          · go_simp; with_reducible rfl
          try simp only [Act.put, List.getElem_toArray, List.getElem_cons_succ, List.getElem_cons_zero, List.setIfInBounds_toArray, List.set_cons_zero, List.set_cons_succ]
          refine tree_take (v := ?_) rfl (by rfl) (fun W' hS => ?_) ?_
          rotate_left
          · go_simp; with_reducible rfl
          try simp only [Act.put, List.getElem_toArray, List.getElem_cons_succ, List.getElem_cons_zero, List.setIfInBounds_toArray, List.set_cons_zero, List.set_cons_succ]
          refine tree_take (v := ?_) rfl (by rfl) (fun W' hS => ?_) ?_
          rotate_left
          · go_simp; with_reducible rfl
          try simp only [Act.put, List.getElem_toArray, List.getElem_cons_succ, List.getElem_cons_zero, List.setIfInBounds_toArray, List.set_cons_zero, List.set_cons_succ]
          refine tree_take (v := ?_) rfl (by rfl) (fun W' hS => ?_) ?_
          rotate_left
          · go_simp; with_reducible rfl
          try simp only [Act.put, List.getElem_toArray, List.getElem_cons_succ, List.getElem_cons_zero, List.setIfInBounds_toArray, List.set_cons_zero, List.set_cons_succ]
          refine reg_tagged W n (by omega) hb xb (by omega) _ TL _ _ _ 96 97 99 101 98 102 103 20 _ rfl rfl rfl rfl rfl rfl rfl rfl rfl rfl rfl rfl rfl rfl rfl rfl rfl rfl rfl (by decide) (by decide) (show 98 < 147 by decide) (show 102 < 147 by decide) (show 103 < 147 by decide) (show 20 < 147 by decide) rfl rfl rfl (Below.dr HB18.out) HO18.out HRH.out HRX.out HTAG.out HLEN.out HONE.out ?_
          intro G v1 v2 wx hR hBx
          try simp only [Act.put, List.getElem_toArray, List.getElem_cons_succ, List.getElem_cons_zero, List.setIfInBounds_toArray, List.set_cons_zero, List.set_cons_succ]
          refine NoPanic.normal ?_
          go_wp2_with fail
          go_meet
          exact ⟨_, rfl, hR, hBx⟩
        obtain ⟨GD, rfl, hR, hBx⟩ := hcut
        have hcell : ∀ j, j < 16 → wc.cell? ⟨GD, 0 + j, none⟩ = some (.int .u8 ((tag16 kb nb hb xb).getD j 0).toNat) := fun j hj => by
          have h32 : j < (taggedL tagL (macL kb nb hb xb)).length := by rw [taggedL_length]; omega
          refine hR j _ ?_
          rw [HTLD.out]
          simp [h32, tag16, List.getD, hj]
        have htg : BytesAt wc (.slice (some ⟨GD, 0, none⟩) 16 32) (tag16 kb nb hb xb) := ⟨some ⟨GD, 0, none⟩, 32, by rw [tag16_length], by rw [tag16_length]; decide, fun h => (by cases h), fun _ => ⟨GD, 0, rfl, fun j hj => hcell j (by rw [tag16_length] at hj; exact hj)⟩⟩
        have htb := HTB.out.below hBx
        have HBC := Lib.hid (HBW.out.trans (hBx.mono HBW.out.size))
        have HKC := Lib.hid ((hBx.block _ (Array.getElem?_eq_some_iff.1 HKW.out).1).trans HKW.out)
        have HNC := Lib.hid ((hBx.block _ (Array.getElem?_eq_some_iff.1 HNW.out).1).trans HNW.out)
        have HYC := Lib.hid (HY.out.below hBx)
        have HBQ : Hid (∀ q, Below w.heap.size w (wc.drewN q)) := Lib.hid fun q => HBC.out.trans ⟨rfl, rfl, rfl, Nat.le_refl _, fun _ _ => rfl⟩
        have HYQ : Hid (∀ q, BytesAt (wc.drewN q) (.slice (some ⟨g3, 0, none⟩) (n + 16) c3) yl) := Lib.hid fun q => HYC.out
        have hsl2 : ∀ W, (Instr.sliceAt 28 (.slice (some ⟨g3, 0, none⟩) (n + 16) c3) (some (.int .i64 (n : Int))) none none).run Tryd.prog W = .ok (.slice (some ⟨g3, n, none⟩) 16 (c3 - n)) W := fun W => by
          have h := slice_from (P := Tryd.prog) 28 5 Tryd.underlying28 size5 g3 0 (n + 16) c3 n (by omega) (by omega) W
          rw [show n + 16 - n = 16 by omega] at h
          rw [Nat.zero_add] at h
          exact h
        have cv1 : ∀ q, (convert 28 9 (.slice (some ⟨g3, n, none⟩) 16 (c3 - n))).run Tryd.prog (wc.drewN q) = .ok (.string (strB tb)) (wc.drewN q) := fun q => conv_ok (w := wc.drewN q) htb
        have cv2 : ∀ q, (convert 28 9 (.slice (some ⟨GD, 0, none⟩) 16 32)).run Tryd.prog (wc.drewN q) = .ok (.string (strB (tag16 kb nb hb xb))) (wc.drewN q) := fun q => conv_ok (w := wc.drewN q) htg
        have hseq : ((strB tb).toList == (strB (tag16 kb nb hb xb)).toList) = okO kb nb hb yl := by rw [HOK.out]; exact str_dec tb _
        generalize strB tb = sA at cv1 hseq
        generalize strB (tag16 kb nb hb xb) = sB at cv2 hseq
        clear hcell htg htb hR hBx HTLD HTAG HLEN HONE HI41 HRH HRX HO18 HB18 HXB HTB HXL HTL HY HKW HNW HBW sl1
        cases hDv : okO kb nb hb yl with
        | true =>
          rw [hDv] at hseq
          have HDV := Lib.hid hDv
          clear hDv
          go_upto_region 19 with fail
          go_quiet (fail)
          clear cv1 cv2 hsl2 hseq
          go_upto_region 20 with fail
          have hb0 : ((b8.toNat : Int) == 0) = true := by
            have h := HDD.out
            rw [HDV.out] at h
            have h2 : b8 = 0 := by simpa using h.symm
            rw [h2]
            rfl
          refine wp_region_lit ?_
          refine wpList_load_row rfl 23 _ rfl w.heap.size rfl 23 kl.toArray (0, 0) _ HKC.out hu23 rfl (by rw [List.size_toArray]; exact hi23) ?_
          refine wpList_load_row rfl 25 _ rfl N rfl 25 nl.toArray (0, 0) _ HNC.out hu25 rfl (by rw [List.size_toArray]; exact hi25) ?_
          go_wp2_with fail
          refine (HYes.out yl _ _ _ (by omega) (by rw [HYN.out]; omega) (HVH.out.below (HBQ.out _)) (HYQ.out _) (HT.out.below (HBQ.out _)) HDV.out).mono ?_
          rintro e we ⟨⟨u, rfl⟩, hBe⟩
          have HBE := Lib.hid ((HBQ.out _).trans (hBe.mono (HBQ.out _).size))
          clear hBe
          go_wp2
          exact ⟨⟨k + 1, by go_num, by omega, HBE, Lib.hid fun h => by have := HK2'.out; omega⟩, by simp [intOf]; omega⟩
        | false =>
          rw [hDv] at hseq
          have HDV := Lib.hid hDv
          clear hDv
          go_upto_region 19 with fail
          go_quiet (fail)
          clear cv1 cv2 hsl2 hseq
          go_upto_region 20 with fail
          have hb0 : ((b8.toNat : Int) == 0) = false := by
            have h := HDD.out
            rw [HDV.out] at h
            have h2 : ¬ b8 = 0 := by simpa using h.symm
            have h3 : b8.toNat ≠ 0 := fun e => h2 (BitVec.eq_of_toNat_eq (by simpa using e))
            simp only [beq_eq_false_iff_ne]
            omega
          refine wp_region_lit ?_
          refine wpList_load_row rfl 23 _ rfl w.heap.size rfl 23 kl.toArray (0, 0) _ HKC.out hu23 rfl (by rw [List.size_toArray]; exact hi23) ?_
          refine wpList_load_row rfl 25 _ rfl N rfl 25 nl.toArray (0, 0) _ HNC.out hu25 rfl (by rw [List.size_toArray]; exact hi25) ?_
          go_wp2_with fail
          refine (HNo.out yl _ _ _ (by omega) (by rw [HYN.out]; omega) (HVH.out.below (HBQ.out _)) (HYQ.out _) (HT.out.below (HBQ.out _)) HDV.out).mono ?_
          rintro e we ⟨rfl, hBe⟩
          have HBE := Lib.hid ((HBQ.out _).trans (hBe.mono (HBQ.out _).size))
          clear hBe
          go_wp2
          exact ⟨⟨k + 1, by go_num, by omega, HBE, Lib.hid fun h => by have := HK2'.out; omega⟩, by simp [intOf]; omega⟩
      · obtain ⟨py, ny, cy, yl, hcl, hyl, hny, hny2⟩ : ∃ py ny cy yl, wr.cell? ⟨TB, k, none⟩ = some (.slice py ny cy) ∧ BytesAt wr (.slice py ny cy) yl ∧ ny = yl.length ∧ ny ≤ 416 := by
          rcases (show k = 0 ∨ k = 1 by omega) with h0 | h0
          · exact ⟨pc, n, cc, cb, by rw [h0]; unfold World.cell?; rw [HTr.out]; rfl, HVC.out.below HBr.out, HNL.out, by omega⟩
          · exact ⟨some ⟨gx, 0, none⟩, n + 16, cx, sealL kb nb hb cb, by rw [h0]; unfold World.cell?; rw [HTr.out]; rfl, HXr.out, by rw [sealL_length, HNL.out], by omega⟩
        have he : decide ((k : Int) = 2) = false := by simp; omega
        have he2 : ((k : Int) == 2) = false := by simp; omega
        have hk0 : (0 : Int) ≤ k := by omega
        have hk3 : (k : Int) < 3 := by omega
        have HNY := Lib.hid hny
        have HYL := Lib.hid hyl
        clear hny hyl
        have HB8R := Lib.hid (HFr.out (by omega))
        generalize wr = W at *
        have HBW := HBr
        have HB8W := HB8R
        have HKW := HKr
        have HNW := HNr
        clear HXr HOr HTr HBr HB8R HKr HNr HFr HX8 HO8 HK8 HN8 HTT HB28 HB8
        go_upto_region 14 with fail
        by_cases hsh : ny < 16
        · have hd1 : decide ((0 : Int) ≤ (ny : Int) - 16) = false := by simp; omega
          have hd2 : decide ((16 : Int) ≤ (ny : Int)) = false := by simp; omega
          have hD : okO kb nb hb yl = false := by
            have h := HNY.out
            simp only [okO, decide_eq_false_iff_not]
            omega
          have HDV := Lib.hid hD
          clear hD
          go_upto_region 20 with fail
          refine wp_region_lit ?_
          refine wpList_load_row rfl 23 _ rfl w.heap.size rfl 23 kl.toArray (0, 0) _ HKW.out hu23 rfl (by rw [List.size_toArray]; exact hi23) ?_
          refine wpList_load_row rfl 25 _ rfl N rfl 25 nl.toArray (0, 0) _ HNW.out hu25 rfl (by rw [List.size_toArray]; exact hi25) ?_
          go_wp2_with fail
          refine (HNo.out yl _ _ _ (by omega) (by rw [← HNY.out]; omega) (HVH.out.below HBW.out) HYL.out (HT.out.below HBW.out) HDV.out).mono ?_
          rintro e we ⟨rfl, hBe⟩
          have HBE := Lib.hid (HBW.out.trans (hBe.mono HBW.out.size))
          have HB8E := Lib.hid (HB8W.out.trans (hBe.mono HB8W.out.size))
          clear hBe
          go_wp2
          exact ⟨⟨k + 1, by go_num, by omega, HBE, Lib.hid fun _ => HB8E.out⟩, by simp [intOf]; omega⟩
        · obtain ⟨py', cy', he', hcy', hpy'⟩ := bytes_form HYL.out
          obtain ⟨gy, oy, rfl⟩ := hpy' (by rw [← HNY.out]; omega)
          obtain ⟨rfl, rfl⟩ : py = some ⟨gy, oy, none⟩ ∧ cy = cy' := by
            rw [HNY.out] at he'
            simpa using he'
          obtain ⟨m, rfl⟩ : ∃ m, ny = m + 16 := ⟨ny - 16, by omega⟩
          have hcy : m + 16 ≤ cy := by rw [HNY.out]; exact hcy'
          have HYN := Lib.hid (HNY.out.symm)
          have HY := HYL
          have hm16 : (((m + 16 : Nat) : Int) - 16) = (m : Int) := by omega
          clear he' hcy' hpy' HNY HYL hsh
          obtain ⟨xb, hxb⟩ : ∃ xb, xb = yl.take m := ⟨_, rfl⟩
          obtain ⟨tb, htb⟩ : ∃ tb, tb = yl.drop m := ⟨_, rfl⟩
          have hyx : yl = xb ++ tb := by rw [hxb, htb, List.take_append_drop]
          have hxl : xb.length = m := by rw [hxb, List.length_take, HYN.out]; omega
          have htl : tb.length = 16 := by rw [htb, List.length_drop, HYN.out]; omega
          have hbx := HY.out
          rw [hyx] at hbx
          have HXB := Lib.hid (bytes_take hbx hxl)
          have htb2 := bytes_drop hbx hxl
          rw [htl] at htb2
          have HTB := Lib.hid htb2
          have hok := okO_split kb nb hb xb tb (by omega) htl
          rw [← hyx] at hok
          have HOK := Lib.hid hok
          have HXL := Lib.hid hxl
          have HTL := Lib.hid htl
          clear hxb htb hyx hxl htl hbx htb2 hok
          have hm0 : decide ((0 : Int) ≤ (m : Int)) = true := by simp
          go_upto_region 16 with fail
          obtain ⟨i0, hi0, hz0, hz1, hz2⟩ := info_parts info_u8
          refine wp_region_noPanic ?_
          refine region_tree (fun _ => True) (.take 1 (.take 3 (.one 0 (.one 2 (.one 4 (.take 5 .done)))))) (by kernel_rfl) (by kernel_rfl) (by kernel_rfl) (by decide) (fun _ _ _ _ h => h) trivial ?_
          refine tree_take (v := ?_) rfl (by rfl) (fun W' hS => ?_) ?_
          rotate_left
          · go_simp; with_reducible rfl
          try simp only [Act.put, List.getElem_toArray, List.getElem_cons_succ, List.getElem_cons_zero, List.setIfInBounds_toArray, List.set_cons_zero, List.set_cons_succ]
          refine tree_take (v := ?_) rfl (by rfl) (fun W' hS => ?_) ?_
          rotate_left
          · go_simp; with_reducible rfl
          try simp only [Act.put, List.getElem_toArray, List.getElem_cons_succ, List.getElem_cons_zero, List.setIfInBounds_toArray, List.set_cons_zero, List.set_cons_succ]
          refine tree_one rfl (fun K' hK => ?_)
          go_simp
          refine hK.out _ _ trivial fun _ => ?_
          clear hK
          try simp only [Act.put, List.getElem_toArray, List.getElem_cons_succ, List.getElem_cons_zero, List.setIfInBounds_toArray, List.set_cons_zero, List.set_cons_succ]
          have hb1 : Below W.heap.size W (W.alloc (.cells #[] 5)).drew := Below.dr (Below.al (Below.refl _ _) _)
          have ho1 : (W.alloc (.cells #[] 5)).drew.ownsRow W.heap.size 5 1 (.slice (some ⟨W.heap.size, 0, none⟩) 0 0) 0 [] := own_nil W (Nat.le_refl _)
          have hrk1 : RowAt (W.alloc (.cells #[] 5)).drew (.slice (some ⟨w.heap.size, 0, none⟩) 32 32) 1 32 kl := (row_k HKW.out HKS.out).below hb1
          have hrn1 : RowAt (W.alloc (.cells #[] 5)).drew (.slice (some ⟨N, 0, none⟩) 12 12) 1 12 nl := (row_k HNW.out HNS.out).below hb1
          refine tree_append rfl rfl _ _ 28 rfl W.heap.size 5 i0 (.int .u8 0) 1 1 Tryd.underlying28 hi0 hz0 hz1 hz2 rfl (by decide) _ _ _ rfl ho1 _ _ _ rfl hrk1
            (HV8K.out) (by unfold maxLen; omega) (by omega) hb1.size ?_
          intro va wa hown hgrow
          have hb2 : Below W.heap.size W wa := hb1.grown hgrow hb1.size (fun k e => (ho1.lt k e).1)
          have hNW1 : N < W.heap.size := (Array.getElem?_eq_some_iff.1 HNW.out).1
          have hrn2 := row_far (own := some W.heap.size) hrn1 hgrow (by simp <;> omega) (fun k e => by cases e; omega)
          clear hNW1
          have ho2 := hown
          refine ⟨trivial, ?_⟩
          clear hown hgrow ho1 hrk1 hrn1
          try simp only [Act.put, List.getElem_toArray, List.getElem_cons_succ, List.getElem_cons_zero, List.setIfInBounds_toArray, List.set_cons_zero, List.set_cons_succ]
          refine tree_append rfl rfl _ _ 28 rfl W.heap.size 5 i0 (.int .u8 0) 1 1 Tryd.underlying28 hi0 hz0 hz1 hz2 rfl (by decide) _ _ _ rfl ho2 _ _ _ rfl hrn2
            (HV8N.out) (by unfold maxLen; omega) (by omega) hb2.size ?_
          intro vb wb hown hgrow
          obtain ⟨pb, cpb, rfl, -, -⟩ := own_form hown
          have hob : wb.ownsRow W.heap.size 5 1 (.slice pb 44 cpb) 44 (kl ++ nl) := by simpa using hown
          have HOB := Lib.hid hob
          clear hob
          have HBB := Lib.hid (hb2.grown hgrow hb2.size (fun k e => (ho2.lt k e).1))
          refine ⟨trivial, ?_⟩
          clear hown hgrow ho2 hrn2 hb1 hb2
          try simp only [Act.put, List.getElem_toArray, List.getElem_cons_succ, List.getElem_cons_zero, List.setIfInBounds_toArray, List.set_cons_zero, List.set_cons_succ]
          refine tree_take (v := ?_) rfl (by rfl) (fun W' hS => ?_) ?_
          rotate_left
          · go_simp; with_reducible rfl
          try simp only [Act.put, List.getElem_toArray, List.getElem_cons_succ, List.getElem_cons_zero, List.setIfInBounds_toArray, List.set_cons_zero, List.set_cons_succ]
          refine NoPanic.normal ?_
          go_upto_region 17 with fail
          go_upto_region 18 with (at_builtin; refine wpList_append_row rfl _ _ 28 rfl W.heap.size 5 i0 (.int .u8 0) 1 1 Tryd.underlying28 hi0 hz0 hz1 hz2 rfl (by decide) _ _ _ rfl (own_below HOB.out (Below.al (Below.refl _ wb) _) (fun k e => (HOB.out.lt k e).2)) _ _ _ rfl (row_new wb _ 5 (0, 0) 8 (Nat.le_refl _)) (by simp [Value.oneCell']) (by unfold maxLen; simp) (by simp) (by have := HBB.out.size; simp; omega) ?_; intro v18 w18 hown hgrow; have hb18 := (Below.al HBB.out _).grown hgrow (by have := HBB.out.size; simp; omega) (fun k e => (HOB.out.lt k e).1); obtain ⟨p18, c18, rfl, -, -⟩ := own_form hown)
          have ho18 : w18.ownsRow W.heap.size 5 1 (.slice p18 52 c18) 52 (kl ++ nl ++ (eightL hb.length 8).map v8) := by rw [HE8.out (by omega)]; exact hown
          have HO18 := Lib.hid ho18
          have HB18 := Lib.hid hb18
          clear ho18 hb18 hown hgrow HOB HBB
          have hrh : ∀ W', Below W.heap.size W W' → RowAt W' (.slice ph hb.length ch) 1 hb.length (hb.map v8) := fun W' h => row_bytes (HVH.out.below HBW.out) h
          have hrx : ∀ W', Below W.heap.size W W' → RowAt W' (.slice (some ⟨gy, oy, none⟩) m cy) 1 m (xb.map v8) := fun W' h => by have h2 := row_bytes HXB.out h; rw [HXL.out] at h2; exact h2
          obtain ⟨TL, hTL⟩ : ∃ TL, TL = (taggedL tagL (macL kb nb hb xb)).map v8 := ⟨_, rfl⟩
          have htag : ∀ v w', Below W.heap.size W w' → w'.ownsRow W.heap.size 5 1 v (52 + hb.length + m) (kl ++ nl ++ (eightL hb.length 8).map v8 ++ hb.map v8 ++ xb.map v8) → Calls Tryd.prog 20 #[.string ⟨#[116, 97, 103]⟩, v] w' fun e w2 => e = .returned (.agg TL.toArray) ∧ Below w'.heap.size w' w2 := fun v w' hb' ho => by
            have hT' := HT.out.below (HBW.out.trans (hb'.mono HBW.out.size))
            have hml := macL_length kb nb hb xb HK.out HN'.out
            rw [HXL.out] at hml
            rw [← hml, ← HKL.out, ← HNLQ.out, ← List.map_append, ← List.map_append, ← List.map_append, ← List.map_append] at ho
            rw [hTL]
            exact tagged_ok v _ (by omega) w' (BytesAt.of_own ho) hT'.num hT'.start
          have hlen : TL.length = 32 := by rw [hTL, List.length_map, taggedL_length]
          have hone : ∀ v ∈ TL, v.oneCell' = true := by rw [hTL]; exact v8_one _
          have hi41 : (Tryd.prog.info? 41).map (·.size) = some TL.toArray.size := by rw [List.size_toArray, hlen]; exact info41
          have sl1 : ∀ W, (Instr.sliceAt 28 (.slice (some ⟨gy, oy, none⟩) (m + 16) cy) none (some (.int .i64 (m : Int))) none).run Tryd.prog W = .ok (.slice (some ⟨gy, oy, none⟩) m cy) W :=
            slice_to (P := Tryd.prog) 28 5 Tryd.underlying28 size5 gy oy (m + 16) cy m (by omega) (by omega)
          have HTAG := Lib.hid htag
          have HRH := Lib.hid hrh
          have HRX := Lib.hid hrx
          have HTLD := Lib.hid hTL
          have HLEN := Lib.hid hlen
          have HONE := Lib.hid hone
          have HI41 := Lib.hid hi41
          clear htag hrh hrx hTL hlen hone hi41
          go_cut [20] (fun v wx => ∃ G, v = .pointer (some ⟨G, 0, none⟩) ∧ wx.rangeAt G 0 TL ∧ Below W.heap.size W wx)
          case first =>
            refine wp_region_noPanic ?_
            refine region_tree (fun _ => True) (.take 0 (.take 1 (.take 3 (.take 4 (.take 5 (.float 8 [2, 6, 7] (.one 9 .done))))))) (by kernel_rfl) (by kernel_rfl) (by kernel_rfl) (by decide) (fun _ _ _ _ h => h) trivial ?_
            refine tree_take (v := ?_) rfl (by rfl) (fun W' hS => ?_) ?_
            rotate_left
            · go_simp; with_reducible rfl
            try simp only [Act.put, List.getElem_toArray, List.getElem_cons_succ, List.getElem_cons_zero, List.setIfInBounds_toArray, List.set_cons_zero, List.set_cons_succ]
            refine tree_take (v := ?_) rfl (by rfl) (fun W' hS => ?_) ?_
            rotate_left
            · go_simp; with_reducible rfl
            try simp only [Act.put, List.getElem_toArray, List.getElem_cons_succ, List.getElem_cons_zero, List.setIfInBounds_toArray, List.set_cons_zero, List.set_cons_succ]
            refine tree_take (v := ?_) rfl (by rfl) (fun W' hS => ?_) ?_
            rotate_left
            · go_simp; with_reducible rfl
            try simp only [Act.put, List.getElem_toArray, List.getElem_cons_succ, List.getElem_cons_zero, List.setIfInBounds_toArray, List.set_cons_zero, List.set_cons_succ]
            refine tree_take (v := ?_) rfl (by rfl) (fun W' hS => ?_) ?_
            rotate_left
            · go_simp; with_reducible rfl
            try simp only [Act.put, List.getElem_toArray, List.getElem_cons_succ, List.getElem_cons_zero, List.setIfInBounds_toArray, List.set_cons_zero, List.set_cons_succ]
            refine tree_take (v := ?_) rfl (by rfl) (fun W' hS => ?_) ?_
            rotate_left
            · go_simp; with_reducible rfl
            try simp only [Act.put, List.getElem_toArray, List.getElem_cons_succ, List.getElem_cons_zero, List.setIfInBounds_toArray, List.set_cons_zero, List.set_cons_succ]
            refine reg_tagged W m (by omega) hb xb (by omega) _ TL _ _ _ 96 97 99 101 98 102 103 20 _ rfl rfl rfl rfl rfl rfl rfl rfl rfl rfl rfl rfl rfl rfl rfl rfl rfl rfl rfl (by decide) (by decide) (show 98 < 147 by decide) (show 102 < 147 by decide) (show 103 < 147 by decide) (show 20 < 147 by decide) rfl rfl rfl (Below.dr HB18.out) HO18.out HRH.out HRX.out HTAG.out HLEN.out HONE.out ?_
            intro G v1 v2 wx hR hBx
            try simp only [Act.put, List.getElem_toArray, List.getElem_cons_succ, List.getElem_cons_zero, List.setIfInBounds_toArray, List.set_cons_zero, List.set_cons_succ]
            refine NoPanic.normal ?_
            go_wp2_with fail
            go_meet
            exact ⟨_, rfl, hR, hBx⟩
          obtain ⟨GD, rfl, hR, hBx⟩ := hcut
          have hcell : ∀ j, j < 16 → wc.cell? ⟨GD, 0 + j, none⟩ = some (.int .u8 ((tag16 kb nb hb xb).getD j 0).toNat) := fun j hj => by
            have h32 : j < (taggedL tagL (macL kb nb hb xb)).length := by rw [taggedL_length]; omega
            refine hR j _ ?_
            rw [HTLD.out]
            simp [h32, tag16, List.getD, hj]
          have htg : BytesAt wc (.slice (some ⟨GD, 0, none⟩) 16 32) (tag16 kb nb hb xb) := ⟨some ⟨GD, 0, none⟩, 32, by rw [tag16_length], by rw [tag16_length]; decide, fun h => (by cases h), fun _ => ⟨GD, 0, rfl, fun j hj => hcell j (by rw [tag16_length] at hj; exact hj)⟩⟩
          have htb := HTB.out.below hBx
          have HBC := Lib.hid (HBW.out.trans (hBx.mono HBW.out.size))
          have HKC := Lib.hid ((hBx.block _ (Array.getElem?_eq_some_iff.1 HKW.out).1).trans HKW.out)
          have HNC := Lib.hid ((hBx.block _ (Array.getElem?_eq_some_iff.1 HNW.out).1).trans HNW.out)
          have HYC := Lib.hid (HY.out.below hBx)
          have HBQ : Hid (∀ q, Below w.heap.size w (wc.drewN q)) := Lib.hid fun q => HBC.out.trans ⟨rfl, rfl, rfl, Nat.le_refl _, fun _ _ => rfl⟩
          have HYQ : Hid (∀ q, BytesAt (wc.drewN q) (.slice (some ⟨gy, oy, none⟩) (m + 16) cy) yl) := Lib.hid fun q => HYC.out
          have HB8Q : Hid (∀ q, Below w8.heap.size w8 (wc.drewN q)) := Lib.hid fun q => (HB8W.out.trans (hBx.mono HB8W.out.size)).trans ⟨rfl, rfl, rfl, Nat.le_refl _, fun _ _ => rfl⟩
          have hsl2 : ∀ W, (Instr.sliceAt 28 (.slice (some ⟨gy, oy, none⟩) (m + 16) cy) (some (.int .i64 (m : Int))) none none).run Tryd.prog W = .ok (.slice (some ⟨gy, (oy + m), none⟩) 16 (cy - m)) W := fun W => by
            have h := slice_from (P := Tryd.prog) 28 5 Tryd.underlying28 size5 gy oy (m + 16) cy m (by omega) (by omega) W
            rw [show m + 16 - m = 16 by omega] at h
            exact h
          have cv1 : ∀ q, (convert 28 9 (.slice (some ⟨gy, (oy + m), none⟩) 16 (cy - m))).run Tryd.prog (wc.drewN q) = .ok (.string (strB tb)) (wc.drewN q) := fun q => conv_ok (w := wc.drewN q) htb
          have cv2 : ∀ q, (convert 28 9 (.slice (some ⟨GD, 0, none⟩) 16 32)).run Tryd.prog (wc.drewN q) = .ok (.string (strB (tag16 kb nb hb xb))) (wc.drewN q) := fun q => conv_ok (w := wc.drewN q) htg
          have hseq : ((strB tb).toList == (strB (tag16 kb nb hb xb)).toList) = okO kb nb hb yl := by rw [HOK.out]; exact str_dec tb _
          generalize strB tb = sA at cv1 hseq
          generalize strB (tag16 kb nb hb xb) = sB at cv2 hseq
          clear hcell htg htb hR hBx HTLD HTAG HLEN HONE HI41 HRH HRX HO18 HB18 HXB HTB HXL HTL HY HKW HNW HBW sl1
          cases hDv : okO kb nb hb yl with
          | true =>
            rw [hDv] at hseq
            have HDV := Lib.hid hDv
            clear hDv
            go_upto_region 19 with fail
            go_quiet (fail)
            clear cv1 cv2 hsl2 hseq
            go_upto_region 20 with fail
            refine wp_region_lit ?_
            refine wpList_load_row rfl 23 _ rfl w.heap.size rfl 23 kl.toArray (0, 0) _ HKC.out hu23 rfl (by rw [List.size_toArray]; exact hi23) ?_
            refine wpList_load_row rfl 25 _ rfl N rfl 25 nl.toArray (0, 0) _ HNC.out hu25 rfl (by rw [List.size_toArray]; exact hi25) ?_
            go_wp2_with fail
            refine (HYes.out yl _ _ _ (by omega) (by rw [HYN.out]; omega) (HVH.out.below (HBQ.out _)) (HYQ.out _) (HT.out.below (HBQ.out _)) HDV.out).mono ?_
            rintro e we ⟨⟨u, rfl⟩, hBe⟩
            have HBE := Lib.hid ((HBQ.out _).trans (hBe.mono (HBQ.out _).size))
            have HB8E := Lib.hid ((HB8Q.out _).trans (hBe.mono (HB8Q.out _).size))
            clear hBe
            go_wp2
            exact ⟨⟨k + 1, by go_num, by omega, HBE, Lib.hid fun _ => HB8E.out⟩, by simp [intOf]; omega⟩
          | false =>
            rw [hDv] at hseq
            have HDV := Lib.hid hDv
            clear hDv
            go_upto_region 19 with fail
            go_quiet (fail)
            clear cv1 cv2 hsl2 hseq
            go_upto_region 20 with fail
            refine wp_region_lit ?_
            refine wpList_load_row rfl 23 _ rfl w.heap.size rfl 23 kl.toArray (0, 0) _ HKC.out hu23 rfl (by rw [List.size_toArray]; exact hi23) ?_
            refine wpList_load_row rfl 25 _ rfl N rfl 25 nl.toArray (0, 0) _ HNC.out hu25 rfl (by rw [List.size_toArray]; exact hi25) ?_
            go_wp2_with fail
            refine (HNo.out yl _ _ _ (by omega) (by rw [HYN.out]; omega) (HVH.out.below (HBQ.out _)) (HYQ.out _) (HT.out.below (HBQ.out _)) HDV.out).mono ?_
            rintro e we ⟨rfl, hBe⟩
            have HBE := Lib.hid ((HBQ.out _).trans (hBe.mono (HBQ.out _).size))
            have HB8E := Lib.hid ((HB8Q.out _).trans (hBe.mono (HB8Q.out _).size))
            clear hBe
            go_wp2
            exact ⟨⟨k + 1, by go_num, by omega, HBE, Lib.hid fun _ => HB8E.out⟩, by simp [intOf]; omega⟩
    · have hd : decide ((k : Int) < 3) = false := by simp; omega
      go_wp2
      go_ret
      exact ⟨rfl, HBr.out⟩
theorem cipherTag_w {H : Type} {enc : TypeId × Value → H} {base : Nat} (v0 : Value) (d0 : DataW H) (p0 : List MemPlace) {W : World} (h0 : DataW.Trod enc Tryd.prog W 0 (fun _ => true) true 23 v0 d0 p0) (o0 : Value.okWide Tryd.prog W .any base 23 v0)
    (v1 : Value) (d1 : DataW H) (p1 : List MemPlace) (h1 : DataW.Trod enc Tryd.prog W 0 (fun _ => true) true 25 v1 d1 p1) (o1 : Value.okWide Tryd.prog W .any base 25 v1)
    (v2 : Value) (d2 : DataW H) (p2 : List MemPlace) (h2 : DataW.Trod enc Tryd.prog W 0 (fun _ => true) true 28 v2 d2 p2) (o2 : Value.okWide Tryd.prog W .any base 28 v2)
    (v3 : Value) (d3 : DataW H) (p3 : List MemPlace) (h3 : DataW.Trod enc Tryd.prog W 0 (fun _ => true) true 28 v3 d3 p3) (o3 : Value.okWide Tryd.prog W .any base 28 v3)
    (z : Int) {Q : Prop} (_ : Q) (x : Int) (hx : (Lit.int .u8 x).wf = true)
    (hL : laidMetH Tryd.prog Rows.cipherTagRow.laid W) :
    Calls Tryd.prog 9 #[v0, v1, v2, v3, .int .i64 z, .int .u8 x] W fun e w' => e = .returned (.bool true) ∧ Below W.heap.size W w' := by
  obtain ⟨kb, rfl, hk⟩ := arrK h0 o0
  obtain ⟨nb, rfl, hn⟩ := arrN h1 o1
  obtain ⟨hb, b2, _⟩ := bytesIn h2 o2
  obtain ⟨cb, b3, _⟩ := bytesIn h3 o3
  rw [v8_of hx]
  exact cipherTag_walk kb nb hb cb _ _ z _ W hk hn b2 b3 (tabs_of hL)
end Go.Proofs.YtklaancgnfkjlaaDoor
