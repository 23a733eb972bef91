/- cipher: Stream. -/
import Derived.Test.YtklaancgnfkjlaaDoorEa
import Derived.RangeFuncWrites
import Derived.BigFrameIn
import Derived.Sort.CutIn
namespace Go.Proofs.YtklaancgnfkjlaaDoor
open Go.RowKit
set_option maxRecDepth 100000
set_option maxHeartbeats 1000000
set_option linter.unusedVariables false
set_option linter.unusedSimpArgs false

attribute [local go_sem] Oper.semAt_some

/-- The byte of the key stream at a place; the bytes with the first n encrypted. -/
def ksB (kb nb : List (BitVec 8)) (i : Nat) : BitVec 8 := (chaBlock kb nb (BitVec.ofNat 32 (1 + i / 64))).getD (i % 64) 0
def encN (kb nb l : List (BitVec 8)) : Nat → List (BitVec 8)
  | 0 => l
  | n + 1 => (encN kb nb l n).set n ((encN kb nb l n).getD n 0 ^^^ ksB kb nb n)
theorem encN_length (kb nb l n) : (encN kb nb l n).length = l.length := by induction n with
  | zero => rfl
  | succ n ih => simp [encN, ih]
/-- The stream over bytes. -/
def streamL (kb nb l : List (BitVec 8)) : List (BitVec 8) := encN kb nb l l.length
theorem streamL_length (kb nb l) : (streamL kb nb l).length = l.length := encN_length _ _ _ _

theorem xor8 (x y : BitVec 8) : bits .xor .u8 (x.toNat : Int) (y.toNat : Int) = ((x ^^^ y).toNat : Int) := by
  have hx := x.isLt
  have hy := y.isLt
  have ha' : x.toNat % 2 ^ 8 = x.toNat := Nat.mod_eq_of_lt hx
  have hb' : y.toNat % 2 ^ 8 = y.toNat := Nat.mod_eq_of_lt hy
  have hz : x.toNat ^^^ y.toNat < 2 ^ 8 := Nat.xor_lt_two_pow hx hy
  show IntKind.u8.wrap ((BitVec.ofInt 8 (x.toNat : Int) ^^^ BitVec.ofInt 8 (y.toNat : Int)).toNat : Int) = _
  simp only [BitVec.ofInt_natCast, BitVec.toNat_xor, BitVec.toNat_ofNat, ha', hb']
  exact IntWalk.u8_in _ (by omega)

section
variable {P : Program} {F : Fence} {nF : Nat}
theorem wpListIn_load_row {ops : Array Oper} {rest : List Oper} {o : Oper} {a : Act} {w : World} {Q : Exit → Act → World → Prop} (hgd : o.guard = none) (ty : TypeId) (x : Operand) (ho : o.op = .load ty x)
    (g : Nat) (hx : a.eval x = .pointer (some ⟨g, 0, none⟩)) (t : TypeId) (cs : Array Value) (fr : Nat × Nat) (d : TypeDesc) (hg : w.heap[g]? = some (.cells cs t fr))
    (hu : P.underlying ty = some d) (hd : (match d with | .struct _ | .array _ _ => true | _ => false) = true) (hi : (P.info? ty).map (·.size) = some cs.size)
    (h : wpListIn F nF P ops Q rest (a.put o.dst (.agg cs)) w) : wpListIn F nF P ops Q (o :: rest) a w := by
  refine wpListIn_plain hgd fun K' hK' => ?_
  unfold Oper.wpIn
  refine ⟨by simp [Oper.about, ho], ?_⟩
  rw [Oper.semAt_plain F _ _ (by rw [ho]; intro c hc'; cases hc')]
  simp only [execOp, ho, hx, Instr.loadAt, Instr.sureAddr, Sem.run_bind, Sem.run_pure, Result.andThen_ok, run_loadVar_row w g t ty cs fr d hg hu hd hi]
  exact hK' _ _ h
end
theorem own_set {w : World} {B : Nat} {e : TypeId} {g cap n : Nat} {xs : List Value} (h : w.ownsRow B e 1 (.slice (some ⟨g, 0, none⟩) n cap) n xs) (i : Nat) (hi : i < n) (x : Value) :
    (w.setCell ⟨g, i, none⟩ x).ownsRow B e 1 (.slice (some ⟨g, 0, none⟩) n cap) n (xs.set i x) := by
  refine ⟨by simpa using h.1, ?_⟩
  rcases h.2 with ⟨hn, _⟩ | ⟨g', cap', cur, hv, hb, hg, hnc, hcm, hsz, htk⟩
  · cases hn
  · obtain ⟨rfl, rfl⟩ : g = g' ∧ cap = cap' := by simpa using hv
    have hl := (Array.getElem?_eq_some_iff.1 hg).1
    have h' : w.heap[g] = _ := (Array.getElem?_eq_some_iff.1 hg).2
    refine .inr ⟨g, cap, cur.setIfInBounds i x, rfl, hb, ?_, hnc, hcm, by simpa using hsz, ?_⟩
    · show (w.heap.modify g _)[g]? = _
      rw [Array.getElem?_modify]
      simp [hl, h']
    · rw [Array.toList_setIfInBounds, List.take_set, htk]
theorem own_cell {w : World} {B : Nat} {g cap n : Nat} {l : List (BitVec 8)} (h : w.ownsRow B 5 1 (.slice (some ⟨g, 0, none⟩) n cap) n (l.map v8)) (i : Nat) (hi : i < n) :
    w.cell? ⟨g, i, none⟩ = some (.int .u8 (l.getD i 0).toNat) ∧ w.frozen? ⟨g, i, none⟩ = false := by
  rcases h.2 with ⟨hn, _⟩ | ⟨g', cap', cur, hv, hb, hg, hnc, hcm, hsz, htk⟩
  · cases hn
  · obtain ⟨rfl, rfl⟩ : g = g' ∧ cap = cap' := by simpa using hv
    have hll : l.length = n := by simpa using h.1
    have h1 : (cur.toList.take (n * 1))[i]? = (l.map v8)[i]? := by rw [htk]
    have hin : i < l.length := by omega
    simp only [World.cell?, World.frozen?, hg]
    rw [List.getElem?_take, if_pos (by omega)] at h1
    simp [hin] at h1
    simp [h1, v8, List.getD, hin]

theorem own_other {w : World} {B n : Nat} {e : TypeId} {v : Value} {xs : List Value} (h : w.ownsRow B e 1 v n xs) (k : Nat) (hk : some k ≠ v.ownBlock) (x : Value) : (w.setCell ⟨k, 0, none⟩ x).ownsRow B e 1 v n xs := by
  refine ⟨h.1, ?_⟩
  rcases h.2 with hn | ⟨g, cap, cur, rfl, hb, hg, rest⟩
  · exact .inl hn
  · exact .inr ⟨g, cap, cur, rfl, hb, (Below.heap_setCell _ _ _ _ (show g ≠ k from fun e => hk (by rw [← e]; rfl))).trans hg, rest⟩
theorem own_below {w w' : World} {B n m : Nat} {e : TypeId} {v : Value} {xs : List Value} (h : w.ownsRow B e 1 v n xs) (hB : Below m w w') (hm : ∀ j, v.ownBlock = some j → j < m) : w'.ownsRow B e 1 v n xs := by
  refine ⟨h.1, ?_⟩
  rcases h.2 with hn | ⟨g, cap, cur, rfl, hb, hg, rest⟩
  · exact .inl hn
  · exact .inr ⟨g, cap, cur, rfl, hb, (hB.block _ (hm g rfl)).trans hg, rest⟩
theorem range_pre {pre : List Nat} {x n : Nat} (h : pre ++ [x] <+: List.range n) : x = pre.length ∧ pre.length < n := by
  have hl : pre.length < n := by have := h.length_le; simp at this; omega
  refine ⟨?_, hl⟩
  obtain ⟨t, ht⟩ := h
  have h1 := congrArg (fun m => m[pre.length]?) ht
  simp [hl] at h1
  exact h1
theorem stable_row {β : Type} (B0 base : Nat) (e : TypeId) (size : Nat) (v : Value) (n : β → Nat) (f : β → List Value) :
    Stable B0 (fun s Ψ W => W.ownsRow base e size v (n s) (f s) ∧ ∀ j, v.ownBlock = some j → ¬ Ψ j) := by
  rintro s Ψ Ψ' A B ⟨hr, hp⟩ ht h1 h2
  have n2 : ∀ j, v.ownBlock = some j → ¬ Ψ' j := fun j hj h => by
    rcases h2 _ h with h | h
    · exact hp j hj h
    · have := (hr.lt j hj).2; omega
  exact ⟨ht.row hr n2, n2⟩
theorem stable_cells {β : Type} (B0 b : Nat) (C : Array Value) (t : TypeId) (fr : Nat × Nat) : Stable B0 (fun (_ : β) Ψ W => W.heap[b]? = some (.cells C t fr) ∧ ¬ Ψ b) := by
  rintro s Ψ Ψ' A B ⟨hv, hb⟩ ht h1 h2
  have n1 : ¬ Ψ' b := fun h => by rcases h2 _ h with h | h; exact hb h; have := (Array.getElem?_eq_some_iff.1 hv).1; omega
  exact ⟨ht.cells hv n1, n1⟩

theorem stream_bad (kc nc : Array Value) (p : Option Addr) (n c : Nat) (hn : 65536 < n) (w : World) :
    Calls Tryd.prog 14 #[.agg kc, .agg nc, .slice p n c] w fun e w' => e = .returned (.tuple #[.slice none 0 0, .int .i64 60]) ∧ Below w.heap.size w w' := by
  have hB : Below w.heap.size w ((w.alloc (.cells kc 23)).alloc (.cells nc 25)) :=
    ⟨rfl, rfl, rfl, by simp; omega, fun k hk => by rw [Below.heap_alloc _ _ _ (by simp; omega), Below.heap_alloc _ _ _ hk]⟩
  have HB := Lib.hid hB
  have h1 : decide ((65536 : Int) < (n : Int)) = true := by simp; omega
  clear hB
  go_enter Tryd.func14, Tryd.ntmps14
  go_wp2
  go_ret2
  exact ⟨rfl, HB.out⟩

theorem clone_zero (ad : Addr) (c : Nat) (w : World) :
    Calls Tryd.prog 23 #[.slice (some ad) 0 c] w fun e w' => ∃ v, e = .returned v ∧ w'.ownsRow w.heap.size 5 1 v 0 [] ∧ Below w.heap.size w w' := by
  have q22 : ∀ (w : World) (a : Option Addr) (n c n' c' : Nat), (binOp .eql 28 (.slice a n c) (.slice none n' c')).run Tryd.prog w = .ok (.bool a.isNone) w := fun w a n c n' c' => Lib.run_eql_slice_nil w _ _ a n c n' c' Tryd.underlying28
  obtain ⟨i0, hi0, hz0, hz1, hz2⟩ := info_parts info_u8
  have hown0 : (w.alloc (.cells #[] 5)).ownsRow w.heap.size 5 1 (.slice (some ⟨w.heap.size, 0, none⟩) 0 0) 0 [] :=
    ⟨rfl, .inr ⟨w.heap.size, 0, #[], rfl, Nat.le_refl _, World.alloc_heap_new w _, Nat.le_refl _, by unfold maxLen; omega, rfl, rfl⟩⟩
  have HOW := Lib.hid hown0
  clear hown0
  go_enter Tryd.func23, Tryd.ntmps23
  go_wp2_with (at_builtin; refine wpList_append_own _ rfl _ _ 28 rfl w.heap.size 5 i0 (.int .u8 0) 1 1 Tryd.underlying28 hi0 hz0 hz1 hz2 rfl (by decide) _ _ _ rfl HOW.out ad 0 c [] rfl rfl (fun j u h => (by cases h)) (fun u h => (by cases h)) (by unfold maxLen; omega) (by omega) (by simp) ?_; intro v' w1 hown' hgrow _)
  go_ret
  refine ⟨v', rfl, by simpa using hown', ?_⟩
  exact Below.grown (w := w.alloc (.cells #[] 5)) ⟨rfl, rfl, rfl, by simp, fun k hk => Below.heap_alloc _ _ _ hk⟩ hgrow (by simp) (fun k e => (HOW.out.lt k e).1)
/-- What an owned row of bytes is as a value. -/
theorem own_form {w : World} {B n : Nat} {v : Value} {xs : List Value} (h : w.ownsRow B 5 1 v n xs) :
    ∃ p c, v = .slice p n c ∧ n ≤ c ∧ (0 < n → ∃ g, p = some ⟨g, 0, none⟩ ∧ B ≤ g ∧ g < w.heap.size) := by
  rcases h.2 with ⟨rfl, hn⟩ | ⟨g, cap, cur, rfl, hb, hg, hnc, hcm, hsz, htk⟩
  · exact ⟨none, 0, by rw [hn], by omega, fun h => by omega⟩
  · exact ⟨_, cap, rfl, hnc, fun _ => ⟨g, rfl, hb, (Array.getElem?_eq_some_iff.1 hg).1⟩⟩
theorem clone_any (v : Value) (l : List (BitVec 8)) (hl : l.length ≤ 1000000) (w : World) (h : BytesAt w v l) :
    Calls Tryd.prog 23 #[v] w fun e w' => ∃ p c, e = .returned (.slice p l.length c) ∧ Hid (w'.ownsRow w.heap.size 5 1 (.slice p l.length c) l.length (l.map v8)) ∧ Below w.heap.size w w' ∧ l.length ≤ c ∧
      Hid (0 < l.length → ∃ g, p = some ⟨g, 0, none⟩ ∧ w.heap.size ≤ g ∧ g < w'.heap.size) := by
  have fin : ∀ (e : Ending) (w' : World), (∃ v, e = .returned v ∧ w'.ownsRow w.heap.size 5 1 v l.length (l.map v8) ∧ Below w.heap.size w w') → ∃ p c, e = .returned (.slice p l.length c) ∧ Hid (w'.ownsRow w.heap.size 5 1 (.slice p l.length c) l.length (l.map v8)) ∧ Below w.heap.size w w' ∧ l.length ≤ c ∧
      Hid (0 < l.length → ∃ g, p = some ⟨g, 0, none⟩ ∧ w.heap.size ≤ g ∧ g < w'.heap.size) := by
    rintro e w' ⟨v, rfl, hown, hB⟩
    obtain ⟨p, c, rfl, h1, h2⟩ := own_form hown
    exact ⟨p, c, rfl, hown, hB, h1, h2⟩
  obtain ⟨p, c, rfl, hc, hp, hcell⟩ := h
  rcases Nat.eq_zero_or_pos l.length with h0 | h0
  · obtain rfl : l = [] := List.eq_nil_of_length_eq_zero h0
    cases p with
    | none =>
      obtain rfl := hp rfl
      exact (clone_nil w).mono fun e w' ⟨h1, h2⟩ => fin e w' ⟨_, h1, World.ownsRow_nil _ _ _ _, h2 ▸ Below.refl _ _⟩
    | some ad => exact (clone_zero ad c w).mono fin
  · obtain ⟨g, o, rfl, hg⟩ := hcell h0
    exact (clone_ok g o c l hl w hg).mono fin

theorem stream_ok (kb nb l : List (BitVec 8)) (v : Value) (w : World) (hk : kb.length = 32) (hn : nb.length = 12) (hl : l.length ≤ 65536) (hv : BytesAt w v l) (hT : ConstTab w) :
    Calls Tryd.prog 14 #[.agg (kb.map v8).toArray, .agg (nb.map v8).toArray, v] w fun e w' =>
      ∃ u, e = .returned (.tuple #[u, .int .i64 0]) ∧ w'.ownsRow w.heap.size 5 1 u l.length ((streamL kb nb l).map v8) ∧ Below w.heap.size w w' := by
  have hks : (kb.map v8).toArray.size = 32 := by simp [hk]
  have hns : (nb.map v8).toArray.size = 12 := by simp [hn]
  have hF := fun c w h => block_ok kb nb c w hk hn h
  generalize hkc : (kb.map v8).toArray = kc at hks hF ⊢
  generalize hnc : (nb.map v8).toArray = nc at hns hF ⊢
  have hB : Below w.heap.size w ((w.alloc (.cells kc 23)).alloc (.cells nc 25)) :=
    ⟨rfl, rfl, rfl, by simp; omega, fun k hk => by rw [Below.heap_alloc _ _ _ (by simp; omega), Below.heap_alloc _ _ _ hk]⟩
  have HB := Lib.hid hB
  have HF := Lib.hid hF
  have HV := Lib.hid hv
  have HT := Lib.hid hT
  have HKS := Lib.hid hks
  have HNS := Lib.hid hns
  obtain ⟨pv, cv, rfl, -, -, -⟩ := hv
  have h1 : decide ((65536 : Int) < (l.length : Int)) = false := by simp; omega
  clear hF hT hkc hnc hks hns hB
  refine (callsIn_wide (n := 0)).1 ?_
  refine callsIn_of_wp_marks Tryd.func14 rfl trivial ?_ rfl
  simp only [Tryd.ntmps14, List.size_toArray, List.length_cons, List.length_nil, Nat.reduceAdd, Nat.reduceSub, Array.replicate_succ, Array.replicate_zero, List.push_toArray, List.append_toArray, List.nil_append, List.cons_append]
  gi_wp2_with fail
  refine ⟨trivial, rfl, (callsIn_wide.2 (clone_any _ l (by omega) _ (HV.out.below HB.out))).mono ?_⟩
  rintro e w1 ⟨p, c, rfl, HOWN, hB1, hpc, HPG⟩
  have HB1 := Lib.hid hB1
  clear hB1
  gi_wp2_with fail
  refine ⟨trivial, rfl, (callsIn_wide.2 (chunk_any p l.length c _)).mono ?_⟩
  rintro e w' ⟨rfl, rfl⟩
  gi_wp2_with fail
  have hB3 : Below w.heap.size w (((w1.alloc (.cells #[.int .u32 1] 46)).alloc (.cells #[.slice p l.length c] 28)).alloc (.cells #[.int .i64 64] 3)) := by
    have h := HB.out.trans (HB1.out.mono HB.out.size)
    exact ((h.alloc h.size _).alloc (by have := h.size; simp; omega) _).alloc (by have := h.size; simp; omega) _
  have hK3 : (((w1.alloc (.cells #[.int .u32 1] 46)).alloc (.cells #[.slice p l.length c] 28)).alloc (.cells #[.int .i64 64] 3)).heap[w.heap.size]? = some (.cells kc 23 (0, 0)) := by
    have hs := HB1.out.size
    simp at hs
    rw [Below.heap_alloc _ _ _ (by simp; omega), Below.heap_alloc _ _ _ (by simp; omega), Below.heap_alloc _ _ _ (by omega), HB1.out.block _ (by simp; omega)]
    exact (Below.heap_alloc _ _ _ (by simp)).trans (World.alloc_heap_new w _)
  have hN3 : (((w1.alloc (.cells #[.int .u32 1] 46)).alloc (.cells #[.slice p l.length c] 28)).alloc (.cells #[.int .i64 64] 3)).heap[w.heap.size + 1]? = some (.cells nc 25 (0, 0)) := by
    have hs := HB1.out.size
    simp at hs
    rw [Below.heap_alloc _ _ _ (by simp; omega), Below.heap_alloc _ _ _ (by simp; omega), Below.heap_alloc _ _ _ (by omega), HB1.out.block _ (by simp)]
    exact alloc_new2 w _ _
  have hC3 : Boxed (((w1.alloc (.cells #[.int .u32 1] 46)).alloc (.cells #[.slice p l.length c] 28)).alloc (.cells #[.int .i64 64] 3)) w1.heap.size 46 (.int .u32 ((BitVec.ofNat 32 (1 + 0)).toNat : Int)) :=
    ((Boxed.new w1 _ _).alloc _).alloc _
  have hS3 : Boxed (((w1.alloc (.cells #[.int .u32 1] 46)).alloc (.cells #[.slice p l.length c] 28)).alloc (.cells #[.int .i64 64] 3)) (w1.heap.size + 1) 28 (.slice p l.length c) := by
    have := Boxed.new (w1.alloc (.cells #[.int .u32 1] 46)) 28 (.slice p l.length c)
    rw [World.size_alloc] at this
    exact this.alloc _
  have hI3 : Boxed (((w1.alloc (.cells #[.int .u32 1] 46)).alloc (.cells #[.slice p l.length c] 28)).alloc (.cells #[.int .i64 64] 3)) (w1.heap.size + 1 + 1) 3 (.int .i64 64) := by
    have := Boxed.new ((w1.alloc (.cells #[.int .u32 1] 46)).alloc (.cells #[.slice p l.length c] 28)) 3 (.int .i64 64)
    rw [World.size_alloc, World.size_alloc] at this
    exact this
  have hR3 := (((HOWN.out.alloc (.cells #[.int .u32 1] 46)).alloc (.cells #[.slice p l.length c] 28)).alloc (.cells #[.int .i64 64] 3))
  have hsz3 : (((w1.alloc (.cells #[.int .u32 1] 46)).alloc (.cells #[.slice p l.length c] 28)).alloc (.cells #[.int .i64 64] 3)).heap.size = w1.heap.size + 3 := by simp
  have hw1 : w.heap.size + 2 ≤ w1.heap.size := by have hs := HB1.out.size; simp at hs; omega
  have hbo : ((w.alloc (.cells kc 23)).alloc (.cells nc 25)).heap.size = w.heap.size + 2 := by simp
  rw [hbo] at hR3
  obtain ⟨W0, hW0⟩ : ∃ W, W = (((w1.alloc (.cells #[.int .u32 1] 46)).alloc (.cells #[.slice p l.length c] 28)).alloc (.cells #[.int .i64 64] 3)) := ⟨_, rfl⟩
  rw [← hW0] at hB3 hK3 hN3 hC3 hS3 hI3 hR3 hsz3 ⊢
  obtain ⟨CT, hCT⟩ : ∃ CT, CT = w1.heap.size := ⟨_, rfl⟩
  have hpg : 0 < l.length → ∃ g, p = some ⟨g, 0, none⟩ ∧ w.heap.size + 2 ≤ g ∧ g < CT := by rw [hCT, ← hbo]; exact HPG.out
  rw [← hCT] at hC3 hS3 hI3 hsz3 hw1 ⊢
  obtain ⟨CB, hCB, hCBlt⟩ : ∃ CB, (0 < l.length → p = some ⟨CB, 0, none⟩) ∧ (0 < l.length → CB < CT) := by
    rcases Nat.eq_zero_or_pos l.length with h0 | h0
    · exact ⟨0, fun h => by omega, fun h => by omega⟩
    · obtain ⟨g, hg, _, hlt⟩ := hpg h0
      exact ⟨g, fun _ => hg, fun _ => hlt⟩
  have hpb : ∀ j, (Value.slice p l.length c).ownBlock = some j → j < CT := by
    rw [hCT]
    intro j hj
    exact (HOWN.out.lt j hj).2
  have HSZ3 := Lib.hid hsz3
  have HCB := Lib.hid hCB
  have HPB := Lib.hid hpb
  clear hW0 hCT HOWN HB1 HPG hpg hbo hCBlt hCB
  refine rf_law (n := 0) (gf := 34) (lb := #[.pointer (some ⟨CT + 1, 0, none⟩), .pointer (some ⟨CT + 1 + 1, 0, none⟩)]) rfl (enters_of Tryd.func34 (by kernel_rfl) rfl)
    (chunk_iter p l.length c CB HCB.out hpc (by omega) (CT + 1) (CT + 1 + 1) W0 hS3 hI3) (Nat.zero_le _) (fun _ => rfl) (by rintro k (rfl | rfl); exact hS3.lt; exact hI3.lt)
    (fun pre Ψ W => (W.ownsRow (w.heap.size + 2) 5 1 (.slice p l.length c) l.length ((encN kb nb l (min (64 * pre.length) l.length)).map v8) ∧ ∀ j, (Value.slice p l.length c).ownBlock = some j → ¬ Ψ j) ∧
      (Boxed W CT 46 (.int .u32 ((BitVec.ofNat 32 (1 + pre.length)).toNat : Int)) ∧ ¬ Ψ CT) ∧
      (W.heap[w.heap.size]? = some (.cells kc 23 (0, 0)) ∧ ¬ Ψ w.heap.size) ∧ (W.heap[w.heap.size + 1]? = some (.cells nc 25 (0, 0)) ∧ ¬ Ψ (w.heap.size + 1)) ∧
      (Below w.heap.size w W ∧ ∀ k, Ψ k → w.heap.size ≤ k))
    (fun _ _ _ _ => False)
    ((stable_row W0.heap.size (w.heap.size + 2) 5 1 (.slice p l.length c) (fun _ => l.length) (fun pre : List Nat => (encN kb nb l (min (64 * pre.length) l.length)).map v8)).and ((stable_boxed _ _ _ (fun pre : List Nat => .int .u32 ((BitVec.ofNat 32 (1 + pre.length)).toNat : Int))).and
      ((stable_cells _ _ _ _ _).and ((stable_cells _ _ _ _ _).and (stable_below _ _ w (Nat.le_refl _) (by have := HSZ3.out; omega))))))
    (fun _ => stable_pure _ _)
    ⟨⟨by simpa [encN] using hR3, fun j hj => by have := HPB.out j hj; omega⟩, ⟨hC3, by omega⟩, ⟨hK3, by omega⟩, ⟨hN3, by omega⟩, hB3, by rintro k (rfl | rfl) <;> omega⟩
    (fun x a1 _ _ => a1 = { tmps := ((Value.agg kc) :: (Value.agg nc) :: (Value.slice pv l.length cv) :: (Value.pointer (some ⟨w.heap.size, 0, none⟩)) :: (Value.pointer (some ⟨w.heap.size + 1, 0, none⟩)) :: undef :: (Value.slice p l.length c) :: (Value.int .i64 0) :: (Value.pointer (some ⟨CT, 0, none⟩)) :: (Value.slice (some ⟨CB, 64 * x, none⟩) (ckl l.length x) (ckl l.length x)) :: undef :: undef :: (Value.slice pv l.length cv) :: (Value.int .i64 l.length) :: (Value.bool false) :: (Value.slice pv l.length cv) :: (Value.slice p l.length c) :: (Value.slice p l.length c) :: (Value.func (.func 34) #[] #[.pointer (some ⟨CT + 1, 0, none⟩), .pointer (some ⟨CT + 1 + 1, 0, none⟩)]) :: (Value.slice (some ⟨CB, 64 * x, none⟩) (ckl l.length x) (ckl l.length x)) :: undef :: undef :: undef :: undef :: undef :: undef :: undef :: undef :: undef :: undef :: undef :: undef :: undef :: undef :: undef :: undef :: undef :: undef :: undef :: undef :: undef :: undef :: undef :: undef :: []).toArray, defers := [] }) (stable_pure _ _)
    ?assign ?body ?done ?stop
  case assign =>
    intro ll pre x Ψ A K hI _ hK
    gi_wp2
    exact hK _ _ (Below.refl _ _) hI rfl
  case body =>
    rintro ll pre x Ψ a1 A ⟨⟨hrow, hnj⟩, ⟨hC, hnC⟩, ⟨hK, hnK⟩, ⟨hN, hnN⟩, hBA, hΨ⟩ rfl hV hΨl hsz hlr
    obtain ⟨rfl, hjn⟩ := range_pre hV
    obtain ⟨J, hJ⟩ : ∃ J, J = pre.length := ⟨_, rfl⟩
    have hJ1 : (pre ++ [J]).length = J + 1 := by rw [hJ]; simp
    have HJ1 := Lib.hid hJ1
    rw [← hJ] at hrow hC hjn ⊢
    have hL : 64 * J < l.length := by unfold nck at hjn; omega
    obtain rfl : p = some ⟨CB, 0, none⟩ := HCB.out (by omega)
    clear hV hJ hJ1
    obtain ⟨cj, hcj⟩ : ∃ cj, cj = BitVec.ofNat 32 (1 + J) := ⟨_, rfl⟩
    rw [← hcj] at hC
    have HCJ := Lib.hid hcj
    clear hcj
    have hTA : ConstTab A := (Lib.tabBelow_of_tabIs HT.out) _ hBA
    have HTA := Lib.hid hTA
    have HBA := Lib.hid hBA
    have HROW := Lib.hid hrow
    have HNJ := Lib.hid hnj
    have HK := Lib.hid hK
    have HN := Lib.hid hN
    have hc0 := hC.cell
    have HC := Lib.hid hC
    clear hTA hBA hrow hnj hK hN hC
    gi_upto_region 7 with fail
    refine wpIn_region_lit ?_
    refine wpListIn_load_row rfl 23 _ rfl w.heap.size rfl 23 kc (0, 0) _ HK.out Tryd.underlying23 rfl (by rw [HKS.out]; rfl) ?_
    refine wpListIn_load_row rfl 25 _ rfl (w.heap.size + 1) rfl 25 nc (0, 0) _ HN.out Tryd.underlying25 rfl (by rw [HNS.out]; rfl) ?_
    gi_wp2_with fail
    refine ⟨trivial, rfl, CallsIn.inRound ll (callsIn_wide.2 ((HF.out cj A HTA.out).mono ?_))⟩
    rintro e w2 ⟨vb, rfl, hown2, hB2⟩
    obtain ⟨p2, c2, rfl, hc64, hp2⟩ := own_form hown2
    obtain ⟨g2, rfl, hg2, hg2'⟩ := hp2 (by decide)
    have hcells : ∀ m, m < 64 → w2.cell? ⟨g2, m, none⟩ = some (.int .u8 ((chaBlock kb nb cj).getD m 0).toNat) := fun m hm => (own_cell hown2 m hm).1
    have hCBl : CB < A.heap.size := (HROW.out.lt CB rfl).2
    have hCTl : CT < A.heap.size := HC.out.lt
    have hrow2 : w2.ownsRow (w.heap.size + 2) 5 1 (.slice (some ⟨CB, 0, none⟩) l.length c) l.length ((encN kb nb l (64 * J + 0)).map v8) := by
      have h := HROW.out
      rw [Nat.min_eq_left (by omega)] at h
      exact own_below h hB2 (by intro j hj; exact (HROW.out.lt j hj).2)
    have hC2 : Boxed w2 CT 46 (.int .u32 (cj.toNat : Int)) := (hB2.block _ hCTl).trans HC.out
    have HCELLS := Lib.hid hcells
    have HROW2 := Lib.hid hrow2
    have HC2 := Lib.hid hC2
    have HB2 := Lib.hid hB2
    have he1 : 1 ≤ ckl l.length J := by unfold ckl; omega
    have he2 : ckl l.length J ≤ 64 := by unfold ckl; omega
    have he3 : 64 * J + ckl l.length J = min (64 * (J + 1)) l.length := by unfold ckl; omega
    have he4 : 64 * J + ckl l.length J ≤ l.length := by unfold ckl; omega
    have HE3 := Lib.hid he3
    have hBo : CB < w2.heap.size := by omega
    clear he3 hcells hrow2 hC2 hB2 hown2 hc0
    generalize ckl l.length J = E at he1 he2 HE3 he4 ⊢
    have hst : ∀ W, (Instr.sliceAt 28 (.slice (some ⟨g2, 0, none⟩) 64 c2) none (some (.int .i64 (E : Int))) none).run Tryd.prog W = .ok (.slice (some ⟨g2, 0, none⟩) E c2) W :=
      slice_to (P := Tryd.prog) 28 5 Tryd.underlying28 size5 g2 0 64 c2 E (by omega) (by omega)
    gi_wp2_with fail
    clear hst
    gi_loopw [28] (fun t' wx => ∃ m : Nat, t' = .int .i64 m ∧ m ≤ E ∧ Hid (wx.ownsRow (w.heap.size + 2) 5 1 (.slice (some ⟨CB, 0, none⟩) l.length c) l.length ((encN kb nb l (64 * J + m)).map v8)) ∧ Hid (OnlyAt CB w2 wx)) (fun t' _ => (64 - intOf t').toNat)
    case atStart => exact ⟨0, rfl, by omega, HROW2, OnlyAt.refl _ _⟩
    case round =>
      obtain ⟨m, rfl, hm, HR, HO⟩ := hrel
      by_cases hlm : m < E
      · have hd : decide ((m : Int) < (E : Int)) = true := by simp; omega
        have hcm : wr.cell? ⟨g2, m, none⟩ = some (.int .u8 ((chaBlock kb nb cj).getD m 0).toNat) := cell_old (HCELLS.out m (by omega)) (HO.out.block _ (by show g2 ≠ CB; omega))
        obtain ⟨hcc, hff⟩ := own_cell HR.out (64 * J + m) (by omega)
        have hen : encN kb nb l (64 * J + (m + 1)) = (encN kb nb l (64 * J + m)).set (64 * J + m) ((encN kb nb l (64 * J + m)).getD (64 * J + m) 0 ^^^ (chaBlock kb nb cj).getD m 0) := by
          show (encN kb nb l (64 * J + m)).set _ (_ ^^^ ksB kb nb (64 * J + m)) = _
          rw [ksB, show (64 * J + m) / 64 = J by omega, show (64 * J + m) % 64 = m by omega, HCJ.out]
          rfl
        generalize (chaBlock kb nb cj).getD m 0 = kx at hcm hen
        generalize (encN kb nb l (64 * J + m)).getD (64 * J + m) 0 = px at hcc hen
        have HEN := Lib.hid hen
        clear hen
        gi_wp2
        go_roundw
        case rel =>
          refine ⟨m + 1, by go_num, by omega, ?_, HO.out.trans (OnlyAt.setCell _ _ _ _)⟩
          have h := own_set HR.out (64 * J + m) (by omega) (.int .u8 (px ^^^ kx).toNat)
          rw [xor8, HEN.out, List.map_set]
          exact h
        case measure => simp [intOf]; omega
      · have hd : decide ((m : Int) < (E : Int)) = false := by simp; omega
        have hmE : m = E := by omega
        have HRE : Hid (wr.ownsRow (w.heap.size + 2) 5 1 (.slice (some ⟨CB, 0, none⟩) l.length c) l.length ((encN kb nb l (min (64 * (J + 1)) l.length)).map v8)) := by
          have h := HR
          rw [hmE, HE3.out] at h
          exact h
        have hCr : Boxed wr CT 46 (.int .u32 (cj.toNat : Int)) := (HO.out.block _ (by have := HPB.out CB rfl; show CT ≠ CB; omega)).trans HC2.out
        have hcr := hCr.cell
        have hfr := hCr.frozen
        have HCr := Lib.hid hCr
        clear hmE HR hCr
        gi_wp2
        have hsu : ((cj.toNat : Int) + 1) % 4294967296 = ((BitVec.ofNat 32 (1 + (J + 1))).toNat : Int) := by rw [HCJ.out, BitVec.toNat_ofNat, BitVec.toNat_ofNat]; omega
        rw [hsu]
        have hnb : ¬ Ψ CB := HNJ.out CB rfl
        have hblk : ∀ k, k < A.heap.size → k ≠ CB → k ≠ CT → (wr.setCell ⟨CT, 0, none⟩ (.int .u32 ((BitVec.ofNat 32 (1 + (J + 1))).toNat : Int))).heap[k]? = A.heap[k]? := fun k h1 h2 h3 => by
          rw [Below.heap_setCell _ _ _ _ (show k ≠ CT from h3), HO.out.block k h2, HB2.out.block k h1]
        have hsB : A.heap.size ≤ (wr.setCell ⟨CT, 0, none⟩ (.int .u32 ((BitVec.ofNat 32 (1 + (J + 1))).toNat : Int))).heap.size := by
          have h1 := HB2.out.size
          have h2 := HO.out.size
          simp only [World.setCell, Array.size_modify]; omega
        have hCTw := HSZ3.out
        have hCBCT := HPB.out CB rfl
        have hpl := HJ1.out
        have hBe : Below 0 A (wr.setCell ⟨CT, 0, none⟩ (.int .u32 ((BitVec.ofNat 32 (1 + (J + 1))).toNat : Int))) :=
          ((HB2.out.mono (Nat.zero_le _)).trans (HO.out.below (Nat.zero_le _))).setCell (Nat.zero_le _) _
        refine ⟨⟨⟨hsB, fun k o hk hA ho => ?_⟩, hBe, fun k hk => ?_⟩, ⟨?_, HNJ.out⟩, ⟨?_, hnC⟩, ⟨?_, hnK⟩, ⟨?_, hnN⟩, ?_, hΨ⟩
        · exact (hblk k (Array.getElem?_eq_some_iff.1 hA).1 (by omega) (by omega)).trans hA
        · exact hblk k (hΨl k hk) (fun e => hnb (e ▸ hk)) (fun e => hnC (e ▸ hk))
        · show World.ownsRow _ _ _ _ _ _ (List.map v8 (encN kb nb l (min (64 * (pre ++ [J]).length) l.length)))
          rw [hpl]
          exact own_other HRE.out CT (fun e => by
            have h : CB = CT := by simpa [Value.ownBlock] using e.symm
            omega) _
        · show Boxed _ _ _ (.int .u32 ((BitVec.ofNat 32 (1 + (pre ++ [J]).length)).toNat : Int))
          rw [hpl]
          exact HCr.out.set _
        · exact (hblk _ (Array.getElem?_eq_some_iff.1 HK.out).1 (by have := (HROW.out.lt CB rfl).1; omega) (by omega)).trans HK.out
        · exact (hblk _ (Array.getElem?_eq_some_iff.1 HN.out).1 (by have := (HROW.out.lt CB rfl).1; omega) (by omega)).trans HN.out
        · refine HBA.out.trans ⟨hBe.os, hBe.tape, hBe.output, hsB, fun k hk => ?_⟩
          exact hblk k (by have := HBA.out.size; omega) (by have := (HROW.out.lt CB rfl).1; omega) (by omega)
  case done =>
    rintro D xs Ψ W hD rfl ⟨⟨hrow, hnj⟩, ⟨hC, hnC⟩, ⟨hK, hnK⟩, ⟨hN, hnN⟩, hBA, hΨ⟩ hDK
    have hst : encN kb nb l (min (64 * (List.range (nck l.length)).length) l.length) = streamL kb nb l := by
      rw [List.length_range, Nat.min_eq_right (by unfold nck; omega)]; rfl
    rw [hst] at hrow
    have HROW := Lib.hid hrow
    have HBA := Lib.hid hBA
    clear hrow hBA hst
    gi_wp2
    refine ⟨by simp, .inl ⟨_, _, rfl, run_takeDeferred (b := D) (ds := []) hDK, ?_⟩⟩
    refine ⟨.tuple #[.slice p l.length c, .int .i64 0], by simp [results, Tryd.results14, go_sem], _, rfl, ?_, ?_⟩
    · exact own_lower (ownsRow_putObj HROW.out _ hDK rfl) (by omega)
    · exact HBA.out.trans (below_putObj (by have := HSZ3.out; omega))
  case stop =>
    intro D cc pre Ψ W _ _ h
    exact h.elim
end Go.Proofs.YtklaancgnfkjlaaDoor
