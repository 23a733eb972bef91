/- Package keytree: the resolution of a node, its iterator. -/
import Derived.Test.YtekdekchbnacgaaKh
import Derived.Test.YtekdekchbnacgaaKe
import Derived.Test.YtekdekchbnacgaaRh
namespace Go.Proofs.Ytekdekchbnacgaa
open Go.RowKit Go.Shelf
attribute [local go_sem] Oper.semAt_some
set_option maxRecDepth 100000
set_option linter.unusedVariables false
set_option linter.unusedSimpArgs false

/-- The resolution of a node that stands h levels above the leaves. -/
def resL (f : Int → Option Int) : Nat → Nat → List Int
  | 0, n => if (f n).isSome then [(n : Int)] else []
  | h + 1, n => if (f n).isSome then [(n : Int)] else resL f h (2 * n) ++ resL f h (2 * n + 1)
theorem resL_some {f : Int → Option Int} {h n : Nat} (hf : (f n).isSome = true) : resL f h n = [(n : Int)] := by
  cases h <;> simp [resL, hf]
theorem resL_length (f : Int → Option Int) : ∀ h n, (resL f h n).length ≤ 2 ^ h
  | 0, n => by simp only [resL]; split <;> simp
  | h + 1, n => by
    simp only [resL]
    split
    · simp; exact Nat.one_le_two_pow
    · have a := resL_length f h (2 * n)
      have b := resL_length f h (2 * n + 1)
      rw [List.length_append, Nat.pow_succ]; omega

theorem resolution_any (mb : Option Nat) (n : Int) (w : World) :
    Calls Try.prog 37 #[.map mb, .int .i64 n] w fun e w' =>
      e = .returned (.func (.func 59) #[] #[.pointer (some ⟨w.heap.size, 0, none⟩), .pointer (some ⟨w.heap.size + 1, 0, none⟩)]) ∧ w' = (w.alloc (.cells #[.map mb] 59)).alloc (.cells #[.int .i64 n] 3) := by
  go_enter Try.func37, Try.ntmps37
  go_wp2
  go_ret
  exact ⟨rfl, rfl⟩

theorem index2_0 (a b : Int) (w : World) : (Instr.index 81 (.agg #[.int .i64 a, .int .i64 b]) (.int .i64 0)).run Try.prog w = .ok (.int .i64 a) w := by kernel_rfl
theorem index2_1 (a b : Int) (w : World) : (Instr.index 81 (.agg #[.int .i64 a, .int .i64 b]) (.int .i64 1)).run Try.prog w = .ok (.int .i64 b) w := by kernel_rfl
theorem stable_block {β : Type} (B0 b : Nat) (o : Obj) (hb : b < B0) : Stable B0 (fun (_ : β) Ψ W => W.heap[b]? = some o ∧ ¬ Ψ b) := by
  rintro s Ψ Ψ' A B ⟨hv, hb'⟩ ht h1 h2
  have hl := (Array.getElem?_eq_some_iff.1 hv).1
  have n1 : ¬ Ψ' b := fun h => by rcases h2 _ h with h | h; exact hb' h; omega
  refine ⟨?_, n1⟩
  rcases ht.block b hl n1 with h | ⟨h, _⟩
  · exact h.trans hv
  · omega
theorem Stable.later {β : Type} {B0 B1 : Nat} {I : β → (Nat → Prop) → World → Prop} (h : Stable B0 I) (hB : B0 ≤ B1) : Stable B1 I := fun s Ψ Ψ' A B hs ht h1 h2 =>
  h s Ψ Ψ' A B hs ⟨ht.os, ht.tape, ht.output, ht.size, fun k hk hp => by
    rcases ht.block k hk hp with g | ⟨g, g'⟩
    · exact .inl g
    · exact .inr ⟨by omega, g'⟩⟩ h1 h2
theorem stable_kmap {β : Type} {P : Program} {k e : TypeId} {α : Type} (E : EKind P e α) (B0 b n : Nat) (f : Int → Option α) (hb : b < B0) : Stable B0 (fun (_ : β) Ψ W => KMap E k W b n f ∧ ¬ Ψ b) := by
  rintro s Ψ Ψ' A B ⟨hv, hb'⟩ ht h1 h2
  have n1 : ¬ Ψ' b := fun h => by rcases h2 _ h with h | h; exact hb' h; have := hv.lt; omega
  refine ⟨hv.of_block ?_, n1⟩
  rcases ht.block b hv.lt n1 with h | ⟨h, _⟩
  · exact h
  · omega

/-- What stands while a loop over an inner iterator runs: the caller's word, its blocks among them the loop's own two. -/
def Wide {α : Type} (B1 : Nat) (Y : List Nat) (outs : List α) (J : List α → (Nat → Prop) → World → Prop) (pre : List α) (Ψ : Nat → Prop) (W : World) : Prop :=
  ∃ Ψo, J (outs ++ pre) Ψo W ∧ (∀ k, Ψ k → k < W.heap.size → Ψo k) ∧ (∀ k, Ψo k → k < W.heap.size) ∧ (∀ k, k = B1 ∨ k = B1 + 1 → k < W.heap.size → Ψo k) ∧ ∀ k ∈ Y, Ψo k
theorem stable_wide {α : Type} {B0 B1 : Nat} {Y : List Nat} (outs : List α) {J : List α → (Nat → Prop) → World → Prop} (hJ : Stable B0 J) : Stable B0 (Wide B1 Y outs J) := by
  rintro pre Ψ Ψ' A B ⟨Ψo, h1, h2, h3, h4, h5⟩ ht g1 g2
  have hsz := ht.size
  refine ⟨fun k => Ψo k ∨ (A.heap.size ≤ k ∧ k < B.heap.size), ?_, fun k hk hkB => ?_, fun k hk => ?_, fun k hk hkB => ?_, fun k hk => .inl (h5 k hk)⟩
  · refine hJ _ Ψo _ A B h1 ⟨ht.os, ht.tape, ht.output, ht.size, fun k hk hn => ?_⟩ (fun k hk => .inl hk) (fun k hk => hk.imp id (·.1))
    refine ht.block k hk (fun hp => hn (.inl ?_))
    rcases g2 k hp with h | h
    · exact h2 k h hk
    · omega
  · by_cases hkA : k < A.heap.size
    · rcases g2 k hk with h | h
      · exact .inl (h2 k h hkA)
      · omega
    · exact .inr ⟨by omega, hkB⟩
  · rcases hk with h | h
    · have := h3 k h; omega
    · exact h.2
  · by_cases hkA : k < A.heap.size
    · exact .inl (h4 k hk hkA)
    · exact .inr ⟨by omega, hkB⟩
/-- A word of the caller's at its own blocks Y. -/
def Own3 {α : Type} (Y : List Nat) (J : List α → (Nat → Prop) → World → Prop) (outs : List α) (W : World) : Prop :=
  ∃ Ψo, J outs Ψo W ∧ (∀ k, Ψo k → k < W.heap.size) ∧ ∀ k ∈ Y, Ψo k
theorem Own3.wide {α : Type} {B0 B1 : Nat} {Y : List Nat} {J : List α → (Nat → Prop) → World → Prop} {outs : List α} {W0 W1 : World} (h : Own3 Y J outs W0) (hJ : Stable B0 J) {Ψ : Nat → Prop} (ht : Turns B0 Ψ W0 W1) (hΨ : ∀ k, Ψ k → W0.heap.size ≤ k) (hB1 : W1.heap.size ≤ B1) : Wide B1 Y outs J [] Ψ W1 := by
  obtain ⟨Ψo, h1, h2, h3⟩ := h
  have hsz := ht.size
  refine ⟨fun k => Ψo k ∨ (W0.heap.size ≤ k ∧ k < W1.heap.size), ?_, fun k hk hkB => .inr ⟨hΨ k hk, hkB⟩, fun k hk => ?_, fun k hk hkB => by omega, fun k hk => .inl (h3 k hk)⟩
  · rw [List.append_nil]
    refine hJ _ Ψo _ W0 W1 h1 ⟨ht.os, ht.tape, ht.output, ht.size, fun k hk hn => ?_⟩ (fun k hk => .inl hk) (fun k hk => hk.imp id (·.1))
    exact ht.block k hk (fun hp => by have := hΨ k hp; omega)
  · rcases hk with h | h
    · have := h2 k h; omega
    · exact h.2
theorem Wide.own {α : Type} {B1 : Nat} {Y : List Nat} {J : List α → (Nat → Prop) → World → Prop} {outs xs : List α} {Ψ : Nat → Prop} {W : World} (h : Wide B1 Y outs J xs Ψ W) : Own3 Y J (outs ++ xs) W := by
  obtain ⟨Ψo, h1, h2, h3, h4, h5⟩ := h
  exact ⟨Ψo, h1, h3, h5⟩
theorem Own3.turns {α : Type} {B0 : Nat} {Y : List Nat} {J : List α → (Nat → Prop) → World → Prop} {outs : List α} {W0 W1 : World} (h : Own3 Y J outs W0) (hJ : Stable B0 J) (ht : Turns B0 (fun _ => False) W0 W1) : Own3 Y J outs W1 := by
  obtain ⟨Ψo, h1, h2, h3⟩ := h
  have hsz := ht.size
  exact ⟨Ψo, hJ.keep h1 ⟨ht.os, ht.tape, ht.output, ht.size, fun k hk _ => ht.block k hk (fun h => h)⟩, fun k hk => by have := h2 k hk; omega, h3⟩

/-- The iterator of a resolution at the boxes Bm (the map) and Bn (the node). -/
def ResC (f : Int → Option Int) (b nn : Nat) (h n : Nat) : Prop :=
  ∀ (Bm Bn n₀ : Nat) (w : World), KMap (intK Try.underlying3) 3 w b nn f → b < n₀ → Boxed w Bm 59 (.map (some b)) → Boxed w Bn 3 (.int .i64 (n : Int)) → n₀ ≤ w.heap.size →
    IterC Try.prog 59 #[.pointer (some ⟨Bm, 0, none⟩), .pointer (some ⟨Bn, 0, none⟩)] (fun x : Int => #[.int .i64 x]) (fun k => k = Bm ∨ k = Bn) n₀ (fun xs => xs = resL f h n) (fun _ => True) (fun ys => ys <+: resL f h n) w

set_option maxHeartbeats 1000000 in
theorem res_step (f : Int → Option Int) (b nn h n : Nat) (h1 : 512 ≤ n * 2 ^ h) (h2 : n * 2 ^ h < 1024) (hn0 : 1 ≤ n) (hn1 : n < 1024) (hz : n < 512 → ∃ h', h = h' + 1 ∧ ResC f b nn h' (2 * n) ∧ ResC f b nn h' (2 * n + 1)) (hz2 : 512 ≤ n → h = 0) : ResC f b nn h n := by
  intro Bm Bn n₀ w hM hbn hBm hBn hn₀ l J Jx W hW hJ hJx hY h0
  have hM1 := hM.of_block (hW.block b hM.lt)
  have hBm1 : Boxed W Bm 59 (.map (some b)) := (hW.block Bm hBm.lt).trans hBm
  have hBn1 : Boxed W Bn 3 (.int .i64 (n : Int)) := (hW.block Bn hBn.lt).trans hBn
  clear hM hBm hBn
  have cm := (hBm1.alloc (.cells #[.func (.yield l) #[] #[]] 70)).cell
  have cn := (hBn1.alloc (.cells #[.func (.yield l) #[] #[]] 70)).cell
  have hI : I64 (n : Int) := I64.of (by omega)
  have hlk := (hM1.alloc (.cells #[.func (.yield l) #[] #[]] 70)).look Try.underlying3 Try.underlying59 (zero_int _) hI true
  rcases Option.eq_none_or_eq_some (f n) with hf | ⟨p, hf⟩
  · rw [hf] at hlk
    have hlk1 : (Instr.lookup 59 (.map (some b)) (.int .i64 (n : Int)) true).run Try.prog (W.alloc (.cells #[.func (.yield l) #[] #[]] 70)) = .ok (.tuple #[.int .i64 0, .bool false]) (W.alloc (.cells #[.func (.yield l) #[] #[]] 70)) := hlk
    clear hlk
    have HF := Lib.hid hf
    have HJ := Lib.hid hJ
    have HJX := Lib.hid hJx
    have HY := Lib.hid hY
    have HM := Lib.hid hM1
    have H0 := Lib.hid h0
    clear hf hJ hJx hY hM1 h0
    by_cases h5 : 512 ≤ n
    · have hd : decide ((512 : Int) ≤ (n : Int)) = true := by simp; omega
      have hd' : decide (512 ≤ n) = true := by simp; omega
      obtain rfl := hz2 h5
      have HR : Hid (resL f 0 n = []) := Lib.hid (by simp [resL, HF.out])
      clear hz hz2
      refine (callsIn_wide (n := 0)).1 ?_
      refine callsIn_of_wp Try.func59 rfl trivial ?_ rfl
      simp only [Try.ntmps59, List.size_toArray, List.length_cons, List.length_nil, Nat.reduceAdd, Nat.reduceSub, Array.replicate_succ, Array.replicate_zero, List.push_toArray, List.append_toArray, List.nil_append, List.cons_append]
      gi_wp2
      refine bodyPost_ret (results_none rfl _ _ _) rfl ?_
      rw [HR.out]
      exact ⟨⟨_, rfl⟩, .inl ⟨_, HJ.out.keep H0.out (Turns.alloc _ _ _ _)⟩⟩
    · have hd : decide ((512 : Int) ≤ (n : Int)) = false := by simp; omega
      have hd' : decide (512 ≤ n) = false := by simp; omega
      obtain ⟨h', rfl, hc1, hc2⟩ := hz (by omega)
      refine (callsIn_wide (n := 0)).1 ?_
      refine callsIn_of_wp_marks Try.func59 rfl trivial ?_ rfl
      simp only [Try.ntmps59, List.size_toArray, List.length_cons, List.length_nil, Nat.reduceAdd, Nat.reduceSub, Array.replicate_succ, Array.replicate_zero, List.push_toArray, List.append_toArray, List.nil_append, List.cons_append]
      gi_wp2_with fail
      have HRES : Hid (resL f (h' + 1) n = resL f h' (2 * n) ++ resL f h' (2 * n + 1)) := Lib.hid (by simp [resL, HF.out])
      have hch : ∀ k, k < 2 → ResC f b nn h' (2 * n + k) := fun k hk => by
        rcases (show k = 0 ∨ k = 1 by omega) with rfl | rfl
        · exact hc1
        · exact hc2
      have HCH := Lib.hid hch
      obtain ⟨W1, hW1⟩ : ∃ W1, W1 = W.alloc (.cells #[.func (.yield l) #[] #[]] 70) := ⟨_, rfl⟩
      obtain ⟨Y0, hY0⟩ : ∃ Y0, Y0 = W.heap.size := ⟨_, rfl⟩
      have bm : Boxed W1 Bm 59 (.map (some b)) := by rw [hW1]; exact hBm1.alloc _
      have bn : Boxed W1 Bn 3 (.int .i64 (n : Int)) := by rw [hW1]; exact hBn1.alloc _
      have by0 : Boxed W1 Y0 70 (.func (.yield l) #[] #[]) := by rw [hW1, hY0]; exact Boxed.new _ _ _
      have km : KMap (intK Try.underlying3) 3 W1 b nn f := by rw [hW1]; exact HM.out.alloc _
      have hbW : b < W.heap.size := HM.out.lt
      have hwW : w.heap.size ≤ W.heap.size := hW.size
      have hs1 : W.heap.size + 1 ≤ W1.heap.size := by rw [hW1]; simp
      have ho : Own3 [Bm, Bn, Y0] J [] W1 := by
        have hs := (Turns.alloc W.heap.size (fun k => k = Bm ∨ k = Bn ∨ k = Y0) W (.cells #[.func (.yield l) #[] #[]] 70))
        rw [← hW1] at hs
        refine ⟨fun k => k = Bm ∨ k = Bn ∨ k = Y0, HJ.out _ _ _ W W1 H0.out hs (fun k hk => by rcases hk with h | h <;> simp [h]) (fun k hk => ?_), fun k hk => ?_, by simp⟩
        · rcases hk with h | h | h
          · exact .inl (.inl h)
          · exact .inl (.inr h)
          · exact .inr (by omega)
        · have e1 := bm.lt; have e2 := bn.lt; have e3 := by0.lt
          rcases hk with rfl | rfl | rfl <;> assumption
      rw [← hW1, ← hY0]
      have HO := Lib.hid ho
      have HKM := Lib.hid km
      have hYW : W.heap.size ≤ Y0 := by omega
      clear hlk1 cm cn hW1 hc1 hc2 hch hz hz2 H0 HM hBm1 hBn1 ho km hY0
      refine wpIn_loop_rounds 3 ?_
      rw [roundsIn_succ]
      have cm := bm.cell
      have hix := fun W => index2_0 (2 * (n : Int)) (2 * (n : Int) + 1) W
      gi_wp2_with fail
      refine ⟨trivial, rfl, (callsIn_wide.2 (resolution_any _ _ _)).mono ?_⟩
      rintro e w' ⟨rfl, rfl⟩
      gi_wp2_with fail
      obtain ⟨V0, hV0⟩ : ∃ V, V = (W1.alloc (.cells #[.map (some b)] 59)).alloc (.cells #[.int .i64 (2 * (n : Int))] 3) := ⟨_, rfl⟩
      have cbm : Boxed V0 W1.heap.size 59 (.map (some b)) := by rw [hV0]; exact (Boxed.new W1 _ _).alloc _
      have ech : ((2 * n : Nat) : Int) = 2 * (n : Int) := by simp
      have cbn : Boxed V0 (W1.heap.size + 1) 3 (.int .i64 ((2 * n : Nat) : Int)) := by
        have h := Boxed.new (W1.alloc (.cells #[.map (some b)] 59)) 3 (.int .i64 (2 * (n : Int)))
        rw [World.size_alloc] at h
        rw [ech, hV0]; exact h
      have hsz1 : W1.heap.size + 2 = V0.heap.size := by rw [hV0]; simp
      have htu : Turns W.heap.size (fun k => k = W1.heap.size ∨ k = W1.heap.size + 1) W1 V0 := by
        rw [hV0]
        refine ⟨rfl, rfl, rfl, by simp; omega, fun k hk _ => .inl ?_⟩
        rw [Below.heap_alloc _ _ _ (by simp; omega), Below.heap_alloc _ _ _ hk]
      have hBl : Below W1.heap.size W1 V0 := by rw [hV0]; exact ((Below.refl _ W1).alloc (Nat.le_refl _) _).alloc (by simp) _
      have hwd : Wide V0.heap.size [Bm, Bn, Y0] [] J [] (fun k => k = W1.heap.size ∨ k = W1.heap.size + 1) V0 := HO.out.wide HJ.out htu (by rintro k (rfl | rfl) <;> omega) (Nat.le_refl _)
      have hbm0 : Boxed V0 Bm 59 (.map (some b)) := (hBl.block _ bm.lt).trans bm
      have hbn0 : Boxed V0 Bn 3 (.int .i64 (n : Int)) := (hBl.block _ bn.lt).trans bn
      have hby0 : Boxed V0 Y0 70 (.func (.yield l) #[] #[]) := (hBl.block _ by0.lt).trans by0
      have hkm0 : KMap (intK Try.underlying3) 3 V0 b nn f := HKM.out.below hBl HKM.out.lt
      have hlb := HKM.out.lt
      have hlm := bm.lt
      have hln := bn.lt
      have hly := by0.lt
      have hsz0 : W.heap.size ≤ V0.heap.size := by omega
      have hIC := HCH.out 0 (by decide) W1.heap.size (W1.heap.size + 1) n₀ V0 hkm0 hbn cbm cbn (by omega)
      have HIC := Lib.hid hIC
      rw [← hV0]
      clear hIC ech hV0 htu hBl HO HKM
      refine rf_law2 (n := 0) (gf := 59) (lb := #[.pointer (some ⟨W1.heap.size, 0, none⟩), .pointer (some ⟨W1.heap.size + 1, 0, none⟩)]) rfl (enters_of Try.func59 (by kernel_rfl) rfl)
        HIC.out (by omega) (fun _ => rfl) (by rintro k (rfl | rfl) <;> omega)
        (fun pre Ψ W => Wide V0.heap.size [Bm, Bn, Y0] [] J pre Ψ W ∧ (Boxed W Bm 59 (.map (some b)) ∧ ¬ Ψ Bm) ∧ (Boxed W Bn 3 (.int .i64 (n : Int)) ∧ ¬ Ψ Bn) ∧ (Boxed W Y0 70 (.func (.yield l) #[] #[]) ∧ ¬ Ψ Y0) ∧ (KMap (intK Try.underlying3) 3 W b nn f ∧ ¬ Ψ b))
        (fun c pre Ψ W => c = .ret ∧ Wide V0.heap.size [Bm, Bn, Y0] [] Jx pre Ψ W)
        ((stable_wide [] (HJ.out.later hsz0)).and ((stable_boxed _ _ _ (fun _ => _)).and ((stable_boxed _ _ _ (fun _ => _)).and ((stable_boxed _ _ _ (fun _ => _)).and (stable_kmap _ _ _ _ _ (by omega))))))
        (fun c => (stable_pure _ _).and (stable_wide [] (HJX.out.later hsz0)))
        ⟨hwd, ⟨hbm0, by omega⟩, ⟨hbn0, by omega⟩, ⟨hby0, by omega⟩, ⟨hkm0, by omega⟩⟩
        (fun x a1 _ _ => a1 = { tmps := #[.func (.yield l) #[] #[], .pointer (some ⟨Bm, 0, none⟩), .pointer (some ⟨Bn, 0, none⟩), .pointer (some ⟨Y0, 0, none⟩), .int .i64 0, .bool false, undef, .int .i64 (2 * (n : Int)), .int .i64 x, .tuple #[.int .i64 0, .bool false], .map (some b), .int .i64 (n : Int), .tuple #[.int .i64 0, .bool false], .int .i64 0, .bool false, .bool false, undef, undef, undef, .int .i64 (n : Int), .bool false, .int .i64 (n : Int), .int .i64 (2 * (n : Int)), .int .i64 (n : Int), .int .i64 (2 * (n : Int)), .int .i64 (2 * (n : Int) + 1), .agg #[.int .i64 (2 * (n : Int)), .int .i64 (2 * (n : Int) + 1)], .int .i64 0, .bool true, .int .i64 (2 * (n : Int)), .map (some b), .int .i64 (2 * (n : Int)), .func (.func 59) #[] #[.pointer (some ⟨W1.heap.size, 0, none⟩), .pointer (some ⟨W1.heap.size + 1, 0, none⟩)], .int .i64 x, undef, undef, undef, undef, undef], defers := [] }) (stable_pure _ _)
        ?assign0 ?body0 ?done0 ?stop0
      case assign0 =>
        intro l2 pre x Ψ A K hI _ hK
        gi_wp2
        exact hK _ _ (Below.refl _ _) hI rfl
      case body0 =>
        rintro l2 pre x Ψ a1 A ⟨hWd, ⟨bm', nm⟩, ⟨bn', nn'⟩, ⟨by', ny⟩, ⟨km', nk⟩⟩ rfl hV hΨl hszA hlr
        obtain ⟨Ψo, g1, g2, g3, g4, g5⟩ := hWd
        obtain ⟨fn, tmps, assign, body, hy, hR⟩ := HY.out ([] ++ pre) x Ψo A g1 g3 (by rw [HRES.out]; rw [List.nil_append]; exact hV.trans (List.prefix_append _ _))
        have cy := by'.cell
        have HG2 := Lib.hid g2
        have HG3 := Lib.hid g3
        have HG4 := Lib.hid g4
        have HG5 := Lib.hid g5
        have HPL := Lib.hid hΨl
        clear g1 g2 g3 g4 g5 hΨl hV hlr
        gi_wp2
        refine ⟨rfl, RoundIn.mono hR ?_⟩
        rintro e W3 (⟨rfl, hJ3, hB3, hk3⟩ | ⟨rfl, hJx3, hB3, hk3⟩)
        · have hszB := hB3.size
          have HK3 := Lib.hid hk3
          have HB3 := Lib.hid hB3
          clear hk3 hB3 hR hy cy
          gi_wp2
          refine ⟨⟨⟨HK3.out _ (HG4.out _ (.inl rfl) (by omega)), HK3.out _ (HG4.out _ (.inr rfl) (by omega))⟩, HB3.out, fun k hk => HK3.out k (HG2.out k hk (HPL.out k hk))⟩,
            ⟨Ψo, by rw [← List.append_assoc]; exact hJ3, fun k hk _ => HG2.out k hk (HPL.out k hk), fun k hk => Nat.lt_of_lt_of_le (HG3.out k hk) hszB, fun k hk _ => HG4.out k hk (by omega), HG5.out⟩,
            ⟨(HK3.out _ (HG5.out Bm (by simp))).trans bm', nm⟩, ⟨(HK3.out _ (HG5.out Bn (by simp))).trans bn', nn'⟩, ⟨(HK3.out _ (HG5.out Y0 (by simp))).trans by', ny⟩, ⟨km'.of_block (HB3.out.block b hbn), nk⟩⟩
        · have hszB := hB3.size
          have HK3 := Lib.hid hk3
          have HB3 := Lib.hid hB3
          clear hk3 hB3 hR hy cy
          gi_wp2
          refine ⟨⟨⟨HK3.out _ (HG4.out _ (.inl rfl) (by omega)), HK3.out _ (HG4.out _ (.inr rfl) (by omega))⟩, HB3.out, fun k hk => HK3.out k (HG2.out k hk (HPL.out k hk))⟩, rfl,
            ⟨Ψo, by rw [← List.append_assoc]; exact hJx3, fun k hk _ => HG2.out k hk (HPL.out k hk), fun k hk => Nat.lt_of_lt_of_le (HG3.out k hk) hszB, fun k hk _ => HG4.out k hk (by omega), HG5.out⟩⟩
      case stop0 =>
        rintro D c pre Ψ W4 rfl - ⟨rfl, hWx⟩ hK
        obtain ⟨Ψo, g1, -, -, -, -⟩ := hWx
        gi_wp2
        refine ⟨by simp, .inl ⟨_, _, rfl, run_takeDeferred hK, ?_⟩⟩
        exact ⟨_, results_none rfl _ _ _, ⟨_, rfl⟩, .inr ⟨_, Ψo, trivial, HJX.out.keep g1 (Turns.putObj _ hK rfl (by omega))⟩⟩
      case done0 =>
        rintro D xs Ψ W4 rfl rfl ⟨hWd, ⟨bmc, nm⟩, ⟨bnc, nnc⟩, ⟨byc, ny⟩, ⟨kmc, nk⟩⟩ hK
        gi_wp2_with fail
        obtain ⟨Ψo, g1, g2, g3, g4, g5⟩ := hWd
        have hKl := (Array.getElem?_eq_some_iff.1 hK).1
        obtain ⟨D1, hD1e⟩ : ∃ D1, D1 = V0.heap.size := ⟨_, rfl⟩
        rw [← hD1e] at hK hKl ⊢
        have HO : Hid (Own3 [Bm, Bn, Y0, D1] J (resL f h' (2 * n)) W4) := Lib.hid ⟨Ψo, by simpa using g1, g3, fun k hk => by
          simp only [List.mem_cons, List.not_mem_nil, or_false] at hk
          rcases hk with h | h | h | h
          · exact g5 k (by simp [h])
          · exact g5 k (by simp [h])
          · exact g5 k (by simp [h])
          · exact g4 k (.inl (h.trans hD1e)) (by omega)⟩
        have HD1 := Lib.hid hK
        have HKM := Lib.hid kmc
        have hD1s : W.heap.size ≤ D1 := by omega
        have hD1b : b < D1 := by omega
        have hW4 : W.heap.size ≤ W4.heap.size := by omega
        clear g1 g2 g3 g4 g5 hK bm bn by0 kmc nm nnc ny nk hlb hlm hln hly hwd hbm0 hbn0 hby0 hkm0 cbm cbn HIC hsz1 hsz0 hD1e cm hix
        have bm := bmc
        have bn := bnc
        have by0 := byc
        clear bmc bnc byc
        rw [roundsIn_succ]
        have cm := bm.cell
        have hix := fun W => index2_1 (2 * (n : Int)) (2 * (n : Int) + 1) W
        gi_wp2_with fail
        refine ⟨trivial, rfl, (callsIn_wide.2 (resolution_any _ _ _)).mono ?_⟩
        rintro e w' ⟨rfl, rfl⟩
        gi_wp2_with fail
        obtain ⟨V1, hV1⟩ : ∃ V, V = (W4.alloc (.cells #[.map (some b)] 59)).alloc (.cells #[.int .i64 (2 * (n : Int) + 1)] 3) := ⟨_, rfl⟩
        have cbm : Boxed V1 W4.heap.size 59 (.map (some b)) := by rw [hV1]; exact (Boxed.new W4 _ _).alloc _
        have ech : ((2 * n + 1 : Nat) : Int) = 2 * (n : Int) + 1 := by simp
        have cbn : Boxed V1 (W4.heap.size + 1) 3 (.int .i64 ((2 * n + 1 : Nat) : Int)) := by
          have h := Boxed.new (W4.alloc (.cells #[.map (some b)] 59)) 3 (.int .i64 (2 * (n : Int) + 1))
          rw [World.size_alloc] at h
          rw [ech, hV1]; exact h
        have hsz1 : W4.heap.size + 2 = V1.heap.size := by rw [hV1]; simp
        have htu : Turns W.heap.size (fun k => k = W4.heap.size ∨ k = W4.heap.size + 1) W4 V1 := by
          rw [hV1]
          refine ⟨rfl, rfl, rfl, by simp; omega, fun k hk _ => .inl ?_⟩
          rw [Below.heap_alloc _ _ _ (by simp; omega), Below.heap_alloc _ _ _ hk]
        have hBl : Below W4.heap.size W4 V1 := by rw [hV1]; exact ((Below.refl _ W4).alloc (Nat.le_refl _) _).alloc (by simp) _
        have hwd : Wide V1.heap.size [Bm, Bn, Y0, D1] (resL f h' (2 * n)) J [] (fun k => k = W4.heap.size ∨ k = W4.heap.size + 1) V1 := HO.out.wide HJ.out htu (by rintro k (rfl | rfl) <;> omega) (Nat.le_refl _)
        have hbm0 : Boxed V1 Bm 59 (.map (some b)) := (hBl.block _ bm.lt).trans bm
        have hbn0 : Boxed V1 Bn 3 (.int .i64 (n : Int)) := (hBl.block _ bn.lt).trans bn
        have hby0 : Boxed V1 Y0 70 (.func (.yield l) #[] #[]) := (hBl.block _ by0.lt).trans by0
        have hkm0 : KMap (intK Try.underlying3) 3 V1 b nn f := HKM.out.below hBl HKM.out.lt
        have hlb := HKM.out.lt
        have hlm := bm.lt
        have hln := bn.lt
        have hly := by0.lt
        have hD10 : V1.heap[D1]? = some (.deferred (some [])) := (hBl.block _ (Array.getElem?_eq_some_iff.1 HD1.out).1).trans HD1.out
        have hlD := (Array.getElem?_eq_some_iff.1 HD1.out).1
        have hsz0 : W.heap.size ≤ V1.heap.size := by omega
        have hIC := HCH.out 1 (by decide) W4.heap.size (W4.heap.size + 1) n₀ V1 hkm0 hbn cbm cbn (by omega)
        have HIC := Lib.hid hIC
        rw [← hV1]
        clear hIC ech hV1 htu hBl HO HKM HD1
        refine rf_law2 (n := 0) (gf := 59) (lb := #[.pointer (some ⟨W4.heap.size, 0, none⟩), .pointer (some ⟨W4.heap.size + 1, 0, none⟩)]) rfl (enters_of Try.func59 (by kernel_rfl) rfl)
          HIC.out (by omega) (fun _ => rfl) (by rintro k (rfl | rfl) <;> omega)
          (fun pre Ψ W => Wide V1.heap.size [Bm, Bn, Y0, D1] (resL f h' (2 * n)) J pre Ψ W ∧ (Boxed W Bm 59 (.map (some b)) ∧ ¬ Ψ Bm) ∧ (Boxed W Bn 3 (.int .i64 (n : Int)) ∧ ¬ Ψ Bn) ∧ (Boxed W Y0 70 (.func (.yield l) #[] #[]) ∧ ¬ Ψ Y0) ∧ (KMap (intK Try.underlying3) 3 W b nn f ∧ ¬ Ψ b) ∧ (W.heap[D1]? = some (.deferred (some [])) ∧ ¬ Ψ D1))
          (fun c pre Ψ W => c = .ret ∧ Wide V1.heap.size [Bm, Bn, Y0, D1] (resL f h' (2 * n)) Jx pre Ψ W ∧ (W.heap[D1]? = some (.deferred (some [])) ∧ ¬ Ψ D1))
          ((stable_wide (resL f h' (2 * n)) (HJ.out.later hsz0)).and ((stable_boxed _ _ _ (fun _ => _)).and ((stable_boxed _ _ _ (fun _ => _)).and ((stable_boxed _ _ _ (fun _ => _)).and ((stable_kmap _ _ _ _ _ (by omega)).and (stable_block _ _ _ (by omega)))))))
          (fun c => (stable_pure _ _).and ((stable_wide (resL f h' (2 * n)) (HJX.out.later hsz0)).and (stable_block _ _ _ (by omega))))
          ⟨hwd, ⟨hbm0, by omega⟩, ⟨hbn0, by omega⟩, ⟨hby0, by omega⟩, ⟨hkm0, by omega⟩, hD10, by omega⟩
          (fun x a1 _ _ => a1 = { tmps := #[.func (.yield l) #[] #[], .pointer (some ⟨Bm, 0, none⟩), .pointer (some ⟨Bn, 0, none⟩), .pointer (some ⟨Y0, 0, none⟩), .int .i64 0, .bool false, undef, .int .i64 (2 * (n : Int) + 1), .int .i64 x, .tuple #[.int .i64 0, .bool false], .map (some b), .int .i64 (n : Int), .tuple #[.int .i64 0, .bool false], .int .i64 0, .bool false, .bool false, undef, undef, undef, .int .i64 (n : Int), .bool false, .int .i64 (n : Int), .int .i64 (2 * (n : Int)), .int .i64 (n : Int), .int .i64 (2 * (n : Int)), .int .i64 (2 * (n : Int) + 1), .agg #[.int .i64 (2 * (n : Int)), .int .i64 (2 * (n : Int) + 1)], .int .i64 1, .bool true, .int .i64 (2 * (n : Int) + 1), .map (some b), .int .i64 (2 * (n : Int) + 1), .func (.func 59) #[] #[.pointer (some ⟨W4.heap.size, 0, none⟩), .pointer (some ⟨W4.heap.size + 1, 0, none⟩)], .int .i64 x, undef, undef, undef, undef, .int .i64 1], defers := [] }) (stable_pure _ _)
          ?assign1 ?body1 ?done1 ?stop1
        case assign1 =>
          intro l2 pre x Ψ A K hI _ hK
          gi_wp2
          exact hK _ _ (Below.refl _ _) hI rfl
        case body1 =>
          rintro l2 pre x Ψ a1 A ⟨hWd, ⟨bmb', nm⟩, ⟨bnb', nn'⟩, ⟨byb', ny⟩, ⟨km', nk⟩, hD1, nD1⟩ rfl hV hΨl hszA hlr
          obtain ⟨Ψo, g1, g2, g3, g4, g5⟩ := hWd
          obtain ⟨fn, tmps, assign, body, hy, hR⟩ := HY.out ((resL f h' (2 * n)) ++ pre) x Ψo A g1 g3 (by rw [HRES.out]; rw [List.append_assoc]; exact (List.prefix_append_right_inj _).2 hV)
          have cy := byb'.cell
          have HG2 := Lib.hid g2
          have HG3 := Lib.hid g3
          have HG4 := Lib.hid g4
          have HG5 := Lib.hid g5
          have HPL := Lib.hid hΨl
          clear g1 g2 g3 g4 g5 hΨl hV hlr
          gi_wp2
          refine ⟨rfl, RoundIn.mono hR ?_⟩
          rintro e W3 (⟨rfl, hJ3, hB3, hk3⟩ | ⟨rfl, hJx3, hB3, hk3⟩)
          · have hszB := hB3.size
            have HK3 := Lib.hid hk3
            have HB3 := Lib.hid hB3
            clear hk3 hB3 hR hy cy
            gi_wp2
            refine ⟨⟨⟨HK3.out _ (HG4.out _ (.inl rfl) (by omega)), HK3.out _ (HG4.out _ (.inr rfl) (by omega))⟩, HB3.out, fun k hk => HK3.out k (HG2.out k hk (HPL.out k hk))⟩,
              ⟨Ψo, by rw [← List.append_assoc]; exact hJ3, fun k hk _ => HG2.out k hk (HPL.out k hk), fun k hk => Nat.lt_of_lt_of_le (HG3.out k hk) hszB, fun k hk _ => HG4.out k hk (by omega), HG5.out⟩,
              ⟨(HK3.out _ (HG5.out Bm (by simp))).trans bmb', nm⟩, ⟨(HK3.out _ (HG5.out Bn (by simp))).trans bnb', nn'⟩, ⟨(HK3.out _ (HG5.out Y0 (by simp))).trans byb', ny⟩, ⟨km'.of_block (HB3.out.block b hbn), nk⟩, (HK3.out _ (HG5.out D1 (by simp))).trans hD1, nD1⟩
          · have hszB := hB3.size
            have HK3 := Lib.hid hk3
            have HB3 := Lib.hid hB3
            clear hk3 hB3 hR hy cy
            gi_wp2
            refine ⟨⟨⟨HK3.out _ (HG4.out _ (.inl rfl) (by omega)), HK3.out _ (HG4.out _ (.inr rfl) (by omega))⟩, HB3.out, fun k hk => HK3.out k (HG2.out k hk (HPL.out k hk))⟩, rfl,
              ⟨⟨Ψo, by rw [← List.append_assoc]; exact hJx3, fun k hk _ => HG2.out k hk (HPL.out k hk), fun k hk => Nat.lt_of_lt_of_le (HG3.out k hk) hszB, fun k hk _ => HG4.out k hk (by omega), HG5.out⟩, (HK3.out _ (HG5.out D1 (by simp))).trans hD1, nD1⟩⟩
        case stop1 =>
          rintro D c pre Ψ W5 rfl - ⟨rfl, hWx, hD1, nD1⟩ hK
          obtain ⟨Ψo, g1, -, -, -, -⟩ := hWx
          gi_wp2
          refine ⟨by simp, .inl ⟨_, _, rfl, run_takeDeferred hK, ?_⟩⟩
          have hD2 : (W5.putObj V1.heap.size (.deferred none)).heap[D1]? = some (.deferred (some [])) := (World.putObj_heap_other (by omega)).trans hD1
          refine ⟨by simp, .inl ⟨_, _, rfl, run_takeDeferred hD2, ?_⟩⟩
          exact ⟨_, results_none rfl _ _ _, ⟨_, rfl⟩, .inr ⟨_, Ψo, trivial, HJX.out.keep (HJX.out.keep g1 (Turns.putObj _ hK rfl (by omega))) (Turns.putObj _ hD2 rfl (by omega))⟩⟩
        case done1 =>
          rintro D xs Ψ W5 rfl rfl ⟨hWd, ⟨bmc, nm⟩, ⟨bnc, nn'⟩, ⟨byc, ny⟩, ⟨km', nk⟩, hD1, nD1⟩ hK
          obtain ⟨Ψo, g1, -, -, -, -⟩ := hWd
          gi_wp2_with fail
          rw [roundsIn_succ]
          gi_wp2
          have hD2 : (W5.putObj V1.heap.size (.deferred none)).heap[D1]? = some (.deferred (some [])) := (World.putObj_heap_other (by omega)).trans hD1
          refine ⟨by simp, .inl ⟨_, _, rfl, run_takeDeferred hK, ?_⟩⟩
          refine ⟨by simp, .inl ⟨_, _, rfl, run_takeDeferred hD2, ?_⟩⟩
          exact ⟨_, results_none rfl _ _ _, ⟨_, rfl⟩, .inl ⟨_, Ψo, HRES.out.symm, HJ.out.keep (HJ.out.keep g1 (Turns.putObj _ hK rfl (by omega))) (Turns.putObj _ hD2 rfl (by omega))⟩⟩
  · rw [hf] at hlk
    have hlk1 : (Instr.lookup 59 (.map (some b)) (.int .i64 (n : Int)) true).run Try.prog (W.alloc (.cells #[.func (.yield l) #[] #[]] 70)) = .ok (.tuple #[.int .i64 p, .bool true]) (W.alloc (.cells #[.func (.yield l) #[] #[]] 70)) := hlk
    have hs := resL_some (f := f) (h := h) (n := n) (by rw [hf]; rfl)
    have hj1 : J [] (fun k => k = Bm ∨ k = Bn) (W.alloc (.cells #[.func (.yield l) #[] #[]] 70)) := hJ.keep h0 (Turns.alloc _ _ _ _)
    obtain ⟨fn, tmps, assign, body, hy, hR⟩ := hY [] (n : Int) _ _ hj1 (by rintro k (rfl | rfl); have := hBm1.lt; simp; omega; have := hBn1.lt; simp; omega) (by rw [hs]; exact List.prefix_refl _)
    have HS := Lib.hid hs
    clear hlk hs hz hz2 hM1 hJ hJx hY h0 hf hj1
    refine (callsIn_wide (n := 0)).1 ?_
    refine callsIn_of_wp Try.func59 rfl trivial ?_ rfl
    simp only [Try.ntmps59, List.size_toArray, List.length_cons, List.length_nil, Nat.reduceAdd, Nat.reduceSub, Array.replicate_succ, Array.replicate_zero, List.push_toArray, List.append_toArray, List.nil_append, List.cons_append]
    gi_wp2
    refine ⟨rfl, hR.mono ?_⟩
    rintro e W3 (⟨rfl, hJ3, hB3, hk3⟩ | ⟨rfl, hJx3, hB3, hk3⟩)
    · gi_wp2
      refine bodyPost_ret (results_none rfl _ _ _) rfl ?_
      exact ⟨⟨_, rfl⟩, .inl ⟨_, _, HS.out.symm, hJ3⟩⟩
    · gi_wp2
      refine bodyPost_ret (results_none rfl _ _ _) rfl ?_
      exact ⟨⟨_, rfl⟩, .inr ⟨_, _, trivial, hJx3⟩⟩
/-- The iterator of a resolution, at every node. -/
theorem res_all (f : Int → Option Int) (b nn : Nat) : ∀ h n, 512 ≤ n * 2 ^ h → n * 2 ^ h < 1024 → ResC f b nn h n
  | 0, n, h1, h2 => res_step f b nn 0 n h1 h2 (by omega) (by omega) (fun h => by omega) (fun _ => rfl)
  | h + 1, n, h1, h2 => by
    rw [Nat.pow_succ] at h1 h2
    have e1 : 2 * n * 2 ^ h = n * (2 ^ h * 2) := by rw [Nat.mul_comm 2 n, Nat.mul_assoc, Nat.mul_comm 2]
    have e2 : (2 * n + 1) * 2 ^ h = n * (2 ^ h * 2) + 2 ^ h := by rw [Nat.add_mul, Nat.one_mul, e1]
    have hp : 1 ≤ 2 ^ h := Nat.one_le_two_pow
    have hn1 : 1 ≤ n := by
      rcases Nat.eq_zero_or_pos n with h0 | h0
      · rw [h0] at h1; omega
      · exact h0
    have hpn : 2 ^ h * 2 ≤ n * (2 ^ h * 2) := Nat.le_mul_of_pos_left _ hn1
    have hlt : n < 512 := by
      have : n * 2 ≤ n * (2 ^ h * 2) := Nat.mul_le_mul_left _ (by omega)
      omega
    have hm : n * (2 ^ h * 2) + 2 ^ h < 1024 := by
      -- 1024 is a multiple of what stands h + 1 levels above the leaves
      have : n * (2 ^ h * 2) + (2 ^ h * 2) ≤ 1024 := by
        have hh : h ≤ 9 := by
          rcases Nat.lt_or_ge 9 h with g | g
          · have : 2 ^ 10 ≤ 2 ^ h := Nat.pow_le_pow_right (by decide) g
            omega
          · exact g
        have hdiv : 2 ^ h * 2 ∣ 1024 := by
          rw [← Nat.pow_succ, show 1024 = 2 ^ 10 by decide]
          exact Nat.pow_dvd_pow _ (by omega)
        obtain ⟨q, hq⟩ := hdiv
        rw [hq] at h2 ⊢
        have : n < q := by
          rw [Nat.mul_comm] at h2
          exact Nat.lt_of_mul_lt_mul_left h2
        rw [← Nat.succ_mul, Nat.mul_comm (2 ^ h * 2) q]
        exact Nat.mul_le_mul_right _ this
      omega
    exact res_step f b nn (h + 1) n (by rw [Nat.pow_succ]; exact h1) (by rw [Nat.pow_succ]; exact h2) hn1 (by omega)
      (fun _ => ⟨h, rfl, res_all f b nn h (2 * n) (by rw [e1]; exact h1) (by rw [e1]; exact h2), res_all f b nn h (2 * n + 1) (by rw [e2]; omega) (by rw [e2]; exact hm)⟩) (fun h => by omega)
end Go.Proofs.Ytekdekchbnacgaa
