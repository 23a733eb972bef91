/- Package keytree: blank, change. -/
import Derived.Test.YtekdekchbnacgaaKn
namespace Go.Proofs.Ytekdekchbnacgaa
open Go.RowKit
set_option maxRecDepth 100000
set_option linter.unusedVariables false
set_option linter.unusedSimpArgs false

theorem blank_ok (b n : Nat) (f : Int → Option Int) (z : Int) (hz : I64 z) (w : World) (h : KMap (intK Try.underlying3) 3 w b n f) :
    Calls Try.prog 64 #[.map (some b), .int .i64 z] w fun e w' => e = .returned (.tuple #[]) ∧ KMap (intK Try.underlying3) 3 w' b n (fun y => if y = z then none else f y) ∧ w.mapTurned w' b := by
  have HM := Lib.hid h
  have HZ := Lib.hid hz
  clear h hz
  go_enter Try.func64, Try.ntmps64
  go_wp2_with (refine wpList_del (E := intK Try.underlying3) rfl _ _ 59 rfl Try.underlying3 Try.underlying59 b n f rfl HM.out z rfl HZ.out ?_; intro w1 hm1 ht1)
  go_end0
  exact ⟨rfl, hm1, ht1⟩

/-- The map without the nodes of L. -/
def delF (f : Int → Option Int) (L : List Int) (y : Int) : Option Int := if y ∈ L then none else f y
theorem delF_put (f : Int → Option Int) (L : List Int) (z : Int) : (fun y => if y = z then none else delF f L y) = delF f (L ++ [z]) := by
  funext y
  unfold delF
  by_cases h : y = z
  · simp [h]
  · simp [h]

/-- What change answers: the error. -/
noncomputable def chgE (t : List (Int × Int)) (d : Int) (must : Bool) : Int :=
  if chkT t = 0 then (if d < 0 ∨ 512 ≤ d ∨ (must = true ∧ ofF t (512 + d) = none) then 200 else 0) else chkT t
theorem ret_eq3 {u v : Value} {x y : Int} (h : x = y) : Ending.returned (.tuple #[u, v, .int .i64 y]) = .returned (.tuple #[u, v, .int .i64 x]) := by rw [h]

/-- What change leaves. -/
def ChgP (t : List (Int × Int)) (d : Int) (w : World) (E : Int) (e : Ending) (w' : World) : Prop :=
  Below w.heap.size w w' ∧ (E ≠ 0 → e = .returned (.tuple #[.map none, .slice none 0 0, .int .i64 E])) ∧
  (E = 0 → ∃ b p c, e = .returned (.tuple #[.map (some b), .slice p 9 c, .int .i64 0]) ∧ w.heap.size ≤ b ∧ KMap (intK Try.underlying3) 3 w' b t.length (delF (ofF t) ((512 + d) :: pathZ d)) ∧ w'.ownsRow w.heap.size 3 1 (.slice p 9 c) 9 ((pathZ d).map (Value.int .i64)))
theorem ChgP.bad {t : List (Int × Int)} {d E : Int} {w w' : World} {e : Ending} (hB : Below w.heap.size w w') (h0 : E ≠ 0) (h : e = .returned (.tuple #[.map none, .slice none 0 0, .int .i64 E])) : ChgP t d w E e w' :=
  ⟨hB, fun _ => h, fun h' => absurd h' h0⟩

set_option maxHeartbeats 2000000 in
theorem change_ok (t : List (Int × Int)) (v : Value) (d : Int) (must : Bool) (w : World) (ht : NodesAt w v t) (hl : t.length ≤ 1000000) (hd : I64 d) :
    Calls Try.prog 45 #[.agg #[v], .int .i64 d, .bool must] w fun e w' => ChgP t d w (chgE t d must) e w' := by
  have hb1 : Below w.heap.size w (w.alloc (.cells #[v] 24)) := (Below.refl _ w).alloc (Nat.le_refl _) _
  have HCK := Lib.hid (check_ok t v (w.alloc (.cells #[v] 24)) (ht.below hb1) hl)
  have HT := Lib.hid (ht.below hb1)
  have HL := Lib.hid hl
  obtain ⟨W0, hW0⟩ : ∃ W0, W0 = w.alloc (.cells #[v] 24) := ⟨_, rfl⟩
  have cb : W0.cell? ⟨w.heap.size, 0, none⟩ = some v := by rw [hW0]; unfold World.cell?; rw [World.alloc_heap_new]; rfl
  have hW0s : W0.heap.size = w.heap.size + 1 := by rw [hW0]; simp
  obtain ⟨E, hE⟩ : ∃ E, E = chgE t d must := ⟨_, rfl⟩
  have HE := Lib.hid hE
  rw [← hE]
  obtain ⟨ck, hck⟩ : ∃ ck, ck = chkT t := ⟨_, rfl⟩
  have HC := Lib.hid hck
  rw [← hW0, ← hck] at HCK
  rw [← hW0] at HT hb1
  obtain ⟨z, hz⟩ : ∃ z, z = IntKind.i64.wrap (512 + d) := ⟨_, rfl⟩
  have HZ : Hid (I64 z) := Lib.hid (I64.of (x := z) (by rw [hz, IntKind.wrap_i64]; omega))
  have HZ2 : Hid (0 ≤ d → d < 512 → z = 512 + d) := Lib.hid (fun h0 h1 => by rw [hz, IntKind.wrap_i64]; omega)
  have hzw := hz.symm
  clear ht hl hE hck hd hz
  go_enter Try.func45, Try.ntmps45
  go_wp2_with fail
  rw [← hW0]
  clear hW0
  refine HCK.out.mono ?_
  rintro e w1 ⟨rfl, hB1⟩
  have cb1 := cellOld cb (hB1.block _ (by show w.heap.size < _; omega))
  have HB1 := Lib.hid (hb1.trans (hB1.mono hb1.size))
  have HT1 := Lib.hid (HT.out.below hB1)
  clear hB1 hb1 HCK HT cb hW0s
  by_cases h0 : ck = 0
  · subst h0
    go_wp2_with fail
    refine (of_ok t v w1 HT1.out HL.out).mono ?_
    rintro e w2 ⟨b, rfl, hbl, hM, hB2⟩
    have HM := Lib.hid hM
    have HB2 := Lib.hid (HB1.out.trans (hB2.mono HB1.out.size))
    have hbs : b < w2.heap.size := hM.lt
    have HBL : Hid (w.heap.size ≤ b) := Lib.hid (Nat.le_trans HB1.out.size hbl)
    clear hbl hM hB2
    go_upto_region 6 with (at_lookup; refine wpList_look_ok (he := Try.underlying3) rfl _ _ 59 rfl Try.underlying3 Try.underlying59 (zero_int _) b t.length _ rfl HM.out z (by first | rfl | (simp only [hzw])) HZ.out ?_)
    obtain ⟨sb, hsb⟩ : ∃ sb, sb = (ofF t z).isSome := ⟨_, rfl⟩
    obtain ⟨gv, hgv⟩ : ∃ gv, gv = (ofF t z).getD 0 := ⟨_, rfl⟩
    rw [← hsb, ← hgv]
    have HSB := Lib.hid hsb
    clear hsb hgv hzw
    by_cases h1 : d < 0
    · have hd1 : decide (d < 0) = true := by simp; omega
      have HE2 : Hid (E = 200) := Lib.hid (by rw [HE.out]; unfold chgE; rw [if_pos HC.out.symm, if_pos (.inl h1)])
      go_wp2_with fail
      go_ret3
      exact ChgP.bad HB2.out (by rw [HE2.out]; decide) (ret_eq3 HE2.out)
    · have hd1 : decide (d < 0) = false := by simp; omega
      by_cases h2 : 512 ≤ d
      · have hd2 : decide (512 ≤ d) = true := by simp; omega
        have HE2 : Hid (E = 200) := Lib.hid (by rw [HE.out]; unfold chgE; rw [if_pos HC.out.symm, if_pos (.inr (.inl h2))])
        go_wp2_with fail
        go_ret3
        exact ChgP.bad HB2.out (by rw [HE2.out]; decide) (ret_eq3 HE2.out)
      · have hd2 : decide (512 ≤ d) = false := by simp; omega
        have hz1 := HZ2.out (by omega) (by omega)
        subst hz1
        by_cases h3 : must = true ∧ sb = false
        · obtain ⟨rfl, rfl⟩ := h3
          have hn : ofF t (512 + d) = none := by
            have := HSB.out
            cases h : ofF t (512 + d) with
            | none => rfl
            | some x => rw [h] at this; cases this
          have HE2 : Hid (E = 200) := Lib.hid (by
            rw [HE.out]; unfold chgE
            rw [if_pos HC.out.symm, if_pos (.inr (.inr ⟨rfl, hn⟩))])
          clear hn
          go_wp2_with fail
          go_ret3
          exact ChgP.bad HB2.out (by rw [HE2.out]; decide) (ret_eq3 HE2.out)
        · have HE2 : Hid (E = 0) := Lib.hid (by
            rw [HE.out]; unfold chgE
            rw [if_pos HC.out.symm, if_neg]
            rintro (h | h | ⟨h, h'⟩)
            · omega
            · omega
            · exact h3 ⟨h, by rw [HSB.out, h']; rfl⟩)
          have hms : must = false ∨ (must = true ∧ sb = true) := by cases must <;> cases sb <;> simp_all
          have HI := HZ
          have HPZ := Lib.hid (path_z d (by omega) (by omega) w2)
          have HPL := Lib.hid (pathZ_length d (by omega) (by omega))
          have HPB := Lib.hid (pathZ_bd d (by omega) (by omega))
          have hwr : IntKind.i64.wrap (512 + d) = 512 + d := by rw [IntKind.wrap_i64]; omega
          clear h3
          rcases hms with rfl | ⟨rfl, rfl⟩
          all_goals
            go_upto_region 8 with fail
            go_wp2_with fail
            refine HPZ.out.mono ?_
            rintro e w3 ⟨pv, rfl, hrow, hB3⟩
            have HROW := Lib.hid hrow
            obtain ⟨pp, cp, rfl, hcp, hps⟩ := ints_form hrow
            rw [HPL.out] at hcp hps HROW ⊢
            obtain ⟨g2, rfl, hg21, hg22, hcs2⟩ := hps (by omega)
            have HM3 := Lib.hid (HM.out.below hB3 hbs)
            have HB3 := Lib.hid (HB2.out.trans (hB3.mono HB2.out.size))
            have HC3 := Lib.hid hcs2
            have hs3 := hB3.size
            clear hrow hB3 hps hcs2
            go_wp2_with fail
            refine (blank_ok b t.length _ (512 + d) HI.out w3 HM3.out).mono ?_
            rintro e w4 ⟨rfl, hm4, ht4⟩
            have HM4 : Hid (KMap (intK Try.underlying3) 3 w4 b t.length (delF (ofF t) ([512 + d] ++ (pathZ d).take 0))) := Lib.hid (hm4.congr (fun x _ => by simp [delF]))
            have hs4 := ht4.grown.size
            have HB4 : Hid (Below w.heap.size w w4) := Lib.hid (HB3.out.grown ht4.grown (by have := HB3.out.size; omega) (fun j e => by cases e; exact HBL.out))
            have HC4 : Hid (∀ j, j < 9 → w4.cell? ⟨g2, j, none⟩ = some (.int .i64 ((pathZ d).getD j 0))) := Lib.hid fun j hj => cellOld (HC3.out j hj) (ht4.grown.block g2 hg22 (by simp; omega))
            have HR4 : Hid (w4.ownsRow w2.heap.size 3 1 (.slice (some ⟨g2, 0, none⟩) 9 cp) 9 ((pathZ d).map (Value.int .i64))) := Lib.hid (HROW.out.kept ht4.grown (.inr (by simp [Value.ownBlock]; omega)))
            have hg24 : g2 < w4.heap.size := by omega
            clear hm4 ht4 HM HM3 HB2 HB3 HC3 HROW
            go_wp2_with fail
            go_loopw [55] (fun i wr => ∃ j : Nat, i = .int .i64 j ∧ j ≤ 9 ∧ Hid (KMap (intK Try.underlying3) 3 wr b t.length (delF (ofF t) ([512 + d] ++ (pathZ d).take j))) ∧ Hid (Below w.heap.size w wr) ∧ Hid (wr.ownsRow w2.heap.size 3 1 (.slice (some ⟨g2, 0, none⟩) 9 cp) 9 ((pathZ d).map (Value.int .i64))) ∧ Hid (∀ k, k < w4.heap.size → k ≠ b → wr.heap[k]? = w4.heap[k]?) ∧ w4.heap.size ≤ wr.heap.size) (fun i _ => 9 - (intOf i).toNat)
            case atStart => exact ⟨0, rfl, Nat.zero_le _, HM4, HB4, HR4, Lib.hid (fun _ _ _ => rfl), Nat.le_refl _⟩
            case round =>
              obtain ⟨j, rfl, hj, HMr, HBr, HRr, HKr, hszr⟩ := hrel
              by_cases hlt9 : j < 9
              · have hd9 : decide ((j : Int) < 9) = true := by simp; omega
                have cy : wr.cell? ⟨g2, j, none⟩ = some (.int .i64 ((pathZ d).getD j 0)) := cellOld (HC4.out j hlt9) (HKr.out g2 (by omega) (by omega))
                have hjl : j < (pathZ d).length := by rw [HPL.out]; exact hlt9
                have hgy : (pathZ d).getD j 0 = (pathZ d)[j] := by simp [List.getD, hjl]
                have HTy := Lib.hid (List.take_succ_eq_append_getElem hjl)
                have HIy := Lib.hid (HPB.out _ (List.getElem_mem hjl))
                rw [hgy] at cy
                obtain ⟨y, hy⟩ : ∃ y, y = (pathZ d)[j] := ⟨_, rfl⟩
                rw [← hy] at cy HTy HIy
                have HI64 : Hid (I64 y) := Lib.hid (I64.of (x := y) (by have := HIy.out; omega))
                have hgr2 : g2 < wr.heap.size := by omega
                clear hjl hgy hy
                go_wp2_with fail
                refine (blank_ok b t.length _ y HI64.out wr HMr.out).mono ?_
                rintro e w5 ⟨rfl, hm5, ht5⟩
                have HM5 := Lib.hid hm5
                have HT5 := Lib.hid ht5
                have hs5 := ht5.grown.size
                clear hm5 ht5
                go_wp2_with fail
                refine ⟨⟨j + 1, by go_num, by omega, Lib.hid ?_, Lib.hid (HBr.out.grown HT5.out.grown (by have := HBr.out.size; omega) (fun j e => by cases e; exact HBL.out)), Lib.hid (HRr.out.kept HT5.out.grown (.inr (by simp [Value.ownBlock]; omega))), Lib.hid fun k hk hn => (HT5.out.grown.block k (by omega) (by simpa using hn)).trans (HKr.out k hk hn), by omega⟩, by simp only [intOf]; omega⟩
                have h := HM5.out
                rw [delF_put] at h
                rw [HTy.out, ← List.append_assoc]
                exact h
              · have hd9 : decide ((j : Int) < 9) = false := by simp; omega
                obtain rfl : j = 9 := by omega
                have HM6 : Hid (KMap (intK Try.underlying3) 3 wr b t.length (delF (ofF t) ((512 + d) :: pathZ d))) := Lib.hid (by
                  have h := HMr.out
                  rw [List.take_of_length_le (l := pathZ d) (by rw [HPL.out]; exact Nat.le_refl _)] at h
                  exact h)
                have hw2s : w.heap.size ≤ w2.heap.size := Nat.le_trans HBL.out (by omega)
                go_wp2_with fail
                go_ret3
                exact ⟨HBr.out, fun h => absurd HE2.out h, fun _ => ⟨b, _, cp, rfl, HBL.out, HM6.out, own_low HRr.out hw2s⟩⟩
  · have hd0 : decide (ck = 0) = false := by simp; omega
    have HE2 : Hid (E = ck) := Lib.hid (by rw [HE.out]; unfold chgE; rw [if_neg (by rw [← HC.out]; exact h0)]; exact HC.out.symm)
    go_wp2_with fail
    go_ret3
    exact ChgP.bad HB1.out (by rw [HE2.out]; exact h0) (ret_eq3 HE2.out)
end Go.Proofs.Ytekdekchbnacgaa
