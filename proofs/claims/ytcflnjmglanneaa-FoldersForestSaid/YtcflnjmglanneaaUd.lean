/- Folders: the forest's height. -/
import Derived.Test.YtcflnjmglanneaaUc
import Derived.Lib.SlKeysI
import Derived.Sort.MapsRangeIn
import Derived.Maps.RangeWalk
namespace Go.Proofs.Ytcflnjmglanneaa
open Go.RowKit Go.Maps
set_option maxRecDepth 100000
set_option linter.unusedVariables false
set_option linter.unusedSimpArgs false

theorem ranges_blocks {H : Type} {w w' : World} {P : Program} {k : TypeId} {R : Value → Option (DataW H × List MemPlace)} {b r n : Nat} {D : DataW H} {left : Lit → Bool} {cnt : Nat} (h : w.ranges P k R b r n D left cnt) (hb : w'.heap[b]? = w.heap[b]?) (hr : w'.heap[r]? = w.heap[r]?) : w'.ranges P k R b r n D left cnt := by
  obtain ⟨es, clock, since, seen, c0, h1, h2, h3, h4, h5, h6⟩ := h
  exact ⟨es, clock, since, seen, c0, hb.trans h1, h2, h3, h4, hr.trans h5, h6⟩
theorem ranges_blt {H : Type} {w : World} {P : Program} {k : TypeId} {R : Value → Option (DataW H × List MemPlace)} {b r n : Nat} {D : DataW H} {left : Lit → Bool} {cnt : Nat} (h : w.ranges P k R b r n D left cnt) : b < w.heap.size ∧ r < w.heap.size := by
  obtain ⟨es, clock, since, seen, c0, h1, h2, h3, h4, h5, h6⟩ := h
  exact ⟨(Array.getElem?_eq_some_iff.1 h1).1, (Array.getElem?_eq_some_iff.1 h5).1⟩
theorem ranges_below {H : Type} {w w' : World} {P : Program} {k : TypeId} {R : Value → Option (DataW H × List MemPlace)} {b r n : Nat} {D : DataW H} {left : Lit → Bool} {cnt : Nat} (h : w.ranges P k R b r n D left cnt) (hB : Below w.heap.size w w') : w'.ranges P k R b r n D left cnt :=
  ranges_blocks h (hB.block _ (ranges_blt h).1) (hB.block _ (ranges_blt h).2)
/-- What the places of a map are, by its held form. -/
def HoldP (D : DataW Pl) (F : Int → Option Pl) : Prop := ∀ x, I64 x → has D (.int .i64 x) = (F x).isSome ∧ ∀ v, F x = some v → ∀ z, D.atKey (.int .i64 x) z = .held v
theorem entry_is {D : DataW Pl} {F : Int → Option Pl} (hD : HoldP D F) {x : Int} {c : Pl} {y : DataW Pl × List MemPlace} (hx : I64 x) (hat : ∀ zd, D.atKey (.int .i64 x) zd = y.1) (hv : KP.rd (KP.ev c) = some y) : F x = some c := by
  have hh : has D (.int .i64 x) = true := has_true_of_atKey hat
  rw [(hD x hx).1] at hh
  obtain ⟨e, he⟩ := Option.isSome_iff_exists.1 hh
  have h1 := (hD x hx).2 e he (.held c)
  rw [hat] at h1
  rw [KP.reads c] at hv
  injection hv with hv
  rw [← hv] at h1
  injection h1 with h1
  rw [he, h1]
theorem KP_ev (c : Pl) : KP.ev c = c.ev := rfl
theorem I64_lim {x : Int} (h1 : -1 ≤ x) (h2 : x ≤ 15) : I64 x := I64.of ⟨by omega, by omega⟩
theorem has_of_left {D : DataW Pl} {F : Int → Option Pl} (hD : HoldP D F) {left : Lit → Bool} {ss : List Int} (hC : CollectedI D left ss) (hl : ∀ kl, left kl = false) {x : Int} (hx : I64 x) (h : (F x).isSome = true) : x ∈ ss :=
  (hC.2 x).2 ⟨by rw [(hD x hx).1]; exact h, hl _⟩
/-- The highest of the folders below, of those seen. -/
structure SeenH (T : List Pl) (m : Nat) (x : Int) (ss : List Int) (n : Nat) : Prop where
  le : ∀ k ∈ ss, ∀ e, placeT T k = some e → e.p = x → hgtT T m k ≤ n
  at' : n = 0 ∨ ∃ e ∈ T, e.p = x ∧ hgtT T m e.f = n
theorem SeenH.skip {T : List Pl} {m n : Nat} {x k : Int} {ss : List Int} {e : Pl} (h : SeenH T m x ss n) (hk : placeT T k = some e) (hp : e.p ≠ x) : SeenH T m x (ss ++ [k]) n :=
  ⟨fun j hj e' he' hx => by
    rcases List.mem_append.1 hj with hj | hj
    · exact h.le j hj e' he' hx
    · rw [List.mem_singleton] at hj; subst hj; rw [hk] at he'; injection he' with he'; rw [← he'] at hx; exact absurd hx hp, h.at'⟩
theorem SeenH.more {T : List Pl} {m n : Nat} {x k : Int} {ss : List Int} {e : Pl} (h : SeenH T m x ss n) (hk : placeT T k = some e) (hp : e.p = x) : SeenH T m x (ss ++ [k]) (max n (hgtT T m k)) := by
  obtain ⟨m1, rfl⟩ := placeT_some hk
  refine ⟨fun j hj e' he' hx => ?_, ?_⟩
  · rcases List.mem_append.1 hj with hj | hj
    · exact Nat.le_trans (h.le j hj e' he' hx) (Nat.le_max_left _ _)
    · rw [List.mem_singleton] at hj; subst hj; exact Nat.le_max_right _ _
  · rcases Nat.le_total n (hgtT T m e.f) with h2 | h2
    · rw [Nat.max_eq_right h2]; exact .inr ⟨e, m1, hp, rfl⟩
    · rw [Nat.max_eq_left h2]; exact h.at'
theorem SeenH.all {T : List Pl} {m n : Nat} {x : Int} {ss : List Int} (h : SeenH T m x ss n) (ho : Once T) (hs : ∀ e ∈ T, e.f ∈ ss) : hgtT T (m + 1) x = n + 1 := by
  unfold hgtT
  congr 1
  apply Nat.le_antisymm
  · refine foldr_max_le fun y hy => ?_
    obtain ⟨e, he, rfl⟩ := List.mem_map.1 hy
    obtain ⟨h1, h2⟩ := List.mem_filter.1 he
    simp only [decide_eq_true_eq] at h2
    exact h.le e.f (hs e h1) e (ho e h1) h2
  · rcases h.at' with rfl | ⟨e, h1, h2, rfl⟩
    · exact Nat.zero_le _
    · exact le_foldr_max (List.mem_map.2 ⟨e, by simp [h1, h2], rfl⟩)

set_option maxHeartbeats 4000000 in
theorem measure_ok (T : List Pl) (ho : Once T) (hT : ∀ e ∈ T, okP e) (b nn Bm Bf : Nat) : ∀ (n : Nat) (x : Int) (w : World), MapP w b nn (placeT T) → Boxed w Bm 48 (.map (some b)) →
    Boxed w Bf 67 (.func (.func 59) #[] #[.pointer (some ⟨Bm, 0, none⟩), .pointer (some ⟨Bf, 0, none⟩)]) → hgtT T n x < n → n ≤ 1000 →
    Calls Try.prog 59 #[.int .i64 x, .pointer (some ⟨Bm, 0, none⟩), .pointer (some ⟨Bf, 0, none⟩)] w fun e w' => e = .returned (.int .i64 (hgtT T n x : Nat)) ∧ Below w.heap.size w w'
  | 0, x, w, _, _, _, hn, _ => absurd hn (Nat.not_lt_zero _)
  | m + 1, x, w, hb, hm, hf, hn, hn2 => by
    have IH := Lib.hid (fun y W h1 h2 h3 h4 => measure_ok T ho hT b nn Bm Bf m y W h1 h2 h3 h4 (by omega))
    obtain ⟨D, hown0, hD0⟩ := hb
    have HD : Hid (HoldP D (placeT T)) := Lib.hid hD0
    have HO := Lib.hid ho
    have HT := Lib.hid hT
    have HN := Lib.hid hn
    have hown := hown0
    have HM := Lib.hid hm
    have HF := Lib.hid hf
    have hc := hm.cell
    have HSZ := Lib.hid hown.size_le
    have hml := hm.lt
    have hfl := hf.lt
    have hbl := hown.lt
    clear hD0 ho hT hn hm hf
    go_enter Try.func59, Try.ntmps59
    go_wp2_with (at_range; refine wpList_range_own _ rfl _ 48 rfl 3 24 (int_keyed Try.underlying3) Try.underlying48 _ b nn _ rfl hown ?_; intro w0 hrg0 hg0 hs0)
    obtain ⟨r, hr⟩ : ∃ r, r = w.heap.size := ⟨_, rfl⟩
    rw [← hr] at hrg0 hml hfl hbl ⊢
    have hB0 : Hid (Below r w w0) := Lib.hid ⟨hg0.os, hg0.tape, hg0.output, by omega, fun k hk => hg0.block k (by omega) (by simp)⟩
    have HRR := Lib.hid hr
    clear hg0 hs0 hc hown hown0 hr
    go_frame
    go_loopw [5] (fun v5 wr => ∃ (k : Nat) (left : Lit → Bool) (cnt : Nat) (ss : List Int), v5 = .int .i64 k ∧ k ≤ m ∧ Hid (wr.ranges Try.prog 3 KP.rd b r nn D left cnt) ∧ Hid (CollectedI D left ss) ∧ Hid (SeenH T m x ss k) ∧ Hid (Below r w wr)) (fun _ wr => wr.rangeLeft b r)
    case atStart => exact ⟨0, _, _, [], rfl, Nat.zero_le _, Lib.hid hrg0, Lib.hid (CollectedI.start D), Lib.hid ⟨by simp, .inl rfl⟩, hB0⟩
    case round =>
      obtain ⟨k, left, cnt, ss, rfl, hkm, HRG, HC, HS, HB⟩ := hrel
      clear hrg0 hB0
      go_wp2_with (at_next; refine wpList_next_ranges _ rfl _ rfl 3 (int_keyed Try.underlying3) KP.rd encZ KP.ev (fun key kl hk => by obtain ⟨z, hz, _⟩ := Maps.keyOf_i64 Try.underlying3 hk; exact ⟨z, hz⟩) (fun v y hv => by obtain ⟨z, hz, _⟩ := KP.inv v y hv; exact ⟨z, hz⟩) b r nn _ _ _ rfl HRG.out ?_ ?_)
      · intro hc0 hl0
        have HH : Hid (hgtT T (m + 1) x = k + 1) := Lib.hid (HS.out.all HO.out fun e he => has_of_left HD.out HC.out hl0 (I64_lim (by have := (HT.out e he).2.2.1; omega) (by have := (HT.out e he).2.2.1; omega)) (by rw [HO.out e he]; rfl))
        clear hl0
        go_wp2_with fail
        go_ret
        exact ⟨by rw [HH.out]; rfl, HB.out.mono (by have := HRR.out; omega)⟩
      · intro z c kl yd yp w2 cnt2 hkey hlk hv hat hrg2 hlt hg2 hs2 hen
        obtain ⟨z', ez, rfl, hz⟩ := Maps.keyOf_i64 Try.underlying3 hkey
        obtain rfl : z = z' := encZ_inj ez
        have hzc := entry_is (y := (yd, yp)) HD.out hz hat hv
        have HC2 := Lib.hid (HC.out.step hlk hat)
        have HZC := Lib.hid hzc
        obtain ⟨hzm, hzf⟩ := placeT_some hzc
        have HZM := Lib.hid hzm
        have hB2 : Below r w w2 := HB.out.trans ⟨hg2.os, hg2.tape, hg2.output, by omega, fun j hj => hg2.block j (by have := HB.out.size; have := HRR.out; omega) (by simp; omega)⟩
        have HB2 := Lib.hid hB2
        have HRG2 := Lib.hid hrg2
        have HLT := Lib.hid hlt
        have HZF := Lib.hid hzf
        rw [KP_ev] at hen ⊢
        obtain ⟨ct, cd, cf, cp, cn⟩ := c
        unfold Pl.ev at hen ⊢
        dsimp only at hen ⊢
        have HLE := Lib.hid HRG.out.left_eq
        clear hkey hlk hv hat hrg2 hlt hg2 hs2 hzc hzm hzf hB2 ez HC HRG HB
        go_upto_region 5 with fail
        have hA := below_alloc w2 (.cells (Pl.cells ⟨ct, cd, cf, cp, cn⟩).toArray 24)
        have hX3 := World.alloc_heap_new w2 (.cells (Pl.cells ⟨ct, cd, cf, cp, cn⟩).toArray 24)
        obtain ⟨B, hBe⟩ : ∃ B, B = w2.heap.size := ⟨_, rfl⟩
        obtain ⟨W3, hW3⟩ : ∃ W, W = w2.alloc (.cells (Pl.cells ⟨ct, cd, cf, cp, cn⟩).toArray 24) := ⟨_, rfl⟩
        have hW3' : w2.alloc (.cells #[.int .i64 ct, .int .i64 cd, .int .i64 cf, .int .i64 cp, .string cn] 24) = W3 := hW3.symm
        rw [hW3', ← hBe]
        rw [← hW3] at hA hX3
        rw [← hBe] at hX3
        have HRG3 := Lib.hid (ranges_below HRG2.out hA)
        have HB3 : Hid (Below r w W3) := Lib.hid (HB2.out.trans (hA.mono (by have := HB2.out.size; have := HRR.out; omega)))
        have HX3 := Lib.hid hX3
        obtain ⟨b0, b1, b2, b3, b4⟩ := box_cells hX3
        dsimp only at b0 b1 b2 b3 b4
        clear hen hW3' hW3 hBe hA hX3 HRG2 HB2
        by_cases hcp : cp = x
        case neg =>
          have he1 : (cp == x) = false := by simpa using hcp
          have he2 : decide (cp = x) = false := decide_eq_false hcp
          have HS2 := Lib.hid (HS.out.skip HZC.out hcp)
          clear hcp
          go_wp2_with fail
          exact ⟨⟨k, _, cnt2, ss ++ [z], rfl, hkm, HRG3, HC2, HS2, HB3⟩, by rw [HRG3.out.left_eq, HLE.out]; exact HLT.out⟩
        have he1 : (cp == x) = true := by simpa using hcp
        have he2 : decide (cp = x) = true := decide_eq_true hcp
        have HS2 := Lib.hid (HS.out.more HZC.out hcp)
        have hch := hgtT_child HN.out HZM.out hcp
        dsimp only at hch
        have hf3 : Boxed W3 Bf 67 (.func (.func 59) #[] #[.pointer (some ⟨Bm, 0, none⟩), .pointer (some ⟨Bf, 0, none⟩)]) := (HB3.out.block Bf hfl).trans HF.out
        have hm3 : Boxed W3 Bm 48 (.map (some b)) := (HB3.out.block Bm hml).trans HM.out
        have HCall := Lib.hid (IH.out cf W3 ⟨D, HRG3.out.owns, HD.out⟩ hm3 hf3 hch)
        have hfc := hf3.cell
        have hzf : cf = z := HZF.out
        subst hzf
        obtain ⟨h, hh⟩ : ∃ h, h = hgtT T m cf := ⟨_, rfl⟩
        rw [← hh] at HCall HS2 hch
        clear hcp hf3 hm3 hh IH
        go_wp2_with fail
        refine (HCall.out).mono ?_
        rintro e W4 ⟨rfl, hB4⟩
        have HRG4 := Lib.hid (ranges_below HRG3.out hB4)
        have HB4 : Hid (Below r w W4) := Lib.hid (HB3.out.trans (hB4.mono (by have := HB3.out.size; have := HRR.out; omega)))
        clear hB4 HCall
        go_wp2_with fail
        have hmax : max k h ≤ m := Nat.max_le.2 ⟨hkm, Nat.le_of_lt hch⟩
        have hmx : max (k : Int) (h : Int) = ((max k h : Nat) : Int) := by omega
        exact ⟨⟨max k h, _, cnt2, ss ++ [cf], by rw [hmx], hmax, HRG4, HC2, HS2, HB4⟩, by rw [HRG4.out.left_eq, HLE.out]; exact HLT.out⟩
theorem store_fn (W : World) (t : TypeId) (v : Value) (h1 : v.oneCell' = true) : (store ⟨W.heap.size, 0, none⟩ v).run Try.prog (W.alloc (.cells #[.nilFunc] t)) = .ok () (W.alloc (.cells #[v] t)) := by
  have hb : Boxed (W.alloc (.cells #[.nilFunc] t)) W.heap.size t .nilFunc := Boxed.new W t .nilFunc
  rw [run_store _ _ _ v _ h1, hb.cell]
  simp only [hb.frozen, Bool.false_eq_true, if_false]
  rw [World.setCell_alloc_new]
  rfl
theorem height_ok (T : List Pl) (L : Int → Nat) (hF : Frst T L) (b nn : Nat) (x : Int) (hx : 0 ≤ x) (w : World) (hb : MapP w b nn (placeT T)) :
    Calls Try.prog 48 #[.map (some b), .int .i64 x] w fun e w' => e = .returned (.int .i64 (hgtT T 9 x : Nat)) ∧ Below w.heap.size w w' := by
  have hB1 := below_alloc w (.cells #[.map (some b)] 48)
  have hM1 := Boxed.new w 48 (.map (some b))
  have hb1 : MapP (w.alloc (.cells #[.map (some b)] 48)) b nn (placeT T) := SMap.alloc hb _
  obtain ⟨A, hA⟩ : ∃ A, A = w.heap.size := ⟨_, rfl⟩
  rw [← hA] at hM1
  have HA := Lib.hid hA
  have HB1 := Lib.hid hB1
  have HM1 := Lib.hid hM1
  have Hb1 := Lib.hid hb1
  have HFF := Lib.hid hF
  clear hb hB1 hM1 hb1 hF
  go_enter Try.func48, Try.ntmps48
  go_upto_region 1 with fail
  try rw [← hA]
  obtain ⟨W1, hW1⟩ : ∃ W, W = w.alloc (.cells #[.map (some b)] 48) := ⟨_, rfl⟩
  rw [← hW1] at HB1 HM1 Hb1 ⊢
  have hm2 := HM1.out.alloc (.cells #[.func (.func 59) #[] #[.pointer (some ⟨A, 0, none⟩), .pointer (some ⟨W1.heap.size, 0, none⟩)]] 67)
  have hf2 := Boxed.new W1 67 (.func (.func 59) #[] #[.pointer (some ⟨A, 0, none⟩), .pointer (some ⟨W1.heap.size, 0, none⟩)])
  have hB2 := below_trans HB1.out (below_alloc W1 (.cells #[.func (.func 59) #[] #[.pointer (some ⟨A, 0, none⟩), .pointer (some ⟨W1.heap.size, 0, none⟩)]] 67))
  have HC := Lib.hid (measure_ok T HFF.out.sort.once HFF.out.ok b nn A W1.heap.size 9 x _ (SMap.alloc Hb1.out _) hm2 hf2 (HFF.out.hgt_lt hx) (by decide))
  have HB := Lib.hid hB2
  have hst := store_fn W1 67 (.func (.func 59) #[] #[.pointer (some ⟨A, 0, none⟩), .pointer (some ⟨W1.heap.size, 0, none⟩)]) rfl
  clear hm2 hf2 hB2 hx hA hW1 HB1 HM1 Hb1
  go_wp2_with fail
  refine (HC.out).mono ?_
  rintro e w2 ⟨rfl, hB⟩
  have HB2 := Lib.hid (below_trans HB.out hB)
  clear hB HC HB
  go_wp2_with fail
  go_ret
  exact ⟨rfl, HB2.out⟩
end Go.Proofs.Ytcflnjmglanneaa
