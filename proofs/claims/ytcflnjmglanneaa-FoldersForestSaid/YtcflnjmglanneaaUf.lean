/- Folders: the program's grow. -/
import Derived.Test.YtcflnjmglanneaaUe
namespace Go.Proofs.Ytcflnjmglanneaa
open Go.RowKit Go.Maps Go.Sort
set_option maxRecDepth 100000
set_option linter.unusedVariables false
set_option linter.unusedSimpArgs false

/-- From G to W: no block of G's is turned but b. -/
structure AwayP (b : Nat) (G W : World) : Prop where
  os : W.os = G.os
  tape : W.tape = G.tape
  output : W.output = G.output
  size : G.heap.size ≤ W.heap.size
  block : ∀ k, k < G.heap.size → k ≠ b → W.heap[k]? = G.heap[k]?
theorem AwayP.refl (b : Nat) (G : World) : AwayP b G G := ⟨rfl, rfl, rfl, Nat.le_refl _, fun _ _ _ => rfl⟩
theorem AwayP.below {b : Nat} {G W W' : World} (h : AwayP b G W) (hB : Below W.heap.size W W') : AwayP b G W' :=
  ⟨hB.os.trans h.os, hB.tape.trans h.tape, hB.output.trans h.output, Nat.le_trans h.size hB.size, fun k hk hb => (hB.block k (Nat.lt_of_lt_of_le hk h.size)).trans (h.block k hk hb)⟩
theorem turned_away {W W' : World} {b : Nat} (h : W.mapTurned W' b) : AwayP b W W' := by
  have g := h.grown
  exact ⟨g.os, g.tape, g.output, g.size, fun k hk hb => g.block k hk (fun e => hb (by injection e))⟩
theorem AwayP.trans {b : Nat} {G W W' : World} (h : AwayP b G W) (h2 : AwayP b W W') : AwayP b G W' :=
  ⟨h2.os.trans h.os, h2.tape.trans h.tape, h2.output.trans h.output, Nat.le_trans h.size h2.size, fun k hk hb => (h2.block k (Nat.lt_of_lt_of_le hk h.size) hb).trans (h.block k hk hb)⟩
theorem AwayP.bel {b n0 : Nat} {w G W : World} (h : AwayP b G W) (hw : Below n0 w G) (hb : n0 ≤ b) (hn : n0 ≤ w.heap.size) : Below n0 w W :=
  hw.trans ⟨h.os, h.tape, h.output, h.size, fun k hk => h.block k (by have := hw.size; omega) (by omega)⟩
theorem PlCell.block {w w' : World} {g o j : Nat} {x : Pl} (h : PlCell w g o j x) (hB : w'.heap[g]? = w.heap[g]?) : PlCell w' g o j x :=
  ⟨cellOld h.c0 hB, cellOld h.c1 hB, cellOld h.c2 hB, cellOld h.c3 hB, cellOld h.c4 hB⟩
theorem treeP_nil : treeP [] = [] := rfl

set_option maxHeartbeats 16000000 in
theorem grow_ok (l : List Pl) (v : Value) (w : World) (ht : PlAt w v l) (hl : l.length ≤ 100000) :
    Calls Try.prog 27 #[v] w fun e w' => ∃ b nn, e = .returned (.map (some b)) ∧ MapP w' b nn (placeT (treeP l)) ∧ nn ≤ l.length ∧ w.heap.size ≤ b ∧ Below w.heap.size w w' := by
  obtain ⟨pt, pc, rfl, hc, -⟩ := ht.form
  have hB1 := below_alloc w (.map #[] 0)
  have hM1 : MapP (w.alloc (.map #[] 0)) w.heap.size 0 (fun _ => none) := SMap.made Try.prog KP 3 w
  have HC := Lib.hid (clone_ok l (.slice pt l.length pc) (w.alloc (.map #[] 0)) (ht.below hB1) (by omega))
  have HB1 := Lib.hid hB1
  have HM1 := Lib.hid hM1
  have hs1 : (w.alloc (.map #[] 0)).heap.size = w.heap.size + 1 := by simp
  have HS1 := Lib.hid hs1
  clear ht hB1 hM1 hs1
  have hmm := @run_makeMap Try.prog
  go_enter Try.func27, Try.ntmps27
  go_wp2_with fail
  clear hmm
  refine (HC.out).mono ?_
  rintro e w2 ⟨u, rfl, hown, hB⟩
  obtain ⟨b, hb⟩ : ∃ b, b = w.heap.size := ⟨_, rfl⟩
  obtain ⟨W1, hW1⟩ : ∃ W1, W1 = w.alloc (.map #[] 0) := ⟨_, rfl⟩
  rw [← hb] at HM1 HS1 ⊢
  rw [← hW1] at HM1 HS1 HB1 hown hB
  have HBB := Lib.hid hb
  have HB2 := Lib.hid hB
  clear HC hB hW1 hb
  rcases hown.2 with ⟨rfl, hn0⟩ | ⟨g, cap, cur, rfl, hgb, -⟩
  · have hl0 : l = [] := List.length_eq_zero_iff.1 hn0
    subst hl0
    have HM2 : Hid (MapP w2 b 0 (placeT (treeP []))) := Lib.hid (by rw [treeP_nil]; exact SMap.below HM1.out HB2.out (by have := HS1.out; omega))
    clear hown hn0
    go_wp2_with fail
    refine (delete_none 0 w2).mono ?_
    rintro e w3 ⟨rfl, hB⟩
    have HM3 : Hid (MapP w3 b 0 (placeT (treeP []))) := Lib.hid (SMap.below HM2.out hB (SMap.lt HM2.out))
    have HB3 : Hid (Below w.heap.size w w3) := Lib.hid ((HB1.out.trans (HB2.out.mono (by have := HS1.out; have := HBB.out; omega))).trans (hB.mono (by have := HB2.out.size; have := HS1.out; have := HBB.out; omega)))
    clear hB
    go_wp2_with fail
    refine (sortF_none 0 w3).mono ?_
    rintro e w4 ⟨rfl, rfl⟩
    go_wp2_with fail
    go_loopw [17] (fun v17 wr => v17 = .int .i64 (0 : Nat) ∧ wr = w4) (fun _ _ => 0)
    case atStart => exact ⟨rfl, rfl⟩
    case round =>
      obtain ⟨rfl, rfl⟩ := hrel
      go_wp2_with fail
      go_ret
      exact ⟨b, 0, rfl, HM3.out, Nat.zero_le _, Nat.le_of_eq HBB.out.symm, HB3.out⟩
  · have hO2 : OwnR W1.heap.size w2 w2 g l.length cap l := ⟨hown, rfl, Below.refl _ _, HB2.out.size⟩
    have HD := Lib.hid (delete_ok l W1.heap.size g l.length cap w2 hO2 (by omega))
    obtain ⟨V, hV⟩ : ∃ V, V = l.filter (fun x => decide (okP x)) := ⟨_, rfl⟩
    rw [← hV] at HD
    have HVV := Lib.hid hV
    have hVl : V.length ≤ l.length := by rw [hV]; exact List.length_filter_le _ _
    have hgb' : b < g := by have := HS1.out; omega
    clear hown hO2 hV
    go_wp2_with fail
    refine (HD.out).mono ?_
    rintro e w3 ⟨n', rfl, hO3⟩
    have HNV := Lib.hid hO3.len
    have hn' : n' ≤ l.length := by have := hO3.len; omega
    have HSo := Lib.hid (sortF_ok V W1.heap.size g n' cap w2 w3 hO3 (by omega))
    have HB3 := Lib.hid hO3.bel
    have hsz3 : W1.heap.size ≤ w3.heap.size := by have := hO3.bel.size; have := HB2.out.size; omega
    clear hO3 HD
    go_wp2_with fail
    refine (HSo.out).mono ?_
    rintro e w4 ⟨rfl, hat, hB4, hg4⟩
    have HBel : Hid (Below w.heap.size w w4) := Lib.hid ((HB1.out.trans (HB2.out.mono (by have := HS1.out; have := HBB.out; omega))).trans ((HB3.out.mono (by have := HS1.out; have := HBB.out; omega)).trans (hB4.mono (by have := HS1.out; have := HBB.out; omega))))
    have HM4 : Hid (MapP w4 b 0 (fun _ => none)) := Lib.hid (SMap.below (SMap.below (SMap.below HM1.out HB2.out (by have := HS1.out; omega)) HB3.out (by have := HS1.out; omega)) hB4 (by have := HS1.out; omega))
    have hsO : sortP V = orderT (ltOf cmpP) l := by rw [HVV.out]; exact sortP_order l
    rw [hsO] at hat
    obtain ⟨O, hO⟩ : ∃ O, O = orderT (ltOf cmpP) l := ⟨_, rfl⟩
    rw [← hO] at hat hsO
    have hOl : O.length = n' := by rw [← hsO, HNV.out]; exact (List.mergeSort_perm _ _).length_eq
    have HT : Hid (treeP l = O.foldl stepT []) := Lib.hid (by rw [hO]; rfl)
    have HK : Hid (∀ p ∈ O, okP p) := Lib.hid fun p hp => by rw [hO] at hp; exact ((mem_orderT cmp_tot).1 hp).2
    have HAT := Lib.hid hat
    have HOL := Lib.hid hOl
    have hn5 : n' ≤ l.length := by omega
    have hnc : n' ≤ 100000 := by omega
    clear hat hB4 hO hsO hOl HSo HB3 HB1 HB2 HM1 HNV hVl HVV
    go_wp2_with fail
    go_loopw [17] (fun v17 wr => ∃ (k nn : Nat) (T : List Pl), v17 = .int .i64 k ∧ k ≤ n' ∧ nn ≤ k ∧ Hid (∃ L, Frst T L) ∧ Hid ((O.drop k).foldl stepT T = treeP l) ∧ Hid (MapP wr b nn (placeT T)) ∧ Hid (AwayP b w4 wr)) (fun v17 _ => n' - (intOf v17).toNat)
    case atStart => exact ⟨0, 0, [], rfl, Nat.zero_le _, Nat.le_refl _, Lib.hid ⟨_, Frst.nil⟩, Lib.hid (by rw [HT.out]; rfl), HM4, Lib.hid (AwayP.refl _ _)⟩
    case round =>
      obtain ⟨k, nn, T, rfl, hk, hnn, HF, HE, HM, HA⟩ := hrel
      by_cases hkn : k < n'
      case neg =>
        have hd := decide_eq_false (show ¬ ((k : Int) < (n' : Int)) by omega)
        have hd' := decide_eq_false hkn
        have HE2 : Hid (T = treeP l) := Lib.hid (by
          have h := HE.out
          rw [List.drop_of_length_le (by rw [HOL.out]; omega)] at h
          exact h)
        go_wp2_with fail
        go_ret
        exact ⟨b, nn, rfl, by rw [← HE2.out]; exact HM.out, by omega, Nat.le_of_eq HBB.out.symm, HA.out.bel HBel.out (Nat.le_of_eq HBB.out.symm) (Nat.le_refl _)⟩
      have hd := decide_eq_true (show ((k : Int) < (n' : Int)) by omega)
      have hd' := decide_eq_true hkn
      obtain ⟨e, he⟩ : ∃ e, O[k]? = some e := ⟨O[k]'(by rw [HOL.out]; exact hkn), List.getElem?_eq_getElem _⟩
      have hok := HK.out e (List.mem_of_getElem? he)
      obtain ⟨ga, oa, hga, hcs⟩ := (HAT.out.cells).2.2 (by omega)
      injection hga with hga
      injection hga with hga1 hga2
      subst hga1; subst hga2
      obtain ⟨c0, c1, c2, c3, c4⟩ := (hcs k e he).block (HA.out.block g hg4 (by omega))
      rw [Nat.zero_add] at c0 c1 c2 c3 c4
      obtain ⟨L, hF⟩ := HF.out
      have HFL := Lib.hid hF
      have HOK := Lib.hid hok
      have HE2 : Hid ((O.drop (k + 1)).foldl stepT (stepT T e) = treeP l) := Lib.hid (by
        have hkl := (List.getElem?_eq_some_iff.1 he).1
        have hee : O[k] = e := by rw [List.getElem?_eq_getElem hkl] at he; injection he
        have h := HE.out
        rw [List.drop_eq_getElem_cons hkl, List.foldl_cons, hee] at h
        exact h)
      have hA5 := below_alloc wr (.cells e.cells.toArray 24)
      have hX5 := World.alloc_heap_new wr (.cells e.cells.toArray 24)
      have HA5 := Lib.hid (HA.out.below hA5)
      have HM5 : Hid (MapP (wr.alloc (.cells e.cells.toArray 24)) b nn (placeT T)) := Lib.hid (SMap.alloc HM.out _)
      have hIp : I64 e.p := I64_lim hok.2.2.2.1.1 hok.2.2.2.1.2
      have HPT : Hid (putT T e = if BadP T e ∨ 8 < levL L e.p + hgtT T 9 e.f then none else some (insT e T)) := Lib.hid (hF.putT_eq hok)
      obtain ⟨E, hE⟩ : ∃ E : Pl, E = e := ⟨_, rfl⟩
      have HEE := Lib.hid hE
      obtain ⟨et, ed, ef, ep, en⟩ := e
      rw [← hE] at HE2 HPT HOK
      dsimp only at c0 c1 c2 c3 c4 hIp
      clear he hcs hF hok HE HA HM hA5 hE
      go_upto_region 7 with fail
      have hW5' : wr.alloc (.cells #[.int .i64 et, .int .i64 ed, .int .i64 ef, .int .i64 ep, .string en] 24) = wr.alloc (.cells (Pl.cells ⟨et, ed, ef, ep, en⟩).toArray 24) := rfl
      obtain ⟨A, hAe⟩ : ∃ A, A = wr.heap.size := ⟨_, rfl⟩
      obtain ⟨W5, hW5⟩ : ∃ W, W = wr.alloc (.cells (Pl.cells ⟨et, ed, ef, ep, en⟩).toArray 24) := ⟨_, rfl⟩
      rw [hW5', ← hAe]
      rw [← hW5] at HA5 HM5 hX5 ⊢
      rw [← hAe] at hX5
      have hA5 : A < W5.heap.size := (Array.getElem?_eq_some_iff.1 hX5).1
      obtain ⟨b0, b1, b2, b3, b4⟩ := box_cells hX5
      dsimp only at b0 b1 b2 b3 b4
      have hlook := HM5.out.look hIp
      obtain ⟨e1, he1⟩ : ∃ e, e = (placeT T ep).getD pl0 := ⟨_, rfl⟩
      obtain ⟨ex, hex⟩ : ∃ ex, ex = (placeT T ep).isSome := ⟨_, rfl⟩
      rw [← he1, ← hex] at hlook
      have HEX := Lib.hid hex
      obtain ⟨ft, fd, ff, fp, fn⟩ := e1
      unfold Pl.ev at hlook
      dsimp only at hlook
      clear he1 hex hW5 hW5' hAe c0 c1 c2 c3 c4
      have HX5 := Lib.hid hX5
      clear hX5
      go_upto_region 8 with fail
      have hA6 := below_alloc W5 (.cells #[.int .i64 ft, .int .i64 fd, .int .i64 ff, .int .i64 fp, .string fn] 24)
      have HM6 : Hid (MapP (W5.alloc (.cells #[.int .i64 ft, .int .i64 fd, .int .i64 ff, .int .i64 fp, .string fn] 24)) b nn (placeT T)) := Lib.hid (SMap.alloc HM5.out _)
      obtain ⟨W6, hW6⟩ : ∃ W, W = W5.alloc (.cells #[.int .i64 ft, .int .i64 fd, .int .i64 ff, .int .i64 fp, .string fn] 24) := ⟨_, rfl⟩
      rw [← hW6] at hA6 HM6 ⊢
      have HX6 := Lib.hid ((hA6.block A hA5).trans HX5.out)
      have HA6 := Lib.hid (HA5.out.below hA6)
      obtain ⟨a0, a1, a2, a3, a4⟩ := box_cells HX6.out
      dsimp only at a0 a1 a2 a3 a4
      have hA6' : A < W6.heap.size := Nat.lt_of_lt_of_le hA5 hA6.size
      clear hA6 hW6 hlook b0 b1 b2 b3 b4 HX5 HM5 HA5 hA5
      go_cut [54] from 18 to 59 (fun v wx => v = .bool (decide (BadP T E ∨ 8 < levL L ep + hgtT T 9 ef)) ∧ Hid (Below W6.heap.size W6 wx))
      case first =>
        have hFI : ∀ y e, placeT T y = some e → I64 e.p := fun y e he => by
          have h := HFL.out.ok e (placeT_some he).1
          exact I64_lim h.2.2.2.1.1 h.2.2.2.1.2
        have hblt := SMap.lt HM6.out
        have hN32 : ∀ z, (upF (placeT T) 32 z).length = L z := fun z => HFL.out.lev.upF 32 z (by have := HFL.out.le z; omega)
        have hE' := HEE.out
        have hok := HOK.out
        rw [hE'] at hok
        obtain ⟨lv, hlv⟩ : ∃ lv, lv = levL L ep := ⟨_, rfl⟩
        obtain ⟨ht9, hht⟩ : ∃ ht9, ht9 = hgtT T 9 ef := ⟨_, rfl⟩
        have hlv8 : lv ≤ 8 := by rw [hlv]; unfold levL; have := HFL.out.le ep; split <;> omega
        have hht9 : ht9 ≤ 9 := by rw [hht]; exact hgtT_le T 9 ef
        have HLV : Hid (∀ W', Below W6.heap.size W6 W' → Calls Try.prog 47 #[.map (some b), .int .i64 ep] W' fun e w' => e = .returned (.int .i64 (lv : Int)) ∧ Below W'.heap.size W' w') := Lib.hid fun W' hS => by
          have h := level_ok b nn 32 (placeT T) ep W' (MapP.below HM6.out hS hblt) hIp hFI (by rw [hN32]; have := HFL.out.le ep; omega) (by decide)
          have e1 : (if ep < 0 then 0 else 1 + ((upF (placeT T) 32 ep).length : Int)) = (lv : Int) := by
            rw [hN32, hlv]; unfold levL
            by_cases h0 : 0 ≤ ep
            · rw [if_neg (by omega), if_pos h0]; omega
            · rw [if_pos (by omega), if_neg h0]; rfl
          rw [e1] at h
          exact h
        have HHT : Hid (∀ W', Below W6.heap.size W6 W' → Calls Try.prog 48 #[.map (some b), .int .i64 ef] W' fun e w' => e = .returned (.int .i64 (ht9 : Int)) ∧ Below W'.heap.size W' w') := Lib.hid fun W' hS => by
          have h := height_ok T L HFL.out b nn ef hok.2.2.1.1 W' (MapP.below HM6.out hS hblt)
          rw [← hht] at h
          exact h
        obtain ⟨r, hr⟩ : ∃ r, r = decide (ep = ef ∨ ef ∈ upF (placeT T) 32 ep) := ⟨_, rfl⟩
        have HWi : Hid (∀ W', Below W6.heap.size W6 W' → Calls Try.prog 33 #[.map (some b), .int .i64 ep, .int .i64 ef] W' fun e w' => e = .returned (.bool r) ∧ Below W'.heap.size W' w') := Lib.hid fun W' hS => by
          have h := within_ok b nn 32 (placeT T) ep ef W' (MapP.below HM6.out hS hblt) hIp hFI (by rw [hN32]; have := HFL.out.le ep; omega) (by decide)
          rw [← hr] at h
          exact h
        have hwrap : IntKind.i64.wrap ((lv : Int) + (ht9 : Int)) = (lv : Int) + (ht9 : Int) := by rw [IntKind.wrap_i64]; omega
        have HBP : Hid (BadP T E ↔ 0 ≤ ep ∧ (ex = false ∨ r = true)) := Lib.hid (by
          rw [hE']
          unfold BadP
          dsimp only
          rw [upT_upF, ← HEX.out, hr]
          simp only [decide_eq_true_eq])
        have HSM : Hid (8 < levL L ep + hgtT T 9 ef ↔ (8 : Int) < (lv : Int) + (ht9 : Int)) := Lib.hid (by rw [← hlv, ← hht]; omega)
        clear hFI hblt hN32 hE' hok hlv hht hlv8 hht9 hr
        by_cases h0 : 0 ≤ ep
        case neg =>
          have hd := decide_eq_false h0
          have HV : Hid (decide (BadP T E ∨ 8 < levL L ep + hgtT T 9 ef) = decide ((8 : Int) < (lv : Int) + (ht9 : Int))) := Lib.hid (decide_eq_decide.2 ⟨fun h => h.elim (fun h => absurd (HBP.out.1 h).1 h0) HSM.out.1, fun h => .inr (HSM.out.2 h)⟩)
          clear h0
          refine wp_region_noPanic ?_
          refine region_tree (fun W' => Below W6.heap.size W6 W') (.take 0 (.take 1 (.take 2 (.take 3 (.take 4 (.take 5 (.take 6 (.take 7 (.take 8 (.take 9 (.take 10 (.take 11 (.one 12 (.take 13 (.take 14 (.take 15 (.take 16 (.take 17 (.take 18 (.take 20 (.take 21 (.take 22 (.one 19 (.one 23 (.take 24 (.take 25 (.take 26 .done))))))))))))))))))))))))))) (by kernel_rfl) (by kernel_rfl) (by kernel_rfl) (by decide) (fun _ _ _ _ h => h) ⟨rfl, rfl, rfl, Nat.le_refl _, fun _ _ => rfl⟩ ?_
          obtain ⟨W7, hW7⟩ : ∃ W, W = W6.drew := ⟨_, rfl⟩
          have HB_W7 : Hid (Below W6.heap.size W6 W7) := Lib.hid (by rw [hW7]; exact ⟨rfl, rfl, rfl, Nat.le_refl _, fun _ _ => rfl⟩)
          rw [← hW7]
          clear hW7
          (refine tree_take (v := ?_) rfl (by rfl) (fun W' hS => ?_) ?_; rotate_left; (have d2 := cellOld a2 (hS.block _ (cellLt a2)); have d3 := cellOld a3 (hS.block _ (cellLt a3)); go_simp; with_reducible rfl); (try simp only [Act.put, List.getElem_toArray, List.getElem_cons_succ, List.getElem_cons_zero, List.setIfInBounds_toArray, List.set_cons_zero, List.set_cons_succ]))
          (refine tree_take (v := ?_) rfl (by rfl) (fun W' hS => ?_) ?_; rotate_left; (have d2 := cellOld a2 (hS.block _ (cellLt a2)); have d3 := cellOld a3 (hS.block _ (cellLt a3)); go_simp; with_reducible rfl); (try simp only [Act.put, List.getElem_toArray, List.getElem_cons_succ, List.getElem_cons_zero, List.setIfInBounds_toArray, List.set_cons_zero, List.set_cons_succ]))
          (refine tree_take (v := ?_) rfl (by rfl) (fun W' hS => ?_) ?_; rotate_left; (have d2 := cellOld a2 (hS.block _ (cellLt a2)); have d3 := cellOld a3 (hS.block _ (cellLt a3)); go_simp; with_reducible rfl); (try simp only [Act.put, List.getElem_toArray, List.getElem_cons_succ, List.getElem_cons_zero, List.setIfInBounds_toArray, List.set_cons_zero, List.set_cons_succ]))
          (refine tree_take (v := ?_) rfl (by rfl) (fun W' hS => ?_) ?_; rotate_left; (have d2 := cellOld a2 (hS.block _ (cellLt a2)); have d3 := cellOld a3 (hS.block _ (cellLt a3)); go_simp; with_reducible rfl); (try simp only [Act.put, List.getElem_toArray, List.getElem_cons_succ, List.getElem_cons_zero, List.setIfInBounds_toArray, List.set_cons_zero, List.set_cons_succ]))
          (refine tree_skip rfl (by rfl) ?_; (try simp only [Act.put, List.getElem_toArray, List.getElem_cons_succ, List.getElem_cons_zero, List.setIfInBounds_toArray, List.set_cons_zero, List.set_cons_succ]))
          (refine tree_skip rfl (by rfl) ?_; (try simp only [Act.put, List.getElem_toArray, List.getElem_cons_succ, List.getElem_cons_zero, List.setIfInBounds_toArray, List.set_cons_zero, List.set_cons_succ]))
          (refine tree_skip rfl (by rfl) ?_; (try simp only [Act.put, List.getElem_toArray, List.getElem_cons_succ, List.getElem_cons_zero, List.setIfInBounds_toArray, List.set_cons_zero, List.set_cons_succ]))
          (refine tree_skip rfl (by rfl) ?_; (try simp only [Act.put, List.getElem_toArray, List.getElem_cons_succ, List.getElem_cons_zero, List.setIfInBounds_toArray, List.set_cons_zero, List.set_cons_succ]))
          (refine tree_skip rfl (by rfl) ?_; (try simp only [Act.put, List.getElem_toArray, List.getElem_cons_succ, List.getElem_cons_zero, List.setIfInBounds_toArray, List.set_cons_zero, List.set_cons_succ]))
          (refine tree_skip rfl (by rfl) ?_; (try simp only [Act.put, List.getElem_toArray, List.getElem_cons_succ, List.getElem_cons_zero, List.setIfInBounds_toArray, List.set_cons_zero, List.set_cons_succ]))
          (refine tree_skip rfl (by rfl) ?_; (try simp only [Act.put, List.getElem_toArray, List.getElem_cons_succ, List.getElem_cons_zero, List.setIfInBounds_toArray, List.set_cons_zero, List.set_cons_succ]))
          (refine tree_skip rfl (by rfl) ?_; (try simp only [Act.put, List.getElem_toArray, List.getElem_cons_succ, List.getElem_cons_zero, List.setIfInBounds_toArray, List.set_cons_zero, List.set_cons_succ]))
          refine tree_one rfl (fun K' hK => ?_)
          rw [if_neg (by exact Bool.false_ne_true)]
          refine hK.out _ _ HB_W7.out fun _ => ?_
          clear hK
          (try simp only [Act.put, List.getElem_toArray, List.getElem_cons_succ, List.getElem_cons_zero, List.setIfInBounds_toArray, List.set_cons_zero, List.set_cons_succ])
          (refine tree_skip rfl (by rfl) ?_; (try simp only [Act.put, List.getElem_toArray, List.getElem_cons_succ, List.getElem_cons_zero, List.setIfInBounds_toArray, List.set_cons_zero, List.set_cons_succ]))
          (refine tree_take (v := ?_) rfl (by rfl) (fun W' hS => ?_) ?_; rotate_left; (have d2 := cellOld a2 (hS.block _ (cellLt a2)); have d3 := cellOld a3 (hS.block _ (cellLt a3)); go_simp; with_reducible rfl); (try simp only [Act.put, List.getElem_toArray, List.getElem_cons_succ, List.getElem_cons_zero, List.setIfInBounds_toArray, List.set_cons_zero, List.set_cons_succ]))
          (refine tree_take (v := ?_) rfl (by rfl) (fun W' hS => ?_) ?_; rotate_left; (have d2 := cellOld a2 (hS.block _ (cellLt a2)); have d3 := cellOld a3 (hS.block _ (cellLt a3)); go_simp; with_reducible rfl); (try simp only [Act.put, List.getElem_toArray, List.getElem_cons_succ, List.getElem_cons_zero, List.setIfInBounds_toArray, List.set_cons_zero, List.set_cons_succ]))
          (refine tree_take (v := ?_) rfl (by rfl) (fun W' hS => ?_) ?_; rotate_left; (have d2 := cellOld a2 (hS.block _ (cellLt a2)); have d3 := cellOld a3 (hS.block _ (cellLt a3)); go_simp; with_reducible rfl); (try simp only [Act.put, List.getElem_toArray, List.getElem_cons_succ, List.getElem_cons_zero, List.setIfInBounds_toArray, List.set_cons_zero, List.set_cons_succ]))
          (refine tree_take (v := ?_) rfl (by rfl) (fun W' hS => ?_) ?_; rotate_left; (have d2 := cellOld a2 (hS.block _ (cellLt a2)); have d3 := cellOld a3 (hS.block _ (cellLt a3)); go_simp; with_reducible rfl); (try simp only [Act.put, List.getElem_toArray, List.getElem_cons_succ, List.getElem_cons_zero, List.setIfInBounds_toArray, List.set_cons_zero, List.set_cons_succ]))
          (refine tree_take (v := ?_) rfl (by rfl) (fun W' hS => ?_) ?_; rotate_left; (have d2 := cellOld a2 (hS.block _ (cellLt a2)); have d3 := cellOld a3 (hS.block _ (cellLt a3)); go_simp; with_reducible rfl); (try simp only [Act.put, List.getElem_toArray, List.getElem_cons_succ, List.getElem_cons_zero, List.setIfInBounds_toArray, List.set_cons_zero, List.set_cons_succ]))
          (refine tree_take (v := ?_) rfl (by rfl) (fun W' hS => ?_) ?_; rotate_left; (have d2 := cellOld a2 (hS.block _ (cellLt a2)); have d3 := cellOld a3 (hS.block _ (cellLt a3)); go_simp; with_reducible rfl); (try simp only [Act.put, List.getElem_toArray, List.getElem_cons_succ, List.getElem_cons_zero, List.setIfInBounds_toArray, List.set_cons_zero, List.set_cons_succ]))
          (refine tree_take (v := ?_) rfl (by rfl) (fun W' hS => ?_) ?_; rotate_left; (have d2 := cellOld a2 (hS.block _ (cellLt a2)); have d3 := cellOld a3 (hS.block _ (cellLt a3)); go_simp; with_reducible rfl); (try simp only [Act.put, List.getElem_toArray, List.getElem_cons_succ, List.getElem_cons_zero, List.setIfInBounds_toArray, List.set_cons_zero, List.set_cons_succ]))
          (refine tree_take (v := ?_) rfl (by rfl) (fun W' hS => ?_) ?_; rotate_left; (have d2 := cellOld a2 (hS.block _ (cellLt a2)); have d3 := cellOld a3 (hS.block _ (cellLt a3)); go_simp; with_reducible rfl); (try simp only [Act.put, List.getElem_toArray, List.getElem_cons_succ, List.getElem_cons_zero, List.setIfInBounds_toArray, List.set_cons_zero, List.set_cons_succ]))
          refine tree_one rfl (fun K' hK => ?_)
          go_simp
          refine (HLV.out W7 HB_W7.out).mono ?_
          rintro xW8 W8 ⟨rfl, hB⟩
          have HB_W8 : Hid (Below W6.heap.size W6 W8) := Lib.hid (HB_W7.out.trans (hB.mono HB_W7.out.size))
          clear hB
          refine hK.out _ _ HB_W8.out fun _ => ?_
          clear hK
          (try simp only [Act.put, List.getElem_toArray, List.getElem_cons_succ, List.getElem_cons_zero, List.setIfInBounds_toArray, List.set_cons_zero, List.set_cons_succ])
          refine tree_one rfl (fun K' hK => ?_)
          go_simp
          refine (HHT.out W8 HB_W8.out).mono ?_
          rintro xW9 W9 ⟨rfl, hB⟩
          have HB_W9 : Hid (Below W6.heap.size W6 W9) := Lib.hid (HB_W8.out.trans (hB.mono HB_W8.out.size))
          clear hB
          refine hK.out _ _ HB_W9.out fun _ => ?_
          clear hK
          (try simp only [Act.put, List.getElem_toArray, List.getElem_cons_succ, List.getElem_cons_zero, List.setIfInBounds_toArray, List.set_cons_zero, List.set_cons_succ])
          (refine tree_take (v := ?_) rfl (by rfl) (fun W' hS => ?_) ?_; rotate_left; (have d2 := cellOld a2 (hS.block _ (cellLt a2)); have d3 := cellOld a3 (hS.block _ (cellLt a3)); go_simp; with_reducible rfl); (try simp only [Act.put, List.getElem_toArray, List.getElem_cons_succ, List.getElem_cons_zero, List.setIfInBounds_toArray, List.set_cons_zero, List.set_cons_succ]))
          (refine tree_take (v := ?_) rfl (by rfl) (fun W' hS => ?_) ?_; rotate_left; (have d2 := cellOld a2 (hS.block _ (cellLt a2)); have d3 := cellOld a3 (hS.block _ (cellLt a3)); go_simp; with_reducible rfl); (try simp only [Act.put, List.getElem_toArray, List.getElem_cons_succ, List.getElem_cons_zero, List.setIfInBounds_toArray, List.set_cons_zero, List.set_cons_succ]))
          (refine tree_take (v := ?_) rfl (by rfl) (fun W' hS => ?_) ?_; rotate_left; (have d2 := cellOld a2 (hS.block _ (cellLt a2)); have d3 := cellOld a3 (hS.block _ (cellLt a3)); go_simp; with_reducible rfl); (try simp only [Act.put, List.getElem_toArray, List.getElem_cons_succ, List.getElem_cons_zero, List.setIfInBounds_toArray, List.set_cons_zero, List.set_cons_succ]))
          refine NoPanic.normal ?_
          go_wp2_with fail
          go_meet
          exact ⟨by rw [HV.out], HB_W9⟩
        have hd := decide_eq_true h0
        cases ex with
        | false =>
          have HV : Hid (decide (BadP T E ∨ 8 < levL L ep + hgtT T 9 ef) = true) := Lib.hid (decide_eq_true (.inl (HBP.out.2 ⟨h0, .inl rfl⟩)))
          clear h0
          go_quiet (fail)
          obtain ⟨W7, hWq⟩ : ∃ W, W = W6.drewN nq := ⟨_, rfl⟩
          rw [← hWq]
          have HB7 : Hid (Below W6.heap.size W6 W7) := Lib.hid (by rw [hWq]; exact ⟨rfl, rfl, rfl, Nat.le_refl _, fun _ _ => rfl⟩)
          clear hWq
          go_wp2_with fail
          go_meet
          exact ⟨by rw [HV.out], HB7⟩
        | true =>
          cases r with
          | true =>
            have HV : Hid (decide (BadP T E ∨ 8 < levL L ep + hgtT T 9 ef) = true) := Lib.hid (decide_eq_true (.inl (HBP.out.2 ⟨h0, .inr rfl⟩)))
            clear h0
            refine wp_region_noPanic ?_
            refine region_tree (fun W' => Below W6.heap.size W6 W') (.take 0 (.take 1 (.take 2 (.take 3 (.take 4 (.take 5 (.take 6 (.take 7 (.take 8 (.take 9 (.take 10 (.take 11 (.one 12 (.take 13 (.take 14 (.take 15 (.take 16 (.take 17 (.take 18 (.take 20 (.take 21 (.take 22 (.one 19 (.one 23 (.take 24 (.take 25 (.take 26 .done))))))))))))))))))))))))))) (by kernel_rfl) (by kernel_rfl) (by kernel_rfl) (by decide) (fun _ _ _ _ h => h) ⟨rfl, rfl, rfl, Nat.le_refl _, fun _ _ => rfl⟩ ?_
            obtain ⟨W7, hW7⟩ : ∃ W, W = W6.drew := ⟨_, rfl⟩
            have HB_W7 : Hid (Below W6.heap.size W6 W7) := Lib.hid (by rw [hW7]; exact ⟨rfl, rfl, rfl, Nat.le_refl _, fun _ _ => rfl⟩)
            rw [← hW7]
            clear hW7
            (refine tree_take (v := ?_) rfl (by rfl) (fun W' hS => ?_) ?_; rotate_left; (have d2 := cellOld a2 (hS.block _ (cellLt a2)); have d3 := cellOld a3 (hS.block _ (cellLt a3)); go_simp; with_reducible rfl); (try simp only [Act.put, List.getElem_toArray, List.getElem_cons_succ, List.getElem_cons_zero, List.setIfInBounds_toArray, List.set_cons_zero, List.set_cons_succ]))
            (refine tree_take (v := ?_) rfl (by rfl) (fun W' hS => ?_) ?_; rotate_left; (have d2 := cellOld a2 (hS.block _ (cellLt a2)); have d3 := cellOld a3 (hS.block _ (cellLt a3)); go_simp; with_reducible rfl); (try simp only [Act.put, List.getElem_toArray, List.getElem_cons_succ, List.getElem_cons_zero, List.setIfInBounds_toArray, List.set_cons_zero, List.set_cons_succ]))
            (refine tree_take (v := ?_) rfl (by rfl) (fun W' hS => ?_) ?_; rotate_left; (have d2 := cellOld a2 (hS.block _ (cellLt a2)); have d3 := cellOld a3 (hS.block _ (cellLt a3)); go_simp; with_reducible rfl); (try simp only [Act.put, List.getElem_toArray, List.getElem_cons_succ, List.getElem_cons_zero, List.setIfInBounds_toArray, List.set_cons_zero, List.set_cons_succ]))
            (refine tree_take (v := ?_) rfl (by rfl) (fun W' hS => ?_) ?_; rotate_left; (have d2 := cellOld a2 (hS.block _ (cellLt a2)); have d3 := cellOld a3 (hS.block _ (cellLt a3)); go_simp; with_reducible rfl); (try simp only [Act.put, List.getElem_toArray, List.getElem_cons_succ, List.getElem_cons_zero, List.setIfInBounds_toArray, List.set_cons_zero, List.set_cons_succ]))
            (refine tree_take (v := ?_) rfl (by rfl) (fun W' hS => ?_) ?_; rotate_left; (have d2 := cellOld a2 (hS.block _ (cellLt a2)); have d3 := cellOld a3 (hS.block _ (cellLt a3)); go_simp; with_reducible rfl); (try simp only [Act.put, List.getElem_toArray, List.getElem_cons_succ, List.getElem_cons_zero, List.setIfInBounds_toArray, List.set_cons_zero, List.set_cons_succ]))
            (refine tree_take (v := ?_) rfl (by rfl) (fun W' hS => ?_) ?_; rotate_left; (have d2 := cellOld a2 (hS.block _ (cellLt a2)); have d3 := cellOld a3 (hS.block _ (cellLt a3)); go_simp; with_reducible rfl); (try simp only [Act.put, List.getElem_toArray, List.getElem_cons_succ, List.getElem_cons_zero, List.setIfInBounds_toArray, List.set_cons_zero, List.set_cons_succ]))
            (refine tree_take (v := ?_) rfl (by rfl) (fun W' hS => ?_) ?_; rotate_left; (have d2 := cellOld a2 (hS.block _ (cellLt a2)); have d3 := cellOld a3 (hS.block _ (cellLt a3)); go_simp; with_reducible rfl); (try simp only [Act.put, List.getElem_toArray, List.getElem_cons_succ, List.getElem_cons_zero, List.setIfInBounds_toArray, List.set_cons_zero, List.set_cons_succ]))
            (refine tree_take (v := ?_) rfl (by rfl) (fun W' hS => ?_) ?_; rotate_left; (have d2 := cellOld a2 (hS.block _ (cellLt a2)); have d3 := cellOld a3 (hS.block _ (cellLt a3)); go_simp; with_reducible rfl); (try simp only [Act.put, List.getElem_toArray, List.getElem_cons_succ, List.getElem_cons_zero, List.setIfInBounds_toArray, List.set_cons_zero, List.set_cons_succ]))
            (refine tree_take (v := ?_) rfl (by rfl) (fun W' hS => ?_) ?_; rotate_left; (have d2 := cellOld a2 (hS.block _ (cellLt a2)); have d3 := cellOld a3 (hS.block _ (cellLt a3)); go_simp; with_reducible rfl); (try simp only [Act.put, List.getElem_toArray, List.getElem_cons_succ, List.getElem_cons_zero, List.setIfInBounds_toArray, List.set_cons_zero, List.set_cons_succ]))
            (refine tree_take (v := ?_) rfl (by rfl) (fun W' hS => ?_) ?_; rotate_left; (have d2 := cellOld a2 (hS.block _ (cellLt a2)); have d3 := cellOld a3 (hS.block _ (cellLt a3)); go_simp; with_reducible rfl); (try simp only [Act.put, List.getElem_toArray, List.getElem_cons_succ, List.getElem_cons_zero, List.setIfInBounds_toArray, List.set_cons_zero, List.set_cons_succ]))
            (refine tree_take (v := ?_) rfl (by rfl) (fun W' hS => ?_) ?_; rotate_left; (have d2 := cellOld a2 (hS.block _ (cellLt a2)); have d3 := cellOld a3 (hS.block _ (cellLt a3)); go_simp; with_reducible rfl); (try simp only [Act.put, List.getElem_toArray, List.getElem_cons_succ, List.getElem_cons_zero, List.setIfInBounds_toArray, List.set_cons_zero, List.set_cons_succ]))
            (refine tree_take (v := ?_) rfl (by rfl) (fun W' hS => ?_) ?_; rotate_left; (have d2 := cellOld a2 (hS.block _ (cellLt a2)); have d3 := cellOld a3 (hS.block _ (cellLt a3)); go_simp; with_reducible rfl); (try simp only [Act.put, List.getElem_toArray, List.getElem_cons_succ, List.getElem_cons_zero, List.setIfInBounds_toArray, List.set_cons_zero, List.set_cons_succ]))
            refine tree_one rfl (fun K' hK => ?_)
            go_simp
            refine (HWi.out W7 HB_W7.out).mono ?_
            rintro xWa Wa ⟨rfl, hB⟩
            have HB_Wa : Hid (Below W6.heap.size W6 Wa) := Lib.hid (HB_W7.out.trans (hB.mono HB_W7.out.size))
            clear hB
            refine hK.out _ _ HB_Wa.out fun _ => ?_
            clear hK
            (try simp only [Act.put, List.getElem_toArray, List.getElem_cons_succ, List.getElem_cons_zero, List.setIfInBounds_toArray, List.set_cons_zero, List.set_cons_succ])
            (refine tree_take (v := ?_) rfl (by rfl) (fun W' hS => ?_) ?_; rotate_left; (have d2 := cellOld a2 (hS.block _ (cellLt a2)); have d3 := cellOld a3 (hS.block _ (cellLt a3)); go_simp; with_reducible rfl); (try simp only [Act.put, List.getElem_toArray, List.getElem_cons_succ, List.getElem_cons_zero, List.setIfInBounds_toArray, List.set_cons_zero, List.set_cons_succ]))
            (refine tree_take (v := ?_) rfl (by rfl) (fun W' hS => ?_) ?_; rotate_left; (have d2 := cellOld a2 (hS.block _ (cellLt a2)); have d3 := cellOld a3 (hS.block _ (cellLt a3)); go_simp; with_reducible rfl); (try simp only [Act.put, List.getElem_toArray, List.getElem_cons_succ, List.getElem_cons_zero, List.setIfInBounds_toArray, List.set_cons_zero, List.set_cons_succ]))
            (refine tree_take (v := ?_) rfl (by rfl) (fun W' hS => ?_) ?_; rotate_left; (have d2 := cellOld a2 (hS.block _ (cellLt a2)); have d3 := cellOld a3 (hS.block _ (cellLt a3)); go_simp; with_reducible rfl); (try simp only [Act.put, List.getElem_toArray, List.getElem_cons_succ, List.getElem_cons_zero, List.setIfInBounds_toArray, List.set_cons_zero, List.set_cons_succ]))
            (refine tree_skip rfl (by rfl) ?_; (try simp only [Act.put, List.getElem_toArray, List.getElem_cons_succ, List.getElem_cons_zero, List.setIfInBounds_toArray, List.set_cons_zero, List.set_cons_succ]))
            (refine tree_skip rfl (by rfl) ?_; (try simp only [Act.put, List.getElem_toArray, List.getElem_cons_succ, List.getElem_cons_zero, List.setIfInBounds_toArray, List.set_cons_zero, List.set_cons_succ]))
            (refine tree_skip rfl (by rfl) ?_; (try simp only [Act.put, List.getElem_toArray, List.getElem_cons_succ, List.getElem_cons_zero, List.setIfInBounds_toArray, List.set_cons_zero, List.set_cons_succ]))
            (refine tree_skip rfl (by rfl) ?_; (try simp only [Act.put, List.getElem_toArray, List.getElem_cons_succ, List.getElem_cons_zero, List.setIfInBounds_toArray, List.set_cons_zero, List.set_cons_succ]))
            (refine tree_skip rfl (by rfl) ?_; (try simp only [Act.put, List.getElem_toArray, List.getElem_cons_succ, List.getElem_cons_zero, List.setIfInBounds_toArray, List.set_cons_zero, List.set_cons_succ]))
            (refine tree_skip rfl (by rfl) ?_; (try simp only [Act.put, List.getElem_toArray, List.getElem_cons_succ, List.getElem_cons_zero, List.setIfInBounds_toArray, List.set_cons_zero, List.set_cons_succ]))
            refine tree_one rfl (fun K' hK => ?_)
            rw [if_neg (by exact Bool.false_ne_true)]
            refine hK.out _ _ HB_Wa.out fun _ => ?_
            clear hK
            (try simp only [Act.put, List.getElem_toArray, List.getElem_cons_succ, List.getElem_cons_zero, List.setIfInBounds_toArray, List.set_cons_zero, List.set_cons_succ])
            refine tree_one rfl (fun K' hK => ?_)
            rw [if_neg (by exact Bool.false_ne_true)]
            refine hK.out _ _ HB_Wa.out fun _ => ?_
            clear hK
            (try simp only [Act.put, List.getElem_toArray, List.getElem_cons_succ, List.getElem_cons_zero, List.setIfInBounds_toArray, List.set_cons_zero, List.set_cons_succ])
            (refine tree_skip rfl (by rfl) ?_; (try simp only [Act.put, List.getElem_toArray, List.getElem_cons_succ, List.getElem_cons_zero, List.setIfInBounds_toArray, List.set_cons_zero, List.set_cons_succ]))
            (refine tree_skip rfl (by rfl) ?_; (try simp only [Act.put, List.getElem_toArray, List.getElem_cons_succ, List.getElem_cons_zero, List.setIfInBounds_toArray, List.set_cons_zero, List.set_cons_succ]))
            (refine tree_take (v := ?_) rfl (by rfl) (fun W' hS => ?_) ?_; rotate_left; (have d2 := cellOld a2 (hS.block _ (cellLt a2)); have d3 := cellOld a3 (hS.block _ (cellLt a3)); go_simp; with_reducible rfl); (try simp only [Act.put, List.getElem_toArray, List.getElem_cons_succ, List.getElem_cons_zero, List.setIfInBounds_toArray, List.set_cons_zero, List.set_cons_succ]))
            refine NoPanic.normal ?_
            go_wp2_with fail
            go_meet
            exact ⟨by rw [HV.out], HB_Wa⟩
          | false =>
            have HV : Hid (decide (BadP T E ∨ 8 < levL L ep + hgtT T 9 ef) = decide ((8 : Int) < (lv : Int) + (ht9 : Int))) := Lib.hid (decide_eq_decide.2 ⟨fun h => h.elim (fun h => by rcases (HBP.out.1 h).2 with h | h <;> cases h) HSM.out.1, fun h => .inr (HSM.out.2 h)⟩)
            clear h0
            refine wp_region_noPanic ?_
            refine region_tree (fun W' => Below W6.heap.size W6 W') (.take 0 (.take 1 (.take 2 (.take 3 (.take 4 (.take 5 (.take 6 (.take 7 (.take 8 (.take 9 (.take 10 (.take 11 (.one 12 (.take 13 (.take 14 (.take 15 (.take 16 (.take 17 (.take 18 (.take 20 (.take 21 (.take 22 (.one 19 (.one 23 (.take 24 (.take 25 (.take 26 .done))))))))))))))))))))))))))) (by kernel_rfl) (by kernel_rfl) (by kernel_rfl) (by decide) (fun _ _ _ _ h => h) ⟨rfl, rfl, rfl, Nat.le_refl _, fun _ _ => rfl⟩ ?_
            obtain ⟨W7, hW7⟩ : ∃ W, W = W6.drew := ⟨_, rfl⟩
            have HB_W7 : Hid (Below W6.heap.size W6 W7) := Lib.hid (by rw [hW7]; exact ⟨rfl, rfl, rfl, Nat.le_refl _, fun _ _ => rfl⟩)
            rw [← hW7]
            clear hW7
            (refine tree_take (v := ?_) rfl (by rfl) (fun W' hS => ?_) ?_; rotate_left; (have d2 := cellOld a2 (hS.block _ (cellLt a2)); have d3 := cellOld a3 (hS.block _ (cellLt a3)); go_simp; with_reducible rfl); (try simp only [Act.put, List.getElem_toArray, List.getElem_cons_succ, List.getElem_cons_zero, List.setIfInBounds_toArray, List.set_cons_zero, List.set_cons_succ]))
            (refine tree_take (v := ?_) rfl (by rfl) (fun W' hS => ?_) ?_; rotate_left; (have d2 := cellOld a2 (hS.block _ (cellLt a2)); have d3 := cellOld a3 (hS.block _ (cellLt a3)); go_simp; with_reducible rfl); (try simp only [Act.put, List.getElem_toArray, List.getElem_cons_succ, List.getElem_cons_zero, List.setIfInBounds_toArray, List.set_cons_zero, List.set_cons_succ]))
            (refine tree_take (v := ?_) rfl (by rfl) (fun W' hS => ?_) ?_; rotate_left; (have d2 := cellOld a2 (hS.block _ (cellLt a2)); have d3 := cellOld a3 (hS.block _ (cellLt a3)); go_simp; with_reducible rfl); (try simp only [Act.put, List.getElem_toArray, List.getElem_cons_succ, List.getElem_cons_zero, List.setIfInBounds_toArray, List.set_cons_zero, List.set_cons_succ]))
            (refine tree_take (v := ?_) rfl (by rfl) (fun W' hS => ?_) ?_; rotate_left; (have d2 := cellOld a2 (hS.block _ (cellLt a2)); have d3 := cellOld a3 (hS.block _ (cellLt a3)); go_simp; with_reducible rfl); (try simp only [Act.put, List.getElem_toArray, List.getElem_cons_succ, List.getElem_cons_zero, List.setIfInBounds_toArray, List.set_cons_zero, List.set_cons_succ]))
            (refine tree_take (v := ?_) rfl (by rfl) (fun W' hS => ?_) ?_; rotate_left; (have d2 := cellOld a2 (hS.block _ (cellLt a2)); have d3 := cellOld a3 (hS.block _ (cellLt a3)); go_simp; with_reducible rfl); (try simp only [Act.put, List.getElem_toArray, List.getElem_cons_succ, List.getElem_cons_zero, List.setIfInBounds_toArray, List.set_cons_zero, List.set_cons_succ]))
            (refine tree_take (v := ?_) rfl (by rfl) (fun W' hS => ?_) ?_; rotate_left; (have d2 := cellOld a2 (hS.block _ (cellLt a2)); have d3 := cellOld a3 (hS.block _ (cellLt a3)); go_simp; with_reducible rfl); (try simp only [Act.put, List.getElem_toArray, List.getElem_cons_succ, List.getElem_cons_zero, List.setIfInBounds_toArray, List.set_cons_zero, List.set_cons_succ]))
            (refine tree_take (v := ?_) rfl (by rfl) (fun W' hS => ?_) ?_; rotate_left; (have d2 := cellOld a2 (hS.block _ (cellLt a2)); have d3 := cellOld a3 (hS.block _ (cellLt a3)); go_simp; with_reducible rfl); (try simp only [Act.put, List.getElem_toArray, List.getElem_cons_succ, List.getElem_cons_zero, List.setIfInBounds_toArray, List.set_cons_zero, List.set_cons_succ]))
            (refine tree_take (v := ?_) rfl (by rfl) (fun W' hS => ?_) ?_; rotate_left; (have d2 := cellOld a2 (hS.block _ (cellLt a2)); have d3 := cellOld a3 (hS.block _ (cellLt a3)); go_simp; with_reducible rfl); (try simp only [Act.put, List.getElem_toArray, List.getElem_cons_succ, List.getElem_cons_zero, List.setIfInBounds_toArray, List.set_cons_zero, List.set_cons_succ]))
            (refine tree_take (v := ?_) rfl (by rfl) (fun W' hS => ?_) ?_; rotate_left; (have d2 := cellOld a2 (hS.block _ (cellLt a2)); have d3 := cellOld a3 (hS.block _ (cellLt a3)); go_simp; with_reducible rfl); (try simp only [Act.put, List.getElem_toArray, List.getElem_cons_succ, List.getElem_cons_zero, List.setIfInBounds_toArray, List.set_cons_zero, List.set_cons_succ]))
            (refine tree_take (v := ?_) rfl (by rfl) (fun W' hS => ?_) ?_; rotate_left; (have d2 := cellOld a2 (hS.block _ (cellLt a2)); have d3 := cellOld a3 (hS.block _ (cellLt a3)); go_simp; with_reducible rfl); (try simp only [Act.put, List.getElem_toArray, List.getElem_cons_succ, List.getElem_cons_zero, List.setIfInBounds_toArray, List.set_cons_zero, List.set_cons_succ]))
            (refine tree_take (v := ?_) rfl (by rfl) (fun W' hS => ?_) ?_; rotate_left; (have d2 := cellOld a2 (hS.block _ (cellLt a2)); have d3 := cellOld a3 (hS.block _ (cellLt a3)); go_simp; with_reducible rfl); (try simp only [Act.put, List.getElem_toArray, List.getElem_cons_succ, List.getElem_cons_zero, List.setIfInBounds_toArray, List.set_cons_zero, List.set_cons_succ]))
            (refine tree_take (v := ?_) rfl (by rfl) (fun W' hS => ?_) ?_; rotate_left; (have d2 := cellOld a2 (hS.block _ (cellLt a2)); have d3 := cellOld a3 (hS.block _ (cellLt a3)); go_simp; with_reducible rfl); (try simp only [Act.put, List.getElem_toArray, List.getElem_cons_succ, List.getElem_cons_zero, List.setIfInBounds_toArray, List.set_cons_zero, List.set_cons_succ]))
            refine tree_one rfl (fun K' hK => ?_)
            go_simp
            refine (HWi.out W7 HB_W7.out).mono ?_
            rintro xWa Wa ⟨rfl, hB⟩
            have HB_Wa : Hid (Below W6.heap.size W6 Wa) := Lib.hid (HB_W7.out.trans (hB.mono HB_W7.out.size))
            clear hB
            refine hK.out _ _ HB_Wa.out fun _ => ?_
            clear hK
            (try simp only [Act.put, List.getElem_toArray, List.getElem_cons_succ, List.getElem_cons_zero, List.setIfInBounds_toArray, List.set_cons_zero, List.set_cons_succ])
            (refine tree_take (v := ?_) rfl (by rfl) (fun W' hS => ?_) ?_; rotate_left; (have d2 := cellOld a2 (hS.block _ (cellLt a2)); have d3 := cellOld a3 (hS.block _ (cellLt a3)); go_simp; with_reducible rfl); (try simp only [Act.put, List.getElem_toArray, List.getElem_cons_succ, List.getElem_cons_zero, List.setIfInBounds_toArray, List.set_cons_zero, List.set_cons_succ]))
            (refine tree_take (v := ?_) rfl (by rfl) (fun W' hS => ?_) ?_; rotate_left; (have d2 := cellOld a2 (hS.block _ (cellLt a2)); have d3 := cellOld a3 (hS.block _ (cellLt a3)); go_simp; with_reducible rfl); (try simp only [Act.put, List.getElem_toArray, List.getElem_cons_succ, List.getElem_cons_zero, List.setIfInBounds_toArray, List.set_cons_zero, List.set_cons_succ]))
            (refine tree_take (v := ?_) rfl (by rfl) (fun W' hS => ?_) ?_; rotate_left; (have d2 := cellOld a2 (hS.block _ (cellLt a2)); have d3 := cellOld a3 (hS.block _ (cellLt a3)); go_simp; with_reducible rfl); (try simp only [Act.put, List.getElem_toArray, List.getElem_cons_succ, List.getElem_cons_zero, List.setIfInBounds_toArray, List.set_cons_zero, List.set_cons_succ]))
            (refine tree_take (v := ?_) rfl (by rfl) (fun W' hS => ?_) ?_; rotate_left; (have d2 := cellOld a2 (hS.block _ (cellLt a2)); have d3 := cellOld a3 (hS.block _ (cellLt a3)); go_simp; with_reducible rfl); (try simp only [Act.put, List.getElem_toArray, List.getElem_cons_succ, List.getElem_cons_zero, List.setIfInBounds_toArray, List.set_cons_zero, List.set_cons_succ]))
            (refine tree_take (v := ?_) rfl (by rfl) (fun W' hS => ?_) ?_; rotate_left; (have d2 := cellOld a2 (hS.block _ (cellLt a2)); have d3 := cellOld a3 (hS.block _ (cellLt a3)); go_simp; with_reducible rfl); (try simp only [Act.put, List.getElem_toArray, List.getElem_cons_succ, List.getElem_cons_zero, List.setIfInBounds_toArray, List.set_cons_zero, List.set_cons_succ]))
            (refine tree_take (v := ?_) rfl (by rfl) (fun W' hS => ?_) ?_; rotate_left; (have d2 := cellOld a2 (hS.block _ (cellLt a2)); have d3 := cellOld a3 (hS.block _ (cellLt a3)); go_simp; with_reducible rfl); (try simp only [Act.put, List.getElem_toArray, List.getElem_cons_succ, List.getElem_cons_zero, List.setIfInBounds_toArray, List.set_cons_zero, List.set_cons_succ]))
            (refine tree_take (v := ?_) rfl (by rfl) (fun W' hS => ?_) ?_; rotate_left; (have d2 := cellOld a2 (hS.block _ (cellLt a2)); have d3 := cellOld a3 (hS.block _ (cellLt a3)); go_simp; with_reducible rfl); (try simp only [Act.put, List.getElem_toArray, List.getElem_cons_succ, List.getElem_cons_zero, List.setIfInBounds_toArray, List.set_cons_zero, List.set_cons_succ]))
            (refine tree_take (v := ?_) rfl (by rfl) (fun W' hS => ?_) ?_; rotate_left; (have d2 := cellOld a2 (hS.block _ (cellLt a2)); have d3 := cellOld a3 (hS.block _ (cellLt a3)); go_simp; with_reducible rfl); (try simp only [Act.put, List.getElem_toArray, List.getElem_cons_succ, List.getElem_cons_zero, List.setIfInBounds_toArray, List.set_cons_zero, List.set_cons_succ]))
            (refine tree_take (v := ?_) rfl (by rfl) (fun W' hS => ?_) ?_; rotate_left; (have d2 := cellOld a2 (hS.block _ (cellLt a2)); have d3 := cellOld a3 (hS.block _ (cellLt a3)); go_simp; with_reducible rfl); (try simp only [Act.put, List.getElem_toArray, List.getElem_cons_succ, List.getElem_cons_zero, List.setIfInBounds_toArray, List.set_cons_zero, List.set_cons_succ]))
            refine tree_one rfl (fun K' hK => ?_)
            go_simp
            refine (HLV.out Wa HB_Wa.out).mono ?_
            rintro xW8 W8 ⟨rfl, hB⟩
            have HB_W8 : Hid (Below W6.heap.size W6 W8) := Lib.hid (HB_Wa.out.trans (hB.mono HB_Wa.out.size))
            clear hB
            refine hK.out _ _ HB_W8.out fun _ => ?_
            clear hK
            (try simp only [Act.put, List.getElem_toArray, List.getElem_cons_succ, List.getElem_cons_zero, List.setIfInBounds_toArray, List.set_cons_zero, List.set_cons_succ])
            refine tree_one rfl (fun K' hK => ?_)
            go_simp
            refine (HHT.out W8 HB_W8.out).mono ?_
            rintro xW9 W9 ⟨rfl, hB⟩
            have HB_W9 : Hid (Below W6.heap.size W6 W9) := Lib.hid (HB_W8.out.trans (hB.mono HB_W8.out.size))
            clear hB
            refine hK.out _ _ HB_W9.out fun _ => ?_
            clear hK
            (try simp only [Act.put, List.getElem_toArray, List.getElem_cons_succ, List.getElem_cons_zero, List.setIfInBounds_toArray, List.set_cons_zero, List.set_cons_succ])
            (refine tree_take (v := ?_) rfl (by rfl) (fun W' hS => ?_) ?_; rotate_left; (have d2 := cellOld a2 (hS.block _ (cellLt a2)); have d3 := cellOld a3 (hS.block _ (cellLt a3)); go_simp; with_reducible rfl); (try simp only [Act.put, List.getElem_toArray, List.getElem_cons_succ, List.getElem_cons_zero, List.setIfInBounds_toArray, List.set_cons_zero, List.set_cons_succ]))
            (refine tree_take (v := ?_) rfl (by rfl) (fun W' hS => ?_) ?_; rotate_left; (have d2 := cellOld a2 (hS.block _ (cellLt a2)); have d3 := cellOld a3 (hS.block _ (cellLt a3)); go_simp; with_reducible rfl); (try simp only [Act.put, List.getElem_toArray, List.getElem_cons_succ, List.getElem_cons_zero, List.setIfInBounds_toArray, List.set_cons_zero, List.set_cons_succ]))
            (refine tree_take (v := ?_) rfl (by rfl) (fun W' hS => ?_) ?_; rotate_left; (have d2 := cellOld a2 (hS.block _ (cellLt a2)); have d3 := cellOld a3 (hS.block _ (cellLt a3)); go_simp; with_reducible rfl); (try simp only [Act.put, List.getElem_toArray, List.getElem_cons_succ, List.getElem_cons_zero, List.setIfInBounds_toArray, List.set_cons_zero, List.set_cons_succ]))
            refine NoPanic.normal ?_
            go_wp2_with fail
            go_meet
            exact ⟨by rw [HV.out], HB_W9⟩
      case rest =>
        obtain ⟨hv, HBc⟩ := hcut
        have HAc := Lib.hid (HA6.out.below HBc.out)
        have HMc : Hid (MapP wc b nn (placeT T)) := Lib.hid (MapP.below HM6.out HBc.out (SMap.lt HM6.out))
        have HXc := Lib.hid ((HBc.out.block A hA6').trans HX6.out)
        have HF2 : Hid (∃ L, Frst (stepT T E) L) := Lib.hid (HFL.out.step HOK.out)
        have hEp : E.p = ep := by rw [HEE.out]
        have hEf : E.f = ef := by rw [HEE.out]
        rw [hEp, hEf] at HPT
        by_cases hb : BadP T E ∨ 8 < levL L ep + hgtT T 9 ef
        case pos =>
          have hst : stepT T E = T := by unfold stepT; rw [HPT.out, if_pos hb]; rfl
          rw [decide_eq_true hb] at hv
          have HE3 : Hid ((O.drop (k + 1)).foldl stepT T = treeP l) := Lib.hid (by have h := HE2.out; rw [hst] at h; exact h)
          have HF3 : Hid (∃ L, Frst T L) := Lib.hid ⟨L, HFL.out⟩
          clear hb hst hEp hEf
          subst hv
          go_wp2_with fail
          exact ⟨⟨k + 1, nn, T, by go_num, by omega, by omega, HF3, HE3, HMc, HAc⟩, by simp only [intOf]; omega⟩
        have hst : stepT T E = insT E T := by unfold stepT; rw [HPT.out, if_neg hb]; rfl
        rw [decide_eq_false hb] at hv
        rw [hst] at HE2 HF2
        have hIf : I64 ef := by
          have h := HOK.out
          rw [HEE.out] at h
          have h1 : 0 ≤ ef := h.2.2.1.1
          have h2 : ef ≤ 15 := h.2.2.1.2
          exact I64_lim (by omega) h2
        have hbf : (fun y => if y = ef then some E else placeT T y) = placeT (insT E T) := by
          rw [insT_place HFL.out.sort]
          funext y
          unfold updF
          rw [hEf]
        have HBF := Lib.hid hbf
        obtain ⟨a0', a1', a2', a3', a4'⟩ := box_cells HXc.out
        dsimp only at a0' a1' a2' a3' a4'
        have hml : nn < maxLen := by unfold maxLen; omega
        clear hb hst hEp hEf hbf a0 a1 a2 a3 a4
        subst hv
        go_wp2_with (at_mapUpdate; refine wpList_sput (E := KP) rfl _ _ _ 48 rfl Try.underlying3 Try.underlying48 b nn _ rfl HMc.out hml ef rfl hIf E (by rw [HEE.out]; rfl) ?_; intro w8 hm8 ht8)
        rw [HBF.out] at hm8
        have HM8 : Hid (MapP w8 b (nn + 1) (placeT (insT E T))) := Lib.hid hm8
        have HA8 := Lib.hid (HAc.out.trans (turned_away ht8))
        clear hm8 ht8
        go_wp2_with fail
        exact ⟨⟨k + 1, nn + 1, insT E T, by go_num, by omega, by omega, HF2, HE2, HM8, HA8⟩, by simp only [intOf]; omega⟩
end Go.Proofs.Ytcflnjmglanneaa
