/- The walk of FoldersForest. -/
import Derived.Test.YtcflnjmglanneaaUs
namespace Go.Proofs.Ytcflnjmglanneaa
open Go.RowKit Go.Maps Go.Sort
set_option maxRecDepth 100000
set_option linter.unusedVariables false
set_option linter.unusedSimpArgs false

theorem sched_done2 {P : Program} {ops : Array Oper} {Q : Exit → Act → World → Prop} {S : World → Prop} {f : Nat} {a : Act} {w : World} (h : Q .normal a w) : wpSched P ops Q S f [] a w := h
theorem int_inj (x y : Int) (h : Value.int .i64 x = Value.int .i64 y) : x = y := by injection h
noncomputable def KI : SKind Int := SKind.of (Value.int .i64) 0 int_inj
def MapI (w : World) (b n : Nat) (f : Int → Option Int) : Prop := SMap Try.prog KI 3 w b n f
theorem zero_int (w : World) : (zeroValue 3).run Try.prog w = .ok (.int .i64 0) w := by first | exact Try.zeroValue3 w | rfl
theorem MapI.look {w : World} {b n : Nat} {f : Int → Option Int} (h : MapI w b n f) {x u : Int} (hx : I64 x) (hf : f x = some u) : (Instr.lookup 42 (.map (some b)) (.int .i64 x) true).run Try.prog w = .ok (.tuple #[.int .i64 u, .bool true]) w := by
  have := SMap.look (E := KI) h Try.underlying3 Try.underlying42 (zero_int w) hx true
  rw [hf] at this
  exact this
theorem up_start {T : List Pl} {x : Int} {e : Pl} {n : Nat} (h : placeT T x = some e) : upT T (n + 1) x = if 0 ≤ e.p then e.p :: upT T n e.p else [] := by
  by_cases hp : 0 ≤ e.p
  · rw [if_pos hp]; exact upT_more h hp
  · rw [if_neg hp]; exact upT_top h hp
theorem drop_cons_at {U : List Int} {m : Nat} {q : Int} {r : List Int} (h : U.drop m = q :: r) : m < U.length ∧ U.getD m 0 = q ∧ U.drop (m + 1) = r ∧ q ∈ U := by
  have hm : m < U.length := by
    rcases Nat.lt_or_ge m U.length with h1 | h1
    · exact h1
    · rw [List.drop_of_length_le h1] at h; cases h
  rw [List.drop_eq_getElem_cons hm] at h
  injection h with h1 h2
  refine ⟨hm, by simp [List.getD, hm, h1], h2, ?_⟩
  rw [← h1]; exact List.getElem_mem _
theorem once_p {T : List Pl} (ho : Once T) {k : Nat} {e : Pl} (he : T[k]? = some e) (ht : T.take (k + 1) = T.take k ++ [e]) {f : Int → Option Int} (hf : ∀ y ∈ T.take k, f y.f = some y.p) : ∀ y ∈ T.take (k + 1), (fun z => if z = e.f then some e.p else f z) y.f = some y.p := by
  intro y hy
  rw [ht, List.mem_append, List.mem_singleton] at hy
  dsimp only
  by_cases h : y.f = e.f
  · rw [if_pos h]
    have he' : e ∈ T := List.mem_iff_getElem?.2 ⟨k, he⟩
    rcases hy with hy | rfl
    · have h1 := ho y (List.mem_of_mem_take hy)
      have h2 := ho e he'
      rw [h, h2] at h1
      injection h1 with h1
      rw [h1]
    · rfl
  · rw [if_neg h]
    rcases hy with hy | rfl
    · exact hf y hy
    · exact absurd rfl h
set_option maxHeartbeats 16000000 in
theorem forest_walk (l : List Pl) (v : Value) (w : World) (ht : PlAt w v l) (hl : l.length ≤ maxLen) :
    Calls Try.prog 7 #[v] w fun e w' => e = .returned (.bool true) ∧ Below w.heap.size w w' := by
  obtain ⟨pt, pc, rfl, hc, -⟩ := ht.form
  have HT := Lib.hid ht
  obtain ⟨n, hn⟩ : ∃ n, n = l.length := ⟨_, rfl⟩
  have HN := Lib.hid hn
  rw [← hn] at HT hl hc ⊢
  obtain ⟨L, hF⟩ := treeP_frst l
  have HF := Lib.hid hF
  have HIN : Hid (∀ e ∈ treeP l, e ∈ l ∧ okP e) := Lib.hid (fun e he => mem_treeL cmp_tot he)
  have HCHK := Lib.hid (fun x W => fcheck_ok x W)
  clear ht hn hF
  go_enter Try.func7, Try.ntmps7
  go_wp2_with fail
  refine (sane_ok w).mono ?_
  rintro e W1 ⟨rfl, hB⟩
  have HB1 : Hid (Below w.heap.size w W1) := Lib.hid (hB)
  have HT_1 := Lib.hid ((HT.out).below hB)
  clear hB HT
  go_wp2_with fail
  refine (few_ok pt none n pc 0 0 W1 hl (Nat.zero_le _)).mono ?_
  rintro e W2 ⟨rfl, rfl⟩
  by_cases h30 : n ≤ 30
  case neg =>
    rw [decide_eq_false (show ¬ (n ≤ 30 ∧ 0 ≤ 30) from fun h => h30 h.1)]
    clear h30
    go_wp2_with fail
    go_ret
    exact ⟨rfl, HB1.out⟩
  rw [decide_eq_true (show (n ≤ 30 ∧ 0 ≤ 30) from ⟨h30, by decide⟩)]
  go_wp2_with fail
  refine (tree_ok l (.slice pt n pc) W1 HT_1.out (by have := HN.out; omega)).mono ?_
  rintro e W2 ⟨ut, rfl, hu, hB⟩
  have HB2 : Hid (Below w.heap.size w W2) := Lib.hid (below_trans HB1.out hB)
  have HT_2 := Lib.hid ((HT_1.out).below hB)
  obtain ⟨pr, cr, hv, -⟩ := (show _ from hu.form)
  obtain ⟨nr, hnr⟩ : ∃ z, z = (treeP l).length := ⟨_, rfl⟩
  have HU_2 := Lib.hid hu
  rw [← hnr] at hv
  have HNR := Lib.hid hnr
  subst hv
  clear hu hnr
  clear hB HB1 HT_1
  have hr16 : nr ≤ 16 := by rw [HNR.out]; exact treeP_few l
  have hpl := place_held
  have hpg := place_guard
  have hmm := @run_makeMap Try.prog
  have hM0 : MapI (W2.alloc (.map #[] 0)) W2.heap.size 0 (fun _ => none) := SMap.made Try.prog KI 3 W2
  have hM0B := below_alloc W2 (.map #[] 0)
  obtain ⟨M, hM⟩ : ∃ M, M = W2.heap.size := ⟨_, rfl⟩
  obtain ⟨W5, hW5⟩ : ∃ W, W = W2.alloc (.map #[] 0) := ⟨_, rfl⟩
  rw [← hM, ← hW5] at hM0
  rw [← hW5] at hM0B
  have HM0 := Lib.hid hM0
  have HM0B := Lib.hid hM0B
  have HME := Lib.hid hM
  have HW5 := Lib.hid hW5
  clear hM0 hM0B hM hW5
  go_wp2_with fail
  clear hmm
  try rw [← HW5.out]
  try rw [← HME.out]
  go_loopw [5] (fun v5 wr => ∃ (k m : Nat) (f : Int → Option Int), v5 = .int .i64 k ∧ k ≤ nr ∧ m ≤ k ∧ Hid (MapI wr M m f) ∧ Hid (∀ e ∈ (treeP l).take k, f e.f = some e.p) ∧ Hid (Below W2.heap.size W2 wr)) (fun v5 _ => nr - (intOf v5).toNat)
  case atStart => exact ⟨0, 0, _, rfl, Nat.zero_le _, Nat.le_refl _, HM0, Lib.hid (fun e he => by simp at he), HM0B⟩
  case round =>
    obtain ⟨k, m, f, rfl, hk, hmk, HM, HFM, HBr⟩ := hrel
    by_cases hkn : k < nr
    case pos =>
      have hd := decide_eq_true (show ((k : Int) < (nr : Int)) by omega)
      have hd' := decide_eq_true hkn
      obtain ⟨e, he, ht1⟩ := take_at (l := treeP l) (j := k) (by rw [← HNR.out]; exact hkn)
      have HPREV : Hid (∀ j, j + 1 = k → ∃ y, (treeP l)[j]? = some y ∧ y.f < e.f) := Lib.hid (fun j hj => by
        obtain ⟨y, hy, -⟩ := take_at (l := treeP l) (j := j) (by rw [← HNR.out]; omega)
        refine ⟨y, hy, ?_⟩
        obtain ⟨h1, rfl⟩ := List.getElem?_eq_some_iff.1 hy
        obtain ⟨h2, rfl⟩ := List.getElem?_eq_some_iff.1 he
        exact List.pairwise_iff_getElem.1 HF.out.sort j k h1 h2 (by omega))
      obtain ⟨gg, oo, rfl, hcs⟩ := (HU_2.out).cells.2.2 (by omega)
      have HCS := Lib.hid hcs
      obtain ⟨c0, c1, c2, c3, c4⟩ := (hcs k e he).below HBr.out
      obtain ⟨heL, heK⟩ := HIN.out e (List.mem_iff_getElem?.2 ⟨k, he⟩)
      have HEL := Lib.hid heL
      have HEK := Lib.hid heK
      have HNX := Lib.hid (once_p HF.out.sort.once he ht1 HFM.out)
      obtain ⟨et, ed, ef, ep, en⟩ := e
      dsimp only at c0 c1 c2 c3 c4 HPREV HNX
      have HIF : Hid (I64 ef) := Lib.hid (by have := heK.2.2.1; dsimp only at this; exact I64.of ⟨by omega, by omega⟩)
      have hba := below_alloc wr (.cells #[.int .i64 0, .int .i64 0, .int .i64 0, .int .i64 0, .string ⟨#[]⟩] 24)
      have hbx : (wr.alloc (.cells #[.int .i64 0, .int .i64 0, .int .i64 0, .int .i64 0, .string ⟨#[]⟩] 24)).heap[wr.heap.size]? = some (.cells #[.int .i64 0, .int .i64 0, .int .i64 0, .int .i64 0, .string ⟨#[]⟩] 24 (0, 0)) := World.alloc_heap_new wr _
      have hbs : Below wr.heap.size wr ((wr.alloc (.cells #[.int .i64 0, .int .i64 0, .int .i64 0, .int .i64 0, .string ⟨#[]⟩] 24)).setRow wr.heap.size #[.int .i64 et, .int .i64 ed, .int .i64 ef, .int .i64 ep, .string en]) := below_setRow hba (Nat.le_refl _) _
      have hxs := setRow_heap _ _ _ #[.int .i64 et, .int .i64 ed, .int .i64 ef, .int .i64 ep, .string en] _ _ hbx
      have HBS := Lib.hid hbs
      have HXS := Lib.hid hxs
      have HBX := Lib.hid hbx
      clear hcs he ht1 heL heK hba hbs hxs hbx
      go_wp2_with (refine wpList_plain rfl fun _ hK => wp_store_row 24 _ _ rfl wr.heap.size #[.int .i64 et, .int .i64 ed, .int .i64 ef, .int .i64 ep, .string en] rfl rfl 24 _ HBX.out place_size rfl (by simp [Value.oneCell']) (hK _ _ ?_))
      obtain ⟨W8, hW8⟩ : ∃ W, W = (wr.alloc (.cells #[.int .i64 0, .int .i64 0, .int .i64 0, .int .i64 0, .string ⟨#[]⟩] 24)).setRow wr.heap.size #[.int .i64 et, .int .i64 ed, .int .i64 ef, .int .i64 ep, .string en] := ⟨_, rfl⟩
      obtain ⟨Bx, hBx⟩ : ∃ b, b = wr.heap.size := ⟨_, rfl⟩
      rw [← hW8] at HBS HXS ⊢
      rw [← hBx] at HXS ⊢
      clear hW8 hBx HBX
      have hBl : Bx < W8.heap.size := (Array.getElem?_eq_some_iff.1 HXS.out).1
      have HB8 : Hid (Below W2.heap.size W2 W8) := Lib.hid (HBr.out.trans (HBS.out.mono HBr.out.size))
      have HT8 := Lib.hid ((HT_2.out).below HB8.out)
      have HM8 : Hid (MapI W8 M m f) := Lib.hid (SMap.below HM.out HBS.out (SMap.lt HM.out))
      clear c0 c1 c2 c3 c4 HM HBS HBr
      go_loopw [7, 8] (fun v7 v8 wz => ∃ (j : Nat) (fx : Bool), v7 = .bool fx ∧ v8 = .int .i64 j ∧ j ≤ n ∧ Hid (fx = decide ((⟨et, ed, ef, ep, en⟩ : Pl) ∈ l.take j)) ∧ Hid (Below W8.heap.size W8 wz)) (fun _ v8 _ => n - (intOf v8).toNat)
      case atStart => exact ⟨0, false, rfl, rfl, Nat.zero_le _, Lib.hid (by simp), Lib.hid (Below.refl _ _)⟩
      case round =>
        obtain ⟨j, fx, rfl, rfl, hj0, HE, HBz⟩ := hrel
        by_cases hjn : j < n
        case pos =>
          have hd := decide_eq_true (show ((j : Int) < (n : Int)) by omega)
          have hd' := decide_eq_true hjn
          obtain ⟨y, hy, ht1⟩ := take_at (l := l) (j := j) (by rw [← HN.out]; exact hjn)
          obtain ⟨g2, o2, rfl, hcs⟩ := HT8.out.cells.2.2 (by omega)
          obtain ⟨c0, c1, c2, c3, c4⟩ := (hcs j y hy).below HBz.out
          obtain ⟨b0, b1, b2, b3, b4⟩ := box_cells (x := ⟨et, ed, ef, ep, en⟩) ((HBz.out.block Bx hBl).trans HXS.out)
          have HE2 := Lib.hid (take_mem (e := (⟨et, ed, ef, ep, en⟩ : Pl)) ht1)
          obtain ⟨yt, yd, yf, yp, yn⟩ := y
          dsimp only at c0 c1 c2 c3 c4 b0 b1 b2 b3 b4
          rw [← HE.out] at HE2
          clear hcs hy ht1 HE
          cases fx with
          | true =>
            have HE3 : Hid (true = decide ((⟨et, ed, ef, ep, en⟩ : Pl) ∈ l.take (j + 1))) := Lib.hid (by rw [HE2.out]; rfl)
            go_upto_region 15 with fail
            go_quiet (fail)
            go_wp2_with fail
            exact ⟨⟨j + 1, true, rfl, by go_num, by omega, HE3, Lib.hid (HBz.out.trans ⟨rfl, rfl, rfl, Nat.le_refl _, fun _ _ => rfl⟩)⟩, by simp only [intOf]; omega⟩
          | false =>
            by_cases ht : yt = et
            case neg =>
              have he1 : (yt == et) = false := by simpa using ht
              have he2 : decide (yt = et) = false := by simpa using ht
              have HE3 : Hid (false = decide ((⟨et, ed, ef, ep, en⟩ : Pl) ∈ l.take (j + 1))) := Lib.hid (by rw [HE2.out, decide_eq_false (fun hh => ht (by cases hh; rfl))]; rfl)
              clear ht
              go_upto_region 15 with fail
              go_quiet (fail)
              go_wp2_with fail
              exact ⟨⟨j + 1, false, rfl, by go_num, by omega, HE3, Lib.hid (HBz.out.trans ⟨rfl, rfl, rfl, Nat.le_refl _, fun _ _ => rfl⟩)⟩, by simp only [intOf]; omega⟩
            have ht' := ht.symm
            clear ht
            subst ht'
            by_cases hd : yd = ed
            case neg =>
              have he1 : (yd == ed) = false := by simpa using hd
              have he2 : decide (yd = ed) = false := by simpa using hd
              have HE3 : Hid (false = decide ((⟨et, ed, ef, ep, en⟩ : Pl) ∈ l.take (j + 1))) := Lib.hid (by rw [HE2.out, decide_eq_false (fun hh => hd (by cases hh; rfl))]; rfl)
              clear hd
              go_upto_region 15 with fail
              go_quiet (fail)
              go_wp2_with fail
              exact ⟨⟨j + 1, false, rfl, by go_num, by omega, HE3, Lib.hid (HBz.out.trans ⟨rfl, rfl, rfl, Nat.le_refl _, fun _ _ => rfl⟩)⟩, by simp only [intOf]; omega⟩
            have hd' := hd.symm
            clear hd
            subst hd'
            by_cases hf : yf = ef
            case neg =>
              have he1 : (yf == ef) = false := by simpa using hf
              have he2 : decide (yf = ef) = false := by simpa using hf
              have HE3 : Hid (false = decide ((⟨et, ed, ef, ep, en⟩ : Pl) ∈ l.take (j + 1))) := Lib.hid (by rw [HE2.out, decide_eq_false (fun hh => hf (by cases hh; rfl))]; rfl)
              clear hf
              go_upto_region 15 with fail
              go_quiet (fail)
              go_wp2_with fail
              exact ⟨⟨j + 1, false, rfl, by go_num, by omega, HE3, Lib.hid (HBz.out.trans ⟨rfl, rfl, rfl, Nat.le_refl _, fun _ _ => rfl⟩)⟩, by simp only [intOf]; omega⟩
            have hf' := hf.symm
            clear hf
            subst hf'
            by_cases hp : yp = ep
            case neg =>
              have he1 : (yp == ep) = false := by simpa using hp
              have he2 : decide (yp = ep) = false := by simpa using hp
              have HE3 : Hid (false = decide ((⟨et, ed, ef, ep, en⟩ : Pl) ∈ l.take (j + 1))) := Lib.hid (by rw [HE2.out, decide_eq_false (fun hh => hp (by cases hh; rfl))]; rfl)
              clear hp
              go_upto_region 15 with fail
              go_quiet (fail)
              go_wp2_with fail
              exact ⟨⟨j + 1, false, rfl, by go_num, by omega, HE3, Lib.hid (HBz.out.trans ⟨rfl, rfl, rfl, Nat.le_refl _, fun _ _ => rfl⟩)⟩, by simp only [intOf]; omega⟩
            have hp' := hp.symm
            clear hp
            subst hp'
            by_cases hn : yn = en
            case neg =>
              have he0 : ¬ yn.toList = en.toList := fun h => hn (bytes_toList.1 h)
              have he1 : (yn.toList == en.toList) = false := by simpa using he0
              have he2 : decide (yn.toList = en.toList) = false := by simpa using he0
              have HE3 : Hid (false = decide ((⟨et, ed, ef, ep, en⟩ : Pl) ∈ l.take (j + 1))) := Lib.hid (by rw [HE2.out, decide_eq_false (fun hh => hn (by cases hh; rfl))]; rfl)
              clear hn
              go_upto_region 15 with fail
              go_quiet (fail)
              go_wp2_with fail
              exact ⟨⟨j + 1, false, rfl, by go_num, by omega, HE3, Lib.hid (HBz.out.trans ⟨rfl, rfl, rfl, Nat.le_refl _, fun _ _ => rfl⟩)⟩, by simp only [intOf]; omega⟩
            have hn' := hn.symm
            clear hn
            subst hn'
            have HE3 : Hid (true = decide ((⟨et, ed, ef, ep, en⟩ : Pl) ∈ l.take (j + 1))) := Lib.hid (by rw [HE2.out, decide_eq_true rfl]; rfl)
            go_upto_region 15 with fail
            go_quiet (fail)
            go_wp2_with fail
            exact ⟨⟨j + 1, true, rfl, by go_num, by omega, HE3, Lib.hid (HBz.out.trans ⟨rfl, rfl, rfl, Nat.le_refl _, fun _ _ => rfl⟩)⟩, by simp only [intOf]; omega⟩
        have hd := decide_eq_false (show ¬ ((j : Int) < (n : Int)) by omega)
        have hd' := decide_eq_false hjn
        obtain rfl : fx = true := by rw [HE.out, List.take_of_length_le (by rw [← HN.out]; omega)]; exact decide_eq_true HEL.out
        have HB9 : Hid (Below W2.heap.size W2 wr) := Lib.hid (HB8.out.trans (HBz.out.mono HB8.out.size))
        have HM9 : Hid (MapI wr M m f) := Lib.hid (SMap.below HM8.out HBz.out (SMap.lt HM8.out))
        have HX9 := Lib.hid ((HBz.out.block Bx hBl).trans HXS.out)
        have hBl9 : Bx < wr.heap.size := Nat.lt_of_lt_of_le hBl HBz.out.size
        clear hjn HE HB8 HM8 HXS hBl HBz hj0 HT8
        rename World => W9
        obtain ⟨b0, b1, b2, b3, b4⟩ := box_cells (x := ⟨et, ed, ef, ep, en⟩) HX9.out
        dsimp only at b0 b1 b2 b3 b4
        go_upto_region 16 with fail
        rcases Nat.eq_zero_or_pos k with hk0 | hk0
        · have hg1 : decide ((k : Int) > 0) = false := decide_eq_false (by omega)
          have hg2 : decide ((0 : Int) < (k : Int)) = false := decide_eq_false (by omega)
          have hg3 : decide (0 < k) = false := decide_eq_false (by omega)
          clear hk0
          refine wp_region_noPanic ?_
          refine region_sched (fun W' => Below W9.heap.size W9 W') 100 [(0, true), (1, true), (2, true), (3, true), (4, false), (5, true), (6, true), (7, true), (8, true), (9, true), (10, true), (11, true), (12, true), (13, true), (14, true), (15, true), (16, true), (17, true), (18, true), (19, true), (20, true), (21, true)] (by kernel_rfl) (by kernel_rfl) (by kernel_rfl) rfl (fun _ _ _ _ h => h) ⟨rfl, rfl, rfl, Nat.le_refl _, fun _ _ => rfl⟩ ?_
          obtain ⟨Wd, hWd⟩ : ∃ W, W = W9.drew := ⟨_, rfl⟩
          have HSd : Hid (Below W9.heap.size W9 Wd) := Lib.hid (by rw [hWd]; exact ⟨rfl, rfl, rfl, Nat.le_refl _, fun _ _ => rfl⟩)
          rw [← hWd]
          clear hWd
          (refine sched_take (v := ?_) rfl (by rfl) (fun W' hS => ?_) ?_; rotate_left; (have d0 := cellOld b0 (hS.block _ (cellLt b0)); have d1 := cellOld b1 (hS.block _ (cellLt b1)); have d2 := cellOld b2 (hS.block _ (cellLt b2)); have d3 := cellOld b3 (hS.block _ (cellLt b3)); have d4 := cellOld b4 (hS.block _ (cellLt b4)); go_simp; with_reducible rfl); (try simp only [Act.put, List.getElem_toArray, List.getElem_cons_succ, List.getElem_cons_zero, List.setIfInBounds_toArray, List.set_cons_zero, List.set_cons_succ]))
          (refine sched_take (v := ?_) rfl (by rfl) (fun W' hS => ?_) ?_; rotate_left; (have d0 := cellOld b0 (hS.block _ (cellLt b0)); have d1 := cellOld b1 (hS.block _ (cellLt b1)); have d2 := cellOld b2 (hS.block _ (cellLt b2)); have d3 := cellOld b3 (hS.block _ (cellLt b3)); have d4 := cellOld b4 (hS.block _ (cellLt b4)); go_simp; with_reducible rfl); (try simp only [Act.put, List.getElem_toArray, List.getElem_cons_succ, List.getElem_cons_zero, List.setIfInBounds_toArray, List.set_cons_zero, List.set_cons_succ]))
          (refine sched_take (v := ?_) rfl (by rfl) (fun W' hS => ?_) ?_; rotate_left; (have d0 := cellOld b0 (hS.block _ (cellLt b0)); have d1 := cellOld b1 (hS.block _ (cellLt b1)); have d2 := cellOld b2 (hS.block _ (cellLt b2)); have d3 := cellOld b3 (hS.block _ (cellLt b3)); have d4 := cellOld b4 (hS.block _ (cellLt b4)); go_simp; with_reducible rfl); (try simp only [Act.put, List.getElem_toArray, List.getElem_cons_succ, List.getElem_cons_zero, List.setIfInBounds_toArray, List.set_cons_zero, List.set_cons_succ]))
          (refine sched_take (v := ?_) rfl (by rfl) (fun W' hS => ?_) ?_; rotate_left; (have d0 := cellOld b0 (hS.block _ (cellLt b0)); have d1 := cellOld b1 (hS.block _ (cellLt b1)); have d2 := cellOld b2 (hS.block _ (cellLt b2)); have d3 := cellOld b3 (hS.block _ (cellLt b3)); have d4 := cellOld b4 (hS.block _ (cellLt b4)); go_simp; with_reducible rfl); (try simp only [Act.put, List.getElem_toArray, List.getElem_cons_succ, List.getElem_cons_zero, List.setIfInBounds_toArray, List.set_cons_zero, List.set_cons_succ]))
          refine sched_do rfl (fun K' hK => ?_)
          go_simp
          refine (HCHK.out (⟨et, ed, ef, ep, en⟩ : Pl) Wd).mono ?_
          rintro e Wc ⟨rfl, hB⟩
          have HSc : Hid (Below W9.heap.size W9 Wc) := Lib.hid (HSd.out.trans (hB.mono HSd.out.size))
          rw [show chkP (⟨et, ed, ef, ep, en⟩ : Pl) = 0 from if_pos HEK.out]
          clear hB
          refine hK.out _ _ HSc.out fun _ => ?_
          clear hK
          (try simp only [Act.put, List.getElem_toArray, List.getElem_cons_succ, List.getElem_cons_zero, List.setIfInBounds_toArray, List.set_cons_zero, List.set_cons_succ])
          (refine sched_take (v := ?_) rfl (by rfl) (fun W' hS => ?_) ?_; rotate_left; (have d0 := cellOld b0 (hS.block _ (cellLt b0)); have d1 := cellOld b1 (hS.block _ (cellLt b1)); have d2 := cellOld b2 (hS.block _ (cellLt b2)); have d3 := cellOld b3 (hS.block _ (cellLt b3)); have d4 := cellOld b4 (hS.block _ (cellLt b4)); go_simp; with_reducible rfl); (try simp only [Act.put, List.getElem_toArray, List.getElem_cons_succ, List.getElem_cons_zero, List.setIfInBounds_toArray, List.set_cons_zero, List.set_cons_succ]))
          (refine sched_take (v := ?_) rfl (by rfl) (fun W' hS => ?_) ?_; rotate_left; (have d0 := cellOld b0 (hS.block _ (cellLt b0)); have d1 := cellOld b1 (hS.block _ (cellLt b1)); have d2 := cellOld b2 (hS.block _ (cellLt b2)); have d3 := cellOld b3 (hS.block _ (cellLt b3)); have d4 := cellOld b4 (hS.block _ (cellLt b4)); go_simp; with_reducible rfl); (try simp only [Act.put, List.getElem_toArray, List.getElem_cons_succ, List.getElem_cons_zero, List.setIfInBounds_toArray, List.set_cons_zero, List.set_cons_succ]))
          (refine sched_take (v := ?_) rfl (by rfl) (fun W' hS => ?_) ?_; rotate_left; (have d0 := cellOld b0 (hS.block _ (cellLt b0)); have d1 := cellOld b1 (hS.block _ (cellLt b1)); have d2 := cellOld b2 (hS.block _ (cellLt b2)); have d3 := cellOld b3 (hS.block _ (cellLt b3)); have d4 := cellOld b4 (hS.block _ (cellLt b4)); go_simp; with_reducible rfl); (try simp only [Act.put, List.getElem_toArray, List.getElem_cons_succ, List.getElem_cons_zero, List.setIfInBounds_toArray, List.set_cons_zero, List.set_cons_succ]))
          (refine sched_take (v := ?_) rfl (by rfl) (fun W' hS => ?_) ?_; rotate_left; (have d0 := cellOld b0 (hS.block _ (cellLt b0)); have d1 := cellOld b1 (hS.block _ (cellLt b1)); have d2 := cellOld b2 (hS.block _ (cellLt b2)); have d3 := cellOld b3 (hS.block _ (cellLt b3)); have d4 := cellOld b4 (hS.block _ (cellLt b4)); go_simp; with_reducible rfl); (try simp only [Act.put, List.getElem_toArray, List.getElem_cons_succ, List.getElem_cons_zero, List.setIfInBounds_toArray, List.set_cons_zero, List.set_cons_succ]))
          (refine sched_take (v := ?_) rfl (by rfl) (fun W' hS => ?_) ?_; rotate_left; (have d0 := cellOld b0 (hS.block _ (cellLt b0)); have d1 := cellOld b1 (hS.block _ (cellLt b1)); have d2 := cellOld b2 (hS.block _ (cellLt b2)); have d3 := cellOld b3 (hS.block _ (cellLt b3)); have d4 := cellOld b4 (hS.block _ (cellLt b4)); go_simp; with_reducible rfl); (try simp only [Act.put, List.getElem_toArray, List.getElem_cons_succ, List.getElem_cons_zero, List.setIfInBounds_toArray, List.set_cons_zero, List.set_cons_succ]))
          (refine sched_take (v := ?_) rfl (by rfl) (fun W' hS => ?_) ?_; rotate_left; (have d0 := cellOld b0 (hS.block _ (cellLt b0)); have d1 := cellOld b1 (hS.block _ (cellLt b1)); have d2 := cellOld b2 (hS.block _ (cellLt b2)); have d3 := cellOld b3 (hS.block _ (cellLt b3)); have d4 := cellOld b4 (hS.block _ (cellLt b4)); go_simp; with_reducible rfl); (try simp only [Act.put, List.getElem_toArray, List.getElem_cons_succ, List.getElem_cons_zero, List.setIfInBounds_toArray, List.set_cons_zero, List.set_cons_succ]))
          (refine sched_skip rfl (by rfl) ?_; (try simp only [Act.put, List.getElem_toArray, List.getElem_cons_succ, List.getElem_cons_zero, List.setIfInBounds_toArray, List.set_cons_zero, List.set_cons_succ]))
          (refine sched_skip rfl (by rfl) ?_; (try simp only [Act.put, List.getElem_toArray, List.getElem_cons_succ, List.getElem_cons_zero, List.setIfInBounds_toArray, List.set_cons_zero, List.set_cons_succ]))
          (refine sched_skip rfl (by rfl) ?_; (try simp only [Act.put, List.getElem_toArray, List.getElem_cons_succ, List.getElem_cons_zero, List.setIfInBounds_toArray, List.set_cons_zero, List.set_cons_succ]))
          (refine sched_skip rfl (by rfl) ?_; (try simp only [Act.put, List.getElem_toArray, List.getElem_cons_succ, List.getElem_cons_zero, List.setIfInBounds_toArray, List.set_cons_zero, List.set_cons_succ]))
          (refine sched_skip rfl (by rfl) ?_; (try simp only [Act.put, List.getElem_toArray, List.getElem_cons_succ, List.getElem_cons_zero, List.setIfInBounds_toArray, List.set_cons_zero, List.set_cons_succ]))
          (refine sched_skip rfl (by rfl) ?_; (try simp only [Act.put, List.getElem_toArray, List.getElem_cons_succ, List.getElem_cons_zero, List.setIfInBounds_toArray, List.set_cons_zero, List.set_cons_succ]))
          (refine sched_skip rfl (by rfl) ?_; (try simp only [Act.put, List.getElem_toArray, List.getElem_cons_succ, List.getElem_cons_zero, List.setIfInBounds_toArray, List.set_cons_zero, List.set_cons_succ]))
          (refine sched_skip rfl (by rfl) ?_; (try simp only [Act.put, List.getElem_toArray, List.getElem_cons_succ, List.getElem_cons_zero, List.setIfInBounds_toArray, List.set_cons_zero, List.set_cons_succ]))
          (refine sched_skip rfl (by rfl) ?_; (try simp only [Act.put, List.getElem_toArray, List.getElem_cons_succ, List.getElem_cons_zero, List.setIfInBounds_toArray, List.set_cons_zero, List.set_cons_succ]))
          (refine sched_take (v := ?_) rfl (by rfl) (fun W' hS => ?_) ?_; rotate_left; (have d0 := cellOld b0 (hS.block _ (cellLt b0)); have d1 := cellOld b1 (hS.block _ (cellLt b1)); have d2 := cellOld b2 (hS.block _ (cellLt b2)); have d3 := cellOld b3 (hS.block _ (cellLt b3)); have d4 := cellOld b4 (hS.block _ (cellLt b4)); go_simp; with_reducible rfl); (try simp only [Act.put, List.getElem_toArray, List.getElem_cons_succ, List.getElem_cons_zero, List.setIfInBounds_toArray, List.set_cons_zero, List.set_cons_succ]))
          (refine sched_take (v := ?_) rfl (by rfl) (fun W' hS => ?_) ?_; rotate_left; (have d0 := cellOld b0 (hS.block _ (cellLt b0)); have d1 := cellOld b1 (hS.block _ (cellLt b1)); have d2 := cellOld b2 (hS.block _ (cellLt b2)); have d3 := cellOld b3 (hS.block _ (cellLt b3)); have d4 := cellOld b4 (hS.block _ (cellLt b4)); go_simp; with_reducible rfl); (try simp only [Act.put, List.getElem_toArray, List.getElem_cons_succ, List.getElem_cons_zero, List.setIfInBounds_toArray, List.set_cons_zero, List.set_cons_succ]))
          refine sched_done2 ?_
          refine NoPanic.normal ?_
          have HMc : Hid (MapI Wc M m f) := Lib.hid (SMap.below HM9.out HSc.out (SMap.lt HM9.out))
          have HBc : Hid (Below W2.heap.size W2 Wc) := Lib.hid (HB9.out.trans (HSc.out.mono HB9.out.size))
          obtain ⟨f0, f1, f2, f3, f4⟩ := box_cells (x := ⟨et, ed, ef, ep, en⟩) ((HSc.out.block Bx hBl9).trans HX9.out)
          dsimp only at f0 f1 f2 f3 f4
          clear b0 b1 b2 b3 b4
          go_wp2_with (at_mapUpdate; refine wpList_sput (E := KI) rfl _ _ _ 42 rfl Try.underlying3 Try.underlying42 M m f rfl HMc.out (by unfold maxLen; omega) ef rfl HIF.out ep rfl ?_; intro w8 hm8 ht8)
          exact ⟨⟨k + 1, m + 1, _, by go_num, by omega, by omega, Lib.hid hm8, HNX, Lib.hid ((turned_away ht8).bel HBc.out (Nat.le_of_eq HME.out.symm) (Nat.le_refl _))⟩, by simp only [intOf]; omega⟩
        · have hg1 : decide ((k : Int) > 0) = true := decide_eq_true (by omega)
          have hg2 : decide ((0 : Int) < (k : Int)) = true := decide_eq_true (by omega)
          have hg3 : decide (0 < k) = true := decide_eq_true hk0
          obtain ⟨i, hi⟩ : ∃ i, i + 1 = k := ⟨k - 1, by omega⟩
          have hk1 : (k : Int) - 1 = (i : Int) := by omega
          have hw1 : IntKind.i64.wrap (i : Int) = (i : Int) := by rw [IntKind.wrap_i64]; omega
          have hil : i < nr := by omega
          have hil1 := decide_eq_true (show ((i : Int) < (nr : Int)) by omega)
          have hil2 := decide_eq_true hil
          have hil3 : (i : Int) < (nr : Int) := by omega
          obtain ⟨y, hy, hlt⟩ := HPREV.out i hi
          obtain ⟨-, -, y2, -, -⟩ := (HCS.out i y hy).below HB9.out
          have hge1 : decide (y.f ≥ ef) = false := decide_eq_false (by omega)
          have hge2 : decide (ef ≤ y.f) = false := decide_eq_false (by omega)
          obtain ⟨yt, yd, yf, yp, yn⟩ := y
          dsimp only at y2 hge1 hge2
          clear hy hlt hi
          refine wp_region_noPanic ?_
          refine region_sched (fun W' => Below W9.heap.size W9 W') 100 [(0, true), (1, true), (2, true), (3, true), (4, false), (5, true), (6, true), (7, true), (8, true), (9, true), (10, true), (11, true), (12, true), (13, true), (14, true), (15, true), (16, true), (17, true), (18, true), (19, true), (20, true), (21, true)] (by kernel_rfl) (by kernel_rfl) (by kernel_rfl) rfl (fun _ _ _ _ h => h) ⟨rfl, rfl, rfl, Nat.le_refl _, fun _ _ => rfl⟩ ?_
          obtain ⟨Wd, hWd⟩ : ∃ W, W = W9.drew := ⟨_, rfl⟩
          have HSd : Hid (Below W9.heap.size W9 Wd) := Lib.hid (by rw [hWd]; exact ⟨rfl, rfl, rfl, Nat.le_refl _, fun _ _ => rfl⟩)
          rw [← hWd]
          clear hWd
          (refine sched_take (v := ?_) rfl (by rfl) (fun W' hS => ?_) ?_; rotate_left; (have d0 := cellOld b0 (hS.block _ (cellLt b0)); have d1 := cellOld b1 (hS.block _ (cellLt b1)); have d2 := cellOld b2 (hS.block _ (cellLt b2)); have d3 := cellOld b3 (hS.block _ (cellLt b3)); have d4 := cellOld b4 (hS.block _ (cellLt b4)); have d5 := cellOld y2 (hS.block _ (cellLt y2)); go_simp; with_reducible rfl); (try simp only [Act.put, List.getElem_toArray, List.getElem_cons_succ, List.getElem_cons_zero, List.setIfInBounds_toArray, List.set_cons_zero, List.set_cons_succ]))
          (refine sched_take (v := ?_) rfl (by rfl) (fun W' hS => ?_) ?_; rotate_left; (have d0 := cellOld b0 (hS.block _ (cellLt b0)); have d1 := cellOld b1 (hS.block _ (cellLt b1)); have d2 := cellOld b2 (hS.block _ (cellLt b2)); have d3 := cellOld b3 (hS.block _ (cellLt b3)); have d4 := cellOld b4 (hS.block _ (cellLt b4)); have d5 := cellOld y2 (hS.block _ (cellLt y2)); go_simp; with_reducible rfl); (try simp only [Act.put, List.getElem_toArray, List.getElem_cons_succ, List.getElem_cons_zero, List.setIfInBounds_toArray, List.set_cons_zero, List.set_cons_succ]))
          (refine sched_take (v := ?_) rfl (by rfl) (fun W' hS => ?_) ?_; rotate_left; (have d0 := cellOld b0 (hS.block _ (cellLt b0)); have d1 := cellOld b1 (hS.block _ (cellLt b1)); have d2 := cellOld b2 (hS.block _ (cellLt b2)); have d3 := cellOld b3 (hS.block _ (cellLt b3)); have d4 := cellOld b4 (hS.block _ (cellLt b4)); have d5 := cellOld y2 (hS.block _ (cellLt y2)); go_simp; with_reducible rfl); (try simp only [Act.put, List.getElem_toArray, List.getElem_cons_succ, List.getElem_cons_zero, List.setIfInBounds_toArray, List.set_cons_zero, List.set_cons_succ]))
          (refine sched_take (v := ?_) rfl (by rfl) (fun W' hS => ?_) ?_; rotate_left; (have d0 := cellOld b0 (hS.block _ (cellLt b0)); have d1 := cellOld b1 (hS.block _ (cellLt b1)); have d2 := cellOld b2 (hS.block _ (cellLt b2)); have d3 := cellOld b3 (hS.block _ (cellLt b3)); have d4 := cellOld b4 (hS.block _ (cellLt b4)); have d5 := cellOld y2 (hS.block _ (cellLt y2)); go_simp; with_reducible rfl); (try simp only [Act.put, List.getElem_toArray, List.getElem_cons_succ, List.getElem_cons_zero, List.setIfInBounds_toArray, List.set_cons_zero, List.set_cons_succ]))
          refine sched_do rfl (fun K' hK => ?_)
          go_simp
          refine (HCHK.out (⟨et, ed, ef, ep, en⟩ : Pl) Wd).mono ?_
          rintro e Wc ⟨rfl, hB⟩
          have HSc : Hid (Below W9.heap.size W9 Wc) := Lib.hid (HSd.out.trans (hB.mono HSd.out.size))
          rw [show chkP (⟨et, ed, ef, ep, en⟩ : Pl) = 0 from if_pos HEK.out]
          clear hB
          refine hK.out _ _ HSc.out fun _ => ?_
          clear hK
          (try simp only [Act.put, List.getElem_toArray, List.getElem_cons_succ, List.getElem_cons_zero, List.setIfInBounds_toArray, List.set_cons_zero, List.set_cons_succ])
          (refine sched_take (v := ?_) rfl (by rfl) (fun W' hS => ?_) ?_; rotate_left; (have d0 := cellOld b0 (hS.block _ (cellLt b0)); have d1 := cellOld b1 (hS.block _ (cellLt b1)); have d2 := cellOld b2 (hS.block _ (cellLt b2)); have d3 := cellOld b3 (hS.block _ (cellLt b3)); have d4 := cellOld b4 (hS.block _ (cellLt b4)); have d5 := cellOld y2 (hS.block _ (cellLt y2)); go_simp; with_reducible rfl); (try simp only [Act.put, List.getElem_toArray, List.getElem_cons_succ, List.getElem_cons_zero, List.setIfInBounds_toArray, List.set_cons_zero, List.set_cons_succ]))
          (refine sched_take (v := ?_) rfl (by rfl) (fun W' hS => ?_) ?_; rotate_left; (have d0 := cellOld b0 (hS.block _ (cellLt b0)); have d1 := cellOld b1 (hS.block _ (cellLt b1)); have d2 := cellOld b2 (hS.block _ (cellLt b2)); have d3 := cellOld b3 (hS.block _ (cellLt b3)); have d4 := cellOld b4 (hS.block _ (cellLt b4)); have d5 := cellOld y2 (hS.block _ (cellLt y2)); go_simp; with_reducible rfl); (try simp only [Act.put, List.getElem_toArray, List.getElem_cons_succ, List.getElem_cons_zero, List.setIfInBounds_toArray, List.set_cons_zero, List.set_cons_succ]))
          (refine sched_take (v := ?_) rfl (by rfl) (fun W' hS => ?_) ?_; rotate_left; (have d0 := cellOld b0 (hS.block _ (cellLt b0)); have d1 := cellOld b1 (hS.block _ (cellLt b1)); have d2 := cellOld b2 (hS.block _ (cellLt b2)); have d3 := cellOld b3 (hS.block _ (cellLt b3)); have d4 := cellOld b4 (hS.block _ (cellLt b4)); have d5 := cellOld y2 (hS.block _ (cellLt y2)); go_simp; with_reducible rfl); (try simp only [Act.put, List.getElem_toArray, List.getElem_cons_succ, List.getElem_cons_zero, List.setIfInBounds_toArray, List.set_cons_zero, List.set_cons_succ]))
          (refine sched_take (v := ?_) rfl (by rfl) (fun W' hS => ?_) ?_; rotate_left; (have d0 := cellOld b0 (hS.block _ (cellLt b0)); have d1 := cellOld b1 (hS.block _ (cellLt b1)); have d2 := cellOld b2 (hS.block _ (cellLt b2)); have d3 := cellOld b3 (hS.block _ (cellLt b3)); have d4 := cellOld b4 (hS.block _ (cellLt b4)); have d5 := cellOld y2 (hS.block _ (cellLt y2)); go_simp; with_reducible rfl); (try simp only [Act.put, List.getElem_toArray, List.getElem_cons_succ, List.getElem_cons_zero, List.setIfInBounds_toArray, List.set_cons_zero, List.set_cons_succ]))
          (refine sched_take (v := ?_) rfl (by rfl) (fun W' hS => ?_) ?_; rotate_left; (have d0 := cellOld b0 (hS.block _ (cellLt b0)); have d1 := cellOld b1 (hS.block _ (cellLt b1)); have d2 := cellOld b2 (hS.block _ (cellLt b2)); have d3 := cellOld b3 (hS.block _ (cellLt b3)); have d4 := cellOld b4 (hS.block _ (cellLt b4)); have d5 := cellOld y2 (hS.block _ (cellLt y2)); go_simp; with_reducible rfl); (try simp only [Act.put, List.getElem_toArray, List.getElem_cons_succ, List.getElem_cons_zero, List.setIfInBounds_toArray, List.set_cons_zero, List.set_cons_succ]))
          (refine sched_take (v := ?_) rfl (by rfl) (fun W' hS => ?_) ?_; rotate_left; (have d0 := cellOld b0 (hS.block _ (cellLt b0)); have d1 := cellOld b1 (hS.block _ (cellLt b1)); have d2 := cellOld b2 (hS.block _ (cellLt b2)); have d3 := cellOld b3 (hS.block _ (cellLt b3)); have d4 := cellOld b4 (hS.block _ (cellLt b4)); have d5 := cellOld y2 (hS.block _ (cellLt y2)); go_simp; with_reducible rfl); (try simp only [Act.put, List.getElem_toArray, List.getElem_cons_succ, List.getElem_cons_zero, List.setIfInBounds_toArray, List.set_cons_zero, List.set_cons_succ]))
          (refine sched_take (v := ?_) rfl (by rfl) (fun W' hS => ?_) ?_; rotate_left; (have d0 := cellOld b0 (hS.block _ (cellLt b0)); have d1 := cellOld b1 (hS.block _ (cellLt b1)); have d2 := cellOld b2 (hS.block _ (cellLt b2)); have d3 := cellOld b3 (hS.block _ (cellLt b3)); have d4 := cellOld b4 (hS.block _ (cellLt b4)); have d5 := cellOld y2 (hS.block _ (cellLt y2)); go_simp; with_reducible rfl); (try simp only [Act.put, List.getElem_toArray, List.getElem_cons_succ, List.getElem_cons_zero, List.setIfInBounds_toArray, List.set_cons_zero, List.set_cons_succ]))
          (refine sched_take (v := ?_) rfl (by rfl) (fun W' hS => ?_) ?_; rotate_left; (have d0 := cellOld b0 (hS.block _ (cellLt b0)); have d1 := cellOld b1 (hS.block _ (cellLt b1)); have d2 := cellOld b2 (hS.block _ (cellLt b2)); have d3 := cellOld b3 (hS.block _ (cellLt b3)); have d4 := cellOld b4 (hS.block _ (cellLt b4)); have d5 := cellOld y2 (hS.block _ (cellLt y2)); go_simp; with_reducible rfl); (try simp only [Act.put, List.getElem_toArray, List.getElem_cons_succ, List.getElem_cons_zero, List.setIfInBounds_toArray, List.set_cons_zero, List.set_cons_succ]))
          (refine sched_take (v := ?_) rfl (by rfl) (fun W' hS => ?_) ?_; rotate_left; (have d0 := cellOld b0 (hS.block _ (cellLt b0)); have d1 := cellOld b1 (hS.block _ (cellLt b1)); have d2 := cellOld b2 (hS.block _ (cellLt b2)); have d3 := cellOld b3 (hS.block _ (cellLt b3)); have d4 := cellOld b4 (hS.block _ (cellLt b4)); have d5 := cellOld y2 (hS.block _ (cellLt y2)); go_simp; with_reducible rfl); (try simp only [Act.put, List.getElem_toArray, List.getElem_cons_succ, List.getElem_cons_zero, List.setIfInBounds_toArray, List.set_cons_zero, List.set_cons_succ]))
          (refine sched_take (v := ?_) rfl (by rfl) (fun W' hS => ?_) ?_; rotate_left; (have d0 := cellOld b0 (hS.block _ (cellLt b0)); have d1 := cellOld b1 (hS.block _ (cellLt b1)); have d2 := cellOld b2 (hS.block _ (cellLt b2)); have d3 := cellOld b3 (hS.block _ (cellLt b3)); have d4 := cellOld b4 (hS.block _ (cellLt b4)); have d5 := cellOld y2 (hS.block _ (cellLt y2)); go_simp; with_reducible rfl); (try simp only [Act.put, List.getElem_toArray, List.getElem_cons_succ, List.getElem_cons_zero, List.setIfInBounds_toArray, List.set_cons_zero, List.set_cons_succ]))
          (refine sched_take (v := ?_) rfl (by rfl) (fun W' hS => ?_) ?_; rotate_left; (have d0 := cellOld b0 (hS.block _ (cellLt b0)); have d1 := cellOld b1 (hS.block _ (cellLt b1)); have d2 := cellOld b2 (hS.block _ (cellLt b2)); have d3 := cellOld b3 (hS.block _ (cellLt b3)); have d4 := cellOld b4 (hS.block _ (cellLt b4)); have d5 := cellOld y2 (hS.block _ (cellLt y2)); go_simp; with_reducible rfl); (try simp only [Act.put, List.getElem_toArray, List.getElem_cons_succ, List.getElem_cons_zero, List.setIfInBounds_toArray, List.set_cons_zero, List.set_cons_succ]))
          (refine sched_take (v := ?_) rfl (by rfl) (fun W' hS => ?_) ?_; rotate_left; (have d0 := cellOld b0 (hS.block _ (cellLt b0)); have d1 := cellOld b1 (hS.block _ (cellLt b1)); have d2 := cellOld b2 (hS.block _ (cellLt b2)); have d3 := cellOld b3 (hS.block _ (cellLt b3)); have d4 := cellOld b4 (hS.block _ (cellLt b4)); have d5 := cellOld y2 (hS.block _ (cellLt y2)); go_simp; with_reducible rfl); (try simp only [Act.put, List.getElem_toArray, List.getElem_cons_succ, List.getElem_cons_zero, List.setIfInBounds_toArray, List.set_cons_zero, List.set_cons_succ]))
          (refine sched_take (v := ?_) rfl (by rfl) (fun W' hS => ?_) ?_; rotate_left; (have d0 := cellOld b0 (hS.block _ (cellLt b0)); have d1 := cellOld b1 (hS.block _ (cellLt b1)); have d2 := cellOld b2 (hS.block _ (cellLt b2)); have d3 := cellOld b3 (hS.block _ (cellLt b3)); have d4 := cellOld b4 (hS.block _ (cellLt b4)); have d5 := cellOld y2 (hS.block _ (cellLt y2)); go_simp; with_reducible rfl); (try simp only [Act.put, List.getElem_toArray, List.getElem_cons_succ, List.getElem_cons_zero, List.setIfInBounds_toArray, List.set_cons_zero, List.set_cons_succ]))
          (refine sched_take (v := ?_) rfl (by rfl) (fun W' hS => ?_) ?_; rotate_left; (have d0 := cellOld b0 (hS.block _ (cellLt b0)); have d1 := cellOld b1 (hS.block _ (cellLt b1)); have d2 := cellOld b2 (hS.block _ (cellLt b2)); have d3 := cellOld b3 (hS.block _ (cellLt b3)); have d4 := cellOld b4 (hS.block _ (cellLt b4)); have d5 := cellOld y2 (hS.block _ (cellLt y2)); go_simp; with_reducible rfl); (try simp only [Act.put, List.getElem_toArray, List.getElem_cons_succ, List.getElem_cons_zero, List.setIfInBounds_toArray, List.set_cons_zero, List.set_cons_succ]))
          (refine sched_take (v := ?_) rfl (by rfl) (fun W' hS => ?_) ?_; rotate_left; (have d0 := cellOld b0 (hS.block _ (cellLt b0)); have d1 := cellOld b1 (hS.block _ (cellLt b1)); have d2 := cellOld b2 (hS.block _ (cellLt b2)); have d3 := cellOld b3 (hS.block _ (cellLt b3)); have d4 := cellOld b4 (hS.block _ (cellLt b4)); have d5 := cellOld y2 (hS.block _ (cellLt y2)); go_simp; with_reducible rfl); (try simp only [Act.put, List.getElem_toArray, List.getElem_cons_succ, List.getElem_cons_zero, List.setIfInBounds_toArray, List.set_cons_zero, List.set_cons_succ]))
          (refine sched_take (v := ?_) rfl (by rfl) (fun W' hS => ?_) ?_; rotate_left; (have d0 := cellOld b0 (hS.block _ (cellLt b0)); have d1 := cellOld b1 (hS.block _ (cellLt b1)); have d2 := cellOld b2 (hS.block _ (cellLt b2)); have d3 := cellOld b3 (hS.block _ (cellLt b3)); have d4 := cellOld b4 (hS.block _ (cellLt b4)); have d5 := cellOld y2 (hS.block _ (cellLt y2)); go_simp; with_reducible rfl); (try simp only [Act.put, List.getElem_toArray, List.getElem_cons_succ, List.getElem_cons_zero, List.setIfInBounds_toArray, List.set_cons_zero, List.set_cons_succ]))
          (refine sched_take (v := ?_) rfl (by rfl) (fun W' hS => ?_) ?_; rotate_left; (have d0 := cellOld b0 (hS.block _ (cellLt b0)); have d1 := cellOld b1 (hS.block _ (cellLt b1)); have d2 := cellOld b2 (hS.block _ (cellLt b2)); have d3 := cellOld b3 (hS.block _ (cellLt b3)); have d4 := cellOld b4 (hS.block _ (cellLt b4)); have d5 := cellOld y2 (hS.block _ (cellLt y2)); go_simp; with_reducible rfl); (try simp only [Act.put, List.getElem_toArray, List.getElem_cons_succ, List.getElem_cons_zero, List.setIfInBounds_toArray, List.set_cons_zero, List.set_cons_succ]))
          refine sched_done2 ?_
          refine NoPanic.normal ?_
          have HMc : Hid (MapI Wc M m f) := Lib.hid (SMap.below HM9.out HSc.out (SMap.lt HM9.out))
          have HBc : Hid (Below W2.heap.size W2 Wc) := Lib.hid (HB9.out.trans (HSc.out.mono HB9.out.size))
          obtain ⟨f0, f1, f2, f3, f4⟩ := box_cells (x := ⟨et, ed, ef, ep, en⟩) ((HSc.out.block Bx hBl9).trans HX9.out)
          dsimp only at f0 f1 f2 f3 f4
          clear b0 b1 b2 b3 b4
          go_wp2_with (at_mapUpdate; refine wpList_sput (E := KI) rfl _ _ _ 42 rfl Try.underlying3 Try.underlying42 M m f rfl HMc.out (by unfold maxLen; omega) ef rfl HIF.out ep rfl ?_; intro w8 hm8 ht8)
          exact ⟨⟨k + 1, m + 1, _, by go_num, by omega, by omega, Lib.hid hm8, HNX, Lib.hid ((turned_away ht8).bel HBc.out (Nat.le_of_eq HME.out.symm) (Nat.le_refl _))⟩, by simp only [intOf]; omega⟩
    have hd := decide_eq_false (show ¬ ((k : Int) < (nr : Int)) by omega)
    have hd' := decide_eq_false hkn
    have HFT : Hid (∀ e ∈ treeP l, f e.f = some e.p) := Lib.hid (fun e he => HFM.out e (by rw [List.take_of_length_le (by rw [← HNR.out]; omega)]; exact he))
    have HU6 := Lib.hid ((HU_2.out).below HBr.out)
    have HT6 := Lib.hid ((HT_2.out).below HBr.out)
    have HB6 := Lib.hid (below_trans HB2.out HBr.out)
    clear hkn HBr HM0 HM0B HFM hpl hpg
    rename World => W6
    go_wp2_with fail
    go_loopw [9] (fun v9 wx => ∃ k2 : Nat, v9 = .int .i64 k2 ∧ k2 ≤ nr ∧ Hid (Below W6.heap.size W6 wx)) (fun v9 _ => nr - (intOf v9).toNat)
    case atStart => exact ⟨0, rfl, Nat.zero_le _, Lib.hid (Below.refl _ _)⟩
    case round =>
      obtain ⟨k2, rfl, hk2, HBx⟩ := hrel
      by_cases hkn : k2 < nr
      case neg =>
        have hd := decide_eq_false (show ¬ ((k2 : Int) < (nr : Int)) by omega)
        have hd' := decide_eq_false hkn
        have HBf := Lib.hid (below_trans HB6.out HBx.out)
        clear hkn
        go_wp2_with fail
        go_ret
        exact ⟨rfl, HBf.out⟩
      have hd := decide_eq_true (show ((k2 : Int) < (nr : Int)) by omega)
      have hd' := decide_eq_true hkn
      obtain ⟨e, he, ht1⟩ := take_at (l := treeP l) (j := k2) (by rw [← HNR.out]; exact hkn)
      obtain ⟨gg, oo, rfl, hcs⟩ := HU6.out.cells.2.2 (by omega)
      obtain ⟨-, -, c2, c3, -⟩ := (hcs k2 e he).below HBx.out
      have heT : e ∈ treeP l := List.mem_iff_getElem?.2 ⟨k2, he⟩
      have HPE := Lib.hid (HF.out.sort.once e heT)
      have HPAR := Lib.hid (HF.out.par e heT)
      have hokf := (HF.out.ok e heT).2.2.1
      obtain ⟨et, ed, ef, ep, en⟩ := e
      dsimp only at c2 c3 hokf HPE HPAR
      have HIF : Hid (I64 ef) := Lib.hid (I64.of ⟨by omega, by omega⟩)
      clear hcs he ht1 heT hokf
      go_wp2_with fail
      refine (above_ok l (.slice pt n pc) ef wr (HT6.out.below HBx.out) (by have := HN.out; omega) HIF.out).mono ?_
      rintro e W7 ⟨ua, rfl, hu, hB⟩
      obtain ⟨pa, ca, hv, -⟩ := (show _ from hu)
      obtain ⟨na, hna⟩ : ∃ z, z = (upT (treeP l) 32 ef).length := ⟨_, rfl⟩
      have HUA := Lib.hid hu
      rw [← hna] at hv
      have HNA := Lib.hid hna
      subst hv
      have HB7 := Lib.hid (HBx.out.trans (hB.mono HBx.out.size))
      have hna7 : na ≤ 7 := by rw [hna, HF.out.len (by decide)]; exact HF.out.le ef
      have e2 := cellOld c2 (hB.block _ (cellLt c2))
      clear hu hna hB c2 c3
      go_wp2_with fail
      go_loopw [10, 11] (fun v10 v11 wz => ∃ (q : Int) (m : Nat), v10 = .int .i64 q ∧ v11 = .int .i64 m ∧ m ≤ na ∧ Hid ((upT (treeP l) 32 ef).drop m = if 0 ≤ q then q :: upT (treeP l) (31 - m) q else []) ∧ Hid (0 ≤ q → (placeT (treeP l) q).isSome = true) ∧ Hid (Below W7.heap.size W7 wz)) (fun _ v11 _ => na - (intOf v11).toNat)
      case atStart => exact ⟨ep, 0, rfl, rfl, Nat.zero_le _, Lib.hid (up_start (n := 31) HPE.out), HPAR, Lib.hid (Below.refl _ _)⟩
      case round =>
        obtain ⟨q, m2, rfl, rfl, hm2, HDR, HPQ, HBz⟩ := hrel
        have HB8 := Lib.hid (HB7.out.trans (HBz.out.mono HB7.out.size))
        by_cases hq : 0 ≤ q
        case neg =>
          have hq1 : decide (q ≥ 0) = false := decide_eq_false hq
          have hq2 : decide (0 ≤ q) = false := decide_eq_false hq
          have hme : m2 = na := by
            have h := HDR.out
            rw [if_neg hq] at h
            have := List.drop_eq_nil_iff.1 h
            rw [← HNA.out] at this
            omega
          have hz1 : ((m2 : Int) != (na : Int)) = false := by rw [hme]; simp
          have hz2 : decide ((m2 : Int) = (na : Int)) = true := decide_eq_true (by rw [hme])
          have hz3 : ((m2 : Int) == (na : Int)) = true := by rw [hme]; simp
          clear hq hme
          go_wp2_with fail
          exact ⟨⟨k2 + 1, by go_num, by omega, HB8⟩, by simp only [intOf]; omega⟩
        have hq1 : decide (q ≥ 0) = true := decide_eq_true hq
        have hq2 : decide (0 ≤ q) = true := decide_eq_true hq
        obtain ⟨y, hy⟩ := Option.isSome_iff_exists.1 (HPQ.out hq)
        obtain ⟨hyT, hyf⟩ := placeT_some hy
        have hyk := (HF.out.ok y hyT).2.2.1
        have hIq : I64 q := I64.of ⟨by omega, by omega⟩
        have hfq : f q = some y.p := by rw [← hyf]; exact HFT.out y hyT
        have hmz : MapI wr M m f := SMap.below HM.out HB8.out (SMap.lt HM.out)
        have hlk := hmz.look hIq hfq
        have hdr := HDR.out
        rw [if_pos hq] at hdr
        obtain ⟨hml, hmq, hmd, hmm⟩ := drop_cons_at hdr
        rw [← HNA.out] at hml
        have hne : q ≠ ef := fun e => upT_self HF.out ef (by rw [e] at hmm; exact hmm)
        have hn1 : (q == ef) = false := by simpa using hne
        have hn2 : decide (q = ef) = false := decide_eq_false hne
        have hqq : (q != q) = false := by simp
        have hg1 : decide ((m2 : Int) ≥ (na : Int)) = false := decide_eq_false (by omega)
        have hg2 : decide ((na : Int) ≤ (m2 : Int)) = false := decide_eq_false (by omega)
        have hg3 : decide ((m2 : Int) ≥ 7) = false := decide_eq_false (by omega)
        have hg4 : decide ((7 : Int) ≤ (m2 : Int)) = false := decide_eq_false (by omega)
        have hg5 : decide (na ≤ m2) = false := decide_eq_false (by omega)
        have hg6 : decide (7 ≤ m2) = false := decide_eq_false (by omega)
        obtain ⟨-, hcell⟩ := row_ints HUA.out rfl
        obtain ⟨ga, oa, rfl, hca⟩ := hcell (by omega)
        have hck := hca m2 hml
        rw [hmq] at hck
        have hcr := cellOld hck (HBz.out.block _ (cellLt hck))
        have e3 := cellOld e2 (HBz.out.block _ (cellLt e2))
        have HST : Hid ((upT (treeP l) 32 ef).drop (m2 + 1) = if 0 ≤ y.p then y.p :: upT (treeP l) (31 - (m2 + 1)) y.p else []) := Lib.hid (by
          rw [hmd, show 31 - m2 = (31 - (m2 + 1)) + 1 by omega]
          exact up_start hy)
        have HPY := Lib.hid (HF.out.par y hyT)
        obtain ⟨yp, hyp⟩ : ∃ z, z = y.p := ⟨_, rfl⟩
        rw [← hyp] at hlk HST HPY
        clear hyp hy hyT hyf hyk hfq hmz hdr hmq hmd hmm hne hck hca hcell hIq hq
        go_wp2_with fail
        exact ⟨⟨yp, m2 + 1, rfl, by go_num, by omega, HST, HPY, HBz⟩, by simp only [intOf]; omega⟩
theorem forest_w {H : Type} {enc : TypeId × Value → H} {w : World} {base : Nat} (v : Value) (d : DataW H) (p : List MemPlace) (h : DataW.Trod enc Try.prog w 0 (fun _ => true) true 22 v d p) (hv : Value.okWide Try.prog w .any base 22 v) :
    Calls Try.prog 7 #[v] w fun e w' => e = .returned (.bool true) ∧ Below w.heap.size w w' := by
  obtain ⟨l, ht, hl⟩ := placesIn h hv
  exact forest_walk l v w ht hl
end Go.Proofs.Ytcflnjmglanneaa
