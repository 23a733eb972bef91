/- Folders: the reference's put. -/
import Derived.Test.YtcflnjmglanneaaTp
namespace Go.Proofs.Ytcflnjmglanneaa
open Go.RowKit Go.Maps
set_option maxRecDepth 100000
set_option linter.unusedVariables false
set_option linter.unusedSimpArgs false

theorem info_place : (Try.prog.info? 24).map (fun i => (i.zero, i.size, i.bytes)) = some (some (.agg #[.int .i64 0, .int .i64 0, .int .i64 0, .int .i64 0, .string ⟨#[]⟩]), 5, 48) := by kernel_rfl
/-- The loop that puts a place among the others. -/
def insLoop (p : Pl) : Bool → List Pl → List Pl → List Pl
  | dn, acc, [] => if dn then acc else acc ++ [p]
  | dn, acc, e :: t => insLoop p (dn || decide (p.f ≤ e.f)) (if e.f = p.f then (if dn = false ∧ p.f ≤ e.f then acc ++ [p] else acc) else (if dn = false ∧ p.f ≤ e.f then acc ++ [p] else acc) ++ [e]) t
theorem insLoop_true (p : Pl) : ∀ (t acc : List Pl), insLoop p true acc t = acc ++ t.filter fun e => decide (e.f ≠ p.f)
  | [], acc => by simp [insLoop]
  | e :: t, acc => by
    rw [insLoop, Bool.true_or, insLoop_true p t]
    by_cases h : e.f = p.f <;> simp [h]
theorem insLoop_false (p : Pl) : ∀ (t acc : List Pl), insLoop p false acc t = acc ++ insT p t
  | [], acc => by simp [insLoop, insT]
  | e :: t, acc => by
    rw [insLoop, insT]
    by_cases h : p.f ≤ e.f
    · simp only [h, decide_true, Bool.false_or, true_and, if_true]
      rw [insLoop_true]
      by_cases h2 : e.f = p.f <;> simp [h2]
    · have h2 : ¬ e.f = p.f := by omega
      simp only [h, h2, decide_false, Bool.false_or, and_false, if_false]
      rw [insLoop_false p t]
      simp
theorem insT_len (p : Pl) : ∀ t, (insT p t).length ≤ t.length + 1
  | [] => by simp [insT]
  | e :: t => by
    unfold insT
    split
    · rw [List.length_cons]; have := List.length_filter_le (fun y : Pl => decide (y.f ≠ p.f)) (e :: t); omega
    · rw [List.length_cons, List.length_cons]; have := insT_len p t; omega
theorem cells_one (e : Pl) : ∀ u ∈ e.cells, u.oneCell' = true := by intro u hu; simp [Pl.cells] at hu; rcases hu with rfl | rfl | rfl | rfl | rfl <;> rfl
theorem lit_place (w : World) (e : Pl) : RowAt (w.alloc (.cells e.cells.toArray 24)) (.slice (some ⟨w.heap.size, 0, none⟩) 1 1) 5 1 e.cells :=
  RowAt.of_own (World.ownsRow_lit (base := 0) (size := 5) (e := 24) w e.cells.toArray 1 (Nat.zero_le _) (by unfold maxLen; omega) rfl)
/-- A row of places that grows: its block is not A. -/
structure OutAt (w : World) (A : Nat) (W : World) (q : Option Addr) (n c : Nat) (acc : List Pl) : Prop where
  own : W.ownsRow w.heap.size 24 5 (.slice q n c) n (cellsP acc)
  len : n = acc.length
  far : ∀ a, q = some a → a.block ≠ A
  bel : Below w.heap.size w W
theorem OutAt.row {w W : World} {A n c : Nat} {q : Option Addr} {acc : List Pl} (h : OutAt w A W q n c acc) (o : Obj) : (W.alloc o).ownsRow w.heap.size 24 5 (.slice q n c) n (cellsP acc) := below_own h.own (below_alloc W o)
theorem OutAt.app {w W w5 : World} {A n c : Nat} {q : Option Addr} {acc : List Pl} {e : Pl} {v' : Value} {o : Obj} (h : OutAt w A W q n c acc) (hA : A < W.heap.size)
    (hown : w5.ownsRow w.heap.size 24 5 v' (n + 1) (cellsP acc ++ e.cells)) (hg : (W.alloc o).grownBy w5 (Value.slice q n c).ownBlock) (hwh : v'.ownBlock = (Value.slice q n c).ownBlock ∨ v'.ownBlock = some (W.alloc o).heap.size) :
    ∃ q' c', v' = .slice q' (n + 1) c' ∧ OutAt w A w5 q' (n + 1) c' (acc ++ [e]) ∧ w5.heap[A]? = W.heap[A]? ∧ W.heap.size ≤ w5.heap.size := by
  obtain ⟨q', c', rfl⟩ : ∃ q c, v' = .slice q (n + 1) c := by
    rcases hown.2 with ⟨rfl, hn⟩ | ⟨g, cap, cur, rfl, -⟩
    · omega
    · exact ⟨_, _, rfl⟩
  refine ⟨q', c', rfl, ⟨by rw [cellsP_append, cellsP_one]; exact hown, by rw [h.len]; simp, fun a ha => ?_, below_app h.own h.bel hg⟩, ?_, ?_⟩
  · subst ha
    rcases hwh with h' | h'
    · cases q with
      | none => cases h'
      | some a' => injection h' with h'; rw [h']; exact h.far a' rfl
    · have h2 : a.block = W.heap.size + 1 := by injection h' with h'; rw [h']; simp
      omega
  · exact (hg.block A (by rw [World.size_alloc]; omega) (own_ne (w := W) h.far)).trans ((below_alloc W o).block A hA)
  · have := hg.size; rw [World.size_alloc] at this; omega
theorem OutAt.below {w W W' : World} {A n c : Nat} {q : Option Addr} {acc : List Pl} (h : OutAt w A W q n c acc) (hB : Below W.heap.size W W') : OutAt w A W' q n c acc :=
  ⟨below_own h.own hB, h.len, h.far, h.bel.trans (hB.mono h.bel.size)⟩
theorem OutAt.at {w W : World} {A n c : Nat} {q : Option Addr} {acc : List Pl} (h : OutAt w A W q n c acc) : PlAt W (.slice q n c) acc := PlAt.of_own (by rw [← h.len]; exact h.own)
theorem OutAt.new (w W : World) (A : Nat) (hB : Below w.heap.size w W) (hA : A < W.heap.size) : OutAt w A (W.alloc (.cells #[] 24)) (some ⟨W.heap.size, 0, none⟩) 0 0 [] :=
  ⟨World.ownsRow_lit (base := w.heap.size) (size := 5) (e := 24) W #[] 0 hB.size (by unfold maxLen; omega) (by simp), rfl, fun a e => by cases e; exact (Nat.ne_of_lt hA).symm, hB.alloc hB.size _⟩
theorem pl_cells_box {w : World} {b : Nat} {x : Pl} {t : TypeId} (h : w.heap[b]? = some (.cells x.cells.toArray t (0, 0))) : ∀ (j : Nat) u, x.cells[j]? = some u → w.cell? ⟨b, j, none⟩ = some u := by
  intro j u hu
  unfold World.cell?
  rw [h]
  simpa using hu

set_option maxHeartbeats 8000000 in
theorem rput_ok (t : List Pl) (L : Int → Nat) (v : Value) (p : Pl) (w : World) (hF : Frst t L) (ht : PlAt w v t) (hl : t.length ≤ 1000) (hk : okP p) :
    Calls Try.prog 31 #[v, p.ev] w fun e w' => ∃ u, e = .returned (.tuple #[u, .bool (putT t p).isSome]) ∧ PlAt w' u (stepT t p) ∧ Below w.heap.size w w' := by
  obtain ⟨pt, pc, rfl, hc, -⟩ := ht.form
  have HT := Lib.hid ht
  have HF := Lib.hid hF
  have HK := Lib.hid hk
  obtain ⟨i0, hi, hz0, hz1, hzb⟩ := info_parts info_place
  obtain ⟨nt, hnt⟩ : ∃ n, n = t.length := ⟨_, rfl⟩
  have HNT := Lib.hid hnt
  rw [← hnt] at HT hc hl ⊢
  obtain ⟨A, hA⟩ : ∃ A, A = w.heap.size := ⟨_, rfl⟩
  have HA := Lib.hid hA
  have hsz0 : A < (w.alloc (.cells p.cells.toArray 24)).heap.size := by rw [hA]; simp
  have HX0 : Hid ((w.alloc (.cells p.cells.toArray 24)).heap[A]? = some (.cells p.cells.toArray 24 (0, 0))) := Lib.hid (by rw [hA]; exact World.alloc_heap_new w _)
  have HB0 := Lib.hid (below_alloc w (.cells p.cells.toArray 24))
  obtain ⟨W0, hW0⟩ : ∃ W, W = w.alloc (.cells p.cells.toArray 24) := ⟨_, rfl⟩
  have HW0 := Lib.hid hW0
  rw [← hW0] at HX0 HB0 hsz0
  have HP := Lib.hid (rplace_ok t (.slice pt nt pc) p.p W0 (HT.out.below HB0.out) (by rw [← hnt]; omega))
  have hbx := box_cells HX0.out
  clear ht hF hk hnt hA
  obtain ⟨a0, ad, af, ap, an⟩ := p
  obtain ⟨b0, b1, b2, b3, b4⟩ := hbx
  have hW0' : w.alloc (.cells #[.int .i64 a0, .int .i64 ad, .int .i64 af, .int .i64 ap, .string an] 24) = W0 := hW0.symm
  have hAs : w.heap.size = A := HA.out.symm
  unfold Pl.ev
  dsimp only at b0 b1 b2 b3 b4 HP ⊢
  clear hW0
  go_enter Try.func31, Try.ntmps31
  go_upto_region 1 with fail
  clear hW0' hAs
  go_wp2_with fail
  refine (HP.out).mono ?_
  rintro e w1 ⟨rfl, hB⟩
  have HX1 := Lib.hid ((hB.block A hsz0).trans HX0.out)
  have HB1 := Lib.hid (below_trans HB0.out hB)
  have hsz1 : A < w1.heap.size := Nat.lt_of_lt_of_le hsz0 hB.size
  obtain ⟨ex, hex⟩ : ∃ ex, ex = (placeT t ap).isSome := ⟨_, rfl⟩
  obtain ⟨e0, he0⟩ : ∃ e, e = (placeT t ap).getD pl0 := ⟨_, rfl⟩
  rw [← hex, ← he0]
  have HEX := Lib.hid hex
  clear HP hB he0 hex b0 b1 b2 b3 b4 HX0 HB0 hsz0 HW0
  obtain ⟨et, ed, ef, ep, en⟩ := e0
  unfold Pl.ev
  dsimp only
  go_upto_region 2 with fail
  have hA2 := below_alloc w1 (.cells #[.int .i64 et, .int .i64 ed, .int .i64 ef, .int .i64 ep, .string en] 24)
  obtain ⟨W2, hW2⟩ : ∃ W, W = w1.alloc (.cells #[.int .i64 et, .int .i64 ed, .int .i64 ef, .int .i64 ep, .string en] 24) := ⟨_, rfl⟩
  rw [← hW2] at hA2 ⊢
  have HX2 := Lib.hid ((hA2.block A hsz1).trans HX1.out)
  have HB2 := Lib.hid (below_trans HB1.out hA2)
  have hsz2 : A < W2.heap.size := Nat.lt_of_lt_of_le hsz1 hA2.size
  clear hW2 hA2 HX1 HB1 hsz1
  obtain ⟨b0, b1, b2, b3, b4⟩ := box_cells HX2.out
  dsimp only at b0 b1 b2 b3 b4
  go_cut [33] from 19 to 33 (fun v wx => v = .bool (decide (BadP t ⟨a0, ad, af, ap, an⟩)) ∧ Hid (Below W2.heap.size W2 wx))
  case first =>
    by_cases h0 : 0 ≤ ap
    case neg =>
      have hd := decide_eq_false h0
      have HV : Hid (decide (BadP t ⟨a0, ad, af, ap, an⟩) = false) := Lib.hid (decide_eq_false fun k => h0 k.1)
      clear h0
      go_wp2_with fail
      go_meet
      exact ⟨by rw [HV.out], Lib.hid (Below.refl _ _)⟩
    have hd := decide_eq_true h0
    cases ex with
    | false =>
      have HV : Hid (decide (BadP t ⟨a0, ad, af, ap, an⟩) = true) := Lib.hid (decide_eq_true ⟨h0, .inl HEX.out.symm⟩)
      clear h0
      go_wp2_with fail
      go_meet
      exact ⟨by rw [HV.out], Lib.hid (Below.refl _ _)⟩
    | true =>
      have HWi := Lib.hid (rwithin_ok t (.slice pt nt pc) ap af 32 W2 (HT.out.below HB2.out) (by rw [← HNT.out]; omega) (by rw [HF.out.len (by decide)]; have := HF.out.le ap; omega) (by decide))
      have HV : Hid (decide (BadP t ⟨a0, ad, af, ap, an⟩) = decide (ap = af ∨ af ∈ upT t 32 ap)) := Lib.hid (by
        have h1 : (placeT t ap).isSome = true := HEX.out.symm
        unfold BadP
        simp only [h0, h1, true_and, Bool.true_eq_false, false_or])
      obtain ⟨r, hr⟩ : ∃ r, r = decide (ap = af ∨ af ∈ upT t 32 ap) := ⟨_, rfl⟩
      rw [← hr] at HV HWi
      clear h0 hr
      go_wp2_with fail
      refine (HWi.out).mono ?_
      rintro e w3 ⟨rfl, hB⟩
      have HB3 := Lib.hid hB
      clear hB HWi
      go_wp2_with fail
      go_meet
      exact ⟨by rw [HV.out], HB3⟩
  case rest =>
    obtain ⟨hv, HBc⟩ := hcut
    by_cases hb : BadP t ⟨a0, ad, af, ap, an⟩
    case pos =>
      rw [decide_eq_true hb] at hv
      have HR1 : Hid (putT t ⟨a0, ad, af, ap, an⟩ = none) := Lib.hid (by unfold putT; rw [if_pos hb])
      clear hb
      subst hv
      go_wp2_with fail
      go_ret2
      refine ⟨_, by rw [HR1.out]; rfl, ?_, HB2.out.trans (HBc.out.mono HB2.out.size)⟩
      unfold stepT
      rw [HR1.out]
      exact HT.out.below (HB2.out.trans (HBc.out.mono HB2.out.size))
    rw [decide_eq_false hb] at hv
    have HNB := Lib.hid hb
    subst hv
    have HXc := Lib.hid ((HBc.out.block A hsz2).trans HX2.out)
    have HBw := Lib.hid (HB2.out.trans (HBc.out.mono HB2.out.size))
    have hszc : A < wc.heap.size := Nat.lt_of_lt_of_le hsz2 HBc.out.size
    clear hb b0 b1 b2 b3 b4 HX2 HB2 HBc hsz2
    obtain ⟨O, hO⟩ : ∃ O, O = insT ⟨a0, ad, af, ap, an⟩ t := ⟨_, rfl⟩
    have HOO := Lib.hid hO
    have ho0 := OutAt.new w wc A HBw.out hszc
    have hx0 := ((below_alloc wc (.cells #[] 24)).block A hszc).trans HXc.out
    obtain ⟨W3, hW3⟩ : ∃ W, W = wc.alloc (.cells #[] 24) := ⟨_, rfl⟩
    go_upto_region 5 with fail
    rw [← hW3] at ho0 hx0 ⊢
    have HO3 := Lib.hid ho0
    have HX3 := Lib.hid hx0
    obtain ⟨q3, hq3⟩ : ∃ q, q = some (⟨wc.heap.size, 0, none⟩ : Addr) := ⟨_, rfl⟩
    rw [← hq3] at HO3 ⊢
    clear ho0 hx0 hW3 hO HXc hszc hq3
    go_wp2_with fail
    go_loopw [8, 9, 10] (fun v8 v9 v10 wr => ∃ (q : Option Addr) (n c : Nat) (acc : List Pl) (dn : Bool) (k : Nat), v8 = .slice q n c ∧ v9 = .bool dn ∧ v10 = .int .i64 k ∧ k ≤ nt ∧ n ≤ 2 * k ∧ Hid (insLoop ⟨a0, ad, af, ap, an⟩ dn acc (t.drop k) = O) ∧ Hid (OutAt w A wr q n c acc) ∧ Hid (wr.heap[A]? = some (.cells (Pl.cells ⟨a0, ad, af, ap, an⟩).toArray 24 (0, 0)))) (fun _ _ v10 _ => nt - (intOf v10).toNat)
    case atStart => exact ⟨q3, 0, 0, [], false, 0, rfl, rfl, rfl, Nat.zero_le _, Nat.zero_le _, Lib.hid (by rw [insLoop_false, HOO.out]; rfl), HO3, HX3⟩
    case round =>
      obtain ⟨q, n, c, acc, dn, k, rfl, rfl, rfl, hk, hn2, HE, HO, HX⟩ := hrel
      by_cases hkn : k < nt
      case neg =>
        have hd := decide_eq_false (show ¬ ((k : Int) < (nt : Int)) by omega)
        have hd' := decide_eq_false hkn
        obtain rfl : k = nt := by omega
        have HE2 : Hid ((if dn then acc else acc ++ [⟨a0, ad, af, ap, an⟩]) = O) := Lib.hid (by
          have h := HE.out
          rw [List.drop_of_length_le (by rw [← HNT.out]; exact Nat.le_refl _)] at h
          exact h)
        clear HE hkn
        obtain ⟨b0, b1, b2, b3, b4⟩ := box_cells HX.out
        dsimp only at b0 b1 b2 b3 b4
        have hAw : A < wr.heap.size := (Array.getElem?_eq_some_iff.1 HX.out).1
        cases dn with
        | true =>
          have HO5 : Hid (OutAt w A wr q n c O) := Lib.hid (by have h := HE2.out; rw [if_pos rfl] at h; rw [← h]; exact HO.out)
          obtain ⟨m, hm⟩ : ∃ m, m = n := ⟨_, rfl⟩
          have hm2 : m ≤ 2001 := by omega
          rw [← hm] at HO5 ⊢
          obtain ⟨W7, hW7⟩ : ∃ W7, W7 = wr := ⟨_, rfl⟩
          rw [← hW7] at HO5 ⊢
          clear hW7
          have HT5 := Lib.hid HO5.out.at
          have hmO : m = O.length := HO5.out.len
          have HMO := Lib.hid hmO
          have HO7 := Lib.hid HO5.out.bel
          clear hm hd hd' HE2 HO5 hmO
          go_wp2_with fail
          go_loopw [11] (fun i wr => ∃ k : Nat, i = .int .i64 k ∧ k ≤ m ∧ Hid (∀ x ∈ O.take k, ¬ 8 < 1 + (upT O 32 x.f).length) ∧ Hid (Below W7.heap.size W7 wr)) (fun i _ => m - (intOf i).toNat)
          case atStart => exact ⟨0, rfl, Nat.zero_le _, Lib.hid (by simp), Lib.hid (Below.refl _ _)⟩
          case round =>
            obtain ⟨j, rfl, hj, HE, HBr⟩ := hrel
            by_cases hjm : j < m
            case neg =>
              have hd := decide_eq_false (show ¬ ((j : Int) < (m : Int)) by omega)
              have hd' := decide_eq_false hjm
              have HR1 : Hid (putT t ⟨a0, ad, af, ap, an⟩ = some O) := Lib.hid (by
                unfold putT
                rw [if_neg HNB.out, ← HOO.out, if_neg]
                rintro ⟨x, hx, h8⟩
                refine HE.out x ?_ h8
                rw [List.take_of_length_le (by rw [← HMO.out]; omega)]
                exact hx)
              go_wp2_with fail
              go_ret2
              refine ⟨_, by rw [HR1.out]; rfl, ?_, HO7.out.trans (HBr.out.mono HO7.out.size)⟩
              unfold stepT
              rw [HR1.out]
              exact HT5.out.below HBr.out
            have hd := decide_eq_true (show (j : Int) < (m : Int) by omega)
            have hd' := decide_eq_true hjm
            obtain ⟨e, he, ht1⟩ := take_at (l := O) (j := j) (by rw [← HMO.out]; exact hjm)
            obtain ⟨g, o, rfl, hcs⟩ := (HT5.out.cells).2.2 (by omega)
            obtain ⟨c0, c1, c2, c3, c4⟩ := (hcs j e he).below HBr.out
            have HM1 : Hid (e ∈ O) := Lib.hid (List.mem_of_getElem? he)
            have HT1 := Lib.hid ht1
            have hl7 : (upT O 32 e.f).length < 32 := by
              rw [HOO.out, upT_upF, (HF.out.putLev HNB.out).upF 32 e.f (by have := HF.out.updLe ⟨a0, ad, af, ap, an⟩ e.f; omega)]
              have := HF.out.updLe ⟨a0, ad, af, ap, an⟩ e.f
              omega
            have HU := Lib.hid (rup_ok O (.slice (some ⟨g, o, none⟩) m c) e.f 32 wr (HT5.out.below HBr.out) (by rw [← HMO.out]; omega) hl7 (by decide))
            obtain ⟨et, ed, ef, ep, en⟩ := e
            dsimp only at c0 c1 c2 c3 c4 HU hl7
            obtain ⟨len, hlen⟩ : ∃ len, len = (upT O 32 ef).length := ⟨_, rfl⟩
            obtain ⟨row, hrow⟩ : ∃ row, row = (upT O 32 ef).map (Value.int .i64) := ⟨_, rfl⟩
            rw [← hlen, ← hrow] at HU
            rw [← hlen] at hl7
            have HLE := Lib.hid hlen
            clear hcs he ht1 hlen hrow
            go_wp2_with fail
            refine (HU.out).mono ?_
            rintro e w7 ⟨u, rfl, hown, hB7⟩
            obtain ⟨p7, cp7, rfl⟩ : ∃ p c, u = .slice p len c := by
              rcases hown.2 with ⟨rfl, hn⟩ | ⟨g, cap, cur, rfl, -⟩
              · exact ⟨_, _, by rw [hn]⟩
              · exact ⟨_, _, rfl⟩
            have HB7 := Lib.hid (HBr.out.trans (hB7.mono HBr.out.size))
            clear hown hB7 HU
            by_cases h8 : 8 < 1 + len
            case pos =>
              have hq := decide_eq_true (show (8 : Int) < 1 + (len : Int) by omega)
              have hq' := decide_eq_true h8
              have HR1 : Hid (putT t ⟨a0, ad, af, ap, an⟩ = none) := Lib.hid (by
                unfold putT
                rw [if_neg HNB.out, ← HOO.out, if_pos]
                refine ⟨_, HM1.out, ?_⟩
                rw [← HLE.out]
                exact h8)
              clear h8
              go_wp2_with fail
              go_ret2
              refine ⟨_, by rw [HR1.out]; rfl, ?_, HO7.out.trans (HB7.out.mono HO7.out.size)⟩
              unfold stepT
              rw [HR1.out]
              exact HT.out.below (HO7.out.trans (HB7.out.mono HO7.out.size))
            have hq := decide_eq_false (show ¬ (8 : Int) < 1 + (len : Int) by omega)
            have hq' := decide_eq_false h8
            have HE8 : Hid (∀ x ∈ O.take (j + 1), ¬ 8 < 1 + (upT O 32 x.f).length) := Lib.hid (by
              rw [HT1.out]
              intro x hx
              rcases List.mem_append.1 hx with hx | hx
              · exact HE.out x hx
              · rw [List.mem_singleton] at hx
                subst hx
                rw [← HLE.out]
                exact h8)
            clear h8
            go_wp2_with fail
            exact ⟨⟨j + 1, by go_num, by omega, HE8, HB7⟩, by simp only [intOf]; omega⟩
        | false =>
          have HE3 : Hid (acc ++ [⟨a0, ad, af, ap, an⟩] = O) := Lib.hid (by have h := HE2.out; rw [if_neg (by simp)] at h; exact h)
          go_wp2_with (at_builtin; refine Hid.out ?_)
          refine Lib.hid ?_
          refine wpList_plain rfl fun _ hK => ?_
          refine wp_append_row_at _ _ 22 rfl w.heap.size 24 i0 (.agg #[.int .i64 0, .int .i64 0, .int .i64 0, .int .i64 0, .string ⟨#[]⟩]) 5 48 Try.underlying22 hi hz0 hz1 hzb rfl (by decide) _ _ _ rfl (HO.out.row (.cells (Pl.cells ⟨a0, ad, af, ap, an⟩).toArray 24)) _ _ _ rfl (lit_place wr ⟨a0, ad, af, ap, an⟩) (cells_one _) (by unfold maxLen; omega) (by omega) (by have := HO.out.bel.size; rw [World.size_alloc]; omega) ?_
          intro v' w5 hown5 hgrow5 hwh5
          obtain ⟨qq6, cc6, rfl, ho5, hA5, hsz5⟩ := HO.out.app (e := ⟨a0, ad, af, ap, an⟩) hAw hown5 hgrow5 hwh5
          obtain ⟨W6, hW5⟩ : ∃ W, W = w5 := ⟨_, rfl⟩
          rw [← hW5] at ho5 hA5 hsz5 ⊢
          have HO6 := Lib.hid ho5
          have HX6 := Lib.hid (hA5.trans HX.out)
          have hA6 : A < W6.heap.size := Nat.lt_of_lt_of_le hAw hsz5
          clear hown5 hgrow5 hwh5 ho5 hA5 hsz5 hW5
          refine hK _ _ ?_
          clear hK
          have HO5 : Hid (OutAt w A W6 qq6 (n + 1) cc6 O) := Lib.hid (by rw [← HE3.out]; exact HO6.out)
          obtain ⟨m, hm⟩ : ∃ m, m = (n + 1) := ⟨_, rfl⟩
          have hm2 : m ≤ 2001 := by omega
          rw [← hm] at HO5 ⊢
          obtain ⟨W7, hW7⟩ : ∃ W7, W7 = W6 := ⟨_, rfl⟩
          rw [← hW7] at HO5 ⊢
          clear hW7
          have HT5 := Lib.hid HO5.out.at
          have hmO : m = O.length := HO5.out.len
          have HMO := Lib.hid hmO
          have HO7 := Lib.hid HO5.out.bel
          clear hm hd hd' HE2 HO5 hmO
          go_wp2_with fail
          go_loopw [11] (fun i wr => ∃ k : Nat, i = .int .i64 k ∧ k ≤ m ∧ Hid (∀ x ∈ O.take k, ¬ 8 < 1 + (upT O 32 x.f).length) ∧ Hid (Below W7.heap.size W7 wr)) (fun i _ => m - (intOf i).toNat)
          case atStart => exact ⟨0, rfl, Nat.zero_le _, Lib.hid (by simp), Lib.hid (Below.refl _ _)⟩
          case round =>
            obtain ⟨j, rfl, hj, HE, HBr⟩ := hrel
            by_cases hjm : j < m
            case neg =>
              have hd := decide_eq_false (show ¬ ((j : Int) < (m : Int)) by omega)
              have hd' := decide_eq_false hjm
              have HR1 : Hid (putT t ⟨a0, ad, af, ap, an⟩ = some O) := Lib.hid (by
                unfold putT
                rw [if_neg HNB.out, ← HOO.out, if_neg]
                rintro ⟨x, hx, h8⟩
                refine HE.out x ?_ h8
                rw [List.take_of_length_le (by rw [← HMO.out]; omega)]
                exact hx)
              go_wp2_with fail
              go_ret2
              refine ⟨_, by rw [HR1.out]; rfl, ?_, HO7.out.trans (HBr.out.mono HO7.out.size)⟩
              unfold stepT
              rw [HR1.out]
              exact HT5.out.below HBr.out
            have hd := decide_eq_true (show (j : Int) < (m : Int) by omega)
            have hd' := decide_eq_true hjm
            obtain ⟨e, he, ht1⟩ := take_at (l := O) (j := j) (by rw [← HMO.out]; exact hjm)
            obtain ⟨g, o, rfl, hcs⟩ := (HT5.out.cells).2.2 (by omega)
            obtain ⟨c0, c1, c2, c3, c4⟩ := (hcs j e he).below HBr.out
            have HM1 : Hid (e ∈ O) := Lib.hid (List.mem_of_getElem? he)
            have HT1 := Lib.hid ht1
            have hl7 : (upT O 32 e.f).length < 32 := by
              rw [HOO.out, upT_upF, (HF.out.putLev HNB.out).upF 32 e.f (by have := HF.out.updLe ⟨a0, ad, af, ap, an⟩ e.f; omega)]
              have := HF.out.updLe ⟨a0, ad, af, ap, an⟩ e.f
              omega
            have HU := Lib.hid (rup_ok O (.slice (some ⟨g, o, none⟩) m cc6) e.f 32 wr (HT5.out.below HBr.out) (by rw [← HMO.out]; omega) hl7 (by decide))
            obtain ⟨et, ed, ef, ep, en⟩ := e
            dsimp only at c0 c1 c2 c3 c4 HU hl7
            obtain ⟨len, hlen⟩ : ∃ len, len = (upT O 32 ef).length := ⟨_, rfl⟩
            obtain ⟨row, hrow⟩ : ∃ row, row = (upT O 32 ef).map (Value.int .i64) := ⟨_, rfl⟩
            rw [← hlen, ← hrow] at HU
            rw [← hlen] at hl7
            have HLE := Lib.hid hlen
            clear hcs he ht1 hlen hrow
            go_wp2_with fail
            refine (HU.out).mono ?_
            rintro e w7 ⟨u, rfl, hown, hB7⟩
            obtain ⟨p7, cp7, rfl⟩ : ∃ p c, u = .slice p len c := by
              rcases hown.2 with ⟨rfl, hn⟩ | ⟨g, cap, cur, rfl, -⟩
              · exact ⟨_, _, by rw [hn]⟩
              · exact ⟨_, _, rfl⟩
            have HB7 := Lib.hid (HBr.out.trans (hB7.mono HBr.out.size))
            clear hown hB7 HU
            by_cases h8 : 8 < 1 + len
            case pos =>
              have hq := decide_eq_true (show (8 : Int) < 1 + (len : Int) by omega)
              have hq' := decide_eq_true h8
              have HR1 : Hid (putT t ⟨a0, ad, af, ap, an⟩ = none) := Lib.hid (by
                unfold putT
                rw [if_neg HNB.out, ← HOO.out, if_pos]
                refine ⟨_, HM1.out, ?_⟩
                rw [← HLE.out]
                exact h8)
              clear h8
              go_wp2_with fail
              go_ret2
              refine ⟨_, by rw [HR1.out]; rfl, ?_, HO7.out.trans (HB7.out.mono HO7.out.size)⟩
              unfold stepT
              rw [HR1.out]
              exact HT.out.below (HO7.out.trans (HB7.out.mono HO7.out.size))
            have hq := decide_eq_false (show ¬ (8 : Int) < 1 + (len : Int) by omega)
            have hq' := decide_eq_false h8
            have HE8 : Hid (∀ x ∈ O.take (j + 1), ¬ 8 < 1 + (upT O 32 x.f).length) := Lib.hid (by
              rw [HT1.out]
              intro x hx
              rcases List.mem_append.1 hx with hx | hx
              · exact HE.out x hx
              · rw [List.mem_singleton] at hx
                subst hx
                rw [← HLE.out]
                exact h8)
            clear h8
            go_wp2_with fail
            exact ⟨⟨j + 1, by go_num, by omega, HE8, HB7⟩, by simp only [intOf]; omega⟩
      have hd := decide_eq_true (show (k : Int) < (nt : Int) by omega)
      have hd' := decide_eq_true hkn
      obtain ⟨e, he⟩ : ∃ e, t[k]? = some e := ⟨t[k]'(by rw [← HNT.out]; exact hkn), List.getElem?_eq_getElem _⟩
      have hdrop : t.drop k = e :: t.drop (k + 1) := by
        rw [List.drop_eq_getElem_cons (by rw [← HNT.out]; exact hkn)]
        rw [List.getElem?_eq_getElem (by rw [← HNT.out]; exact hkn)] at he
        injection he with he
        rw [he]
      have HE2 : Hid (insLoop ⟨a0, ad, af, ap, an⟩ (dn || decide (af ≤ e.f)) (if e.f = af then (if dn = false ∧ af ≤ e.f then acc ++ [⟨a0, ad, af, ap, an⟩] else acc) else (if dn = false ∧ af ≤ e.f then acc ++ [⟨a0, ad, af, ap, an⟩] else acc) ++ [e]) (t.drop (k + 1)) = O) := Lib.hid (by
        have h := HE.out
        rw [hdrop, insLoop] at h
        exact h)
      obtain ⟨g, o, rfl, hcs⟩ := (HT.out.cells).2.2 (by omega)
      have HC := Lib.hid fun (W : World) (hW : Below w.heap.size w W) => (hcs k e he).below hW
      obtain ⟨c0, c1, c2, c3, c4⟩ := HC.out _ HO.out.bel
      obtain ⟨b0, b1, b2, b3, b4⟩ := box_cells HX.out
      obtain ⟨et, ed, ef, ep, en⟩ := e
      dsimp only at b0 b1 b2 b3 b4 c0 c1 c2 c3 c4 HE2
      clear hdrop he hcs HE
      have hAw : A < wr.heap.size := (Array.getElem?_eq_some_iff.1 HX.out).1
      by_cases heq : ef = af
      case pos =>
        have hf1 : (ef == af) = true := by simpa using heq
        have hf2 : (ef != af) = false := by simpa using heq
        have hf3 : decide (ef = af) = true := decide_eq_true heq
        have hg1 : decide (af ≤ ef) = true := decide_eq_true (by omega)
        have hle : af ≤ ef := by omega
        cases dn with
        | true =>
          have HE3 : Hid (insLoop ⟨a0, ad, af, ap, an⟩ true acc (t.drop (k + 1)) = O) := Lib.hid (by have h := HE2.out; rw [if_pos heq, if_neg (by simp), Bool.true_or] at h; exact h)
          clear heq hle
          go_upto_region 9 with fail
          go_quiet (fail)
          obtain ⟨W1, hWq⟩ : ∃ W, W = wr.drewN nq := ⟨_, rfl⟩
          rw [← hWq]
          have hBq : Below wr.heap.size wr W1 := by rw [hWq]; exact ⟨rfl, rfl, rfl, Nat.le_refl _, fun _ _ => rfl⟩
          have HO1 := Lib.hid (HO.out.below hBq)
          have HX1 := Lib.hid ((hBq.block A hAw).trans HX.out)
          have hA1 : A < W1.heap.size := Nat.lt_of_lt_of_le hAw hBq.size
          clear hWq hBq c0 c1 c2 c3 c4 b0 b1 b2 b3 b4
          obtain ⟨c0, c1, c2, c3, c4⟩ := HC.out _ HO1.out.bel
          obtain ⟨b0, b1, b2, b3, b4⟩ := box_cells HX1.out
          dsimp only at b0 b1 b2 b3 b4 c0 c1 c2 c3 c4
          go_upto_region 12 with fail
          go_quiet (fail)
          obtain ⟨W2, hWq⟩ : ∃ W, W = W1.drewN nq := ⟨_, rfl⟩
          rw [← hWq]
          have hBq : Below W1.heap.size W1 W2 := by rw [hWq]; exact ⟨rfl, rfl, rfl, Nat.le_refl _, fun _ _ => rfl⟩
          have HO2 := Lib.hid (HO1.out.below hBq)
          have HX2 := Lib.hid ((hBq.block A hA1).trans HX1.out)
          have hA2 : A < W2.heap.size := Nat.lt_of_lt_of_le hA1 hBq.size
          clear hWq hBq c0 c1 c2 c3 c4 b0 b1 b2 b3 b4
          obtain ⟨c0, c1, c2, c3, c4⟩ := HC.out _ HO2.out.bel
          obtain ⟨b0, b1, b2, b3, b4⟩ := box_cells HX2.out
          dsimp only at b0 b1 b2 b3 b4 c0 c1 c2 c3 c4
          go_wp2_with fail
          exact ⟨⟨q, n, c, acc, true, k + 1, rfl, rfl, by go_num, by omega, by omega, HE3, HO2, HX2⟩, by simp only [intOf]; omega⟩
        | false =>
          have HE3 : Hid (insLoop ⟨a0, ad, af, ap, an⟩ true (acc ++ [⟨a0, ad, af, ap, an⟩]) (t.drop (k + 1)) = O) := Lib.hid (by have h := HE2.out; rw [if_pos heq, if_pos ⟨rfl, hle⟩, Bool.false_or, hg1] at h; exact h)
          clear heq hle
          go_upto_region 9 with fail
          go_quiet (fail)
          obtain ⟨W1, hWq⟩ : ∃ W, W = wr.drewN nq := ⟨_, rfl⟩
          rw [← hWq]
          have hBq : Below wr.heap.size wr W1 := by rw [hWq]; exact ⟨rfl, rfl, rfl, Nat.le_refl _, fun _ _ => rfl⟩
          have HO1 := Lib.hid (HO.out.below hBq)
          have HX1 := Lib.hid ((hBq.block A hAw).trans HX.out)
          have hA1 : A < W1.heap.size := Nat.lt_of_lt_of_le hAw hBq.size
          clear hWq hBq c0 c1 c2 c3 c4 b0 b1 b2 b3 b4
          obtain ⟨c0, c1, c2, c3, c4⟩ := HC.out _ HO1.out.bel
          obtain ⟨b0, b1, b2, b3, b4⟩ := box_cells HX1.out
          dsimp only at b0 b1 b2 b3 b4 c0 c1 c2 c3 c4
          go_wp2_with (at_builtin; refine Hid.out ?_)
          refine Lib.hid ?_
          refine wpList_plain rfl fun _ hK => ?_
          refine wp_append_row_at _ _ 22 rfl w.heap.size 24 i0 (.agg #[.int .i64 0, .int .i64 0, .int .i64 0, .int .i64 0, .string ⟨#[]⟩]) 5 48 Try.underlying22 hi hz0 hz1 hzb rfl (by decide) _ _ _ rfl (HO1.out.row (.cells (Pl.cells ⟨a0, ad, af, ap, an⟩).toArray 24)) _ _ _ rfl (lit_place W1 ⟨a0, ad, af, ap, an⟩) (cells_one _) (by unfold maxLen; omega) (by omega) (by have := HO1.out.bel.size; rw [World.size_alloc]; omega) ?_
          intro v' w5 hown5 hgrow5 hwh5
          obtain ⟨qq2, cc2, rfl, ho5, hA5, hsz5⟩ := HO1.out.app (e := ⟨a0, ad, af, ap, an⟩) hA1 hown5 hgrow5 hwh5
          obtain ⟨W2, hW5⟩ : ∃ W, W = w5 := ⟨_, rfl⟩
          rw [← hW5] at ho5 hA5 hsz5 ⊢
          have HO2 := Lib.hid ho5
          have HX2 := Lib.hid (hA5.trans HX1.out)
          have hA2 : A < W2.heap.size := Nat.lt_of_lt_of_le hA1 hsz5
          clear hown5 hgrow5 hwh5 ho5 hA5 hsz5 hW5
          refine hK _ _ ?_
          clear hK
          clear c0 c1 c2 c3 c4 b0 b1 b2 b3 b4
          obtain ⟨c0, c1, c2, c3, c4⟩ := HC.out _ HO2.out.bel
          obtain ⟨b0, b1, b2, b3, b4⟩ := box_cells HX2.out
          dsimp only at b0 b1 b2 b3 b4 c0 c1 c2 c3 c4
          go_upto_region 12 with fail
          go_quiet (fail)
          obtain ⟨W3, hWq⟩ : ∃ W, W = W2.drewN nq := ⟨_, rfl⟩
          rw [← hWq]
          have hBq : Below W2.heap.size W2 W3 := by rw [hWq]; exact ⟨rfl, rfl, rfl, Nat.le_refl _, fun _ _ => rfl⟩
          have HO3 := Lib.hid (HO2.out.below hBq)
          have HX3 := Lib.hid ((hBq.block A hA2).trans HX2.out)
          have hA3 : A < W3.heap.size := Nat.lt_of_lt_of_le hA2 hBq.size
          clear hWq hBq c0 c1 c2 c3 c4 b0 b1 b2 b3 b4
          obtain ⟨c0, c1, c2, c3, c4⟩ := HC.out _ HO3.out.bel
          obtain ⟨b0, b1, b2, b3, b4⟩ := box_cells HX3.out
          dsimp only at b0 b1 b2 b3 b4 c0 c1 c2 c3 c4
          go_wp2_with fail
          exact ⟨⟨qq2, n + 1, cc2, acc ++ [⟨a0, ad, af, ap, an⟩], true, k + 1, rfl, rfl, by go_num, by omega, by omega, HE3, HO3, HX3⟩, by simp only [intOf]; omega⟩
      have hf1 : (ef == af) = false := by simpa using heq
      have hf2 : (ef != af) = true := by simpa using heq
      have hf3 : decide (ef = af) = false := decide_eq_false heq
      cases dn with
      | true =>
        have HE3 : Hid (insLoop ⟨a0, ad, af, ap, an⟩ true (acc ++ [⟨et, ed, ef, ep, en⟩]) (t.drop (k + 1)) = O) := Lib.hid (by have h := HE2.out; rw [if_neg heq, if_neg (by simp), Bool.true_or] at h; exact h)
        clear heq
        go_upto_region 9 with fail
        go_quiet (fail)
        obtain ⟨W1, hWq⟩ : ∃ W, W = wr.drewN nq := ⟨_, rfl⟩
        rw [← hWq]
        have hBq : Below wr.heap.size wr W1 := by rw [hWq]; exact ⟨rfl, rfl, rfl, Nat.le_refl _, fun _ _ => rfl⟩
        have HO1 := Lib.hid (HO.out.below hBq)
        have HX1 := Lib.hid ((hBq.block A hAw).trans HX.out)
        have hA1 : A < W1.heap.size := Nat.lt_of_lt_of_le hAw hBq.size
        clear hWq hBq c0 c1 c2 c3 c4 b0 b1 b2 b3 b4
        obtain ⟨c0, c1, c2, c3, c4⟩ := HC.out _ HO1.out.bel
        obtain ⟨b0, b1, b2, b3, b4⟩ := box_cells HX1.out
        dsimp only at b0 b1 b2 b3 b4 c0 c1 c2 c3 c4
        go_upto_region 12 with fail
        go_quiet (fail)
        obtain ⟨W2, hWq⟩ : ∃ W, W = W1.drewN nq := ⟨_, rfl⟩
        rw [← hWq]
        have hBq : Below W1.heap.size W1 W2 := by rw [hWq]; exact ⟨rfl, rfl, rfl, Nat.le_refl _, fun _ _ => rfl⟩
        have HO2 := Lib.hid (HO1.out.below hBq)
        have HX2 := Lib.hid ((hBq.block A hA1).trans HX1.out)
        have hA2 : A < W2.heap.size := Nat.lt_of_lt_of_le hA1 hBq.size
        clear hWq hBq c0 c1 c2 c3 c4 b0 b1 b2 b3 b4
        obtain ⟨c0, c1, c2, c3, c4⟩ := HC.out _ HO2.out.bel
        obtain ⟨b0, b1, b2, b3, b4⟩ := box_cells HX2.out
        dsimp only at b0 b1 b2 b3 b4 c0 c1 c2 c3 c4
        go_wp2_with (at_builtin; refine Hid.out ?_)
        refine Lib.hid ?_
        refine wpList_plain rfl fun _ hK => ?_
        refine wp_append_row_at _ _ 22 rfl w.heap.size 24 i0 (.agg #[.int .i64 0, .int .i64 0, .int .i64 0, .int .i64 0, .string ⟨#[]⟩]) 5 48 Try.underlying22 hi hz0 hz1 hzb rfl (by decide) _ _ _ rfl (HO2.out.row (.cells (Pl.cells ⟨et, ed, ef, ep, en⟩).toArray 24)) _ _ _ rfl (lit_place W2 ⟨et, ed, ef, ep, en⟩) (cells_one _) (by unfold maxLen; omega) (by omega) (by have := HO2.out.bel.size; rw [World.size_alloc]; omega) ?_
        intro v' w5 hown5 hgrow5 hwh5
        obtain ⟨qq3, cc3, rfl, ho5, hA5, hsz5⟩ := HO2.out.app (e := ⟨et, ed, ef, ep, en⟩) hA2 hown5 hgrow5 hwh5
        obtain ⟨W3, hW5⟩ : ∃ W, W = w5 := ⟨_, rfl⟩
        rw [← hW5] at ho5 hA5 hsz5 ⊢
        have HO3 := Lib.hid ho5
        have HX3 := Lib.hid (hA5.trans HX2.out)
        have hA3 : A < W3.heap.size := Nat.lt_of_lt_of_le hA2 hsz5
        clear hown5 hgrow5 hwh5 ho5 hA5 hsz5 hW5
        refine hK _ _ ?_
        clear hK
        go_wp2_with fail
        exact ⟨⟨qq3, n + 1, cc3, acc ++ [⟨et, ed, ef, ep, en⟩], true, k + 1, rfl, rfl, by go_num, by omega, by omega, HE3, HO3, HX3⟩, by simp only [intOf]; omega⟩
      | false =>
        by_cases hle : af ≤ ef
        case pos =>
          have hg1 : decide (af ≤ ef) = true := decide_eq_true hle
          have HE3 : Hid (insLoop ⟨a0, ad, af, ap, an⟩ true ((acc ++ [⟨a0, ad, af, ap, an⟩]) ++ [⟨et, ed, ef, ep, en⟩]) (t.drop (k + 1)) = O) := Lib.hid (by have h := HE2.out; rw [if_neg heq, if_pos ⟨rfl, hle⟩, Bool.false_or, hg1] at h; exact h)
          clear heq hle
          go_upto_region 9 with fail
          go_quiet (fail)
          obtain ⟨W1, hWq⟩ : ∃ W, W = wr.drewN nq := ⟨_, rfl⟩
          rw [← hWq]
          have hBq : Below wr.heap.size wr W1 := by rw [hWq]; exact ⟨rfl, rfl, rfl, Nat.le_refl _, fun _ _ => rfl⟩
          have HO1 := Lib.hid (HO.out.below hBq)
          have HX1 := Lib.hid ((hBq.block A hAw).trans HX.out)
          have hA1 : A < W1.heap.size := Nat.lt_of_lt_of_le hAw hBq.size
          clear hWq hBq c0 c1 c2 c3 c4 b0 b1 b2 b3 b4
          obtain ⟨c0, c1, c2, c3, c4⟩ := HC.out _ HO1.out.bel
          obtain ⟨b0, b1, b2, b3, b4⟩ := box_cells HX1.out
          dsimp only at b0 b1 b2 b3 b4 c0 c1 c2 c3 c4
          go_wp2_with (at_builtin; refine Hid.out ?_)
          refine Lib.hid ?_
          refine wpList_plain rfl fun _ hK => ?_
          refine wp_append_row_at _ _ 22 rfl w.heap.size 24 i0 (.agg #[.int .i64 0, .int .i64 0, .int .i64 0, .int .i64 0, .string ⟨#[]⟩]) 5 48 Try.underlying22 hi hz0 hz1 hzb rfl (by decide) _ _ _ rfl (HO1.out.row (.cells (Pl.cells ⟨a0, ad, af, ap, an⟩).toArray 24)) _ _ _ rfl (lit_place W1 ⟨a0, ad, af, ap, an⟩) (cells_one _) (by unfold maxLen; omega) (by omega) (by have := HO1.out.bel.size; rw [World.size_alloc]; omega) ?_
          intro v' w5 hown5 hgrow5 hwh5
          obtain ⟨qq2, cc2, rfl, ho5, hA5, hsz5⟩ := HO1.out.app (e := ⟨a0, ad, af, ap, an⟩) hA1 hown5 hgrow5 hwh5
          obtain ⟨W2, hW5⟩ : ∃ W, W = w5 := ⟨_, rfl⟩
          rw [← hW5] at ho5 hA5 hsz5 ⊢
          have HO2 := Lib.hid ho5
          have HX2 := Lib.hid (hA5.trans HX1.out)
          have hA2 : A < W2.heap.size := Nat.lt_of_lt_of_le hA1 hsz5
          clear hown5 hgrow5 hwh5 ho5 hA5 hsz5 hW5
          refine hK _ _ ?_
          clear hK
          clear c0 c1 c2 c3 c4 b0 b1 b2 b3 b4
          obtain ⟨c0, c1, c2, c3, c4⟩ := HC.out _ HO2.out.bel
          obtain ⟨b0, b1, b2, b3, b4⟩ := box_cells HX2.out
          dsimp only at b0 b1 b2 b3 b4 c0 c1 c2 c3 c4
          go_upto_region 12 with fail
          go_quiet (fail)
          obtain ⟨W3, hWq⟩ : ∃ W, W = W2.drewN nq := ⟨_, rfl⟩
          rw [← hWq]
          have hBq : Below W2.heap.size W2 W3 := by rw [hWq]; exact ⟨rfl, rfl, rfl, Nat.le_refl _, fun _ _ => rfl⟩
          have HO3 := Lib.hid (HO2.out.below hBq)
          have HX3 := Lib.hid ((hBq.block A hA2).trans HX2.out)
          have hA3 : A < W3.heap.size := Nat.lt_of_lt_of_le hA2 hBq.size
          clear hWq hBq c0 c1 c2 c3 c4 b0 b1 b2 b3 b4
          obtain ⟨c0, c1, c2, c3, c4⟩ := HC.out _ HO3.out.bel
          obtain ⟨b0, b1, b2, b3, b4⟩ := box_cells HX3.out
          dsimp only at b0 b1 b2 b3 b4 c0 c1 c2 c3 c4
          go_wp2_with (at_builtin; refine Hid.out ?_)
          refine Lib.hid ?_
          refine wpList_plain rfl fun _ hK => ?_
          refine wp_append_row_at _ _ 22 rfl w.heap.size 24 i0 (.agg #[.int .i64 0, .int .i64 0, .int .i64 0, .int .i64 0, .string ⟨#[]⟩]) 5 48 Try.underlying22 hi hz0 hz1 hzb rfl (by decide) _ _ _ rfl (HO3.out.row (.cells (Pl.cells ⟨et, ed, ef, ep, en⟩).toArray 24)) _ _ _ rfl (lit_place W3 ⟨et, ed, ef, ep, en⟩) (cells_one _) (by unfold maxLen; omega) (by omega) (by have := HO3.out.bel.size; rw [World.size_alloc]; omega) ?_
          intro v' w5 hown5 hgrow5 hwh5
          obtain ⟨qq4, cc4, rfl, ho5, hA5, hsz5⟩ := HO3.out.app (e := ⟨et, ed, ef, ep, en⟩) hA3 hown5 hgrow5 hwh5
          obtain ⟨W4, hW5⟩ : ∃ W, W = w5 := ⟨_, rfl⟩
          rw [← hW5] at ho5 hA5 hsz5 ⊢
          have HO4 := Lib.hid ho5
          have HX4 := Lib.hid (hA5.trans HX3.out)
          have hA4 : A < W4.heap.size := Nat.lt_of_lt_of_le hA3 hsz5
          clear hown5 hgrow5 hwh5 ho5 hA5 hsz5 hW5
          refine hK _ _ ?_
          clear hK
          go_wp2_with fail
          exact ⟨⟨qq4, n + 1 + 1, cc4, (acc ++ [⟨a0, ad, af, ap, an⟩]) ++ [⟨et, ed, ef, ep, en⟩], true, k + 1, rfl, rfl, by go_num, by omega, by omega, HE3, HO4, HX4⟩, by simp only [intOf]; omega⟩
        have hg1 : decide (af ≤ ef) = false := decide_eq_false hle
        have HE3 : Hid (insLoop ⟨a0, ad, af, ap, an⟩ false (acc ++ [⟨et, ed, ef, ep, en⟩]) (t.drop (k + 1)) = O) := Lib.hid (by have h := HE2.out; rw [if_neg heq, if_neg (fun k => hle k.2), Bool.false_or, hg1] at h; exact h)
        clear heq hle
        go_upto_region 9 with fail
        go_quiet (fail)
        obtain ⟨W1, hWq⟩ : ∃ W, W = wr.drewN nq := ⟨_, rfl⟩
        rw [← hWq]
        have hBq : Below wr.heap.size wr W1 := by rw [hWq]; exact ⟨rfl, rfl, rfl, Nat.le_refl _, fun _ _ => rfl⟩
        have HO1 := Lib.hid (HO.out.below hBq)
        have HX1 := Lib.hid ((hBq.block A hAw).trans HX.out)
        have hA1 : A < W1.heap.size := Nat.lt_of_lt_of_le hAw hBq.size
        clear hWq hBq c0 c1 c2 c3 c4 b0 b1 b2 b3 b4
        obtain ⟨c0, c1, c2, c3, c4⟩ := HC.out _ HO1.out.bel
        obtain ⟨b0, b1, b2, b3, b4⟩ := box_cells HX1.out
        dsimp only at b0 b1 b2 b3 b4 c0 c1 c2 c3 c4
        go_upto_region 12 with fail
        go_quiet (fail)
        obtain ⟨W2, hWq⟩ : ∃ W, W = W1.drewN nq := ⟨_, rfl⟩
        rw [← hWq]
        have hBq : Below W1.heap.size W1 W2 := by rw [hWq]; exact ⟨rfl, rfl, rfl, Nat.le_refl _, fun _ _ => rfl⟩
        have HO2 := Lib.hid (HO1.out.below hBq)
        have HX2 := Lib.hid ((hBq.block A hA1).trans HX1.out)
        have hA2 : A < W2.heap.size := Nat.lt_of_lt_of_le hA1 hBq.size
        clear hWq hBq c0 c1 c2 c3 c4 b0 b1 b2 b3 b4
        obtain ⟨c0, c1, c2, c3, c4⟩ := HC.out _ HO2.out.bel
        obtain ⟨b0, b1, b2, b3, b4⟩ := box_cells HX2.out
        dsimp only at b0 b1 b2 b3 b4 c0 c1 c2 c3 c4
        go_wp2_with (at_builtin; refine Hid.out ?_)
        refine Lib.hid ?_
        refine wpList_plain rfl fun _ hK => ?_
        refine wp_append_row_at _ _ 22 rfl w.heap.size 24 i0 (.agg #[.int .i64 0, .int .i64 0, .int .i64 0, .int .i64 0, .string ⟨#[]⟩]) 5 48 Try.underlying22 hi hz0 hz1 hzb rfl (by decide) _ _ _ rfl (HO2.out.row (.cells (Pl.cells ⟨et, ed, ef, ep, en⟩).toArray 24)) _ _ _ rfl (lit_place W2 ⟨et, ed, ef, ep, en⟩) (cells_one _) (by unfold maxLen; omega) (by omega) (by have := HO2.out.bel.size; rw [World.size_alloc]; omega) ?_
        intro v' w5 hown5 hgrow5 hwh5
        obtain ⟨qq3, cc3, rfl, ho5, hA5, hsz5⟩ := HO2.out.app (e := ⟨et, ed, ef, ep, en⟩) hA2 hown5 hgrow5 hwh5
        obtain ⟨W3, hW5⟩ : ∃ W, W = w5 := ⟨_, rfl⟩
        rw [← hW5] at ho5 hA5 hsz5 ⊢
        have HO3 := Lib.hid ho5
        have HX3 := Lib.hid (hA5.trans HX2.out)
        have hA3 : A < W3.heap.size := Nat.lt_of_lt_of_le hA2 hsz5
        clear hown5 hgrow5 hwh5 ho5 hA5 hsz5 hW5
        refine hK _ _ ?_
        clear hK
        go_wp2_with fail
        exact ⟨⟨qq3, n + 1, cc3, acc ++ [⟨et, ed, ef, ep, en⟩], false, k + 1, rfl, rfl, by go_num, by omega, by omega, HE3, HO3, HX3⟩, by simp only [intOf]; omega⟩
end Go.Proofs.Ytcflnjmglanneaa
