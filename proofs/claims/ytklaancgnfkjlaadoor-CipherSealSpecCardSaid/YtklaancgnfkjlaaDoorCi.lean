/- slices.Concat. -/
import Derived.Test.YtklaancgnfkjlaaDoorCh
import Derived.Laws.AppendOwnNone
namespace Go.Proofs.YtklaancgnfkjlaaDoor
open Go.RowKit
set_option maxRecDepth 100000
set_option maxHeartbeats 4000000
set_option linter.unusedVariables false
set_option linter.unusedSimpArgs false

theorem v8_one (l : List (BitVec 8)) : ∀ u ∈ l.map v8, u.oneCell' = true := by
  intro u hu
  obtain ⟨x, _, rfl⟩ := List.mem_map.1 hu
  rfl
theorem addr_add (g o j : Nat) : (⟨g, o, none⟩ : Addr).add j = ⟨g, o + j, none⟩ := by unfold Addr.add; split <;> simp_all
/-- 'append(buf, u...)', buf the call's own, u a slice of bytes as it lies (nil too). -/
theorem wpList_append_bytes {w : World} {ops : Array Oper} {rest : List Oper} {o : Oper} {a : Act} {Q : Exit → Act → World → Prop} (hgd : o.guard = none) (s x : Operand)
    (ho : o.op = .call { callee := .builtin .append, args := #[s, x], argTypes := #[28, 28] }) (base : Nat)
    (v : Value) (n : Nat) (xs : List Value) (hs : a.eval s = v) (hown : w.ownsRow base 5 1 v n xs) (u : Value) (l : List (BitVec 8)) (hx : a.eval x = u) (hu : BytesAt w u l)
    (hb : n + l.length ≤ 100000000) (hbase : base ≤ w.heap.size)
    (h : ∀ v' w', w'.ownsRow base 5 1 v' (n + l.length) (xs ++ l.map v8) → w.grownBy w' v.ownBlock → wpList Tryd.prog ops Q rest (a.put o.dst v') w') : wpList Tryd.prog ops Q (o :: rest) a w := by
  obtain ⟨i0, hi0, hz0, hz1, hz2⟩ := info_parts info_u8
  obtain ⟨p, c, rfl, hc, hp, hcell⟩ := hu
  cases p with
  | none =>
    have hc0 := hp rfl
    subst hc0
    have hl0 : l = [] := List.eq_nil_of_length_eq_zero (by omega)
    subst hl0
    exact wpList_append_own_none hgd s x 28 ho base 5 i0 1 Tryd.underlying28 hi0 v n xs hs hown hx (h v w (by simpa using hown) (World.grownBy.refl _ _))
  | some ad =>
    refine wpList_append_own w hgd s x 28 ho base 5 i0 (.int .u8 0) 1 1 Tryd.underlying28 hi0 hz0 hz1 hz2 rfl (by decide) v n xs hs hown ad l.length c (l.map v8) hx (by simp) ?_ (v8_one l) (by unfold maxLen; omega) (by omega) hbase (fun v' w' h1 h2 _ => h v' w' h1 h2)
    intro j u hj
    have hjl : j < l.length := by
      have := (List.getElem?_eq_some_iff.1 hj).1
      simpa using this
    obtain ⟨g, o, e, hg⟩ := hcell (by omega)
    obtain rfl := Option.some.inj e
    rw [addr_add, hg j hjl]
    simp [hjl] at hj
    simp [← hj, v8, hjl, List.getD]
theorem BytesAt.below {w w' : World} {v : Value} {l : List (BitVec 8)} (h : BytesAt w v l) (hB : Below w.heap.size w w') : BytesAt w' v l := by
  obtain ⟨p, c, rfl, hc, hp, hcell⟩ := h
  refine ⟨p, c, rfl, hc, hp, fun h0 => ?_⟩
  obtain ⟨g, o, e, hg⟩ := hcell h0
  exact ⟨g, o, e, fun j hj => cell_old (hg j hj) (hB.block _ (cell_lt (hg j hj)))⟩
theorem BytesAt.of_own {w : World} {B : Nat} {v : Value} {l : List (BitVec 8)} (h : w.ownsRow B 5 1 v l.length (l.map v8)) : BytesAt w v l := by
  rcases h.2 with ⟨rfl, hn⟩ | ⟨g, cap, cur, rfl, hb, hg, hnc, hcm, hsz, htk⟩
  · exact ⟨none, 0, by rw [hn], by omega, fun _ => rfl, fun h0 => by omega⟩
  · refine ⟨some ⟨g, 0, none⟩, cap, rfl, hnc, fun e => by simp at e, fun _ => ⟨g, 0, rfl, fun j hj => ?_⟩⟩
    have h1 : (cur.toList.take (l.length * 1))[j]? = (l.map v8)[j]? := by rw [htk]
    simp only [World.cell?, hg]
    have hj1 : j < l.length * 1 := by omega
    simp [hj] at h1
    simp [h1, v8, List.getD, hj]

/-- The parts before number k, in a row. -/
def totB (ls : List (List (BitVec 8))) (k : Nat) : List (BitVec 8) := (ls.take k).flatten
theorem totB_succ (ls : List (List (BitVec 8))) (k : Nat) (hk : k < ls.length) : totB ls (k + 1) = totB ls k ++ ls.getD k [] := by
  unfold totB
  rw [List.take_add_one, List.flatten_append]
  simp [hk, List.getD]
theorem totB_le (ls : List (List (BitVec 8))) (k : Nat) : (totB ls k).length ≤ ls.flatten.length := by
  have h : ls.flatten = totB ls k ++ (ls.drop k).flatten := by
    unfold totB; rw [← List.flatten_append, List.take_append_drop]
  rw [h]; simp

theorem concat_ok (g m : Nat) (t : TypeId) (vs : List Value) (ls : List (List (BitVec 8))) (hm : vs.length = m) (hls : ls.length = m) (htot : ls.flatten.length ≤ 1000000) (w : World)
    (hg : w.heap[g]? = some (.cells vs.toArray t (0, 0))) (hb : ∀ i, i < m → BytesAt w (vs.getD i undef) (ls.getD i [])) (hm2 : m ≤ 1000) :
    Calls Tryd.prog 29 #[.slice (some ⟨g, 0, none⟩) m m] w fun e w' => ∃ v, e = .returned v ∧ w'.ownsRow w.heap.size 5 1 v ls.flatten.length (ls.flatten.map v8) ∧ Below w.heap.size w w' := by
  have hgl : g < w.heap.size := (Array.getElem?_eq_some_iff.1 hg).1
  have HG : Hid (∀ i, i < m → w.cell? ⟨g, i, none⟩ = some (vs.getD i undef)) := Lib.hid fun i hi => by
    simp [World.cell?, hg, hm, hi, List.getD]
  have HV := Lib.hid hb
  clear hb hg
  go_enter Tryd.func29, Tryd.ntmps29
  go_wp2_with fail
  go_loopw [3, 11] (fun s t' wr => ∃ k : Nat, t' = .int .i64 k ∧ k ≤ m ∧ s = .int .i64 ((totB ls k).length : Nat) ∧ wr = w) (fun _ t' _ => (m - intOf t').toNat)
  case atStart => exact ⟨0, rfl, by omega, rfl, rfl⟩
  case round =>
    obtain ⟨k, rfl, hk, rfl, hwr⟩ := hrel
    have hwr' := hwr.symm
    subst hwr'
    clear hwr
    by_cases hlt : k < m
    · have hck := HG.out k hlt
      have hle := totB_le ls (k + 1)
      have hts := totB_succ ls k (by omega)
      obtain ⟨p, c, hv, hc, hp, hcell⟩ := HV.out k hlt
      rw [hv] at hck
      have hlen : (totB ls (k + 1)).length = (totB ls k).length + (ls.getD k []).length := by rw [hts]; simp
      clear hv hcell hts
      generalize (ls.getD k []).length = n at hck hlen hc
      have HL := Lib.hid hlen
      clear hlen
      generalize (totB ls k).length = q at HL ⊢
      have hge : ¬ ((q : Int) + (n : Int) < 0) := by omega
      have hqn : q + n ≤ 1000000 := by have := HL.out; omega
      go_wp2
      refine ⟨⟨k + 1, by go_num, by omega, ?_, trivial⟩, by simp [intOf]; omega⟩
      rw [HL.out]; simp
    · have hkm : Hid (k = m) := Lib.hid (by omega)
      have hle := totB_le ls k
      go_wp2_with fail
      refine (grow_ok _ (by omega) _).mono ?_
      rintro e w1 ⟨v, rfl, hown, hB⟩
      have HB := Lib.hid hB
      clear hB
      go_wp2_with fail
      go_loopw [6, 27] (fun l t' w2 => ∃ j : Nat, t' = .int .i64 j ∧ j ≤ m ∧ w2.ownsRow w.heap.size 5 1 l (totB ls j).length ((totB ls j).map v8) ∧ Hid (Below w.heap.size w w2)) (fun _ t' _ => (m - intOf t').toNat)
      case atStart => exact ⟨0, rfl, by omega, by simpa [totB] using hown, HB⟩
      case round =>
        obtain ⟨j, rfl, hj, hown2, HB2⟩ := hrel
        by_cases hlj : j < m
        · have hcj := cell_old (HG.out j hlj) (HB2.out.block _ hgl)
          have hbv := (HV.out j hlj).below HB2.out
          have hts := totB_succ ls j (by omega)
          have hle2 := totB_le ls (j + 1)
          generalize vs.getD j undef = vj at hcj hbv
          generalize ls.getD j [] = lj at hts hbv
          have hsz := HB2.out.size
          have hlen : (totB ls j).length + lj.length ≤ 1000000 := by rw [hts, List.length_append] at hle2; omega
          have HTS := Lib.hid hts
          have HBV := Lib.hid hbv
          clear hts hbv hle2
          go_wp2_with (at_builtin; refine wpList_append_bytes rfl _ _ rfl w.heap.size _ _ _ rfl hown2 _ lj rfl HBV.out (by omega) (by omega) ?_; intro v' w4 hown' hgrow)
          go_roundw
          case rel =>
            refine ⟨j + 1, by go_num, by omega, ?_, HB2.out.grown hgrow (by omega) (fun k e => (hown2.lt k e).1)⟩
            rw [HTS.out]
            simpa using hown'
          case measure => simp [intOf]; omega
        · have hjm : j = m := by omega
          have hfl : totB ls j = ls.flatten := by rw [hjm, ← hls]; simp [totB]
          rw [hfl] at hown2
          have HOW := Lib.hid hown2
          clear hown2 hjm hfl
          go_wp2
          go_ret
          exact ⟨_, rfl, HOW.out, HB2.out⟩
end Go.Proofs.YtklaancgnfkjlaaDoor
