/- Package keytree: what a tree reads as; of. -/
import Derived.Test.YtekdekchbnacgaaKd
import Derived.Test.YtekdekchbnacgaaMp
import Derived.Carry
import Derived.Deep.QuietTactic
import Derived.BigQuiet
namespace Go.Proofs.Ytekdekchbnacgaa
open Go.RowKit
set_option maxRecDepth 100000
set_option linter.unusedVariables false
set_option linter.unusedSimpArgs false

theorem cellLt {w : World} {a : Addr} {v : Value} (h : w.cell? a = some v) : a.block < w.heap.size := by
  unfold World.cell? at h
  cases hb : w.heap[a.block]? with
  | none => simp [hb] at h
  | some o => exact (Array.getElem?_eq_some_iff.1 hb).1
theorem cellOld {w w' : World} {p : Addr} {v : Value} (h : w.cell? p = some v) (hs : w'.heap[p.block]? = w.heap[p.block]?) : w'.cell? p = some v := by
  rw [World.cell?_of_block hs]; exact h
/-- A slice of nodes (a number and a key each). -/
def NodesAt (w : World) (v : Value) (t : List (Int × Int)) : Prop :=
  ∃ p c, v = .slice p t.length c ∧ t.length ≤ c ∧ (p = none → t.length = 0) ∧ (0 < t.length → ∃ g o, p = some ⟨g, o, none⟩ ∧
    ∀ j, j < t.length → w.cell? ⟨g, o + j * 2, none⟩ = some (.int .i64 (t.getD j (0, 0)).1) ∧ w.cell? ⟨g, o + j * 2 + 1, none⟩ = some (.int .i64 (t.getD j (0, 0)).2)) ∧ ∀ x ∈ t, I64 x.1 ∧ I64 x.2
theorem NodesAt.below {w w' : World} {v : Value} {t : List (Int × Int)} (h : NodesAt w v t) (hB : Below w.heap.size w w') : NodesAt w' v t := by
  obtain ⟨p, c, rfl, h1, h2, h3, h4⟩ := h
  refine ⟨p, c, rfl, h1, h2, fun h0 => ?_, h4⟩
  obtain ⟨g, o, rfl, h5⟩ := h3 h0
  refine ⟨g, o, rfl, fun j hj => ?_⟩
  obtain ⟨a, b⟩ := h5 j hj
  exact ⟨cellOld a (hB.block g (cellLt a)), cellOld b (hB.block g (cellLt b))⟩

/-- The map of a tree: the first node with a number counts. -/
def ofF (t : List (Int × Int)) (x : Int) : Option Int := (t.find? (fun y => y.1 == x)).map (·.2)
theorem ofF_snoc (t : List (Int × Int)) (a p x : Int) : ofF (t ++ [(a, p)]) x = if (ofF t a).isSome then ofF t x else if x = a then some p else ofF t x := by
  unfold ofF
  rw [List.find?_append]
  cases hx : t.find? (fun y => y.1 == x) with
  | none =>
    by_cases hxa : x = a
    · subst hxa; simp [hx]
    · have : (a == x) = false := by simpa using fun h => hxa h.symm
      simp [hxa, this, List.find?_cons]
  | some y =>
    by_cases hxa : x = a
    · subst hxa; simp [hx]
    · simp [hxa]

theorem zero_int (w : World) : (zeroValue 3).run Try.prog w = .ok (.int .i64 0) w := by kernel_rfl

set_option maxHeartbeats 1000000 in
theorem of_ok (t : List (Int × Int)) (v : Value) (w : World) (ht : NodesAt w v t) (hl : t.length ≤ 1000000) :
    Calls Try.prog 36 #[.agg #[v]] w fun e w' => ∃ b, e = .returned (.map (some b)) ∧ w.heap.size ≤ b ∧ KMap (intK Try.underlying3) 3 w' b t.length (ofF t) ∧ Below w.heap.size w w' := by
  obtain ⟨p, c, rfl, hc, hp, hcell, hwf⟩ := ht
  have hmm := @run_makeMap Try.prog
  go_enter Try.func36, Try.ntmps36
  go_wp2_with fail
  have hB0 : Below w.heap.size w ((w.alloc (.cells #[.slice p t.length c] 24)).alloc (.map #[] 0)) := ((Below.refl _ w).alloc (Nat.le_refl _) _).alloc (by simp) _
  have hM0 : KMap (intK Try.underlying3) 3 ((w.alloc (.cells #[.slice p t.length c] 24)).alloc (.map #[] 0)) (w.heap.size + 1) 0 (fun _ => none) := by
    have h := KMap.made (intK Try.underlying3) 3 (w.alloc (.cells #[.slice p t.length c] 24))
    rw [World.size_alloc] at h
    exact h
  obtain ⟨W0, hW0⟩ : ∃ W0, W0 = (w.alloc (.cells #[.slice p t.length c] 24)).alloc (.map #[] 0) := ⟨_, rfl⟩
  rw [← hW0] at hB0 hM0 ⊢
  clear hW0 hmm
  have HB0 := Lib.hid hB0
  have HM0 := Lib.hid hM0
  have HC := Lib.hid hcell
  have HWF := Lib.hid hwf
  obtain ⟨n, hn⟩ : ∃ n, n = t.length := ⟨_, rfl⟩
  have HN := Lib.hid hn
  rw [← hn] at hl hc ⊢
  obtain ⟨B, hBe⟩ : ∃ B, B = w.heap.size + 1 := ⟨_, rfl⟩
  rw [← hBe] at HM0 ⊢
  have hBB : w.heap.size < B := by omega
  clear hB0 hM0 hcell hwf hn hp hBe
  go_loopw [12] (fun i wr => ∃ k : Nat, i = .int .i64 k ∧ k ≤ n ∧ Hid (KMap (intK Try.underlying3) 3 wr B k (ofF (t.take k))) ∧ Hid (Below w.heap.size w wr)) (fun i _ => n - (intOf i).toNat)
  case atStart => exact ⟨0, rfl, Nat.zero_le _, HM0, HB0⟩
  case round =>
    obtain ⟨k, rfl, hk, HM, HB⟩ := hrel
    by_cases hlt : k < n
    · have hd : decide ((k : Int) < (n : Int)) = true := by simp; omega
      have hd' : decide (k < n) = true := by simp; omega
      obtain ⟨g, o, rfl, hcs⟩ := HC.out (by rw [← HN.out]; omega)
      obtain ⟨c1, c2⟩ := hcs k (by rw [← HN.out]; exact hlt)
      have HB2 := HB.out
      have c1' := cellOld c1 (HB2.block g (cellLt c1))
      have c2' := cellOld c2 (HB2.block g (cellLt c2))
      obtain ⟨e, he⟩ : ∃ e, e = t.getD k (0, 0) := ⟨_, rfl⟩
      rw [← he] at c1' c2'
      have hmem : e ∈ t := by
        rw [he]; simp only [List.getD]; rw [List.getElem?_eq_getElem (by rw [← HN.out]; exact hlt)]; simp
      obtain ⟨w1, w2⟩ := HWF.out e hmem
      obtain ⟨at_, pub⟩ := e
      dsimp only at c1' c2' w1 w2
      have HE := Lib.hid he
      have H1 := Lib.hid w1
      have H2 := Lib.hid w2
      clear HB2 c1 c2 hcs he hmem w1 w2
      have HT := Lib.hid (show t.take (k + 1) = t.take k ++ [(at_, pub)] by
        rw [HE.out, List.take_succ_eq_append_getElem (by rw [← HN.out]; exact hlt)]
        simp only [List.getD]; rw [List.getElem?_eq_getElem (by rw [← HN.out]; exact hlt)]; rfl)
      have HMa := Lib.hid (HM.out.alloc (.cells #[.int .i64 at_, .int .i64 pub] 48))
      have HBa := Lib.hid (HB.out.alloc HB.out.size (.cells #[.int .i64 at_, .int .i64 pub] 48))
      rcases Option.eq_none_or_eq_some (ofF (t.take k) at_) with hf | ⟨y, hf⟩
      · have HF := Lib.hid hf
        clear hf
        go_wp2_with (first
          | (at_lookup; refine wpList_look_ok (he := Try.underlying3) rfl _ _ 59 rfl Try.underlying3 Try.underlying59 (zero_int _) B k _ rfl HMa.out at_ rfl H1.out ?_; rw [HF.out])
          | (at_mapUpdate; refine wpList_put (E := intK Try.underlying3) rfl _ _ _ 59 rfl Try.underlying3 Try.underlying59 B k _ rfl HMa.out (by unfold maxLen; omega) at_ rfl H1.out pub rfl H2.out ?_; intro w2 hm2 ht2))
        have HM2 := Lib.hid hm2
        have HB2 := Lib.hid (HBa.out.grown ht2.grown HBa.out.size (fun j hj => by cases hj; omega))
        clear hm2 ht2
        refine ⟨⟨k + 1, by go_num, by omega, Lib.hid ?_, HB2⟩, by simp only [intOf]; omega⟩
        refine HM2.out.congr fun x hx => ?_
        rw [HT.out, ofF_snoc, HF.out]
        rfl
      · have HF := Lib.hid hf
        clear hf
        go_wp2_with (at_lookup; refine wpList_look_ok (he := Try.underlying3) rfl _ _ 59 rfl Try.underlying3 Try.underlying59 (zero_int _) B k _ rfl HMa.out at_ rfl H1.out ?_; rw [HF.out])
        refine ⟨⟨k + 1, by go_num, by omega, Lib.hid ?_, HBa⟩, by simp only [intOf]; omega⟩
        refine (HMa.out.mono (Nat.le_succ _)).congr fun x hx => ?_
        rw [HT.out, ofF_snoc, HF.out]
        rfl
    · have hd : decide ((k : Int) < (n : Int)) = false := by simp; omega
      have hd' : decide (k < n) = false := by simp; omega
      obtain rfl : k = n := by omega
      go_wp2
      go_ret
      refine ⟨B, rfl, by omega, ?_, HB.out⟩
      have h := HM.out
      rw [HN.out, List.take_length] at h
      exact h
end Go.Proofs.Ytekdekchbnacgaa
