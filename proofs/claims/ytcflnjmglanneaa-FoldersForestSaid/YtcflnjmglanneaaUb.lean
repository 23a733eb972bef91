/- Folders: the forest's up: its iterator. -/
import Derived.Test.YtcflnjmglanneaaTz
import Derived.Test.YtcflnjmglanneaaUa
import Derived.Sort.LoopGhostIn
namespace Go.Proofs.Ytcflnjmglanneaa
open Go.RowKit Go.Maps
attribute [local go_sem] Oper.semAt_some
set_option maxRecDepth 100000
set_option linter.unusedVariables false
set_option linter.unusedSimpArgs false

theorem ev_inj (x y : Pl) (h : x.ev = y.ev) : x = y := by
  cases x; cases y
  unfold Pl.ev at h
  simp at h
  simp [h]
/-- Places as a map holds them. -/
noncomputable def KP : SKind Pl := SKind.of Pl.ev pl0 ev_inj
/-- Block b is the map of the places F. -/
def MapP (w : World) (b n : Nat) (F : Int → Option Pl) : Prop := SMap Try.prog KP 3 w b n F
theorem MapP.look {w : World} {b n : Nat} {F : Int → Option Pl} (h : MapP w b n F) {x : Int} (hx : I64 x) : (Instr.lookup 48 (.map (some b)) (.int .i64 x) true).run Try.prog w = .ok (.tuple #[((F x).getD pl0).ev, .bool (F x).isSome]) w :=
  SMap.look (E := KP) h Try.underlying3 Try.underlying48 (zero_place w) hx true
theorem MapP.below {w w' : World} {b n B : Nat} {F : Int → Option Pl} (h : MapP w b n F) (hB : Below B w w') (hb : b < B) : MapP w' b n F := SMap.below h hB hb
theorem up_any (mb : Option Nat) (x : Int) (w : World) :
    Calls Try.prog 38 #[.map mb, .int .i64 x] w fun e w' => e = .returned (.func (.func 54) #[] #[.pointer (some ⟨w.heap.size, 0, none⟩), .pointer (some ⟨w.heap.size + 1, 0, none⟩)]) ∧ w' = (w.alloc (.cells #[.map mb] 48)).alloc (.cells #[.int .i64 x] 3) := by
  go_enter Try.func38, Try.ntmps38
  go_wp2
  go_ret
  exact ⟨by simp, rfl⟩
theorem upF_none {F : Int → Option Pl} {n : Nat} {x : Int} (h : F x = none) : upF F n x = [] := by
  cases n with
  | zero => rfl
  | succ n => simp only [upF, h]
theorem upF_top {F : Int → Option Pl} {n : Nat} {x : Int} {e : Pl} (h : F x = some e) (hp : ¬ 0 ≤ e.p) : upF F n x = [] := by
  cases n with
  | zero => rfl
  | succ n => simp only [upF, h, if_neg hp]
theorem upF_more {F : Int → Option Pl} {n : Nat} {x : Int} {e : Pl} (h : F x = some e) (hp : 0 ≤ e.p) : upF F (n + 1) x = e.p :: upF F n e.p := by
  simp only [upF, h, if_pos hp]
theorem Turns.setRow {B0 : Nat} {Ψ : Nat → Prop} {A : World} {B : Nat} (cs : Array Value) (hB : Ψ B) : Turns B0 Ψ A (A.setRow B cs) :=
  ⟨rfl, rfl, rfl, by simp [World.setRow], fun k _ hk => .inl (setRow_other _ _ _ _ fun e => hk (e ▸ hB))⟩

set_option maxHeartbeats 4000000 in
theorem up_iter (b nn Bm Bx n₀ N : Nat) (F : Int → Option Pl) (x : Int) (w : World) (hb : MapP w b nn F) (hm : Boxed w Bm 48 (.map (some b))) (hx : Boxed w Bx 3 (.int .i64 x)) (hI : I64 x) (hF : ∀ y e, F y = some e → I64 e.p) (hN : (upF F N x).length < N) (h1 : b < n₀) :
    IterC Try.prog 54 #[.pointer (some ⟨Bm, 0, none⟩), .pointer (some ⟨Bx, 0, none⟩)] (fun x : Int => #[.int .i64 x]) (fun k => k = Bm ∨ k = Bx) n₀ (fun xs => xs = upF F N x) (fun _ => True) (fun ys => ys <+: upF F N x) w := by
  intro l J Jx W hW hJ hJx hY h0
  have hbW : MapP W b nn F := hb.below hW (SMap.lt hb)
  have hmW : Boxed W Bm 48 (.map (some b)) := (hW.block Bm hm.lt).trans hm
  have hxW : Boxed W Bx 3 (.int .i64 x) := (hW.block Bx hx.lt).trans hx
  obtain ⟨L, hL⟩ : ∃ L, L = upF F N x := ⟨_, rfl⟩
  rw [← hL] at hN
  have HLL := Lib.hid hL
  have HF := Lib.hid hF
  have hlook := hbW.look hI
  obtain ⟨e0, he0⟩ : ∃ e, e = (F x).getD pl0 := ⟨_, rfl⟩
  obtain ⟨ok0, hok0⟩ : ∃ o, o = (F x).isSome := ⟨_, rfl⟩
  rw [← he0, ← hok0] at hlook
  have HE0 := Lib.hid he0
  have HK0 := Lib.hid hok0
  obtain ⟨et, ed, ef, ep, en⟩ := e0
  unfold Pl.ev at hlook
  dsimp only at hlook
  have hcm := hmW.cell
  have hcx := hxW.cell
  refine (callsIn_wide (n := 0)).1 ?_
  refine callsIn_of_wp Try.func54 rfl trivial ?_ rfl
  simp only [Try.ntmps54, List.size_toArray, List.length_cons, List.length_nil, Nat.reduceAdd, Nat.reduceSub, Array.replicate_succ, Array.replicate_zero, List.push_toArray, List.append_toArray, List.nil_append, List.cons_append]
  clear he0 hok0 hb hm hx hF hL
  gi_wp2_with fail
  obtain ⟨W1, hW1⟩ : ∃ W', W' = W.alloc (.cells (Pl.cells ⟨et, ed, ef, ep, en⟩).toArray 24) := ⟨_, rfl⟩
  have hW1' : W.alloc (.cells #[.int .i64 et, .int .i64 ed, .int .i64 ef, .int .i64 ep, .string en] 24) = W1 := hW1.symm
  have hA := below_alloc W (.cells (Pl.cells ⟨et, ed, ef, ep, en⟩).toArray 24)
  have hX1 := World.alloc_heap_new W (.cells (Pl.cells ⟨et, ed, ef, ep, en⟩).toArray 24)
  have hJ1 : J [] (fun k => (k = Bm ∨ k = Bx) ∨ k = W.heap.size) W1 := by
    rw [hW1]
    exact hJ [] _ _ W _ h0 (Turns.alloc _ _ _ _) (fun _ h => .inl h) (fun k h => h.elim .inl (fun e => .inr (by omega)))
  rw [← hW1] at hA hX1
  rw [hW1']
  have hbW1 : MapP W1 b nn F := hbW.below hA (SMap.lt hbW)
  have hmW1 : Boxed W1 Bm 48 (.map (some b)) := (hA.block Bm hmW.lt).trans hmW
  have HWl : Hid (∀ k, (k = Bm ∨ k = Bx) ∨ k = W.heap.size → k < W1.heap.size) := Lib.hid (by
    have := hA.size
    have h2 : W1.heap.size = W.heap.size + 1 := by rw [hW1]; simp
    have h3 := hmW.lt
    have h4 := hxW.lt
    rintro k ((rfl | rfl) | rfl) <;> omega)
  have hszW : W.heap.size ≤ W1.heap.size := hA.size
  have HJ := Lib.hid hJ
  have HY := Lib.hid hY
  have HMW := Lib.hid hmW
  clear hW1 hW1' hA h0 hlook hJ hY hbW hmW hxW hcm hcx hW hJx
  gi_loopg [4, 5] N (fun m v4 v5 wr => ∃ (B : Nat) (y : Int) (pre : List Int) (Ψ : Nat → Prop), v4 = .pointer (some ⟨B, 0, none⟩) ∧ v5 = .bool (F y).isSome ∧ Hid (L = pre ++ upF F m y) ∧ Hid ((upF F m y).length < m) ∧ Hid (wr.heap[B]? = some (.cells ((F y).getD pl0).cells.toArray 24 (0, 0))) ∧ Hid (MapP wr b nn F) ∧ Hid (Boxed wr Bm 48 (.map (some b))) ∧ Hid (J pre Ψ wr) ∧ Hid (∀ k, Ψ k → k < wr.heap.size) ∧ Hid (Ψ B ∧ Ψ Bm) ∧ W.heap.size ≤ wr.heap.size)
  case atStart =>
    exact ⟨_, x, [], _, rfl, by rw [HK0.out], Lib.hid HLL.out, Lib.hid (by rw [← HLL.out]; exact hN), Lib.hid (by rw [← HE0.out]; exact hX1), Lib.hid hbW1, Lib.hid hmW1, Lib.hid hJ1, HWl, Lib.hid ⟨.inr rfl, .inl (.inl rfl)⟩, hszW⟩
  case round =>
    obtain ⟨B, y, pre, Ψ, rfl, rfl, HL, HM, HX, HBM, HMB, HJs, HΨ, HΨB, hsz⟩ := hrel
    clear hbW1 hmW1 hJ1 hX1 hszW hN
    have hbx := box_cells HX.out
    cases hy : F y with
    | none =>
      have hLe : Hid (pre = upF F N x) := Lib.hid (by rw [← HLL.out, HL.out, upF_none hy, List.append_nil])
      simp only [Option.isSome_none]
      clear hbx hy
      gi_wp2_with fail
      refine bodyPost_end (results_none rfl _ _ _) rfl ?_
      exact ⟨⟨_, rfl⟩, .inl ⟨_, _, hLe.out, HJs.out⟩⟩
    | some e =>
      rw [hy] at hbx HX
      obtain ⟨ft, fd, ff, fp, fn'⟩ := e
      simp only [Option.getD_some, Option.isSome_some] at hbx HX ⊢
      obtain ⟨b0, b1, b2, b3, b4⟩ := hbx
      by_cases hfp : 0 ≤ fp
      case neg =>
        have hLe : Hid (pre = upF F N x) := Lib.hid (by rw [← HLL.out, HL.out, upF_top hy hfp, List.append_nil])
        have hd := decide_eq_false hfp
        clear hy hfp
        gi_wp2_with fail
        refine bodyPost_end (results_none rfl _ _ _) rfl ?_
        exact ⟨⟨_, rfl⟩, .inl ⟨_, _, hLe.out, HJs.out⟩⟩
      obtain ⟨m, rfl⟩ : ∃ m, gk = m + 1 := ⟨gk - 1, by have := HM.out; omega⟩
      have hup := upF_more (n := m) hy hfp
      dsimp only at hup
      have HL2 : Hid (L = (pre ++ [fp]) ++ upF F m fp) := Lib.hid (by rw [HL.out, hup]; simp)
      have HM3 : Hid ((upF F m fp).length < m) := Lib.hid (by have := HM.out; rw [hup] at this; simpa using this)
      have hV : pre ++ [fp] <+: upF F N x := by rw [← HLL.out, HL2.out]; exact List.prefix_append _ _
      have hIf := HF.out y _ hy
      dsimp only at hIf
      have hd := decide_eq_true hfp
      obtain ⟨fn, tmps, assign, body, hyy, hR⟩ := HY.out pre fp Ψ wr HJs.out HΨ.out hV
      have HBM' := HBM
      have hbl := SMap.lt HBM.out
      have hBl := (Array.getElem?_eq_some_iff.1 HX.out).1
      clear hy hfp hup hV HL HM HY
      gi_wp2
      refine ⟨rfl, hR.mono ?_⟩
      rintro e W3 (⟨rfl, hJ3, hB3, hk3⟩ | ⟨rfl, hJx3, hB3, hk3⟩)
      · have hX3 := (hk3 B HΨB.out.1).trans HX.out
        have HM3' : Hid (MapP W3 b nn F) := Lib.hid (SMap.of_block HBM.out (hB3.block b h1))
        have hMB3 : Boxed W3 Bm 48 (.map (some b)) := (hk3 Bm HΨB.out.2).trans HMB.out
        have HMB3 := Lib.hid hMB3
        have HJ3 := Lib.hid hJ3
        have HΨ3 : Hid (∀ k, Ψ k → k < W3.heap.size) := Lib.hid fun k hk => Nat.lt_of_lt_of_le (HΨ.out k hk) hB3.size
        have hsz3 : W.heap.size ≤ W3.heap.size := Nat.le_trans hsz hB3.size
        have HX3 := Lib.hid hX3
        obtain ⟨b0, b1, b2, b3, b4⟩ := box_cells hX3
        dsimp only at b0 b1 b2 b3 b4
        have hc3 := hMB3.cell
        clear hR hyy hk3 hB3 HX HBM HBM' HMB HJs HΨ hJ3 hMB3 hX3
        have hlook : (Instr.lookup 48 (.map (some b)) (.int .i64 fp) true).run Try.prog (W3.alloc (.cells #[.int .i64 ft, .int .i64 fd, .int .i64 ff, .int .i64 fp, .string fn'] 24)) = .ok (.tuple #[((F fp).getD pl0).ev, .bool (F fp).isSome]) (W3.alloc (.cells #[.int .i64 ft, .int .i64 fd, .int .i64 ff, .int .i64 fp, .string fn'] 24)) :=
          MapP.look (SMap.alloc HM3'.out _ : MapP _ b nn F) hIf
        have hcm : (W3.alloc (.cells #[.int .i64 ft, .int .i64 fd, .int .i64 ff, .int .i64 fp, .string fn'] 24)).cell? ⟨Bm, 0, none⟩ = some (.map (some b)) := cellOld hc3 (Below.heap_alloc _ _ _ (cellLt hc3))
        obtain ⟨e2, he2⟩ : ∃ e, e = (F fp).getD pl0 := ⟨_, rfl⟩
        rw [← he2] at hlook
        have HE2 := Lib.hid he2
        obtain ⟨gt, gd, gf, gp, gn⟩ := e2
        unfold Pl.ev at hlook
        dsimp only at hlook
        clear he2
        gi_wp2
        have hA4 := below_alloc W3 (.cells (Pl.cells ⟨gt, gd, gf, gp, gn⟩).toArray 24)
        gi_roundg m
        case measure => omega
        case rel =>
          refine ⟨W3.heap.size, fp, pre ++ [fp], fun k => Ψ k ∨ k = W3.heap.size, rfl, rfl, HL2, HM3, Lib.hid ?_, Lib.hid (SMap.alloc HM3'.out _), Lib.hid ((hA4.block Bm (cellLt hc3)).trans HMB3.out), Lib.hid ?_, Lib.hid ?_, Lib.hid ⟨.inr rfl, .inl HΨB.out.2⟩, by rw [World.size_alloc]; omega⟩
          · rw [← HE2.out]; exact World.alloc_heap_new W3 _
          · exact HJ.out _ _ _ W3 _ HJ3.out (Turns.alloc _ _ _ _) (fun _ h => .inl h) (fun k h => h.elim .inl (fun e => .inr (by omega)))
          · rintro k (h | rfl)
            · have := HΨ3.out k h; rw [World.size_alloc]; omega
            · rw [World.size_alloc]; omega
      · gi_wp2
        refine bodyPost_ret (results_none rfl _ _ _) rfl ?_
        exact ⟨⟨_, rfl⟩, .inr ⟨_, _, trivial, hJx3⟩⟩
end Go.Proofs.Ytcflnjmglanneaa
