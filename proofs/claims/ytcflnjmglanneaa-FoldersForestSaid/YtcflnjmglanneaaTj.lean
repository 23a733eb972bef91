/- Folders: the reference's place. -/
import Derived.Test.YtcflnjmglanneaaTi
import Derived.Laws.ResultCell
import Derived.Laws.NewBlocks
import Derived.Laws.Rows
namespace Go.Proofs.Ytcflnjmglanneaa
open Go.RowKit Go.Maps
set_option maxRecDepth 100000
set_option linter.unusedVariables false
set_option linter.unusedSimpArgs false

def pl0 : Pl := ⟨0, 0, 0, 0, ⟨#[]⟩⟩
/-- The first place of a folder. -/
def placeT (t : List Pl) (x : Int) : Option Pl := t.find? fun e => decide (e.f = x)
theorem placeT_snoc_ne {t : List Pl} {x : Int} {e : Pl} (h : placeT t x = none) (hne : e.f ≠ x) : placeT (t ++ [e]) x = none := by
  unfold placeT at *
  rw [List.find?_append, h]
  simp [hne]
theorem placeT_snoc_eq {t : List Pl} {x : Int} {e : Pl} (h : placeT t x = none) (he : e.f = x) : placeT (t ++ [e]) x = some e := by
  unfold placeT at *
  rw [List.find?_append, h]
  simp [he]
theorem placeT_take {t : List Pl} {k : Nat} {x : Int} {e : Pl} (h : placeT (t.take k) x = some e) : placeT t x = some e := by
  unfold placeT at *
  conv => lhs; rw [← List.take_append_drop k t]
  rw [List.find?_append, h]
  rfl

theorem place_size : (Try.prog.info? 24).map (·.size) = some 5 := by kernel_rfl
theorem below_setRow {w w' : World} {B : Nat} (h : Below w.heap.size w w') (hb : w.heap.size ≤ B) (cs : Array Value) : Below w.heap.size w (w'.setRow B cs) :=
  h.trans ⟨rfl, rfl, rfl, by simp [World.setRow], fun k hk => setRow_other _ _ _ _ (by omega)⟩

theorem results_rowtmp {P : Program} {fn : Func} {p u : Tmp} {ty : TypeId} (h : fn.results = #[.cell p ty, .tmp u]) (tmps : Array Value) (w : World) (g : Nat) (t : TypeId) (cs : Array Value) (fr : Nat × Nat) (d : TypeDesc)
    (hp : tmps.getD p undef = .pointer (some ⟨g, 0, none⟩)) (hg : w.heap[g]? = some (.cells cs t fr))
    (hu : P.underlying ty = some d) (hd : (match d with | .struct _ | .array _ _ => true | _ => false) = true) (hi : (P.info? ty).map (·.size) = some cs.size) :
    (results fn tmps).run P w = .ok (.tuple #[.agg cs, tmps.getD u undef]) w := by
  rw [results_cell_tmp h, hp]
  simp [asAddr, run_loadVar_row w g t ty cs fr d hg hu hd hi]

set_option maxHeartbeats 4000000 in
theorem rplace_ok (t : List Pl) (v : Value) (x : Int) (w : World) (ht : PlAt w v t) (hl : t.length ≤ 1000000) :
    Calls Try.prog 35 #[v, .int .i64 x] w fun e w' => e = .returned (.tuple #[((placeT t x).getD pl0).ev, .bool (placeT t x).isSome]) ∧ Below w.heap.size w w' := by
  obtain ⟨p, c, rfl, hc, -⟩ := ht.form
  obtain ⟨-, -, hcell⟩ := ht.cells
  have HC := Lib.hid hcell
  obtain ⟨n, hn⟩ : ∃ n, n = t.length := ⟨_, rfl⟩
  have HN := Lib.hid hn
  rw [← hn] at hc hl HC ⊢
  clear hcell hn ht
  go_enter Try.func35, Try.ntmps35
  go_wp2_with fail
  obtain ⟨B, hB⟩ : ∃ b, b = w.heap.size := ⟨_, rfl⟩
  have hbel := below_alloc w (.cells #[.int .i64 0, .int .i64 0, .int .i64 0, .int .i64 0, .string ⟨#[]⟩] 24)
  have hbx : (w.alloc (.cells #[.int .i64 0, .int .i64 0, .int .i64 0, .int .i64 0, .string ⟨#[]⟩] 24)).heap[B]? = some (.cells #[.int .i64 0, .int .i64 0, .int .i64 0, .int .i64 0, .string ⟨#[]⟩] 24 (0, 0)) := by rw [hB]; exact World.alloc_heap_new w _
  rw [← hB]
  obtain ⟨W0, hW0⟩ : ∃ W, W = w.alloc (.cells #[.int .i64 0, .int .i64 0, .int .i64 0, .int .i64 0, .string ⟨#[]⟩] 24) := ⟨_, rfl⟩
  rw [← hW0] at hbel hbx ⊢
  have HBE := Lib.hid hbel
  have HBX := Lib.hid hbx
  have HBW := Lib.hid hB
  clear hB hW0 hbel hbx
  go_loopw [6] (fun i wr => ∃ k : Nat, i = .int .i64 k ∧ k ≤ n ∧ Hid (placeT (t.take k) x = none) ∧ wr = W0) (fun i _ => n - (intOf i).toNat)
  case atStart => exact ⟨0, rfl, Nat.zero_le _, Lib.hid rfl, rfl⟩
  case round =>
    obtain ⟨k, rfl, hk, HE, hwr⟩ := hrel
    rw [hwr]
    clear hwr
    by_cases hkn : k < n
    · have hd : decide ((k : Int) < (n : Int)) = true := by simp; omega
      have hd' : decide (k < n) = true := by simp; omega
      obtain ⟨g, o, rfl, hcs⟩ := HC.out (by omega)
      obtain ⟨y, hy, ht1⟩ := take_at (l := t) (j := k) (by rw [← HN.out]; exact hkn)
      obtain ⟨b0, b1, b2, b3, b4⟩ := (hcs k y hy).below HBE.out
      obtain ⟨yt, yd, yf, yp, yn⟩ := y
      dsimp only at b0 b1 b2 b3 b4
      have HT1 := Lib.hid ht1
      clear hcs ht1 hy
      by_cases hf : yf = x
      case neg =>
        have HE2 : Hid (placeT (t.take (k + 1)) x = none) := Lib.hid (by rw [HT1.out]; exact placeT_snoc_ne HE.out hf)
        have he1 : (yf == x) = false := by simpa using hf
        have he2 : decide (yf = x) = false := by simpa using hf
        clear hf
        go_wp2_with fail
        exact ⟨⟨k + 1, by go_num, by omega, HE2, by trivial⟩, by simp only [intOf]; omega⟩
      have HR : Hid (placeT t x = some ⟨yt, yd, yf, yp, yn⟩) := Lib.hid (placeT_take (k := k + 1) (by rw [HT1.out]; exact placeT_snoc_eq HE.out hf))
      subst hf
      have hbx := HBX.out
      have hrow := fun j => cell_setRow_same W0 B j _ #[.int .i64 yt, .int .i64 yd, .int .i64 yf, .int .i64 yp, .string yn] _ _ HBX.out
      have r0 := hrow 0
      have r1 := hrow 1
      have r2 := hrow 2
      have r3 := hrow 3
      have r4 := hrow 4
      have HBF := Lib.hid (below_setRow HBE.out (B := B) (Nat.le_of_eq HBW.out.symm) #[.int .i64 yt, .int .i64 yd, .int .i64 yf, .int .i64 yp, .string yn])
      clear hrow
      go_wp2_with (refine wpList_plain rfl fun _ hK => wp_store_row 24 _ _ rfl B #[.int .i64 yt, .int .i64 yd, .int .i64 yf, .int .i64 yp, .string yn] rfl rfl 24 _ hbx place_size rfl (by simp [Value.oneCell']) (hK _ _ ?_))
      refine bodyPost_ret_by (results_rowtmp rfl _ _ B 24 #[.int .i64 yt, .int .i64 yd, .int .i64 yf, .int .i64 yp, .string yn] (0, 0) _ rfl (setRow_heap _ _ _ _ _ _ HBX.out) Try.underlying24 rfl place_size) rfl ⟨by rw [HR.out]; rfl, HBF.out⟩
    · have hd : decide ((k : Int) < (n : Int)) = false := by simp; omega
      have hd' : decide (k < n) = false := by simp; omega
      obtain rfl : k = n := by omega
      have HR : Hid (placeT t x = none) := Lib.hid (by
        have h := HE.out
        rw [List.take_of_length_le (by rw [← HN.out]; exact Nat.le_refl _)] at h
        exact h)
      have hbx := HBX.out
      have hrow := fun j => cell_setRow_same W0 B j _ #[.int .i64 0, .int .i64 0, .int .i64 0, .int .i64 0, .string ⟨#[]⟩] _ _ HBX.out
      have r0 := hrow 0
      have r1 := hrow 1
      have r2 := hrow 2
      have r3 := hrow 3
      have r4 := hrow 4
      have HBF := Lib.hid (below_setRow HBE.out (B := B) (Nat.le_of_eq HBW.out.symm) #[.int .i64 0, .int .i64 0, .int .i64 0, .int .i64 0, .string ⟨#[]⟩])
      clear hrow
      go_wp2_with (refine wpList_plain rfl fun _ hK => wp_store_row 24 _ _ rfl B #[.int .i64 0, .int .i64 0, .int .i64 0, .int .i64 0, .string ⟨#[]⟩] rfl rfl 24 _ hbx place_size rfl (by simp [Value.oneCell']) (hK _ _ ?_))
      refine bodyPost_ret_by (results_rowtmp rfl _ _ B 24 #[.int .i64 0, .int .i64 0, .int .i64 0, .int .i64 0, .string ⟨#[]⟩] (0, 0) _ rfl (setRow_heap _ _ _ _ _ _ HBX.out) Try.underlying24 rfl place_size) rfl ⟨by rw [HR.out]; rfl, HBF.out⟩
end Go.Proofs.Ytcflnjmglanneaa
