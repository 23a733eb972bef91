/- Block: the door of a block. -/
import Derived.Test.YtklaancgnfkjlaaDoorCd
namespace Go.Proofs.YtklaancgnfkjlaaDoor
open Go.RowKit
set_option maxRecDepth 100000
set_option maxHeartbeats 4000000
set_option linter.unusedVariables false
set_option linter.unusedSimpArgs false

theorem Block_bad (kc nc : Array Value) (z : Int) (hz : z < 0 ∨ 4294967295 < z) (w : World) :
    Calls Tryd.prog 12 #[.agg kc, .agg nc, .int .i64 z] w fun e w' => e = .returned (.tuple #[.slice none 0 0, .int .i64 1]) ∧ Below w.heap.size w w' := by
  have hB : Below w.heap.size w ((w.alloc (.cells kc 23)).alloc (.cells nc 25)) :=
    ⟨rfl, rfl, rfl, by simp; omega, fun k hk => by rw [Below.heap_alloc _ _ _ (by simp; omega), Below.heap_alloc _ _ _ hk]⟩
  have HB := Lib.hid hB
  clear hB
  rcases hz with h | h
  · have h1 : decide (z < 0) = true := by simp; omega
    go_enter Tryd.func12, Tryd.ntmps12
    go_wp2
    go_ret2
    exact ⟨rfl, HB.out⟩
  · have h1 : decide (z < 0) = false := by simp; omega
    have h2 : decide (4294967295 < z) = true := by simp; omega
    go_enter Tryd.func12, Tryd.ntmps12
    go_wp2
    go_ret2
    exact ⟨rfl, HB.out⟩

theorem own_lower {w : World} {B B' : Nat} {e : TypeId} {size : Nat} {v : Value} {n : Nat} {xs : List Value} (h : w.ownsRow B e size v n xs) (hB : B' ≤ B) : w.ownsRow B' e size v n xs := by
  refine ⟨h.1, ?_⟩
  rcases h.2 with hn | ⟨g, cap, cur, hv, hb, rest⟩
  · exact .inl hn
  · exact .inr ⟨g, cap, cur, hv, Nat.le_trans hB hb, rest⟩
theorem Block_ok (kb nb : List (BitVec 8)) (c : BitVec 32) (w : World) (hk : kb.length = 32) (hn : nb.length = 12) (hT : ConstTab w) :
    Calls Tryd.prog 12 #[.agg (kb.map v8).toArray, .agg (nb.map v8).toArray, .int .i64 c.toNat] w fun e w' =>
      ∃ v, e = .returned (.tuple #[v, .int .i64 0]) ∧ w'.ownsRow w.heap.size 5 1 v 64 ((chaBlock kb nb c).map v8) ∧ Below w.heap.size w w' := by
  have hks : (kb.map v8).toArray.size = 32 := by simp [hk]
  have hns : (nb.map v8).toArray.size = 12 := by simp [hn]
  have hF := fun w h => block_ok kb nb c w hk hn h
  generalize hkc : (kb.map v8).toArray = kc at hks hF ⊢
  generalize hnc : (nb.map v8).toArray = nc at hns hF ⊢
  have hB : Below w.heap.size w ((w.alloc (.cells kc 23)).alloc (.cells nc 25)) :=
    ⟨rfl, rfl, rfl, by simp; omega, fun k hk => by rw [Below.heap_alloc _ _ _ (by simp; omega), Below.heap_alloc _ _ _ hk]⟩
  have HB := Lib.hid hB
  have HF := Lib.hid hF
  have HT := Lib.hid ((Lib.tabBelow_of_tabIs hT) _ hB)
  have HKS := Lib.hid hks
  have HNS := Lib.hid hns
  have h1 : decide ((c.toNat : Int) < 0) = false := by simp
  have h2 : decide ((4294967295 : Int) < (c.toNat : Int)) = false := by have := c.isLt; simp; omega
  clear hF hT hkc hnc hks hns hB
  go_enter Tryd.func12, Tryd.ntmps12
  go_upto_region 3 with fail
  refine wp_region_lit ?_
  refine wpList_load_row rfl 23 _ rfl w.heap.size rfl 23 kc (0, 0) _ ((Below.heap_alloc _ _ _ (by simp)).trans (World.alloc_heap_new w _)) Tryd.underlying23 rfl (by rw [HKS.out]; rfl) ?_
  refine wpList_load_row rfl 25 _ rfl (w.heap.size + 1) rfl 25 nc (0, 0) _ (by have := World.alloc_heap_new (w.alloc (.cells kc 23)) (.cells nc 25); simpa using this) Tryd.underlying25 rfl (by rw [HNS.out]; rfl) ?_
  go_wp2_with fail
  refine (HF.out _ HT.out).mono ?_
  rintro e w1 ⟨v, rfl, hown, hB1⟩
  have hge : w.heap.size ≤ ((w.alloc (.cells kc 23)).alloc (.cells nc 25)).heap.size := HB.out.size
  have HO := Lib.hid hown
  have HB1 := Lib.hid (HB.out.trans (hB1.mono hge))
  clear hown hB1
  go_wp2
  go_ret2
  exact ⟨v, rfl, own_lower HO.out hge, HB1.out⟩
end Go.Proofs.YtklaancgnfkjlaaDoor
