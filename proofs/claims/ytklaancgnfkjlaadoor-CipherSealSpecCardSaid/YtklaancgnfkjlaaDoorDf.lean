/- cipher: tag. -/
import Derived.Test.YtklaancgnfkjlaaDoorDe
import Derived.Deep.RegionHeld3
namespace Go.Proofs.YtklaancgnfkjlaaDoor
open Go.RowKit
set_option maxRecDepth 100000
set_option maxHeartbeats 1000000
set_option linter.unusedVariables false
set_option linter.unusedSimpArgs false

/-- What the tag is taken of. -/
def macL (kb nb hb cb : List (BitVec 8)) : List (BitVec 8) := kb ++ nb ++ eightL hb.length 8 ++ hb ++ cb
/-- The tag. -/
def tag16 (kb nb hb cb : List (BitVec 8)) : List (BitVec 8) := (taggedL tagL (macL kb nb hb cb)).take 16
theorem tag16_length (kb nb hb cb) : (tag16 kb nb hb cb).length = 16 := by simp [tag16, taggedL_length]

theorem eight_at (n : Nat) (hn : n < 9223372036854775808) (w : World) :
    Calls Tryd.prog 35 #[.int .i64 n] w fun e w' => ∃ g cap, e = .returned (.slice (some ⟨g, 0, none⟩) 8 cap) ∧ Hid (BytesAt w' (.slice (some ⟨g, 0, none⟩) 8 cap) (eightL n 8)) ∧ Below w.heap.size w w' := by
  refine (eight_ok n hn w).mono ?_
  rintro e w' ⟨v, rfl, hown, hB⟩
  have hb : BytesAt w' v (eightL n 8) := BytesAt.of_own (B := w.heap.size) (by rw [eightL_length]; exact hown)
  rcases hown.2 with ⟨rfl, h0⟩ | ⟨g, cap, cur, rfl, rest⟩
  · exact absurd h0 (by decide)
  · exact ⟨g, cap, rfl, hb, hB⟩
theorem Below.al {w w' : World} (h : Below w.heap.size w w') (o : Obj) : Below w.heap.size w (w'.alloc o) := h.alloc h.size o
theorem Below.tr {w a b : World} (h : Below w.heap.size w a) (k : Below a.heap.size a b) : Below w.heap.size w b := h.trans (k.mono h.size)
theorem Below.dr {w w' : World} (h : Below w.heap.size w w') : Below w.heap.size w w'.drew := ⟨h.os, h.tape, h.output, h.size, h.block⟩
theorem concat5 (W0 W1 X : World) (kb nb hb cb : List (BitVec 8)) (v1 v2 v3 v4 v5 : Value) (hK : BytesAt W0 v1 kb) (hN : BytesAt W0 v2 nb) (hE : BytesAt W1 v3 (eightL hb.length 8)) (hH : BytesAt W0 v4 hb) (hC : BytesAt W0 v5 cb)
    (h0 : Below W0.heap.size W0 X) (h1 : Below W1.heap.size W1 X) (g : Nat) (t : TypeId) (hg : X.heap[g]? = some (.cells #[v1, v2, v3, v4, v5] t (0, 0))) (hl : (macL kb nb hb cb).length ≤ 900000) :
    Calls Tryd.prog 29 #[.slice (some ⟨g, 0, none⟩) 5 5] X fun e w' => ∃ v, e = .returned v ∧ Hid (BytesAt w' v (macL kb nb hb cb)) ∧ Below X.heap.size X w' := by
  have hfl : [kb, nb, eightL hb.length 8, hb, cb].flatten = macL kb nb hb cb := by simp [macL]
  refine (concat_ok g 5 t [v1, v2, v3, v4, v5] [kb, nb, eightL hb.length 8, hb, cb] rfl rfl (by rw [hfl]; omega) X hg ?_ (by decide)).mono ?_
  · intro i hi
    match i, hi with
    | 0, _ => exact hK.below h0
    | 1, _ => exact hN.below h0
    | 2, _ => exact hE.below h1
    | 3, _ => exact hH.below h0
    | 4, _ => exact hC.below h0
  · rintro e w' ⟨v, rfl, hown, hB⟩
    rw [hfl] at hown
    exact ⟨v, rfl, BytesAt.of_own hown, hB⟩
theorem macL_length (kb nb hb cb : List (BitVec 8)) (hk : kb.length = 32) (hn : nb.length = 12) : (macL kb nb hb cb).length = 52 + hb.length + cb.length := by
  simp [macL, hk, hn, eightL_length]; omega

theorem alloc_new2 (w : World) (o o' : Obj) : ((w.alloc o).alloc o').heap[w.heap.size + 1]? = some o' := by
  have := World.alloc_heap_new (w.alloc o) o'
  rwa [World.size_alloc] at this
theorem th_new (w : World) (Z : Array Value) (t : TypeId) (n : Nat) (h : Z.size = n) : (w.alloc (.cells Z t)).there w.heap.size 0 n := fun j hj => by
  have hb := World.alloc_heap_new w (.cells Z t)
  have hj2 : j < Z.size := by omega
  simp only [World.cell?, World.frozen?, hb]
  simp [hj2]
theorem th_below {w w' : World} {b n : Nat} (h : w.there b 0 n) (hb : Below w.heap.size w w') : w'.there b 0 n := fun j hj => by
  obtain ⟨h1, h2⟩ := h j hj
  obtain ⟨v, hv⟩ := Option.isSome_iff_exists.1 h1
  have hlt := cell_lt hv
  exact ⟨by rw [cell_old hv (hb.block _ hlt)]; rfl, by rw [← h2]; simp only [World.frozen?, hb.block _ hlt]⟩
theorem thA {w w' : World} {Z : Array Value} {t : TypeId} (hb : Below (w.alloc (.cells Z t)).drew.heap.size (w.alloc (.cells Z t)).drew w') (hz : Z.size = 32) : w'.there w.heap.size 0 32 :=
  th_below (w := (w.alloc (.cells Z t)).drew) ((World.there_drew _ _ _ _).2 (th_new w Z t 32 hz)) hb
theorem thN {w w' : World} {Z : Array Value} {t : TypeId} (hb : Below (w.alloc (.cells Z t)).heap.size (w.alloc (.cells Z t)) w') (hz : Z.size = 32) : w'.there w.heap.size 0 32 := th_below (th_new w Z t 32 hz) hb
theorem thN2 {w w' : World} {Z : Array Value} {t : TypeId} {o : Obj} (hb : Below ((w.alloc (.cells Z t)).alloc o).heap.size ((w.alloc (.cells Z t)).alloc o) w') (hz : Z.size = 32) : w'.there w.heap.size 0 32 :=
  th_below (World.there_alloc (th_new w Z t 32 hz) o) hb
theorem thN3 {w w' : World} {Z : Array Value} {t : TypeId} {o : Obj} (hb : Below ((w.alloc o).alloc (.cells Z t)).heap.size ((w.alloc o).alloc (.cells Z t)) w') (hz : Z.size = 32) : w'.there (w.heap.size + 1) 0 32 := by
  have h := th_new (w.alloc o) Z t 32 hz
  rw [World.size_alloc] at h
  exact th_below h hb
theorem thK {w w' : World} {b : Nat} {o : Obj} (h : w.there b 0 32) (hb : Below (w.alloc o).heap.size (w.alloc o) w') : w'.there b 0 32 := th_below (World.there_alloc h o) hb
theorem Below.cellsFrom {w w' : World} (h : Below w.heap.size w w') (b : Nat) (hb : w.heap.size ≤ b) : ∀ (vs : List Value) (o : Nat), Below w.heap.size w (w'.setCells b o vs) := by
  intro vs
  induction vs generalizing w' with
  | nil => intro o; exact h
  | cons v vs ih => intro o; exact ih (h.setCell hb _) (o + 1)

theorem tag_ok (kb nb hb cb : List (BitVec 8)) (vh vc : Value) (w : World) (hk : kb.length = 32) (hn : nb.length = 12) (hhl : hb.length ≤ 70000) (hcl : cb.length ≤ 70000)
    (hvh : BytesAt w vh hb) (hvc : BytesAt w vc cb) (hN : NumTab w) (hS : StartTab w) :
    Calls Tryd.prog 25 #[.agg (kb.map v8).toArray, .agg (nb.map v8).toArray, vh, vc] w fun e w' =>
      ∃ v, e = .returned v ∧ BytesAt w' v (tag16 kb nb hb cb) ∧ Below w.heap.size w w' := by
  have hks : (kb.map v8).toArray.size = 32 := by simp [hk]
  have hns : (nb.map v8).toArray.size = 12 := by simp [hn]
  generalize hkc : (kb.map v8).toArray = kc at hks ⊢
  generalize hnc : (nb.map v8).toArray = nc at hns ⊢
  have HVH := Lib.hid hvh
  have HVC := Lib.hid hvc
  obtain ⟨ph, ch, rfl, -, -, -⟩ := hvh
  obtain ⟨pc, cc, rfl, -, -, -⟩ := hvc
  have HKC := Lib.hid hkc
  have HNC := Lib.hid hnc
  have HN := Lib.hid hN
  have HS := Lib.hid hS
  have HKS := Lib.hid hks
  have HNS := Lib.hid hns
  clear hkc hnc hks hns hN hS
  go_enter Tryd.func25, Tryd.ntmps25
  go_upto_region 1 with fail
  have hB0 : Below w.heap.size w ((w.alloc (.cells kc 23)).alloc (.cells nc 25)) :=
    ⟨rfl, rfl, rfl, by simp; omega, fun k hk => by rw [Below.heap_alloc _ _ _ (by simp; omega), Below.heap_alloc _ _ _ hk]⟩
  have hK0 : BytesAt ((w.alloc (.cells kc 23)).alloc (.cells nc 25)) (.slice (some ⟨w.heap.size, 0, none⟩) 32 32) kb := by
    refine ⟨_, 32, by rw [hk], by rw [hk]; exact Nat.le_refl _, fun h => (by cases h), fun _ => ⟨w.heap.size, 0, rfl, fun j hj => ?_⟩⟩
    have h : Arr8 ((w.alloc (.cells kc 23)).alloc (.cells nc 25)) w.heap.size 23 kb := by
      show _ = some (Obj.cells (kb.map v8).toArray 23 (0, 0))
      rw [HKC.out, Below.heap_alloc _ _ _ (by simp)]; exact World.alloc_heap_new w _
    rw [Nat.zero_add]; exact h.cell hj
  have hN0 : BytesAt ((w.alloc (.cells kc 23)).alloc (.cells nc 25)) (.slice (some ⟨w.heap.size + 1, 0, none⟩) 12 12) nb := by
    refine ⟨_, 12, by rw [hn], by rw [hn]; exact Nat.le_refl _, fun h => (by cases h), fun _ => ⟨w.heap.size + 1, 0, rfl, fun j hj => ?_⟩⟩
    have h : Arr8 ((w.alloc (.cells kc 23)).alloc (.cells nc 25)) (w.heap.size + 1) 25 nb := by
      show _ = some (Obj.cells (nb.map v8).toArray 25 (0, 0))
      rw [HNC.out]
      have := World.alloc_heap_new (w.alloc (.cells kc 23)) (.cells nc 25)
      simpa using this
    rw [Nat.zero_add]; exact h.cell hj
  have hH0 := HVH.out.below hB0
  have hC0 := HVC.out.below hB0
  have hn0 : NumTab ((w.alloc (.cells kc 23)).alloc (.cells nc 25)) := HN.out.below hB0 (Nat.le_refl _)
  have hs0 : StartTab ((w.alloc (.cells kc 23)).alloc (.cells nc 25)) := HS.out.below hB0 (Nat.le_refl _)
  obtain ⟨W0, hW0⟩ : ∃ W, W = (w.alloc (.cells kc 23)).alloc (.cells nc 25) := ⟨_, rfl⟩
  rw [← hW0] at hB0 hK0 hN0 hH0 hC0 hn0 hs0 ⊢
  have HB0 := Lib.hid hB0
  have HK0 := Lib.hid hK0
  have HN0 := Lib.hid hN0
  have HH0 := Lib.hid hH0
  have HC0 := Lib.hid hC0
  have Hn0 := Lib.hid hn0
  have Hs0 := Lib.hid hs0
  have HW0S : Hid (w.heap.size + 2 ≤ W0.heap.size) := Lib.hid (by rw [hW0]; simp)
  clear hB0 hK0 hN0 hH0 hC0 hn0 hs0 hW0 HVH HVC HN HS HKC HNC HKS HNS
  have hml : (macL kb nb hb cb).length ≤ 900000 := by rw [macL_length _ _ _ _ hk hn]; omega
  have HML := Lib.hid hml
  clear hml
  obtain ⟨TL, hTL⟩ : ∃ TL, TL = (taggedL tagL (macL kb nb hb cb)).map v8 := ⟨_, rfl⟩
  have htag : ∀ v w, BytesAt w v (macL kb nb hb cb) → NumTab w → StartTab w →
      Calls Tryd.prog 20 #[.string ⟨#[116, 97, 103]⟩, v] w fun e w' => e = .returned (.agg TL.toArray) ∧ Below w.heap.size w w' := fun v w h1 h2 h3 => by
    rw [hTL]; exact tagged_ok v _ HML.out w h1 h2 h3
  have hlen : TL.length = 32 := by rw [hTL, List.length_map, taggedL_length]
  have hone : ∀ v ∈ TL, v.oneCell' = true := by rw [hTL]; exact v8_all _
  have hi41 : (Tryd.prog.info? 41).map (·.size) = some 32 := info41
  have HTAG := Lib.hid htag
  have HTL := Lib.hid hTL
  have HLEN := Lib.hid hlen
  clear htag hTL
  have hgw : w.heap.size + 2 ≤ W0.heap.size := HW0S.out
  go_cut [9] (fun v wx => ∃ G, v = .pointer (some ⟨G, 0, none⟩) ∧ wx.rangeAt G 0 TL ∧ Below W0.heap.size W0 wx)
  case first =>
    go_region_held3 (fun w' => True) (trivial) (first
      | (go_at_call 35; refine (eight_at hb.length (by omega) _).mono ?_; rintro e w1 ⟨g1, cap1, rfl, hE1, hb1⟩; try (have hthA := thA hb1 (by rfl)))
      | (go_at_call 29; refine (concat5 W0 w1 _ kb nb hb cb _ _ _ _ _ HK0.out HN0.out hE1.out HH0.out HC0.out (by repeat (first | exact Below.refl _ _ | refine Below.al ?_ _ | refine Below.dr ?_ | refine Below.tr ?_ hb3 | refine Below.tr ?_ hb2 | refine Below.tr ?_ hb1)) (by repeat (first | exact Below.refl _ _ | refine Below.al ?_ _ | refine Below.dr ?_ | refine Below.tr ?_ hb3 | refine Below.tr ?_ hb2 | refine Below.tr ?_ hb1)) _ 28 (by first | exact World.alloc_heap_new _ _ | exact alloc_new2 _ _ _ | exact (Below.heap_alloc _ _ _ (by simp)).trans (World.alloc_heap_new _ _)) HML.out).mono ?_; rintro e w2 ⟨v2, rfl, hE2, hb2⟩; first | (have hth2 := thK hthA hb2) | (have hth2 := thN2 hb2 (by rfl)) | (have hth2 := thN3 hb2 (by rfl)) | skip)
      | (go_at_call 20; refine (HTAG.out _ _ (hE2.out.below (by repeat (first | exact Below.refl _ _ | refine Below.al ?_ _ | refine Below.dr ?_ | refine Below.tr ?_ hb3 | refine Below.tr ?_ hb2 | refine Below.tr ?_ hb1))) (Hn0.out.below (by repeat (first | exact Below.refl _ _ | refine Below.al ?_ _ | refine Below.dr ?_ | refine Below.tr ?_ hb3 | refine Below.tr ?_ hb2 | refine Below.tr ?_ hb1)) (Nat.le_refl _)) (Hs0.out.below (by repeat (first | exact Below.refl _ _ | refine Below.al ?_ _ | refine Below.dr ?_ | refine Below.tr ?_ hb3 | refine Below.tr ?_ hb2 | refine Below.tr ?_ hb1)) (Nat.le_refl _))).mono ?_; rintro e w3 ⟨rfl, hb3⟩; have hthE := th_new w3 (#[Value.int IntKind.u8 0, Value.int IntKind.u8 0, Value.int IntKind.u8 0, Value.int IntKind.u8 0, Value.int IntKind.u8 0, Value.int IntKind.u8 0, Value.int IntKind.u8 0, Value.int IntKind.u8 0, Value.int IntKind.u8 0, Value.int IntKind.u8 0, Value.int IntKind.u8 0, Value.int IntKind.u8 0, Value.int IntKind.u8 0, Value.int IntKind.u8 0, Value.int IntKind.u8 0, Value.int IntKind.u8 0, Value.int IntKind.u8 0, Value.int IntKind.u8 0, Value.int IntKind.u8 0, Value.int IntKind.u8 0, Value.int IntKind.u8 0, Value.int IntKind.u8 0, Value.int IntKind.u8 0, Value.int IntKind.u8 0, Value.int IntKind.u8 0, Value.int IntKind.u8 0, Value.int IntKind.u8 0, Value.int IntKind.u8 0, Value.int IntKind.u8 0, Value.int IntKind.u8 0, Value.int IntKind.u8 0, Value.int IntKind.u8 0]) 41 32 (by rfl); first | (have hth3 := th_below hth2 hb3) | (have hth3 := thN hb3 (by rfl)) | skip))
    all_goals
      go_wp2_with fail
      go_meet
      refine ⟨_, rfl, World.rangeAt_setCells_same _ _ _ _ (by rw [HLEN.out]; assumption), Below.cellsFrom ?_ _ ?_ _ _⟩
      · repeat (first | exact Below.refl _ _ | refine Below.al ?_ _ | refine Below.dr ?_ | refine Below.tr ?_ hb3 | refine Below.tr ?_ hb2 | refine Below.tr ?_ hb1)
      · have q1 := hb1.size
        have q2 := hb2.size
        have q3 := hb3.size
        simp only [World.size_alloc, World.drew] at q1 q2 q3
        omega
  obtain ⟨G, rfl, hR, hBx⟩ := hcut
  have hcell : ∀ j, j < 16 → wc.cell? ⟨G, 0 + j, none⟩ = some (.int .u8 ((tag16 kb nb hb cb).getD j 0).toNat) := fun j hj => by
    have h32 : j < (taggedL tagL (macL kb nb hb cb)).length := by rw [taggedL_length]; omega
    refine hR j _ ?_
    rw [HTL.out]
    simp [h32, tag16, List.getD, hj]
  have HCELL := Lib.hid hcell
  have HBX := Lib.hid hBx
  clear hcell hBx hR hlen hone hi41
  go_wp2
  go_ret
  refine ⟨_, rfl, ⟨some ⟨G, 0, none⟩, 32, by rw [tag16_length]; rfl, by rw [tag16_length]; decide, fun h => (by cases h), fun _ => ⟨G, 0, rfl, fun j hj => HCELL.out j (by rw [tag16_length] at hj; exact hj)⟩⟩, ?_⟩
  exact HB0.out.trans (HBX.out.mono HB0.out.size)
end Go.Proofs.YtklaancgnfkjlaaDoor
