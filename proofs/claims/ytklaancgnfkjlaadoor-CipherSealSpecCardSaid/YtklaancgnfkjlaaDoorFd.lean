/- The reference's Stream. -/
import Derived.Test.YtklaancgnfkjlaaDoorFc
import Derived.Test.YtklaancgnfkjlaaDoorQt
import Derived.BigQuiet
import Derived.Deep.AppendLies
namespace Go.Proofs.YtklaancgnfkjlaaDoor
open Go.RowKit
set_option maxRecDepth 100000
set_option maxHeartbeats 2000000
set_option linter.unusedVariables false
set_option linter.unusedSimpArgs false

theorem wpList_append_row_at {P : Program} {w : World} {ops : Array Oper} {rest : List Oper} {o : Oper} {a : Act} {Q : Exit → Act → World → Prop} (hgd : o.guard = none) (s x : Operand) (t : TypeId)
    (ho : o.op = .call { callee := .builtin .append, args := #[s, x], argTypes := #[t, t] })
    (base : Nat) (e : TypeId) (i : TypeInfo) (z : Value) (size bytes : Nat) (ht : P.underlying t = some (.slice e)) (hi : P.info? e = some i) (hz : i.zero = some z)
    (hsize : i.size = size) (hby : i.bytes = bytes) (hzs : z.cells.size = size) (hsz : 0 < size)
    (v : Value) (n : Nat) (xs : List Value) (hs : a.eval s = v) (hown : w.ownsRow base e size v n xs) (u : Value) (m : Nat) (ys : List Value) (hx : a.eval x = u) (hu : RowAt w u size m ys) (h1 : ∀ u ∈ ys, u.oneCell' = true)
    (h63 : n + m ≤ maxLen) (hbytes : (n + m) * bytes ≤ 140737488355328) (hbase : base ≤ w.heap.size)
    (h : ∀ v' w', w'.ownsRow base e size v' (n + m) (xs ++ ys) → w.grownBy w' v.ownBlock → (v'.ownBlock = v.ownBlock ∨ v'.ownBlock = some w.heap.size) → wpList P ops Q rest (a.put o.dst v') w') : wpList P ops Q (o :: rest) a w :=
  wpList_plain hgd fun _ hK => wp_append_row_at s x t ho base e i z size bytes ht hi hz hsize hby hzs hsz v n xs hs hown u m ys hx hu h1 h63 hbytes hbase fun v' w' h2 h3 h4 => hK _ _ (h v' w' h2 h3 h4)

theorem bytes_far {w w' : World} {g o n c : Nat} {l : List (BitVec 8)} {own : Option Nat} (h : BytesAt w (.slice (some ⟨g, o, none⟩) n c) l) (hg : w.grownBy w' own) (hl : g < w.heap.size) (hne : ∀ k, own = some k → k ≠ g) : BytesAt w' (.slice (some ⟨g, o, none⟩) n c) l := by
  obtain ⟨p, c', e, hc, hp, hcell⟩ := h
  obtain ⟨rfl, rfl, rfl⟩ : some ⟨g, o, none⟩ = p ∧ n = l.length ∧ c = c' := by simpa using e
  refine ⟨_, c, rfl, hc, hp, fun h0 => ?_⟩
  obtain ⟨g', o', e', hcl⟩ := hcell h0
  obtain ⟨rfl, rfl⟩ : g = g' ∧ o = o' := by simpa using e'
  exact ⟨g, o, rfl, fun j hj => by rw [World.cell?_of_block (hg.block g hl (fun e => hne g e.symm rfl))]; exact hcl j hj⟩
theorem rstream_bad (kc nc : Array Value) (p : Option Addr) (n c : Nat) (hn : 65536 < n) (w : World) :
    Calls Tryd.prog 15 #[.agg kc, .agg nc, .slice p n c] w fun e w' => e = .returned (.tuple #[.slice none 0 0, .int .i64 60]) ∧ Below w.heap.size w w' := by
  have hd : decide ((65536 : Int) < (n : Int)) = true := by simp; omega
  have HB := Lib.hid (below_two w kc nc)
  go_enter Tryd.func15, Tryd.ntmps15
  go_wp2
  go_ret2
  exact ⟨rfl, HB.out⟩

/-- What is laid at round i. -/
theorem stream_snoc (kb nb l : List (BitVec 8)) (i : Nat) (hi : i < l.length) : (streamL kb nb l).take (i + 1) = (streamL kb nb l).take i ++ [l.getD i 0 ^^^ ksB kb nb i] := by
  have h : i < (streamL kb nb l).length := by rw [streamL_length]; exact hi
  rw [List.take_succ_eq_append_getElem h]
  have h2 := stream_get kb nb l i hi
  rw [← h2]
  simp [List.getD, h]

theorem rstream_ok (kb nb l : List (BitVec 8)) (v : Value) (w : World) (hk : kb.length = 32) (hn : nb.length = 12) (hl : l.length ≤ 65536) (hv : BytesAt w v l) :
    Calls Tryd.prog 15 #[.agg (kb.map v8).toArray, .agg (nb.map v8).toArray, v] w fun e w' =>
      ∃ u, e = .returned (.tuple #[u, .int .i64 0]) ∧ w'.ownsRow w.heap.size 5 1 u l.length ((streamL kb nb l).map v8) ∧ Below w.heap.size w w' := by
  have hks : (kb.map v8).length = 32 := by simp [hk]
  have hns : (nb.map v8).length = 12 := by simp [hn]
  have hBlk : ∀ d : Nat, d ≤ 1024 → ∀ w, Calls Tryd.prog 22 #[.agg (kb.map v8).toArray, .agg (nb.map v8).toArray, .int .i64 (1 + (d : Int))] w fun e w' =>
      ∃ g c, e = .returned (.slice (some ⟨g, 0, none⟩) 64 c) ∧ BytesAt w' (.slice (some ⟨g, 0, none⟩) 64 c) (chaBlock kb nb (BitVec.ofNat 32 (1 + d))) ∧ w.heap.size ≤ g ∧ g < w'.heap.size ∧ Below w.heap.size w w' := fun d hd w => by
    have h1 := rblock_ok kb nb (BitVec.ofNat 32 (1 + d)) w hk hn
    have e : ((BitVec.ofNat 32 (1 + d)).toNat : Int) = 1 + (d : Int) := by rw [BitVec.toNat_ofNat]; omega
    rw [e] at h1
    refine h1.mono ?_
    rintro e w' ⟨v, rfl, hown, hB⟩
    obtain ⟨p, c, rfl, h1, h2⟩ := own_form hown
    obtain ⟨g, rfl, h3, h4⟩ := h2 (by decide)
    exact ⟨g, c, rfl, BytesAt.of_own (B := w.heap.size) (by rw [chaBlock_length]; exact hown), h3, h4, hB⟩
  have hsn := stream_snoc kb nb l
  have hcl := fun c => chaBlock_length kb nb c
  have hks' : ∀ i, ksB kb nb i = (chaBlock kb nb (BitVec.ofNat 32 (1 + i / 64))).getD (i % 64) 0 := fun i => rfl
  have hst : (streamL kb nb l).take l.length = streamL kb nb l := List.take_of_length_le (by rw [streamL_length]; exact Nat.le_refl _)
  obtain ⟨p, c, rfl, hc, hp⟩ := bytes_form hv
  generalize kb.map v8 = kl at hks hBlk ⊢
  generalize nb.map v8 = nl at hns hBlk ⊢
  obtain ⟨i0, hi0, hz0, hz1, hz2⟩ := info_parts info_u8
  have hd0 : decide ((65536 : Int) < (l.length : Int)) = false := by simp; omega
  have HBLK := Lib.hid hBlk
  have HSN := Lib.hid hsn
  have HCL := Lib.hid hcl
  have HKSB := Lib.hid hks'
  have HST := Lib.hid hst
  have HKS := Lib.hid hks
  have HNS := Lib.hid hns
  have HV := Lib.hid hv
  clear hBlk hsn hcl hks' hks hns hv hst hk hn
  have hu23 := Tryd.underlying23
  have hu25 := Tryd.underlying25
  have hi23 : (Tryd.prog.info? 23).map (·.size) = some kl.length := by rw [HKS.out]; kernel_rfl
  have hi25 : (Tryd.prog.info? 25).map (·.size) = some nl.length := by rw [HNS.out]; kernel_rfl
  have HK0 := Lib.hid (boxes_K w kl.toArray nl.toArray)
  have HN0 := Lib.hid (alloc_new2 w (.cells kl.toArray 23) (.cells nl.toArray 25))
  have HB0 := Lib.hid (below_two w kl.toArray nl.toArray)
  go_enter Tryd.func15, Tryd.ntmps15
  go_upto_region 3 with fail
  obtain ⟨w0, hw0⟩ : ∃ w0, w0 = (w.alloc (.cells kl.toArray 23)).alloc (.cells nl.toArray 25) := ⟨_, rfl⟩
  rw [← hw0] at HK0 HN0 HB0 ⊢
  clear hw0
  obtain ⟨N, hN⟩ : ∃ N, N = w.heap.size + 1 := ⟨_, rfl⟩
  rw [← hN] at HN0 ⊢
  clear hN hd0
  go_upto_region 6 with fail
  have hO2 : ((w0.alloc (.cells #[] 5)).alloc (.cells #[] 5)).ownsRow w0.heap.size 5 1 (.slice (some ⟨w0.heap.size, 0, none⟩) 0 0) 0 [] := by
    refine own_below (w := w0.alloc (.cells #[] 5)) (m := w0.heap.size + 1) ?_ ⟨rfl, rfl, rfl, by simp, fun k hk => Below.heap_alloc _ _ _ (by simp; omega)⟩ (fun k e => by have e2 : w0.heap.size = k := (by simpa [Value.ownBlock] using e); omega)
    exact ⟨rfl, .inr ⟨w0.heap.size, 0, #[], rfl, Nat.le_refl _, World.alloc_heap_new w0 _, Nat.le_refl _, by unfold maxLen; omega, rfl, rfl⟩⟩
  have hB2 : Below w.heap.size w ((w0.alloc (.cells #[] 5)).alloc (.cells #[] 5)) := (HB0.out.alloc HB0.out.size _).alloc (HB0.out.alloc HB0.out.size _).size _
  have hB02 : Below w0.heap.size w0 ((w0.alloc (.cells #[] 5)).alloc (.cells #[] 5)) := Below.al (Below.al (Below.refl _ _) _) _
  have hgx : w0.heap.size + 1 < ((w0.alloc (.cells #[] 5)).alloc (.cells #[] 5)).heap.size := by simp
  have hw0 := HB0.out.size
  have hGW : w0.heap.size ≤ ((w0.alloc (.cells #[] 5)).alloc (.cells #[] 5)).heap.size := by simp; omega
  obtain ⟨W2, hW2⟩ : ∃ W, W = (w0.alloc (.cells #[] 5)).alloc (.cells #[] 5) := ⟨_, rfl⟩
  rw [← hW2] at hO2 hB2 hB02 hgx hGW ⊢
  have HK2 := Lib.hid ((hB02.block _ (Array.getElem?_eq_some_iff.1 HK0.out).1).trans HK0.out)
  have HN2 := Lib.hid ((hB02.block _ (Array.getElem?_eq_some_iff.1 HN0.out).1).trans HN0.out)
  have hKl := (Array.getElem?_eq_some_iff.1 HK2.out).1
  have hNl := (Array.getElem?_eq_some_iff.1 HN2.out).1
  obtain ⟨G1, hG1⟩ : ∃ G, G = w0.heap.size := ⟨_, rfl⟩
  have hNG : N < G1 := by rw [hG1]; exact (Array.getElem?_eq_some_iff.1 HN0.out).1
  have hKG : w.heap.size < G1 := by rw [hG1]; exact (Array.getElem?_eq_some_iff.1 HK0.out).1
  rw [← hG1] at hO2 hgx hGW ⊢
  have HO2 := Lib.hid hO2
  have HB2 := Lib.hid hB2
  clear hW2 hO2 hB2 hB02 hG1 HK0 HN0 HB0 hw0 hKl hNl
  go_wp2_with fail
  go_loopw [8, 9, 10] (fun vo vx ti wr => ∃ i gx nx cx : Nat, ti = .int .i64 i ∧ i ≤ l.length ∧ vx = .slice (some ⟨gx, 0, none⟩) nx cx ∧ Hid (wr.ownsRow G1 5 1 vo i (((streamL kb nb l).take i).map v8)) ∧ Hid (∀ k, vo.ownBlock = some k → k ≠ gx) ∧ Hid (gx < wr.heap.size) ∧
      Hid (i % 64 ≠ 0 → nx = 64 ∧ BytesAt wr (.slice (some ⟨gx, 0, none⟩) 64 cx) (chaBlock kb nb (BitVec.ofNat 32 (1 + i / 64)))) ∧ Hid (Below G1 W2 wr)) (fun _ _ ti _ => l.length - (intOf ti).toNat)
  case atStart => exact ⟨0, G1 + 1, 0, 0, rfl, Nat.zero_le _, rfl, HO2, Lib.hid (fun k e => by have e2 : G1 = k := (by simpa [Value.ownBlock] using e); omega), Lib.hid hgx, Lib.hid (fun h => absurd rfl h), Below.refl _ _⟩
  case round =>
    obtain ⟨i, gx, nx, cx, rfl, hi, rfl, HOi, HNEi, HGi, HXi, HBGi⟩ := hrel
    have HBi := Lib.hid (HB2.out.trans (HBGi.out.mono (Nat.le_of_lt hKG)))
    have hsz := Nat.le_trans hGW HBGi.out.size
    by_cases hlt : i < l.length
    · have HKNi := Lib.hid (And.intro ((HBGi.out.block _ hKG).trans HK2.out) ((HBGi.out.block _ hNG).trans HN2.out))
      have hdi : decide ((i : Int) < (l.length : Int)) = true := by simp; omega
      have hdn : decide (i < l.length) = true := by simp; omega
      obtain ⟨g, o, rfl⟩ := hp (by omega)
      obtain ⟨q, hq⟩ : ∃ q, q = i % 64 := ⟨_, rfl⟩
      obtain ⟨d, hd⟩ : ∃ d, d = i / 64 := ⟨_, rfl⟩
      have hq64 : q < 64 := by omega
      have hd1024 : d ≤ 1024 := by omega
      have e1 : (i : Int) % 64 = (q : Int) := by omega
      have e2 : Int.tmod (i : Int) 64 = (q : Int) := by rw [Int.tmod_eq_emod_of_nonneg (by omega)]; exact e1
      have e3 : (i : Int) / 64 = (d : Int) := by omega
      have HQ := Lib.hid hq
      have HD := Lib.hid hd
      have hlc : ∀ W, Below w.heap.size w W → W.cell? ⟨g, o + i, none⟩ = some (.int .u8 (l.getD i 0).toNat) := fun W hB => by
        obtain ⟨p', c', he, _, _, hcell⟩ := HV.out.below hB
        obtain ⟨g', o', hp', hg⟩ := hcell (by omega)
        rw [hp'] at he
        obtain ⟨⟨rfl, rfl⟩, rfl⟩ : (g = g' ∧ o = o') ∧ c = c' := by simpa using he
        exact hg i hlt
      have hxc : ∀ W gx cx, BytesAt W (.slice (some ⟨gx, 0, none⟩) 64 cx) (chaBlock kb nb (BitVec.ofNat 32 (1 + d))) → W.cell? ⟨gx, q, none⟩ = some (.int .u8 ((chaBlock kb nb (BitVec.ofNat 32 (1 + d))).getD q 0).toNat) := fun W gx cx h => by
        obtain ⟨p', c', he, _, _, hcell⟩ := h
        obtain ⟨g', o', hp', hg⟩ := hcell (by rw [HCL.out]; decide)
        rw [hp'] at he
        obtain ⟨rfl, rfl⟩ : gx = g' ∧ o' = 0 := by
          simp only [Value.slice.injEq, Option.some.injEq, Addr.mk.injEq] at he
          exact ⟨he.1.1, he.1.2.1.symm⟩
        have := hg q (by rw [HCL.out]; exact hq64)
        rw [Nat.zero_add] at this
        exact this
      have HLCF := Lib.hid hlc
      have HXCF := Lib.hid hxc
      clear hq hd hlc hxc
      have hi0' : (0 : Int) ≤ (i : Int) := by omega
      have hil : (i : Int) < (l.length : Int) := by omega
      have hq0' : (0 : Int) ≤ (q : Int) := by omega
      have hq64' : (q : Int) < 64 := by omega
      by_cases hq0 : q = 0
      · have hb1 : ((q : Int) == 0) = true := by simp; omega
        have hb2 : decide ((q : Int) = 0) = true := by simp; omega
        have HQ0 := Lib.hid hq0
        clear hq0
        go_upto_region 9 with fail
        refine wp_region_lit ?_
        refine wpList_load_row rfl 23 _ rfl w.heap.size rfl 23 kl.toArray (0, 0) _ HKNi.out.1 hu23 rfl (by rw [List.size_toArray]; exact hi23) ?_
        refine wpList_load_row rfl 25 _ rfl N rfl 25 nl.toArray (0, 0) _ HKNi.out.2 hu25 rfl (by rw [List.size_toArray]; exact hi25) ?_
        go_wp2_with fail
        refine (HBLK.out d hd1024 _).mono ?_
        rintro e wx ⟨gy, cy, rfl, hbx, hg1, hg2, hBx⟩
        have HOX := Lib.hid (own_below HOi.out hBx (fun k e => (HOi.out.lt k e).2))
        have HNEX : Hid (∀ k, _ = some k → k ≠ gy) := Lib.hid (fun k e => by have h := (HOi.out.lt k e).2; omega)
        have HGX := Lib.hid hg2
        have HXX := Lib.hid hbx
        have HBX := Lib.hid (HBi.out.trans (hBx.mono HBi.out.size))
        have HBGX := Lib.hid (HBGi.out.trans (hBx.mono hsz))
        have hszX := Nat.le_trans hsz hBx.size
        have HLC := Lib.hid (HLCF.out _ HBX.out)
        have HL1 := HLCF
        have HCIX := Lib.hid (HXCF.out _ _ _ HXX.out)
        clear hbx hg1 hg2 hBx HOi HNEi HGi HXi HBi HBGi HKNi HLCF HXCF hsz
        have hci := HCIX.out
        have hli := HLC.out
        have hli1 := HL1.out
        have hxx := xor8 (l.getD i 0) ((chaBlock kb nb (BitVec.ofNat 32 (1 + d))).getD q 0)
        have hsn : (streamL kb nb l).take (i + 1) = (streamL kb nb l).take i ++ [l.getD i 0 ^^^ (chaBlock kb nb (BitVec.ofNat 32 (1 + d))).getD q 0] := by
          have h := HSN.out i hlt
          rw [HKSB.out, ← HD.out, ← HQ.out] at h
          exact h
        generalize l.getD i 0 = bx at hli hli1 hxx hsn
        generalize (chaBlock kb nb (BitVec.ofNat 32 (1 + d))).getD q 0 = by' at hci hxx hsn
        have HSNI := Lib.hid hsn
        have HOq := Lib.hid (own_drewN HOX.out)
        have HBq : Hid (∀ z, Below w.heap.size w (wx.drewN z)) := Lib.hid fun z => HBX.out.trans ⟨rfl, rfl, rfl, Nat.le_refl _, fun _ _ => rfl⟩
        have HLI1 := Lib.hid hli1
        clear hsn HLC HCIX hli1 HL1
        go_upto_region 10 with fail
        refine wp_region_noPanic ?_
        refine region_tree (fun W' => W'.cell? ⟨g, o + i, none⟩ = some (.int .u8 bx.toNat) ∧ W'.cell? ⟨gy, q, none⟩ = some (.int .u8 by'.toNat)) (.take 0 (.take 1 (.take 2 (.take 3 (.take 4 (.take 5 (.take 6 (.take 7 (.take 8 (.take 9 (.take 10 (.one 11 (.one 12 (.take 13 .done))))))))))))))
          (by kernel_rfl) (by kernel_rfl) (by kernel_rfl) (by decide) (fun _ _ _ _ h => h) ⟨hli, hci⟩ ?_
        refine tree_take (v := ?_) rfl (by rfl) (fun W' hS => ?_) ?_
        rotate_left
        · obtain ⟨hs1, hs2⟩ := hS; go_simp; with_reducible rfl
        try simp only [Act.put, List.getElem_toArray, List.getElem_cons_succ, List.getElem_cons_zero, List.setIfInBounds_toArray, List.set_cons_zero, List.set_cons_succ]
        refine tree_take (v := ?_) rfl (by rfl) (fun W' hS => ?_) ?_
        rotate_left
        · obtain ⟨hs1, hs2⟩ := hS; go_simp; with_reducible rfl
        try simp only [Act.put, List.getElem_toArray, List.getElem_cons_succ, List.getElem_cons_zero, List.setIfInBounds_toArray, List.set_cons_zero, List.set_cons_succ]
        refine tree_take (v := ?_) rfl (by rfl) (fun W' hS => ?_) ?_
        rotate_left
        · obtain ⟨hs1, hs2⟩ := hS; go_simp; with_reducible rfl
        try simp only [Act.put, List.getElem_toArray, List.getElem_cons_succ, List.getElem_cons_zero, List.setIfInBounds_toArray, List.set_cons_zero, List.set_cons_succ]
        refine tree_take (v := ?_) rfl (by rfl) (fun W' hS => ?_) ?_
        rotate_left
        · obtain ⟨hs1, hs2⟩ := hS; go_simp; with_reducible rfl
        try simp only [Act.put, List.getElem_toArray, List.getElem_cons_succ, List.getElem_cons_zero, List.setIfInBounds_toArray, List.set_cons_zero, List.set_cons_succ]
        refine tree_take (v := ?_) rfl (by rfl) (fun W' hS => ?_) ?_
        rotate_left
        · obtain ⟨hs1, hs2⟩ := hS; go_simp; with_reducible rfl
        try simp only [Act.put, List.getElem_toArray, List.getElem_cons_succ, List.getElem_cons_zero, List.setIfInBounds_toArray, List.set_cons_zero, List.set_cons_succ]
        refine tree_take (v := ?_) rfl (by rfl) (fun W' hS => ?_) ?_
        rotate_left
        · obtain ⟨hs1, hs2⟩ := hS; go_simp; with_reducible rfl
        try simp only [Act.put, List.getElem_toArray, List.getElem_cons_succ, List.getElem_cons_zero, List.setIfInBounds_toArray, List.set_cons_zero, List.set_cons_succ]
        refine tree_take (v := ?_) rfl (by rfl) (fun W' hS => ?_) ?_
        rotate_left
        · obtain ⟨hs1, hs2⟩ := hS; go_simp; with_reducible rfl
        try simp only [Act.put, List.getElem_toArray, List.getElem_cons_succ, List.getElem_cons_zero, List.setIfInBounds_toArray, List.set_cons_zero, List.set_cons_succ]
        refine tree_take (v := ?_) rfl (by rfl) (fun W' hS => ?_) ?_
        rotate_left
        · obtain ⟨hs1, hs2⟩ := hS; go_simp; with_reducible rfl
        try simp only [Act.put, List.getElem_toArray, List.getElem_cons_succ, List.getElem_cons_zero, List.setIfInBounds_toArray, List.set_cons_zero, List.set_cons_succ]
        refine tree_take (v := ?_) rfl (by rfl) (fun W' hS => ?_) ?_
        rotate_left
        · obtain ⟨hs1, hs2⟩ := hS; go_simp; with_reducible rfl
        try simp only [Act.put, List.getElem_toArray, List.getElem_cons_succ, List.getElem_cons_zero, List.setIfInBounds_toArray, List.set_cons_zero, List.set_cons_succ]
        refine tree_take (v := ?_) rfl (by rfl) (fun W' hS => ?_) ?_
        rotate_left
        · obtain ⟨hs1, hs2⟩ := hS; go_simp; with_reducible rfl
        try simp only [Act.put, List.getElem_toArray, List.getElem_cons_succ, List.getElem_cons_zero, List.setIfInBounds_toArray, List.set_cons_zero, List.set_cons_succ]
        refine tree_take (v := ?_) rfl (by rfl) (fun W' hS => ?_) ?_
        rotate_left
        · obtain ⟨hs1, hs2⟩ := hS; go_simp; with_reducible rfl
        try simp only [Act.put, List.getElem_toArray, List.getElem_cons_succ, List.getElem_cons_zero, List.setIfInBounds_toArray, List.set_cons_zero, List.set_cons_succ]
        refine tree_one rfl (fun K' hK => ?_)
        go_simp
        have hBa : Below wx.heap.size wx (wx.alloc (.cells #[.int .u8 ((bx.toNat ^^^ by'.toNat : Nat) : Int)] 5)).drew := Below.dr (Below.al (Below.refl _ _) _)
        have hBA : Below w.heap.size w (wx.alloc (.cells #[.int .u8 ((bx.toNat ^^^ by'.toNat : Nat) : Int)] 5)).drew := HBX.out.trans (hBa.mono HBX.out.size)
        have hl1 := cell_old hli (hBa.block _ (cell_lt hli))
        have hc1 := cell_old hci (hBa.block _ (cell_lt hci))
        have ho1 := own_below HOX.out hBa (fun k e => (HOX.out.lt k e).2)
        have hr1 : RowAt (wx.alloc (.cells #[.int .u8 ((bx.toNat ^^^ by'.toNat : Nat) : Int)] 5)).drew (.slice (some ⟨wx.heap.size, 0, none⟩) 1 1) 1 1 [.int .u8 ((bx.toNat ^^^ by'.toNat : Nat) : Int)] := row_fresh wx [_] 5 (0, 0) 1 (Nat.le_refl _)
        have hgx1 := Nat.lt_of_lt_of_le HGX.out hBa.size
        refine hK.out _ _ ⟨hl1, hc1⟩ fun _ => ?_
        clear hK
        try simp only [Act.put, List.getElem_toArray, List.getElem_cons_succ, List.getElem_cons_zero, List.setIfInBounds_toArray, List.set_cons_zero, List.set_cons_succ]
        refine tree_append_at rfl rfl _ _ 28 rfl G1 5 i0 (.int .u8 0) 1 1 Tryd.underlying28 hi0 hz0 hz1 hz2 rfl (by decide) _ _ _ rfl ho1 _ _ _ rfl hr1 (by simp [Value.oneCell']) (by unfold maxLen; omega) (by omega) (Nat.le_trans hszX hBa.size) ?_
        intro v' w1 hown' hgrow hlies
        have hB1 := hBA.grown hgrow hBA.size (fun k e => Nat.le_trans (Nat.le_of_lt hKG) (ho1.lt k e).1)
        have hl2 := HLI1.out _ hB1
        have hc2 : w1.cell? ⟨gy, q, none⟩ = some (.int .u8 by'.toNat) := (hgrow.cell_far _ hgx1 (fun e => HNEX.out _ e.symm rfl)).trans hc1
        refine ⟨⟨hl2, hc2⟩, ?_⟩
        try simp only [Act.put, List.getElem_toArray, List.getElem_cons_succ, List.getElem_cons_zero, List.setIfInBounds_toArray, List.set_cons_zero, List.set_cons_succ]
        refine tree_take (v := ?_) rfl (by rfl) (fun W' hS => ?_) ?_
        rotate_left
        · go_simp; with_reducible rfl
        try simp only [Act.put, List.getElem_toArray, List.getElem_cons_succ, List.getElem_cons_zero, List.setIfInBounds_toArray, List.set_cons_zero, List.set_cons_succ]
        refine NoPanic.normal ?_
        have hBG1 : Below G1 W2 w1 := (HBGX.out.trans (hBa.mono hszX)).grown hgrow (Nat.le_trans hszX hBa.size) (fun k e => (ho1.lt k e).1)
        have hbx1 := bytes_far (HXX.out.below hBa) hgrow hgx1 HNEX.out
        have hne1 := lies_ne hlies HNEX.out (fun e => by omega)
        have hgx2 := Nat.lt_of_lt_of_le hgx1 hgrow.size
        have hown2 : w1.ownsRow G1 5 1 v' (i + 1) (((streamL kb nb l).take (i + 1)).map v8) := by
          rw [HSNI.out, List.map_append]
          exact hown'
        have HDi : Hid ((i + 1) % 64 ≠ 0 → 64 = 64 ∧ BytesAt w1 (.slice (some ⟨gy, 0, none⟩) 64 cy) (chaBlock kb nb (BitVec.ofNat 32 (1 + (i + 1) / 64)))) := Lib.hid (fun h => ⟨rfl, by rw [show (i + 1) / 64 = d by have := HD.out; omega]; exact hbx1⟩)
        have R1 := Lib.hid hown2
        have R2 := Lib.hid hne1
        have R3 := Lib.hid hgx2
        have R5 := Lib.hid hBG1
        clear hown' hgrow hlies hB1 hl2 hc2 hown2 hne1 hgx2 hBG1 hbx1 hr1 ho1 hl1 hc1 hBa hBA hli hci hxx
        go_wp2
        go_roundw
        case rel => exact ⟨i + 1, gy, 64, cy, by go_num, by omega, rfl, R1, R2, R3, HDi, R5⟩
        case measure => simp [intOf]; omega
      · have hb1 : ((q : Int) == 0) = false := by simp; omega
        have hb2 : decide ((q : Int) = 0) = false := by simp; omega
        have hx := HXi.out (by rw [← HQ.out]; exact hq0)
        obtain ⟨rfl, hxb⟩ := hx
        rw [← HD.out] at hxb
        have HOX := HOi
        have HNEX := HNEi
        have HGX := HGi
        have HXX := Lib.hid hxb
        have HBX := HBi
        have HBGX := HBGi
        have hszX := hsz
        have HLC := Lib.hid (HLCF.out _ HBX.out)
        have HL1 := HLCF
        have HCIX := Lib.hid (HXCF.out _ _ _ HXX.out)
        have HQ0 := Lib.hid hq0
        clear hq0 hxb HOi HNEi HGi HXi HBi HBGi HKNi HLCF HXCF hsz
        have hci := HCIX.out
        have hli := HLC.out
        have hli1 := HL1.out
        have hxx := xor8 (l.getD i 0) ((chaBlock kb nb (BitVec.ofNat 32 (1 + d))).getD q 0)
        have hsn : (streamL kb nb l).take (i + 1) = (streamL kb nb l).take i ++ [l.getD i 0 ^^^ (chaBlock kb nb (BitVec.ofNat 32 (1 + d))).getD q 0] := by
          have h := HSN.out i hlt
          rw [HKSB.out, ← HD.out, ← HQ.out] at h
          exact h
        generalize l.getD i 0 = bx at hli hli1 hxx hsn
        generalize (chaBlock kb nb (BitVec.ofNat 32 (1 + d))).getD q 0 = by' at hci hxx hsn
        have HSNI := Lib.hid hsn
        have HOq := Lib.hid (own_drewN HOX.out)
        have HBq : Hid (∀ z, Below w.heap.size w (wr.drewN z)) := Lib.hid fun z => HBX.out.trans ⟨rfl, rfl, rfl, Nat.le_refl _, fun _ _ => rfl⟩
        have HLI1 := Lib.hid hli1
        clear hsn HLC HCIX hli1 HL1
        go_upto_region 10 with fail
        refine wp_region_noPanic ?_
        refine region_tree (fun W' => W'.cell? ⟨g, o + i, none⟩ = some (.int .u8 bx.toNat) ∧ W'.cell? ⟨gx, q, none⟩ = some (.int .u8 by'.toNat)) (.take 0 (.take 1 (.take 2 (.take 3 (.take 4 (.take 5 (.take 6 (.take 7 (.take 8 (.take 9 (.take 10 (.one 11 (.one 12 (.take 13 .done))))))))))))))
          (by kernel_rfl) (by kernel_rfl) (by kernel_rfl) (by decide) (fun _ _ _ _ h => h) ⟨hli, hci⟩ ?_
        refine tree_take (v := ?_) rfl (by rfl) (fun W' hS => ?_) ?_
        rotate_left
        · obtain ⟨hs1, hs2⟩ := hS; go_simp; with_reducible rfl
        try simp only [Act.put, List.getElem_toArray, List.getElem_cons_succ, List.getElem_cons_zero, List.setIfInBounds_toArray, List.set_cons_zero, List.set_cons_succ]
        refine tree_take (v := ?_) rfl (by rfl) (fun W' hS => ?_) ?_
        rotate_left
        · obtain ⟨hs1, hs2⟩ := hS; go_simp; with_reducible rfl
        try simp only [Act.put, List.getElem_toArray, List.getElem_cons_succ, List.getElem_cons_zero, List.setIfInBounds_toArray, List.set_cons_zero, List.set_cons_succ]
        refine tree_take (v := ?_) rfl (by rfl) (fun W' hS => ?_) ?_
        rotate_left
        · obtain ⟨hs1, hs2⟩ := hS; go_simp; with_reducible rfl
        try simp only [Act.put, List.getElem_toArray, List.getElem_cons_succ, List.getElem_cons_zero, List.setIfInBounds_toArray, List.set_cons_zero, List.set_cons_succ]
        refine tree_take (v := ?_) rfl (by rfl) (fun W' hS => ?_) ?_
        rotate_left
        · obtain ⟨hs1, hs2⟩ := hS; go_simp; with_reducible rfl
        try simp only [Act.put, List.getElem_toArray, List.getElem_cons_succ, List.getElem_cons_zero, List.setIfInBounds_toArray, List.set_cons_zero, List.set_cons_succ]
        refine tree_take (v := ?_) rfl (by rfl) (fun W' hS => ?_) ?_
        rotate_left
        · obtain ⟨hs1, hs2⟩ := hS; go_simp; with_reducible rfl
        try simp only [Act.put, List.getElem_toArray, List.getElem_cons_succ, List.getElem_cons_zero, List.setIfInBounds_toArray, List.set_cons_zero, List.set_cons_succ]
        refine tree_take (v := ?_) rfl (by rfl) (fun W' hS => ?_) ?_
        rotate_left
        · obtain ⟨hs1, hs2⟩ := hS; go_simp; with_reducible rfl
        try simp only [Act.put, List.getElem_toArray, List.getElem_cons_succ, List.getElem_cons_zero, List.setIfInBounds_toArray, List.set_cons_zero, List.set_cons_succ]
        refine tree_take (v := ?_) rfl (by rfl) (fun W' hS => ?_) ?_
        rotate_left
        · obtain ⟨hs1, hs2⟩ := hS; go_simp; with_reducible rfl
        try simp only [Act.put, List.getElem_toArray, List.getElem_cons_succ, List.getElem_cons_zero, List.setIfInBounds_toArray, List.set_cons_zero, List.set_cons_succ]
        refine tree_take (v := ?_) rfl (by rfl) (fun W' hS => ?_) ?_
        rotate_left
        · obtain ⟨hs1, hs2⟩ := hS; go_simp; with_reducible rfl
        try simp only [Act.put, List.getElem_toArray, List.getElem_cons_succ, List.getElem_cons_zero, List.setIfInBounds_toArray, List.set_cons_zero, List.set_cons_succ]
        refine tree_take (v := ?_) rfl (by rfl) (fun W' hS => ?_) ?_
        rotate_left
        · obtain ⟨hs1, hs2⟩ := hS; go_simp; with_reducible rfl
        try simp only [Act.put, List.getElem_toArray, List.getElem_cons_succ, List.getElem_cons_zero, List.setIfInBounds_toArray, List.set_cons_zero, List.set_cons_succ]
        refine tree_take (v := ?_) rfl (by rfl) (fun W' hS => ?_) ?_
        rotate_left
        · obtain ⟨hs1, hs2⟩ := hS; go_simp; with_reducible rfl
        try simp only [Act.put, List.getElem_toArray, List.getElem_cons_succ, List.getElem_cons_zero, List.setIfInBounds_toArray, List.set_cons_zero, List.set_cons_succ]
        refine tree_take (v := ?_) rfl (by rfl) (fun W' hS => ?_) ?_
        rotate_left
        · obtain ⟨hs1, hs2⟩ := hS; go_simp; with_reducible rfl
        try simp only [Act.put, List.getElem_toArray, List.getElem_cons_succ, List.getElem_cons_zero, List.setIfInBounds_toArray, List.set_cons_zero, List.set_cons_succ]
        refine tree_one rfl (fun K' hK => ?_)
        go_simp
        have hBa : Below wr.heap.size wr (wr.alloc (.cells #[.int .u8 ((bx.toNat ^^^ by'.toNat : Nat) : Int)] 5)).drew := Below.dr (Below.al (Below.refl _ _) _)
        have hBA : Below w.heap.size w (wr.alloc (.cells #[.int .u8 ((bx.toNat ^^^ by'.toNat : Nat) : Int)] 5)).drew := HBX.out.trans (hBa.mono HBX.out.size)
        have hl1 := cell_old hli (hBa.block _ (cell_lt hli))
        have hc1 := cell_old hci (hBa.block _ (cell_lt hci))
        have ho1 := own_below HOX.out hBa (fun k e => (HOX.out.lt k e).2)
        have hr1 : RowAt (wr.alloc (.cells #[.int .u8 ((bx.toNat ^^^ by'.toNat : Nat) : Int)] 5)).drew (.slice (some ⟨wr.heap.size, 0, none⟩) 1 1) 1 1 [.int .u8 ((bx.toNat ^^^ by'.toNat : Nat) : Int)] := row_fresh wr [_] 5 (0, 0) 1 (Nat.le_refl _)
        have hgx1 := Nat.lt_of_lt_of_le HGX.out hBa.size
        refine hK.out _ _ ⟨hl1, hc1⟩ fun _ => ?_
        clear hK
        try simp only [Act.put, List.getElem_toArray, List.getElem_cons_succ, List.getElem_cons_zero, List.setIfInBounds_toArray, List.set_cons_zero, List.set_cons_succ]
        refine tree_append_at rfl rfl _ _ 28 rfl G1 5 i0 (.int .u8 0) 1 1 Tryd.underlying28 hi0 hz0 hz1 hz2 rfl (by decide) _ _ _ rfl ho1 _ _ _ rfl hr1 (by simp [Value.oneCell']) (by unfold maxLen; omega) (by omega) (Nat.le_trans hszX hBa.size) ?_
        intro v' w1 hown' hgrow hlies
        have hB1 := hBA.grown hgrow hBA.size (fun k e => Nat.le_trans (Nat.le_of_lt hKG) (ho1.lt k e).1)
        have hl2 := HLI1.out _ hB1
        have hc2 : w1.cell? ⟨gx, q, none⟩ = some (.int .u8 by'.toNat) := (hgrow.cell_far _ hgx1 (fun e => HNEX.out _ e.symm rfl)).trans hc1
        refine ⟨⟨hl2, hc2⟩, ?_⟩
        try simp only [Act.put, List.getElem_toArray, List.getElem_cons_succ, List.getElem_cons_zero, List.setIfInBounds_toArray, List.set_cons_zero, List.set_cons_succ]
        refine tree_take (v := ?_) rfl (by rfl) (fun W' hS => ?_) ?_
        rotate_left
        · go_simp; with_reducible rfl
        try simp only [Act.put, List.getElem_toArray, List.getElem_cons_succ, List.getElem_cons_zero, List.setIfInBounds_toArray, List.set_cons_zero, List.set_cons_succ]
        refine NoPanic.normal ?_
        have hBG1 : Below G1 W2 w1 := (HBGX.out.trans (hBa.mono hszX)).grown hgrow (Nat.le_trans hszX hBa.size) (fun k e => (ho1.lt k e).1)
        have hbx1 := bytes_far (HXX.out.below hBa) hgrow hgx1 HNEX.out
        have hne1 := lies_ne hlies HNEX.out (fun e => by omega)
        have hgx2 := Nat.lt_of_lt_of_le hgx1 hgrow.size
        have hown2 : w1.ownsRow G1 5 1 v' (i + 1) (((streamL kb nb l).take (i + 1)).map v8) := by
          rw [HSNI.out, List.map_append]
          exact hown'
        have HDi : Hid ((i + 1) % 64 ≠ 0 → 64 = 64 ∧ BytesAt w1 (.slice (some ⟨gx, 0, none⟩) 64 cx) (chaBlock kb nb (BitVec.ofNat 32 (1 + (i + 1) / 64)))) := Lib.hid (fun h => ⟨rfl, by rw [show (i + 1) / 64 = d by have := HD.out; omega]; exact hbx1⟩)
        have R1 := Lib.hid hown2
        have R2 := Lib.hid hne1
        have R3 := Lib.hid hgx2
        have R5 := Lib.hid hBG1
        clear hown' hgrow hlies hB1 hl2 hc2 hown2 hne1 hgx2 hBG1 hbx1 hr1 ho1 hl1 hc1 hBa hBA hli hci hxx
        go_wp2
        go_roundw
        case rel => exact ⟨i + 1, gx, 64, cx, by go_num, by omega, rfl, R1, R2, R3, HDi, R5⟩
        case measure => simp [intOf]; omega
    · have hdi : decide ((i : Int) < (l.length : Int)) = false := by simp; omega
      have hdn : decide (i < l.length) = false := by simp; omega
      have hil : i = l.length := by omega
      have hfin := HOi.out
      rw [hil, HST.out] at hfin
      have HFIN := Lib.hid hfin
      clear hfin hil HOi
      go_wp2
      go_ret2
      exact ⟨_, rfl, own_lower HFIN.out (Nat.le_of_lt hKG), HBi.out⟩
end Go.Proofs.YtklaancgnfkjlaaDoor
