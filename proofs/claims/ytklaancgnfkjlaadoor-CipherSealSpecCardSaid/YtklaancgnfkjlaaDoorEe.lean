/- cipher: what the laws want; sane. -/
import Derived.Test.YtklaancgnfkjlaaDoorEd
import Derived.Deep.RegionHeld3
import Derived.Lib.SlBytesConst
namespace Go.Proofs.YtklaancgnfkjlaaDoor
open Go.RowKit
set_option maxRecDepth 100000
set_option maxHeartbeats 2000000
set_option linter.unusedVariables false
set_option linter.unusedSimpArgs false

theorem chaBlock_length (kb nb c) : (chaBlock kb nb c).length = 64 := by rw [chaBlock, chaOut_length]
theorem encN_get (kb nb l : List (BitVec 8)) (n i : Nat) (hi : i < l.length) : (encN kb nb l n).getD i 0 = if i < n then l.getD i 0 ^^^ ksB kb nb i else l.getD i 0 := by
  induction n with
  | zero => simp [encN]
  | succ n ih =>
    simp only [encN]
    by_cases h : i = n
    · subst h
      have hl : i < (encN kb nb l i).length := by rw [encN_length]; exact hi
      have : ((encN kb nb l i).set i ((encN kb nb l i).getD i 0 ^^^ ksB kb nb i)).getD i 0 = (encN kb nb l i).getD i 0 ^^^ ksB kb nb i := by
        simp [List.getD, hl]
      rw [this, ih, if_neg (by omega), if_pos (by omega)]
    · have : ((encN kb nb l n).set n ((encN kb nb l n).getD n 0 ^^^ ksB kb nb n)).getD i 0 = (encN kb nb l n).getD i 0 := by
        simp [List.getD, List.getElem?_set_ne (Ne.symm h)]
      rw [this, ih]
      by_cases h2 : i < n
      · rw [if_pos h2, if_pos (by omega)]
      · rw [if_neg h2, if_neg (by omega)]
theorem stream_get (kb nb l : List (BitVec 8)) (i : Nat) (hi : i < l.length) : (streamL kb nb l).getD i 0 = l.getD i 0 ^^^ ksB kb nb i := by
  rw [streamL, encN_get _ _ _ _ _ hi, if_pos hi]
theorem ext_getD {l m : List (BitVec 8)} (hl : l.length = m.length) (h : ∀ i, i < l.length → l.getD i 0 = m.getD i 0) : l = m := by
  apply List.ext_getElem hl
  intro i h1 h2
  have := h i h1
  simpa [List.getD, h1, h2] using this
theorem stream_stream (kb nb l : List (BitVec 8)) : streamL kb nb (streamL kb nb l) = l := by
  apply ext_getD (by rw [streamL_length, streamL_length])
  intro i hi
  rw [streamL_length, streamL_length] at hi
  rw [stream_get _ _ _ _ (by rw [streamL_length]; exact hi), stream_get _ _ _ _ hi, BitVec.xor_assoc, BitVec.xor_self, BitVec.xor_zero]

/-- Open of what was sealed. -/
theorem open_seal (kb nb hb l : List (BitVec 8)) (vh v : Value) (w : World) (hk : kb.length = 32) (hn : nb.length = 12) (hhl : hb.length ≤ 70000) (hl : l.length ≤ 65536) (hvh : BytesAt w vh hb) (hv : BytesAt w v (sealL kb nb hb l)) (hT : Tabs w) :
    Calls Tryd.prog 18 #[.agg (kb.map v8).toArray, .agg (nb.map v8).toArray, vh, v] w fun e w' =>
      ∃ u, e = .returned (.tuple #[u, .int .i64 0]) ∧ w'.ownsRow w.heap.size 5 1 u l.length (l.map v8) ∧ Below w.heap.size w w' := by
  obtain ⟨p, c, rfl, hc, hp, hcell⟩ := hv
  have hsl := sealL_length kb nb hb l
  obtain ⟨g, o, rfl, hg⟩ := hcell (by omega)
  have h := open_mid kb nb hb (streamL kb nb l) (tag16 kb nb hb (streamL kb nb l)) vh g o c w hk hn hhl (by rw [streamL_length]; exact hl) (tag16_length _ _ _ _) (by rw [streamL_length]; omega) hvh (fun j hj => hg j (by rw [streamL_length] at hj; omega)) hT
  rw [streamL_length, stream_stream] at h
  rw [hsl]
  refine h.mono fun e w' h => ?_
  obtain ⟨u, h1, h2⟩ := h.2.1 rfl
  exact ⟨u, h1, h2, h.2.2⟩
/-- Whether bytes end with their tag. -/
def okO (kb nb hb cb : List (BitVec 8)) : Bool := decide (16 ≤ cb.length ∧ cb.length ≤ 65552 ∧ cb.drop (cb.length - 16) = tag16 kb nb hb (cb.take (cb.length - 16)))
theorem open_no (kb nb hb cb : List (BitVec 8)) (vh v : Value) (w : World) (hk : kb.length = 32) (hn : nb.length = 12) (hhl : hb.length ≤ 70000) (hl : cb.length ≤ 1000000) (hvh : BytesAt w vh hb) (hv : BytesAt w v cb) (hT : Tabs w) (hno : okO kb nb hb cb = false) :
    Calls Tryd.prog 18 #[.agg (kb.map v8).toArray, .agg (nb.map v8).toArray, vh, v] w fun e w' => e = .returned (.tuple #[.slice none 0 0, .int .i64 60]) ∧ Below w.heap.size w w' := by
  obtain ⟨p, c, rfl, hc, hp, hcell⟩ := hv
  by_cases hr : cb.length < 16 ∨ 65552 < cb.length
  · exact open_out _ _ vh p cb.length c hr hl w
  · have h16 : 16 ≤ cb.length := by omega
    obtain ⟨g, o, rfl, hg⟩ := hcell (by omega)
    have htl : (cb.take (cb.length - 16)).length = cb.length - 16 := by simp
    have h := open_mid kb nb hb (cb.take (cb.length - 16)) (cb.drop (cb.length - 16)) vh g o c w hk hn hhl (by rw [htl]; omega) (by simp; omega) (by rw [htl]; omega) hvh (fun j hj => by
      rw [List.take_append_drop]; exact hg j (by rw [htl] at hj; omega)) hT
    rw [htl, show cb.length - 16 + 16 = cb.length by omega] at h
    have hne : cb.drop (cb.length - 16) ≠ tag16 kb nb hb (cb.take (cb.length - 16)) := fun e => by
      simp only [okO, decide_eq_false_iff_not] at hno
      exact hno ⟨h16, by omega, e⟩
    exact h.mono fun e w' h => ⟨h.1 hne, h.2.2⟩
theorem open_yes (kb nb hb cb : List (BitVec 8)) (vh v : Value) (w : World) (hk : kb.length = 32) (hn : nb.length = 12) (hhl : hb.length ≤ 70000) (hl : cb.length ≤ 1000000) (hvh : BytesAt w vh hb) (hv : BytesAt w v cb) (hT : Tabs w) (hyes : okO kb nb hb cb = true) :
    Calls Tryd.prog 18 #[.agg (kb.map v8).toArray, .agg (nb.map v8).toArray, vh, v] w fun e w' =>
      ∃ u, e = .returned (.tuple #[u, .int .i64 0]) ∧ w'.ownsRow w.heap.size 5 1 u (cb.length - 16) ((streamL kb nb (cb.take (cb.length - 16))).map v8) ∧ Below w.heap.size w w' := by
  simp only [okO, decide_eq_true_eq] at hyes
  obtain ⟨h16, h2, h3⟩ := hyes
  obtain ⟨p, c, rfl, hc, hp, hcell⟩ := hv
  obtain ⟨g, o, rfl, hg⟩ := hcell (by omega)
  have htl : (cb.take (cb.length - 16)).length = cb.length - 16 := by simp
  have h := open_mid kb nb hb (cb.take (cb.length - 16)) (cb.drop (cb.length - 16)) vh g o c w hk hn hhl (by rw [htl]; omega) (by simp; omega) (by rw [htl]; omega) hvh (fun j hj => by
    rw [List.take_append_drop]; exact hg j (by rw [htl] at hj; omega)) hT
  rw [htl, show cb.length - 16 + 16 = cb.length by omega] at h
  refine h.mono fun e w' h => ?_
  obtain ⟨u, h4, h5⟩ := h.2.1 h3
  exact ⟨u, h4, h5, h.2.2⟩
theorem okO_seal (kb nb hb l : List (BitVec 8)) (hl : l.length ≤ 65536) : okO kb nb hb (sealL kb nb hb l) = true := by
  simp only [okO, decide_eq_true_eq]
  have h := sealL_length kb nb hb l
  have hs := streamL_length kb nb l
  refine ⟨by omega, by omega, ?_⟩
  have e : (sealL kb nb hb l).length - 16 = (streamL kb nb l).length := by omega
  rw [e, sealL, List.drop_left, List.take_left]

/-- The key of the examples. -/
def kfill : Nat → List (BitVec 8)
  | 0 => List.replicate 32 0
  | j + 1 => (kfill j).set j (BitVec.ofNat 8 j)
theorem kfill_length (j) : (kfill j).length = 32 := by induction j with
  | zero => simp [kfill]
  | succ j ih => simp [kfill, ih]
def n1S : List (BitVec 8) := [0, 0, 0, 9, 0, 0, 0, 0x4a, 0, 0, 0, 0]
def n0S : List (BitVec 8) := [0, 0, 0, 0, 0, 0, 0, 0, 0, 0, 0, 0]
theorem sane_block : (chaBlock (kfill 32) n1S 1).take 4 = [0x10, 0xf1, 0xe7, 0xe4] := by decide +kernel
def headS : List (BitVec 8) := [104, 101, 97, 100]
def bodyS : List (BitVec 8) := [98, 111, 100, 121]

theorem make_bytes (n : Nat) (hn : n ≤ 1000000) : ∃ Z : Array Value, (Z = ((List.replicate n (0 : BitVec 8)).map v8).toArray) ∧ ∀ w, (Instr.makeSlice 28 (.int .i64 (n : Int)) (.int .i64 (n : Int))).run Tryd.prog w = .ok (.slice (some ⟨w.heap.size, 0, none⟩) n n) (w.alloc (.cells Z 5)) := by
  obtain ⟨i0, hi0, hz0, hz1, hz2⟩ := info_parts info_u8d
  have hb : (i0.bytes : Int) * (n : Int) ≤ 281474976710656 := by rw [hz2]; omega
  refine ⟨madeCells (Value.int .u8 0).cells (n * 1), ?_, fun w => ?_⟩
  · apply Array.ext_getElem?
    intro i
    by_cases h : i < n
    · simp [madeCells, v8, Value.cells, h, Nat.mod_one]
    · simp [madeCells, h]
  · have h := run_make (P := Tryd.prog) w 28 5 i0 (.int .u8 0) Tryd.underlying28 hi0 hz0 .i64 .i64 (n : Int) (n : Int) (by omega) (by omega) hb (by omega)
    rw [hz1, Int.toNat_natCast] at h
    exact h
theorem bytes_lit {W : World} {g c : Nat} {fr : Nat × Nat} (l : List (BitVec 8)) (h : W.heap[g]? = some (.cells (l.map v8).toArray 5 fr)) (hc : l.length ≤ c) : BytesAt W (.slice (some ⟨g, 0, none⟩) l.length c) l :=
  ⟨_, c, rfl, hc, fun h => (by cases h), fun _ => ⟨g, 0, rfl, fun j hj => by rw [Nat.zero_add]; simp [World.cell?, h, hj, List.getD, v8]⟩⟩
theorem kc_at (w : World) (o : Obj) (C : Array Value) (n c : Nat) : (convert 28 28 (.slice (some ⟨w.heap.size + 1, 0, none⟩) n c)).run Tryd.prog ((w.alloc o).alloc (.cells C 5)) = .ok (.slice (some ⟨w.heap.size + 1, 0, none⟩) n c) ((w.alloc o).alloc (.cells C 5 (C.size, C.size + 1))) := by
  have h := Lib.run_convert_bytes_const (P := Tryd.prog) (w.alloc o) 28 5 C n c Tryd.underlying28 Tryd.underlying5
  rw [World.size_alloc] at h
  exact h
theorem str_body : strB bodyS = ⟨#[98, 111, 100, 121]⟩ := by rfl
theorem sane_ok (w : World) (hT : Tabs w) :
    Calls Tryd.prog 11 #[] w fun e w' => e = .returned (.bool true) ∧ Below w.heap.size w w' := by
  have HT := Lib.hid hT
  clear hT
  go_enter Tryd.func11, Tryd.ntmps11
  go_upto_region 2 with fail
  have hA : Arr8 (w.alloc (.cells (#[Value.int IntKind.u8 0, Value.int IntKind.u8 0, Value.int IntKind.u8 0, Value.int IntKind.u8 0, Value.int IntKind.u8 0, Value.int IntKind.u8 0, Value.int IntKind.u8 0, Value.int IntKind.u8 0, Value.int IntKind.u8 0, Value.int IntKind.u8 0, Value.int IntKind.u8 0, Value.int IntKind.u8 0, Value.int IntKind.u8 0, Value.int IntKind.u8 0, Value.int IntKind.u8 0, Value.int IntKind.u8 0, Value.int IntKind.u8 0, Value.int IntKind.u8 0, Value.int IntKind.u8 0, Value.int IntKind.u8 0, Value.int IntKind.u8 0, Value.int IntKind.u8 0, Value.int IntKind.u8 0, Value.int IntKind.u8 0, Value.int IntKind.u8 0, Value.int IntKind.u8 0, Value.int IntKind.u8 0, Value.int IntKind.u8 0, Value.int IntKind.u8 0, Value.int IntKind.u8 0, Value.int IntKind.u8 0, Value.int IntKind.u8 0]) 23)) w.heap.size 23 (kfill 0) := World.alloc_heap_new w _
  have hB : Below w.heap.size w (w.alloc (.cells (#[Value.int IntKind.u8 0, Value.int IntKind.u8 0, Value.int IntKind.u8 0, Value.int IntKind.u8 0, Value.int IntKind.u8 0, Value.int IntKind.u8 0, Value.int IntKind.u8 0, Value.int IntKind.u8 0, Value.int IntKind.u8 0, Value.int IntKind.u8 0, Value.int IntKind.u8 0, Value.int IntKind.u8 0, Value.int IntKind.u8 0, Value.int IntKind.u8 0, Value.int IntKind.u8 0, Value.int IntKind.u8 0, Value.int IntKind.u8 0, Value.int IntKind.u8 0, Value.int IntKind.u8 0, Value.int IntKind.u8 0, Value.int IntKind.u8 0, Value.int IntKind.u8 0, Value.int IntKind.u8 0, Value.int IntKind.u8 0, Value.int IntKind.u8 0, Value.int IntKind.u8 0, Value.int IntKind.u8 0, Value.int IntKind.u8 0, Value.int IntKind.u8 0, Value.int IntKind.u8 0, Value.int IntKind.u8 0, Value.int IntKind.u8 0]) 23)) := (Below.refl _ w).alloc (Nat.le_refl _) _
  obtain ⟨W1, hW1⟩ : ∃ W, W = w.alloc (.cells (#[Value.int IntKind.u8 0, Value.int IntKind.u8 0, Value.int IntKind.u8 0, Value.int IntKind.u8 0, Value.int IntKind.u8 0, Value.int IntKind.u8 0, Value.int IntKind.u8 0, Value.int IntKind.u8 0, Value.int IntKind.u8 0, Value.int IntKind.u8 0, Value.int IntKind.u8 0, Value.int IntKind.u8 0, Value.int IntKind.u8 0, Value.int IntKind.u8 0, Value.int IntKind.u8 0, Value.int IntKind.u8 0, Value.int IntKind.u8 0, Value.int IntKind.u8 0, Value.int IntKind.u8 0, Value.int IntKind.u8 0, Value.int IntKind.u8 0, Value.int IntKind.u8 0, Value.int IntKind.u8 0, Value.int IntKind.u8 0, Value.int IntKind.u8 0, Value.int IntKind.u8 0, Value.int IntKind.u8 0, Value.int IntKind.u8 0, Value.int IntKind.u8 0, Value.int IntKind.u8 0, Value.int IntKind.u8 0, Value.int IntKind.u8 0]) 23) := ⟨_, rfl⟩
  rw [← hW1] at hA hB ⊢
  have HA := Lib.hid hA
  have HB := Lib.hid hB
  clear hA hB hW1
  go_wp2_with fail
  go_loopw [15] (fun t' wr => ∃ j : Nat, t' = .int .i64 j ∧ j ≤ 32 ∧ Hid (Arr8 wr w.heap.size 23 (kfill j)) ∧ Hid (OnlyAt w.heap.size W1 wr)) (fun t' _ => (32 - intOf t').toNat)
  case atStart => exact ⟨0, rfl, by omega, HA, OnlyAt.refl _ _⟩
  case round =>
    obtain ⟨j, rfl, hj, HAj, HOj⟩ := hrel
    by_cases hlt : j < 32
    · have hd : decide ((j : Int) < 32) = true := by simp; omega
      have c := HAj.out.cell (i := j) (by rw [kfill_length]; omega)
      have f := HAj.out.frozen j
      go_wp2
      refine ⟨⟨j + 1, by go_num, by omega, ?_, HOj.out.trans (OnlyAt.setCell _ _ _ _)⟩, by simp [intOf]; omega⟩
      have h := HAj.out.set j (BitVec.ofNat 8 j)
      have e : ((BitVec.ofNat 8 j).toNat : Int) = (j : Int) := by rw [BitVec.toNat_ofNat]; omega
      rw [e] at h
      exact h
    · have hd : decide ((j : Int) < 32) = false := by simp; omega
      have hj32 : j = 32 := by omega
      have hk0 : wr.heap[w.heap.size]? = some (.cells ((kfill 32).map v8).toArray 23 (0, 0)) := by
        have h := HAj.out
        rw [hj32] at h
        exact h
      have hb0 : Below w.heap.size w wr := HB.out.trans (HOj.out.below (Nat.le_refl _))
      clear hj32 HAj HOj
      have hBlk : ∀ W, ConstTab W → Calls Tryd.prog 12 #[.agg ((kfill 32).map v8).toArray, .agg #[Value.int .u8 0, Value.int .u8 0, Value.int .u8 0, Value.int .u8 9, Value.int .u8 0, Value.int .u8 0, Value.int .u8 0, Value.int .u8 74, Value.int .u8 0, Value.int .u8 0, Value.int .u8 0, Value.int .u8 0], .int .i64 1] W fun e w' =>
          ∃ g c, e = .returned (.tuple #[.slice (some ⟨g, 0, none⟩) 64 c, .int .i64 0]) ∧ Hid (BytesAt w' (.slice (some ⟨g, 0, none⟩) 64 c) (chaBlock (kfill 32) n1S 1)) ∧ Below W.heap.size W w' := fun W h => by
        refine (Block_ok (kfill 32) n1S 1 W (kfill_length _) rfl h).mono ?_
        rintro e w' ⟨v, rfl, hown, hB⟩
        obtain ⟨p, c, rfl, h1, h2⟩ := own_form hown
        obtain ⟨g, rfl, _⟩ := h2 (by decide)
        exact ⟨g, c, rfl, BytesAt.of_own (B := W.heap.size) (by rw [chaBlock_length]; exact hown), hB⟩
      have hBad : ∀ W, Calls Tryd.prog 12 #[.agg ((kfill 32).map v8).toArray, .agg #[Value.int .u8 0, Value.int .u8 0, Value.int .u8 0, Value.int .u8 0, Value.int .u8 0, Value.int .u8 0, Value.int .u8 0, Value.int .u8 0, Value.int .u8 0, Value.int .u8 0, Value.int .u8 0, Value.int .u8 0], .int .i64 (-1)] W fun e w' => e = .returned (.tuple #[.slice none 0 0, .int .i64 1]) ∧ Below W.heap.size W w' := fun W =>
        Block_bad _ _ (-1) (.inl (by decide)) W
      have hStr : ∀ W, ConstTab W → Calls Tryd.prog 14 #[.agg ((kfill 32).map v8).toArray, .agg #[Value.int .u8 0, Value.int .u8 0, Value.int .u8 0, Value.int .u8 0, Value.int .u8 0, Value.int .u8 0, Value.int .u8 0, Value.int .u8 0, Value.int .u8 0, Value.int .u8 0, Value.int .u8 0, Value.int .u8 0], .slice none 0 0] W fun e w' =>
          ∃ p c, e = .returned (.tuple #[.slice p 0 c, .int .i64 0]) ∧ Below W.heap.size W w' := fun W h => by
        refine (stream_ok (kfill 32) n0S [] (.slice none 0 0) W (kfill_length _) rfl (by decide) ⟨none, 0, rfl, Nat.le_refl _, fun _ => rfl, fun h => (by cases h)⟩ h).mono ?_
        rintro e w' ⟨u, rfl, hown, hB⟩
        obtain ⟨p, c, rfl, h1, h2⟩ := own_form hown
        exact ⟨p, c, rfl, hB⟩
      have hOut : ∀ g W, Calls Tryd.prog 18 #[.agg ((kfill 32).map v8).toArray, .agg #[Value.int .u8 0, Value.int .u8 0, Value.int .u8 0, Value.int .u8 0, Value.int .u8 0, Value.int .u8 0, Value.int .u8 0, Value.int .u8 0, Value.int .u8 0, Value.int .u8 0, Value.int .u8 0, Value.int .u8 0], .slice none 0 0, .slice (some ⟨g, 0, none⟩) 15 15] W fun e w' => e = .returned (.tuple #[.slice none 0 0, .int .i64 60]) ∧ Below W.heap.size W w' := fun g W =>
        open_out _ _ _ _ 15 15 (.inl (by decide)) (by decide) W
      have hSeal : ∀ g1 c1 g2 c2 W, BytesAt W (.slice (some ⟨g1, 0, none⟩) 4 c1) headS → BytesAt W (.slice (some ⟨g2, 0, none⟩) 4 c2) bodyS → Tabs W →
          Calls Tryd.prog 16 #[.agg ((kfill 32).map v8).toArray, .agg #[Value.int .u8 0, Value.int .u8 0, Value.int .u8 0, Value.int .u8 0, Value.int .u8 0, Value.int .u8 0, Value.int .u8 0, Value.int .u8 0, Value.int .u8 0, Value.int .u8 0, Value.int .u8 0, Value.int .u8 0], .slice (some ⟨g1, 0, none⟩) 4 c1, .slice (some ⟨g2, 0, none⟩) 4 c2] W fun e w' =>
          ∃ p c, e = .returned (.tuple #[.slice p 20 c, .int .i64 0]) ∧ Hid (BytesAt w' (.slice p 20 c) (sealL (kfill 32) n0S headS bodyS)) ∧ Below W.heap.size W w' := fun g1 c1 g2 c2 W h1 h2 hT => by
        refine (seal_ok (kfill 32) n0S headS bodyS _ _ W (kfill_length _) rfl (by decide) (by decide) h1 h2 hT).mono ?_
        rintro e w' ⟨u, rfl, hown, hB⟩
        obtain ⟨p, c, rfl, h1, h2⟩ := own_form hown
        exact ⟨p, c, rfl, BytesAt.of_own (B := W.heap.size) (by rw [sealL_length]; exact hown), hB⟩
      have hOpen : ∀ g1 c1 p2 c2 W, BytesAt W (.slice (some ⟨g1, 0, none⟩) 4 c1) headS → BytesAt W (.slice p2 20 c2) (sealL (kfill 32) n0S headS bodyS) → Tabs W →
          Calls Tryd.prog 18 #[.agg ((kfill 32).map v8).toArray, .agg #[Value.int .u8 0, Value.int .u8 0, Value.int .u8 0, Value.int .u8 0, Value.int .u8 0, Value.int .u8 0, Value.int .u8 0, Value.int .u8 0, Value.int .u8 0, Value.int .u8 0, Value.int .u8 0, Value.int .u8 0], .slice (some ⟨g1, 0, none⟩) 4 c1, .slice p2 20 c2] W fun e w' =>
          ∃ p c, e = .returned (.tuple #[.slice p 4 c, .int .i64 0]) ∧ Hid (BytesAt w' (.slice p 4 c) bodyS) ∧ Below W.heap.size W w' := fun g1 c1 p2 c2 W h1 h2 hT => by
        refine (open_seal (kfill 32) n0S headS bodyS _ _ W (kfill_length _) rfl (by decide) (by decide) h1 h2 hT).mono ?_
        rintro e w' ⟨u, rfl, hown, hB⟩
        obtain ⟨p, c, rfl, h1, h2⟩ := own_form hown
        exact ⟨p, c, rfl, BytesAt.of_own (B := W.heap.size) hown, hB⟩
      have HBlk := Lib.hid hBlk
      have HBad := Lib.hid hBad
      have HStr := Lib.hid hStr
      have HOut := Lib.hid hOut
      have HSeal := Lib.hid hSeal
      have HOpen := Lib.hid hOpen
      clear hBlk hBad hStr hOut hSeal hOpen
      have hks : ((kfill 32).map v8).length = 32 := by rw [List.length_map, kfill_length]
      obtain ⟨kl, hkl⟩ : ∃ kl, kl = (kfill 32).map v8 := ⟨_, rfl⟩
      rw [← hkl] at hk0 hks HBlk HBad HStr HOut HSeal HOpen
      clear hkl
      have HK0 := Lib.hid hk0
      have HKS := Lib.hid hks
      have HB0 := Lib.hid hb0
      clear hk0 hks hb0
      have hsb := sane_block
      have hcl := chaBlock_length (kfill 32) n1S 1
      generalize chaBlock (kfill 32) n1S 1 = blk at HBlk hsb hcl
      generalize sealL (kfill 32) n0S headS bodyS = sl at HSeal HOpen
      have HSB := Lib.hid hsb
      have HCL := Lib.hid hcl
      clear hsb hcl
      have hgl : w.heap.size < wr.heap.size := (Array.getElem?_eq_some_iff.1 HK0.out).1
      go_upto_region 7 with fail
      refine wp_region_lit ?_
      refine wpList_load_row rfl 23 _ rfl w.heap.size rfl 23 kl.toArray (0, 0) _ HK0.out Tryd.underlying23 rfl (by rw [List.size_toArray, HKS.out]; rfl) ?_
      go_wp2_with fail
      refine (HBlk.out _ (HT.out.below HB0.out).const).mono ?_
      rintro e w1 ⟨gb, cb, rfl, HBY1, hB1⟩
      have HK1 := Lib.hid ((hB1.block _ hgl).trans HK0.out)
      have HB1 := Lib.hid (HB0.out.trans (hB1.mono HB0.out.size))
      clear hB1
      go_upto_region 8 with fail
      refine wp_region_lit ?_
      refine wpList_load_row rfl 23 _ rfl w.heap.size rfl 23 kl.toArray (0, 0) _ HK1.out Tryd.underlying23 rfl (by rw [List.size_toArray, HKS.out]; rfl) ?_
      go_wp2_with fail
      refine (HBad.out _).mono ?_
      rintro e w2 ⟨rfl, hB2⟩
      have HK2 := Lib.hid ((hB2.block _ (Array.getElem?_eq_some_iff.1 HK1.out).1).trans HK1.out)
      have HBY2 := Lib.hid (HBY1.out.below hB2)
      have HB2 := Lib.hid (HB1.out.trans (hB2.mono HB1.out.size))
      clear hB2 HK1 HB1 HBY1
      go_upto_region 9 with fail
      refine wp_region_lit ?_
      refine wpList_load_row rfl 23 _ rfl w.heap.size rfl 23 kl.toArray (0, 0) _ HK2.out Tryd.underlying23 rfl (by rw [List.size_toArray, HKS.out]; rfl) ?_
      go_wp2_with fail
      refine (HStr.out _ (HT.out.below HB2.out).const).mono ?_
      rintro e w3 ⟨pc, cc, rfl, hB3⟩
      have HK3 := Lib.hid ((hB3.block _ (Array.getElem?_eq_some_iff.1 HK2.out).1).trans HK2.out)
      have HBY3 := Lib.hid (HBY2.out.below hB3)
      have HB3 := Lib.hid (HB2.out.trans (hB3.mono HB2.out.size))
      clear hB3 HK2 HB2 HBY2
      go_upto_region 10 with fail
      have hrk3 : w3.drew.rangeAt w.heap.size 0 kl := range_new (t := 23) HK3.out
      have hu23 := Tryd.underlying23
      have hi23 : (Tryd.prog.info? 23).map (·.size) = some kl.length := by rw [HKS.out]; kernel_rfl
      obtain ⟨Z, -, hmk0⟩ := make_bytes 15 (by decide)
      have hmk : ∀ w, (Instr.makeSlice 28 (.int .i64 15) (.int .i64 15)).run Tryd.prog w = .ok (.slice (some ⟨w.heap.size, 0, none⟩) 15 15) (w.alloc (.cells Z 5)) := hmk0
      clear hmk0
      go_region_held3 (fun w' => w'.rangeAt w.heap.size 0 kl) (first | exact hrk3 | exact World.rangeAt_alloc hrk3 _ | exact range_below (World.rangeAt_alloc hrk3 _) hB4) (first
        | (go_at_call 18; refine (HOut.out _ _).mono ?_; rintro e w4 ⟨rfl, hB4⟩))
      have h34 : Below w3.heap.size w3 w4 := by
        first
          | exact Below.tr (Below.al (Below.dr (Below.refl _ _)) _) hB4
          | exact Below.tr (Below.dr (Below.al (Below.refl _ _) _)) hB4
      have HK4 := Lib.hid ((h34.block _ (Array.getElem?_eq_some_iff.1 HK3.out).1).trans HK3.out)
      have HBY4 := Lib.hid (HBY3.out.below h34)
      have HB4 := Lib.hid (HB3.out.trans (h34.mono HB3.out.size))
      clear hB4 h34 HK3 HB3 HBY3 hrk3 hmk hu23 hi23
      go_upto_region 11 with fail
      refine wp_region_lit ?_
      refine wpList_load_row rfl 23 _ rfl w.heap.size rfl 23 kl.toArray (0, 0) _ HK4.out Tryd.underlying23 rfl (by rw [List.size_toArray, HKS.out]; rfl) ?_
      have kc1 := fun (C : Array Value) (n c : Nat) => Lib.run_convert_bytes_const (P := Tryd.prog) w4 28 5 C n c Tryd.underlying28 Tryd.underlying5
      have kc2 := kc_at w4
      go_wp2_with fail
      clear kc1 kc2
      have hB5 : Below w4.heap.size w4 ((w4.alloc (.cells #[.int .u8 104, .int .u8 101, .int .u8 97, .int .u8 100] 5 (4, 5))).alloc (.cells #[.int .u8 98, .int .u8 111, .int .u8 100, .int .u8 121] 5 (4, 5))) := Below.al (Below.al (Below.refl _ _) _) _
      have hh5 : BytesAt ((w4.alloc (.cells #[.int .u8 104, .int .u8 101, .int .u8 97, .int .u8 100] 5 (4, 5))).alloc (.cells #[.int .u8 98, .int .u8 111, .int .u8 100, .int .u8 121] 5 (4, 5))) (.slice (some ⟨w4.heap.size, 0, none⟩) 4 4) headS :=
        bytes_lit (fr := (4, 5)) headS ((Below.heap_alloc _ _ _ (by simp)).trans (World.alloc_heap_new w4 _)) (by decide)
      have hb5 : BytesAt ((w4.alloc (.cells #[.int .u8 104, .int .u8 101, .int .u8 97, .int .u8 100] 5 (4, 5))).alloc (.cells #[.int .u8 98, .int .u8 111, .int .u8 100, .int .u8 121] 5 (4, 5))) (.slice (some ⟨w4.heap.size + 1, 0, none⟩) 4 4) bodyS :=
        bytes_lit (fr := (4, 5)) bodyS (alloc_new2 w4 _ _) (by decide)
      refine (HSeal.out _ _ _ _ _ hh5 hb5 (HT.out.below (HB4.out.trans (hB5.mono HB4.out.size)))).mono ?_
      rintro e w5 ⟨ps, cs, rfl, HSL5, hB6⟩
      have h45 : Below w4.heap.size w4 w5 := Below.tr hB5 hB6
      have HK5 := Lib.hid ((h45.block _ (Array.getElem?_eq_some_iff.1 HK4.out).1).trans HK4.out)
      have HBY5 := Lib.hid (HBY4.out.below h45)
      have HB5 := Lib.hid (HB4.out.trans (h45.mono HB4.out.size))
      clear hB5 hh5 hb5 hB6 h45 HK4 HB4 HBY4
      go_upto_region 12 with fail
      refine wp_region_lit ?_
      refine wpList_load_row rfl 23 _ rfl w.heap.size rfl 23 kl.toArray (0, 0) _ HK5.out Tryd.underlying23 rfl (by rw [List.size_toArray, HKS.out]; rfl) ?_
      have kc1 := fun (C : Array Value) (n c : Nat) => Lib.run_convert_bytes_const (P := Tryd.prog) w5 28 5 C n c Tryd.underlying28 Tryd.underlying5
      go_wp2_with fail
      clear kc1
      have hB6 : Below w5.heap.size w5 (w5.alloc (.cells #[.int .u8 104, .int .u8 101, .int .u8 97, .int .u8 100] 5 (4, 5))) := Below.al (Below.refl _ _) _
      have hh6 : BytesAt (w5.alloc (.cells #[.int .u8 104, .int .u8 101, .int .u8 97, .int .u8 100] 5 (4, 5))) (.slice (some ⟨w5.heap.size, 0, none⟩) 4 4) headS :=
        bytes_lit (fr := (4, 5)) headS (World.alloc_heap_new w5 _) (by decide)
      refine (HOpen.out _ _ _ _ _ hh6 (HSL5.out.below hB6) (HT.out.below (HB5.out.trans (hB6.mono HB5.out.size)))).mono ?_
      rintro e w6 ⟨px, cx, rfl, HX6, hB7⟩
      have h56 : Below w5.heap.size w5 w6 := Below.tr hB6 hB7
      have hby := HBY5.out.below h56
      have HB6 := Lib.hid (HB5.out.trans (h56.mono HB5.out.size))
      have hcv := conv_ok HX6.out
      rw [str_body] at hcv
      obtain ⟨p6, c6, he6, _, _, hcc⟩ := hby
      obtain ⟨g6, o6, hp6, hcells⟩ := hcc (by rw [HCL.out]; decide)
      rw [hp6, HCL.out] at he6
      obtain ⟨rfl, rfl, rfl⟩ : gb = g6 ∧ o6 = 0 ∧ cb = c6 := by
        have := he6
        simp only [Value.slice.injEq, Option.some.injEq, Addr.mk.injEq] at this
        exact ⟨this.1.1, this.1.2.1.symm, this.2.2⟩
      have hb4 : blk.getD 0 0 = 0x10 ∧ blk.getD 1 0 = 0xf1 ∧ blk.getD 2 0 = 0xe7 ∧ blk.getD 3 0 = 0xe4 := by
        have h := HSB.out
        match blk, HCL.out with
        | a0 :: a1 :: a2 :: a3 :: rest, _ =>
          simp at h
          obtain ⟨rfl, rfl, rfl, rfl⟩ := h
          exact ⟨rfl, rfl, rfl, rfl⟩
      have c0 : w6.cell? ⟨gb, 0, none⟩ = some (.int .u8 16) := by have h := hcells 0 (by rw [HCL.out]; decide); rw [hb4.1] at h; exact h
      have c1 : w6.cell? ⟨gb, 1, none⟩ = some (.int .u8 241) := by have h := hcells 1 (by rw [HCL.out]; decide); rw [hb4.2.1] at h; exact h
      have c2 : w6.cell? ⟨gb, 2, none⟩ = some (.int .u8 231) := by have h := hcells 2 (by rw [HCL.out]; decide); rw [hb4.2.2.1] at h; exact h
      have c3 : w6.cell? ⟨gb, 3, none⟩ = some (.int .u8 228) := by have h := hcells 3 (by rw [HCL.out]; decide); rw [hb4.2.2.2] at h; exact h
      clear hB6 hh6 hB7 h56 HK5 HB5 HBY5 HSL5 HX6 he6 hcc hcells hp6 hb4 HSB HCL
      go_wp2
      go_ret
      exact ⟨rfl, HB6.out⟩
end Go.Proofs.YtklaancgnfkjlaaDoor
