/- Contracts of package paths, part 2: parent, sibling, up, along, Path, Copath. -/
import Derived.Test.YtekdekchbnacgaaPa
import Derived.Test.YtekdekchbnacgaaRf
import Derived.Test.YtekdekchbnacgaaRg
import Derived.RangeFuncNested
import Derived.RangeFuncBound
import Derived.RangeFuncCalls
import Derived.RangeFuncLeaves
import Derived.Shelf.Abstract
import Derived.Shelf.RegionOpen
import Derived.WalkKit
import Derived.OwnWalkIn
import Derived.TacticsInMore
import Derived.LoopNIn
import Derived.LoopIn
import Derived.Maps.AppendAt
import Derived.Lib.Hide
import Derived.Deep.AppendLies
namespace Go.Proofs.Ytekdekchbnacgaa
open Go.RowKit Go.Shelf
attribute [local go_sem] Oper.semAt_some

theorem parent_any (n : Nat) (h : n < 4611686018427387904) (w : World) :
    Calls Try.prog 53 #[.int .i64 n] w fun e w' => e = .returned (.int .i64 (n / 2 : Nat)) ∧ w = w' := by
  go_enter Try.func53, Try.ntmps53
  go_wp2
  go_ret
  exact ⟨rfl, rfl⟩

/-- The list of a node and the nodes above it, without the root. -/
def upL : Nat → Nat → List Nat
  | 0, _ => []
  | k + 1, n => if n > 1 then n :: upL k (n / 2) else []

theorem upL_le : ∀ (k n : Nat), ∀ x ∈ upL k n, x ≤ n
  | 0, _, x, h => by simp [upL] at h
  | k + 1, n, x, h => by
    unfold upL at h
    split at h
    · rcases List.mem_cons.1 h with rfl | h
      · omega
      · have := upL_le k (n / 2) x h; omega
    · simp at h
theorem upL_length : ∀ (k n : Nat), (upL k n).length ≤ k
  | 0, _ => by simp [upL]
  | k + 1, n => by
    unfold upL
    split
    · have := upL_length k (n / 2); simp; omega
    · simp
theorem upL_nine (d : Nat) (hd : d < 512) : (upL 10 (512 + d)).length = 8 + 1 := by
  have h : ∀ d : Fin 512, (upL 10 (512 + d.val)).length = 8 + 1 := by decide +kernel
  exact h ⟨d, hd⟩

theorem upL_pre (k n : Nat) (hn : n < 1024) {pre : List Nat} {x : Nat} (h : pre ++ [x] <+: upL k n) : x < 1024 ∧ pre.length < k := by
  have h1 := upL_le k n x (h.subset (by simp))
  have h2 := h.length_le
  have h3 := upL_length k n
  simp at h2
  omega

theorem up_any (n : Int) (w : World) :
    Calls Try.prog 68 #[.int .i64 n] w fun e w' => e = .returned (.func (.func 85) #[] #[.pointer (some ⟨w.heap.size, 0, none⟩)]) ∧ w' = w.alloc (.cells #[.int .i64 n] 77) := by
  go_enter Try.func68, Try.ntmps68
  go_wp2
  go_ret
  exact ⟨rfl, rfl⟩

def cellNat (w : World) (b : Nat) : Nat := (intOf ((w.cell? ⟨b, 0, none⟩).getD (.int .i64 0))).toNat
theorem cellNat_boxed {w : World} {b : Nat} {t : TypeId} {m : Nat} (h : Boxed w b t (.int .i64 m)) : cellNat w b = m := by
  unfold cellNat; rw [h.cell]; simp [intOf]

theorem upL_big {j m : Nat} (h : 1 < m) (hj : m < 2 ^ j) : ∃ i, j = i + 1 ∧ upL j m = m :: upL i (m / 2) ∧ m / 2 < 2 ^ i := by
  cases j with
  | zero => simp at hj; omega
  | succ i => exact ⟨i, rfl, by simp [upL, h], by rw [Nat.pow_succ] at hj; omega⟩
theorem upL_small {j m : Nat} (h : m ≤ 1) : upL j m = [] := by
  cases j with
  | zero => rfl
  | succ i => simp [upL]; omega

set_option maxRecDepth 100000 in
set_option maxHeartbeats 1000000 in
theorem up1_iter (n k : Nat) (hn : n < 4611686018427387904) (hk : n < 2 ^ k) (b : Nat) (w : World) (hb : Boxed w b 77 (.int .i64 n)) :
    IterC Try.prog 85 #[.pointer (some ⟨b, 0, none⟩)] (fun m : Nat => #[.int .i64 (m : Int)]) (· = b) 0 (fun xs => xs = upL k n) (fun _ => True) (fun ys => ys <+: upL k n) w := by
  intro l J Jx W hW hJ hJx hY h0
  have hbW : Boxed W b 77 (.int .i64 n) := (hW.block b hb.lt).trans hb
  refine (callsIn_wide (n := 0)).1 ?_
  refine callsIn_of_wp Try.func85 rfl trivial ?_ rfl
  simp only [Try.ntmps85, List.size_toArray, List.length_cons, List.length_nil, Nat.reduceAdd, Nat.reduceSub, Array.replicate_succ, Array.replicate_zero, List.push_toArray, List.append_toArray, List.nil_append, List.cons_append]
  gi_wp2
  gi_loopw [] (fun wr => W.heap.size ≤ wr.heap.size ∧ ∃ (pre : List Nat) (j m : Nat), pre.length + j = k ∧ m < 2 ^ j ∧ m < 4611686018427387904 ∧ pre ++ upL j m = upL k n ∧ J pre (· = b) wr ∧ Boxed wr b 77 (.int .i64 m))
    (fun wr => cellNat wr b)
  case atStart =>
    exact ⟨Nat.le_refl _, [], k, n, by simp, hk, hn, rfl, h0, hbW⟩
  case round =>
    obtain ⟨hsz, pre, j, m, hpj, hm, hm62, hpre, hJs, hbx⟩ := hrel
    have hc := hbx.cell
    have hf := hbx.frozen
    by_cases h1 : 1 < m
    · obtain ⟨i, rfl, hul, hmi⟩ := upL_big h1 hm
      obtain ⟨fn, tmps, assign, body, hy, hR⟩ := hY pre m (· = b) wr hJs (by rintro _ rfl; exact hbx.lt) ⟨upL i (m / 2), by rw [← hpre, hul]; simp⟩
      have HX : Hid (pre ++ upL (i + 1) m = upL k n) := hpre
      have HU : Hid (upL (i + 1) m = m :: upL i (m / 2)) := hul
      clear hpre hul hY h0 hJx hW
      have HJ : Hid (Stable W.heap.size J) := hJ
      clear hJ
      gi_wp2
      refine ⟨rfl, hR.mono ?_⟩
      rintro e W3 (⟨rfl, hJ3, hB3, hk3⟩ | ⟨rfl, hJx3, hB3, hk3⟩)
      · have hb3 : Boxed W3 b 77 (.int .i64 m) := (hk3 b rfl).trans hbx
        have hc3 := hb3.cell
        have hf3 := hb3.frozen
        have hs3 := hB3.size
        clear hk3 hB3 hR hy
        gi_wp2_with fail
        refine ⟨trivial, rfl, (callsIn_wide.2 (parent_any _ (by omega) _)).mono ?_⟩
        rintro e w' ⟨rfl, rfl⟩
        gi_wp2
        go_roundw
        case rel =>
          refine ⟨by simpa using Nat.le_trans hsz hs3, pre ++ [m], i, m / 2, by simp; omega, hmi, by omega, by rw [← HX.out, HU.out]; simp, HJ.out.keep hJ3 ?_, hb3.set _⟩
          exact ⟨rfl, rfl, rfl, by simp, fun k _ hne => .inl (Below.heap_setCell _ _ _ _ hne)⟩
        case measure =>
          have e1 : cellNat (W3.setCell ⟨b, 0, none⟩ (.int .i64 ((m : Int) / 2))) b = m / 2 := cellNat_boxed (m := m / 2) (hb3.set _)
          rw [e1, cellNat_boxed hbx]; omega
      · gi_wp2
        refine bodyPost_end (results_none rfl _ _ _) rfl ?_
        exact ⟨⟨_, rfl⟩, .inr ⟨_, _, trivial, hJx3⟩⟩
    · have HX : Hid (pre ++ upL j m = upL k n) := hpre
      clear hpre hY h0 hJ hJx hW
      gi_wp2
      refine ⟨fun _ h => (by cases h), ?_⟩
      gi_wp2
      refine bodyPost_end (results_none rfl _ _ _) rfl ?_
      exact ⟨⟨_, rfl⟩, .inl ⟨_, _, by rw [← HX.out, upL_small (by omega), List.append_nil], hJs⟩⟩

/-- What along computes of a node: the node above it; its sibling. -/
def parN (n : Nat) : Nat := n / 2
def sibN (n : Nat) : Nat := n ^^^ 1

theorem parent_par (n : Nat) (h : n < 1024) (w : World) :
    Calls Try.prog 53 #[.int .i64 n] w fun e w' => e = .returned (.int .i64 (parN n : Nat)) ∧ w = w' :=
  parent_any n (by omega) w

theorem bits_xor_nat (k : IntKind) (j : Nat) (hj : j ≤ k.bits) (hk : ∀ n : Int, 0 ≤ n → n < 2 ^ j → k.wrap n = n) (a b : Nat) (ha : a < 2 ^ j) (hb : b < 2 ^ j) :
    bits .xor k a b = ((a ^^^ b : Nat) : Int) := by
  have hp : 2 ^ j ≤ 2 ^ k.bits := Nat.pow_le_pow_right (by decide) hj
  have ha' : a % 2 ^ k.bits = a := Nat.mod_eq_of_lt (Nat.lt_of_lt_of_le ha hp)
  have hb' : b % 2 ^ k.bits = b := Nat.mod_eq_of_lt (Nat.lt_of_lt_of_le hb hp)
  have hx : a ^^^ b < 2 ^ j := Nat.xor_lt_two_pow ha hb
  simp only [bits, BitVec.ofInt_natCast, BitVec.toNat_xor, BitVec.toNat_ofNat, ha', hb']
  exact hk _ (Int.natCast_nonneg _) (by exact_mod_cast hx)

theorem xor_one (n : Nat) (h : n < 1024) : bits .xor .i64 (n : Int) 1 = ((sibN n : Nat) : Int) :=
  bits_xor_nat .i64 10 (by decide) (fun n h0 h1 => IntWalk.i64_in n (by omega)) n 1 (by omega) (by omega)

theorem sibling_sib (n : Nat) (h : n < 1024) (w : World) :
    Calls Try.prog 57 #[.int .i64 n] w fun e w' => e = .returned (.int .i64 (sibN n : Nat)) ∧ w = w' := by
  go_enter Try.func57, Try.ntmps57
  go_wp2
  go_ret
  exact ⟨by rw [xor_one n h]; rfl, rfl⟩

/-- A list of numbers as cells; a path, a copath. -/
def iv (l : List Nat) : List Value := l.map fun n : Nat => Value.int .i64 (n : Int)
def pathN (d : Nat) : List Nat := (upL 10 (512 + d)).map parN
def copN (d : Nat) : List Nat := (upL 10 (512 + d)).map sibN
theorem iv_path (d : Nat) : iv (pathN d) = (upL 10 (512 + d)).map fun n => Value.int .i64 (parN n : Nat) := by simp [iv, pathN, Function.comp_def]
theorem iv_cop (d : Nat) : iv (copN d) = (upL 10 (512 + d)).map fun n => Value.int .i64 (sibN n : Nat) := by simp [iv, copN, Function.comp_def]

/-- A slice value reads as a list of cells (elements of one cell each). -/
def SliceAt (w : World) (v : Value) (xs : List Value) : Prop :=
  (v = .slice none 0 0 ∧ xs = []) ∨ ∃ b off cap, v = .slice (some ⟨b, off, none⟩) xs.length cap ∧ ∀ j u, xs[j]? = some u → w.cell? ⟨b, off + j, none⟩ = some u

theorem SliceAt.of_row {w : World} {base : Nat} {e : TypeId} {v : Value} {n : Nat} {xs : List Value} (h : w.ownsRow base e 1 v n xs) : SliceAt w v xs := by
  have hl : xs.length = n := by simpa using h.1
  rcases h.2 with ⟨rfl, h0⟩ | ⟨g, cap, cur, rfl, hb, hg, hn, hm, hs, ht⟩
  · exact .inl ⟨rfl, List.length_eq_zero_iff.1 (by omega)⟩
  · refine .inr ⟨g, 0, cap, by rw [hl], fun j u hj => ?_⟩
    have := h.cells (g := g) rfl j u hj
    unfold Addr.add at this
    split at this
    · rename_i h0; subst h0; simpa using this
    · simpa using this

theorem SliceAt.below {w w' : World} {v : Value} {xs : List Value} (h : SliceAt w v xs) (hB : Below w.heap.size w w') : SliceAt w' v xs := by
  rcases h with h | ⟨b, off, cap, rfl, hc⟩
  · exact .inl h
  · refine .inr ⟨b, off, cap, rfl, fun j u hj => ?_⟩
    have h1 := hc j u hj
    rw [hB.cell (p := ⟨b, off + j, none⟩) (World.block_lt_of_cell? w ⟨b, off + j, none⟩ h1)]
    exact h1
end Go.Proofs.Ytekdekchbnacgaa
