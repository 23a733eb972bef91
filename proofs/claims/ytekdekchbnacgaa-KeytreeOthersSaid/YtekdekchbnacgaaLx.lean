/- Keytree, plain: what a resolution reaches. -/
import Derived.Test.YtekdekchbnacgaaLt
import Derived.Test.YtekdekchbnacgaaPq
import Derived.Test.YtekdekchbnacgaaLr
namespace Go.Proofs.Ytekdekchbnacgaa
open Go.RowKit
set_option maxRecDepth 100000
set_option linter.unusedVariables false
set_option linter.unusedSimpArgs false

theorem hgt_uniq {n h : Nat} (h1 : 512 ≤ n * 2 ^ h) (h2 : n * 2 ^ h < 1024) : hgt n = h := by
  have hn0 : 1 ≤ n := by
    rcases Nat.eq_zero_or_pos n with h0 | h0
    · rw [h0] at h1; omega
    · exact h0
  have hn1 : n < 1024 := by
    have : n * 1 ≤ n * 2 ^ h := Nat.mul_le_mul_left _ Nat.one_le_two_pow
    omega
  obtain ⟨a, b⟩ := hgt_ok hn0 hn1
  rcases Nat.lt_trichotomy (hgt n) h with c | c | c
  · have : n * 2 ^ (hgt n + 1) ≤ n * 2 ^ h := Nat.mul_le_mul_left _ (Nat.pow_le_pow_right (by decide) c)
    rw [Nat.pow_succ, ← Nat.mul_assoc] at this
    omega
  · exact c
  · have : n * 2 ^ (h + 1) ≤ n * 2 ^ hgt n := Nat.mul_le_mul_left _ (Nat.pow_le_pow_right (by decide) c)
    rw [Nat.pow_succ, ← Nat.mul_assoc] at this
    omega
theorem lev_hgt {n : Nat} (h0 : 1 ≤ n) (h1 : n < 1024) : levN n = hgt n := by
  obtain ⟨a, b, c⟩ := under_bd n h0 h1
  refine (hgt_uniq a ?_).symm
  have : (n + 1) * 2 ^ levN n = n * 2 ^ levN n + 2 ^ levN n := by rw [Nat.add_mul, Nat.one_mul]
  have : 0 < 2 ^ levN n := Nat.two_pow_pos _
  omega
theorem fro_at {n h : Nat} (h1 : 512 ≤ n * 2 ^ h) (h2 : n * 2 ^ h < 1024) : 1 ≤ n ∧ n < 1024 ∧ froN n = n * 2 ^ h - 512 ∧ toN n = (n + 1) * 2 ^ h - 512 := by
  have hn0 : 1 ≤ n := by
    rcases Nat.eq_zero_or_pos n with h0 | h0
    · rw [h0] at h1; omega
    · exact h0
  have hn1 : n < 1024 := by
    have : n * 1 ≤ n * 2 ^ h := Nat.mul_le_mul_left _ Nat.one_le_two_pow
    omega
  have e : levN n = h := (lev_hgt hn0 hn1).trans (hgt_uniq h1 h2)
  exact ⟨hn0, hn1, by unfold froN; rw [e], by unfold toN; rw [e]⟩

/-- How many of the nodes l device z is under. -/
def cntI (l : List Int) (z : Int) : Nat := (l.filter fun m => decide ((froN m.toNat : Int) ≤ z) && decide (z < (toN m.toNat : Int))).length
theorem cntI_append (l s : List Int) (z : Int) : cntI (l ++ s) z = cntI l z + cntI s z := by
  unfold cntI; rw [List.filter_append, List.length_append]
theorem cntI_one (m z : Int) : cntI [m] z = if (froN m.toNat : Int) ≤ z ∧ z < (toN m.toNat : Int) then 1 else 0 := by
  unfold cntI
  by_cases h : (froN m.toNat : Int) ≤ z ∧ z < (toN m.toNat : Int)
  · simp [h.1, h.2]
  · rw [if_neg h]
    simp only [List.filter_cons, List.filter_nil]
    rw [if_neg (by simpa using h)]
    rfl
/-- The halves of a node's span. -/
theorem span_half (n h : Nat) : 2 * n * 2 ^ h = n * 2 ^ (h + 1) ∧ (2 * n + 1) * 2 ^ h = n * 2 ^ (h + 1) + 2 ^ h ∧ (2 * n + 1 + 1) * 2 ^ h = n * 2 ^ (h + 1) + 2 ^ h + 2 ^ h ∧ (n + 1) * 2 ^ (h + 1) = n * 2 ^ (h + 1) + 2 ^ h + 2 ^ h := by
  have e : 2 ^ (h + 1) = 2 ^ h + 2 ^ h := by rw [Nat.pow_succ]; omega
  have a : 2 * n * 2 ^ h = n * 2 ^ (h + 1) := by rw [e, Nat.mul_add]; rw [Nat.mul_assoc]; omega
  refine ⟨a, ?_, ?_, ?_⟩
  · rw [Nat.add_mul, a, Nat.one_mul]
  · rw [Nat.add_mul, Nat.add_mul, a, Nat.one_mul]
  · rw [Nat.add_mul, Nat.one_mul, e]; omega
theorem span_ok {n h : Nat} (h1 : 512 ≤ n * 2 ^ (h + 1)) (h2 : n * 2 ^ (h + 1) < 1024) : (512 ≤ 2 * n * 2 ^ h ∧ 2 * n * 2 ^ h < 1024) ∧ (512 ≤ (2 * n + 1) * 2 ^ h ∧ (2 * n + 1) * 2 ^ h < 1024) := by
  obtain ⟨a, b, c, d⟩ := span_half n h
  rw [a, b]
  have hn := fro_at h1 h2
  have hle : (n + 1) * 2 ^ (h + 1) ≤ 1024 := by
    obtain ⟨u1, u2, u3⟩ := under_bd n hn.1 hn.2.1
    have e : levN n = h + 1 := (lev_hgt hn.1 hn.2.1).trans (hgt_uniq h1 h2)
    rw [e] at u2; exact u2
  have : 0 < 2 ^ h := Nat.two_pow_pos _
  omega
theorem cnt_res (f : Int → Option Int) : ∀ h n, 512 ≤ n * 2 ^ h → n * 2 ^ h < 1024 → ∀ x : Nat, (f (512 + (x : Int))).isSome = true →
    cntI (resL f h n) x = if n * 2 ^ h - 512 ≤ x ∧ x < (n + 1) * 2 ^ h - 512 then 1 else 0
  | 0, n, h1, h2, x, hx => by
    obtain ⟨a, b, c, d⟩ := fro_at h1 h2
    unfold resL
    split
    · rw [cntI_one]
      rw [Int.toNat_natCast, c, d]
      by_cases h : n * 2 ^ 0 - 512 ≤ x ∧ x < (n + 1) * 2 ^ 0 - 512
      · rw [if_pos h, if_pos (by omega)]
      · rw [if_neg h, if_neg (by omega)]
    · rename_i hf
      rw [if_neg]
      · rfl
      · intro h
        have : n = 512 + x := by omega
        refine hf ?_
        rw [this]
        simpa using hx
  | h + 1, n, h1, h2, x, hx => by
    obtain ⟨a, b, c, d⟩ := fro_at h1 h2
    unfold resL
    split
    · rw [cntI_one]
      rw [Int.toNat_natCast, c, d]
      by_cases h : n * 2 ^ (h + 1) - 512 ≤ x ∧ x < (n + 1) * 2 ^ (h + 1) - 512
      · rw [if_pos h, if_pos (by omega)]
      · rw [if_neg h, if_neg (by omega)]
    · obtain ⟨s1, s2⟩ := span_ok h1 h2
      obtain ⟨e1, e2, e3, e4⟩ := span_half n h
      rw [cntI_append, cnt_res f h (2 * n) s1.1 s1.2 x hx, cnt_res f h (2 * n + 1) s2.1 s2.2 x hx]
      rw [e1] at s1 ⊢
      rw [e2] at s2 ⊢
      rw [e3, e4]
      have : 0 < 2 ^ h := Nat.two_pow_pos _
      generalize n * 2 ^ (h + 1) = A at *
      generalize 2 ^ h = B at *
      by_cases c1 : A - 512 ≤ x ∧ x < A + B - 512
      · rw [if_pos c1, if_neg (by omega), if_pos (by omega)]
      · by_cases c2 : A + B - 512 ≤ x ∧ x < A + B + B - 512
        · rw [if_neg c1, if_pos c2, if_pos (by omega)]
        · rw [if_neg c1, if_neg c2, if_neg (by omega)]
/-- Nodes from left to right, between F and T. -/
def ResOk (l : List Int) (F T : Nat) : Prop := l.Pairwise (fun a b => toN a.toNat ≤ froN b.toNat) ∧ ∀ m ∈ l, ∃ k : Nat, m = k ∧ 1 ≤ k ∧ k < 1024 ∧ F ≤ froN k ∧ toN k ≤ T
theorem resL_ok (f : Int → Option Int) : ∀ h n, 512 ≤ n * 2 ^ h → n * 2 ^ h < 1024 → ResOk (resL f h n) (n * 2 ^ h - 512) ((n + 1) * 2 ^ h - 512)
  | 0, n, h1, h2 => by
    obtain ⟨a, b, c, d⟩ := fro_at h1 h2
    unfold resL
    split
    · exact ⟨List.pairwise_singleton _ _, fun m hm => ⟨n, List.mem_singleton.1 hm, a, b, by rw [c]; exact Nat.le_refl _, by rw [d]; exact Nat.le_refl _⟩⟩
    · exact ⟨List.Pairwise.nil, fun m hm => by cases hm⟩
  | h + 1, n, h1, h2 => by
    obtain ⟨a, b, c, d⟩ := fro_at h1 h2
    unfold resL
    split
    · exact ⟨List.pairwise_singleton _ _, fun m hm => ⟨n, List.mem_singleton.1 hm, a, b, by rw [c]; exact Nat.le_refl _, by rw [d]; exact Nat.le_refl _⟩⟩
    · obtain ⟨s1, s2⟩ := span_ok h1 h2
      obtain ⟨p1, q1⟩ := resL_ok f h (2 * n) s1.1 s1.2
      obtain ⟨p2, q2⟩ := resL_ok f h (2 * n + 1) s2.1 s2.2
      obtain ⟨e1, e2, e3, e4⟩ := span_half n h
      rw [e1, e2] at q1
      rw [e2, e3] at q2
      rw [e4]
      have hp : 0 < 2 ^ h := Nat.two_pow_pos _
      refine ⟨List.pairwise_append.2 ⟨p1, p2, fun x hx y hy => ?_⟩, fun m hm => ?_⟩
      · obtain ⟨k1, rfl, -, -, -, u1⟩ := q1 x hx
        obtain ⟨k2, rfl, -, -, u2, -⟩ := q2 y hy
        rw [Int.toNat_natCast, Int.toNat_natCast]
        omega
      · rcases List.mem_append.1 hm with hm | hm
        · obtain ⟨k, rfl, u, v, x, y⟩ := q1 m hm
          exact ⟨k, rfl, u, v, x, by omega⟩
        · obtain ⟨k, rfl, u, v, x, y⟩ := q2 m hm
          exact ⟨k, rfl, u, v, by omega, y⟩
theorem resV_at {t : List (Int × Int)} {n : Nat} (hc : chkT t = 0) (h0 : 1 ≤ n) (h1 : n < 1024) : resE t n = 0 ∧ resV t n = resL (ofF t) (hgt n) n := by
  have h : resE t n = 0 := by unfold resE; rw [if_pos hc, if_neg (by omega)]
  refine ⟨h, ?_⟩
  unfold resV
  rw [if_pos h, Int.toNat_natCast]
theorem resV_ok {t : List (Int × Int)} {n : Nat} (hc : chkT t = 0) (h0 : 1 ≤ n) (h1 : n < 1024) : ResOk (resV t n) (froN n) (toN n) := by
  rw [(resV_at hc h0 h1).2]
  have hh := hgt_ok h0 h1
  obtain ⟨-, -, c, d⟩ := fro_at hh.1 hh.2
  rw [c, d]
  exact resL_ok _ _ _ hh.1 hh.2
theorem resV_cnt {t : List (Int × Int)} {n : Nat} (hc : chkT t = 0) (h0 : 1 ≤ n) (h1 : n < 1024) {x : Nat} (hx : (ofF t (512 + (x : Int))).isSome = true) : cntI (resV t n) x = if froN n ≤ x ∧ x < toN n then 1 else 0 := by
  rw [(resV_at hc h0 h1).2]
  have hh := hgt_ok h0 h1
  obtain ⟨-, -, c, d⟩ := fro_at hh.1 hh.2
  rw [c, d]
  exact cnt_res _ _ _ hh.1 hh.2 x hx

/-- A map of counts. -/
def cF (c : Int → Nat) (y : Int) : Option Int := if c y = 0 then none else some (c y : Int)
theorem cF_get (c : Int → Nat) (y : Int) : (cF c y).getD 0 = (c y : Int) := by
  unfold cF
  split
  · rename_i h; rw [h]; rfl
  · rfl
theorem cF_zero : cF (fun _ => 0) = fun _ => none := by funext y; simp [cF]
theorem cF_put (c : Int → Nat) (y : Int) : (fun z => if z = y then some ((c y : Int) + 1) else cF c z) = cF (fun z => c z + if z = y then 1 else 0) := by
  funext z
  unfold cF
  by_cases h : z = y
  · subst h; simp
  · simp [h]
theorem row_ints {w : World} {v : Value} {l : List Int} (h : IntsAt w v l) {p : Option Addr} {n c : Nat} (hv : v = .slice p n c) : n = l.length ∧ (0 < n → ∃ g o, p = some ⟨g, o, none⟩ ∧ ∀ j, j < n → w.cell? ⟨g, o + j, none⟩ = some (.int .i64 (l.getD j 0))) := by
  obtain ⟨p', c', h1, h2, h3⟩ := h
  rw [hv] at h1
  injection h1 with e1 e2 e3
  subst e1; subst e2; subst e3
  exact ⟨rfl, h3⟩

end Go.Proofs.Ytekdekchbnacgaa
