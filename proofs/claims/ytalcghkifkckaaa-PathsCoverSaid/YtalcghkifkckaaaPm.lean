/- Plain laws of nodes: levels, halves, common nodes. -/
import Derived.Test.YtalcghkifkckaaaPh
namespace Go.Proofs.Ytalcghkifkckaaa

theorem div_under (node k x : Nat) : (node * 2 ^ k ≤ x ∧ x < (node + 1) * 2 ^ k) ↔ x / 2 ^ k = node := by
  have hp : 0 < 2 ^ k := Nat.two_pow_pos k
  rw [← Nat.le_div_iff_mul_le hp, ← Nat.div_lt_iff_lt_mul hp]
  omega

theorem lev_div (x i : Nat) (h0 : 512 ≤ x) (h1 : x < 1024) (hi : i ≤ 9) : levN (x / 2 ^ i) = i ∧ 1 ≤ x / 2 ^ i ∧ x / 2 ^ i < 1024 := by
  have hp : 0 < 2 ^ i := Nat.two_pow_pos i
  have h9 : 2 ^ i ≤ 2 ^ 9 := Nat.pow_le_pow_right (by decide) hi
  have hne : 1 ≤ x / 2 ^ i := (Nat.le_div_iff_mul_le hp).2 (by omega)
  have := bitLen_shift x i (by omega)
  rw [bitLen_big x h0 h1] at this
  refine ⟨by unfold levN; omega, hne, ?_⟩
  exact Nat.lt_of_le_of_lt (Nat.div_le_self _ _) h1

/-- How many halvings make two devices' leaves equal. -/
def lenD (a b : Nat) : Nat := bitLen ((512 + a) ^^^ (512 + b))
theorem lenD_comm (a b : Nat) : lenD a b = lenD b a := by unfold lenD; rw [Nat.xor_comm]
theorem lenD_self (a : Nat) : lenD a a = 0 := by unfold lenD; rw [Nat.xor_self]; rfl
theorem lenD_le (a b : Nat) (ha : a < 512) (hb : b < 512) : lenD a b ≤ 9 := by
  unfold lenD
  rw [← half_eq]
  have h1 : (512 + a) / 2 ^ 9 = 1 := by omega
  have h2 : (512 + b) / 2 ^ 9 = 1 := by omega
  rw [h1, h2]
theorem lenD_pos (a b : Nat) (h : a ≠ b) : 1 ≤ lenD a b := by
  have := mt (half_eq (512 + a) (512 + b) 0).2 (by simpa using h)
  unfold lenD; omega
theorem com_eq (a b : Nat) : comN (512 + a) (512 + b) = (512 + a) / 2 ^ lenD a b := rfl
theorem com_comm (a b : Nat) : comN (512 + a) (512 + b) = comN (512 + b) (512 + a) := by
  rw [com_eq, com_eq, lenD_comm b a]
  exact (half_eq _ _ _).2 (Nat.le_refl _)
theorem com_self (a : Nat) : comN (512 + a) (512 + a) = 512 + a := by rw [com_eq, lenD_self]; simp
theorem com_lev (a b : Nat) (ha : a < 512) (hb : b < 512) : levN (comN (512 + a) (512 + b)) = lenD a b ∧ 1 ≤ comN (512 + a) (512 + b) ∧ comN (512 + a) (512 + b) < 1024 := by
  rw [com_eq]; exact lev_div _ _ (by omega) (by omega) (lenD_le a b ha hb)

/-- A device is under a node just where halving its leaf as often as the node's level says gives the node. -/
theorem under_iff (n d : Nat) (h0 : 1 ≤ n) (h1 : n < 1024) : (froN n ≤ d ∧ d < toN n) ↔ (512 + d) / 2 ^ levN n = n := by
  rw [← div_under]
  obtain ⟨u1, u2, u3⟩ := under_bd n h0 h1
  have u4 : n * 2 ^ levN n ≤ (n + 1) * 2 ^ levN n := Nat.mul_le_mul_right _ (by omega)
  unfold froN toN
  omega
theorem under_range (n : Nat) (h0 : 1 ≤ n) (h1 : n < 1024) : toN n ≤ 512 ∧ froN n < toN n ∧ toN n - froN n = 2 ^ levN n := by
  obtain ⟨u1, u2, u3⟩ := under_bd n h0 h1
  have u4 : (n + 1) * 2 ^ levN n = n * 2 ^ levN n + 2 ^ levN n := by rw [Nat.add_mul, Nat.one_mul]
  have hp : 0 < 2 ^ levN n := Nat.two_pow_pos _
  unfold froN toN
  omega

theorem pathN_get (d : Nat) (hd : d < 512) (i : Nat) (hi : i < 9) : (pathN d).getD i 0 = (512 + d) / 2 ^ (i + 1) := by
  have h : ∀ d : Fin 512, pathN d.val = (List.range 9).map fun i => (512 + d.val) / 2 ^ (i + 1) := by decide +kernel
  rw [h ⟨d, hd⟩]; simp [hi]
theorem copN_get (d : Nat) (hd : d < 512) (i : Nat) (hi : i < 9) : (copN d).getD i 0 = sibN ((512 + d) / 2 ^ i) := by
  have h : ∀ d : Fin 512, copN d.val = (List.range 9).map fun i => sibN ((512 + d.val) / 2 ^ i) := by decide +kernel
  rw [h ⟨d, hd⟩]; simp [hi]

theorem sib_spec (n : Nat) (h : n < 1024) : sibN n / 2 = n / 2 ∧ sibN n ≠ n ∧ max n (sibN n) = 2 * (n / 2) + 1 := by
  have h : ∀ n : Fin 1024, sibN n.val / 2 = n.val / 2 ∧ sibN n.val ≠ n.val ∧ max n.val (sibN n.val) = 2 * (n.val / 2) + 1 := by decide +kernel
  exact h ⟨n, by assumption⟩

/-- Children: the facts of PathsChildren. -/
theorem children (d i : Nat) (hd : d < 512) (hi : i < 9) : levN ((pathN d).getD i 0) = i + 1 ∧ 1 ≤ (pathN d).getD i 0 ∧ (pathN d).getD i 0 < 1024 ∧
    ∀ b, b = (512 + d) / 2 ^ i → b / 2 = (pathN d).getD i 0 ∧ (copN d).getD i 0 / 2 = (pathN d).getD i 0 ∧ b ≠ (copN d).getD i 0 ∧ max b ((copN d).getD i 0) = 2 * (pathN d).getD i 0 + 1 := by
  rw [pathN_get d hd i hi, copN_get d hd i hi]
  obtain ⟨h1, h2, h3⟩ := lev_div (512 + d) (i + 1) (by omega) (by omega) (by omega)
  refine ⟨h1, h2, h3, ?_⟩
  rintro b rfl
  have e : (512 + d) / 2 ^ (i + 1) = (512 + d) / 2 ^ i / 2 := by rw [Nat.pow_succ, Nat.div_div_eq_div_mul]
  have hl : (512 + d) / 2 ^ i < 1024 := Nat.lt_of_le_of_lt (Nat.div_le_self _ _) (by omega)
  obtain ⟨s1, s2, s3⟩ := sib_spec _ hl
  rw [e]
  exact ⟨rfl, s1, fun h => s2 h.symm, s3⟩

/-- PathsUnder: a device is under a node just where the node is on its path, or is its leaf. -/
theorem on_iff (n d : Nat) (h0 : 1 ≤ n) (h1 : n < 1024) (hd : d < 512) : (512 + d = n ∨ ∃ i, i < 9 ∧ (pathN d).getD i 0 = n) ↔ (froN n ≤ d ∧ d < toN n) := by
  rw [under_iff n d h0 h1]
  constructor
  · rintro (h | ⟨i, hi, h⟩)
    · have := (lev_div (512 + d) 0 (by omega) (by omega) (by omega)).1
      simp only [Nat.pow_zero, Nat.div_one] at this
      rw [← h, this]; simp
    · rw [pathN_get d hd i hi] at h
      have := (lev_div (512 + d) (i + 1) (by omega) (by omega) (by omega)).1
      rw [← h, this]
  · intro h
    have hk := (under_bd n h0 h1).2.2
    rcases Nat.eq_zero_or_pos (levN n) with h2 | h2
    · rw [h2] at h; left; simpa using h
    · right
      refine ⟨levN n - 1, by omega, ?_⟩
      rw [pathN_get d hd _ (by omega), show levN n - 1 + 1 = levN n by omega]; exact h

/-- PathsMeet's facts of paths. -/
theorem meet_path (a b i : Nat) (ha : a < 512) (hb : b < 512) (hi : i < 9) : ((pathN a).getD i 0 = (pathN b).getD i 0) ↔ lenD a b - 1 ≤ i := by
  rw [pathN_get a ha i hi, pathN_get b hb i hi, half_eq]
  unfold lenD; omega

theorem meet_at (a b : Nat) (ha : a < 512) (hb : b < 512) (h : a ≠ b) : (pathN a).getD (lenD a b - 1) 0 = comN (512 + a) (512 + b) := by
  have h1 := lenD_pos a b h
  have h2 := lenD_le a b ha hb
  rw [pathN_get a ha _ (by omega), com_eq, show lenD a b - 1 + 1 = lenD a b by omega]

/-- PathsMeet's facts of what is under the children, for the lesser device a. -/
theorem meet_under (a b : Nat) (ha : a < 512) (hb : b < 512) (h : a < b) : ∀ n, n = comN (512 + a) (512 + b) →
    2 * n + 1 < 1024 ∧ 1 ≤ n ∧ toN (2 * n) = froN (2 * n + 1) ∧ froN (2 * n) ≤ a ∧ a < toN (2 * n) ∧ toN (2 * n) ≤ b ∧ b < toN (2 * n + 1) := by
  rintro n rfl
  have h1 := lenD_pos a b (by omega)
  have h2 := lenD_le a b ha hb
  obtain ⟨i, hi⟩ : ∃ i, lenD a b = i + 1 := ⟨lenD a b - 1, by omega⟩
  have hab : (512 + a) / 2 ^ i ≠ (512 + b) / 2 ^ i := fun e => by have := (half_eq _ _ _).1 e; unfold lenD at hi; omega
  have hle : (512 + a) / 2 ^ i ≤ (512 + b) / 2 ^ i := Nat.div_le_div_right (by omega)
  have ea : comN (512 + a) (512 + b) = (512 + a) / 2 ^ i / 2 := by rw [com_eq, hi, Nat.pow_succ, Nat.div_div_eq_div_mul]
  have eb : comN (512 + a) (512 + b) = (512 + b) / 2 ^ i / 2 := by rw [com_comm, com_eq, lenD_comm, hi, Nat.pow_succ, Nat.div_div_eq_div_mul]
  obtain ⟨la, pa, qa⟩ := lev_div (512 + a) i (by omega) (by omega) (by omega)
  obtain ⟨lb, pb, qb⟩ := lev_div (512 + b) i (by omega) (by omega) (by omega)
  generalize comN (512 + a) (512 + b) = n at ea eb ⊢
  have e1 : (512 + a) / 2 ^ i = 2 * n := by omega
  have e2 : (512 + b) / 2 ^ i = 2 * n + 1 := by omega
  have hn0 : 1 ≤ n := by omega
  rw [e1] at la
  rw [e2] at lb qb
  have ua := (under_iff (2 * n) a (by omega) (by omega)).2 (by rw [la]; exact e1)
  have ub := (under_iff (2 * n + 1) b (by omega) (by omega)).2 (by rw [lb]; exact e2)
  have em : toN (2 * n) = froN (2 * n + 1) := by unfold toN froN; rw [la, lb]
  omega
end Go.Proofs.Ytalcghkifkckaaa
