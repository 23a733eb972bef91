/- Folders: the reference's Less. -/
import Derived.Test.YtcflnjmglanneaaTj
namespace Go.Proofs.Ytcflnjmglanneaa
open Go.RowKit Go.Maps Go.Sort
set_option maxRecDepth 100000
set_option linter.unusedVariables false
set_option linter.unusedSimpArgs false

theorem lt_ne {c d : Int} (h : ¬ c = 0) : decide ((if c = 0 then d else c) < 0) = decide (c < 0) := by simp [h]
theorem lt_eq {c d : Int} (h : c = 0) : decide ((if c = 0 then d else c) < 0) = decide (d < 0) := by simp [h]
theorem cmpI_lt (a b : Int) : decide (Lib.compareInt a b < 0) = decide (a < b) := by
  unfold Lib.compareInt
  by_cases h : a < b
  · rw [if_pos h, decide_eq_true h]; rfl
  · rw [if_neg h, decide_eq_false h]; split <;> rfl
theorem cmpI_eq (a b : Int) : Lib.compareInt a b = 0 ↔ a = b := (LinC.int (fun z : Int => z)).eq a b

theorem bytesLess_cmp : ∀ (a b : List UInt8), Op.bytesLess a b = decide (Lib.compareBytes a b < 0)
  | [], [] => rfl
  | [], _ :: _ => rfl
  | _ :: _, [] => rfl
  | a :: aa, b :: bb => by
    unfold Op.bytesLess Lib.compareBytes
    by_cases h : a < b
    · simp [h]
    · by_cases h2 : b < a
      · have hne : ¬ a = b := fun e => by subst e; exact absurd h2 (UInt8.lt_irrefl a)
        simp [h, h2, hne]
      · have e : a = b := UInt8.le_antisymm (UInt8.not_lt.1 h2) (UInt8.not_lt.1 h)
        subst e
        simp [h, bytesLess_cmp aa bb]

set_option maxHeartbeats 4000000 in
theorem rless_ok (x y : Pl) (w : World) :
    Calls Try.prog 50 #[x.ev, y.ev] w fun e w' => e = .returned (.bool (ltOf cmpP x y)) ∧ Below w.heap.size w w' := by
  obtain ⟨xt, xd, xf, xp, xn⟩ := x
  obtain ⟨yt, yd, yf, yp, yn⟩ := y
  obtain ⟨r, hr⟩ : ∃ r, r = ltOf cmpP ⟨xt, xd, xf, xp, xn⟩ ⟨yt, yd, yf, yp, yn⟩ := ⟨_, rfl⟩
  rw [← hr]
  have HB := Lib.hid (below_trans (below_alloc w (.cells #[.int .i64 xt, .int .i64 xd, .int .i64 xf, .int .i64 xp, .string xn] 24)) (below_alloc _ (.cells #[.int .i64 yt, .int .i64 yd, .int .i64 yf, .int .i64 yp, .string yn] 24)))
  unfold Pl.ev
  dsimp only
  replace hr : r = decide ((if Lib.compareInt xt yt = 0 then (if Lib.compareInt xd yd = 0 then (if Lib.compareInt xf yf = 0 then (if Lib.compareInt xp yp = 0 then orL [Lib.compareBytes xn.data.toList yn.data.toList] else Lib.compareInt xp yp) else Lib.compareInt xf yf) else Lib.compareInt xd yd) else Lib.compareInt xt yt) < 0) := hr
  by_cases ht : xt = yt
  case neg =>
    have HR : Hid (r = decide (xt < yt)) := Lib.hid (by rw [hr, lt_ne (fun e => ht ((cmpI_eq _ _).1 e)), cmpI_lt])
    have he1 : (xt == yt) = false := by simpa using ht
    have he2 : decide (xt = yt) = false := by simpa using ht
    clear hr ht
    go_enter Try.func50, Try.ntmps50
    go_wp2_with fail
    go_ret
    exact ⟨by rw [HR.out]; rfl, HB.out⟩
  subst ht
  rw [lt_eq ((cmpI_eq _ _).2 rfl)] at hr
  by_cases hd : xd = yd
  case neg =>
    have HR : Hid (r = decide (xd < yd)) := Lib.hid (by rw [hr, lt_ne (fun e => hd ((cmpI_eq _ _).1 e)), cmpI_lt])
    have he1 : (xd == yd) = false := by simpa using hd
    have he2 : decide (xd = yd) = false := by simpa using hd
    clear hr hd
    go_enter Try.func50, Try.ntmps50
    go_wp2_with fail
    go_ret
    exact ⟨by rw [HR.out]; rfl, HB.out⟩
  subst hd
  rw [lt_eq ((cmpI_eq _ _).2 rfl)] at hr
  by_cases hf : xf = yf
  case neg =>
    have HR : Hid (r = decide (xf < yf)) := Lib.hid (by rw [hr, lt_ne (fun e => hf ((cmpI_eq _ _).1 e)), cmpI_lt])
    have he1 : (xf == yf) = false := by simpa using hf
    have he2 : decide (xf = yf) = false := by simpa using hf
    clear hr hf
    go_enter Try.func50, Try.ntmps50
    go_wp2_with fail
    go_ret
    exact ⟨by rw [HR.out]; rfl, HB.out⟩
  subst hf
  rw [lt_eq ((cmpI_eq _ _).2 rfl)] at hr
  by_cases hp : xp = yp
  case neg =>
    have HR : Hid (r = decide (xp < yp)) := Lib.hid (by rw [hr, lt_ne (fun e => hp ((cmpI_eq _ _).1 e)), cmpI_lt])
    have he1 : (xp == yp) = false := by simpa using hp
    have he2 : decide (xp = yp) = false := by simpa using hp
    clear hr hp
    go_enter Try.func50, Try.ntmps50
    go_wp2_with fail
    go_ret
    exact ⟨by rw [HR.out]; rfl, HB.out⟩
  subst hp
  rw [lt_eq ((cmpI_eq _ _).2 rfl)] at hr
  go_enter Try.func50, Try.ntmps50
  go_wp2_with fail
  go_ret
  refine ⟨?_, HB.out⟩
  have e : r = Op.bytesLess xn.toList yn.toList := by
    rw [hr, bytesLess_cmp, ByteArray.toList_eq, ByteArray.toList_eq]
    unfold orL
    by_cases h : Lib.compareBytes xn.data.toList yn.data.toList = 0
    · rw [h]; rfl
    · simp [h]
  rw [e]; rfl
end Go.Proofs.Ytcflnjmglanneaa
