/- Package keytree: ContainsFunc. -/
import Derived.Test.YtekdekchbnacgaaKy
namespace Go.Proofs.Ytekdekchbnacgaa
open Go.RowKit
set_option maxRecDepth 100000
set_option linter.unusedVariables false
set_option linter.unusedSimpArgs false

theorem containsFunc_ok (l : List Int) (v : Value) (w : World) (h : IntsAt w v l) (hl : l.length ≤ 1000000) :
    Calls Try.prog 50 #[v, .func (.func 51) #[] #[]] w fun e w' => ∃ bb, e = .returned (.bool bb) ∧ Hid ((AllOk l → bb = false) ∧ (¬ AllOk l → bb = true)) ∧ Below w.heap.size w w' := by
  have HI := Lib.hid (indexFunc_ok l v w h hl)
  obtain ⟨p, c, rfl, -, -⟩ := h
  go_enter Try.func50, Try.ntmps50
  go_wp2_with fail
  refine HI.out.mono ?_
  rintro e w1 ⟨r, rfl, hr, hB1⟩
  have HB1 := Lib.hid hB1
  clear hB1 HI
  by_cases h0 : 0 ≤ r
  · have hd : decide (0 ≤ r) = true := by simp; omega
    have HF : Hid (¬ AllOk l) := Lib.hid (fun h => by have := hr.out.1 h; omega)
    clear hr
    go_wp2_with fail
    go_ret
    exact ⟨true, rfl, Lib.hid ⟨fun h => absurd h HF.out, fun _ => rfl⟩, HB1.out⟩
  · have hd : decide (0 ≤ r) = false := by simp; omega
    have HF : Hid (¬ ¬ AllOk l) := Lib.hid (fun h => absurd (hr.out.2 h) h0)
    clear hr
    go_wp2_with fail
    go_ret
    exact ⟨false, rfl, Lib.hid ⟨fun _ => rfl, fun h => absurd h HF.out⟩, HB1.out⟩
end Go.Proofs.Ytekdekchbnacgaa
