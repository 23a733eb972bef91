/-
  DERIVED. GIVEN WITH THE SEED: THE CARDS: each row of YtpfafeammikibaaGreatDoorRows.lean that lists a variable, with what it lists TIED to the program's text (the seventh form; the later family's looks); each row that meets fmt, with fmt's text TOLD by the authors' own Lean function (tested against real Go, not proved from fmt's source: count such statements apart). THE CARD IS WHAT COUNTS. Prove the row's statement (the work); the ties are given (YtpfafeammikibaaGreatDoorTie.lean); close each card by the builder's one call (the guide's Derived/Test/ToyasCard.lean, 'card_holds'). Laid BY PROGRAM, IN A SANDBOX (cutbox-door.mjs). By AI agents, Wed Nov 11 2026. No macro, syntax, notation, axiom, sorry.
-/
import Derived.Test.YtpfafeammikibaaGreatDoorRows
import GoSem.ClaimSeven
namespace Go.Proofs.YtpfafeammikibaaGreatDoor
namespace Rows

/-- THE TIED CARD OF 'chartroomlaw23.CommitsBack'. -/
def commitsBackCard : Claim7 := { stood := { row := commitsBackRow, standIns := [], harness := (true, "6a3cdae1c6a99e16d5a70d06c914a5fb8e9b1d810f9144a50bb917ccf43d635e"), looks := true }, kinds := [], alts := [], laidByText := true, laidKinds := [.data, .data, .sentinel, .widerDeep, .data], laidTests := true, laidLooks := .later }
def CommitsBackCardSaid : Prop := Claim7.holds Tryz.pinned (.plain (OpenSpec.ofChange commitsBackSpec)) commitsBackCard

/-- THE SECOND FORM's CARD OF 'chartroomlaw23.CommitsBack'. -/
def commitsBackUptoCard : Claim7 := { stood := { row := commitsBackUptoRow, standIns := [], harness := (true, "6a3cdae1c6a99e16d5a70d06c914a5fb8e9b1d810f9144a50bb917ccf43d635e"), looks := true }, kinds := [], alts := [], laidByText := true, laidKinds := [.data, .data, .sentinel, .widerDeep, .data], laidTests := true, laidLooks := .later }
def CommitsBackUptoCardSaid : Prop := Claim7.holds Tryz.pinned (.plain (OpenSpec.upto commitsBackSpec)) commitsBackUptoCard
end Rows
end Go.Proofs.YtpfafeammikibaaGreatDoor
