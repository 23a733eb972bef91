/-
  DERIVED. GIVEN WITH THE SEED: THE CARDS: each row of YtdjkajodkjfjlaaGreatDoorRows.lean that lists a variable, with what it lists TIED to the program's text (the seventh form; the later family's looks); each row that meets fmt, with fmt's text TOLD by the authors' own Lean function (tested against real Go, not proved from fmt's source: count such statements apart). THE CARD IS WHAT COUNTS. Prove the row's statement (the work); the ties are given (YtdjkajodkjfjlaaGreatDoorTie.lean); close each card by the builder's one call (the guide's Derived/Test/ToyasCard.lean, 'card_holds'). Laid BY PROGRAM, IN A SANDBOX (cutbox-door.mjs). By AI agents, Wed Nov 11 2026. No macro, syntax, notation, axiom, sorry.
-/
import Derived.Test.YtdjkajodkjfjlaaGreatDoorRows
import GoSem.ClaimSeven
namespace Go.Proofs.YtdjkajodkjfjlaaGreatDoor
namespace Rows

/-- THE TIED CARD OF 'chartroomlaw23.CommitsReach'. -/
def commitsReachCard : Claim7 := { stood := { row := commitsReachRow, standIns := [], harness := (true, "07c97b1c2f071b1ac95626fb80bd45e878ba8cfd09c2f614a5a899a368b544ae"), looks := true }, kinds := [], alts := [], laidByText := true, laidKinds := [.data, .data, .sentinel, .widerDeep, .data], laidTests := true, laidLooks := .later }
def CommitsReachCardSaid : Prop := Claim7.holds Tryz.pinned (.plain (OpenSpec.ofChange commitsReachSpec)) commitsReachCard

/-- THE SECOND FORM's CARD OF 'chartroomlaw23.CommitsReach'. -/
def commitsReachUptoCard : Claim7 := { stood := { row := commitsReachUptoRow, standIns := [], harness := (true, "07c97b1c2f071b1ac95626fb80bd45e878ba8cfd09c2f614a5a899a368b544ae"), looks := true }, kinds := [], alts := [], laidByText := true, laidKinds := [.data, .data, .sentinel, .widerDeep, .data], laidTests := true, laidLooks := .later }
def CommitsReachUptoCardSaid : Prop := Claim7.holds Tryz.pinned (.plain (OpenSpec.upto commitsReachSpec)) commitsReachUptoCard
end Rows
end Go.Proofs.YtdjkajodkjfjlaaGreatDoor
