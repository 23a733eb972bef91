/-
  DERIVED. GIVEN WITH THE SEED: THE CARDS: each row of YtjbiancnijgmgaaGreatDoorRows.lean that lists a variable, with what it lists TIED to the program's text (the seventh form; the later family's looks); each row that meets fmt, with fmt's text TOLD by the authors' own Lean function (tested against real Go, not proved from fmt's source: count such statements apart). THE CARD IS WHAT COUNTS. Prove the row's statement (the work); the ties are given (YtjbiancnijgmgaaGreatDoorTie.lean); close each card by the builder's one call (the guide's Derived/Test/ToyasCard.lean, 'card_holds'). Laid BY PROGRAM, IN A SANDBOX (cutbox-door.mjs). By AI agents, Wed Nov 11 2026. No macro, syntax, notation, axiom, sorry.
-/
import Derived.Test.YtjbiancnijgmgaaGreatDoorRows
import GoSem.ClaimSeven
namespace Go.Proofs.YtjbiancnijgmgaaGreatDoor
namespace Rows

/-- THE TIED CARD OF 'chartroomlaw24.ResolveAlone'. -/
def resolveAloneCard : Claim7 := { stood := { row := resolveAloneRow, standIns := [], harness := (true, "cddd1308eb5b2962773780c802070ca1796121cfbd15bfcccc30b45a307f3fac"), looks := false }, kinds := [], alts := [], laidByText := true, laidKinds := [.data, .data, .sentinel, .widerDeep, .data], laidTests := true, laidLooks := .later }
def ResolveAloneCardSaid : Prop := Claim7.holds Tryz.pinned (.plain (OpenSpec.ofChange resolveAloneSpec)) resolveAloneCard

/-- THE SECOND FORM's CARD OF 'chartroomlaw24.ResolveAlone'. -/
def resolveAloneUptoCard : Claim7 := { stood := { row := resolveAloneUptoRow, standIns := [], harness := (true, "cddd1308eb5b2962773780c802070ca1796121cfbd15bfcccc30b45a307f3fac"), looks := false }, kinds := [], alts := [], laidByText := true, laidKinds := [.data, .data, .sentinel, .widerDeep, .data], laidTests := true, laidLooks := .later }
def ResolveAloneUptoCardSaid : Prop := Claim7.holds Tryz.pinned (.plain (OpenSpec.upto resolveAloneSpec)) resolveAloneUptoCard
end Rows
end Go.Proofs.YtjbiancnijgmgaaGreatDoor
