/-
  DERIVED. GIVEN WITH THE SEED: THE CARDS: each row of YtklaancgnfkjlaaDoorRows.lean that lists a variable, with what it lists TIED to the program's text (the seventh form; the later family's looks); each row that meets fmt, with fmt's text TOLD by the authors' own Lean function (tested against real Go, not proved from fmt's source: count such statements apart). THE CARD IS WHAT COUNTS. Prove the row's statement (the work); the ties are given (YtklaancgnfkjlaaDoorTie.lean); close each card by the builder's one call (the guide's Derived/Test/ToyasCard.lean, 'card_holds'). Laid BY PROGRAM, IN A SANDBOX (cutbox-door.mjs). By AI agents, Wed Nov 11 2026. No macro, syntax, notation, axiom, sorry.
-/
import Derived.Test.YtklaancgnfkjlaaDoorRows
import GoSem.ClaimSeven
namespace Go.Proofs.YtklaancgnfkjlaaDoor
namespace Rows

/-- THE TIED CARD OF 'chartroomlaw06.CipherBlockSpec'. -/
def cipherBlockSpecCard : Claim7 := { stood := { row := cipherBlockSpecRow, standIns := [], harness := (true, "9441b009eaa6986c1d55bd5baf5dfeeb56f2a8a59cb4ab1888ad5c79e9d01545"), looks := false }, kinds := [], alts := [], laidByText := true, laidKinds := [.data, .data, .widerDeep], laidTests := true, laidLooks := .later }
def CipherBlockSpecCardSaid : Prop := Claim7.holds Tryd.pinned (.plain (OpenSpec.ofChange cipherBlockSpecSpec)) cipherBlockSpecCard

/-- THE TIED CARD OF 'chartroomlaw06.CipherStreamSpec'. -/
def cipherStreamSpecCard : Claim7 := { stood := { row := cipherStreamSpecRow, standIns := [], harness := (true, "9441b009eaa6986c1d55bd5baf5dfeeb56f2a8a59cb4ab1888ad5c79e9d01545"), looks := false }, kinds := [], alts := [], laidByText := true, laidKinds := [.data, .data, .widerDeep], laidTests := true, laidLooks := .later }
def CipherStreamSpecCardSaid : Prop := Claim7.holds Tryd.pinned (.plain (OpenSpec.ofChange cipherStreamSpecSpec)) cipherStreamSpecCard

/-- THE TIED CARD OF 'chartroomlaw06.CipherSealSpec'. -/
def cipherSealSpecCard : Claim7 := { stood := { row := cipherSealSpecRow, standIns := [], harness := (true, "9441b009eaa6986c1d55bd5baf5dfeeb56f2a8a59cb4ab1888ad5c79e9d01545"), looks := false }, kinds := [], alts := [], laidByText := true, laidKinds := [.data, .data, .widerDeep], laidTests := true, laidLooks := .later }
def CipherSealSpecCardSaid : Prop := Claim7.holds Tryd.pinned (.plain (OpenSpec.ofChange cipherSealSpecSpec)) cipherSealSpecCard

/-- THE TIED CARD OF 'chartroomlaw06.CipherBack'. -/
def cipherBackCard : Claim7 := { stood := { row := cipherBackRow, standIns := [], harness := (true, "9441b009eaa6986c1d55bd5baf5dfeeb56f2a8a59cb4ab1888ad5c79e9d01545"), looks := false }, kinds := [], alts := [], laidByText := true, laidKinds := [.data, .data, .widerDeep], laidTests := true, laidLooks := .later }
def CipherBackCardSaid : Prop := Claim7.holds Tryd.pinned (.plain (OpenSpec.ofChange cipherBackSpec)) cipherBackCard

/-- THE TIED CARD OF 'chartroomlaw06.CipherPlaces'. -/
def cipherPlacesCard : Claim7 := { stood := { row := cipherPlacesRow, standIns := [], harness := (true, "9441b009eaa6986c1d55bd5baf5dfeeb56f2a8a59cb4ab1888ad5c79e9d01545"), looks := false }, kinds := [], alts := [], laidByText := true, laidKinds := [.data, .data, .widerDeep], laidTests := true, laidLooks := .later }
def CipherPlacesCardSaid : Prop := Claim7.holds Tryd.pinned (.plain (OpenSpec.ofChange cipherPlacesSpec)) cipherPlacesCard

/-- THE TIED CARD OF 'chartroomlaw06.CipherBlocks'. -/
def cipherBlocksCard : Claim7 := { stood := { row := cipherBlocksRow, standIns := [], harness := (true, "9441b009eaa6986c1d55bd5baf5dfeeb56f2a8a59cb4ab1888ad5c79e9d01545"), looks := false }, kinds := [], alts := [], laidByText := true, laidKinds := [.data, .data, .widerDeep], laidTests := true, laidLooks := .later }
def CipherBlocksCardSaid : Prop := Claim7.holds Tryd.pinned (.plain (OpenSpec.ofChange cipherBlocksSpec)) cipherBlocksCard

/-- THE TIED CARD OF 'chartroomlaw06.CipherTag'. -/
def cipherTagCard : Claim7 := { stood := { row := cipherTagRow, standIns := [], harness := (true, "9441b009eaa6986c1d55bd5baf5dfeeb56f2a8a59cb4ab1888ad5c79e9d01545"), looks := false }, kinds := [], alts := [], laidByText := true, laidKinds := [.data, .data, .widerDeep], laidTests := true, laidLooks := .later }
def CipherTagCardSaid : Prop := Claim7.holds Tryd.pinned (.plain (OpenSpec.ofChange cipherTagSpec)) cipherTagCard

/-- THE TIED CARD OF 'chartroomlaw06.CipherLong'. -/
def cipherLongCard : Claim7 := { stood := { row := cipherLongRow, standIns := [], harness := (true, "9441b009eaa6986c1d55bd5baf5dfeeb56f2a8a59cb4ab1888ad5c79e9d01545"), looks := false }, kinds := [], alts := [], laidByText := true, laidKinds := [.data, .data, .widerDeep], laidTests := true, laidLooks := .later }
def CipherLongCardSaid : Prop := Claim7.holds Tryd.pinned (.plain (OpenSpec.ofChange cipherLongSpec)) cipherLongCard

/-- THE SECOND FORM's CARD OF 'chartroomlaw06.CipherBlockSpec'. -/
def cipherBlockSpecUptoCard : Claim7 := { stood := { row := cipherBlockSpecUptoRow, standIns := [], harness := (true, "9441b009eaa6986c1d55bd5baf5dfeeb56f2a8a59cb4ab1888ad5c79e9d01545"), looks := false }, kinds := [], alts := [], laidByText := true, laidKinds := [.data, .data, .widerDeep], laidTests := true, laidLooks := .later }
def CipherBlockSpecUptoCardSaid : Prop := Claim7.holds Tryd.pinned (.plain (OpenSpec.upto cipherBlockSpecSpec)) cipherBlockSpecUptoCard

/-- THE SECOND FORM's CARD OF 'chartroomlaw06.CipherStreamSpec'. -/
def cipherStreamSpecUptoCard : Claim7 := { stood := { row := cipherStreamSpecUptoRow, standIns := [], harness := (true, "9441b009eaa6986c1d55bd5baf5dfeeb56f2a8a59cb4ab1888ad5c79e9d01545"), looks := false }, kinds := [], alts := [], laidByText := true, laidKinds := [.data, .data, .widerDeep], laidTests := true, laidLooks := .later }
def CipherStreamSpecUptoCardSaid : Prop := Claim7.holds Tryd.pinned (.plain (OpenSpec.upto cipherStreamSpecSpec)) cipherStreamSpecUptoCard

/-- THE SECOND FORM's CARD OF 'chartroomlaw06.CipherSealSpec'. -/
def cipherSealSpecUptoCard : Claim7 := { stood := { row := cipherSealSpecUptoRow, standIns := [], harness := (true, "9441b009eaa6986c1d55bd5baf5dfeeb56f2a8a59cb4ab1888ad5c79e9d01545"), looks := false }, kinds := [], alts := [], laidByText := true, laidKinds := [.data, .data, .widerDeep], laidTests := true, laidLooks := .later }
def CipherSealSpecUptoCardSaid : Prop := Claim7.holds Tryd.pinned (.plain (OpenSpec.upto cipherSealSpecSpec)) cipherSealSpecUptoCard

/-- THE SECOND FORM's CARD OF 'chartroomlaw06.CipherBack'. -/
def cipherBackUptoCard : Claim7 := { stood := { row := cipherBackUptoRow, standIns := [], harness := (true, "9441b009eaa6986c1d55bd5baf5dfeeb56f2a8a59cb4ab1888ad5c79e9d01545"), looks := false }, kinds := [], alts := [], laidByText := true, laidKinds := [.data, .data, .widerDeep], laidTests := true, laidLooks := .later }
def CipherBackUptoCardSaid : Prop := Claim7.holds Tryd.pinned (.plain (OpenSpec.upto cipherBackSpec)) cipherBackUptoCard

/-- THE SECOND FORM's CARD OF 'chartroomlaw06.CipherPlaces'. -/
def cipherPlacesUptoCard : Claim7 := { stood := { row := cipherPlacesUptoRow, standIns := [], harness := (true, "9441b009eaa6986c1d55bd5baf5dfeeb56f2a8a59cb4ab1888ad5c79e9d01545"), looks := false }, kinds := [], alts := [], laidByText := true, laidKinds := [.data, .data, .widerDeep], laidTests := true, laidLooks := .later }
def CipherPlacesUptoCardSaid : Prop := Claim7.holds Tryd.pinned (.plain (OpenSpec.upto cipherPlacesSpec)) cipherPlacesUptoCard

/-- THE SECOND FORM's CARD OF 'chartroomlaw06.CipherBlocks'. -/
def cipherBlocksUptoCard : Claim7 := { stood := { row := cipherBlocksUptoRow, standIns := [], harness := (true, "9441b009eaa6986c1d55bd5baf5dfeeb56f2a8a59cb4ab1888ad5c79e9d01545"), looks := false }, kinds := [], alts := [], laidByText := true, laidKinds := [.data, .data, .widerDeep], laidTests := true, laidLooks := .later }
def CipherBlocksUptoCardSaid : Prop := Claim7.holds Tryd.pinned (.plain (OpenSpec.upto cipherBlocksSpec)) cipherBlocksUptoCard

/-- THE SECOND FORM's CARD OF 'chartroomlaw06.CipherTag'. -/
def cipherTagUptoCard : Claim7 := { stood := { row := cipherTagUptoRow, standIns := [], harness := (true, "9441b009eaa6986c1d55bd5baf5dfeeb56f2a8a59cb4ab1888ad5c79e9d01545"), looks := false }, kinds := [], alts := [], laidByText := true, laidKinds := [.data, .data, .widerDeep], laidTests := true, laidLooks := .later }
def CipherTagUptoCardSaid : Prop := Claim7.holds Tryd.pinned (.plain (OpenSpec.upto cipherTagSpec)) cipherTagUptoCard

/-- THE SECOND FORM's CARD OF 'chartroomlaw06.CipherLong'. -/
def cipherLongUptoCard : Claim7 := { stood := { row := cipherLongUptoRow, standIns := [], harness := (true, "9441b009eaa6986c1d55bd5baf5dfeeb56f2a8a59cb4ab1888ad5c79e9d01545"), looks := false }, kinds := [], alts := [], laidByText := true, laidKinds := [.data, .data, .widerDeep], laidTests := true, laidLooks := .later }
def CipherLongUptoCardSaid : Prop := Claim7.holds Tryd.pinned (.plain (OpenSpec.upto cipherLongSpec)) cipherLongUptoCard
end Rows
end Go.Proofs.YtklaancgnfkjlaaDoor
