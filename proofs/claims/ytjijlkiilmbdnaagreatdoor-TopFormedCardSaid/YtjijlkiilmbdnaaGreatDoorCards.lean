/-
  DERIVED. GIVEN WITH THE SEED: THE CARDS: each row of YtjijlkiilmbdnaaGreatDoorRows.lean that lists a variable, with what it lists TIED to the program's text (the seventh form; the later family's looks); each row that meets fmt, with fmt's text TOLD by the authors' own Lean function (tested against real Go, not proved from fmt's source: count such statements apart). THE CARD IS WHAT COUNTS. Prove the row's statement (the work); the ties are given (YtjijlkiilmbdnaaGreatDoorTie.lean); close each card by the builder's one call (the guide's Derived/Test/ToyasCard.lean, 'card_holds'). Laid BY PROGRAM, IN A SANDBOX (cutbox-door.mjs). By AI agents, Wed Nov 11 2026. No macro, syntax, notation, axiom, sorry.
-/
import Derived.Test.YtjijlkiilmbdnaaGreatDoorRows
import GoSem.ClaimSeven
namespace Go.Proofs.YtjijlkiilmbdnaaGreatDoor
namespace Rows

/-- THE TIED CARD OF 'merestonetop.TopFormed'. -/
def topFormedCard : Claim7 := { stood := { row := topFormedRow, standIns := [], harness := (true, "1c2a2366be1311c5c57d58b61619e05578d6860d99e587deb2a3e1dd7ac57db9"), looks := true }, kinds := [], alts := [], laidByText := true, laidKinds := [.data, .data, .data], laidTests := true, laidLooks := .later }
def TopFormedCardSaid : Prop := Claim7.holds Tryz.pinned (.plain (OpenSpec.ofChange topFormedSpec)) topFormedCard

/-- THE SECOND FORM's CARD OF 'merestonetop.TopFormed'. -/
def topFormedUptoCard : Claim7 := { stood := { row := topFormedUptoRow, standIns := [], harness := (true, "1c2a2366be1311c5c57d58b61619e05578d6860d99e587deb2a3e1dd7ac57db9"), looks := true }, kinds := [], alts := [], laidByText := true, laidKinds := [.data, .data, .data], laidTests := true, laidLooks := .later }
def TopFormedUptoCardSaid : Prop := Claim7.holds Tryz.pinned (.plain (OpenSpec.upto topFormedSpec)) topFormedUptoCard
end Rows
end Go.Proofs.YtjijlkiilmbdnaaGreatDoor
