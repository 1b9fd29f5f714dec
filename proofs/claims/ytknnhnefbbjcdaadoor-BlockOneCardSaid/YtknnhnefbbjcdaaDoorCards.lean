/-
  DERIVED. GIVEN WITH THE SEED: THE CARDS: each row of YtknnhnefbbjcdaaDoorRows.lean that lists a variable, with what it lists TIED to the program's text (the seventh form; the later family's looks); each row that meets fmt, with fmt's text TOLD by the authors' own Lean function (tested against real Go, not proved from fmt's source: count such statements apart). THE CARD IS WHAT COUNTS. Prove the row's statement (the work); the ties are given (YtknnhnefbbjcdaaDoorTie.lean); close each card by the builder's one call (the guide's Derived/Test/ToyasCard.lean, 'card_holds'). Laid BY PROGRAM, IN A SANDBOX (cutbox-door.mjs). By AI agents, Wed Nov 11 2026. No macro, syntax, notation, axiom, sorry.
-/
import Derived.Test.YtknnhnefbbjcdaaDoorRows
import GoSem.ClaimSeven
namespace Go.Proofs.YtknnhnefbbjcdaaDoor
namespace Rows

/-- THE TIED CARD OF 'servitorlaw27.BlockOne'. -/
def blockOneCard : Claim7 := { stood := { row := blockOneRow, standIns := [], harness := (true, "49ef72c9b85c6a1114ba02c69b6269a98b76f86eeadab6954fd8f849c587e89f"), looks := false }, kinds := [], alts := [], laidByText := true, laidKinds := [.listed, .data], laidTests := true, laidLooks := .later }
def BlockOneCardSaid : Prop := Claim7.holds Tryd.pinned (.plain (OpenSpec.ofChange blockOneSpec)) blockOneCard

/-- THE SECOND FORM's CARD OF 'servitorlaw27.BlockOne'. -/
def blockOneUptoCard : Claim7 := { stood := { row := blockOneUptoRow, standIns := [], harness := (true, "49ef72c9b85c6a1114ba02c69b6269a98b76f86eeadab6954fd8f849c587e89f"), looks := false }, kinds := [], alts := [], laidByText := true, laidKinds := [.listed, .data], laidTests := true, laidLooks := .later }
def BlockOneUptoCardSaid : Prop := Claim7.holds Tryd.pinned (.plain (OpenSpec.upto blockOneSpec)) blockOneUptoCard
end Rows
end Go.Proofs.YtknnhnefbbjcdaaDoor
