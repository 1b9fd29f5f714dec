/-
  DERIVED. GIVEN WITH THE SEED: THE CARDS: each row of YtahjijdadifkaaaDoorRows.lean that lists a variable, with what it lists TIED to the program's text (the seventh form; the later family's looks); each row that meets fmt, with fmt's text TOLD by the authors' own Lean function (tested against real Go, not proved from fmt's source: count such statements apart). THE CARD IS WHAT COUNTS. Prove the row's statement (the work); the ties are given (YtahjijdadifkaaaDoorTie.lean); close each card by the builder's one call (the guide's Derived/Test/ToyasCard.lean, 'card_holds'). Laid BY PROGRAM, IN A SANDBOX (cutbox-door.mjs). By AI agents, Wed Nov 11 2026. No macro, syntax, notation, axiom, sorry.
-/
import Derived.Test.YtahjijdadifkaaaDoorRows
import GoSem.ClaimSeven
namespace Go.Proofs.YtahjijdadifkaaaDoor
namespace Rows

/-- THE TIED CARD OF 'servitorlaw21.FoldTypes'. -/
def foldTypesCard : Claim7 := { stood := { row := foldTypesRow, standIns := [], harness := (true, "a69152d0a926d3106fb360a91eb01c23baa564a1749dc9b833c1b1f820273d45"), looks := true }, kinds := [], alts := [], laidByText := true, laidKinds := [.listed, .data], laidTests := true, laidLooks := .later }
def FoldTypesCardSaid : Prop := Claim7.holds Tryd.pinned (.plain (OpenSpec.ofChange foldTypesSpec)) foldTypesCard

/-- THE SECOND FORM's CARD OF 'servitorlaw21.FoldTypes'. -/
def foldTypesUptoCard : Claim7 := { stood := { row := foldTypesUptoRow, standIns := [], harness := (true, "a69152d0a926d3106fb360a91eb01c23baa564a1749dc9b833c1b1f820273d45"), looks := true }, kinds := [], alts := [], laidByText := true, laidKinds := [.listed, .data], laidTests := true, laidLooks := .later }
def FoldTypesUptoCardSaid : Prop := Claim7.holds Tryd.pinned (.plain (OpenSpec.upto foldTypesSpec)) foldTypesUptoCard
end Rows
end Go.Proofs.YtahjijdadifkaaaDoor
