/-
  DERIVED. GIVEN WITH THE SEED: THE CARDS: each row of YtpgkebfdfhdliaaDoorRows.lean that lists a variable, with what it lists TIED to the program's text (the seventh form; the later family's looks); each row that meets fmt, with fmt's text TOLD by the authors' own Lean function (tested against real Go, not proved from fmt's source: count such statements apart). THE CARD IS WHAT COUNTS. Prove the row's statement (the work); the ties are given (YtpgkebfdfhdliaaDoorTie.lean); close each card by the builder's one call (the guide's Derived/Test/ToyasCard.lean, 'card_holds'). Laid BY PROGRAM, IN A SANDBOX (cutbox-door.mjs). By AI agents, Wed Nov 11 2026. No macro, syntax, notation, axiom, sorry.
-/
import Derived.Test.YtpgkebfdfhdliaaDoorRows
import GoSem.ClaimSeven
namespace Go.Proofs.YtpgkebfdfhdliaaDoor
namespace Rows

/-- THE TIED CARD OF 'servitorlaw22.LayRight'. -/
def layRightCard : Claim7 := { stood := { row := layRightRow, standIns := [], harness := (true, "f2963ad1d2a7119b6327ea73577df3289377384b669669889fde7edbb4d8405d"), looks := false }, kinds := [], alts := [], laidByText := true, laidKinds := [.listed, .data], laidTests := true, laidLooks := .later }
def LayRightCardSaid : Prop := Claim7.holds Tryd.pinned (.plain (OpenSpec.ofChange layRightSpec)) layRightCard

/-- THE TIED CARD OF 'servitorlaw22.LayApart'. -/
def layApartCard : Claim7 := { stood := { row := layApartRow, standIns := [], harness := (true, "f2963ad1d2a7119b6327ea73577df3289377384b669669889fde7edbb4d8405d"), looks := false }, kinds := [], alts := [], laidByText := true, laidKinds := [.listed, .data], laidTests := true, laidLooks := .later }
def LayApartCardSaid : Prop := Claim7.holds Tryd.pinned (.plain (OpenSpec.ofChange layApartSpec)) layApartCard

/-- THE TIED CARD OF 'servitorlaw27.BlockTells'. -/
def blockTellsCard : Claim7 := { stood := { row := blockTellsRow, standIns := [], harness := (true, "f2963ad1d2a7119b6327ea73577df3289377384b669669889fde7edbb4d8405d"), looks := false }, kinds := [], alts := [], laidByText := true, laidKinds := [.listed, .data], laidTests := true, laidLooks := .later }
def BlockTellsCardSaid : Prop := Claim7.holds Tryd.pinned (.plain (OpenSpec.ofChange blockTellsSpec)) blockTellsCard

/-- THE TIED CARD OF 'servitorlaw27.BlockOne'. -/
def blockOneCard : Claim7 := { stood := { row := blockOneRow, standIns := [], harness := (true, "f2963ad1d2a7119b6327ea73577df3289377384b669669889fde7edbb4d8405d"), looks := false }, kinds := [], alts := [], laidByText := true, laidKinds := [.listed, .data], laidTests := true, laidLooks := .later }
def BlockOneCardSaid : Prop := Claim7.holds Tryd.pinned (.plain (OpenSpec.ofChange blockOneSpec)) blockOneCard

/-- THE SECOND FORM's CARD OF 'servitorlaw22.LayRight'. -/
def layRightUptoCard : Claim7 := { stood := { row := layRightUptoRow, standIns := [], harness := (true, "f2963ad1d2a7119b6327ea73577df3289377384b669669889fde7edbb4d8405d"), looks := false }, kinds := [], alts := [], laidByText := true, laidKinds := [.listed, .data], laidTests := true, laidLooks := .later }
def LayRightUptoCardSaid : Prop := Claim7.holds Tryd.pinned (.plain (OpenSpec.upto layRightSpec)) layRightUptoCard

/-- THE SECOND FORM's CARD OF 'servitorlaw22.LayApart'. -/
def layApartUptoCard : Claim7 := { stood := { row := layApartUptoRow, standIns := [], harness := (true, "f2963ad1d2a7119b6327ea73577df3289377384b669669889fde7edbb4d8405d"), looks := false }, kinds := [], alts := [], laidByText := true, laidKinds := [.listed, .data], laidTests := true, laidLooks := .later }
def LayApartUptoCardSaid : Prop := Claim7.holds Tryd.pinned (.plain (OpenSpec.upto layApartSpec)) layApartUptoCard

/-- THE SECOND FORM's CARD OF 'servitorlaw27.BlockTells'. -/
def blockTellsUptoCard : Claim7 := { stood := { row := blockTellsUptoRow, standIns := [], harness := (true, "f2963ad1d2a7119b6327ea73577df3289377384b669669889fde7edbb4d8405d"), looks := false }, kinds := [], alts := [], laidByText := true, laidKinds := [.listed, .data], laidTests := true, laidLooks := .later }
def BlockTellsUptoCardSaid : Prop := Claim7.holds Tryd.pinned (.plain (OpenSpec.upto blockTellsSpec)) blockTellsUptoCard

/-- THE SECOND FORM's CARD OF 'servitorlaw27.BlockOne'. -/
def blockOneUptoCard : Claim7 := { stood := { row := blockOneUptoRow, standIns := [], harness := (true, "f2963ad1d2a7119b6327ea73577df3289377384b669669889fde7edbb4d8405d"), looks := false }, kinds := [], alts := [], laidByText := true, laidKinds := [.listed, .data], laidTests := true, laidLooks := .later }
def BlockOneUptoCardSaid : Prop := Claim7.holds Tryd.pinned (.plain (OpenSpec.upto blockOneSpec)) blockOneUptoCard
end Rows
end Go.Proofs.YtpgkebfdfhdliaaDoor
