/-
  DERIVED. GIVEN WITH THE SEED: THE CARDS: each row of YtedmhafpaielmaaDoorRows.lean that lists a variable, with what it lists TIED to the program's text (the seventh form; the later family's looks); each row that meets fmt, with fmt's text TOLD by the authors' own Lean function (tested against real Go, not proved from fmt's source: count such statements apart). THE CARD IS WHAT COUNTS. Prove the row's statement (the work); the ties are given (YtedmhafpaielmaaDoorTie.lean); close each card by the builder's one call (the guide's Derived/Test/ToyasCard.lean, 'card_holds'). Laid BY PROGRAM, IN A SANDBOX (cutbox-door.mjs). By AI agents, Wed Nov 11 2026. No macro, syntax, notation, axiom, sorry.
-/
import Derived.Test.YtedmhafpaielmaaDoorRows
import GoSem.ClaimSeven
namespace Go.Proofs.YtedmhafpaielmaaDoor
namespace Rows

/-- THE TIED CARD OF 'servitorlaw16.StdTimers'. -/
def stdTimersCard : Claim7 := { stood := { row := stdTimersRow, standIns := [], harness := (true, "f025d5dca9d4a3e081a5fd48988036da4913a208b18330ea24491afec696e99a"), looks := false }, kinds := [], alts := [], laidByText := true, laidKinds := [.listed, .data], laidTests := true, laidLooks := .later }
def StdTimersCardSaid : Prop := Claim7.holds Tryd.pinned (.plain (OpenSpec.ofChange stdTimersSpec)) stdTimersCard

/-- THE TIED CARD OF 'servitorlaw16.StdCounts'. -/
def stdCountsCard : Claim7 := { stood := { row := stdCountsRow, standIns := [], harness := (true, "f025d5dca9d4a3e081a5fd48988036da4913a208b18330ea24491afec696e99a"), looks := false }, kinds := [], alts := [], laidByText := true, laidKinds := [.listed, .data], laidTests := true, laidLooks := .later }
def StdCountsCardSaid : Prop := Claim7.holds Tryd.pinned (.plain (OpenSpec.ofChange stdCountsSpec)) stdCountsCard

/-- THE TIED CARD OF 'servitorlaw16.StdFlips'. -/
def stdFlipsCard : Claim7 := { stood := { row := stdFlipsRow, standIns := [], harness := (true, "f025d5dca9d4a3e081a5fd48988036da4913a208b18330ea24491afec696e99a"), looks := false }, kinds := [], alts := [], laidByText := true, laidKinds := [.listed, .data], laidTests := true, laidLooks := .later }
def StdFlipsCardSaid : Prop := Claim7.holds Tryd.pinned (.plain (OpenSpec.ofChange stdFlipsSpec)) stdFlipsCard

/-- THE TIED CARD OF 'servitorlaw16.StdPins'. -/
def stdPinsCard : Claim7 := { stood := { row := stdPinsRow, standIns := [], harness := (true, "f025d5dca9d4a3e081a5fd48988036da4913a208b18330ea24491afec696e99a"), looks := false }, kinds := [], alts := [], laidByText := true, laidKinds := [.listed, .data], laidTests := true, laidLooks := .later }
def StdPinsCardSaid : Prop := Claim7.holds Tryd.pinned (.plain (OpenSpec.ofChange stdPinsSpec)) stdPinsCard

/-- THE SECOND FORM's CARD OF 'servitorlaw16.StdTimers'. -/
def stdTimersUptoCard : Claim7 := { stood := { row := stdTimersUptoRow, standIns := [], harness := (true, "f025d5dca9d4a3e081a5fd48988036da4913a208b18330ea24491afec696e99a"), looks := false }, kinds := [], alts := [], laidByText := true, laidKinds := [.listed, .data], laidTests := true, laidLooks := .later }
def StdTimersUptoCardSaid : Prop := Claim7.holds Tryd.pinned (.plain (OpenSpec.upto stdTimersSpec)) stdTimersUptoCard

/-- THE SECOND FORM's CARD OF 'servitorlaw16.StdCounts'. -/
def stdCountsUptoCard : Claim7 := { stood := { row := stdCountsUptoRow, standIns := [], harness := (true, "f025d5dca9d4a3e081a5fd48988036da4913a208b18330ea24491afec696e99a"), looks := false }, kinds := [], alts := [], laidByText := true, laidKinds := [.listed, .data], laidTests := true, laidLooks := .later }
def StdCountsUptoCardSaid : Prop := Claim7.holds Tryd.pinned (.plain (OpenSpec.upto stdCountsSpec)) stdCountsUptoCard

/-- THE SECOND FORM's CARD OF 'servitorlaw16.StdFlips'. -/
def stdFlipsUptoCard : Claim7 := { stood := { row := stdFlipsUptoRow, standIns := [], harness := (true, "f025d5dca9d4a3e081a5fd48988036da4913a208b18330ea24491afec696e99a"), looks := false }, kinds := [], alts := [], laidByText := true, laidKinds := [.listed, .data], laidTests := true, laidLooks := .later }
def StdFlipsUptoCardSaid : Prop := Claim7.holds Tryd.pinned (.plain (OpenSpec.upto stdFlipsSpec)) stdFlipsUptoCard

/-- THE SECOND FORM's CARD OF 'servitorlaw16.StdPins'. -/
def stdPinsUptoCard : Claim7 := { stood := { row := stdPinsUptoRow, standIns := [], harness := (true, "f025d5dca9d4a3e081a5fd48988036da4913a208b18330ea24491afec696e99a"), looks := false }, kinds := [], alts := [], laidByText := true, laidKinds := [.listed, .data], laidTests := true, laidLooks := .later }
def StdPinsUptoCardSaid : Prop := Claim7.holds Tryd.pinned (.plain (OpenSpec.upto stdPinsSpec)) stdPinsUptoCard
end Rows
end Go.Proofs.YtedmhafpaielmaaDoor
