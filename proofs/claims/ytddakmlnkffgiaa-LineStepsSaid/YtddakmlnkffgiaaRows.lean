/-
  No cell of these rows narrows 'for every input' (looked for: loops, veiled, ifaces, maps, wideKeys, modest, calm, conditions, laid).
  DERIVED. THE GIVEN ROWS OF THIS SEAT. 12 by the template 'for every input the law returns true; each argument reads behind the call as it read before'; 0 by the template 'total and deterministic' (their statements: YtddakmlnkffgiaaTotals.lean).
  GIVEN WITH THE SEED: the statements are not yours to turn. If you find one false, say at which input.
  Laid BY PROGRAM, IN A SANDBOX (cutbox-rows.mjs): the forced cells as the released guide's own fill.sh prints them over the translation b77c75dbb40d282b… (all of the seat's roots in one cut). By AI agents, Wed Nov 11 2026. No macro, syntax, notation, axiom, sorry.
-/
import Derived.Test.YtddakmlnkffgiaaChecked
import GoSem.Claim
import GoSem.ClaimJoined
import GoSem.ClaimMapViews
import Derived.JoinedTies
import Derived.KernelRfl
namespace Go.Proofs.Ytddakmlnkffgiaa
/- THE CELL 'sum', in the pinned program and in every row, IS THE sha256 OF THE DUMP (.gsa) THAT YtddakmlnkffgiaaProg.lean LOADS. Nothing in Lean hashes anything: it is a label: what it is worth is what the hold of that sum in a sandbox is worth. -/
noncomputable def Try.pinned : Pinned := { name := "ytddakmlnkffgiaa", sum := "b77c75dbb40d282bda3b930af4c61587c734919f059e3071d35b2ca360cb9187", checked := Try.checked }
namespace Rows
def none {H : Type} : Left H := { results := [], args := [] }

/-- 'servitorlaw11.StateEdges': WHATEVER THE INPUT: true; the input reads as it did. -/
def stateEdgesSpec : ChangeSpec := { name := "stateEdges", fn := fun _ => fun
  | [d1, d2] => { results := [.lit (.bool true)], args := [d1, d2] }
  | _ => none }
def stateEdgesRow : OpenClaim := { program := "ytddakmlnkffgiaa", sum := "b77c75dbb40d282bda3b930af4c61587c734919f059e3071d35b2ca360cb9187", func := "servitor/servitorlaw11.StateEdges", spec := "stateEdges", apart := false }
def StateEdgesSaid : Prop := stateEdgesRow.holds Try.pinned (OpenSpec.ofChange stateEdgesSpec)

/-- ITS FALSE NEIGHBOUR: 'it returns false'. Refute it at one input. -/
def stateEdgesWrong : ChangeSpec := { name := "stateEdges", fn := fun _ => fun
  | [d1, d2] => { results := [.lit (.bool false)], args := [d1, d2] }
  | _ => none }
def StateEdgesWrongFalsely : Prop := stateEdgesRow.holds Try.pinned (OpenSpec.ofChange stateEdgesWrong)

/-- 'servitorlaw11.StateShut': WHATEVER THE INPUT: true; the input reads as it did. -/
def stateShutSpec : ChangeSpec := { name := "stateShut", fn := fun _ => fun
  | [d1, d2] => { results := [.lit (.bool true)], args := [d1, d2] }
  | _ => none }
def stateShutRow : OpenClaim := { program := "ytddakmlnkffgiaa", sum := "b77c75dbb40d282bda3b930af4c61587c734919f059e3071d35b2ca360cb9187", func := "servitor/servitorlaw11.StateShut", spec := "stateShut", apart := false }
def StateShutSaid : Prop := stateShutRow.holds Try.pinned (OpenSpec.ofChange stateShutSpec)

/-- ITS FALSE NEIGHBOUR: 'it returns false'. Refute it at one input. -/
def stateShutWrong : ChangeSpec := { name := "stateShut", fn := fun _ => fun
  | [d1, d2] => { results := [.lit (.bool false)], args := [d1, d2] }
  | _ => none }
def StateShutWrongFalsely : Prop := stateShutRow.holds Try.pinned (OpenSpec.ofChange stateShutWrong)

/-- 'servitorlaw11.StateLives': WHATEVER THE INPUT: true; the input reads as it did. -/
def stateLivesSpec : ChangeSpec := { name := "stateLives", fn := fun _ => fun
  | [d] => { results := [.lit (.bool true)], args := [d] }
  | _ => none }
def stateLivesRow : OpenClaim := { program := "ytddakmlnkffgiaa", sum := "b77c75dbb40d282bda3b930af4c61587c734919f059e3071d35b2ca360cb9187", func := "servitor/servitorlaw11.StateLives", spec := "stateLives", apart := false }
def StateLivesSaid : Prop := stateLivesRow.holds Try.pinned (OpenSpec.ofChange stateLivesSpec)

/-- ITS FALSE NEIGHBOUR: 'it returns false'. Refute it at one input. -/
def stateLivesWrong : ChangeSpec := { name := "stateLives", fn := fun _ => fun
  | [d] => { results := [.lit (.bool false)], args := [d] }
  | _ => none }
def StateLivesWrongFalsely : Prop := stateLivesRow.holds Try.pinned (OpenSpec.ofChange stateLivesWrong)

/-- 'servitorlaw13.HomeSteps': WHATEVER THE INPUT: true; the input reads as it did. -/
def homeStepsSpec : ChangeSpec := { name := "homeSteps", fn := fun _ => fun
  | [d1, d2, d3, d4, d5, d6, d7] => { results := [.lit (.bool true)], args := [d1, d2, d3, d4, d5, d6, d7] }
  | _ => none }
def homeStepsRow : OpenClaim := { program := "ytddakmlnkffgiaa", sum := "b77c75dbb40d282bda3b930af4c61587c734919f059e3071d35b2ca360cb9187", func := "servitor/servitorlaw13.HomeSteps", spec := "homeSteps", apart := false }
def HomeStepsSaid : Prop := homeStepsRow.holds Try.pinned (OpenSpec.ofChange homeStepsSpec)

/-- ITS FALSE NEIGHBOUR: 'it returns false'. Refute it at one input. -/
def homeStepsWrong : ChangeSpec := { name := "homeSteps", fn := fun _ => fun
  | [d1, d2, d3, d4, d5, d6, d7] => { results := [.lit (.bool false)], args := [d1, d2, d3, d4, d5, d6, d7] }
  | _ => none }
def HomeStepsWrongFalsely : Prop := homeStepsRow.holds Try.pinned (OpenSpec.ofChange homeStepsWrong)

/-- 'servitorlaw13.HomeEnds': WHATEVER THE INPUT: true; the input reads as it did. -/
def homeEndsSpec : ChangeSpec := { name := "homeEnds", fn := fun _ => fun
  | [d1, d2, d3] => { results := [.lit (.bool true)], args := [d1, d2, d3] }
  | _ => none }
def homeEndsRow : OpenClaim := { program := "ytddakmlnkffgiaa", sum := "b77c75dbb40d282bda3b930af4c61587c734919f059e3071d35b2ca360cb9187", func := "servitor/servitorlaw13.HomeEnds", spec := "homeEnds", apart := false }
def HomeEndsSaid : Prop := homeEndsRow.holds Try.pinned (OpenSpec.ofChange homeEndsSpec)

/-- ITS FALSE NEIGHBOUR: 'it returns false'. Refute it at one input. -/
def homeEndsWrong : ChangeSpec := { name := "homeEnds", fn := fun _ => fun
  | [d1, d2, d3] => { results := [.lit (.bool false)], args := [d1, d2, d3] }
  | _ => none }
def HomeEndsWrongFalsely : Prop := homeEndsRow.holds Try.pinned (OpenSpec.ofChange homeEndsWrong)

/-- 'servitorlaw12.LineOne': WHATEVER THE INPUT: true; the input reads as it did. -/
def lineOneSpec : ChangeSpec := { name := "lineOne", fn := fun _ => fun
  | [d] => { results := [.lit (.bool true)], args := [d] }
  | _ => none }
def lineOneRow : OpenClaim := { program := "ytddakmlnkffgiaa", sum := "b77c75dbb40d282bda3b930af4c61587c734919f059e3071d35b2ca360cb9187", func := "servitor/servitorlaw12.LineOne", spec := "lineOne", unfollowed := true, recurses := true, apart := false }
def LineOneSaid : Prop := lineOneRow.holds Try.pinned (OpenSpec.ofChange lineOneSpec)

/-- ITS FALSE NEIGHBOUR: 'it returns false'. Refute it at one input. -/
def lineOneWrong : ChangeSpec := { name := "lineOne", fn := fun _ => fun
  | [d] => { results := [.lit (.bool false)], args := [d] }
  | _ => none }
def LineOneWrongFalsely : Prop := lineOneRow.holds Try.pinned (OpenSpec.ofChange lineOneWrong)

/-- 'servitorlaw12.LineSteps': WHATEVER THE INPUT: true; the input reads as it did. -/
def lineStepsSpec : ChangeSpec := { name := "lineSteps", fn := fun _ => fun
  | [d1, d2] => { results := [.lit (.bool true)], args := [d1, d2] }
  | _ => none }
def lineStepsRow : OpenClaim := { program := "ytddakmlnkffgiaa", sum := "b77c75dbb40d282bda3b930af4c61587c734919f059e3071d35b2ca360cb9187", func := "servitor/servitorlaw12.LineSteps", spec := "lineSteps", unfollowed := true, recurses := true, apart := false }
def LineStepsSaid : Prop := lineStepsRow.holds Try.pinned (OpenSpec.ofChange lineStepsSpec)

/-- ITS FALSE NEIGHBOUR: 'it returns false'. Refute it at one input. -/
def lineStepsWrong : ChangeSpec := { name := "lineSteps", fn := fun _ => fun
  | [d1, d2] => { results := [.lit (.bool false)], args := [d1, d2] }
  | _ => none }
def LineStepsWrongFalsely : Prop := lineStepsRow.holds Try.pinned (OpenSpec.ofChange lineStepsWrong)

/-- 'servitorlaw10.SmoothBounds': WHATEVER THE INPUT: true; the input reads as it did. -/
def smoothBoundsSpec : ChangeSpec := { name := "smoothBounds", fn := fun _ => fun
  | [d1, d2, d3] => { results := [.lit (.bool true)], args := [d1, d2, d3] }
  | _ => none }
def smoothBoundsRow : OpenClaim := { program := "ytddakmlnkffgiaa", sum := "b77c75dbb40d282bda3b930af4c61587c734919f059e3071d35b2ca360cb9187", func := "servitor/servitorlaw10.SmoothBounds", spec := "smoothBounds", unfollowed := true, recurses := true, apart := false }
def SmoothBoundsSaid : Prop := smoothBoundsRow.holds Try.pinned (OpenSpec.ofChange smoothBoundsSpec)

/-- ITS FALSE NEIGHBOUR: 'it returns false'. Refute it at one input. -/
def smoothBoundsWrong : ChangeSpec := { name := "smoothBounds", fn := fun _ => fun
  | [d1, d2, d3] => { results := [.lit (.bool false)], args := [d1, d2, d3] }
  | _ => none }
def SmoothBoundsWrongFalsely : Prop := smoothBoundsRow.holds Try.pinned (OpenSpec.ofChange smoothBoundsWrong)

/-- 'servitorlaw10.SmoothRests': WHATEVER THE INPUT: true; the input reads as it did. -/
def smoothRestsSpec : ChangeSpec := { name := "smoothRests", fn := fun _ => fun
  | [d1, d2, d3, d4] => { results := [.lit (.bool true)], args := [d1, d2, d3, d4] }
  | _ => none }
def smoothRestsRow : OpenClaim := { program := "ytddakmlnkffgiaa", sum := "b77c75dbb40d282bda3b930af4c61587c734919f059e3071d35b2ca360cb9187", func := "servitor/servitorlaw10.SmoothRests", spec := "smoothRests", unfollowed := true, recurses := true, apart := false }
def SmoothRestsSaid : Prop := smoothRestsRow.holds Try.pinned (OpenSpec.ofChange smoothRestsSpec)

/-- ITS FALSE NEIGHBOUR: 'it returns false'. Refute it at one input. -/
def smoothRestsWrong : ChangeSpec := { name := "smoothRests", fn := fun _ => fun
  | [d1, d2, d3, d4] => { results := [.lit (.bool false)], args := [d1, d2, d3, d4] }
  | _ => none }
def SmoothRestsWrongFalsely : Prop := smoothRestsRow.holds Try.pinned (OpenSpec.ofChange smoothRestsWrong)

/-- 'servitorlaw10.SmoothOne': WHATEVER THE INPUT: true; the input reads as it did. -/
def smoothOneSpec : ChangeSpec := { name := "smoothOne", fn := fun _ => fun
  | [d1, d2, d3] => { results := [.lit (.bool true)], args := [d1, d2, d3] }
  | _ => none }
def smoothOneRow : OpenClaim := { program := "ytddakmlnkffgiaa", sum := "b77c75dbb40d282bda3b930af4c61587c734919f059e3071d35b2ca360cb9187", func := "servitor/servitorlaw10.SmoothOne", spec := "smoothOne", unfollowed := true, recurses := true, apart := false }
def SmoothOneSaid : Prop := smoothOneRow.holds Try.pinned (OpenSpec.ofChange smoothOneSpec)

/-- ITS FALSE NEIGHBOUR: 'it returns false'. Refute it at one input. -/
def smoothOneWrong : ChangeSpec := { name := "smoothOne", fn := fun _ => fun
  | [d1, d2, d3] => { results := [.lit (.bool false)], args := [d1, d2, d3] }
  | _ => none }
def SmoothOneWrongFalsely : Prop := smoothOneRow.holds Try.pinned (OpenSpec.ofChange smoothOneWrong)

/-- 'servitorlaw10.SmoothSteps': WHATEVER THE INPUT: true; the input reads as it did. -/
def smoothStepsSpec : ChangeSpec := { name := "smoothSteps", fn := fun _ => fun
  | [d1, d2, d3, d4] => { results := [.lit (.bool true)], args := [d1, d2, d3, d4] }
  | _ => none }
def smoothStepsRow : OpenClaim := { program := "ytddakmlnkffgiaa", sum := "b77c75dbb40d282bda3b930af4c61587c734919f059e3071d35b2ca360cb9187", func := "servitor/servitorlaw10.SmoothSteps", spec := "smoothSteps", unfollowed := true, recurses := true, apart := false }
def SmoothStepsSaid : Prop := smoothStepsRow.holds Try.pinned (OpenSpec.ofChange smoothStepsSpec)

/-- ITS FALSE NEIGHBOUR: 'it returns false'. Refute it at one input. -/
def smoothStepsWrong : ChangeSpec := { name := "smoothSteps", fn := fun _ => fun
  | [d1, d2, d3, d4] => { results := [.lit (.bool false)], args := [d1, d2, d3, d4] }
  | _ => none }
def SmoothStepsWrongFalsely : Prop := smoothStepsRow.holds Try.pinned (OpenSpec.ofChange smoothStepsWrong)

/-- 'servitorlaw10.SmoothShifts': WHATEVER THE INPUT: true; the input reads as it did. -/
def smoothShiftsSpec : ChangeSpec := { name := "smoothShifts", fn := fun _ => fun
  | [d1, d2, d3] => { results := [.lit (.bool true)], args := [d1, d2, d3] }
  | _ => none }
def smoothShiftsRow : OpenClaim := { program := "ytddakmlnkffgiaa", sum := "b77c75dbb40d282bda3b930af4c61587c734919f059e3071d35b2ca360cb9187", func := "servitor/servitorlaw10.SmoothShifts", spec := "smoothShifts", unfollowed := true, recurses := true, apart := false }
def SmoothShiftsSaid : Prop := smoothShiftsRow.holds Try.pinned (OpenSpec.ofChange smoothShiftsSpec)

/-- ITS FALSE NEIGHBOUR: 'it returns false'. Refute it at one input. -/
def smoothShiftsWrong : ChangeSpec := { name := "smoothShifts", fn := fun _ => fun
  | [d1, d2, d3] => { results := [.lit (.bool false)], args := [d1, d2, d3] }
  | _ => none }
def SmoothShiftsWrongFalsely : Prop := smoothShiftsRow.holds Try.pinned (OpenSpec.ofChange smoothShiftsWrong)

/- THE SECOND FORM. 'bulk': how many values and letters a reading holds, each counted each time it is reached (what is shared counts as often as it is met; a slice's spare places count too). A statement '..UptoSaid' is the law's where the arguments, and the package variables that the reading takes, are together of bulk at most 1048576: NARROWER than '..Said'. Prove '..Said' where nothing that the law and all that it calls make is longer than what came in: it says more and counts as full. Else prove '..UptoSaid'. A law counts once. -/
mutual
def uptoBulk {H : Type} : DataW H → Nat
  | .lit (.string bytes) => bytes.length + 1
  | .lit _ => 1
  | .nil => 1
  | .ptr d => uptoBulk d + 1
  | .slice elems spare => uptoBulkAll elems + uptoBulkAll spare + 1
  | .agg parts => uptoBulkAll parts + 1
  | .iface _ d => uptoBulk d + 1
  | .map entries => uptoBulkEntries entries + 1
  | .held _ => 1
def uptoBulkAll {H : Type} : List (DataW H) → Nat
  | [] => 0
  | d :: r => uptoBulk d + uptoBulkAll r
def uptoBulkEntries {H : Type} : List (Lit × DataW H) → Nat
  | [] => 0
  | x :: r => uptoBulkEntry x + uptoBulkEntries r
def uptoBulkEntry {H : Type} : Lit × DataW H → Nat
  | (.string bytes, d) => bytes.length + uptoBulk d + 1
  | (_, d) => uptoBulk d + 1
 end
def uptoSmall : (H : Type) → List (DataW H) → Bool := fun _ ds => decide (uptoBulkAll ds ≤ 1048576)
def OpenSpec.upto (s : _root_.Go.ChangeSpec) : _root_.Go.OpenSpec := { _root_.Go.OpenSpec.ofChange s with cond := some uptoSmall }

/-- 'servitorlaw11.StateEdges', WHERE WHAT IT READS IS OF BULK AT MOST 1048576: true; the input reads as it did. -/
def stateEdgesUptoRow : OpenClaim := { program := "ytddakmlnkffgiaa", sum := "b77c75dbb40d282bda3b930af4c61587c734919f059e3071d35b2ca360cb9187", func := "servitor/servitorlaw11.StateEdges", spec := "stateEdges", apart := false, narrowed := true }
def StateEdgesUptoSaid : Prop := stateEdgesUptoRow.holds Try.pinned (OpenSpec.upto stateEdgesSpec)

/-- 'servitorlaw11.StateShut', WHERE WHAT IT READS IS OF BULK AT MOST 1048576: true; the input reads as it did. -/
def stateShutUptoRow : OpenClaim := { program := "ytddakmlnkffgiaa", sum := "b77c75dbb40d282bda3b930af4c61587c734919f059e3071d35b2ca360cb9187", func := "servitor/servitorlaw11.StateShut", spec := "stateShut", apart := false, narrowed := true }
def StateShutUptoSaid : Prop := stateShutUptoRow.holds Try.pinned (OpenSpec.upto stateShutSpec)

/-- 'servitorlaw11.StateLives', WHERE WHAT IT READS IS OF BULK AT MOST 1048576: true; the input reads as it did. -/
def stateLivesUptoRow : OpenClaim := { program := "ytddakmlnkffgiaa", sum := "b77c75dbb40d282bda3b930af4c61587c734919f059e3071d35b2ca360cb9187", func := "servitor/servitorlaw11.StateLives", spec := "stateLives", apart := false, narrowed := true }
def StateLivesUptoSaid : Prop := stateLivesUptoRow.holds Try.pinned (OpenSpec.upto stateLivesSpec)

/-- 'servitorlaw13.HomeSteps', WHERE WHAT IT READS IS OF BULK AT MOST 1048576: true; the input reads as it did. -/
def homeStepsUptoRow : OpenClaim := { program := "ytddakmlnkffgiaa", sum := "b77c75dbb40d282bda3b930af4c61587c734919f059e3071d35b2ca360cb9187", func := "servitor/servitorlaw13.HomeSteps", spec := "homeSteps", apart := false, narrowed := true }
def HomeStepsUptoSaid : Prop := homeStepsUptoRow.holds Try.pinned (OpenSpec.upto homeStepsSpec)

/-- 'servitorlaw13.HomeEnds', WHERE WHAT IT READS IS OF BULK AT MOST 1048576: true; the input reads as it did. -/
def homeEndsUptoRow : OpenClaim := { program := "ytddakmlnkffgiaa", sum := "b77c75dbb40d282bda3b930af4c61587c734919f059e3071d35b2ca360cb9187", func := "servitor/servitorlaw13.HomeEnds", spec := "homeEnds", apart := false, narrowed := true }
def HomeEndsUptoSaid : Prop := homeEndsUptoRow.holds Try.pinned (OpenSpec.upto homeEndsSpec)

/-- 'servitorlaw12.LineOne', WHERE WHAT IT READS IS OF BULK AT MOST 1048576: true; the input reads as it did. -/
def lineOneUptoRow : OpenClaim := { program := "ytddakmlnkffgiaa", sum := "b77c75dbb40d282bda3b930af4c61587c734919f059e3071d35b2ca360cb9187", func := "servitor/servitorlaw12.LineOne", spec := "lineOne", unfollowed := true, recurses := true, apart := false, narrowed := true }
def LineOneUptoSaid : Prop := lineOneUptoRow.holds Try.pinned (OpenSpec.upto lineOneSpec)

/-- 'servitorlaw12.LineSteps', WHERE WHAT IT READS IS OF BULK AT MOST 1048576: true; the input reads as it did. -/
def lineStepsUptoRow : OpenClaim := { program := "ytddakmlnkffgiaa", sum := "b77c75dbb40d282bda3b930af4c61587c734919f059e3071d35b2ca360cb9187", func := "servitor/servitorlaw12.LineSteps", spec := "lineSteps", unfollowed := true, recurses := true, apart := false, narrowed := true }
def LineStepsUptoSaid : Prop := lineStepsUptoRow.holds Try.pinned (OpenSpec.upto lineStepsSpec)

/-- 'servitorlaw10.SmoothBounds', WHERE WHAT IT READS IS OF BULK AT MOST 1048576: true; the input reads as it did. -/
def smoothBoundsUptoRow : OpenClaim := { program := "ytddakmlnkffgiaa", sum := "b77c75dbb40d282bda3b930af4c61587c734919f059e3071d35b2ca360cb9187", func := "servitor/servitorlaw10.SmoothBounds", spec := "smoothBounds", unfollowed := true, recurses := true, apart := false, narrowed := true }
def SmoothBoundsUptoSaid : Prop := smoothBoundsUptoRow.holds Try.pinned (OpenSpec.upto smoothBoundsSpec)

/-- 'servitorlaw10.SmoothRests', WHERE WHAT IT READS IS OF BULK AT MOST 1048576: true; the input reads as it did. -/
def smoothRestsUptoRow : OpenClaim := { program := "ytddakmlnkffgiaa", sum := "b77c75dbb40d282bda3b930af4c61587c734919f059e3071d35b2ca360cb9187", func := "servitor/servitorlaw10.SmoothRests", spec := "smoothRests", unfollowed := true, recurses := true, apart := false, narrowed := true }
def SmoothRestsUptoSaid : Prop := smoothRestsUptoRow.holds Try.pinned (OpenSpec.upto smoothRestsSpec)

/-- 'servitorlaw10.SmoothOne', WHERE WHAT IT READS IS OF BULK AT MOST 1048576: true; the input reads as it did. -/
def smoothOneUptoRow : OpenClaim := { program := "ytddakmlnkffgiaa", sum := "b77c75dbb40d282bda3b930af4c61587c734919f059e3071d35b2ca360cb9187", func := "servitor/servitorlaw10.SmoothOne", spec := "smoothOne", unfollowed := true, recurses := true, apart := false, narrowed := true }
def SmoothOneUptoSaid : Prop := smoothOneUptoRow.holds Try.pinned (OpenSpec.upto smoothOneSpec)

/-- 'servitorlaw10.SmoothSteps', WHERE WHAT IT READS IS OF BULK AT MOST 1048576: true; the input reads as it did. -/
def smoothStepsUptoRow : OpenClaim := { program := "ytddakmlnkffgiaa", sum := "b77c75dbb40d282bda3b930af4c61587c734919f059e3071d35b2ca360cb9187", func := "servitor/servitorlaw10.SmoothSteps", spec := "smoothSteps", unfollowed := true, recurses := true, apart := false, narrowed := true }
def SmoothStepsUptoSaid : Prop := smoothStepsUptoRow.holds Try.pinned (OpenSpec.upto smoothStepsSpec)

/-- 'servitorlaw10.SmoothShifts', WHERE WHAT IT READS IS OF BULK AT MOST 1048576: true; the input reads as it did. -/
def smoothShiftsUptoRow : OpenClaim := { program := "ytddakmlnkffgiaa", sum := "b77c75dbb40d282bda3b930af4c61587c734919f059e3071d35b2ca360cb9187", func := "servitor/servitorlaw10.SmoothShifts", spec := "smoothShifts", unfollowed := true, recurses := true, apart := false, narrowed := true }
def SmoothShiftsUptoSaid : Prop := smoothShiftsUptoRow.holds Try.pinned (OpenSpec.upto smoothShiftsSpec)

end Rows
end Go.Proofs.Ytddakmlnkffgiaa
