/-
  No cell of these rows narrows 'for every input' (looked for: loops, veiled, ifaces, maps, wideKeys, modest, calm, conditions, laid).
  DERIVED. THE GIVEN ROWS OF THIS SEAT. 12 by the template 'for every input the law returns true; each argument reads behind the call as it read before'; 0 by the template 'total and deterministic' (their statements: YtmlndgmkjdkcfaaTotals.lean).
  GIVEN WITH THE SEED: the statements are not yours to turn. If you find one false, say at which input.
  Laid BY PROGRAM, IN A SANDBOX (cutbox-rows.mjs): the forced cells as the released guide's own fill.sh prints them over the translation e399a51986c3ddc4… (all of the seat's roots in one cut). By AI agents, Wed Nov 11 2026. No macro, syntax, notation, axiom, sorry.
-/
import Derived.Test.YtmlndgmkjdkcfaaChecked
import GoSem.Claim
import GoSem.ClaimJoined
import GoSem.ClaimMapViews
import Derived.JoinedTies
import Derived.KernelRfl
namespace Go.Proofs.Ytmlndgmkjdkcfaa
/- THE CELL 'sum', in the pinned program and in every row, IS THE sha256 OF THE DUMP (.gsa) THAT YtmlndgmkjdkcfaaProg.lean LOADS. Nothing in Lean hashes anything: it is a label: what it is worth is what the hold of that sum in a sandbox is worth. -/
noncomputable def Try.pinned : Pinned := { name := "ytmlndgmkjdkcfaa", sum := "e399a51986c3ddc4a194f118c67e4168b02c65b107038acfe471ec2799887498", checked := Try.checked }
namespace Rows
def none {H : Type} : Left H := { results := [], args := [] }

/-- 'servitorlaw08.BrakeExact': WHATEVER THE INPUT: true; the input reads as it did. -/
def brakeExactSpec : ChangeSpec := { name := "brakeExact", fn := fun _ => fun
  | [d1, d2, d3] => { results := [.lit (.bool true)], args := [d1, d2, d3] }
  | _ => none }
def brakeExactRow : OpenClaim := { program := "ytmlndgmkjdkcfaa", sum := "e399a51986c3ddc4a194f118c67e4168b02c65b107038acfe471ec2799887498", func := "servitor/servitorlaw08.BrakeExact", spec := "brakeExact", unfollowed := true, recurses := true, apart := false }
def BrakeExactSaid : Prop := brakeExactRow.holds Try.pinned (OpenSpec.ofChange brakeExactSpec)

/-- ITS FALSE NEIGHBOUR: 'it returns false'. Refute it at one input. -/
def brakeExactWrong : ChangeSpec := { name := "brakeExact", fn := fun _ => fun
  | [d1, d2, d3] => { results := [.lit (.bool false)], args := [d1, d2, d3] }
  | _ => none }
def BrakeExactWrongFalsely : Prop := brakeExactRow.holds Try.pinned (OpenSpec.ofChange brakeExactWrong)

/-- 'servitorlaw08.BrakeReach': WHATEVER THE INPUT: true; the input reads as it did. -/
def brakeReachSpec : ChangeSpec := { name := "brakeReach", fn := fun _ => fun
  | [d1, d2] => { results := [.lit (.bool true)], args := [d1, d2] }
  | _ => none }
def brakeReachRow : OpenClaim := { program := "ytmlndgmkjdkcfaa", sum := "e399a51986c3ddc4a194f118c67e4168b02c65b107038acfe471ec2799887498", func := "servitor/servitorlaw08.BrakeReach", spec := "brakeReach", unfollowed := true, recurses := true, apart := false }
def BrakeReachSaid : Prop := brakeReachRow.holds Try.pinned (OpenSpec.ofChange brakeReachSpec)

/-- ITS FALSE NEIGHBOUR: 'it returns false'. Refute it at one input. -/
def brakeReachWrong : ChangeSpec := { name := "brakeReach", fn := fun _ => fun
  | [d1, d2] => { results := [.lit (.bool false)], args := [d1, d2] }
  | _ => none }
def BrakeReachWrongFalsely : Prop := brakeReachRow.holds Try.pinned (OpenSpec.ofChange brakeReachWrong)

/-- 'servitorlaw08.BrakeStops': WHATEVER THE INPUT: true; the input reads as it did. -/
def brakeStopsSpec : ChangeSpec := { name := "brakeStops", fn := fun _ => fun
  | [d1, d2, d3] => { results := [.lit (.bool true)], args := [d1, d2, d3] }
  | _ => none }
def brakeStopsRow : OpenClaim := { program := "ytmlndgmkjdkcfaa", sum := "e399a51986c3ddc4a194f118c67e4168b02c65b107038acfe471ec2799887498", func := "servitor/servitorlaw08.BrakeStops", spec := "brakeStops", unfollowed := true, recurses := true, apart := false }
def BrakeStopsSaid : Prop := brakeStopsRow.holds Try.pinned (OpenSpec.ofChange brakeStopsSpec)

/-- ITS FALSE NEIGHBOUR: 'it returns false'. Refute it at one input. -/
def brakeStopsWrong : ChangeSpec := { name := "brakeStops", fn := fun _ => fun
  | [d1, d2, d3] => { results := [.lit (.bool false)], args := [d1, d2, d3] }
  | _ => none }
def BrakeStopsWrongFalsely : Prop := brakeStopsRow.holds Try.pinned (OpenSpec.ofChange brakeStopsWrong)

/-- 'servitorlaw08.BrakeGrows': WHATEVER THE INPUT: true; the input reads as it did. -/
def brakeGrowsSpec : ChangeSpec := { name := "brakeGrows", fn := fun _ => fun
  | [d1, d2, d3, d4, d5, d6] => { results := [.lit (.bool true)], args := [d1, d2, d3, d4, d5, d6] }
  | _ => none }
def brakeGrowsRow : OpenClaim := { program := "ytmlndgmkjdkcfaa", sum := "e399a51986c3ddc4a194f118c67e4168b02c65b107038acfe471ec2799887498", func := "servitor/servitorlaw08.BrakeGrows", spec := "brakeGrows", unfollowed := true, recurses := true, apart := false }
def BrakeGrowsSaid : Prop := brakeGrowsRow.holds Try.pinned (OpenSpec.ofChange brakeGrowsSpec)

/-- ITS FALSE NEIGHBOUR: 'it returns false'. Refute it at one input. -/
def brakeGrowsWrong : ChangeSpec := { name := "brakeGrows", fn := fun _ => fun
  | [d1, d2, d3, d4, d5, d6] => { results := [.lit (.bool false)], args := [d1, d2, d3, d4, d5, d6] }
  | _ => none }
def BrakeGrowsWrongFalsely : Prop := brakeGrowsRow.holds Try.pinned (OpenSpec.ofChange brakeGrowsWrong)

/-- 'servitorlaw08.BrakePass': WHATEVER THE INPUT: true; the input reads as it did. -/
def brakePassSpec : ChangeSpec := { name := "brakePass", fn := fun _ => fun
  | [d1, d2, d3] => { results := [.lit (.bool true)], args := [d1, d2, d3] }
  | _ => none }
def brakePassRow : OpenClaim := { program := "ytmlndgmkjdkcfaa", sum := "e399a51986c3ddc4a194f118c67e4168b02c65b107038acfe471ec2799887498", func := "servitor/servitorlaw08.BrakePass", spec := "brakePass", unfollowed := true, recurses := true, apart := false }
def BrakePassSaid : Prop := brakePassRow.holds Try.pinned (OpenSpec.ofChange brakePassSpec)

/-- ITS FALSE NEIGHBOUR: 'it returns false'. Refute it at one input. -/
def brakePassWrong : ChangeSpec := { name := "brakePass", fn := fun _ => fun
  | [d1, d2, d3] => { results := [.lit (.bool false)], args := [d1, d2, d3] }
  | _ => none }
def BrakePassWrongFalsely : Prop := brakePassRow.holds Try.pinned (OpenSpec.ofChange brakePassWrong)

/-- 'servitorlaw09.GenSafe': WHATEVER THE INPUT: true; the input reads as it did. -/
def genSafeSpec : ChangeSpec := { name := "genSafe", fn := fun _ => fun
  | [d1, d2, d3] => { results := [.lit (.bool true)], args := [d1, d2, d3] }
  | _ => none }
def genSafeRow : OpenClaim := { program := "ytmlndgmkjdkcfaa", sum := "e399a51986c3ddc4a194f118c67e4168b02c65b107038acfe471ec2799887498", func := "servitor/servitorlaw09.GenSafe", spec := "genSafe", unfollowed := true, recurses := true, apart := false }
def GenSafeSaid : Prop := genSafeRow.holds Try.pinned (OpenSpec.ofChange genSafeSpec)

/-- ITS FALSE NEIGHBOUR: 'it returns false'. Refute it at one input. -/
def genSafeWrong : ChangeSpec := { name := "genSafe", fn := fun _ => fun
  | [d1, d2, d3] => { results := [.lit (.bool false)], args := [d1, d2, d3] }
  | _ => none }
def GenSafeWrongFalsely : Prop := genSafeRow.holds Try.pinned (OpenSpec.ofChange genSafeWrong)

/-- 'servitorlaw09.GenBetween': WHATEVER THE INPUT: true; the input reads as it did. -/
def genBetweenSpec : ChangeSpec := { name := "genBetween", fn := fun _ => fun
  | [d1, d2, d3, d4] => { results := [.lit (.bool true)], args := [d1, d2, d3, d4] }
  | _ => none }
def genBetweenRow : OpenClaim := { program := "ytmlndgmkjdkcfaa", sum := "e399a51986c3ddc4a194f118c67e4168b02c65b107038acfe471ec2799887498", func := "servitor/servitorlaw09.GenBetween", spec := "genBetween", unfollowed := true, recurses := true, apart := false }
def GenBetweenSaid : Prop := genBetweenRow.holds Try.pinned (OpenSpec.ofChange genBetweenSpec)

/-- ITS FALSE NEIGHBOUR: 'it returns false'. Refute it at one input. -/
def genBetweenWrong : ChangeSpec := { name := "genBetween", fn := fun _ => fun
  | [d1, d2, d3, d4] => { results := [.lit (.bool false)], args := [d1, d2, d3, d4] }
  | _ => none }
def GenBetweenWrongFalsely : Prop := genBetweenRow.holds Try.pinned (OpenSpec.ofChange genBetweenWrong)

/-- 'servitorlaw09.GenStops': WHATEVER THE INPUT: true; the input reads as it did. -/
def genStopsSpec : ChangeSpec := { name := "genStops", fn := fun _ => fun
  | [d1, d2] => { results := [.lit (.bool true)], args := [d1, d2] }
  | _ => none }
def genStopsRow : OpenClaim := { program := "ytmlndgmkjdkcfaa", sum := "e399a51986c3ddc4a194f118c67e4168b02c65b107038acfe471ec2799887498", func := "servitor/servitorlaw09.GenStops", spec := "genStops", unfollowed := true, recurses := true, apart := false }
def GenStopsSaid : Prop := genStopsRow.holds Try.pinned (OpenSpec.ofChange genStopsSpec)

/-- ITS FALSE NEIGHBOUR: 'it returns false'. Refute it at one input. -/
def genStopsWrong : ChangeSpec := { name := "genStops", fn := fun _ => fun
  | [d1, d2] => { results := [.lit (.bool false)], args := [d1, d2] }
  | _ => none }
def GenStopsWrongFalsely : Prop := genStopsRow.holds Try.pinned (OpenSpec.ofChange genStopsWrong)

/-- 'servitorlaw09.GenLands': WHATEVER THE INPUT: true; the input reads as it did. -/
def genLandsSpec : ChangeSpec := { name := "genLands", fn := fun _ => fun
  | [d1, d2, d3, d4] => { results := [.lit (.bool true)], args := [d1, d2, d3, d4] }
  | _ => none }
def genLandsRow : OpenClaim := { program := "ytmlndgmkjdkcfaa", sum := "e399a51986c3ddc4a194f118c67e4168b02c65b107038acfe471ec2799887498", func := "servitor/servitorlaw09.GenLands", spec := "genLands", unfollowed := true, recurses := true, apart := false }
def GenLandsSaid : Prop := genLandsRow.holds Try.pinned (OpenSpec.ofChange genLandsSpec)

/-- ITS FALSE NEIGHBOUR: 'it returns false'. Refute it at one input. -/
def genLandsWrong : ChangeSpec := { name := "genLands", fn := fun _ => fun
  | [d1, d2, d3, d4] => { results := [.lit (.bool false)], args := [d1, d2, d3, d4] }
  | _ => none }
def GenLandsWrongFalsely : Prop := genLandsRow.holds Try.pinned (OpenSpec.ofChange genLandsWrong)

/-- 'servitorlaw09.GenRight': WHATEVER THE INPUT: true; the input reads as it did. -/
def genRightSpec : ChangeSpec := { name := "genRight", fn := fun _ => fun
  | [d1, d2, d3, d4, d5, d6, d7] => { results := [.lit (.bool true)], args := [d1, d2, d3, d4, d5, d6, d7] }
  | _ => none }
def genRightRow : OpenClaim := { program := "ytmlndgmkjdkcfaa", sum := "e399a51986c3ddc4a194f118c67e4168b02c65b107038acfe471ec2799887498", func := "servitor/servitorlaw09.GenRight", spec := "genRight", unfollowed := true, recurses := true, apart := false }
def GenRightSaid : Prop := genRightRow.holds Try.pinned (OpenSpec.ofChange genRightSpec)

/-- ITS FALSE NEIGHBOUR: 'it returns false'. Refute it at one input. -/
def genRightWrong : ChangeSpec := { name := "genRight", fn := fun _ => fun
  | [d1, d2, d3, d4, d5, d6, d7] => { results := [.lit (.bool false)], args := [d1, d2, d3, d4, d5, d6, d7] }
  | _ => none }
def GenRightWrongFalsely : Prop := genRightRow.holds Try.pinned (OpenSpec.ofChange genRightWrong)

/-- 'servitorlaw09.GenPasses': WHATEVER THE INPUT: true; the input reads as it did. -/
def genPassesSpec : ChangeSpec := { name := "genPasses", fn := fun _ => fun
  | [d1, d2, d3, d4, d5, d6] => { results := [.lit (.bool true)], args := [d1, d2, d3, d4, d5, d6] }
  | _ => none }
def genPassesRow : OpenClaim := { program := "ytmlndgmkjdkcfaa", sum := "e399a51986c3ddc4a194f118c67e4168b02c65b107038acfe471ec2799887498", func := "servitor/servitorlaw09.GenPasses", spec := "genPasses", unfollowed := true, recurses := true, apart := false }
def GenPassesSaid : Prop := genPassesRow.holds Try.pinned (OpenSpec.ofChange genPassesSpec)

/-- ITS FALSE NEIGHBOUR: 'it returns false'. Refute it at one input. -/
def genPassesWrong : ChangeSpec := { name := "genPasses", fn := fun _ => fun
  | [d1, d2, d3, d4, d5, d6] => { results := [.lit (.bool false)], args := [d1, d2, d3, d4, d5, d6] }
  | _ => none }
def GenPassesWrongFalsely : Prop := genPassesRow.holds Try.pinned (OpenSpec.ofChange genPassesWrong)

/-- 'servitorlaw13.HomeFinds': WHATEVER THE INPUT: true; the input reads as it did. -/
def homeFindsSpec : ChangeSpec := { name := "homeFinds", fn := fun _ => fun
  | [d1, d2, d3, d4, d5] => { results := [.lit (.bool true)], args := [d1, d2, d3, d4, d5] }
  | _ => none }
def homeFindsRow : OpenClaim := { program := "ytmlndgmkjdkcfaa", sum := "e399a51986c3ddc4a194f118c67e4168b02c65b107038acfe471ec2799887498", func := "servitor/servitorlaw13.HomeFinds", spec := "homeFinds", unfollowed := true, recurses := true, apart := false }
def HomeFindsSaid : Prop := homeFindsRow.holds Try.pinned (OpenSpec.ofChange homeFindsSpec)

/-- ITS FALSE NEIGHBOUR: 'it returns false'. Refute it at one input. -/
def homeFindsWrong : ChangeSpec := { name := "homeFinds", fn := fun _ => fun
  | [d1, d2, d3, d4, d5] => { results := [.lit (.bool false)], args := [d1, d2, d3, d4, d5] }
  | _ => none }
def HomeFindsWrongFalsely : Prop := homeFindsRow.holds Try.pinned (OpenSpec.ofChange homeFindsWrong)

/- THE SECOND FORM. 'bulk': how many values and letters a reading holds, each counted each time it is reached (what is shared counts as often as it is met; a slice's spare places count too). A statement '..UptoSaid' is the law's where the arguments, and the package variables that the reading takes, are together of bulk at most 1048576: NARROWER than '..Said'. Prove '..Said' where nothing that the law and all that it calls make is longer than what came in: it says more and counts as full. Else prove '..UptoSaid'. A law counts once. -/
mutual
def uptoBulk {H : Type} : DataW H → Nat
  | .lit (.string bytes) => bytes.length + 1
  | .lit _ => 1
  | .nil => 1
  | .ptr d => uptoBulk d + 1
  | .slice elems spare => uptoBulkAll elems + uptoBulkAll spare + 1
  | .agg parts => uptoBulkAll parts + 1
  | .iface _ d => uptoBulk d + 1
  | .map entries => uptoBulkEntries entries + 1
  | .held _ => 1
def uptoBulkAll {H : Type} : List (DataW H) → Nat
  | [] => 0
  | d :: r => uptoBulk d + uptoBulkAll r
def uptoBulkEntries {H : Type} : List (Lit × DataW H) → Nat
  | [] => 0
  | x :: r => uptoBulkEntry x + uptoBulkEntries r
def uptoBulkEntry {H : Type} : Lit × DataW H → Nat
  | (.string bytes, d) => bytes.length + uptoBulk d + 1
  | (_, d) => uptoBulk d + 1
 end
def uptoSmall : (H : Type) → List (DataW H) → Bool := fun _ ds => decide (uptoBulkAll ds ≤ 1048576)
def OpenSpec.upto (s : _root_.Go.ChangeSpec) : _root_.Go.OpenSpec := { _root_.Go.OpenSpec.ofChange s with cond := some uptoSmall }

/-- 'servitorlaw08.BrakeExact', WHERE WHAT IT READS IS OF BULK AT MOST 1048576: true; the input reads as it did. -/
def brakeExactUptoRow : OpenClaim := { program := "ytmlndgmkjdkcfaa", sum := "e399a51986c3ddc4a194f118c67e4168b02c65b107038acfe471ec2799887498", func := "servitor/servitorlaw08.BrakeExact", spec := "brakeExact", unfollowed := true, recurses := true, apart := false, narrowed := true }
def BrakeExactUptoSaid : Prop := brakeExactUptoRow.holds Try.pinned (OpenSpec.upto brakeExactSpec)

/-- 'servitorlaw08.BrakeReach', WHERE WHAT IT READS IS OF BULK AT MOST 1048576: true; the input reads as it did. -/
def brakeReachUptoRow : OpenClaim := { program := "ytmlndgmkjdkcfaa", sum := "e399a51986c3ddc4a194f118c67e4168b02c65b107038acfe471ec2799887498", func := "servitor/servitorlaw08.BrakeReach", spec := "brakeReach", unfollowed := true, recurses := true, apart := false, narrowed := true }
def BrakeReachUptoSaid : Prop := brakeReachUptoRow.holds Try.pinned (OpenSpec.upto brakeReachSpec)

/-- 'servitorlaw08.BrakeStops', WHERE WHAT IT READS IS OF BULK AT MOST 1048576: true; the input reads as it did. -/
def brakeStopsUptoRow : OpenClaim := { program := "ytmlndgmkjdkcfaa", sum := "e399a51986c3ddc4a194f118c67e4168b02c65b107038acfe471ec2799887498", func := "servitor/servitorlaw08.BrakeStops", spec := "brakeStops", unfollowed := true, recurses := true, apart := false, narrowed := true }
def BrakeStopsUptoSaid : Prop := brakeStopsUptoRow.holds Try.pinned (OpenSpec.upto brakeStopsSpec)

/-- 'servitorlaw08.BrakeGrows', WHERE WHAT IT READS IS OF BULK AT MOST 1048576: true; the input reads as it did. -/
def brakeGrowsUptoRow : OpenClaim := { program := "ytmlndgmkjdkcfaa", sum := "e399a51986c3ddc4a194f118c67e4168b02c65b107038acfe471ec2799887498", func := "servitor/servitorlaw08.BrakeGrows", spec := "brakeGrows", unfollowed := true, recurses := true, apart := false, narrowed := true }
def BrakeGrowsUptoSaid : Prop := brakeGrowsUptoRow.holds Try.pinned (OpenSpec.upto brakeGrowsSpec)

/-- 'servitorlaw08.BrakePass', WHERE WHAT IT READS IS OF BULK AT MOST 1048576: true; the input reads as it did. -/
def brakePassUptoRow : OpenClaim := { program := "ytmlndgmkjdkcfaa", sum := "e399a51986c3ddc4a194f118c67e4168b02c65b107038acfe471ec2799887498", func := "servitor/servitorlaw08.BrakePass", spec := "brakePass", unfollowed := true, recurses := true, apart := false, narrowed := true }
def BrakePassUptoSaid : Prop := brakePassUptoRow.holds Try.pinned (OpenSpec.upto brakePassSpec)

/-- 'servitorlaw09.GenSafe', WHERE WHAT IT READS IS OF BULK AT MOST 1048576: true; the input reads as it did. -/
def genSafeUptoRow : OpenClaim := { program := "ytmlndgmkjdkcfaa", sum := "e399a51986c3ddc4a194f118c67e4168b02c65b107038acfe471ec2799887498", func := "servitor/servitorlaw09.GenSafe", spec := "genSafe", unfollowed := true, recurses := true, apart := false, narrowed := true }
def GenSafeUptoSaid : Prop := genSafeUptoRow.holds Try.pinned (OpenSpec.upto genSafeSpec)

/-- 'servitorlaw09.GenBetween', WHERE WHAT IT READS IS OF BULK AT MOST 1048576: true; the input reads as it did. -/
def genBetweenUptoRow : OpenClaim := { program := "ytmlndgmkjdkcfaa", sum := "e399a51986c3ddc4a194f118c67e4168b02c65b107038acfe471ec2799887498", func := "servitor/servitorlaw09.GenBetween", spec := "genBetween", unfollowed := true, recurses := true, apart := false, narrowed := true }
def GenBetweenUptoSaid : Prop := genBetweenUptoRow.holds Try.pinned (OpenSpec.upto genBetweenSpec)

/-- 'servitorlaw09.GenStops', WHERE WHAT IT READS IS OF BULK AT MOST 1048576: true; the input reads as it did. -/
def genStopsUptoRow : OpenClaim := { program := "ytmlndgmkjdkcfaa", sum := "e399a51986c3ddc4a194f118c67e4168b02c65b107038acfe471ec2799887498", func := "servitor/servitorlaw09.GenStops", spec := "genStops", unfollowed := true, recurses := true, apart := false, narrowed := true }
def GenStopsUptoSaid : Prop := genStopsUptoRow.holds Try.pinned (OpenSpec.upto genStopsSpec)

/-- 'servitorlaw09.GenLands', WHERE WHAT IT READS IS OF BULK AT MOST 1048576: true; the input reads as it did. -/
def genLandsUptoRow : OpenClaim := { program := "ytmlndgmkjdkcfaa", sum := "e399a51986c3ddc4a194f118c67e4168b02c65b107038acfe471ec2799887498", func := "servitor/servitorlaw09.GenLands", spec := "genLands", unfollowed := true, recurses := true, apart := false, narrowed := true }
def GenLandsUptoSaid : Prop := genLandsUptoRow.holds Try.pinned (OpenSpec.upto genLandsSpec)

/-- 'servitorlaw09.GenRight', WHERE WHAT IT READS IS OF BULK AT MOST 1048576: true; the input reads as it did. -/
def genRightUptoRow : OpenClaim := { program := "ytmlndgmkjdkcfaa", sum := "e399a51986c3ddc4a194f118c67e4168b02c65b107038acfe471ec2799887498", func := "servitor/servitorlaw09.GenRight", spec := "genRight", unfollowed := true, recurses := true, apart := false, narrowed := true }
def GenRightUptoSaid : Prop := genRightUptoRow.holds Try.pinned (OpenSpec.upto genRightSpec)

/-- 'servitorlaw09.GenPasses', WHERE WHAT IT READS IS OF BULK AT MOST 1048576: true; the input reads as it did. -/
def genPassesUptoRow : OpenClaim := { program := "ytmlndgmkjdkcfaa", sum := "e399a51986c3ddc4a194f118c67e4168b02c65b107038acfe471ec2799887498", func := "servitor/servitorlaw09.GenPasses", spec := "genPasses", unfollowed := true, recurses := true, apart := false, narrowed := true }
def GenPassesUptoSaid : Prop := genPassesUptoRow.holds Try.pinned (OpenSpec.upto genPassesSpec)

/-- 'servitorlaw13.HomeFinds', WHERE WHAT IT READS IS OF BULK AT MOST 1048576: true; the input reads as it did. -/
def homeFindsUptoRow : OpenClaim := { program := "ytmlndgmkjdkcfaa", sum := "e399a51986c3ddc4a194f118c67e4168b02c65b107038acfe471ec2799887498", func := "servitor/servitorlaw13.HomeFinds", spec := "homeFinds", unfollowed := true, recurses := true, apart := false, narrowed := true }
def HomeFindsUptoSaid : Prop := homeFindsUptoRow.holds Try.pinned (OpenSpec.upto homeFindsSpec)

end Rows
end Go.Proofs.Ytmlndgmkjdkcfaa
