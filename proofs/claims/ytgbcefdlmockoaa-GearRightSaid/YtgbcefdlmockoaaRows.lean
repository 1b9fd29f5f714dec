/-
  No cell of these rows narrows 'for every input' (looked for: loops, veiled, ifaces, maps, wideKeys, modest, calm, conditions, laid).
  DERIVED. THE GIVEN ROWS OF THIS SEAT. 9 by the template 'for every input the law returns true; each argument reads behind the call as it read before'; 0 by the template 'total and deterministic' (their statements: YtgbcefdlmockoaaTotals.lean).
  GIVEN WITH THE SEED: the statements are not yours to turn. If you find one false, say at which input.
  Laid BY PROGRAM, IN A SANDBOX (cutbox-rows.mjs): the forced cells as the released guide's own fill.sh prints them over the translation 1679a0300d54de61… (all of the seat's roots in one cut). By AI agents, Wed Nov 11 2026. No macro, syntax, notation, axiom, sorry.
-/
import Derived.Test.YtgbcefdlmockoaaChecked
import GoSem.Claim
import GoSem.ClaimJoined
import GoSem.ClaimMapViews
import Derived.JoinedTies
import Derived.KernelRfl
namespace Go.Proofs.Ytgbcefdlmockoaa
/- THE CELL 'sum', in the pinned program and in every row, IS THE sha256 OF THE DUMP (.gsa) THAT YtgbcefdlmockoaaProg.lean LOADS. Nothing in Lean hashes anything: it is a label: what it is worth is what the hold of that sum in a sandbox is worth. -/
noncomputable def Try.pinned : Pinned := { name := "ytgbcefdlmockoaa", sum := "1679a0300d54de61c8d35626fb972501894eac97e74ec5cd48832b77048d889e", checked := Try.checked }
namespace Rows
def none {H : Type} : Left H := { results := [], args := [] }

/-- 'servitorlaw01.QMulDiv': WHATEVER THE INPUT: true; the input reads as it did. -/
def qMulDivSpec : ChangeSpec := { name := "qMulDiv", fn := fun _ => fun
  | [d1, d2, d3] => { results := [.lit (.bool true)], args := [d1, d2, d3] }
  | _ => none }
def qMulDivRow : OpenClaim := { program := "ytgbcefdlmockoaa", sum := "1679a0300d54de61c8d35626fb972501894eac97e74ec5cd48832b77048d889e", func := "servitor/servitorlaw01.QMulDiv", spec := "qMulDiv", named := ["math/bits.divideError", "math/bits.overflowError"], apart := false }
def QMulDivSaid : Prop := qMulDivRow.holds Try.pinned (OpenSpec.ofChange qMulDivSpec)

/-- ITS FALSE NEIGHBOUR: 'it returns false'. Refute it at one input. -/
def qMulDivWrong : ChangeSpec := { name := "qMulDiv", fn := fun _ => fun
  | [d1, d2, d3] => { results := [.lit (.bool false)], args := [d1, d2, d3] }
  | _ => none }
def QMulDivWrongFalsely : Prop := qMulDivRow.holds Try.pinned (OpenSpec.ofChange qMulDivWrong)

/-- 'servitorlaw01.QRoots': WHATEVER THE INPUT: true; the input reads as it did. -/
def qRootsSpec : ChangeSpec := { name := "qRoots", fn := fun _ => fun
  | [d1, d2, d3] => { results := [.lit (.bool true)], args := [d1, d2, d3] }
  | _ => none }
def qRootsRow : OpenClaim := { program := "ytgbcefdlmockoaa", sum := "1679a0300d54de61c8d35626fb972501894eac97e74ec5cd48832b77048d889e", func := "servitor/servitorlaw01.QRoots", spec := "qRoots", named := ["math/bits.divideError", "math/bits.overflowError"], apart := false }
def QRootsSaid : Prop := qRootsRow.holds Try.pinned (OpenSpec.ofChange qRootsSpec)

/-- ITS FALSE NEIGHBOUR: 'it returns false'. Refute it at one input. -/
def qRootsWrong : ChangeSpec := { name := "qRoots", fn := fun _ => fun
  | [d1, d2, d3] => { results := [.lit (.bool false)], args := [d1, d2, d3] }
  | _ => none }
def QRootsWrongFalsely : Prop := qRootsRow.holds Try.pinned (OpenSpec.ofChange qRootsWrong)

/-- 'servitorlaw01.QSquares': WHATEVER THE INPUT: true; the input reads as it did. -/
def qSquaresSpec : ChangeSpec := { name := "qSquares", fn := fun _ => fun
  | [d] => { results := [.lit (.bool true)], args := [d] }
  | _ => none }
def qSquaresRow : OpenClaim := { program := "ytgbcefdlmockoaa", sum := "1679a0300d54de61c8d35626fb972501894eac97e74ec5cd48832b77048d889e", func := "servitor/servitorlaw01.QSquares", spec := "qSquares", named := ["math/bits.divideError", "math/bits.overflowError"], apart := false }
def QSquaresSaid : Prop := qSquaresRow.holds Try.pinned (OpenSpec.ofChange qSquaresSpec)

/-- ITS FALSE NEIGHBOUR: 'it returns false'. Refute it at one input. -/
def qSquaresWrong : ChangeSpec := { name := "qSquares", fn := fun _ => fun
  | [d] => { results := [.lit (.bool false)], args := [d] }
  | _ => none }
def QSquaresWrongFalsely : Prop := qSquaresRow.holds Try.pinned (OpenSpec.ofChange qSquaresWrong)

/-- 'servitorlaw01.QOrder': WHATEVER THE INPUT: true; the input reads as it did. -/
def qOrderSpec : ChangeSpec := { name := "qOrder", fn := fun _ => fun
  | [d1, d2, d3] => { results := [.lit (.bool true)], args := [d1, d2, d3] }
  | _ => none }
def qOrderRow : OpenClaim := { program := "ytgbcefdlmockoaa", sum := "1679a0300d54de61c8d35626fb972501894eac97e74ec5cd48832b77048d889e", func := "servitor/servitorlaw01.QOrder", spec := "qOrder", named := ["math/bits.divideError", "math/bits.overflowError"], apart := false }
def QOrderSaid : Prop := qOrderRow.holds Try.pinned (OpenSpec.ofChange qOrderSpec)

/-- ITS FALSE NEIGHBOUR: 'it returns false'. Refute it at one input. -/
def qOrderWrong : ChangeSpec := { name := "qOrder", fn := fun _ => fun
  | [d1, d2, d3] => { results := [.lit (.bool false)], args := [d1, d2, d3] }
  | _ => none }
def QOrderWrongFalsely : Prop := qOrderRow.holds Try.pinned (OpenSpec.ofChange qOrderWrong)

/-- 'servitorlaw01.QRight': WHATEVER THE INPUT: true; the input reads as it did. -/
def qRightSpec : ChangeSpec := { name := "qRight", fn := fun _ => fun
  | [d1, d2] => { results := [.lit (.bool true)], args := [d1, d2] }
  | _ => none }
def qRightRow : OpenClaim := { program := "ytgbcefdlmockoaa", sum := "1679a0300d54de61c8d35626fb972501894eac97e74ec5cd48832b77048d889e", func := "servitor/servitorlaw01.QRight", spec := "qRight", named := ["math/bits.divideError", "math/bits.overflowError"], apart := false }
def QRightSaid : Prop := qRightRow.holds Try.pinned (OpenSpec.ofChange qRightSpec)

/-- ITS FALSE NEIGHBOUR: 'it returns false'. Refute it at one input. -/
def qRightWrong : ChangeSpec := { name := "qRight", fn := fun _ => fun
  | [d1, d2] => { results := [.lit (.bool false)], args := [d1, d2] }
  | _ => none }
def QRightWrongFalsely : Prop := qRightRow.holds Try.pinned (OpenSpec.ofChange qRightWrong)

/-- 'servitorlaw01.QLaws': WHATEVER THE INPUT: true; the input reads as it did. -/
def qLawsSpec : ChangeSpec := { name := "qLaws", fn := fun _ => fun
  | [d1, d2] => { results := [.lit (.bool true)], args := [d1, d2] }
  | _ => none }
def qLawsRow : OpenClaim := { program := "ytgbcefdlmockoaa", sum := "1679a0300d54de61c8d35626fb972501894eac97e74ec5cd48832b77048d889e", func := "servitor/servitorlaw01.QLaws", spec := "qLaws", named := ["math/bits.divideError", "math/bits.overflowError"], apart := false }
def QLawsSaid : Prop := qLawsRow.holds Try.pinned (OpenSpec.ofChange qLawsSpec)

/-- ITS FALSE NEIGHBOUR: 'it returns false'. Refute it at one input. -/
def qLawsWrong : ChangeSpec := { name := "qLaws", fn := fun _ => fun
  | [d1, d2] => { results := [.lit (.bool false)], args := [d1, d2] }
  | _ => none }
def QLawsWrongFalsely : Prop := qLawsRow.holds Try.pinned (OpenSpec.ofChange qLawsWrong)

/-- 'servitorlaw14.GearOne': WHATEVER THE INPUT: true; the input reads as it did. -/
def gearOneSpec : ChangeSpec := { name := "gearOne", fn := fun _ => fun
  | [d1, d2, d3, d4] => { results := [.lit (.bool true)], args := [d1, d2, d3, d4] }
  | _ => none }
def gearOneRow : OpenClaim := { program := "ytgbcefdlmockoaa", sum := "1679a0300d54de61c8d35626fb972501894eac97e74ec5cd48832b77048d889e", func := "servitor/servitorlaw14.GearOne", spec := "gearOne", named := ["math/bits.divideError", "math/bits.overflowError"], apart := false }
def GearOneSaid : Prop := gearOneRow.holds Try.pinned (OpenSpec.ofChange gearOneSpec)

/-- ITS FALSE NEIGHBOUR: 'it returns false'. Refute it at one input. -/
def gearOneWrong : ChangeSpec := { name := "gearOne", fn := fun _ => fun
  | [d1, d2, d3, d4] => { results := [.lit (.bool false)], args := [d1, d2, d3, d4] }
  | _ => none }
def GearOneWrongFalsely : Prop := gearOneRow.holds Try.pinned (OpenSpec.ofChange gearOneWrong)

/-- 'servitorlaw14.GearRight': WHATEVER THE INPUT: true; the input reads as it did. -/
def gearRightSpec : ChangeSpec := { name := "gearRight", fn := fun _ => fun
  | [d1, d2, d3, d4, d5, d6, d7] => { results := [.lit (.bool true)], args := [d1, d2, d3, d4, d5, d6, d7] }
  | _ => none }
def gearRightRow : OpenClaim := { program := "ytgbcefdlmockoaa", sum := "1679a0300d54de61c8d35626fb972501894eac97e74ec5cd48832b77048d889e", func := "servitor/servitorlaw14.GearRight", spec := "gearRight", unfollowed := true, recurses := true, named := ["math/bits.divideError", "math/bits.overflowError"], apart := false }
def GearRightSaid : Prop := gearRightRow.holds Try.pinned (OpenSpec.ofChange gearRightSpec)

/-- ITS FALSE NEIGHBOUR: 'it returns false'. Refute it at one input. -/
def gearRightWrong : ChangeSpec := { name := "gearRight", fn := fun _ => fun
  | [d1, d2, d3, d4, d5, d6, d7] => { results := [.lit (.bool false)], args := [d1, d2, d3, d4, d5, d6, d7] }
  | _ => none }
def GearRightWrongFalsely : Prop := gearRightRow.holds Try.pinned (OpenSpec.ofChange gearRightWrong)

/-- 'servitorlaw14.GearKeeps': WHATEVER THE INPUT: true; the input reads as it did. -/
def gearKeepsSpec : ChangeSpec := { name := "gearKeeps", fn := fun _ => fun
  | [d1, d2, d3, d4, d5] => { results := [.lit (.bool true)], args := [d1, d2, d3, d4, d5] }
  | _ => none }
def gearKeepsRow : OpenClaim := { program := "ytgbcefdlmockoaa", sum := "1679a0300d54de61c8d35626fb972501894eac97e74ec5cd48832b77048d889e", func := "servitor/servitorlaw14.GearKeeps", spec := "gearKeeps", unfollowed := true, recurses := true, named := ["math/bits.divideError", "math/bits.overflowError"], apart := false }
def GearKeepsSaid : Prop := gearKeepsRow.holds Try.pinned (OpenSpec.ofChange gearKeepsSpec)

/-- ITS FALSE NEIGHBOUR: 'it returns false'. Refute it at one input. -/
def gearKeepsWrong : ChangeSpec := { name := "gearKeeps", fn := fun _ => fun
  | [d1, d2, d3, d4, d5] => { results := [.lit (.bool false)], args := [d1, d2, d3, d4, d5] }
  | _ => none }
def GearKeepsWrongFalsely : Prop := gearKeepsRow.holds Try.pinned (OpenSpec.ofChange gearKeepsWrong)

/- THE SECOND FORM. 'bulk': how many values and letters a reading holds, each counted each time it is reached (what is shared counts as often as it is met; a slice's spare places count too). A statement '..UptoSaid' is the law's where the arguments, and the package variables that the reading takes, are together of bulk at most 1048576: NARROWER than '..Said'. Prove '..Said' where nothing that the law and all that it calls make is longer than what came in: it says more and counts as full. Else prove '..UptoSaid'. A law counts once. -/
mutual
def uptoBulk {H : Type} : DataW H → Nat
  | .lit (.string bytes) => bytes.length + 1
  | .lit _ => 1
  | .nil => 1
  | .ptr d => uptoBulk d + 1
  | .slice elems spare => uptoBulkAll elems + uptoBulkAll spare + 1
  | .agg parts => uptoBulkAll parts + 1
  | .iface _ d => uptoBulk d + 1
  | .map entries => uptoBulkEntries entries + 1
  | .held _ => 1
def uptoBulkAll {H : Type} : List (DataW H) → Nat
  | [] => 0
  | d :: r => uptoBulk d + uptoBulkAll r
def uptoBulkEntries {H : Type} : List (Lit × DataW H) → Nat
  | [] => 0
  | x :: r => uptoBulkEntry x + uptoBulkEntries r
def uptoBulkEntry {H : Type} : Lit × DataW H → Nat
  | (.string bytes, d) => bytes.length + uptoBulk d + 1
  | (_, d) => uptoBulk d + 1
 end
def uptoSmall : (H : Type) → List (DataW H) → Bool := fun _ ds => decide (uptoBulkAll ds ≤ 1048576)
def OpenSpec.upto (s : _root_.Go.ChangeSpec) : _root_.Go.OpenSpec := { _root_.Go.OpenSpec.ofChange s with cond := some uptoSmall }

/-- 'servitorlaw01.QMulDiv', WHERE WHAT IT READS IS OF BULK AT MOST 1048576: true; the input reads as it did. -/
def qMulDivUptoRow : OpenClaim := { program := "ytgbcefdlmockoaa", sum := "1679a0300d54de61c8d35626fb972501894eac97e74ec5cd48832b77048d889e", func := "servitor/servitorlaw01.QMulDiv", spec := "qMulDiv", named := ["math/bits.divideError", "math/bits.overflowError"], apart := false, narrowed := true }
def QMulDivUptoSaid : Prop := qMulDivUptoRow.holds Try.pinned (OpenSpec.upto qMulDivSpec)

/-- 'servitorlaw01.QRoots', WHERE WHAT IT READS IS OF BULK AT MOST 1048576: true; the input reads as it did. -/
def qRootsUptoRow : OpenClaim := { program := "ytgbcefdlmockoaa", sum := "1679a0300d54de61c8d35626fb972501894eac97e74ec5cd48832b77048d889e", func := "servitor/servitorlaw01.QRoots", spec := "qRoots", named := ["math/bits.divideError", "math/bits.overflowError"], apart := false, narrowed := true }
def QRootsUptoSaid : Prop := qRootsUptoRow.holds Try.pinned (OpenSpec.upto qRootsSpec)

/-- 'servitorlaw01.QSquares', WHERE WHAT IT READS IS OF BULK AT MOST 1048576: true; the input reads as it did. -/
def qSquaresUptoRow : OpenClaim := { program := "ytgbcefdlmockoaa", sum := "1679a0300d54de61c8d35626fb972501894eac97e74ec5cd48832b77048d889e", func := "servitor/servitorlaw01.QSquares", spec := "qSquares", named := ["math/bits.divideError", "math/bits.overflowError"], apart := false, narrowed := true }
def QSquaresUptoSaid : Prop := qSquaresUptoRow.holds Try.pinned (OpenSpec.upto qSquaresSpec)

/-- 'servitorlaw01.QOrder', WHERE WHAT IT READS IS OF BULK AT MOST 1048576: true; the input reads as it did. -/
def qOrderUptoRow : OpenClaim := { program := "ytgbcefdlmockoaa", sum := "1679a0300d54de61c8d35626fb972501894eac97e74ec5cd48832b77048d889e", func := "servitor/servitorlaw01.QOrder", spec := "qOrder", named := ["math/bits.divideError", "math/bits.overflowError"], apart := false, narrowed := true }
def QOrderUptoSaid : Prop := qOrderUptoRow.holds Try.pinned (OpenSpec.upto qOrderSpec)

/-- 'servitorlaw01.QRight', WHERE WHAT IT READS IS OF BULK AT MOST 1048576: true; the input reads as it did. -/
def qRightUptoRow : OpenClaim := { program := "ytgbcefdlmockoaa", sum := "1679a0300d54de61c8d35626fb972501894eac97e74ec5cd48832b77048d889e", func := "servitor/servitorlaw01.QRight", spec := "qRight", named := ["math/bits.divideError", "math/bits.overflowError"], apart := false, narrowed := true }
def QRightUptoSaid : Prop := qRightUptoRow.holds Try.pinned (OpenSpec.upto qRightSpec)

/-- 'servitorlaw01.QLaws', WHERE WHAT IT READS IS OF BULK AT MOST 1048576: true; the input reads as it did. -/
def qLawsUptoRow : OpenClaim := { program := "ytgbcefdlmockoaa", sum := "1679a0300d54de61c8d35626fb972501894eac97e74ec5cd48832b77048d889e", func := "servitor/servitorlaw01.QLaws", spec := "qLaws", named := ["math/bits.divideError", "math/bits.overflowError"], apart := false, narrowed := true }
def QLawsUptoSaid : Prop := qLawsUptoRow.holds Try.pinned (OpenSpec.upto qLawsSpec)

/-- 'servitorlaw14.GearOne', WHERE WHAT IT READS IS OF BULK AT MOST 1048576: true; the input reads as it did. -/
def gearOneUptoRow : OpenClaim := { program := "ytgbcefdlmockoaa", sum := "1679a0300d54de61c8d35626fb972501894eac97e74ec5cd48832b77048d889e", func := "servitor/servitorlaw14.GearOne", spec := "gearOne", named := ["math/bits.divideError", "math/bits.overflowError"], apart := false, narrowed := true }
def GearOneUptoSaid : Prop := gearOneUptoRow.holds Try.pinned (OpenSpec.upto gearOneSpec)

/-- 'servitorlaw14.GearRight', WHERE WHAT IT READS IS OF BULK AT MOST 1048576: true; the input reads as it did. -/
def gearRightUptoRow : OpenClaim := { program := "ytgbcefdlmockoaa", sum := "1679a0300d54de61c8d35626fb972501894eac97e74ec5cd48832b77048d889e", func := "servitor/servitorlaw14.GearRight", spec := "gearRight", unfollowed := true, recurses := true, named := ["math/bits.divideError", "math/bits.overflowError"], apart := false, narrowed := true }
def GearRightUptoSaid : Prop := gearRightUptoRow.holds Try.pinned (OpenSpec.upto gearRightSpec)

/-- 'servitorlaw14.GearKeeps', WHERE WHAT IT READS IS OF BULK AT MOST 1048576: true; the input reads as it did. -/
def gearKeepsUptoRow : OpenClaim := { program := "ytgbcefdlmockoaa", sum := "1679a0300d54de61c8d35626fb972501894eac97e74ec5cd48832b77048d889e", func := "servitor/servitorlaw14.GearKeeps", spec := "gearKeeps", unfollowed := true, recurses := true, named := ["math/bits.divideError", "math/bits.overflowError"], apart := false, narrowed := true }
def GearKeepsUptoSaid : Prop := gearKeepsUptoRow.holds Try.pinned (OpenSpec.upto gearKeepsSpec)

end Rows
end Go.Proofs.Ytgbcefdlmockoaa
