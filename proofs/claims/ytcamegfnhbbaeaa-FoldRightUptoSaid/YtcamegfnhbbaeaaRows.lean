/-
  NARROWER THAN 'FOR EVERY INPUT', by the rows' own cells (each row's printed sentence says how): FoldRight: loops · FoldAgain: loops.
  DERIVED. THE GIVEN ROWS OF THIS SEAT. 3 by the template 'for every input the law returns true; each argument reads behind the call as it read before'; 0 by the template 'total and deterministic' (their statements: YtcamegfnhbbaeaaTotals.lean).
  GIVEN WITH THE SEED: the statements are not yours to turn. If you find one false, say at which input.
  Laid BY PROGRAM, IN A SANDBOX (cutbox-rows.mjs): the forced cells as the released guide's own fill.sh prints them over the translation a62a02eb76571a16… (all of the seat's roots in one cut). By AI agents, Wed Nov 11 2026. No macro, syntax, notation, axiom, sorry.
-/
import Derived.Test.YtcamegfnhbbaeaaChecked
import GoSem.Claim
import GoSem.ClaimJoined
import GoSem.ClaimMapViews
import Derived.JoinedTies
import Derived.KernelRfl
namespace Go.Proofs.Ytcamegfnhbbaeaa
/- THE CELL 'sum', in the pinned program and in every row, IS THE sha256 OF THE DUMP (.gsa) THAT YtcamegfnhbbaeaaProg.lean LOADS. Nothing in Lean hashes anything: it is a label: what it is worth is what the hold of that sum in a sandbox is worth. -/
noncomputable def Try.pinned : Pinned := { name := "ytcamegfnhbbaeaa", sum := "a62a02eb76571a160be82f197f7f220c30bb94e4e3347df0d4b41c036f04afef", checked := Try.checked }
namespace Rows
def none {H : Type} : Left H := { results := [], args := [] }

/-- 'servitorlaw21.FoldOps': WHATEVER THE INPUT: true; the input reads as it did. -/
def foldOpsSpec : ChangeSpec := { name := "foldOps", fn := fun _ => fun
  | [d1, d2, d3] => { results := [.lit (.bool true)], args := [d1, d2, d3] }
  | _ => none }
def foldOpsRow : OpenClaim := { program := "ytcamegfnhbbaeaa", sum := "a62a02eb76571a160be82f197f7f220c30bb94e4e3347df0d4b41c036f04afef", func := "servitor/servitorlaw21.FoldOps", spec := "foldOps", recurses := true, apart := false }
def FoldOpsSaid : Prop := foldOpsRow.holds Try.pinned (OpenSpec.ofChange foldOpsSpec)

/-- ITS FALSE NEIGHBOUR: 'it returns false'. Refute it at one input. -/
def foldOpsWrong : ChangeSpec := { name := "foldOps", fn := fun _ => fun
  | [d1, d2, d3] => { results := [.lit (.bool false)], args := [d1, d2, d3] }
  | _ => none }
def FoldOpsWrongFalsely : Prop := foldOpsRow.holds Try.pinned (OpenSpec.ofChange foldOpsWrong)

/-- 'servitorlaw21.FoldRight': WHATEVER THE INPUT: true; the input reads as it did. -/
def foldRightSpec : ChangeSpec := { name := "foldRight", fn := fun _ => fun
  | [d] => { results := [.lit (.bool true)], args := [d] }
  | _ => none }
def foldRightRow : OpenClaim := { program := "ytcamegfnhbbaeaa", sum := "a62a02eb76571a160be82f197f7f220c30bb94e4e3347df0d4b41c036f04afef", func := "servitor/servitorlaw21.FoldRight", spec := "foldRight", recurses := true, loops := true, apart := false }
def FoldRightSaid : Prop := foldRightRow.holds Try.pinned (OpenSpec.ofChange foldRightSpec)

/-- ITS FALSE NEIGHBOUR: 'it returns false'. Refute it at one input. -/
def foldRightWrong : ChangeSpec := { name := "foldRight", fn := fun _ => fun
  | [d] => { results := [.lit (.bool false)], args := [d] }
  | _ => none }
def FoldRightWrongFalsely : Prop := foldRightRow.holds Try.pinned (OpenSpec.ofChange foldRightWrong)

/-- 'servitorlaw21.FoldAgain': WHATEVER THE INPUT: true; the input reads as it did. -/
def foldAgainSpec : ChangeSpec := { name := "foldAgain", fn := fun _ => fun
  | [d] => { results := [.lit (.bool true)], args := [d] }
  | _ => none }
def foldAgainRow : OpenClaim := { program := "ytcamegfnhbbaeaa", sum := "a62a02eb76571a160be82f197f7f220c30bb94e4e3347df0d4b41c036f04afef", func := "servitor/servitorlaw21.FoldAgain", spec := "foldAgain", recurses := true, loops := true, apart := false }
def FoldAgainSaid : Prop := foldAgainRow.holds Try.pinned (OpenSpec.ofChange foldAgainSpec)

/-- ITS FALSE NEIGHBOUR: 'it returns false'. Refute it at one input. -/
def foldAgainWrong : ChangeSpec := { name := "foldAgain", fn := fun _ => fun
  | [d] => { results := [.lit (.bool false)], args := [d] }
  | _ => none }
def FoldAgainWrongFalsely : Prop := foldAgainRow.holds Try.pinned (OpenSpec.ofChange foldAgainWrong)

/- THE SECOND FORM. 'bulk': how many values and letters a reading holds, each counted each time it is reached (what is shared counts as often as it is met; a slice's spare places count too). A statement '..UptoSaid' is the law's where the arguments, and the package variables that the reading takes, are together of bulk at most 1048576: NARROWER than '..Said'. Prove '..Said' where nothing that the law and all that it calls make is longer than what came in: it says more and counts as full. Else prove '..UptoSaid'. A law counts once. -/
mutual
def uptoBulk {H : Type} : DataW H → Nat
  | .lit (.string bytes) => bytes.length + 1
  | .lit _ => 1
  | .nil => 1
  | .ptr d => uptoBulk d + 1
  | .slice elems spare => uptoBulkAll elems + uptoBulkAll spare + 1
  | .agg parts => uptoBulkAll parts + 1
  | .iface _ d => uptoBulk d + 1
  | .map entries => uptoBulkEntries entries + 1
  | .held _ => 1
def uptoBulkAll {H : Type} : List (DataW H) → Nat
  | [] => 0
  | d :: r => uptoBulk d + uptoBulkAll r
def uptoBulkEntries {H : Type} : List (Lit × DataW H) → Nat
  | [] => 0
  | x :: r => uptoBulkEntry x + uptoBulkEntries r
def uptoBulkEntry {H : Type} : Lit × DataW H → Nat
  | (.string bytes, d) => bytes.length + uptoBulk d + 1
  | (_, d) => uptoBulk d + 1
 end
def uptoSmall : (H : Type) → List (DataW H) → Bool := fun _ ds => decide (uptoBulkAll ds ≤ 1048576)
def OpenSpec.upto (s : _root_.Go.ChangeSpec) : _root_.Go.OpenSpec := { _root_.Go.OpenSpec.ofChange s with cond := some uptoSmall }

/-- 'servitorlaw21.FoldOps', WHERE WHAT IT READS IS OF BULK AT MOST 1048576: true; the input reads as it did. -/
def foldOpsUptoRow : OpenClaim := { program := "ytcamegfnhbbaeaa", sum := "a62a02eb76571a160be82f197f7f220c30bb94e4e3347df0d4b41c036f04afef", func := "servitor/servitorlaw21.FoldOps", spec := "foldOps", recurses := true, apart := false, narrowed := true }
def FoldOpsUptoSaid : Prop := foldOpsUptoRow.holds Try.pinned (OpenSpec.upto foldOpsSpec)

/-- 'servitorlaw21.FoldRight', WHERE WHAT IT READS IS OF BULK AT MOST 1048576: true; the input reads as it did. -/
def foldRightUptoRow : OpenClaim := { program := "ytcamegfnhbbaeaa", sum := "a62a02eb76571a160be82f197f7f220c30bb94e4e3347df0d4b41c036f04afef", func := "servitor/servitorlaw21.FoldRight", spec := "foldRight", recurses := true, loops := true, apart := false, narrowed := true }
def FoldRightUptoSaid : Prop := foldRightUptoRow.holds Try.pinned (OpenSpec.upto foldRightSpec)

/-- 'servitorlaw21.FoldAgain', WHERE WHAT IT READS IS OF BULK AT MOST 1048576: true; the input reads as it did. -/
def foldAgainUptoRow : OpenClaim := { program := "ytcamegfnhbbaeaa", sum := "a62a02eb76571a160be82f197f7f220c30bb94e4e3347df0d4b41c036f04afef", func := "servitor/servitorlaw21.FoldAgain", spec := "foldAgain", recurses := true, loops := true, apart := false, narrowed := true }
def FoldAgainUptoSaid : Prop := foldAgainUptoRow.holds Try.pinned (OpenSpec.upto foldAgainSpec)

end Rows
end Go.Proofs.Ytcamegfnhbbaeaa
