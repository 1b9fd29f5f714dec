/- The frame of the laws over the table of blanks: the row's listed tables give 'Blanks'; the witness' world. -/
import Derived.Test.YtknnhnefbbjcdaaDoorM00
import Derived.Test.YtknnhnefbbjcdaaDoorM16
import Derived.Test.YtknnhnefbbjcdaaDoorTie
import Derived.Test.YtknnhnefbbjcdaaDoorCards
import Derived.LaidMore
import Derived.SevenTiedAt
import Derived.Stop.Joined
import Derived.Stop.LaidErr
import Derived.Lib.LaidTab
import Derived.Lib.AppendIntMem
namespace Go.Proofs.YtknnhnefbbjcdaaDoor
open Go.ChangeShapes Go.WideShapes Go.ChangeAt Go.RowKit
set_option linter.unusedVariables false
set_option linter.unusedSimpArgs false

def laidL : List (String × DataW Unit) := [("unicode.White_Space", Rows.laid_unicode_White_Space), ("strings.asciiSpace", Rows.laid_strings_asciiSpace)]
theorem gBlank : Tryd.prog.globalNamed "strings.asciiSpace" = some 0 := by kernel_rfl
theorem tBlank : (Tryd.prog.globals[0]?).map (·.type) = some 151 := by kernel_rfl
theorem space_data : (Rows.laid_strings_asciiSpace : DataW Unit) = Lib.tabData .u8 Lib.asciiSpaceTab := by kernel_rfl

theorem door_met (os : Os) (args : Array Value) : laidMetH Tryd.prog laidL ((World.doorLaid Tryd.prog 400 os).forCall (fun _ _ => 0) ⟨#[], args, []⟩).memory :=
 laidMetH_of_parts3 (fuel := 8) (laidMet_of_run' 8 (by kernel_rfl) (by kernel_rfl)) (by kernel_rfl) (by kernel_rfl)

theorem bounds_u8 {z : Int} (h : (Lit.int .u8 z).wf = true) : 0 ≤ z ∧ z ≤ 255 := by
 simp [Lit.wf, IntKind.min, IntKind.max, IntKind.signed, IntKind.bits] at h
 omega
theorem blanks_of {W : World} (h : laidMetH Tryd.prog laidL W) : Blanks W := by
 rw [MakeChecks.laidMetH_plain _ _ _ (by kernel_rfl)] at h
 have h2 : laidMet Tryd.prog [("strings.asciiSpace", Rows.laid_strings_asciiSpace)] W := laidMet.tail h
 rw [space_data] at h2
 exact Lib.tabBelow_of_tabIs (Lib.tabIs_of_head gBlank tBlank Tryd.underlying151 Tryd.underlying5 (by kernel_rfl) (by kernel_rfl) h2)

end Go.Proofs.YtknnhnefbbjcdaaDoor
