/- Layer 21, FoldOps: the walk, the fixed answer being given. -/
import Derived.Test.YtcamegfnhbbaeaaFoldC
namespace Go.Proofs.Ytcamegfnhbbaeaa
open Go.RowKit
set_option linter.unusedVariables false
set_option linter.unusedSimpArgs false
attribute [local go_sem] ite_max ite_min vite_max vite_min ext_cell ext_frozen

set_option maxRecDepth 100000 in
set_option maxHeartbeats 1000000 in
theorem fops_walk (AW : ∀ w, Calls Try.prog 6 #[] w fun e w' => e = .returned (.bool true) ∧ Below w.heap.size w w') (op : Int) (zs : List Int) (tr : Bool) (A : Option Addr) (n c : Nat) (w : World)
    (h : Lies w w.heap.size 1 A n (intsF zs)) (hn : n ≤ c) (hc : c ≤ 9223372036854775807) (hz : ∀ z ∈ zs, -9223372036854775808 ≤ z ∧ z ≤ 9223372036854775807) :
    Calls Try.prog 3 #[.int .i64 op, .slice A n c, .bool tr] w fun e w' => e = .returned (.bool true) ∧ Below w.heap.size w w' := by
  have HAW := Lib.hid AW
  have H1 := Lib.hid (fun (W : World) (hb : Below w.heap.size w W) => fop_any op zs tr A n c W (h.on hb) hn hc hz)
  have H2 := Lib.hid (fun (W : World) (hb : Below w.heap.size w W) => rop_any op zs tr A n c W (h.on hb) hn hc hz)
  obtain ⟨R, hR⟩ : ∃ R, opF op zs tr = R := ⟨_, rfl⟩
  rw [hR] at H1 H2
  obtain ⟨r1, r2, r3⟩ := R
  simp only [opV] at H1 H2
  clear hR h AW
  by_cases h5 : n ≤ 5
  · have h5I : (n : Int) ≤ 5 := by omega
    go_enter Try.func3, Try.ntmps3
    go_wp2_with fail
    refine (HAW.out _).mono ?_
    rintro e w1 ⟨rfl, hb1⟩
    go_wp2_with fail
    refine (H1.out _ hb1).mono ?_
    rintro e w2 ⟨rfl, hb2⟩
    have hB2 : Below w.heap.size w w2 := hb1.trans (hb2.mono hb1.size)
    go_wp2_with fail
    refine (H2.out _ hB2).mono ?_
    rintro e w3 ⟨rfl, hb3⟩
    go_wp2
    go_ret
    exact ⟨rfl, hB2.trans (hb3.mono hB2.size)⟩
  · have h5I : (5 : Int) < (n : Int) := by omega
    go_enter Try.func3, Try.ntmps3
    go_wp2_with fail
    refine (HAW.out _).mono ?_
    rintro e w1 ⟨rfl, hb1⟩
    go_wp2
    go_ret
    exact ⟨rfl, hb1⟩

end Go.Proofs.Ytcamegfnhbbaeaa
