/- Layer 16: a TON is true just when its input was true as often as it shall; a TP is true for as many calls as it shall: StdTimers returns true. Conditions: none; the row's tables are tied to the program's text. -/
import Derived.Test.YtedmhafpaielmaaDoorCardFrame
import Derived.Test.YtedmhafpaielmaaDoorReadS
import Derived.Test.YtedmhafpaielmaaDoorStdL
namespace Go.Proofs.YtedmhafpaielmaaDoor
open Go.ChangeShapes Go.WideShapes Go.ChangeAt Go.RowKit
set_option linter.unusedVariables false
set_option linter.unusedSimpArgs false

def BoolS.cells (b : Bool) : List Value := [.bool b]
theorem cells_boolS : Tryd.prog.cellsOf 4 = 1 := by kernel_rfl
theorem boolS_of {H : Type} {enc : TypeId × Value → H} {w : World} {cs : List Value} (h : Rd enc Tryd.prog w 4 cs) : ∃ x, cs = BoolS.cells x ∧ True := by
  obtain ⟨b, hb⟩ := rd_bool Tryd.underlying4 h
  exact ⟨b, hb, trivial⟩

theorem walk_StdTimers (pt : Int) (v : Value) (zs : List Bool) (w : World) (hp : (Lit.int .u8 pt).wf = true) (h : SliceAt 1 BoolS.cells (fun _ => True) w v zs) (hT : Blanks w) :
    Calls Tryd.prog 3 #[.int .u8 pt, v] w fun e w' => e = .returned (.bool true) ∧ Below w.heap.size w w' := by
  obtain ⟨a, cap, rfl, hl, hc, hg, hm⟩ := h
  refine timers_any pt a cap zs.length zs w (bounds_u8 hp) hT rfl hl hc ?_
  by_cases hn : zs = []
  · subst hn
    exact .inl rfl
  · obtain ⟨b, off, ha, hb, hx⟩ := hm hn
    refine .inr ⟨b, off, ha, hb, fun i z hz => ?_⟩
    have := hx i z hz 0 (by decide)
    simpa [BoolS.cells] using this

set_option maxRecDepth 100000 in
theorem lifted_StdTimers (os : Os) (started : os.Started) (H : Type) (enc : TypeId × Value → H) :
    ReturnsInHanded {} Tryd.checked os 3 .any (fun w args => (Rows.stdTimersSpec.pre enc Tryd.prog Tryd.f3 [] false w args ∧ laidMetH Tryd.prog laidL w) ∧ sizedMet enc Tryd.prog Tryd.f3 (OpenSpec.ofChange Rows.stdTimersSpec) false w args)
      (Rows.stdTimersSpec.post enc Tryd.prog Tryd.f3 false true false false) := by
  refine returnsInHanded_of_change_and (C := Tryd.checked) (X := fun w _ => laidMetH Tryd.prog laidL w) (fun _ _ _ hh h => h.of_heap hh) own started (by kernel_rfl) Tryd.func3
    (ChangeSpec.witness_shaped (enc := enc) (C := Tryd.checked) (os := os) (X := fun w _ => laidMetH Tryd.prog laidL w) false (World.doorLaid Tryd.prog 400 os) #[.int .u8 0, .slice none 0 0] 8 rfl (World.shaped_of_RefB (by kernel_rfl) (by kernel_rfl)) (by kernel_rfl) (by kernel_rfl) (by kernel_rfl) (door_met os _)) ?_
  intro W base args ds gs before hval0 hW _ _ hL _
  have hval : ∀ (j : Nat) t v, Tryd.f3.params[j]? = some t → args[j]? = some v → Value.okWide Tryd.prog W .any base t v := hval0
  have hW' := hW
  obtain ⟨p, q, hA0, hV, rfl, hfz, hnd⟩ := hW'
  have hA : DataW.TrodAll enc Tryd.prog W 0 (fun _ => true) true Tryd.f3.params.toList args.toList ds p := hA0
  rw [Tryd.params3] at hA hval
  obtain ⟨v0, vs0, d0, ds0, p0, q0, hargs, rfl, rfl, h0, r0⟩ := trodAll_cons hA
  obtain ⟨v1, vs1, d1, ds1, p1, q1, rfl, rfl, rfl, h1, r1⟩ := trodAll_cons r0
  obtain ⟨rfl, rfl, rfl⟩ := trodAll_nil r1
  obtain rfl : args = #[v0, v1] := by cases args; simp_all
  obtain ⟨rfl, rfl⟩ := trodVars_none hV
  obtain ⟨a0, rfl, rfl, rfl, w0⟩ := open_int Tryd.underlying5 (hval 0 5 v0 rfl rfl) h0
  obtain ⟨s1, l1, c1, rfl⟩ := okWide_slice Tryd.underlying22 (hval 1 22 v1 rfl rfl)
  have r1 : Rd enc Tryd.prog W 22 [.slice s1 l1 c1] := by simpa [Value.cells] using rd_of h1
  obtain ⟨a1, w1⟩ := rd_slice_at BoolS.cells (fun _ => True) Tryd.underlying22 cells_boolS (by decide) (fun cs h => boolS_of h) r1
  refine (walk_StdTimers a0 _ a1 W w0 w1 (blanks_of hL)).mono fun e W' ⟨he, hb⟩ => ⟨_, he, ?_⟩
  exact law_post_any laid_out Tryd.underlying4 hW rfl ⟨rfl, rfl, rfl⟩ rfl (by kernel_rfl) hb

theorem over_StdTimers : Rows.stdTimersRow.holds Tryd.pinned (OpenSpec.ofChange Rows.stdTimersSpec) :=
  OpenClaim.holds_of_wide 3 Tryd.f3 rfl rfl rfl rfl rfl rfl rfl ⟨rfl, rfl, rfl, rfl, rfl⟩ rfl rfl rfl rfl rfl (by kernel_rfl) Tryd.func3 (by kernel_rfl)
    (of_decide_eq_true (by kernel_rfl)) (by unfold Func.isWrapper; first | (rw [if_pos (by decide +kernel)]; kernel_rfl) | (rw [if_neg (by decide +kernel)]; exact ⟨rfl, rfl⟩))
    (fun os started H enc _ => lifted_StdTimers os started H enc)

/-- the statement -/
theorem StdTimers_card_holds : Rows.StdTimersCardSaid :=
  Claim7.holds_tied_plain_at .later [] [.listed, .data] true (true, "f025d5dca9d4a3e081a5fd48988036da4913a208b18330ea24491afec696e99a") false
    over_StdTimers (fun _ h => by cases h) (by kernel_rfl) (fun _ h => by cases h) stdTimers_row_tie rfl ⟨rfl, rfl⟩ (by kernel_rfl) rfl
    (fun f fn hf hfn => by
      obtain rfl : f = 3 := Option.some.inj ((show Tryd.prog.funcNamed "servitor/servitorlaw16.StdTimers" = some 3 by kernel_rfl).symm.trans hf) |>.symm
      obtain rfl : fn = Tryd.f3 := (Option.some.inj (Tryd.func3.symm.trans hfn)).symm
      exact ⟨by kernel_rfl, fun j t ht => by
        rw [Tryd.params3] at ht
        have hm : t ∈ [5, 22] := by have := Array.mem_of_getElem? ht; simp at this; simp; exact this
        have hall : ([5, 22].all fun u => !Tryd.prog.wantsStandIn u) = true := by kernel_rfl
        exact (show Tryd.prog.wantsStandIn t = false by simpa using List.all_eq_true.1 hall t hm)⟩)
    (by kernel_rfl)
#print axioms StdTimers_card_holds

end Go.Proofs.YtedmhafpaielmaaDoor
