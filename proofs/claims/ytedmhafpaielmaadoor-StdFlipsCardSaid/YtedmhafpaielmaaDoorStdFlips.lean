/- Layer 16: set, an SR and an RS are true, reset they are false: StdFlips returns true. Conditions: none; the row's tables are tied to the program's text. -/
import Derived.Test.YtedmhafpaielmaaDoorCardFrame
import Derived.Test.YtedmhafpaielmaaDoorStdJ
namespace Go.Proofs.YtedmhafpaielmaaDoor
open Go.ChangeShapes Go.WideShapes Go.ChangeAt Go.RowKit
set_option linter.unusedVariables false
set_option linter.unusedSimpArgs false

theorem walk_StdFlips (v : Value) (zs : List Int) (w : World) (h : IntsAt .u8 w v zs) (hT : Blanks w) :
    Calls Tryd.prog 5 #[v] w fun e w' => e = .returned (.bool true) ∧ Below w.heap.size w w' := by
  obtain ⟨a, cap, rfl, hl, hc, hg, hm⟩ := h
  refine flips_any a cap zs.length zs w hT rfl hl hc (fun z hz => ?_) ?_
  · exact bounds_u8 (hg z hz)
  · by_cases hn : zs = []
    · subst hn
      exact .inl rfl
    · obtain ⟨b, off, ha, hx⟩ := hm hn
      refine .inr ⟨b, off, ha, World.block_lt_of_cell? w _ (hx 0 (List.length_pos_iff.2 hn)), fun i z hz => ?_⟩
      have hi := (List.getElem?_eq_some_iff.1 hz).1
      have := hx i hi
      rwa [hz] at this

set_option maxRecDepth 100000 in
theorem lifted_StdFlips (os : Os) (started : os.Started) (H : Type) (enc : TypeId × Value → H) :
    ReturnsInHanded {} Tryd.checked os 5 .any (fun w args => (Rows.stdFlipsSpec.pre enc Tryd.prog Tryd.f5 [] false w args ∧ laidMetH Tryd.prog laidL w) ∧ sizedMet enc Tryd.prog Tryd.f5 (OpenSpec.ofChange Rows.stdFlipsSpec) false w args)
      (Rows.stdFlipsSpec.post enc Tryd.prog Tryd.f5 false true false false) := by
  refine returnsInHanded_of_change_and (C := Tryd.checked) (X := fun w _ => laidMetH Tryd.prog laidL w) (fun _ _ _ hh h => h.of_heap hh) own started (by kernel_rfl) Tryd.func5
    (ChangeSpec.witness_shaped (enc := enc) (C := Tryd.checked) (os := os) (X := fun w _ => laidMetH Tryd.prog laidL w) false (World.doorLaid Tryd.prog 400 os) #[.slice none 0 0] 8 rfl (World.shaped_of_RefB (by kernel_rfl) (by kernel_rfl)) (by kernel_rfl) (by kernel_rfl) (by kernel_rfl) (door_met os _)) ?_
  intro W base args ds gs before hval0 hW _ _ hL _
  have hval : ∀ (j : Nat) t v, Tryd.f5.params[j]? = some t → args[j]? = some v → Value.okWide Tryd.prog W .any base t v := hval0
  have hW' := hW
  obtain ⟨p, q, hA0, hV, rfl, hfz, hnd⟩ := hW'
  have hA : DataW.TrodAll enc Tryd.prog W 0 (fun _ => true) true Tryd.f5.params.toList args.toList ds p := hA0
  rw [Tryd.params5] at hA hval
  obtain ⟨v0, vs0, d0, ds0, p0, q0, hargs, rfl, rfl, h0, r0⟩ := trodAll_cons hA
  obtain ⟨rfl, rfl, rfl⟩ := trodAll_nil r0
  obtain rfl : args = #[v0] := by cases args; simp_all
  obtain ⟨rfl, rfl⟩ := trodVars_none hV
  obtain ⟨a0, w0⟩ := open_ints_at Tryd.underlying27 Tryd.underlying5 (by kernel_rfl) (hval 0 27 v0 rfl rfl) h0
  refine (walk_StdFlips v0 a0 W w0 (blanks_of hL)).mono fun e W' ⟨he, hb⟩ => ⟨_, he, ?_⟩
  exact law_post_any laid_out Tryd.underlying4 hW rfl ⟨rfl, rfl, rfl⟩ rfl (by kernel_rfl) hb

theorem over_StdFlips : Rows.stdFlipsRow.holds Tryd.pinned (OpenSpec.ofChange Rows.stdFlipsSpec) :=
  OpenClaim.holds_of_wide 5 Tryd.f5 rfl rfl rfl rfl rfl rfl rfl ⟨rfl, rfl, rfl, rfl, rfl⟩ rfl rfl rfl rfl rfl (by kernel_rfl) Tryd.func5 (by kernel_rfl)
    (of_decide_eq_true (by kernel_rfl)) (by unfold Func.isWrapper; first | (rw [if_pos (by decide +kernel)]; kernel_rfl) | (rw [if_neg (by decide +kernel)]; exact ⟨rfl, rfl⟩))
    (fun os started H enc _ => lifted_StdFlips os started H enc)

/-- the statement -/
theorem StdFlips_card_holds : Rows.StdFlipsCardSaid :=
  Claim7.holds_tied_plain_at .later [] [.listed, .data] true (true, "f025d5dca9d4a3e081a5fd48988036da4913a208b18330ea24491afec696e99a") false
    over_StdFlips (fun _ h => by cases h) (by kernel_rfl) (fun _ h => by cases h) stdFlips_row_tie rfl ⟨rfl, rfl⟩ (by kernel_rfl) rfl
    (fun f fn hf hfn => by
      obtain rfl : f = 5 := Option.some.inj ((show Tryd.prog.funcNamed "servitor/servitorlaw16.StdFlips" = some 5 by kernel_rfl).symm.trans hf) |>.symm
      obtain rfl : fn = Tryd.f5 := (Option.some.inj (Tryd.func5.symm.trans hfn)).symm
      exact ⟨by kernel_rfl, fun j t ht => by
        rw [Tryd.params5] at ht
        have hm : t ∈ [27] := by have := Array.mem_of_getElem? ht; simp at this; simp; exact this
        have hall : ([27].all fun u => !Tryd.prog.wantsStandIn u) = true := by kernel_rfl
        exact (show Tryd.prog.wantsStandIn t = false by simpa using List.all_eq_true.1 hall t hm)⟩)
    (by kernel_rfl)
#print axioms StdFlips_card_holds

end Go.Proofs.YtedmhafpaielmaaDoor
