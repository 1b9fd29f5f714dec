/- Layer 21: an expression that has a type has it folded; a program that fits, folded, fits: FoldTypes returns true. Conditions: none; the row's tables are tied to the program's text. -/
import Derived.Test.YtahjijdadifkaaaDoorM01
import Derived.Test.YtahjijdadifkaaaDoorM02
import Derived.Test.YtahjijdadifkaaaDoorM27
import Derived.ChangeMaps5
namespace Go.Proofs.YtahjijdadifkaaaDoor
open Go.ChangeShapes Go.WideShapes Go.ChangeAt Go.RowKit Go.ChangeMaps
set_option linter.unusedVariables false
set_option linter.unusedSimpArgs false

theorem lawW_FoldTypes {H : Type} {enc : TypeId × Value → H} (cs : List Value) (n : Nat) (xs : List Value) (m : Nat) (W : World) (h : RdF enc Tryd.prog W n 25 cs) (hx : RdF enc Tryd.prog W m 28 xs) (hT : Blanks W) :
  Calls Tryd.prog 3 #[.agg cs.toArray, .agg xs.toArray] W fun e w' => e = .returned (.bool true) ∧ Below W.heap.size W w' := by
 obtain ⟨p, hp, hs⟩ := prg_sm n cs h
 obtain ⟨-, x, hxa, hxs⟩ := ex_sm m xs hx
 exact walk_FoldTypes p cs x xs W hp hs hxa hxs hT

set_option maxRecDepth 100000 in
theorem lifted_FoldTypes (os : Os) (started : os.Started) (H : Type) (enc : TypeId × Value → H) :
  ReturnsInHanded {} Tryd.checked os 3 .any (fun w args => (Rows.foldTypesSpec.pre enc Tryd.prog Tryd.f3 [] false w args ∧ laidMetH Tryd.prog laidL w) ∧ sizedMet enc Tryd.prog Tryd.f3 (OpenSpec.ofChange Rows.foldTypesSpec) false w args)
   (Rows.foldTypesSpec.post enc Tryd.prog Tryd.f3 false true false false) := by
 refine returnsInHanded_of_change_and (C := Tryd.checked) (X := fun w _ => laidMetH Tryd.prog laidL w) (fun _ _ _ hh h => h.of_heap hh) own started (by kernel_rfl) Tryd.func3
  (ChangeSpec.witness_shaped (enc := enc) (C := Tryd.checked) (os := os) (X := fun w _ => laidMetH Tryd.prog laidL w) false (World.doorLaid Tryd.prog 400 os) #[.agg #[.string ⟨#[]⟩, .slice none 0 0, .slice none 0 0], .agg #[.int .i64 0, .int .i64 0, .string ⟨#[]⟩, .string ⟨#[]⟩, .slice none 0 0, .int .i64 0]] 8 rfl (World.shaped_of_RefB (by kernel_rfl) (by kernel_rfl)) (by kernel_rfl) (by kernel_rfl) (by kernel_rfl) (door_met os _)) ?_
 intro W base args ds gs before hval0 hW _ hsz hL _
 have hval : ∀ (j : Nat) t v, Tryd.f3.params[j]? = some t → args[j]? = some v → Value.okWide Tryd.prog W .any base t v := hval0
 have hW' := hW
 obtain ⟨p, q, hA0, hV, rfl, hfz, hnd⟩ := hW'
 have hA : DataW.TrodAll enc Tryd.prog W 0 (fun _ => true) true Tryd.f3.params.toList args.toList ds p := hA0
 rw [Tryd.params3] at hA hval
 obtain ⟨v0, vs0, d0, ds0, p0, q0, hargs, rfl, rfl, h0, r0⟩ := trodAll_cons hA
 obtain ⟨v1, vs1, d1, ds1, p1, q1, rfl, rfl, rfl, h1, r1⟩ := trodAll_cons r0
 obtain ⟨rfl, rfl, rfl⟩ := trodAll_nil r1
 obtain rfl : args = #[v0, v1] := by cases args; simp_all
 obtain ⟨rfl, rfl⟩ := trodVars_none hV
 obtain ⟨cs0, rfl, _⟩ := okWide_struct Tryd.underlying25 (hval 0 25 v0 rfl rfl)
 obtain ⟨n0, hn0⟩ := h0
 have w0 : RdF enc Tryd.prog W n0 25 cs0.toList := ⟨_, by simpa [Value.cells] using hn0, fun m hm => by simpa using List.all_eq_true.1 hsz m (DataW.weights_mem_each (j := 0) (t := 25) (d := d0) (by rw [Tryd.params3]; rfl) rfl m hm)⟩
 obtain ⟨cs1, rfl, _⟩ := okWide_struct Tryd.underlying28 (hval 1 28 v1 rfl rfl)
 obtain ⟨n1, hn1⟩ := h1
 have w1 : RdF enc Tryd.prog W n1 28 cs1.toList := ⟨_, by simpa [Value.cells] using hn1, fun m hm => by simpa using List.all_eq_true.1 hsz m (DataW.weights_mem_each (j := 1) (t := 28) (d := d1) (by rw [Tryd.params3]; rfl) rfl m hm)⟩
 refine (lawW_FoldTypes cs0.toList n0 cs1.toList n1 W w0 w1 (blanks_of hL)).mono fun e W' ⟨he, hb⟩ => ⟨_, he, ?_⟩
 exact law_post_any laid_out Tryd.underlying4 hW rfl ⟨rfl, rfl, rfl⟩ rfl (by kernel_rfl) hb

theorem over_FoldTypes : Rows.foldTypesRow.holds Tryd.pinned (OpenSpec.ofChange Rows.foldTypesSpec) :=
 OpenClaim.holds_of_wide 3 Tryd.f3 rfl rfl rfl rfl rfl rfl rfl ⟨rfl, rfl, rfl, rfl, rfl⟩ rfl rfl rfl rfl rfl (by kernel_rfl) Tryd.func3 (by kernel_rfl)
  (of_decide_eq_true (by kernel_rfl)) (by unfold Func.isWrapper; first | (rw [if_pos (by decide +kernel)]; kernel_rfl) | (rw [if_neg (by decide +kernel)]; exact ⟨rfl, rfl⟩))
  (fun os started H enc _ => lifted_FoldTypes os started H enc)

theorem FoldTypes_card_holds : Rows.FoldTypesCardSaid :=
 Claim7.holds_tied_plain_at .later [] [.listed, .data] true (true, "a69152d0a926d3106fb360a91eb01c23baa564a1749dc9b833c1b1f820273d45") true
  over_FoldTypes (fun _ h => by cases h) (by kernel_rfl) (fun _ h => by cases h) foldTypes_row_tie rfl ⟨rfl, rfl⟩ (by kernel_rfl) rfl
  (fun f fn hf hfn => by
   obtain rfl : f = 3 := Option.some.inj ((show Tryd.prog.funcNamed "servitor/servitorlaw21.FoldTypes" = some 3 by kernel_rfl).symm.trans hf) |>.symm
   obtain rfl : fn = Tryd.f3 := (Option.some.inj (Tryd.func3.symm.trans hfn)).symm
   exact ⟨by kernel_rfl, fun j t ht => by
    rw [Tryd.params3] at ht
    have hm : t ∈ [25, 28] := by have := Array.mem_of_getElem? ht; simp at this; simp; exact this
    have hall : ([25, 28].all fun u => !Tryd.prog.wantsStandIn u) = true := by kernel_rfl
    exact (show Tryd.prog.wantsStandIn t = false by simpa using List.all_eq_true.1 hall t hm)⟩)
  (by kernel_rfl)
#print axioms FoldTypes_card_holds

end Go.Proofs.YtahjijdadifkaaaDoor
