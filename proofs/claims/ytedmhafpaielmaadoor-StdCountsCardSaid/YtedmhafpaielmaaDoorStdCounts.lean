/- Layer 16: a CTU counts how often its input rose; an R_TRIG tells each rise, an F_TRIG each fall: StdCounts returns true. Conditions: none; the row's tables are tied to the program's text. -/
import Derived.Test.YtedmhafpaielmaaDoorCardFrame
import Derived.Test.YtedmhafpaielmaaDoorStdK
namespace Go.Proofs.YtedmhafpaielmaaDoor
open Go.ChangeShapes Go.WideShapes Go.ChangeAt Go.RowKit
set_option linter.unusedVariables false
set_option linter.unusedSimpArgs false

theorem walk_StdCounts (pv : Int) (v : Value) (zs : List Int) (w : World) {p : Prop} (_ : p) (h : IntsAt .u8 w v zs) (hT : Blanks w) :
    Calls Tryd.prog 4 #[.int .i64 pv, v] w fun e w' => e = .returned (.bool true) ∧ Below w.heap.size w w' := by
  obtain ⟨a, cap, rfl, hl, hc, hg, hm⟩ := h
  refine counts_any pv a cap zs.length zs w hT rfl hl hc (fun z hz => ?_) ?_
  · exact bounds_u8 (hg z hz)
  · by_cases hn : zs = []
    · subst hn
      exact .inl rfl
    · obtain ⟨b, off, ha, hx⟩ := hm hn
      refine .inr ⟨b, off, ha, World.block_lt_of_cell? w _ (hx 0 (List.length_pos_iff.2 hn)), fun i z hz => ?_⟩
      have hi := (List.getElem?_eq_some_iff.1 hz).1
      have := hx i hi
      rwa [hz] at this

set_option maxRecDepth 100000 in
theorem lifted_StdCounts (os : Os) (started : os.Started) (H : Type) (enc : TypeId × Value → H) :
    ReturnsInHanded {} Tryd.checked os 4 .any (fun w args => (Rows.stdCountsSpec.pre enc Tryd.prog Tryd.f4 [] false w args ∧ laidMetH Tryd.prog laidL w) ∧ sizedMet enc Tryd.prog Tryd.f4 (OpenSpec.ofChange Rows.stdCountsSpec) false w args)
      (Rows.stdCountsSpec.post enc Tryd.prog Tryd.f4 false true false false) := by
  refine returnsInHanded_of_change_and (C := Tryd.checked) (X := fun w _ => laidMetH Tryd.prog laidL w) (fun _ _ _ hh h => h.of_heap hh) own started (by kernel_rfl) Tryd.func4
    (ChangeSpec.witness_shaped (enc := enc) (C := Tryd.checked) (os := os) (X := fun w _ => laidMetH Tryd.prog laidL w) false (World.doorLaid Tryd.prog 400 os) #[.int .i64 0, .slice none 0 0] 8 rfl (World.shaped_of_RefB (by kernel_rfl) (by kernel_rfl)) (by kernel_rfl) (by kernel_rfl) (by kernel_rfl) (door_met os _)) ?_
  intro W base args ds gs before hval0 hW _ _ hL _
  have hval : ∀ (j : Nat) t v, Tryd.f4.params[j]? = some t → args[j]? = some v → Value.okWide Tryd.prog W .any base t v := hval0
  have hW' := hW
  obtain ⟨p, q, hA0, hV, rfl, hfz, hnd⟩ := hW'
  have hA : DataW.TrodAll enc Tryd.prog W 0 (fun _ => true) true Tryd.f4.params.toList args.toList ds p := hA0
  rw [Tryd.params4] at hA hval
  obtain ⟨v0, vs0, d0, ds0, p0, q0, hargs, rfl, rfl, h0, r0⟩ := trodAll_cons hA
  obtain ⟨v1, vs1, d1, ds1, p1, q1, rfl, rfl, rfl, h1, r1⟩ := trodAll_cons r0
  obtain ⟨rfl, rfl, rfl⟩ := trodAll_nil r1
  obtain rfl : args = #[v0, v1] := by cases args; simp_all
  obtain ⟨rfl, rfl⟩ := trodVars_none hV
  obtain ⟨a0, rfl, rfl, rfl, w0⟩ := open_int Tryd.underlying2 (hval 0 2 v0 rfl rfl) h0
  obtain ⟨a1, w1⟩ := open_ints_at Tryd.underlying27 Tryd.underlying5 (by kernel_rfl) (hval 1 27 v1 rfl rfl) h1
  refine (walk_StdCounts a0 v1 a1 W w0 w1 (blanks_of hL)).mono fun e W' ⟨he, hb⟩ => ⟨_, he, ?_⟩
  exact law_post_any laid_out Tryd.underlying4 hW rfl ⟨rfl, rfl, rfl⟩ rfl (by kernel_rfl) hb

theorem over_StdCounts : Rows.stdCountsRow.holds Tryd.pinned (OpenSpec.ofChange Rows.stdCountsSpec) :=
  OpenClaim.holds_of_wide 4 Tryd.f4 rfl rfl rfl rfl rfl rfl rfl ⟨rfl, rfl, rfl, rfl, rfl⟩ rfl rfl rfl rfl rfl (by kernel_rfl) Tryd.func4 (by kernel_rfl)
    (of_decide_eq_true (by kernel_rfl)) (by unfold Func.isWrapper; first | (rw [if_pos (by decide +kernel)]; kernel_rfl) | (rw [if_neg (by decide +kernel)]; exact ⟨rfl, rfl⟩))
    (fun os started H enc _ => lifted_StdCounts os started H enc)

/-- the statement -/
theorem StdCounts_card_holds : Rows.StdCountsCardSaid :=
  Claim7.holds_tied_plain_at .later [] [.listed, .data] true (true, "f025d5dca9d4a3e081a5fd48988036da4913a208b18330ea24491afec696e99a") false
    over_StdCounts (fun _ h => by cases h) (by kernel_rfl) (fun _ h => by cases h) stdCounts_row_tie rfl ⟨rfl, rfl⟩ (by kernel_rfl) rfl
    (fun f fn hf hfn => by
      obtain rfl : f = 4 := Option.some.inj ((show Tryd.prog.funcNamed "servitor/servitorlaw16.StdCounts" = some 4 by kernel_rfl).symm.trans hf) |>.symm
      obtain rfl : fn = Tryd.f4 := (Option.some.inj (Tryd.func4.symm.trans hfn)).symm
      exact ⟨by kernel_rfl, fun j t ht => by
        rw [Tryd.params4] at ht
        have hm : t ∈ [2, 27] := by have := Array.mem_of_getElem? ht; simp at this; simp; exact this
        have hall : ([2, 27].all fun u => !Tryd.prog.wantsStandIn u) = true := by kernel_rfl
        exact (show Tryd.prog.wantsStandIn t = false by simpa using List.all_eq_true.1 hall t hm)⟩)
    (by kernel_rfl)
#print axioms StdCounts_card_holds

end Go.Proofs.YtedmhafpaielmaaDoor
