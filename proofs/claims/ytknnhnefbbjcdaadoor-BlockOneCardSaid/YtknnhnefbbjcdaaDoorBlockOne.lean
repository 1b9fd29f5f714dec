/- Layer 27: whatever is asked and told, of any reports: at most one of Done, CommandAborted and Error of a block is true, if it was so: BlockOne returns true. Conditions: none; the row's tables are tied to the program's text. -/
import Derived.Test.YtknnhnefbbjcdaaDoorCardFrame
import Derived.Test.YtknnhnefbbjcdaaDoorM00
import Derived.Test.YtknnhnefbbjcdaaDoorM38
import Derived.Test.YtknnhnefbbjcdaaDoorM49
import Derived.ChangeMaps5
namespace Go.Proofs.YtknnhnefbbjcdaaDoor
open Go.ChangeShapes Go.WideShapes Go.ChangeAt Go.RowKit Go.ChangeMaps
set_option linter.unusedVariables false
set_option linter.unusedSimpArgs false

theorem lawW_BlockOne {H : Type} {enc : TypeId × Value → H} (cs : List Value) (n : Nat) (s1 : Option Addr) (l1 c1 n1 : Nat) (nx : Int) (s2 : Option Addr) (l2 c2 n2 : Nat) (s3 : Option Addr) (l3 c3 n3 : Nat) (W : World) (h : RdF enc Tryd.prog W n 25 cs) (h1 : RdF enc Tryd.prog W n1 26 [.slice s1 l1 c1]) {q : Prop} (_ : q) (h2 : RdF enc Tryd.prog W n2 27 [.slice s2 l2 c2]) (h3 : RdF enc Tryd.prog W n3 28 [.slice s3 l3 c3]) (hT : Blanks W) :
  Calls Tryd.prog 3 #[.agg cs.toArray, .slice s1 l1 c1, .int .i64 nx, .slice s2 l2 c2, .slice s3 l3 c3] W fun e w' => e = .returned (.bool true) ∧ Below W.heap.size W w' := by
 obtain ⟨p, hp, hs⟩ := prg_sm n cs h
 obtain ⟨zs, hz, hrz⟩ := nums_of n1 s1 l1 c1 h1
 obtain ⟨xs, rfl, hrx⟩ := axes_of n2 s2 l2 c2 h2
 obtain ⟨ll, rfl, hrl⟩ := reps_of n3 s3 l3 c3 h3
 exact walk_BlockOne p cs zs s1 l1 c1 nx xs s2 c2 ll s3 c3 W hp hs hrz hz hrx hrl hT

set_option maxRecDepth 100000 in
theorem lifted_BlockOne (os : Os) (started : os.Started) (H : Type) (enc : TypeId × Value → H) :
  ReturnsInHanded {} Tryd.checked os 3 .any (fun w args => (Rows.blockOneSpec.pre enc Tryd.prog Tryd.f3 [] false w args ∧ laidMetH Tryd.prog laidL w) ∧ sizedMet enc Tryd.prog Tryd.f3 (OpenSpec.ofChange Rows.blockOneSpec) false w args)
   (Rows.blockOneSpec.post enc Tryd.prog Tryd.f3 false true false false) := by
 refine returnsInHanded_of_change_and (C := Tryd.checked) (X := fun w _ => laidMetH Tryd.prog laidL w) (fun _ _ _ hh h => h.of_heap hh) own started (by kernel_rfl) Tryd.func3
  (ChangeSpec.witness_shaped (enc := enc) (C := Tryd.checked) (os := os) (X := fun w _ => laidMetH Tryd.prog laidL w) false (World.doorLaid Tryd.prog 400 os) #[.agg #[.string ⟨#[]⟩, .slice none 0 0, .slice none 0 0], .slice none 0 0, .int .i64 0, .slice none 0 0, .slice none 0 0] 8 rfl (World.shaped_of_RefB (by kernel_rfl) (by kernel_rfl)) (by kernel_rfl) (by kernel_rfl) (by kernel_rfl) (door_met os _)) ?_
 intro W base args ds gs before hval0 hW _ hsz hL _
 have hval : ∀ (j : Nat) t v, Tryd.f3.params[j]? = some t → args[j]? = some v → Value.okWide Tryd.prog W .any base t v := hval0
 have hW' := hW
 obtain ⟨p, q, hA0, hV, rfl, hfz, hnd⟩ := hW'
 have hA : DataW.TrodAll enc Tryd.prog W 0 (fun _ => true) true Tryd.f3.params.toList args.toList ds p := hA0
 rw [Tryd.params3] at hA hval
 obtain ⟨v0, vs0, d0, ds0, p0, q0, hargs, rfl, rfl, h0, r0⟩ := trodAll_cons hA
 obtain ⟨v1, vs1, d1, ds1, p1, q1, rfl, rfl, rfl, h1, r1⟩ := trodAll_cons r0
 obtain ⟨v2, vs2, d2, ds2, p2, q2, rfl, rfl, rfl, h2, r2⟩ := trodAll_cons r1
 obtain ⟨v3, vs3, d3, ds3, p3, q3, rfl, rfl, rfl, h3, r3⟩ := trodAll_cons r2
 obtain ⟨v4, vs4, d4, ds4, p4, q4, rfl, rfl, rfl, h4, r4⟩ := trodAll_cons r3
 obtain ⟨rfl, rfl, rfl⟩ := trodAll_nil r4
 obtain rfl : args = #[v0, v1, v2, v3, v4] := by cases args; simp_all
 obtain ⟨rfl, rfl⟩ := trodVars_none hV
 obtain ⟨cs0, rfl, _⟩ := okWide_struct Tryd.underlying25 (hval 0 25 v0 rfl rfl)
 obtain ⟨n0, hn0⟩ := h0
 have w0 : RdF enc Tryd.prog W n0 25 cs0.toList := ⟨_, by simpa [Value.cells] using hn0, fun m hm => by simpa using List.all_eq_true.1 hsz m (DataW.weights_mem_each (j := 0) (t := 25) (d := d0) (by rw [Tryd.params3]; rfl) rfl m hm)⟩
 obtain ⟨s1, l1, c1, rfl⟩ := okWide_slice Tryd.underlying26 (hval 1 26 v1 rfl rfl)
 obtain ⟨n1, hn1⟩ := h1
 have w1 : RdF enc Tryd.prog W n1 26 [.slice s1 l1 c1] := ⟨_, by simpa [Value.cells] using hn1, fun m hm => by simpa using List.all_eq_true.1 hsz m (DataW.weights_mem_each (j := 1) (t := 26) (d := d1) (by rw [Tryd.params3]; rfl) rfl m hm)⟩
 obtain ⟨a2, rfl, rfl, rfl, w2⟩ := open_int Tryd.underlying3 (hval 2 3 v2 rfl rfl) h2
 obtain ⟨s3, l3, c3, rfl⟩ := okWide_slice Tryd.underlying27 (hval 3 27 v3 rfl rfl)
 obtain ⟨n3, hn3⟩ := h3
 have w3 : RdF enc Tryd.prog W n3 27 [.slice s3 l3 c3] := ⟨_, by simpa [Value.cells] using hn3, fun m hm => by simpa using List.all_eq_true.1 hsz m (DataW.weights_mem_each (j := 3) (t := 27) (d := d3) (by rw [Tryd.params3]; rfl) rfl m hm)⟩
 obtain ⟨s4, l4, c4, rfl⟩ := okWide_slice Tryd.underlying28 (hval 4 28 v4 rfl rfl)
 obtain ⟨n4, hn4⟩ := h4
 have w4 : RdF enc Tryd.prog W n4 28 [.slice s4 l4 c4] := ⟨_, by simpa [Value.cells] using hn4, fun m hm => by simpa using List.all_eq_true.1 hsz m (DataW.weights_mem_each (j := 4) (t := 28) (d := d4) (by rw [Tryd.params3]; rfl) rfl m hm)⟩
 refine (lawW_BlockOne cs0.toList n0 s1 l1 c1 n1 a2 s3 l3 c3 n3 s4 l4 c4 n4 W w0 w1 w2 w3 w4 (blanks_of hL)).mono fun e W' ⟨he, hb⟩ => ⟨_, he, ?_⟩
 exact law_post_any laid_out Tryd.underlying4 hW rfl ⟨rfl, rfl, rfl⟩ rfl (by kernel_rfl) hb

theorem over_BlockOne : Rows.blockOneRow.holds Tryd.pinned (OpenSpec.ofChange Rows.blockOneSpec) :=
 OpenClaim.holds_of_wide 3 Tryd.f3 rfl rfl rfl rfl rfl rfl rfl ⟨rfl, rfl, rfl, rfl, rfl⟩ rfl rfl rfl rfl rfl (by kernel_rfl) Tryd.func3 (by kernel_rfl)
  (of_decide_eq_true (by kernel_rfl)) (by unfold Func.isWrapper; first | (rw [if_pos (by decide +kernel)]; kernel_rfl) | (rw [if_neg (by decide +kernel)]; exact ⟨rfl, rfl⟩))
  (fun os started H enc _ => lifted_BlockOne os started H enc)

theorem BlockOne_card_holds : Rows.BlockOneCardSaid :=
 Claim7.holds_tied_plain_at .later [] [.listed, .data] true (true, "49ef72c9b85c6a1114ba02c69b6269a98b76f86eeadab6954fd8f849c587e89f") false
  over_BlockOne (fun _ h => by cases h) (by kernel_rfl) (fun _ h => by cases h) blockOne_row_tie rfl ⟨rfl, rfl⟩ (by kernel_rfl) rfl
  (fun f fn hf hfn => by
   obtain rfl : f = 3 := Option.some.inj ((show Tryd.prog.funcNamed "servitor/servitorlaw27.BlockOne" = some 3 by kernel_rfl).symm.trans hf) |>.symm
   obtain rfl : fn = Tryd.f3 := (Option.some.inj (Tryd.func3.symm.trans hfn)).symm
   exact ⟨by kernel_rfl, fun j t ht => by
    rw [Tryd.params3] at ht
    have hm : t ∈ [25, 26, 3, 27, 28] := by have := Array.mem_of_getElem? ht; simp at this; simp; exact this
    have hall : ([25, 26, 3, 27, 28].all fun u => !Tryd.prog.wantsStandIn u) = true := by kernel_rfl
    exact (show Tryd.prog.wantsStandIn t = false by simpa using List.all_eq_true.1 hall t hm)⟩)
  (by kernel_rfl)
#print axioms BlockOne_card_holds

end Go.Proofs.YtknnhnefbbjcdaaDoor
