/- Layer 27: any program's blocks are told, of any axes and any reports, what the document says; so is whether a place was moved: BlockTells returns true. Conditions: none; the row's tables are tied to the program's text. -/
import Derived.Test.YtpgkebfdfhdliaaDoorCardFrame
import Derived.Test.YtpgkebfdfhdliaaDoorM00
import Derived.Test.YtpgkebfdfhdliaaDoorM38
import Derived.Test.YtpgkebfdfhdliaaDoorBlL
import Derived.Test.YtpgkebfdfhdliaaDoorM36
import Derived.ChangeMaps5
namespace Go.Proofs.YtpgkebfdfhdliaaDoor
open Go.ChangeShapes Go.WideShapes Go.ChangeAt Go.RowKit Go.ChangeMaps
set_option linter.unusedVariables false
set_option linter.unusedSimpArgs false

theorem cells_shift : Tryd.prog.cellsOf 47 = 3 := by kernel_rfl
theorem rd_shift {H : Type} {enc : TypeId × Value → H} {w : World} {cs : List Value} (h : Rd enc Tryd.prog w 47 cs) : ∃ (x0 : Int) (x1 : Int) (x2 : Int), cs = [.int .i64 x0, .int .i64 x1, .int .i64 x2] ∧ (Lit.int .i64 x0).wf = true ∧ (Lit.int .i64 x1).wf = true ∧ (Lit.int .i64 x2).wf = true := by
 obtain ⟨hl, hf⟩ := rd_struct Tryd.underlying47 h
 rw [cells_shift] at hl
 obtain ⟨c0, c1, c2, rfl⟩ := list_3 cs hl
 have h0 : Rd enc Tryd.prog w 3 [c0] := by simpa [show Tryd.prog.cellsOf 3 = 1 by kernel_rfl] using hf 0 _ rfl
 obtain ⟨x0, e0, w0⟩ := rd_int Tryd.underlying3 h0
 simp only [List.cons.injEq, and_true] at e0
 have h1 : Rd enc Tryd.prog w 3 [c1] := by simpa [show Tryd.prog.cellsOf 3 = 1 by kernel_rfl] using hf 1 _ rfl
 obtain ⟨x1, e1, w1⟩ := rd_int Tryd.underlying3 h1
 simp only [List.cons.injEq, and_true] at e1
 have h2 : Rd enc Tryd.prog w 2 [c2] := by simpa [show Tryd.prog.cellsOf 2 = 1 by kernel_rfl] using hf 2 _ rfl
 obtain ⟨x2, e2, w2⟩ := rd_int Tryd.underlying2 h2
 simp only [List.cons.injEq, and_true] at e2
 subst e0 e1 e2
 exact ⟨x0, x1, x2, rfl, w0, w1, w2⟩

theorem lawW_BlockTells {H : Type} {enc : TypeId × Value → H} (cs : List Value) (n : Nat) (s1 : Option Addr) (l1 c1 n1 : Nat) (s2 : Option Addr) (l2 c2 n2 : Nat) (s3 : Option Addr) (l3 c3 n3 : Nat) (sa sv sp : Int) (ok : Bool) (W : World) (h : RdF enc Tryd.prog W n 25 cs) (h1 : RdF enc Tryd.prog W n1 30 [.slice s1 l1 c1]) (h2 : RdF enc Tryd.prog W n2 44 [.slice s2 l2 c2]) (h3 : RdF enc Tryd.prog W n3 45 [.slice s3 l3 c3]) {q : Prop} (_ : q) (hT : Blanks W) :
  Calls Tryd.prog 5 #[.agg cs.toArray, .slice s1 l1 c1, .slice s2 l2 c2, .slice s3 l3 c3, .agg #[.int .i64 sa, .int .i64 sv, .int .i64 sp], .bool ok] W fun e w' => e = .returned (.bool true) ∧ Below W.heap.size W w' := by
 obtain ⟨p, hp, hs⟩ := prg_sm n cs h
 obtain ⟨zs, hz, hrz⟩ := nums_of n1 s1 l1 c1 h1
 obtain ⟨xs, rfl, hrx⟩ := axes_of n2 s2 l2 c2 h2
 obtain ⟨ll, rfl, hrl⟩ := reps_of n3 s3 l3 c3 h3
 exact walk_BlockTells p cs zs s1 l1 c1 xs s2 c2 ll s3 c3 sa sv sp ok W hp hs hrz hz hrx hrl hT awake27

set_option maxRecDepth 100000 in
theorem lifted_BlockTells (os : Os) (started : os.Started) (H : Type) (enc : TypeId × Value → H) :
  ReturnsInHanded {} Tryd.checked os 5 .any (fun w args => (Rows.blockTellsSpec.pre enc Tryd.prog Tryd.f5 [] false w args ∧ laidMetH Tryd.prog laidL w) ∧ sizedMet enc Tryd.prog Tryd.f5 (OpenSpec.ofChange Rows.blockTellsSpec) false w args)
   (Rows.blockTellsSpec.post enc Tryd.prog Tryd.f5 false true false false) := by
 refine returnsInHanded_of_change_and (C := Tryd.checked) (X := fun w _ => laidMetH Tryd.prog laidL w) (fun _ _ _ hh h => h.of_heap hh) own started (by kernel_rfl) Tryd.func5
  (ChangeSpec.witness_shaped (enc := enc) (C := Tryd.checked) (os := os) (X := fun w _ => laidMetH Tryd.prog laidL w) false (World.doorLaid Tryd.prog 400 os) #[.agg #[.string ⟨#[]⟩, .slice none 0 0, .slice none 0 0], .slice none 0 0, .slice none 0 0, .slice none 0 0, .agg #[.int .i64 0, .int .i64 0, .int .i64 0], .bool false] 8 rfl (World.shaped_of_RefB (by kernel_rfl) (by kernel_rfl)) (by kernel_rfl) (by kernel_rfl) (by kernel_rfl) (door_met os _)) ?_
 intro W base args ds gs before hval0 hW _ hsz hL _
 have hval : ∀ (j : Nat) t v, Tryd.f5.params[j]? = some t → args[j]? = some v → Value.okWide Tryd.prog W .any base t v := hval0
 have hW' := hW
 obtain ⟨p, q, hA0, hV, rfl, hfz, hnd⟩ := hW'
 have hA : DataW.TrodAll enc Tryd.prog W 0 (fun _ => true) true Tryd.f5.params.toList args.toList ds p := hA0
 rw [Tryd.params5] at hA hval
 obtain ⟨v0, vs0, d0, ds0, p0, q0, hargs, rfl, rfl, h0, r0⟩ := trodAll_cons hA
 obtain ⟨v1, vs1, d1, ds1, p1, q1, rfl, rfl, rfl, h1, r1⟩ := trodAll_cons r0
 obtain ⟨v2, vs2, d2, ds2, p2, q2, rfl, rfl, rfl, h2, r2⟩ := trodAll_cons r1
 obtain ⟨v3, vs3, d3, ds3, p3, q3, rfl, rfl, rfl, h3, r3⟩ := trodAll_cons r2
 obtain ⟨v4, vs4, d4, ds4, p4, q4, rfl, rfl, rfl, h4, r4⟩ := trodAll_cons r3
 obtain ⟨v5, vs5, d5, ds5, p5, q5, rfl, rfl, rfl, h5, r5⟩ := trodAll_cons r4
 obtain ⟨rfl, rfl, rfl⟩ := trodAll_nil r5
 obtain rfl : args = #[v0, v1, v2, v3, v4, v5] := by cases args; simp_all
 obtain ⟨rfl, rfl⟩ := trodVars_none hV
 obtain ⟨cs0, rfl, _⟩ := okWide_struct Tryd.underlying25 (hval 0 25 v0 rfl rfl)
 obtain ⟨n0, hn0⟩ := h0
 have w0 : RdF enc Tryd.prog W n0 25 cs0.toList := ⟨_, by simpa [Value.cells] using hn0, fun m hm => by simpa using List.all_eq_true.1 hsz m (DataW.weights_mem_each (j := 0) (t := 25) (d := d0) (by rw [Tryd.params5]; rfl) rfl m hm)⟩
 obtain ⟨s1, l1, c1, rfl⟩ := okWide_slice Tryd.underlying30 (hval 1 30 v1 rfl rfl)
 obtain ⟨n1, hn1⟩ := h1
 have w1 : RdF enc Tryd.prog W n1 30 [.slice s1 l1 c1] := ⟨_, by simpa [Value.cells] using hn1, fun m hm => by simpa using List.all_eq_true.1 hsz m (DataW.weights_mem_each (j := 1) (t := 30) (d := d1) (by rw [Tryd.params5]; rfl) rfl m hm)⟩
 obtain ⟨s2, l2, c2, rfl⟩ := okWide_slice Tryd.underlying44 (hval 2 44 v2 rfl rfl)
 obtain ⟨n2, hn2⟩ := h2
 have w2 : RdF enc Tryd.prog W n2 44 [.slice s2 l2 c2] := ⟨_, by simpa [Value.cells] using hn2, fun m hm => by simpa using List.all_eq_true.1 hsz m (DataW.weights_mem_each (j := 2) (t := 44) (d := d2) (by rw [Tryd.params5]; rfl) rfl m hm)⟩
 obtain ⟨s3, l3, c3, rfl⟩ := okWide_slice Tryd.underlying45 (hval 3 45 v3 rfl rfl)
 obtain ⟨n3, hn3⟩ := h3
 have w3 : RdF enc Tryd.prog W n3 45 [.slice s3 l3 c3] := ⟨_, by simpa [Value.cells] using hn3, fun m hm => by simpa using List.all_eq_true.1 hsz m (DataW.weights_mem_each (j := 3) (t := 45) (d := d3) (by rw [Tryd.params5]; rfl) rfl m hm)⟩
 obtain ⟨cs4, e4, r4⟩ := rd_agg Tryd.underlying47 (hval 4 47 v4 rfl rfl) h4
 obtain ⟨a4_0, a4_1, a4_2, f4, w4⟩ := rd_shift r4
 subst f4
 subst e4
 obtain ⟨a5, rfl, rfl, rfl⟩ := open_bool Tryd.underlying4 (hval 5 4 v5 rfl rfl) h5
 refine (lawW_BlockTells cs0.toList n0 s1 l1 c1 n1 s2 l2 c2 n2 s3 l3 c3 n3 a4_0 a4_1 a4_2 a5 W w0 w1 w2 w3 w4 (blanks_of hL)).mono fun e W' ⟨he, hb⟩ => ⟨_, he, ?_⟩
 exact law_post_any laid_out Tryd.underlying4 hW rfl ⟨rfl, rfl, rfl⟩ rfl (by kernel_rfl) hb

theorem over_BlockTells : Rows.blockTellsRow.holds Tryd.pinned (OpenSpec.ofChange Rows.blockTellsSpec) :=
 OpenClaim.holds_of_wide 5 Tryd.f5 rfl rfl rfl rfl rfl rfl rfl ⟨rfl, rfl, rfl, rfl, rfl⟩ rfl rfl rfl rfl rfl (by kernel_rfl) Tryd.func5 (by kernel_rfl)
  (of_decide_eq_true (by kernel_rfl)) (by unfold Func.isWrapper; first | (rw [if_pos (by decide +kernel)]; kernel_rfl) | (rw [if_neg (by decide +kernel)]; exact ⟨rfl, rfl⟩))
  (fun os started H enc _ => lifted_BlockTells os started H enc)

/-- the statement -/
theorem BlockTells_card_holds : Rows.BlockTellsCardSaid :=
 Claim7.holds_tied_plain_at .later [] [.listed, .data] true (true, "f2963ad1d2a7119b6327ea73577df3289377384b669669889fde7edbb4d8405d") false
  over_BlockTells (fun _ h => by cases h) (by kernel_rfl) (fun _ h => by cases h) blockTells_row_tie rfl ⟨rfl, rfl⟩ (by kernel_rfl) rfl
  (fun f fn hf hfn => by
   obtain rfl : f = 5 := Option.some.inj ((show Tryd.prog.funcNamed "servitor/servitorlaw27.BlockTells" = some 5 by kernel_rfl).symm.trans hf) |>.symm
   obtain rfl : fn = Tryd.f5 := (Option.some.inj (Tryd.func5.symm.trans hfn)).symm
   exact ⟨by kernel_rfl, fun j t ht => by
    rw [Tryd.params5] at ht
    have hm : t ∈ [25, 30, 44, 45, 47, 4] := by have := Array.mem_of_getElem? ht; simp at this; simp; exact this
    have hall : ([25, 30, 44, 45, 47, 4].all fun u => !Tryd.prog.wantsStandIn u) = true := by kernel_rfl
    exact (show Tryd.prog.wantsStandIn t = false by simpa using List.all_eq_true.1 hall t hm)⟩)
  (by kernel_rfl)
#print axioms BlockTells_card_holds

end Go.Proofs.YtpgkebfdfhdliaaDoor
