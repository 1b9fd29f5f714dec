/- Layer 22: the laws' own: a fixed answer; a program that fits. -/
import Derived.Test.YtpgkebfdfhdliaaDoorM14
import Derived.Test.YtpgkebfdfhdliaaDoorTreeN
import Derived.Test.YtpgkebfdfhdliaaDoorM07
namespace Go.Proofs.YtpgkebfdfhdliaaDoor
open Go.RowKit
set_option linter.unusedVariables false
set_option linter.unusedSimpArgs false
attribute [local go_sem] ite_max ite_min vite_max vite_min ext_cell ext_frozen extS_cell extS_frozen

def awA : VarS := ⟨⟨#[97]⟩, 1, 0, false, 0, 0, 5, 0⟩
def awT : VarS := ⟨⟨#[116]⟩, 10, 0, false, 0, 0, 0, 0⟩
def awB : VarS := ⟨⟨#[98]⟩, 2, 0, false, 0, 0, 0, 0⟩
def awP : Prg := ⟨⟨#[112]⟩, [awA, awT, awB], []⟩
theorem awP_offs : offsN 0 awP.vars = [0, 1, 5] := by kernel_rfl
theorem awP_sum : sumN awP.vars = 6 := by kernel_rfl
theorem awP_first : firstsV awP.vars = [5, 0, 0, 0, 0, 0] := by kernel_rfl
theorem awP_pin : pinO ⟨#[81]⟩ (atV ⟨#[116]⟩ 0 awP.vars) = .tuple #[.int .i64 3, .agg #[.string ⟨#[81]⟩, .int .i64 2, .bool false], .bool true] := by kernel_rfl
theorem awP_ok : ∀ v ∈ awP.vars, ArrOk v := by
  intro v hv
  simp only [awP, List.mem_cons, List.not_mem_nil, or_false] at hv
  rcases hv with rfl | rfl | rfl <;> exact fun h => by cases h
theorem varOk_const (v : VarS) (h1 : I64 v.type) (h2 : I64 v.sect) (h3 : I64 v.lo) (h4 : I64 v.hi) (h5 : I64 v.init) (h6 : I64 v.line) : VarAt v v.cells := ⟨rfl, ⟨h1, h2, h3, h4, h5, h6⟩⟩
theorem awP_row {w : World} {H : Nat} {T : TypeId} (hh : w.heap[H]? = some (.cells (awA.cells ++ awT.cells ++ awB.cells).toArray T)) : RowV w (some ⟨H, 0, none⟩) awP.vars 3 := by
  refine ⟨by show 3 ≤ 3; omega, by omega, by show 3 * 72 ≤ 140737488355328; omega, fun i => match i with | 0 => awA.cells | 1 => awT.cells | _ => awB.cells, fun _ => ⟨H, 0, rfl, (Array.getElem?_eq_some_iff.1 hh).1, fun i hi j hj => ?_⟩, fun i x hx => ?_⟩
  · have hi : i < 3 := hi
    rcases (show i = 0 ∨ i = 1 ∨ i = 2 by omega) with rfl | rfl | rfl
    all_goals rcases (show j = 0 ∨ j = 1 ∨ j = 2 ∨ j = 3 ∨ j = 4 ∨ j = 5 ∨ j = 6 ∨ j = 7 by omega) with rfl | rfl | rfl | rfl | rfl | rfl | rfl | rfl
    all_goals exact heap_cell _ _ hh rfl
  · rcases i with _ | _ | _ | i
    · cases hx
      exact varOk_const _ (by unfold I64 awA; decide) (by unfold I64 awA; decide) (by unfold I64 awA; decide) (by unfold I64 awA; decide) (by unfold I64 awA; decide) (by unfold I64 awA; decide)
    · cases hx
      exact varOk_const _ (by unfold I64 awT; decide) (by unfold I64 awT; decide) (by unfold I64 awT; decide) (by unfold I64 awT; decide) (by unfold I64 awT; decide) (by unfold I64 awT; decide)
    · cases hx
      exact varOk_const _ (by unfold I64 awB; decide) (by unfold I64 awB; decide) (by unfold I64 awB; decide) (by unfold I64 awB; decide) (by unfold I64 awB; decide) (by unfold I64 awB; decide)
    · simp [awP] at hx
theorem rowT_nil (w : World) : RowT w none [] 0 := RowOf.nil _ _ _ _ _ _ (by omega)
/-- a program in a variable of its own -/
def PrgC (w : World) (B : Nat) (nm : ByteArray) (Av : Option Addr) (n kv : Nat) (Ab : Option Addr) (nb kb : Nat) : Prop := B < w.heap.size ∧ w.cell? ⟨B, 0, none⟩ = some (.string nm) ∧ w.cell? ⟨B, 1, none⟩ = some (.slice Av n kv) ∧ w.cell? ⟨B, 2, none⟩ = some (.slice Ab nb kb)
theorem PrgC.below {w w' : World} {B : Nat} {nm : ByteArray} {Av : Option Addr} {n kv : Nat} {Ab : Option Addr} {nb kb : Nat} (h : PrgC w B nm Av n kv Ab nb kb) (hb : Below w.heap.size w w') : PrgC w' B nm Av n kv Ab nb kb :=
  ⟨Nat.lt_of_lt_of_le h.1 hb.size, (hb.cell (p := ⟨B, 0, none⟩) h.1).trans h.2.1, (hb.cell (p := ⟨B, 1, none⟩) h.1).trans h.2.2.1, (hb.cell (p := ⟨B, 2, none⟩) h.1).trans h.2.2.2⟩

set_option maxRecDepth 100000 in
set_option maxHeartbeats 4000000 in
theorem awake22 (w : World) (ht : Blanks w) : Calls Tryd.prog 7 #[] w fun e w' => e = .returned (.bool true) ∧ Below w.heap.size w w' := by
  have HT := Lib.hid ht
  clear ht
  go_enter Tryd.func7, Tryd.ntmps7
  go_upto_region 2 with (fail)
  refine wp_name fun W hW => ?_
  obtain ⟨H, hH⟩ : ∃ H, H = w.heap.size := ⟨_, rfl⟩
  have hh : W.heap[H]? = some (.cells (awA.cells ++ awT.cells ++ awB.cells).toArray 35) := by rw [hW.out, hH]; exact (heap_alloc_old _ _ (by simp)).trans (heap_alloc_new _ _)
  have hP : PrgC W (H + 1) ⟨#[112]⟩ (some ⟨H, 0, none⟩) 3 3 none 0 0 := by
    refine ⟨by rw [hW.out, hH]; simp, ?_, ?_, ?_⟩
    all_goals (rw [hW.out, hH]; go_simp)
  have hbel : Below w.heap.size w W := by rw [hW.out]; (repeat' (first | (with_reducible exact Below.refl _ _) | (with_reducible assumption) | (with_reducible refine below_drewN ?_ _) | (with_reducible refine Below.drew ?_) | (with_reducible refine below_new ?_ (Nat.le_refl _) _) | (with_reducible refine Below.setCell ?_ ?_ _) | (with_reducible refine below_go ?_ (by assumption) (Nat.le_refl _)) | (simp; done) | (simp; omega) | omega))
  have hrow := awP_row hh
  have HP := Lib.hid hP
  have HB := Lib.hid hbel
  have HPA : Hid (PrgAt W awP [.string ⟨#[112]⟩, .slice (some ⟨H, 0, none⟩) 3 3, .slice none 0 0]) := Lib.hid ⟨_, _, _, _, rfl, hrow, rowT_nil _⟩
  rw [show w.heap.size + 1 = H + 1 by omega]
  obtain ⟨lP, p0, p1, p2⟩ := hP
  clear hW hbel hH hh hrow
  go_wp2_with fail
  refine (layof_any awP _ W HPA.out awP_ok (by decide) (HT.out.on HB.out)).mono ?_
  rintro e w1 ⟨⟨v, rfl, vA, vF, rfl, hoA, hoF⟩, hb1⟩
  rw [awP_offs] at hoA
  rw [awP_sum, awP_first] at hoF
  rw [awP_sum]
  obtain ⟨gA, kA, hvA, -, -⟩ := hoA.form (by decide)
  obtain ⟨gF, kF, hvF, -, -⟩ := hoF.form (by decide)
  subst hvA hvF
  have a2 : w1.cell? ⟨gA, 2, none⟩ = some (.int .i64 5) := owns_cell hoA rfl rfl
  have f0 : w1.cell? ⟨gF, 0, none⟩ = some (.int .i64 5) := owns_cell hoF rfl rfl
  have lA := (hoA.lt gA rfl).2
  have lF := (hoF.lt gF rfl).2
  have HB1 := Lib.hid (HB.out.trans (hb1.mono HB.out.size))
  have HP1 := Lib.hid (HP.out.below hb1)
  have HPA1 := Lib.hid (HPA.out.keep hb1)
  clear hoA hoF hb1 lP p0 p1 p2 HB HP HPA
  rw [show awP.vars.length = 3 from rfl]
  go_upto_region 3 with (fail)
  refine wp_name fun W2 hW2 => ?_
  obtain ⟨L, hL⟩ : ∃ L, L = w1.heap.size := ⟨_, rfl⟩
  have hb2 : Below w1.heap.size w1 W2 := by rw [hW2.out]; (repeat' (first | (with_reducible exact Below.refl _ _) | (with_reducible assumption) | (with_reducible refine below_drewN ?_ _) | (with_reducible refine Below.drew ?_) | (with_reducible refine below_new ?_ (Nat.le_refl _) _) | (with_reducible refine Below.setCell ?_ ?_ _) | (with_reducible refine below_go ?_ (by assumption) (Nat.le_refl _)) | (simp; done) | (simp; omega) | omega))
  have lL : L < W2.heap.size := by rw [hW2.out, hL]; simp
  have l0 : W2.cell? ⟨L, 0, none⟩ = some (.slice (some ⟨gA, 0, none⟩) 3 kA) := by rw [hW2.out, hL]; go_simp
  have l1 : W2.cell? ⟨L, 1, none⟩ = some (.int .i64 6) := by rw [hW2.out, hL]; go_simp
  have l2 : W2.cell? ⟨L, 2, none⟩ = some (.slice (some ⟨gF, 0, none⟩) 6 kF) := by rw [hW2.out, hL]; go_simp
  rw [← hL]
  have HL : Hid (∀ W', Below W2.heap.size W2 W' → W'.cell? ⟨L, 0, none⟩ = some (.slice (some ⟨gA, 0, none⟩) 3 kA) ∧ W'.cell? ⟨L, 1, none⟩ = some (.int .i64 6) ∧ W'.cell? ⟨L, 2, none⟩ = some (.slice (some ⟨gF, 0, none⟩) 6 kF) ∧ W'.cell? ⟨gA, 2, none⟩ = some (.int .i64 5) ∧ W'.cell? ⟨gF, 0, none⟩ = some (.int .i64 5) ∧ L < W'.heap.size ∧ gA < W'.heap.size ∧ gF < W'.heap.size) := Lib.hid (fun W' hW' => by
    have z := hW'.size
    have z2 := hb2.size
    exact ⟨(hW'.cell (p := ⟨L, 0, none⟩) lL).trans l0, (hW'.cell (p := ⟨L, 1, none⟩) lL).trans l1, (hW'.cell (p := ⟨L, 2, none⟩) lL).trans l2, ((hW'.cell (p := ⟨gA, 2, none⟩) (by show gA < _; omega)).trans (hb2.cell (p := ⟨gA, 2, none⟩) lA)).trans a2, ((hW'.cell (p := ⟨gF, 0, none⟩) (by show gF < _; omega)).trans (hb2.cell (p := ⟨gF, 0, none⟩) lF)).trans f0, by omega, by omega, by omega⟩)
  have HB2 := Lib.hid (HB1.out.trans (hb2.mono HB1.out.size))
  have hP2 := HP1.out.below hb2
  have HPA2 := Lib.hid (HPA1.out.keep hb2)
  obtain ⟨lP, p0, p1, p2⟩ := hP2
  clear hW2 hL hb2 a2 f0 lA lF l0 l1 l2 lL HB1 HP1 HPA1
  go_wp2_with fail
  refine (laypin_any awP _ ⟨#[116]⟩ ⟨#[81]⟩ W2 HPA2.out awP_ok (by decide) (HT.out.on HB2.out)).mono ?_
  rw [awP_pin]
  rintro e w3 ⟨rfl, hb3⟩
  obtain ⟨l0, l1, l2, a2, f0, lL, lA, lF⟩ := HL.out w3 hb3
  have hB3 := HB2.out.trans (hb3.mono HB2.out.size)
  have HB3 := Lib.hid hB3
  clear hb3 hB3 lP p0 p1 p2 HB2 HPA2
  go_upto_region 4 with (fail)
  refine wp_name fun W4 hW4 => ?_
  have hb4 : Below w3.heap.size w3 W4 := by rw [hW4.out]; (repeat' (first | (with_reducible exact Below.refl _ _) | (with_reducible assumption) | (with_reducible refine below_drewN ?_ _) | (with_reducible refine Below.drew ?_) | (with_reducible refine below_new ?_ (Nat.le_refl _) _) | (with_reducible refine Below.setCell ?_ ?_ _) | (with_reducible refine below_go ?_ (by assumption) (Nat.le_refl _)) | (simp; done) | (simp; omega) | omega))
  have m0 := (hb4.cell (p := ⟨L, 0, none⟩) lL).trans l0
  have m1 := (hb4.cell (p := ⟨L, 1, none⟩) lL).trans l1
  have m2 := (hb4.cell (p := ⟨L, 2, none⟩) lL).trans l2
  have m3 := (hb4.cell (p := ⟨gA, 2, none⟩) lA).trans a2
  have m4 := (hb4.cell (p := ⟨gF, 0, none⟩) lF).trans f0
  have HB4 := Lib.hid (HB3.out.trans (hb4.mono HB3.out.size))
  clear hW4 hb4 l0 l1 l2 a2 f0 lL lA lF
  go_wp2
  go_ret
  exact ⟨rfl, HB4.out⟩

set_option maxRecDepth 100000 in
set_option maxHeartbeats 4000000 in
theorem fits22_any (p : Prg) (cs : List Value) (w : World) (h : PrgAt w p cs) (hsm : ∀ s ∈ p.body, SmS s) : Calls Tryd.prog 8 #[.agg cs.toArray] w fun e w' => BoolIf (FitP p ∧ DiffN p.vars ∧ sumN p.vars ≤ 1024) e ∧ Below w.heap.size w w' := by
  obtain ⟨Av, kv, Ab, kb, rfl, hv, hbd⟩ := h
  have HP : Hid (PrgAt w p [.string p.name, .slice Av p.vars.length kv, .slice Ab p.body.length kb]) := Lib.hid ⟨Av, kv, Ab, kb, rfl, hv, hbd⟩
  have HSM := Lib.hid hsm
  clear hv hbd hsm
  go_enter Tryd.func8, Tryd.ntmps8
  go_upto_region 1 with (fail)
  refine wp_name fun W hW => ?_
  obtain ⟨B, hB⟩ : ∃ B, B = w.heap.size := ⟨_, rfl⟩
  have hC : PrgC W B p.name Av p.vars.length kv Ab p.body.length kb := by
    refine ⟨by rw [hW.out, hB]; simp, ?_, ?_, ?_⟩
    all_goals (rw [hW.out, hB]; go_simp)
  have hbel : Below w.heap.size w W := by rw [hW.out]; (repeat' (first | (with_reducible exact Below.refl _ _) | (with_reducible assumption) | (with_reducible refine below_drewN ?_ _) | (with_reducible refine Below.drew ?_) | (with_reducible refine below_new ?_ (Nat.le_refl _) _) | (with_reducible refine Below.setCell ?_ ?_ _) | (with_reducible refine below_go ?_ (by assumption) (Nat.le_refl _)) | (simp; done) | (simp; omega) | omega))
  rw [← hB]
  have HC := Lib.hid hC
  have HB := Lib.hid hbel
  obtain ⟨lB, c0, c1, c2⟩ := hC
  clear hW hbel hB
  go_wp2_with fail
  refine (short_any p _ _ (HP.out.keep HB.out)).mono ?_
  rintro e w1 ⟨⟨b, rfl⟩, hb⟩
  have HC1 := Lib.hid (HC.out.below hb)
  have HB1 := Lib.hid (HB.out.trans (hb.mono HB.out.size))
  clear lB c0 c1 c2 hb HC HB
  obtain ⟨lB, c0, c1, c2⟩ := HC1.out
  cases b
  · go_wp2
    go_ret
    exact ⟨⟨_, rfl, fun h => by cases h⟩, HB1.out⟩
  go_wp2_with fail
  refine (fits_any p _ _ (HP.out.keep HB1.out) HSM.out).mono ?_
  rintro e w2 ⟨⟨b, rfl, hf⟩, hb⟩
  have HF := Lib.hid hf
  have HC2 := Lib.hid (HC1.out.below hb)
  have HB2 := Lib.hid (HB1.out.trans (hb.mono HB1.out.size))
  clear lB c0 c1 c2 hb HC1 HB1 hf
  obtain ⟨lB, c0, c1, c2⟩ := HC2.out
  cases b
  · go_wp2
    go_ret
    exact ⟨⟨_, rfl, fun h => by cases h⟩, HB2.out⟩
  have HF2 := Lib.hid (HF.out rfl)
  go_wp2_with fail
  refine (check20_any p _ _ (HP.out.keep HB2.out) HF2.out).mono ?_
  rintro e w3 ⟨⟨a, b, rfl, hc⟩, hb⟩
  have HCK := Lib.hid hc
  have HB3 := Lib.hid (HB2.out.trans (hb.mono HB2.out.size))
  clear lB c0 c1 c2 hb HC2 HB2 hc
  have hfd : ∀ w : World, (Instr.field 61 (.agg #[.int .i64 a, .int .i64 b]) 0).run Tryd.prog w = .ok (.int .i64 a) w := fun _ => by kernel_rfl
  by_cases ha : a = 0
  · subst ha
    go_wp2
    go_ret
    exact ⟨⟨_, rfl, fun _ => ⟨HF2.out, HCK.out (by first | trivial | rfl)⟩⟩, HB3.out⟩
  · have hab : (a == 0) = false := by simp [ha]
    go_wp2
    go_ret
    exact ⟨⟨_, rfl, fun h => by cases h⟩, HB3.out⟩

end Go.Proofs.YtpgkebfdfhdliaaDoor
