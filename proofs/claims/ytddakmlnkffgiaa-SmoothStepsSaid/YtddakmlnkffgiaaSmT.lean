/- Layer 10: moved as a whole a way has the same speeds: SmoothShifts returns true for every input. Conditions: none. -/
import Derived.Test.YtddakmlnkffgiaaSmS
import Derived.Test.YtddakmlnkffgiaaRdRow
import Derived.ProofKit
namespace Go.Proofs.Ytddakmlnkffgiaa
open Go.ChangeShapes Go.WideShapes Go.ChangeAt Go.RowKit
set_option linter.unusedVariables false
set_option linter.unusedSimpArgs false
attribute [local go_sem] ite_max ite_min vite_max vite_min ext_cell ext_frozen

set_option maxRecDepth 100000 in
set_option maxHeartbeats 2000000 in
theorem shifts_empty (sa : Option Addr) (cap : Nat) (pos d : Int) (w : World) :
    Calls Try.prog 14 #[.agg #[.slice sa 0 cap], .int .i64 pos, .int .i32 d] w fun e w' => e = .returned (.bool true) ∧ Below w.heap.size w w' := by
  go_enter Try.func14, Try.ntmps14
  go_wp2_with fail
  refine (awake10_at _).mono ?_
  rintro e w1 ⟨rfl, hb1⟩
  obtain ⟨hb1c, hb1f⟩ := bcell hb1
  have hb1z := hb1.size
  have hb1c0 := fun o => hb1c (w.heap.size) o (by first | (simp; done) | (simp; omega) | (simp at *; omega) | omega)
  have hb1f0 := fun o => hb1f (w.heap.size) o (by first | (simp; done) | (simp; omega) | (simp at *; omega) | omega)
  have hb1l0 := below_lt (b := w.heap.size) hb1 (by first | (simp; done) | (simp; omega) | (simp at *; omega) | omega)
  go_wp2_with fail
  refine (sm_right_nil sa cap _).mono ?_
  rintro e w2 ⟨rfl, hb2⟩
  go_wp2
  go_ret
  exact ⟨rfl, by (repeat' (first | (with_reducible exact Below.refl _ _) | (with_reducible assumption) | (with_reducible refine below_drewN ?_ _) | (with_reducible refine Below.drew ?_) | (with_reducible refine below_new ?_ (Nat.le_refl _) _) | (with_reducible refine Below.setCell ?_ ?_ _) | (with_reducible refine below_go ?_ (by assumption) (Nat.le_refl _)) | (simp; done) | (simp; omega) | omega))⟩

set_option maxRecDepth 100000 in
set_option maxHeartbeats 2000000 in
theorem shifts_noright (zs : List Int) (b off n cap : Nat) (pos d : Int) (w : World) (h : AtW w zs n b off cap) (hr : rightW zs n = false) :
    Calls Try.prog 14 #[.agg #[.slice (some ⟨b, off, none⟩) n cap], .int .i64 pos, .int .i32 d] w fun e w' => e = .returned (.bool true) ∧ Below w.heap.size w w' := by
  have H := Lib.hid h
  have HR := Lib.hid hr
  clear h hr
  go_enter Try.func14, Try.ntmps14
  go_wp2_with fail
  refine (awake10_at _).mono ?_
  rintro e w1 ⟨rfl, hb1⟩
  obtain ⟨hb1c, hb1f⟩ := bcell hb1
  have hb1z := hb1.size
  have hb1c0 := fun o => hb1c (w.heap.size) o (by first | (simp; done) | (simp; omega) | (simp at *; omega) | omega)
  have hb1f0 := fun o => hb1f (w.heap.size) o (by first | (simp; done) | (simp; omega) | (simp at *; omega) | omega)
  have hb1l0 := below_lt (b := w.heap.size) hb1 (by first | (simp; done) | (simp; omega) | (simp at *; omega) | omega)
  go_wp2_with fail
  refine (sm_right_a zs b off n cap false _ (H.out.below ?bb) HR.out).mono ?_
  case bb => (repeat' (first | (with_reducible exact Below.refl _ _) | (with_reducible assumption) | (with_reducible refine below_drewN ?_ _) | (with_reducible refine Below.drew ?_) | (with_reducible refine below_new ?_ (Nat.le_refl _) _) | (with_reducible refine Below.setCell ?_ ?_ _) | (with_reducible refine below_go ?_ (by assumption) (Nat.le_refl _)) | (simp; done) | (simp; omega) | omega))
  rintro e w2 ⟨rfl, hb2⟩
  go_wp2
  go_ret
  exact ⟨rfl, by (repeat' (first | (with_reducible exact Below.refl _ _) | (with_reducible assumption) | (with_reducible refine below_drewN ?_ _) | (with_reducible refine Below.drew ?_) | (with_reducible refine below_new ?_ (Nat.le_refl _) _) | (with_reducible refine Below.setCell ?_ ?_ _) | (with_reducible refine below_go ?_ (by assumption) (Nat.le_refl _)) | (simp; done) | (simp; omega) | omega))⟩

set_option maxRecDepth 100000 in
set_option maxHeartbeats 2000000 in
theorem shifts_noplace (zs : List Int) (b off n cap : Nat) (pos d : Int) (w : World) (h : AtW w zs n b off cap) (hr : rightW zs n = true) (hp : plB pos = false) :
    Calls Try.prog 14 #[.agg #[.slice (some ⟨b, off, none⟩) n cap], .int .i64 pos, .int .i32 d] w fun e w' => e = .returned (.bool true) ∧ Below w.heap.size w w' := by
  have H := Lib.hid h
  have HR := Lib.hid hr
  have HP := Lib.hid hp
  clear h hr hp
  go_enter Try.func14, Try.ntmps14
  go_wp2_with fail
  refine (awake10_at _).mono ?_
  rintro e w1 ⟨rfl, hb1⟩
  obtain ⟨hb1c, hb1f⟩ := bcell hb1
  have hb1z := hb1.size
  have hb1c0 := fun o => hb1c (w.heap.size) o (by first | (simp; done) | (simp; omega) | (simp at *; omega) | omega)
  have hb1f0 := fun o => hb1f (w.heap.size) o (by first | (simp; done) | (simp; omega) | (simp at *; omega) | omega)
  have hb1l0 := below_lt (b := w.heap.size) hb1 (by first | (simp; done) | (simp; omega) | (simp at *; omega) | omega)
  go_wp2_with fail
  refine (sm_right_a zs b off n cap true _ (H.out.below ?bb) HR.out).mono ?_
  case bb => (repeat' (first | (with_reducible exact Below.refl _ _) | (with_reducible assumption) | (with_reducible refine below_drewN ?_ _) | (with_reducible refine Below.drew ?_) | (with_reducible refine below_new ?_ (Nat.le_refl _) _) | (with_reducible refine Below.setCell ?_ ?_ _) | (with_reducible refine below_go ?_ (by assumption) (Nat.le_refl _)) | (simp; done) | (simp; omega) | omega))
  rintro e w2 ⟨rfl, hb2⟩
  go_wp2_with fail
  refine (lawplace_is pos false _ HP.out).mono ?_
  rintro e w3 ⟨rfl, rfl⟩
  go_wp2
  go_ret
  exact ⟨rfl, by (repeat' (first | (with_reducible exact Below.refl _ _) | (with_reducible assumption) | (with_reducible refine below_drewN ?_ _) | (with_reducible refine Below.drew ?_) | (with_reducible refine below_new ?_ (Nat.le_refl _) _) | (with_reducible refine Below.setCell ?_ ?_ _) | (with_reducible refine below_go ?_ (by assumption) (Nat.le_refl _)) | (simp; done) | (simp; omega) | omega))⟩

/-- a row of numbers in an argument, as the walks want it -/
theorem i64s_at {w : World} {v : Value} {xs : List Int} (h : IntsAt .i64 w v xs) : (∃ sa cap, v = .slice sa 0 cap ∧ xs = []) ∨ ∃ b off cap, v = .slice (some ⟨b, off, none⟩) xs.length cap ∧ xs ≠ [] ∧ AtW w xs xs.length b off cap := by
  obtain ⟨a, cap, rfl, hn, hc, hwz, hm⟩ := h
  by_cases he : xs = []
  · subst he
    exact .inl ⟨a, cap, rfl, rfl⟩
  · obtain ⟨b, off, rfl, hcell⟩ := hm he
    exact .inr ⟨b, off, cap, rfl, he, hn, hc, World.block_lt_of_cell? _ _ (hcell 0 (List.length_pos_iff.2 he)), hcell⟩

theorem walk_SmoothShifts (s : Value) (zs : List Int) (pos d : Int) (w : World) (hz : IntsAt .i64 w s zs) (hp : (Lit.int .i64 pos).wf = true) (hd : (Lit.int .i32 d).wf = true) :
    Calls Try.prog 14 #[.agg #[s], .int .i64 pos, .int .i32 d] w fun e w' => e = .returned (.bool true) ∧ Below w.heap.size w w' := by
  rcases i64s_at hz with ⟨sa, cap, rfl, _⟩ | ⟨b, off, cap, rfl, _, h⟩
  · exact shifts_empty sa cap pos d w
  · cases hr : rightW zs zs.length
    · exact shifts_noright zs b off zs.length cap pos d w h hr
    · cases hq : plB pos
      · exact shifts_noplace zs b off zs.length cap pos d w h hr hq
      · have hb := bounds_i32 hd
        exact shifts_yes zs b off zs.length cap pos d w h ⟨by omega, by omega⟩ hr hq

set_option maxRecDepth 100000 in
theorem lifted_SmoothShifts (os : Os) (started : os.Started) (H : Type) (enc : TypeId × Value → H) :
    ReturnsInHanded {} Try.checked os 14 .any (Rows.smoothShiftsSpec.pre6 enc Try.prog Try.f14 Rows.smoothShiftsRow.domain false) (Rows.smoothShiftsSpec.post enc Try.prog Try.f14 false true false false) := by
  refine returnsInHanded_of_change (C := Try.checked) own started (by kernel_rfl) Try.func14
    (ChangeSpec.witness6 (enc := enc) (C := Try.checked) false ⟨#[], #[.agg #[.slice none 0 0], .int .i64 0, .int .i32 0], []⟩ 8 (by kernel_rfl) (by kernel_rfl) (by kernel_rfl) (by kernel_rfl)) ?_
  intro W base args ds gs before hval0 hW hcnd _
  have hval : ∀ (j : Nat) t v, Try.f14.params[j]? = some t → args[j]? = some v → Value.okWide Try.prog W .any base t v := hval0
  have hW' := hW
  obtain ⟨p, q, hA0, hV, rfl, hfz, hnd⟩ := hW'
  have hA : DataW.TrodAll enc Try.prog W 0 (fun _ => true) true Try.f14.params.toList args.toList ds p := hA0
  rw [Try.params14] at hA hval
  obtain ⟨v0, vs0, d0, ds0, p0, q0, hargs, rfl, rfl, h0, r0⟩ := trodAll_cons hA
  obtain ⟨v1, vs1, d1, ds1, p1, q1, rfl, rfl, rfl, h1, r1⟩ := trodAll_cons r0
  obtain ⟨v2, vs2, d2, ds2, p2, q2, rfl, rfl, rfl, h2, r2⟩ := trodAll_cons r1
  obtain ⟨rfl, rfl, rfl⟩ := trodAll_nil r2
  obtain rfl : args = #[v0, v1, v2] := by cases args; simp_all
  obtain ⟨rfl, rfl⟩ := trodVars_none hV
  obtain ⟨cs0, e0, r0⟩ := rd_agg Try.underlying71 (hval 0 71 v0 rfl rfl) h0
  obtain ⟨s0, a0, f0, w0⟩ := rd_smooth r0
  subst f0
  subst e0
  obtain ⟨a1, rfl, rfl, rfl, w1⟩ := open_int Try.underlying2 (hval 1 2 v1 rfl rfl) h1
  obtain ⟨a2, rfl, rfl, rfl, w2⟩ := open_int Try.underlying21 (hval 2 21 v2 rfl rfl) h2
  refine (walk_SmoothShifts s0 a0 a1 a2 W w0 w1 w2).mono fun e W' ⟨he, hb⟩ => ⟨_, he, ?_⟩
  exact law_post_any laid_out Try.underlying4 hW rfl ⟨rfl, rfl, rfl⟩ rfl (by kernel_rfl) hb

theorem over_SmoothShifts : Rows.smoothShiftsRow.holds Try.pinned (OpenSpec.ofChange Rows.smoothShiftsSpec) :=
  OpenClaim.holds_of_wide 14 Try.f14 rfl rfl rfl rfl rfl rfl rfl ⟨rfl, rfl, rfl, rfl, rfl⟩ rfl rfl rfl rfl rfl (by kernel_rfl) Try.func14 (by kernel_rfl)
    (of_decide_eq_true (by kernel_rfl)) (by unfold Func.isWrapper; first | (rw [if_pos (by decide +kernel)]; kernel_rfl) | (rw [if_neg (by decide +kernel)]; exact ⟨rfl, rfl⟩))
    (fun os started H enc _ => lifted_SmoothShifts os started H enc)

/-- the statement -/
theorem SmoothShifts_holds : Rows.SmoothShiftsSaid := over_SmoothShifts
#print axioms SmoothShifts_holds

end Go.Proofs.Ytddakmlnkffgiaa
