/- Layer 10: behind as many cycles at one place as the window has, the setpoint is that place, and rests: SmoothRests returns true for every input. Conditions: none. -/
import Derived.Test.YtddakmlnkffgiaaSmJ
import Derived.ProofKit
namespace Go.Proofs.Ytddakmlnkffgiaa
open Go.ChangeShapes Go.WideShapes Go.ChangeAt Go.RowKit
set_option linter.unusedVariables false
set_option linter.unusedSimpArgs false

/-- a slice of 16-bit numbers, as the walks want it -/
theorem i16s_at {w : World} {v : Value} {xs : List Int} (h : IntsAt .i16 w v xs) : ∃ (sa : Option Addr) (cap : Nat), v = .slice sa xs.length cap ∧ xs.length ≤ 9223372036854775807 ∧ (∀ i, i < xs.length → -32768 ≤ xs[i]?.getD 0 ∧ xs[i]?.getD 0 ≤ 32767) ∧
    (xs.length = 0 ∨ ∃ b off, sa = some ⟨b, off, none⟩ ∧ b < w.heap.size ∧ ∀ i, i < xs.length → w.cell? ⟨b, off + i, none⟩ = some (.int .i16 (xs[i]?.getD 0))) := by
  obtain ⟨a, cap, rfl, hn, hc, hwz, hm⟩ := h
  refine ⟨a, cap, rfl, by omega, fun i hi => ?_, ?_⟩
  · rw [List.getElem?_eq_getElem hi]
    exact bounds_i16 (hwz _ (List.getElem_mem hi))
  · by_cases he : xs = []
    · exact .inl (by rw [he]; rfl)
    · obtain ⟨b, off, rfl, hcell⟩ := hm he
      exact .inr ⟨b, off, rfl, World.block_lt_of_cell? _ _ (hcell 0 (List.length_pos_iff.2 he)), hcell⟩

theorem walk_SmoothRests (m f : Int) (v : Value) (xs : List Int) (pos : Int) (w : World) (hm : (Lit.int .i64 m).wf = true) (hf : (Lit.int .i64 f).wf = true) (hx : IntsAt .i16 w v xs) (hp : (Lit.int .i64 pos).wf = true) :
    Calls Try.prog 11 #[.int .i64 m, .int .i64 f, v, .int .i64 pos] w fun e w' => e = .returned (.bool true) ∧ Below w.heap.size w w' := by
  obtain ⟨sa, cap, rfl, hn, hxb, hc⟩ := i16s_at hx
  cases h : (decide (-1099511627776 ≤ f ∧ f ≤ 1099511627776) && plB pos)
  · exact rests_skip m f pos _ w h
  · simp only [Bool.and_eq_true, decide_eq_true_eq] at h
    by_cases h1 : 1 ≤ m ∧ m ≤ 16
    · obtain ⟨k, rfl⟩ := Int.eq_ofNat_of_zero_le (a := m) (by omega)
      exact rests_yes k f pos sa xs.length cap xs w h.1 h.2 (by omega) hn hxb hc
    · exact rests_no m f pos _ w h.1 h.2 h1

set_option maxRecDepth 100000 in
theorem lifted_SmoothRests (os : Os) (started : os.Started) (H : Type) (enc : TypeId × Value → H) :
    ReturnsInHanded {} Try.checked os 11 .any (Rows.smoothRestsSpec.pre6 enc Try.prog Try.f11 Rows.smoothRestsRow.domain false) (Rows.smoothRestsSpec.post enc Try.prog Try.f11 false true false false) := by
  refine returnsInHanded_of_change (C := Try.checked) own started (by kernel_rfl) Try.func11
    (ChangeSpec.witness6 (enc := enc) (C := Try.checked) false ⟨#[], #[.int .i64 0, .int .i64 0, .slice none 0 0, .int .i64 0], []⟩ 8 (by kernel_rfl) (by kernel_rfl) (by kernel_rfl) (by kernel_rfl)) ?_
  intro W base args ds gs before hval0 hW hcnd _
  have hval : ∀ (j : Nat) t v, Try.f11.params[j]? = some t → args[j]? = some v → Value.okWide Try.prog W .any base t v := hval0
  have hW' := hW
  obtain ⟨p, q, hA0, hV, rfl, hfz, hnd⟩ := hW'
  have hA : DataW.TrodAll enc Try.prog W 0 (fun _ => true) true Try.f11.params.toList args.toList ds p := hA0
  rw [Try.params11] at hA hval
  obtain ⟨v0, vs0, d0, ds0, p0, q0, hargs, rfl, rfl, h0, r0⟩ := trodAll_cons hA
  obtain ⟨v1, vs1, d1, ds1, p1, q1, rfl, rfl, rfl, h1, r1⟩ := trodAll_cons r0
  obtain ⟨v2, vs2, d2, ds2, p2, q2, rfl, rfl, rfl, h2, r2⟩ := trodAll_cons r1
  obtain ⟨v3, vs3, d3, ds3, p3, q3, rfl, rfl, rfl, h3, r3⟩ := trodAll_cons r2
  obtain ⟨rfl, rfl, rfl⟩ := trodAll_nil r3
  obtain rfl : args = #[v0, v1, v2, v3] := by cases args; simp_all
  obtain ⟨rfl, rfl⟩ := trodVars_none hV
  obtain ⟨a0, rfl, rfl, rfl, w0⟩ := open_int Try.underlying3 (hval 0 3 v0 rfl rfl) h0
  obtain ⟨a1, rfl, rfl, rfl, w1⟩ := open_int Try.underlying2 (hval 1 2 v1 rfl rfl) h1
  obtain ⟨a2, w2⟩ := open_ints_at Try.underlying68 Try.underlying75 (by kernel_rfl) (hval 2 68 v2 rfl rfl) h2
  obtain ⟨a3, rfl, rfl, rfl, w3⟩ := open_int Try.underlying2 (hval 3 2 v3 rfl rfl) h3
  refine (walk_SmoothRests a0 a1 v2 a2 a3 W w0 w1 w2 w3).mono fun e W' ⟨he, hb⟩ => ⟨_, he, ?_⟩
  exact law_post_any laid_out Try.underlying4 hW rfl ⟨rfl, rfl, rfl⟩ rfl (by kernel_rfl) hb

theorem over_SmoothRests : Rows.smoothRestsRow.holds Try.pinned (OpenSpec.ofChange Rows.smoothRestsSpec) :=
  OpenClaim.holds_of_wide 11 Try.f11 rfl rfl rfl rfl rfl rfl rfl ⟨rfl, rfl, rfl, rfl, rfl⟩ rfl rfl rfl rfl rfl (by kernel_rfl) Try.func11 (by kernel_rfl)
    (of_decide_eq_true (by kernel_rfl)) (by unfold Func.isWrapper; first | (rw [if_pos (by decide +kernel)]; kernel_rfl) | (rw [if_neg (by decide +kernel)]; exact ⟨rfl, rfl⟩))
    (fun os started H enc _ => lifted_SmoothRests os started H enc)

/-- the statement -/
theorem SmoothRests_holds : Rows.SmoothRestsSaid := over_SmoothRests
#print axioms SmoothRests_holds

end Go.Proofs.Ytddakmlnkffgiaa
