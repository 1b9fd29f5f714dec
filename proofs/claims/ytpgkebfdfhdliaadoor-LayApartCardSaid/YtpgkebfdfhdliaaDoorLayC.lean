/- Layer 20, the reference: a type is told of any expression that fits. -/
import Derived.Test.YtpgkebfdfhdliaaDoorM13
import Derived.Test.YtpgkebfdfhdliaaDoorLayB8
import Derived.Test.YtpgkebfdfhdliaaDoorLayB9
namespace Go.Proofs.YtpgkebfdfhdliaaDoor
open Go.RowKit
set_option linter.unusedVariables false
set_option linter.unusedSimpArgs false

set_option maxHeartbeats 1000000 in
theorem type20_at : ∀ (k : Nat) (x : Ex), SizeOf.sizeOf x < k → FitE x → ∀ (vs : List VarS) (w : World) (vA A : Option Addr) (vcap cap : Nat), RowV w vA vs vcap → RowE w A x.sub cap → Calls Tryd.prog 82 #[.slice vA vs.length vcap, .agg (ExC x A cap).toArray] w fun e w' => TyR e ∧ Below w.heap.size w w' := by
  intro k
  induction k with
  | zero => intro x h; omega
  | succ k ih =>
    intro x hsz hfit vs w vA A vcap cap hv hsub
    obtain ⟨hfx, hfs⟩ := hfit.parts
    have hin : TyIn x w A vA vcap cap vs.length x.op x.line x.sub.length := by
      refine ⟨fun W hW => find20_form vs x.name W vA vcap (hv.below hW), fun y hy W hW As ks _ h2 => ?_, hsub, rfl, rfl, rfl⟩
      have h3 : SizeOf.sizeOf y < k := by
        have h4 := List.sizeOf_lt_of_mem hy
        have h5 : SizeOf.sizeOf x.sub < SizeOf.sizeOf x := by
          cases x
          simp [Ex.sub]
          omega
        omega
      exact ih y h3 (hfs y hy) vs W vA As vcap ks (hv.below hW) h2
    have ho1 := hfx.lo
    have ho2 := hfx.hi
    have hns := hfx.subs
    unfold subsN at hns
    rcases (show x.op = 1 ∨ x.op = 2 ∨ x.op = 3 ∨ x.op = 4 ∨ x.op = 5 ∨ (6 ≤ x.op ∧ x.op < 8) ∨ 8 ≤ x.op by omega) with h | h | h | h | h | h | h
    · exact type20_k1 x w A vA vcap cap vs.length _ _ _ hin ⟨h, by rw [hns, h]; rfl⟩
    · exact type20_k2 x w A vA vcap cap vs.length _ _ _ hin ⟨h, by rw [hns, h]; rfl⟩
    · exact type20_k3 x w A vA vcap cap vs.length _ _ _ hin ⟨h, by rw [hns, h]; rfl⟩
    · exact type20_k4 x w A vA vcap cap vs.length _ _ _ hin ⟨h, by rw [hns, h]; rfl⟩
    · exact type20_k5 x w A vA vcap cap vs.length _ _ _ hin ⟨h, by rw [hns, h]; rfl⟩
    · exact type20_k6 x w A vA vcap cap vs.length _ _ _ hin ⟨h.1, h.2, by rw [hns, if_pos (by omega)]⟩
    · have hn2 : x.sub.length = 2 := by rw [hns, if_neg (by omega), if_pos (by omega)]
      rcases (show x.op = 8 ∨ x.op = 9 ∨ x.op = 10 ∨ x.op = 11 ∨ x.op = 12 ∨ x.op = 13 ∨ x.op = 14 ∨ x.op = 15 ∨ x.op = 16 ∨ x.op = 17 ∨ x.op = 18 ∨ x.op = 19 ∨ x.op = 20 ∨ x.op = 21 by omega) with h | h | h | h | h | h | h | h | h | h | h | h | h | h
      · exact type20_k8_8 x w A vA vcap cap vs.length _ _ _ hin ⟨h, hn2⟩
      · exact type20_k8_9 x w A vA vcap cap vs.length _ _ _ hin ⟨h, hn2⟩
      · exact type20_k8_10 x w A vA vcap cap vs.length _ _ _ hin ⟨h, hn2⟩
      · exact type20_k8_11 x w A vA vcap cap vs.length _ _ _ hin ⟨h, hn2⟩
      · exact type20_k8_12 x w A vA vcap cap vs.length _ _ _ hin ⟨h, hn2⟩
      · exact type20_k8_13 x w A vA vcap cap vs.length _ _ _ hin ⟨h, hn2⟩
      · exact type20_k8_14 x w A vA vcap cap vs.length _ _ _ hin ⟨h, hn2⟩
      · exact type20_k8_15 x w A vA vcap cap vs.length _ _ _ hin ⟨h, hn2⟩
      · exact type20_k8_16 x w A vA vcap cap vs.length _ _ _ hin ⟨h, hn2⟩
      · exact type20_k8_17 x w A vA vcap cap vs.length _ _ _ hin ⟨h, hn2⟩
      · exact type20_k8_18 x w A vA vcap cap vs.length _ _ _ hin ⟨h, hn2⟩
      · exact type20_k8_19 x w A vA vcap cap vs.length _ _ _ hin ⟨h, hn2⟩
      · exact type20_k8_20 x w A vA vcap cap vs.length _ _ _ hin ⟨h, hn2⟩
      · exact type20_k8_21 x w A vA vcap cap vs.length _ _ _ hin ⟨h, hn2⟩
theorem type20_any (x : Ex) (hf : FitE x) (vs : List VarS) (w : World) (vA A : Option Addr) (vcap cap : Nat) (hv : RowV w vA vs vcap) (hsub : RowE w A x.sub cap) : Calls Tryd.prog 82 #[.slice vA vs.length vcap, .agg (ExC x A cap).toArray] w fun e w' => TyR e ∧ Below w.heap.size w w' :=
  type20_at _ x (Nat.lt_succ_self _) hf vs w vA A vcap cap hv hsub
theorem wants20_any (x : Ex) (hf : FitE x) (t : Int) (vs : List VarS) (w : World) (vA A : Option Addr) (vcap cap : Nat) (hv : RowV w vA vs vcap) (hsub : RowE w A x.sub cap) : Calls Tryd.prog 83 #[.slice vA vs.length vcap, .agg (ExC x A cap).toArray, .int .i64 t] w fun e w' => ErrR e ∧ Below w.heap.size w w' :=
  wants20_of x A vA cap vs.length vcap t w (fun W hW => type20_any x hf vs W vA A vcap cap (hv.below hW) (hsub.below hW))

end Go.Proofs.YtpgkebfdfhdliaaDoor
