/- Layer 20, the reference: the check of statements: it answers, of any that fit. -/
import Derived.Test.YtpgkebfdfhdliaaDoorM12
import Derived.Test.YtpgkebfdfhdliaaDoorLayH
namespace Go.Proofs.YtpgkebfdfhdliaaDoor
open Go.RowKit
set_option linter.unusedVariables false
set_option linter.unusedSimpArgs false
attribute [local go_sem] ite_max ite_min vite_max vite_min ext_cell ext_frozen extS_cell extS_frozen

theorem stmt20_any (s : Stm) (m : SM) (w : World) (vA : Option Addr) (vcap nv : Nat) (lp : Bool) (hin : StIn s m w vA vcap nv) : Calls Tryd.prog 74 #[.slice vA nv vcap, .agg (StmC s m).toArray, .bool lp] w fun e w' => ErrR e ∧ Below w.heap.size w w' := by
  have h1 := hin.fit.lo
  have h2 := hin.fit.hi
  rcases (show s.op = 1 ∨ s.op = 2 ∨ s.op = 3 ∨ s.op = 4 ∨ s.op = 5 ∨ s.op = 6 ∨ s.op = 7 ∨ s.op = 8 ∨ s.op = 9 by omega) with h | h | h | h | h | h | h | h | h
  · exact stmt20_k1 s m w vA vcap nv lp hin h
  · exact stmt20_k2 s m w vA vcap nv lp hin h
  · exact stmt20_k3 s m w vA vcap nv lp hin h
  · exact stmt20_k4 s m w vA vcap nv lp hin h
  · exact stmt20_k5 s m w vA vcap nv lp hin h
  · exact stmt20_k6 s m w vA vcap nv lp hin h
  · exact stmt20_k7 s m w vA vcap nv lp hin h
  · exact stmt20_k8 s m w vA vcap nv lp hin h
  · exact stmt20_k9 s m w vA vcap nv lp hin h
theorem FitS.parts {s : Stm} (h : FitS s) : FitS1 s ∧ ∀ bl ∈ s.blocks, ∀ t ∈ bl, FitS t := by
  cases h with
  | mk _ h1 _ _ h2 => exact ⟨h1, h2⟩

set_option maxRecDepth 100000 in
set_option maxHeartbeats 2000000 in
theorem stmts20_at : ∀ (k : Nat) (xs : List Stm), SizeOf.sizeOf xs < k → (∀ s ∈ xs, FitS s) → ∀ (vs : List VarS) (w : World) (vA : Option Addr) (vcap : Nat), RowV w vA vs vcap → ∀ (A : Option Addr) (cap : Nat) (lp : Bool), RowT w A xs cap → Calls Tryd.prog 58 #[.slice vA vs.length vcap, .slice A xs.length cap, .bool lp] w fun e w' => ErrR e ∧ Below w.heap.size w w' := by
  intro k
  induction k with
  | zero => intro xs h; omega
  | succ k ih =>
    intro xs hsz hfit vs w vA vcap hv A cap lp hrow
    have HST : Hid (∀ W, Below w.heap.size w W → ∀ s ∈ xs, ∀ m b o, SV W b o s m → Calls Tryd.prog 74 #[.slice vA vs.length vcap, .agg (StmC s m).toArray, .bool lp] W fun e w' => ErrR e ∧ Below W.heap.size W w') := Lib.hid (fun W hW s hs m b o hsv => by
      obtain ⟨hf1, hf2⟩ := (hfit s hs).parts
      refine stmt20_any s m W vA vcap vs.length lp ⟨fun nm W' hW' => find20_form vs nm W' vA vcap ((hv.below hW).below hW'), fun x hx W' hW' A' k' hr => type20_any x hx vs W' vA A' vcap k' ((hv.below hW).below hW') hr, fun x hx t W' hW' A' k' hr => wants20_any x hx t vs W' vA A' vcap k' ((hv.below hW).below hW') hr,
        fun bl hbl W' hW' A' k' lp' hr => ih bl ?_ (hf2 bl hbl) vs W' vA vcap ((hv.below hW).below hW') A' k' lp' hr,
        fun h9 W' hW' => call20_any s m W' vA vcap vs.length ⟨fun nm W'' hW'' => find20_form vs nm W'' vA vcap (((hv.below hW).below hW').below hW''), fun x hx t W'' hW'' A' k' hr => wants20_any x hx t vs W'' vA A' vcap k' (((hv.below hW).below hW').below hW'') hr, SV.ofAt (hsv.stm.keep hW'), hf1.conds, hf1.c9 h9⟩,
        SV.ofAt hsv.stm, hf1⟩
      obtain ⟨i, hi⟩ := List.getElem?_of_mem hs
      obtain ⟨j, hj⟩ := List.getElem?_of_mem hbl
      have := block_lt hi hj
      omega)
    obtain ⟨n, hn⟩ : ∃ n, xs.length = n := ⟨_, rfl⟩
    have hl := hrow.1
    have hc := hrow.2.1
    have HR := Lib.hid hrow
    rw [hn] at hl ⊢
    have HN := Lib.hid hn
    obtain ⟨nv, hnv⟩ : ∃ n, vs.length = n := ⟨_, rfl⟩
    rw [hnv] at HST ⊢
    clear ih hrow hn hfit hsz hv hnv
    go_enter Tryd.func58, Tryd.ntmps58
    go_upto_region 1 with (fail)
    refine wp_name fun W hW => ?_
    obtain ⟨B, hB⟩ : ∃ B, B = w.heap.size := ⟨_, rfl⟩
    have hR : ResV W B := by
      refine ⟨by rw [hW.out, hB]; simp, ?_, ?_, ?_, ?_⟩
      all_goals (rw [hW.out, hB]; go_simp)
    have hbel : Below w.heap.size w W := by rw [hW.out]; (repeat' (first | (with_reducible exact Below.refl _ _) | (with_reducible assumption) | (with_reducible refine below_drewN ?_ _) | (with_reducible refine Below.drew ?_) | (with_reducible refine below_new ?_ (Nat.le_refl _) _) | (with_reducible refine Below.setCell ?_ ?_ _) | (with_reducible refine below_go ?_ (by assumption) (Nat.le_refl _)) | (simp; done) | (simp; omega) | omega))
    have HRV := Lib.hid hR
    have HB := Lib.hid hbel
    have hwB : w.heap.size ≤ B := by omega
    rw [← hB]
    clear hW hR hbel hB
    go_upto_region 2 with (fail)
    go_loopw [7] (fun vi wr => ∃ (i : Nat), i ≤ n ∧ vi = .int .i64 i ∧ Below W.heap.size W wr) (fun vi _ => n - (intOf vi).toNat)
    case atStart => exact ⟨0, by omega, rfl, Below.refl _ _⟩
    case round =>
      obtain ⟨i, hi, rfl, hbr⟩ := hrel
      have HS := Lib.hid hbr
      have HRr := Lib.hid (HRV.out.below hbr)
      have HBr := Lib.hid (HB.out.trans (hbr.mono HB.out.size))
      have r0 := HRr.out.r0
      have r1 := HRr.out.r1
      have q0 := HRr.out.q0
      have q1 := HRr.out.q1
      have lB := HRr.out.lt
      have hz := HBr.out.size
      clear hbr
      by_cases hlt : i < n
      · obtain ⟨bb, off, s, m, rfl, hbl, hx, hsv⟩ := RowT.at (HR.out.below HBr.out) (i := i) (by rw [HN.out]; exact hlt)
        have hi0 : (0 : Int) ≤ (i : Int) ∧ (i : Int) < (n : Int) := by omega
        have HX := Lib.hid (List.mem_of_getElem? hx)
        have HSV := Lib.hid hsv
        clear hsv hx
        go_wp2_with (refine wpList_load_mid rfl 141 _ rfl bb (off + i * 19) rfl (StmC s m) _ HSV.out.cell Tryd.underlying141 rfl stmt_size ?_)
        refine (HST.out _ HBr.out s HX.out m _ _ HSV.out).mono ?_
        rintro e w1 ⟨⟨a, b, rfl⟩, hb⟩
        have HS1 := Lib.hid (HS.out.trans (hb.mono HS.out.size))
        have HR1 := Lib.hid (HRr.out.below hb)
        have HB1 := Lib.hid (HBr.out.trans (hb.mono HBr.out.size))
        clear r0 r1 q0 q1 lB hz hb HSV HX hbl HS HRr HBr
        have hz := HB1.out.size
        have hzB := HR1.out.lt
        go_upto_region 5 with (fail)
        refine wp_name fun W2 hWn => ?_
        obtain ⟨E, hE⟩ : ∃ E, E = w1.heap.size := ⟨_, rfl⟩
        have e0 : W2.cell? ⟨E, 0, none⟩ = some (.int .i64 a) := by rw [hWn.out, hE]; go_simp
        have e1 : W2.cell? ⟨E, 1, none⟩ = some (.int .i64 b) := by rw [hWn.out, hE]; go_simp
        have hbn : Below w1.heap.size w1 W2 := by rw [hWn.out]; (repeat' (first | (with_reducible exact Below.refl _ _) | (with_reducible assumption) | (with_reducible refine below_drewN ?_ _) | (with_reducible refine Below.drew ?_) | (with_reducible refine below_new ?_ (Nat.le_refl _) _) | (with_reducible refine Below.setCell ?_ ?_ _) | (with_reducible refine below_go ?_ (by assumption) (Nat.le_refl _)) | (simp; done) | (simp; omega) | omega))
        rw [← hE]
        have hEB : B < E := by omega
        have HS2 := Lib.hid (HS1.out.trans (hbn.mono HS1.out.size))
        have HR2 := Lib.hid (HR1.out.below hbn)
        have HB2 := Lib.hid (HB1.out.trans (hbn.mono HB1.out.size))
        clear hbn hWn hE hz hzB HS1 HR1 HB1
        have r0 := HR2.out.r0
        have r1 := HR2.out.r1
        have q0 := HR2.out.q0
        have q1 := HR2.out.q1
        have lB := HR2.out.lt
        have hz := HB2.out.size
        by_cases ha : a = 0
        · subst ha
          go_wp2
          go_roundw
          case rel => exact ⟨i + 1, by omega, by go_num, HS2.out⟩
          case measure => simp [intOf]; omega
        · have hab : (a != 0) = true := by simp [ha]
          go_wp2
          refine bodyPost_ret (v := .agg #[.int .i64 a, .int .i64 b]) (by simp [results, Tryd.results58, go_sem, r0, r1, q0, q1, lB]) rfl ⟨⟨_, _, rfl⟩, by have hq := HB2.out; (repeat' (first | (with_reducible exact Below.refl _ _) | (with_reducible assumption) | (with_reducible refine below_drewN ?_ _) | (with_reducible refine Below.drew ?_) | (with_reducible refine below_new ?_ (Nat.le_refl _) _) | (with_reducible refine Below.setCell ?_ ?_ _) | (with_reducible refine below_go ?_ (by assumption) (Nat.le_refl _)) | (simp; done) | (simp; omega) | omega))⟩
      · obtain rfl : i = n := by omega
        go_wp2
        refine bodyPost_ret (v := .agg #[.int .i64 0, .int .i64 0]) (by simp [results, Tryd.results58, go_sem, r0, r1, q0, q1, lB]) rfl ⟨⟨_, _, rfl⟩, by have hq := HBr.out; (repeat' (first | (with_reducible exact Below.refl _ _) | (with_reducible assumption) | (with_reducible refine below_drewN ?_ _) | (with_reducible refine Below.drew ?_) | (with_reducible refine below_new ?_ (Nat.le_refl _) _) | (with_reducible refine Below.setCell ?_ ?_ _) | (with_reducible refine below_go ?_ (by assumption) (Nat.le_refl _)) | (simp; done) | (simp; omega) | omega))⟩

theorem stmts20_any (xs : List Stm) (hf : ∀ s ∈ xs, FitS s) (vs : List VarS) (w : World) (vA : Option Addr) (vcap : Nat) (hv : RowV w vA vs vcap) (A : Option Addr) (cap : Nat) (lp : Bool) (hr : RowT w A xs cap) :
    Calls Tryd.prog 58 #[.slice vA vs.length vcap, .slice A xs.length cap, .bool lp] w fun e w' => ErrR e ∧ Below w.heap.size w w' :=
  stmts20_at _ xs (Nat.lt_succ_self _) hf vs w vA vcap hv A cap lp hr

end Go.Proofs.YtpgkebfdfhdliaaDoor
