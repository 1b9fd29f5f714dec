/- Layer 27: any program's blocks are told what the document says: the walk, the fixed answer being given. -/
import Derived.Test.YtpgkebfdfhdliaaDoorM38
import Derived.Test.YtpgkebfdfhdliaaDoorM33
import Derived.Test.YtpgkebfdfhdliaaDoorRbE
namespace Go.Proofs.YtpgkebfdfhdliaaDoor
open Go.RowKit
set_option linter.unusedVariables false
set_option linter.unusedSimpArgs false
attribute [local go_sem] ite_max ite_min vite_max vite_min ext_cell ext_frozen

theorem fold_len {β : Type} (f : List Int → β → List Int) (hf : ∀ z b, (f z b).length = z.length) : ∀ (l : List β) (z : List Int), (l.foldl f z).length = z.length
 | [], _ => rfl
 | x :: l, z => by rw [List.foldl_cons, fold_len f hf l, hf]
theorem tellP_len (bl : List BlK) (xs : List AxS) (ll : List (List (Int × Int))) (zs : List Int) : (tellP bl xs ll zs).length = zs.length := by
 unfold tellP lookP
 rw [fold_len (look1 xs) (fun z b => looksP_len _ _ _ _)]
 unfold repssP repsP repP
 exact fold_len _ (fun z l => fold_len _ (fun z r => fold_len _ (fun z b => rep1_len _ _ _ _) _ _) _ _) _ _
theorem shiftP_len (bl : List BlK) (sv : Int) (ok : Bool) (zs : List Int) : (shiftP bl sv ok zs).length = zs.length := by
 refine fold_len _ (fun z b => ?_) _ _
 unfold shift1
 split <;> simp
theorem own_addr {w : World} {base : Nat} {e : TypeId} {A : Option Addr} {c n : Nat} {xs : List Value} (h : w.ownsRow base e 1 (.slice A n c) n xs) : A = none ∨ ∃ b off, A = some ⟨b, off, none⟩ := by
 rcases h.2 with ⟨h0, hn⟩ | ⟨g, cap, cur, h0, _⟩
 ·cases h0
  exact .inl rfl
 ·cases h0
  exact .inr ⟨_, _, rfl⟩

set_option maxRecDepth 100000 in
set_option maxHeartbeats 8000000 in
theorem walk_BlockTells (p : Prg) (cs : List Value) (zs : List Int) (A : Option Addr) (n c : Nat) (xs : List AxS) (Ax : Option Addr) (kx : Nat) (ll : List (List (Int × Int))) (Ar : Option Addr) (kr : Nat) (sa sv sp : Int) (sok : Bool) (w : World)
  (h : PrgAt w p cs) (hsm : ∀ s ∈ p.body, SmS s) (hr : RowN w A zs c) (hl : zs.length = n) (hx : RowX w Ax xs kx) (hrr : RowRR w Ar ll kr) (ht : Blanks w)
  (haw : ∀ W, Blanks W → Calls Tryd.prog 17 #[] W fun e w' => e = .returned (.bool true) ∧ Below W.heap.size W w') :
  Calls Tryd.prog 5 #[.agg cs.toArray, .slice A n c, .slice Ax xs.length kx, .slice Ar ll.length kr, .agg #[.int .i64 sa, .int .i64 sv, .int .i64 sp], .bool sok] w fun e w' => e = .returned (.bool true) ∧ Below w.heap.size w w' := by
 obtain ⟨Av, kv, Ab, kb, rfl, hv, hbd⟩ := h
 have HP : Hid (PrgAt w p [.string p.name, .slice Av p.vars.length kv, .slice Ab p.body.length kb]) := Lib.hid ⟨Av, kv, Ab, kb, rfl, hv, hbd⟩
 have HSM := Lib.hid hsm
 have HT := Lib.hid ht
 have HAW := Lib.hid haw
 have HX := Lib.hid hx
 have HRR := Lib.hid hrr
 have HR := Lib.hid hr
 have HL := Lib.hid hl
 obtain ⟨m, hm⟩ : ∃ m, p.vars.length = m := ⟨_, rfl⟩
 obtain ⟨nb, hnb⟩ : ∃ m, p.body.length = m := ⟨_, rfl⟩
 obtain ⟨nx, hnx⟩ : ∃ m, xs.length = m := ⟨_, rfl⟩
 obtain ⟨nl, hnl⟩ : ∃ m, ll.length = m := ⟨_, rfl⟩
 have HFEW : Hid (∀ W, Below w.heap.size w W → Calls Tryd.prog 19 #[.slice Ax nx kx, .slice Ar nl kr] W fun e w' => BoolIf (xs.length ≤ 4) e ∧ Below W.heap.size W w') := Lib.hid (fun W hW => by
  rw [← hnx, ← hnl]
  exact few_any xs Ax kx ll Ar kr W (HRR.out.below hW))
 have HFIT : Hid (∀ W, Below w.heap.size w W → Calls Tryd.prog 18 #[.agg #[.string p.name, .slice Av m kv, .slice Ab nb kb]] W fun e w' => BoolIf (FitP p ∧ DiffN p.vars ∧ sumN p.vars ≤ 1024) e ∧ Below W.heap.size W w') := Lib.hid (fun W hW => by
  have := fits27_any p _ W (HP.out.keep hW) HSM.out
  rw [hm, hnb] at this
  exact this)
 obtain ⟨TV, hTV⟩ : ∃ T : List Int, (if n = sumN p.vars then tellP (blks p.vars) xs ll zs else zs) = T := ⟨_, rfl⟩
 obtain ⟨SV, hSV⟩ : ∃ T : List Int, (if n = sumN p.vars then shiftP (blks p.vars) sv sok zs else zs) = T := ⟨_, rfl⟩
 have HTL : Hid (TV.length = n) := Lib.hid (by rw [← hTV]; split <;> first | exact hl | rw [tellP_len, hl])
 have HSL : Hid (SV.length = n) := Lib.hid (by rw [← hSV]; split <;> first | exact hl | rw [shiftP_len, hl])
 have HTELL : Hid (FitP p → xs.length ≤ 4 → n ≤ 2000 → ∀ W A1 k1, Below w.heap.size w W → RowN W A1 zs k1 → (A1 = none ∨ ∃ b off, A1 = some ⟨b, off, none⟩) → Calls Tryd.prog 20 #[.agg #[.string p.name, .slice Av m kv, .slice Ab nb kb], .slice A1 n k1, .slice Ax nx kx, .slice Ar nl kr] W fun e w' => (∃ v, e = .returned v ∧ ∃ A' c', v = .slice A' n c' ∧ RowN w' A' TV c') ∧ Below W.heap.size W w') := Lib.hid (fun hf h4 hn W A1 k1 hW h1 h2 => by
  have := tellS_at p _ zs A1 n k1 xs Ax kx ll Ar kr W (HP.out.keep hW) (fun v hv => (hf.vars v hv).arrOk) (fun v hv ha => ((hf.vars v hv).ar ha).1) hf.vl (HT.out.on hW) h1 h2 HL.out (by omega) (HX.out.below hW) h4 (HRR.out.below hW)
  rw [hm, hnb, hnx, hnl, hTV] at this
  exact this)
 have HRTELL : Hid (FitP p → xs.length ≤ 4 → n ≤ 2000 → ∀ W, Below w.heap.size w W → Calls Tryd.prog 23 #[.agg #[.string p.name, .slice Av m kv, .slice Ab nb kb], .slice A n c, .slice Ax nx kx, .slice Ar nl kr] W fun e w' => (∃ v, e = .returned v ∧ ∃ A' c', v = .slice A' n c' ∧ RowN w' A' TV c') ∧ Below W.heap.size W w') := Lib.hid (fun hf h4 hn W hW => by
  have := rtellS_at p _ zs A n c xs Ax kx ll Ar kr W (HP.out.keep hW) (fun v hv => (hf.vars v hv).arrOk) (fun v hv ha => ((hf.vars v hv).ar ha).1) hf.vl (HR.out.below hW) HL.out (by omega) (HX.out.below hW) h4 (HRR.out.below hW)
  rw [hm, hnb, hnx, hnl, hTV] at this
  exact this)
 have HSHIFT : Hid (FitP p → n ≤ 2000 → ∀ W A1 k1, Below w.heap.size w W → RowN W A1 zs k1 → (A1 = none ∨ ∃ b off, A1 = some ⟨b, off, none⟩) → Calls Tryd.prog 21 #[.agg #[.string p.name, .slice Av m kv, .slice Ab nb kb], .slice A1 n k1, .agg #[.int .i64 sa, .int .i64 sv, .int .i64 sp], .bool sok] W fun e w' => (∃ v, e = .returned v ∧ ∃ A' c', v = .slice A' n c' ∧ RowN w' A' SV c') ∧ Below W.heap.size W w') := Lib.hid (fun hf hn W A1 k1 hW h1 h2 => by
  have := shiftS_at p _ zs A1 n k1 sa sv sp sok W (HP.out.keep hW) (fun v hv => (hf.vars v hv).arrOk) (fun v hv ha => ((hf.vars v hv).ar ha).1) hf.vl (HT.out.on hW) h1 h2 HL.out (by omega)
  rw [hm, hnb, hSV] at this
  exact this)
 have HRSHIFT : Hid (FitP p → n ≤ 2000 → ∀ W, Below w.heap.size w W → Calls Tryd.prog 24 #[.agg #[.string p.name, .slice Av m kv, .slice Ab nb kb], .slice A n c, .agg #[.int .i64 sa, .int .i64 sv, .int .i64 sp], .bool sok] W fun e w' => (∃ v, e = .returned v ∧ ∃ A' c', v = .slice A' n c' ∧ RowN w' A' SV c') ∧ Below W.heap.size W w') := Lib.hid (fun hf hn W hW => by
  have := rshiftS_at p _ zs A n c sa sv sp sok W (HP.out.keep hW) (fun v hv => (hf.vars v hv).arrOk) (fun v hv ha => ((hf.vars v hv).ar ha).1) hf.vl (HR.out.below hW) HL.out (by omega)
  rw [hm, hnb, hSV] at this
  exact this)
 have HSAME : Hid (∀ (q : List Int) W A1 k1 A2 k2, q.length = n → RowN W A1 q k1 → RowN W A2 q k2 → Calls Tryd.prog 22 #[.slice A1 n k1, .slice A2 n k2] W fun e w' => e = .returned (.bool true) ∧ Below W.heap.size W w') := Lib.hid (fun q W A1 k1 A2 k2 hq h1 h2 => by
  have := same16n_any q W A1 A2 k1 k2 h1 h2
  rwa [hq] at this)
 have hc1 := hr.1
 have hc2 := hr.2.1
 rw [hl] at hc1
 show Calls Tryd.prog 5 #[.agg #[.string p.name, .slice Av p.vars.length kv, .slice Ab p.body.length kb], .slice A n c, .slice Ax xs.length kx, .slice Ar ll.length kr, .agg #[.int .i64 sa, .int .i64 sv, .int .i64 sp], .bool sok] w _
 rw [hm, hnb, hnx, hnl]
 clear hv hbd hsm ht haw hx hrr hr hl hm hnb hnx hnl hTV hSV HP HSM
 go_enter Tryd.func5, Tryd.ntmps5
 go_upto_region 1 with (fail)
 refine wp_name fun W hW => ?_
 obtain ⟨B, hB⟩ : ∃ B, B = w.heap.size := ⟨_, rfl⟩
 have HC : Hid (∀ W', Below W.heap.size W W' → W'.cell? ⟨B, 0, none⟩ = some (.string p.name) ∧ W'.cell? ⟨B, 1, none⟩ = some (.slice Av m kv) ∧ W'.cell? ⟨B, 2, none⟩ = some (.slice Ab nb kb) ∧ W'.cell? ⟨B + 1, 0, none⟩ = some (.int .i64 sa) ∧ W'.cell? ⟨B + 1, 1, none⟩ = some (.int .i64 sv) ∧ W'.cell? ⟨B + 1, 2, none⟩ = some (.int .i64 sp) ∧ B < W'.heap.size ∧ B + 1 < W'.heap.size) := Lib.hid (fun W' hW' => by
  have hB1 : B + 1 = w.heap.size + 1 := by omega
  have hl : B + 1 < W.heap.size := by rw [hW.out, hB]; simp
  have hl0 : B < W.heap.size := by omega
  have hz := hW'.size
  refine ⟨(hW'.cell (p := ⟨B, 0, none⟩) hl0).trans ?_, (hW'.cell (p := ⟨B, 1, none⟩) hl0).trans ?_, (hW'.cell (p := ⟨B, 2, none⟩) hl0).trans ?_, (hW'.cell (p := ⟨B + 1, 0, none⟩) hl).trans ?_, (hW'.cell (p := ⟨B + 1, 1, none⟩) hl).trans ?_, (hW'.cell (p := ⟨B + 1, 2, none⟩) hl).trans ?_, by omega, by omega⟩
  all_goals (rw [hW.out]; first | (rw [hB1]; go_simp; done) | (rw [hB]; go_simp; done)))
 have hbel : Below w.heap.size w W := by rw [hW.out]; (repeat' (first | with_reducible (first | exact Below.refl _ _ | assumption | refine below_drewN ?_ _ | refine Below.drew ?_ | refine below_new ?_ (Nat.le_refl _) _ | refine Below.setCell ?_ ?_ _ | refine below_go ?_ (by assumption) (Nat.le_refl _)) | (simp; done) | (simp; omega) | omega))
 have HB := Lib.hid hbel
 (try rw [show w.heap.size + 1 = B + 1 by omega])
 (try rw [← hB])
 clear hW hbel hB
 go_wp2_with fail
 refine (HAW.out W (HT.out.on HB.out)).mono ?_
 rintro e w1 ⟨rfl, hb1⟩
 have HS1 := Lib.hid hb1
 have HB1 := Lib.hid (HB.out.trans (hb1.mono HB.out.size))
 clear hb1 HB HAW
 obtain ⟨c0, c1, c2, s0, s1, s2, lB, lB1⟩ := HC.out w1 HS1.out
 go_wp2_with fail
 refine (HFIT.out w1 HB1.out).mono ?_
 rintro e w2 ⟨⟨b, rfl, hf⟩, hb2⟩
 have HF := Lib.hid hf
 have HS2 := Lib.hid (HS1.out.trans (hb2.mono HS1.out.size))
 have HB2 := Lib.hid (HB1.out.trans (hb2.mono HB1.out.size))
 clear hb2 hf HS1 HB1 c0 c1 c2 s0 s1 s2 lB lB1
 obtain ⟨c0, c1, c2, s0, s1, s2, lB, lB1⟩ := HC.out w2 HS2.out
 cases b
 ·go_wp2
  go_ret
  exact ⟨rfl, HB2.out⟩
 have HFP : Hid (FitP p) := Lib.hid (HF.out rfl).1
 clear HF
 by_cases hn2 : (2000 : Int) < (n : Int)
 ·go_wp2
  go_ret
  exact ⟨rfl, HB2.out⟩
 have hn3 : n ≤ 2000 := by omega
 go_wp2_with fail
 refine (HFEW.out w2 HB2.out).mono ?_
 rintro e w3 ⟨⟨b, rfl, hf⟩, hb3⟩
 have HF := Lib.hid hf
 have HS3 := Lib.hid (HS2.out.trans (hb3.mono HS2.out.size))
 have HB3 := Lib.hid (HB2.out.trans (hb3.mono HB2.out.size))
 clear hb3 hf HS2 HB2 c0 c1 c2 s0 s1 s2 lB lB1
 cases b
 ·go_wp2
  go_ret
  exact ⟨rfl, HB3.out⟩
 have HX4 := Lib.hid (HF.out rfl)
 clear HF
 go_upto_region 6 with (at_builtin; refine wpList_copy rfl _ _ rfl w3 zs A n c rfl rfl (HR.out.below HB3.out) HL.out (by omega) ?_)
 intro A1 k1 w4 hown hb4
 have HM4 : Hid (RowN w4 A1 zs k1) := Lib.hid (rowN_of hown).1
 have HMA : Hid (A1 = none ∨ ∃ b off, A1 = some ⟨b, off, none⟩) := Lib.hid (own_addr hown)
 have HS4 := Lib.hid (HS3.out.trans (hb4.mono HS3.out.size))
 have HB4 := Lib.hid (HB3.out.trans (hb4.mono HB3.out.size))
 clear hown hb4 HS3 HB3
 obtain ⟨c0, c1, c2, s0, s1, s2, lB, lB1⟩ := HC.out w4 HS4.out
 go_wp2_with fail
 refine (HTELL.out HFP.out HX4.out hn3 w4 A1 k1 HB4.out HM4.out HMA.out).mono ?_
 rintro e w5 ⟨⟨v5, rfl, A5, c5, rfl, hr5⟩, hb5⟩
 have HT5 := Lib.hid hr5
 have HM5 := Lib.hid (HM4.out.below hb5)
 have HS5 := Lib.hid (HS4.out.trans (hb5.mono HS4.out.size))
 have HB5 := Lib.hid (HB4.out.trans (hb5.mono HB4.out.size))
 clear hr5 hb5 HM4 HS4 HB4 c0 c1 c2 s0 s1 s2 lB lB1
 obtain ⟨c0, c1, c2, s0, s1, s2, lB, lB1⟩ := HC.out w5 HS5.out
 go_wp2_with fail
 refine (HSHIFT.out HFP.out hn3 w5 A1 k1 HB5.out HM5.out HMA.out).mono ?_
 rintro e w6 ⟨⟨v6, rfl, A6, c6, rfl, hr6⟩, hb6⟩
 have HU6 := Lib.hid hr6
 have HT6 := Lib.hid (HT5.out.below hb6)
 have HM6 := Lib.hid (HM5.out.below hb6)
 have HS6 := Lib.hid (HS5.out.trans (hb6.mono HS5.out.size))
 have HB6 := Lib.hid (HB5.out.trans (hb6.mono HB5.out.size))
 clear hr6 hb6 HM5 HT5 HS5 HB5 c0 c1 c2 s0 s1 s2 lB lB1
 obtain ⟨c0, c1, c2, s0, s1, s2, lB, lB1⟩ := HC.out w6 HS6.out
 go_wp2_with fail
 refine (HRTELL.out HFP.out HX4.out hn3 w6 HB6.out).mono ?_
 rintro e w7 ⟨⟨v7, rfl, A7, c7, rfl, hr7⟩, hb7⟩
 have HU7 := Lib.hid (HU6.out.below hb7)
 have HT7 := Lib.hid (HT6.out.below hb7)
 have HV7 := Lib.hid hr7
 have HM7 := Lib.hid (HM6.out.below hb7)
 have HS7 := Lib.hid (HS6.out.trans (hb7.mono HS6.out.size))
 have HB7 := Lib.hid (HB6.out.trans (hb7.mono HB6.out.size))
 clear hr7 hb7 HM6 HT6 HU6 HS6 HB6 c0 c1 c2 s0 s1 s2 lB lB1
 go_wp2_with fail
 refine (HSAME.out TV w7 A5 c5 A7 c7 HTL.out HT7.out HV7.out).mono ?_
 rintro e w8 ⟨rfl, hb8⟩
 have HU8 := Lib.hid (HU7.out.below hb8)
 have HM8 := Lib.hid (HM7.out.below hb8)
 have HS8 := Lib.hid (HS7.out.trans (hb8.mono HS7.out.size))
 have HB8 := Lib.hid (HB7.out.trans (hb8.mono HB7.out.size))
 clear hb8 HM7 HT7 HV7 HU7 HS7 HB7
 obtain ⟨c0, c1, c2, s0, s1, s2, lB, lB1⟩ := HC.out w8 HS8.out
 go_wp2_with fail
 refine (HRSHIFT.out HFP.out hn3 w8 HB8.out).mono ?_
 rintro e w9 ⟨⟨v9, rfl, A9, c9, rfl, hr9⟩, hb9⟩
 have HU9 := Lib.hid (HU8.out.below hb9)
 have HV9 := Lib.hid hr9
 have HM9 := Lib.hid (HM8.out.below hb9)
 have HB9 := Lib.hid (HB8.out.trans (hb9.mono HB8.out.size))
 clear hr9 hb9 HM8 HU8 HS8 HB8 c0 c1 c2 s0 s1 s2 lB lB1
 go_wp2_with fail
 refine (HSAME.out SV w9 A6 c6 A9 c9 HSL.out HU9.out HV9.out).mono ?_
 rintro e w10 ⟨rfl, hb10⟩
 have HM10 := Lib.hid (HM9.out.below hb10)
 have HB10 := Lib.hid (HB9.out.trans (hb10.mono HB9.out.size))
 clear hb10 HM9 HU9 HV9 HB9
 go_wp2_with fail
 refine (HSAME.out zs w10 A1 k1 A c HL.out HM10.out (HR.out.below HB10.out)).mono ?_
 rintro e w11 ⟨rfl, hb11⟩
 have HB11 := Lib.hid (HB10.out.trans (hb11.mono HB10.out.size))
 clear hb11
 go_wp2
 go_ret
 exact ⟨rfl, HB11.out⟩

end Go.Proofs.YtpgkebfdfhdliaaDoor
