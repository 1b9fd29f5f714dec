/- Merged: Layer 27, the reference: where a kind's outputs begin; a command block's kind; a number for a truth. Layer 27, the reference: a program's blocks as rows of their own. Layer 27, the reference: a copy of the cells; the state of its telling. Layer 27, the reference: a place was moved, or not: the walk. PRINTED by wip/tool/mkrshift.py -/
import Derived.Test.YtpgkebfdfhdliaaDoorM33
import Derived.Test.YtpgkebfdfhdliaaDoorLie
import Derived.Test.YtpgkebfdfhdliaaDoorM02
import Derived.Test.YtpgkebfdfhdliaaDoorHeld
namespace Go.Proofs.YtpgkebfdfhdliaaDoor
open Go.RowKit
set_option linter.unusedVariables false
set_option linter.unusedSimpArgs false
attribute [local go_sem] ite_max ite_min vite_max vite_min ext_cell ext_frozen

theorem rcommand_any (t : Int) (w : World) : Calls Tryd.prog 45 #[.int .i64 t] w fun e w' => e = .returned (.bool (cmdB t)) ∧ w = w' := by
 unfold cmdB
 by_cases h : 21 ≤ t
 ·rw [decide_eq_true h]
  go_enter Tryd.func45, Tryd.ntmps45
  go_wp2
  go_ret
  exact ⟨rfl, rfl⟩
 ·rw [decide_eq_false h]
  go_enter Tryd.func45, Tryd.ntmps45
  go_wp2
  go_ret
  exact ⟨rfl, rfl⟩
theorem rnum_any (b : Bool) (w : World) : Calls Tryd.prog 46 #[.bool b] w fun e w' => e = .returned (.int .i64 (b01 b)) ∧ w = w' := by
 cases b
 all_goals
  go_enter Tryd.func46, Tryd.ntmps46
  go_wp2
  go_ret
  exact ⟨rfl, rfl⟩
theorem takeWhile_len_succ {p : Nat → Bool} : ∀ {l : List Nat} {k x : Nat}, k ≤ (l.takeWhile p).length → l[k]? = some x → p x = true → k + 1 ≤ (l.takeWhile p).length
 | [], k, x, _, h, _ => by simp at h
 | y :: l, 0, x, hk, h, hp => by
  simp at h
  subst h
  rw [List.takeWhile_cons, if_pos hp]
  simp
 | y :: l, k + 1, x, hk, h, hp => by
  by_cases hy : p y = true
  ·rw [List.takeWhile_cons, if_pos hy] at hk ⊢
   simp only [List.length_cons] at hk ⊢
   have := takeWhile_len_succ (l := l) (k := k) (x := x) (by omega) (by simpa using h) hp
   omega
  ·rw [List.takeWhile_cons, if_neg hy] at hk
   simp at hk
theorem takeWhile_len_stop {p : Nat → Bool} : ∀ {l : List Nat} {k x : Nat}, k ≤ (l.takeWhile p).length → l[k]? = some x → p x = false → (l.takeWhile p).length = k
 | [], k, x, _, h, _ => by simp at h
 | y :: l, 0, x, hk, h, hp => by
  simp at h
  subst h
  rw [List.takeWhile_cons, if_neg (by simp [hp])]
  rfl
 | y :: l, k + 1, x, hk, h, hp => by
  by_cases hy : p y = true
  ·rw [List.takeWhile_cons, if_pos hy] at hk ⊢
   simp only [List.length_cons] at hk ⊢
   have := takeWhile_len_stop (l := l) (k := k) (x := x) (by omega) (by simpa using h) hp
   omega
  ·rw [List.takeWhile_cons, if_neg hy] at hk
   simp at hk
theorem takeWhile_len_le {p : Nat → Bool} (l : List Nat) : (l.takeWhile p).length ≤ l.length := by
 induction l with
 | nil => simp
 | cons y l ih =>
  rw [List.takeWhile_cons]
  split
  ·simp; omega
  ·simp

set_option maxRecDepth 100000 in
set_option maxHeartbeats 2000000 in
theorem outs_any (kind : Int) (w : World) : Calls Tryd.prog 44 #[.int .i64 kind] w fun e w' => e = .returned (.int .i64 (outsN kind : Int)) ∧ Below w.heap.size w w' := by
 obtain ⟨O, hO⟩ : ∃ o, outsN kind = o := ⟨_, rfl⟩
 have HO := Lib.hid hO
 rw [hO]
 clear hO
 go_enter Tryd.func44, Tryd.ntmps44
 go_wp2_with fail
 refine (rpins_rowK kind _).mono ?_
 rintro e w1 ⟨⟨A, c, rfl, hnc, hc, hrow⟩, hb1⟩
 obtain ⟨m, hm⟩ : ∃ m, rcount kind = m := ⟨_, rfl⟩
 have HROW := Lib.hid hrow
 have HB1 := Lib.hid hb1
 have HM := Lib.hid hm
 rw [hm] at hnc ⊢
 clear hrow hb1 hm
 go_wp2_with fail
 go_loopw [4] (fun u wr => ∃ (k : Nat), k ≤ m ∧ u = .int .i64 k ∧ Hid (k ≤ O) ∧ Hid (Below w1.heap.size w1 wr)) (fun u _ => m - (intOf u).toNat)
 case atStart => exact ⟨0, by omega, rfl, Lib.hid (by omega), Lib.hid (Below.refl _ _)⟩
 case round =>
  obtain ⟨k, hk, rfl, HK, HBR⟩ := hrel
  by_cases hlt : k < m
  ·obtain ⟨b, hA, hl, h0, h1, h2⟩ := HROW.out k (by rw [HM.out]; exact hlt)
   have hk0 : (0 : Int) ≤ (k : Int) ∧ (k : Int) < (m : Int) := by omega
   have h2 := (HBR.out.cell (p := ⟨b, k * 3 + 2, none⟩) hl).trans h2
   have hl := Nat.lt_of_lt_of_le hl HBR.out.size
   clear h0 h1
   subst hA
   cases hin : pinIn kind k
   ·have HE : Hid (O = k) := Lib.hid (by
     have h := HK.out
     rw [← HO.out] at h ⊢
     exact takeWhile_len_stop h (x := k) (by rw [List.getElem?_range (by rw [HM.out]; exact hlt)]) hin)
    have HBF := Lib.hid (HB1.out.trans (HBR.out.mono HB1.out.size))
    rw [hin] at h2
    have hO2 := HE.out
    have HE2 : Hid (Value.int IntKind.i64 (k : Int) = Value.int IntKind.i64 (O : Int)) := Lib.hid (by rw [hO2])
    clear hO2 hin
    go_wp2
    go_ret
    exact ⟨by (try rw [HE2.out]); rfl, HBF.out⟩
   ·have HE : Hid (k + 1 ≤ O) := Lib.hid (by
     have h := HK.out
     rw [← HO.out] at h ⊢
     exact takeWhile_len_succ h (x := k) (by rw [List.getElem?_range (by rw [HM.out]; exact hlt)]) hin)
    rw [hin] at h2
    clear hin
    go_wp2
    go_roundw
    case rel => exact ⟨k + 1, by omega, by go_num, HE, HBR⟩
    case measure => simp [intOf]; omega
  ·obtain rfl : k = m := by omega
   have HE : Hid (O = k) := Lib.hid (by
    have h := HK.out
    have h2 : O ≤ k := by
     rw [← HO.out, ← HM.out]
     exact Nat.le_trans (takeWhile_len_le _) (by simp)
    omega)
   have HBF := Lib.hid (HB1.out.trans (HBR.out.mono HB1.out.size))
   have HE2 : Hid (Value.int IntKind.i64 (k : Int) = Value.int IntKind.i64 (O : Int)) := Lib.hid (by rw [HE.out])
   go_wp2
   go_ret
   exact ⟨by (try rw [HE2.out]); rfl, HBF.out⟩

end Go.Proofs.YtpgkebfdfhdliaaDoor

namespace Go.Proofs.YtpgkebfdfhdliaaDoor
open Go.RowKit
set_option linter.unusedVariables false
set_option linter.unusedSimpArgs false
attribute [local go_sem] ite_max ite_min vite_max vite_min ext_cell ext_frozen

def rbC (b : BlK) : List Value := [.int .i64 b.num, .int .i64 b.kind, .int .i64 b.off]
def rbCs (l : List BlK) : List Value := l.flatMap rbC
theorem rbCs_snoc (l : List BlK) (b : BlK) : rbCs (l ++ [b]) = rbCs l ++ rbC b := by simp [rbCs]
theorem rbCs_get : ∀ (l : List BlK) (j : Nat) (b : BlK), l[j]? = some b → ∀ k u, (rbC b)[k]? = some u → (rbCs l)[j * 3 + k]? = some u
 | [], j, b, h, _, _, _ => by simp at h
 | x :: l, 0, b, h, k, u, hu => by
  simp at h
  subst h
  have hk : k < 3 := (List.getElem?_eq_some_iff.1 hu).1
  rw [Nat.zero_mul, Nat.zero_add]
  show (rbC x ++ rbCs l)[k]? = some u
  rw [List.getElem?_append_left (by exact hk)]
  exact hu
 | x :: l, j + 1, b, h, k, u, hu => by
  have ih := rbCs_get l j b (by simpa using h) k u hu
  show (rbC x ++ rbCs l)[(j + 1) * 3 + k]? = some u
  have h3 : (rbC x).length = 3 := rfl
  rw [List.getElem?_append_right (by omega), h3, show (j + 1) * 3 + k - 3 = j * 3 + k by omega]
  exact ih
theorem rb_info : (Tryd.prog.info? 90).map (fun i => (i.zero.map (·.cells.size), i.size, i.bytes)) = some (some 3, 3, 24) := by kernel_rfl
theorem rb_parts : ∃ i z, Tryd.prog.info? 90 = some i ∧ i.zero = some z ∧ z.cells.size = 3 ∧ i.size = 3 ∧ i.bytes = 24 := by
 obtain ⟨i, hi, h⟩ := Option.map_eq_some_iff.1 rb_info
 simp only [Prod.mk.injEq] at h
 obtain ⟨hz, h1, h2⟩ := h
 obtain ⟨z, hz, hs⟩ := Option.map_eq_some_iff.1 hz
 exact ⟨i, z, hi, hz, hs, h1, h2⟩

set_option maxRecDepth 100000 in
set_option maxHeartbeats 4000000 in
theorem rblocks_at (p : Prg) (cs : List Value) (w : World) (h : PrgAt w p cs) (hfit : ∀ v ∈ p.vars, ArrOk v) (hmot : ∀ v ∈ p.vars, v.arr = true → v.type ≤ 2) (hn64 : p.vars.length ≤ 64) :
  Calls Tryd.prog 43 #[.agg cs.toArray] w fun e w' => (∃ v, e = .returned v ∧ w'.ownsRow w.heap.size 90 3 v (blks p.vars).length (rbCs (blks p.vars))) ∧ Below w.heap.size w w' := by
 obtain ⟨Av, kv, Ab, kb, rfl, hv, hbd⟩ := h
 have HOF : Hid (∀ W, Below w.heap.size w W → Calls Tryd.prog 11 #[.agg #[.string p.name, .slice Av p.vars.length kv, .slice Ab p.body.length kb]] W fun e w' => (∃ v, e = .returned v ∧ LayR W p.vars v w') ∧ Below W.heap.size W w') := Lib.hid (fun W hW => of22_any p _ W ⟨Av, kv, Ab, kb, rfl, hv.below hW, hbd.below hW⟩ hfit hn64)
 have HRV := Lib.hid hv
 have hv1 := hv.1
 have hv2 := hv.2.1
 obtain ⟨m, hm⟩ : ∃ m, p.vars.length = m := ⟨_, rfl⟩
 obtain ⟨nb, hnb⟩ : ∃ m, p.body.length = m := ⟨_, rfl⟩
 obtain ⟨i0, z0, hi0, hz0, hzs, hs0, hb0⟩ := rb_parts
 have HI := Lib.hid hi0
 have HZ0 := Lib.hid hz0
 have HZS := Lib.hid hzs
 have HS0 := Lib.hid hs0
 have HBB := Lib.hid hb0
 have HM := Lib.hid hm
 show Calls Tryd.prog 43 #[.agg #[.string p.name, .slice Av p.vars.length kv, .slice Ab p.body.length kb]] w _
 unfold blks
 rw [hm, hnb] at HOF ⊢
 rw [hm] at hv1 hn64
 clear hv hbd hfit hm hnb hi0 hz0 hzs hs0 hb0 hmot
 go_enter Tryd.func43, Tryd.ntmps43
 go_upto_region 1 with (fail)
 refine wp_name fun W hW => ?_
 obtain ⟨B, hB⟩ : ∃ B, B = w.heap.size := ⟨_, rfl⟩
 have HC : Hid (∀ W', Below W.heap.size W W' → W'.cell? ⟨B, 0, none⟩ = some (.string p.name) ∧ W'.cell? ⟨B, 1, none⟩ = some (.slice Av m kv) ∧ W'.cell? ⟨B, 2, none⟩ = some (.slice Ab nb kb) ∧ B < W'.heap.size) := Lib.hid (fun W' hW' => by
  have hl : B < W.heap.size := by rw [hW.out, hB]; simp
  exact ⟨(hW'.cell (p := ⟨B, 0, none⟩) hl).trans (by rw [hW.out, hB]; go_simp), (hW'.cell (p := ⟨B, 1, none⟩) hl).trans (by rw [hW.out, hB]; go_simp), (hW'.cell (p := ⟨B, 2, none⟩) hl).trans (by rw [hW.out, hB]; go_simp), Nat.lt_of_lt_of_le hl hW'.size⟩)
 have hbel : Below w.heap.size w W := by rw [hW.out]; (repeat' (first | with_reducible (first | exact Below.refl _ _ | assumption | refine below_drewN ?_ _ | refine Below.drew ?_ | refine below_new ?_ (Nat.le_refl _) _ | refine Below.setCell ?_ ?_ _ | refine below_go ?_ (by assumption) (Nat.le_refl _)) | (simp; done) | (simp; omega) | omega))
 have HB := Lib.hid hbel
 (try rw [← hB])
 have hwB : w.heap.size ≤ B := by omega
 clear hW hbel hB
 obtain ⟨c0, c1, c2, lB⟩ := HC.out W (Below.refl _ _)
 go_wp2_with fail
 refine (HOF.out W HB.out).mono ?_
 rintro e w1 ⟨⟨v1, rfl, hlr⟩, hb1⟩
 obtain ⟨vA, vF, rfl, hoA, hoF⟩ := hlr
 obtain ⟨AA, cA, rfl⟩ := own_slice hoA
 obtain ⟨AF, cF, rfl⟩ := own_slice hoF
 obtain ⟨hrA, -⟩ := rowN_of hoA
 have HRA := Lib.hid hrA
 have HS1 := Lib.hid hb1
 have HB1 := Lib.hid (HB.out.trans (hb1.mono HB.out.size))
 clear c0 c1 c2 lB hb1 hoA hoF hrA
 go_upto_region 2 with (fail)
 refine wp_name fun W2 hW2 => ?_
 obtain ⟨L, hL⟩ : ∃ L, L = w1.heap.size := ⟨_, rfl⟩
 have HL : Hid (∀ W', Below W2.heap.size W2 W' → W'.cell? ⟨L, 0, none⟩ = some (.slice AA m cA) ∧ L < W'.heap.size) := Lib.hid (fun W' hW' => by
  have hl : L < W2.heap.size := by rw [hW2.out, hL]; simp
  exact ⟨(hW'.cell (p := ⟨L, 0, none⟩) hl).trans (by rw [hW2.out, hL, ← HM.out]; go_simp), Nat.lt_of_lt_of_le hl hW'.size⟩)
 have hb2 : Below w1.heap.size w1 W2 := by rw [hW2.out]; (repeat' (first | with_reducible (first | exact Below.refl _ _ | assumption | refine below_drewN ?_ _ | refine Below.drew ?_ | refine below_new ?_ (Nat.le_refl _) _ | refine Below.setCell ?_ ?_ _ | refine below_go ?_ (by assumption) (Nat.le_refl _)) | (simp; done) | (simp; omega) | omega))
 have HS2 := Lib.hid (HS1.out.trans (hb2.mono HS1.out.size))
 have HB2 := Lib.hid (HB1.out.trans (hb2.mono HB1.out.size))
 have HRA2 := Lib.hid (HRA.out.below hb2)
 (try rw [← hL])
 clear hW2 hL hb2 HRA
 go_upto_region 4 with (fail)
 have hsz2 := HB2.out.size
 go_loopw [4, 5, 6] (fun v u y wr => ∃ (i : Nat) (vo : Value), vo = v ∧ i ≤ m ∧ u = .int .i64 i ∧ Hid (wr.ownsRow W2.heap.size 90 3 vo (blksT p.vars i).length (rbCs (blksT p.vars i))) ∧ Hid (Below W2.heap.size W2 wr)) (fun _ u _ _ => m - (intOf u).toNat)
 case atStart => exact ⟨0, _, rfl, by omega, rfl, Lib.hid (World.ownsRow_nil _ _ _ _), Lib.hid (Below.refl _ _)⟩
 case round =>
  obtain ⟨i, vo, rfl, hi, rfl, HOW, HBR⟩ := hrel
  have hbs := HBR.out.size
  obtain ⟨c0, c1, c2, lB⟩ := HC.out wr (HS2.out.trans (HBR.out.mono HS2.out.size))
  by_cases hlt : i < m
  ·obtain ⟨bb, off, v, hAv, hbl, hx, hrg⟩ := RowV.at8 (HRV.out.below (HB2.out.trans (HBR.out.mono HB2.out.size))) (i := i) (by rw [HM.out]; exact hlt)
   have hi0 : (0 : Int) ≤ (i : Int) ∧ (i : Int) < (m : Int) := by omega
   have HX := Lib.hid hx
   obtain ⟨ty, hty⟩ : ∃ t, v.type = t := ⟨_, rfl⟩
   have HTY := Lib.hid hty
   have ct : wr.cell? ⟨bb, off + i * 8 + 1, none⟩ = some (.int .i64 ty) := hrg 1 _ (by rw [← hty]; rfl)
   obtain ⟨L0, hL0⟩ := HL.out wr HBR.out
   obtain ⟨q, hq⟩ : ∃ q, sumN (p.vars.take i) = q := ⟨_, rfl⟩
   obtain ⟨ba, oa, hAA, hba, hca⟩ := HRA2.out.2.2 i (q : Int) (by have := offsN_get p.vars 0 i (by rw [HM.out]; exact hlt); rw [Nat.zero_add, hq] at this; exact this)
   have hca := (HBR.out.cell (p := ⟨ba, oa + i, none⟩) hba).trans hca
   have hba := Nat.lt_of_lt_of_le hba hbs
   have HQ := Lib.hid hq
   subst hAv hAA
   clear hx hrg hty hq
   cases hmt : motB ty
   ·have hT : blksT p.vars (i + 1) = blksT p.vars i := blksT_no HX.out (by rw [HTY.out]; exact hmt)
    have HTT := Lib.hid hT
    have HMT := Lib.hid hmt
    clear hT hmt
    by_cases h20 : ty < 20
    ·have u1 : decide (ty ≥ 20) = false := by simp; omega
     have h20' : ¬ 20 ≤ ty := by omega
     clear h20
     go_wp2
     go_roundw
     case rel => exact ⟨i + 1, _, rfl, by omega, by go_num, Lib.hid (by rw [HTT.out]; exact HOW.out), HBR⟩
     case measure => simp [intOf]; omega
    ·have u1 : 20 ≤ ty := by omega
     have u2 : ¬ ty ≤ 31 := by
      have := HMT.out
      unfold motB at this
      rw [decide_eq_true u1] at this
      simpa using this
     clear h20
     go_wp2
     go_roundw
     case rel => exact ⟨i + 1, _, rfl, by omega, by go_num, Lib.hid (by rw [HTT.out]; exact HOW.out), HBR⟩
     case measure => simp [intOf]; omega
   ·have hT := blksT_yes HX.out (by rw [HTY.out]; exact hmt)
    rw [HTY.out, HQ.out] at hT
    have HTT := Lib.hid hT
    have u1 : 20 ≤ ty ∧ ty ≤ 31 := by
     unfold motB at hmt
     simpa only [Bool.and_eq_true, decide_eq_true_eq] using hmt
    have HBM : Hid ((blksT p.vars i).length ≤ i) := Lib.hid (blksT_len p.vars i)
    clear hT hmt
    go_wp2_with (at_builtin; refine wpList_append_lies _ rfl _ _ 87 rfl W2.heap.size 90 i0 z0 3 24 Tryd.underlying87 HI.out HZ0.out HS0.out HBB.out HZS.out (by decide) _ (blksT p.vars i).length _ rfl (HOW.out.alloc _) ⟨wr.heap.size, 0, none⟩ 1 1 [.int .i64 i, .int .i64 ty, .int .i64 q] rfl rfl (World.news_of_block (heap_alloc_new _ _)) ?rbh6 (by decide) ?rbh1 ?rbh2 ?rbh3 _ rfl ?_)
    case rbh6 => intro u hu; simp only [List.mem_cons, List.not_mem_nil, or_false] at hu; rcases hu with rfl | rfl | rfl <;> rfl
    case rbh1 => have := HBM.out; unfold maxLen; omega
    case rbh2 => have := HBM.out; omega
    case rbh3 => first | omega | (simp; omega)
    intro gg cap2 w5 hown5 hgrow hatg hg5
    have HO5 : Hid (w5.ownsRow W2.heap.size 90 3 (.slice (some ⟨gg, 0, none⟩) ((blksT p.vars i).length + 1) cap2) (blksT p.vars (i + 1)).length (rbCs (blksT p.vars (i + 1)))) := Lib.hid (by
     rw [HTT.out, rbCs_snoc, List.length_append]
     exact hown5)
    have HB5 : Hid (Below W2.heap.size W2 w5) := Lib.hid (below_grown (below_new HBR.out (Nat.le_refl _) _) hgrow (HOW.out.alloc _) (Nat.le_refl _) (by simp; omega))
    clear hown5 hgrow hatg hg5 c0 c1 c2 lB ct L0 hL0 hca hba
    go_wp2
    go_roundw
    case rel => exact ⟨i + 1, _, rfl, by omega, by go_num, HO5, HB5⟩
    case measure => simp [intOf]; omega
  ·obtain rfl : i = m := by omega
   have HRES : Hid ((∃ v, Ending.returned vo = .returned v ∧ wr.ownsRow w.heap.size 90 3 v (blksT p.vars i).length (rbCs (blksT p.vars i))) ∧ Below w.heap.size w wr) := Lib.hid ⟨⟨vo, rfl, owns_mono HOW.out hsz2⟩, HB2.out.trans (HBR.out.mono HB2.out.size)⟩
   clear HOW HBR
   go_wp2
   go_ret
   exact HRES.out

end Go.Proofs.YtpgkebfdfhdliaaDoor

namespace Go.Proofs.YtpgkebfdfhdliaaDoor
open Go.RowKit
set_option linter.unusedVariables false
set_option linter.unusedSimpArgs false
attribute [local go_sem] ite_max ite_min vite_max vite_min ext_cell ext_frozen

theorem own_made (w : World) (T : TypeId) (size : Nat) : (w.alloc (.cells #[] T)).ownsRow w.heap.size T size (.slice (some ⟨w.heap.size, 0, none⟩) 0 0) 0 [] :=
 World.ownsRow_made w #[] 0 (Nat.le_refl _) (by unfold maxLen; omega) (by simp)
theorem RowN.lies {w : World} {A : Option Addr} {zs : List Int} {c n : Nat} (h : RowN w A zs c) (hl : zs.length = n) : Lies w w.heap.size 1 A n (intsV .i64 zs) := by
 refine ⟨by rw [intsV_len, hl, Nat.mul_one], fun hn => ?_⟩
 obtain ⟨b, off, hA, hb, -⟩ := h.2.2 0 zs[0] (List.getElem?_eq_getElem (by omega))
 refine ⟨b, off, hA, hb, fun j u hu => ?_⟩
 simp only [intsV, List.getElem?_map, Option.map_eq_some_iff] at hu
 obtain ⟨z, hz, rfl⟩ := hu
 obtain ⟨b', off', hA', -, hc'⟩ := h.2.2 j z hz
 rw [hA] at hA'
 cases hA'
 exact hc'
/-- append([]int64{}, cells...) -/
theorem wpList_copy {ops : Array Oper} {rest : List Oper} {o : Oper} {a : Act} {Q : Exit → Act → World → Prop} (hgd : o.guard = none) (s x : Operand)
  (ho : o.op = .call { callee := .builtin .append, args := #[s, x], argTypes := #[30, 30] })
  (W : World) (zs : List Int) (A : Option Addr) (n c : Nat) (hs : a.eval s = .slice (some ⟨W.heap.size, 0, none⟩) 0 0) (hx : a.eval x = .slice A n c)
  (hr : RowN W A zs c) (hl : zs.length = n) (hn : n ≤ 16384)
  (h : ∀ A' c' w', w'.ownsRow W.heap.size 2 1 (.slice A' n c') n (intsV .i64 zs) → Below W.heap.size W w' → wpList Tryd.prog ops Q rest (a.put o.dst (.slice A' n c')) w') :
  wpList Tryd.prog ops Q (o :: rest) a (W.alloc (.cells #[] 2)) := by
 obtain ⟨i0, hi0, hz0, hz1, hz2⟩ := info_parts (show (Tryd.prog.info? 2).map (fun i => (i.zero, i.size, i.bytes)) = some (some (.int .i64 0), 1, 8) by kernel_rfl)
 have hb : Below W.heap.size W (W.alloc (.cells #[] 2)) := below_new (Below.refl _ _) (Nat.le_refl _) _
 refine wpList_app _ hgd s x 30 ho W.heap.size 2 i0 (.int .i64 0) 1 8 Tryd.underlying30 hi0 hz0 hz1 hz2 rfl (by decide) _ 0 [] hs (own_made W 2 1) _ A n c (intsV .i64 zs) hx ((hr.lies hl).on hb) (fun u hu => ?_) (by unfold maxLen; omega) (by omega) (by simp) (fun v' w' h1 h2 h3 => ?_)
 ·simp only [intsV, List.mem_map] at hu
  obtain ⟨z, -, rfl⟩ := hu
  rfl
 ·rw [Nat.zero_add, List.nil_append] at h1
  obtain ⟨A', c', rfl, -⟩ := own_form h1
  exact h A' c' w' h1 (below_grown hb h2 (own_made W 2 1) (Nat.le_refl _) (by simp))
/-- a telling under way in the reference: the cells in g, the blocks' row in q -/
structure RS (w0 W : World) (g q n : Nat) (bl : List BlK) (zs : List Int) : Prop where
 row : Row W g zs
 len : zs.length = n
 low : w0.heap.size ≤ g
 old : Below w0.heap.size w0 W
 ne : q ≠ g
 ql : bl ≠ [] → q < W.heap.size
 ins : ∀ j b, bl[j]? = some b → ∀ k u, (rbC b)[k]? = some u → W.cell? ⟨q, j * 3 + k, none⟩ = some u
theorem RS.next {w0 W W' : World} {g q n : Nat} {bl : List BlK} {zs zs' : List Int} (h : RS w0 W g q n bl zs) (hb : But g W W') (hr : Row W' g zs') (hl : zs'.length = zs.length) : RS w0 W' g q n bl zs' :=
 ⟨hr, hl.trans h.len, h.low, h.old.trans (hb.below _ h.low h.old.size), h.ne, fun hn => Nat.lt_of_lt_of_le (h.ql hn) hb.size, fun j b hj k u hu => (hb.cell q _ (h.ql (fun e => by rw [e] at hj; simp at hj)) h.ne).trans (h.ins j b hj k u hu)⟩
theorem RS.below {w0 W W' : World} {g q n : Nat} {bl : List BlK} {zs : List Int} (h : RS w0 W g q n bl zs) (hb : Below W.heap.size W W') : RS w0 W' g q n bl zs := h.next (But.of_below hb) (h.row.below hb) rfl
theorem RS.put {w0 W : World} {g q n : Nat} {bl : List BlK} {zs : List Int} (h : RS w0 W g q n bl zs) (j : Nat) (x : Int) : RS w0 (W.setCell ⟨g, j, none⟩ (.int .i64 x)) g q n bl (zs.set j x) :=
 h.next ((But.refl g W).set j _) (h.row.set j x) (by simp)
theorem But.setRow {g : Nat} {w w' : World} (h : But g w w') (D : Nat) (hD : w.heap.size ≤ D) (cs : Array Value) : But g w (w'.setRow D cs) :=
 ⟨by rw [setRow_size]; exact h.size, fun b o hb hn => (cell_setRow_other _ _ _ ⟨b, o, none⟩ (by show b ≠ D; omega)).trans (h.cell b o hb hn), fun b o hb hn => (frozen_setRow_other _ _ _ ⟨b, o, none⟩ (by show b ≠ D; omega)).trans (h.froz b o hb hn), fun B hB hs => below_setRow (h.below B hB hs) (by omega) cs⟩
/-- a variable's block stored anew -/
theorem RS.setRow {w0 W : World} {g q n D : Nat} {bl : List BlK} {zs : List Int} (h : RS w0 W g q n bl zs) (hg : D ≠ g) (hq : D ≠ q) (h0 : w0.heap.size ≤ D) (cs : Array Value) : RS w0 (W.setRow D cs) g q n bl zs :=
 ⟨⟨by rw [setRow_size]; exact h.row.lt, fun j z hz => (cell_setRow_other _ _ _ ⟨g, j, none⟩ (Ne.symm hg)).trans (h.row.cell j z hz), fun o => (frozen_setRow_other _ _ _ ⟨g, o, none⟩ (Ne.symm hg)).trans (h.row.free o)⟩, h.len, h.low, below_setRow h.old h0 cs, h.ne, fun hn => by rw [setRow_size]; exact h.ql hn,
  fun j b hj k u hu => (cell_setRow_other _ _ _ ⟨q, j * 3 + k, none⟩ (Ne.symm hq)).trans (h.ins j b hj k u hu)⟩
theorem rs_start {w : World} {H g : Nat} {v : Value} {bl : List BlK} (ho : w.ownsRow H 90 3 v bl.length (rbCs bl)) (hg : g < H) (hw : H ≤ w.heap.size) :
  ∃ A k q, v = .slice A bl.length k ∧ bl.length ≤ k ∧ k ≤ 9223372036854775807 ∧ (bl ≠ [] → A = some ⟨q, 0, none⟩) ∧ q ≠ g ∧ (bl ≠ [] → q < w.heap.size) ∧ ∀ j b, bl[j]? = some b → ∀ k u, (rbC b)[k]? = some u → w.cell? ⟨q, j * 3 + k, none⟩ = some u := by
 have ho' := ho
 obtain ⟨h1, h2⟩ := ho
 rcases h2 with ⟨rfl, h0⟩ | ⟨q, cap, cur, rfl, hq, hh, hnc, hc, -⟩
 ·have hb : bl = [] := List.eq_nil_of_length_eq_zero h0
  subst hb
  exact ⟨none, 0, w.heap.size, rfl, Nat.le_refl _, by omega, fun h => absurd rfl h, by omega, fun h => absurd rfl h, fun j b h => by simp at h⟩
 ·unfold maxLen at hc
  refine ⟨some ⟨q, 0, none⟩, cap, q, rfl, hnc, hc, fun _ => rfl, by omega, fun _ => (Array.getElem?_eq_some_iff.1 hh).1, fun j b hj k u hu => ?_⟩
  have := ho'.cells (g := q) rfl (j * 3 + k) u (rbCs_get bl j b hj k u hu)
  have had : (⟨q, 0, none⟩ : Addr).add (j * 3 + k) = ⟨q, j * 3 + k, none⟩ := by
   unfold Addr.add
   split
   ·rename_i h; simp [h]
   ·simp
  rwa [had] at this
/-- where the cells lie: in a block of their own -/
theorem copy_at {w W w1 w2 : World} {B n k : Nat} {A : Option Addr} {zs : List Int} (ho : w2.ownsRow W.heap.size 2 1 (.slice A n k) n (intsV .i64 zs)) (hl : zs.length = n) (hw : w.heap.size ≤ W.heap.size) (hB : w.heap.size ≤ B ∧ Row w2 B []) :
  ∃ g, (0 < n → A = some ⟨g, 0, none⟩) ∧ w.heap.size ≤ g ∧ Row w2 g zs ∧ (¬ 0 < n → g = B) := by
 by_cases h0 : 0 < n
 ·obtain ⟨g, cap, hv, -, -, hg, hrow, -⟩ := row_of_own ho h0
  cases hv
  exact ⟨g, fun _ => rfl, by omega, hrow, fun h => absurd h0 h⟩
 ·have hz : zs = [] := List.eq_nil_of_length_eq_zero (by omega)
  exact ⟨B, fun h => absurd h h0, hB.1, by rw [hz]; exact hB.2, fun _ => rfl⟩

end Go.Proofs.YtpgkebfdfhdliaaDoor

namespace Go.Proofs.YtpgkebfdfhdliaaDoor
open Go.RowKit
set_option linter.unusedVariables false
set_option linter.unusedSimpArgs false
attribute [local go_sem] ite_max ite_min vite_max vite_min ext_cell ext_frozen

set_option maxRecDepth 100000 in
set_option maxHeartbeats 8000000 in
theorem rshiftS_at (p : Prg) (cs : List Value) (zs : List Int) (A : Option Addr) (n c : Nat) (sa sv sp : Int) (sok : Bool) (w : World)
  (h : PrgAt w p cs) (hfit : ∀ v ∈ p.vars, ArrOk v) (hmot : ∀ v ∈ p.vars, v.arr = true → v.type ≤ 2) (hn64 : p.vars.length ≤ 64) (hr : RowN w A zs c) (hl : zs.length = n) (hn : n ≤ 16384) :
  Calls Tryd.prog 24 #[.agg cs.toArray, .slice A n c, .agg #[.int .i64 sa, .int .i64 sv, .int .i64 sp], .bool sok] w fun e w' => (∃ v, e = .returned v ∧ ∃ A' c', v = .slice A' n c' ∧ RowN w' A' (if n = sumN p.vars then shiftP (blks p.vars) sv sok zs else zs) c') ∧ Below w.heap.size w w' := by
 obtain ⟨Av, kv, Ab, kb, rfl, hv, hbd⟩ := h
 have HOF : Hid (∀ W, Below w.heap.size w W → Calls Tryd.prog 11 #[.agg #[.string p.name, .slice Av p.vars.length kv, .slice Ab p.body.length kb]] W fun e w' => (∃ v, e = .returned v ∧ LayR W p.vars v w') ∧ Below W.heap.size W w') := Lib.hid (fun W hW => of22_any p _ W ⟨Av, kv, Ab, kb, rfl, hv.below hW, hbd.below hW⟩ hfit hn64)
 have HIN : Hid (∀ W, Below w.heap.size w W → Calls Tryd.prog 43 #[.agg #[.string p.name, .slice Av p.vars.length kv, .slice Ab p.body.length kb]] W fun e w' => (∃ v, e = .returned v ∧ w'.ownsRow W.heap.size 90 3 v (blks p.vars).length (rbCs (blks p.vars))) ∧ Below W.heap.size W w') := Lib.hid (fun W hW => rblocks_at p _ W ⟨Av, kv, Ab, kb, rfl, hv.below hW, hbd.below hW⟩ hfit hmot hn64)
 have HOK := Lib.hid (blksT_ok hmot p.vars.length (Nat.le_refl _))
 have HRN := Lib.hid hr
 have HL := Lib.hid hl
 obtain ⟨m, hm⟩ : ∃ m, p.vars.length = m := ⟨_, rfl⟩
 obtain ⟨nb, hnb⟩ : ∃ m, p.body.length = m := ⟨_, rfl⟩
 obtain ⟨sm, hsm⟩ : ∃ s, sumN p.vars = s := ⟨_, rfl⟩
 obtain ⟨bl, hbl⟩ : ∃ b, blks p.vars = b := ⟨_, rfl⟩
 have hok := HOK.out
 have hbl0 : blksT p.vars p.vars.length = bl := hbl
 rw [hbl0, hsm] at hok
 have HBO := Lib.hid hok
 have HSM := Lib.hid hsm
 have hblm : bl.length ≤ m := by rw [← hbl0, ← hm]; exact blksT_len _ _
 rw [hbl] at HIN
 rw [hm] at hn64
 show Calls Tryd.prog 24 #[.agg #[.string p.name, .slice Av p.vars.length kv, .slice Ab p.body.length kb], .slice A n c, .agg #[.int .i64 sa, .int .i64 sv, .int .i64 sp], .bool sok] w _
 rw [hsm, hbl, hm, hnb]
 obtain ⟨RES, hRES⟩ : ∃ r, (if n = sm then shiftP bl sv sok zs else zs) = r := ⟨_, rfl⟩
 rw [hRES]
 have HRES := Lib.hid hRES
 clear hRES
 rw [hm, hnb] at HOF HIN
 have hc1 := hr.1
 have hc2 := hr.2.1
 rw [hl] at hc1
 clear hv hbd hfit hmot hr hl hm hnb hsm hbl hbl0 hok HOK
 go_enter Tryd.func24, Tryd.ntmps24
 go_upto_region 1 with (fail)
 refine wp_name fun W hW => ?_
 obtain ⟨B, hB⟩ : ∃ B, B = w.heap.size := ⟨_, rfl⟩
 have HC : Hid (∀ W', Below W.heap.size W W' → W'.cell? ⟨B, 0, none⟩ = some (.string p.name) ∧ W'.cell? ⟨B, 1, none⟩ = some (.slice Av m kv) ∧ W'.cell? ⟨B, 2, none⟩ = some (.slice Ab nb kb) ∧ B < W'.heap.size) := Lib.hid (fun W' hW' => by
  have hl : B < W.heap.size := by rw [hW.out, hB]; simp; omega
  exact ⟨(hW'.cell (p := ⟨B, 0, none⟩) hl).trans (by rw [hW.out, hB]; go_simp), (hW'.cell (p := ⟨B, 1, none⟩) hl).trans (by rw [hW.out, hB]; go_simp), (hW'.cell (p := ⟨B, 2, none⟩) hl).trans (by rw [hW.out, hB]; go_simp), Nat.lt_of_lt_of_le hl hW'.size⟩)
 have hbel : Below w.heap.size w W := by rw [hW.out]; (repeat' (first | with_reducible (first | exact Below.refl _ _ | assumption | refine below_drewN ?_ _ | refine Below.drew ?_ | refine below_new ?_ (Nat.le_refl _) _ | refine Below.setCell ?_ ?_ _ | refine below_go ?_ (by assumption) (Nat.le_refl _)) | (simp; done) | (simp; omega) | omega))
 have HB := Lib.hid hbel
 have HSV : Hid (∀ W', Below W.heap.size W W' → W'.cell? ⟨B + 1, 1, none⟩ = some (.int .i64 sv) ∧ B + 1 < W'.heap.size) := Lib.hid (fun W' hW' => by
  have hB1 : B + 1 = w.heap.size + 1 := by omega
  have hl : B + 1 < W.heap.size := by rw [hW.out, hB]; simp
  exact ⟨(hW'.cell (p := ⟨B + 1, 1, none⟩) hl).trans (by rw [hW.out, hB1]; go_simp), Nat.lt_of_lt_of_le hl hW'.size⟩)
 have HFZ : Hid (∀ W', Below W.heap.size W W' → w.heap.size ≤ B ∧ Row W' B []) := Lib.hid (fun W' hW' => by
  have hh : W.heap[B]? = some (.cells #[.string p.name, .slice Av m kv, .slice Ab nb kb] 25) := by rw [hW.out, hB, heap_alloc_old _ _ (by simp)]; exact heap_alloc_new _ _
  have hl : B < W.heap.size := (Array.getElem?_eq_some_iff.1 hh).1
  exact ⟨by omega, ⟨Nat.lt_of_lt_of_le hl hW'.size, fun j z hz => by simp at hz, fun o => (hW'.frozen (p := ⟨B, o, none⟩) hl).trans (heap_free o hh)⟩⟩)
 (try rw [show w.heap.size + 1 = B + 1 by omega])
 (try rw [← hB])
 have hgB : w.heap.size ≤ B := by omega
 clear hW hbel hB
 go_upto_region 2 with (at_builtin; refine wpList_copy rfl _ _ rfl W zs A n c rfl rfl (HRN.out.below HB.out) HL.out hn ?_)
 intro A1 k1 w1 hown hb1
 have HO1 := Lib.hid hown
 have HS1 := Lib.hid hb1
 have HB1 := Lib.hid (HB.out.trans (hb1.mono HB.out.size))
 obtain ⟨c0, c1', c2, lB⟩ := HC.out w1 HS1.out
 have hz1 := HB1.out.size
 clear hb1 hown
 go_wp2_with fail
 refine (HIN.out w1 HB1.out).mono ?_
 rintro e w2 ⟨⟨v2, rfl, hown2⟩, hb2⟩
 obtain ⟨g, hg1, hgw, hrow1, hgB⟩ := copy_at (w := w) (w1 := w1) (B := B) HO1.out HL.out HB.out.size (HFZ.out w1 HS1.out)
 obtain ⟨A3, k3, q, rfl, hq1, hq2, hq3, hqg, hql, hins⟩ := rs_start hown2 hrow1.lt hb2.size
 have HG1 := Lib.hid hg1
 have HA3 := Lib.hid hq3
 have HS2 := Lib.hid (HS1.out.trans (hb2.mono HS1.out.size))
 have HB2 := Lib.hid (HB1.out.trans (hb2.mono HB1.out.size))
 have HO2 := Lib.hid (owns_below HO1.out hb2)
 have HR2 : Hid (RS w w2 g q n bl zs) := Lib.hid ⟨hrow1.below hb2, HL.out, hgw, HB2.out, hqg, hql, hins⟩
 have HGB : Hid (B + 1 ≠ g) := Lib.hid (by
  have h1 := (HSV.out W (Below.refl _ _)).2
  by_cases h0 : 0 < n
  ·have h2 := hg1 h0
   have h3 := (HO1.out.lt g (by rw [h2]; rfl)).1
   omega
  ·have := hgB h0
   omega)
 obtain ⟨nbk, hnbk⟩ : ∃ x, bl.length = x := ⟨_, rfl⟩
 rw [hnbk] at hq1 ⊢
 have HNB := Lib.hid hnbk
 clear hown2 hb2 c0 c1' c2 lB hg1 hq3 hrow1 hins hql hnbk hqg
 obtain ⟨c0, c1', c2, lB⟩ := HC.out w2 HS2.out
 go_wp2_with fail
 refine (HOF.out w2 HB2.out).mono ?_
 rintro e w3 ⟨⟨v3, rfl, ⟨vA, vF, rfl, -, -⟩⟩, hb3⟩
 rw [HSM.out]
 have hfd : ∀ W : World, (Instr.field 32 (.agg #[vA, .int .i64 (sm : Int), vF]) 1).run Tryd.prog W = .ok (.int .i64 (sm : Int)) W := fun W => by kernel_rfl
 have HR3 := Lib.hid (HR2.out.below hb3)
 have HV3 : Hid (w3.cell? ⟨B + 1, 1, none⟩ = some (.int .i64 sv) ∧ B + 1 < w3.heap.size) := Lib.hid (HSV.out w3 (HS2.out.trans (hb3.mono HS2.out.size)))
 have HO3 := Lib.hid (owns_below HO2.out hb3)
 clear hb3 c0 c1' c2 lB HR2 HO2 HO1
 by_cases hsn : n = sm
 ·have usn : ((n : Int) != (sm : Int)) = false := by simp [hsn]
  have hbo := HBO.out
  rw [← hsn] at hbo
  have HBO := Lib.hid hbo
  have HSN := Lib.hid hsn
  obtain ⟨AO, kO, hvO, hnO, hcO, -⟩ := own_form HO3.out
  cases hvO
  unfold maxLen at hcO
  have hBg := HGB.out
  clear hsn hbo
  go_wp2_with fail
  go_loopw [11] (fun u wr => ∃ (k : Nat), k ≤ nbk ∧ u = .int .i64 k ∧ Hid (RS w wr g q n bl (shiftP (bl.take k) sv sok zs)) ∧ Hid (wr.cell? ⟨B + 1, 1, none⟩ = some (.int .i64 sv) ∧ B + 1 < wr.heap.size)) (fun u _ => nbk - (intOf u).toNat)
  case atStart => exact ⟨0, by omega, rfl, HR3, HV3⟩
  case round =>
   obtain ⟨k, hk, rfl, HTK, HVwr⟩ := hrel
   obtain ⟨zK, hzK⟩ : ∃ z, shiftP (bl.take k) sv sok zs = z := ⟨_, rfl⟩
   have HZK := Lib.hid hzK
   rw [hzK] at HTK
   clear hzK
   by_cases hlt3 : k < nbk
   ·obtain ⟨b, hb⟩ : ∃ b, bl[k]? = some b := ⟨_, List.getElem?_eq_getElem (by rw [HNB.out]; exact hlt3)⟩
    have hk3 : (0 : Int) ≤ (k : Int) ∧ (k : Int) < (nbk : Int) := by omega
    have HBK := Lib.hid hb
    have hA3 := HA3.out (fun e => by rw [e] at hb; simp at hb)
    have hql := HTK.out.ql (fun e => by rw [e] at hb; simp at hb)
    have b0 : wr.cell? ⟨q, k * 3, none⟩ = some (.int .i64 (b.num : Int)) := HTK.out.ins k b hb 0 _ rfl
    have b1 : wr.cell? ⟨q, k * 3 + 1, none⟩ = some (.int .i64 b.kind) := HTK.out.ins k b hb 1 _ rfl
    have b2 : wr.cell? ⟨q, k * 3 + 2, none⟩ = some (.int .i64 (b.off : Int)) := HTK.out.ins k b hb 2 _ rfl
    obtain ⟨s1, ls⟩ := HVwr.out
    subst hA3
    by_cases hnv : (b.num : Int) = sv
    ·by_cases h30 : b.kind = 30
     ·have u30 : (b.kind == 30) = true := by simp [h30]
      have unv : ((b.num : Int) == sv) = true := by simp [hnv]
      have hlen := HBO.out.len b (List.mem_of_getElem? hb)
      rw [h30, othK.c30] at hlen
      obtain ⟨o3, ho3⟩ : ∃ x, x = b.off + 3 := ⟨_, rfl⟩
      obtain ⟨o4, ho4⟩ : ∃ x, x = b.off + 4 := ⟨_, rfl⟩
      have hw3 : IntKind.i64.wrap ((b.off : Int) + 3) = (o3 : Int) := by rw [IntKind.wrap_i64]; omega
      have hw4 : IntKind.i64.wrap ((b.off : Int) + 4) = (o4 : Int) := by rw [IntKind.wrap_i64]; omega
      have hi3 : (0 : Int) ≤ (o3 : Int) ∧ (o3 : Int) < (n : Int) := by omega
      have hi4 : (0 : Int) ≤ (o4 : Int) ∧ (o4 : Int) < (n : Int) := by omega
      have HZN : Hid (shiftP (bl.take (k + 1)) sv sok zs = (zK.set o3 (b01 sok)).set o4 (b01 (!sok))) := Lib.hid (by
       rw [ho3, ho4]
       unfold shiftP
       rw [fold_take (shift1 sv sok) zs HBK.out]
       have := HZK.out
       unfold shiftP at this
       rw [this]
       exact shift1_yes hnv h30)
      have hA1 := HG1.out (by omega)
      have HNM := Lib.hid (fun (b : Bool) w => rnum_any b w)
      subst hA1
      have ne34 : ¬ o3 = o4 := by omega
      have ne43 : ¬ o4 = o3 := by omega
      have hzn := HTK.out.len
      obtain ⟨z3, hz3⟩ : ∃ z, zK[o3]? = some z := ⟨_, List.getElem?_eq_getElem (by omega)⟩
      obtain ⟨z4, hz4⟩ : ∃ z, zK[o4]? = some z := ⟨_, List.getElem?_eq_getElem (by omega)⟩
      have HZ3 := Lib.hid hz3
      have HZ4 := Lib.hid hz4
      clear hnv h30 hlen ho3 ho4 hb hzn hz3 hz4
      go_upto_region 8 with (fail)
      refine wp_region_ext (by kernel_rfl) (by kernel_rfl) ?_
      repeat (go_big_quiet_step (fail))
      refine wpQuiet_nil ?_
      intro w5 hb5
      replace hb5 := ext_below hb5
      have HR5 := Lib.hid (HTK.out.below hb5)
      have HV5 : Hid (w5.cell? ⟨B + 1, 1, none⟩ = some (.int .i64 sv) ∧ B + 1 < w5.heap.size) := Lib.hid ⟨(hb5.cell (p := ⟨B + 1, 1, none⟩) HVwr.out.2).trans HVwr.out.1, Nat.lt_of_lt_of_le HVwr.out.2 hb5.size⟩
      clear b0 b1 b2 s1 ls hb5 hql
      have b0 : w5.cell? ⟨q, k * 3, none⟩ = some (.int .i64 (b.num : Int)) := HR5.out.ins k b HBK.out 0 _ rfl
      have b1 : w5.cell? ⟨q, k * 3 + 1, none⟩ = some (.int .i64 b.kind) := HR5.out.ins k b HBK.out 1 _ rfl
      have b2 : w5.cell? ⟨q, k * 3 + 2, none⟩ = some (.int .i64 (b.off : Int)) := HR5.out.ins k b HBK.out 2 _ rfl
      have hql := HR5.out.ql (fun e => by have := HBK.out; rw [e] at this; simp at this)
      go_upto_region 9 with (fail)
      have HSB : Hid (∀ W', But g w5 W' → W'.cell? ⟨q, k * 3 + 2, none⟩ = some (.int .i64 (b.off : Int)) ∧ q < W'.heap.size) := Lib.hid (fun W' h => ⟨(h.cell q _ (HR5.out.ql (fun e => by have := HBK.out; rw [e] at this; simp at this)) HR5.out.ne).trans (HR5.out.ins k b HBK.out 2 _ rfl), Nat.lt_of_lt_of_le (HR5.out.ql (fun e => by have := HBK.out; rw [e] at this; simp at this)) h.size⟩)
      have f3 := HR5.out.row.free o3
      have f4 := HR5.out.row.free o4
      have lg6 := HR5.out.row.lt
      have y3 : w5.cell? ⟨g, o3, none⟩ = some (.int .i64 z3) := HR5.out.row.cell _ _ HZ3.out
      have y4 : w5.cell? ⟨g, o4, none⟩ = some (.int .i64 z4) := HR5.out.row.cell _ _ HZ4.out
      clear b0 b1 b2 hql
      refine wp_region_held_drew (S := fun W' => W'.cell? ⟨q, k * 3 + 2, none⟩ = some (.int .i64 (b.off : Int)) ∧ q < W'.heap.size) (by kernel_rfl) (HSB.out _ ((But.refl g w5).drew)) (fun hHeld => ?_)
      (try simp only [Act.put, List.setIfInBounds_toArray, List.set_cons_zero, List.set_cons_succ])
      (refine takeH (i := 0) (v := ?_) rfl (by kernel_rfl) (by kernel_rfl) (by kernel_rfl) (fun _ _ _ h => h) (Or.inl ⟨by first | kernel_rfl | rfl, ?_⟩) (by assumption) ?_; rotate_left; (focus (intro w' hSw; (try dsimp only at hSw); go_simp; try (with_reducible rfl))); (try simp only [Act.put, List.setIfInBounds_toArray, List.set_cons_zero, List.set_cons_succ]))
      (refine takeH (i := 1) (v := ?_) rfl (by kernel_rfl) (by kernel_rfl) (by kernel_rfl) (fun _ _ _ h => h) (Or.inl ⟨by first | kernel_rfl | rfl, ?_⟩) (by assumption) ?_; rotate_left; (focus (intro w' hSw; (try dsimp only at hSw); go_simp; try (with_reducible rfl))); (try simp only [Act.put, List.setIfInBounds_toArray, List.set_cons_zero, List.set_cons_succ]))
      (refine takeH (i := 2) (v := ?_) rfl (by kernel_rfl) (by kernel_rfl) (by kernel_rfl) (fun _ _ _ h => h) (Or.inl ⟨by first | kernel_rfl | rfl, ?_⟩) (by assumption) ?_; rotate_left; (focus (intro w' hSw; (try dsimp only at hSw); go_simp; try (with_reducible rfl))); (try simp only [Act.put, List.setIfInBounds_toArray, List.set_cons_zero, List.set_cons_succ]))
      (refine takeH (i := 3) (v := ?_) rfl (by kernel_rfl) (by kernel_rfl) (by kernel_rfl) (fun _ _ _ h => h) (Or.inl ⟨by first | kernel_rfl | rfl, ?_⟩) (by assumption) ?_; rotate_left; (focus (intro w' hSw; (try dsimp only at hSw); go_simp; try (with_reducible rfl))); (try simp only [Act.put, List.setIfInBounds_toArray, List.set_cons_zero, List.set_cons_succ]))
      (refine takeH (i := 4) (v := ?_) rfl (by kernel_rfl) (by kernel_rfl) (by kernel_rfl) (fun _ _ _ h => h) (Or.inl ⟨by first | kernel_rfl | rfl, ?_⟩) (by assumption) ?_; rotate_left; (focus (intro w' hSw; (try dsimp only at hSw); go_simp; try (with_reducible rfl))); (try simp only [Act.put, List.setIfInBounds_toArray, List.set_cons_zero, List.set_cons_succ]))
      (refine takeH (i := 5) (v := ?_) rfl (by kernel_rfl) (by kernel_rfl) (by kernel_rfl) (fun _ _ _ h => h) (Or.inl ⟨by first | kernel_rfl | rfl, ?_⟩) (by assumption) ?_; rotate_left; (focus (intro w' hSw; (try dsimp only at hSw); go_simp; try (with_reducible rfl))); (try simp only [Act.put, List.setIfInBounds_toArray, List.set_cons_zero, List.set_cons_succ]))
      (refine takeH (i := 6) (v := ?_) rfl (by kernel_rfl) (by kernel_rfl) (by kernel_rfl) (fun _ _ _ h => h) (Or.inl ⟨by first | kernel_rfl | rfl, ?_⟩) (by assumption) ?_; rotate_left; (focus (intro w' hSw; (try dsimp only at hSw); go_simp; try (with_reducible rfl))); (try simp only [Act.put, List.setIfInBounds_toArray, List.set_cons_zero, List.set_cons_succ]))
      (refine takeH (i := 7) (v := ?_) rfl (by kernel_rfl) (by kernel_rfl) (by kernel_rfl) (fun _ _ _ h => h) (Or.inl ⟨by first | kernel_rfl | rfl, ?_⟩) (by assumption) ?_; rotate_left; (focus (intro w' hSw; (try dsimp only at hSw); go_simp; try (with_reducible rfl))); (try simp only [Act.put, List.setIfInBounds_toArray, List.set_cons_zero, List.set_cons_succ]))
      (refine takeH (i := 8) (v := ?_) rfl (by kernel_rfl) (by kernel_rfl) (by kernel_rfl) (fun _ _ _ h => h) (Or.inl ⟨by first | kernel_rfl | rfl, ?_⟩) (by assumption) ?_; rotate_left; (focus (intro w' hSw; (try dsimp only at hSw); go_simp; try (with_reducible rfl))); (try simp only [Act.put, List.setIfInBounds_toArray, List.set_cons_zero, List.set_cons_succ]))
      (refine takeH (i := 9) (v := ?_) rfl (by kernel_rfl) (by kernel_rfl) (by kernel_rfl) (fun _ _ _ h => h) (Or.inl ⟨by first | kernel_rfl | rfl, ?_⟩) (by assumption) ?_; rotate_left; (focus (intro w' hSw; (try dsimp only at hSw); go_simp; try (with_reducible rfl))); (try simp only [Act.put, List.setIfInBounds_toArray, List.set_cons_zero, List.set_cons_succ]))
      (refine takeH (i := 10) (v := ?_) rfl (by kernel_rfl) (by kernel_rfl) (by kernel_rfl) (fun _ _ _ h => h) (Or.inl ⟨by first | kernel_rfl | rfl, ?_⟩) (by assumption) ?_; rotate_left; (focus (intro w' hSw; (try dsimp only at hSw); go_simp; try (with_reducible rfl))); (try simp only [Act.put, List.setIfInBounds_toArray, List.set_cons_zero, List.set_cons_succ]))
      (refine takeH (i := 11) (v := ?_) rfl (by kernel_rfl) (by kernel_rfl) (by kernel_rfl) (fun _ _ _ h => h) (Or.inl ⟨by first | kernel_rfl | rfl, ?_⟩) (by assumption) ?_; rotate_left; (focus (intro w' hSw; (try dsimp only at hSw); go_simp; try (with_reducible rfl))); (try simp only [Act.put, List.setIfInBounds_toArray, List.set_cons_zero, List.set_cons_succ]))
      (refine takeH (i := 12) (v := ?_) rfl (by kernel_rfl) (by kernel_rfl) (by kernel_rfl) (fun _ _ _ h => h) (Or.inl ⟨by first | kernel_rfl | rfl, ?_⟩) (by assumption) ?_; rotate_left; (focus (intro w' hSw; (try dsimp only at hSw); go_simp; try (with_reducible rfl))); (try simp only [Act.put, List.setIfInBounds_toArray, List.set_cons_zero, List.set_cons_succ]))
      (refine takeH (i := 13) (v := ?_) rfl (by kernel_rfl) (by kernel_rfl) (by kernel_rfl) (fun _ _ _ h => h) (Or.inl ⟨by first | kernel_rfl | rfl, ?_⟩) (by assumption) ?_; rotate_left; (focus (intro w' hSw; (try dsimp only at hSw); go_simp; try (with_reducible rfl))); (try simp only [Act.put, List.setIfInBounds_toArray, List.set_cons_zero, List.set_cons_succ]))
      (refine takeH (i := 14) (v := ?_) rfl (by kernel_rfl) (by kernel_rfl) (by kernel_rfl) (fun _ _ _ h => h) (Or.inl ⟨by first | kernel_rfl | rfl, ?_⟩) (by assumption) ?_; rotate_left; (focus (intro w' hSw; (try dsimp only at hSw); go_simp; try (with_reducible rfl))); (try simp only [Act.put, List.setIfInBounds_toArray, List.set_cons_zero, List.set_cons_succ]))
      (refine takeH (i := 16) (v := ?_) rfl (by kernel_rfl) (by kernel_rfl) (by kernel_rfl) (fun _ _ _ h => h) (Or.inl ⟨by first | kernel_rfl | rfl, ?_⟩) (by assumption) ?_; rotate_left; (focus (intro w' hSw; (try dsimp only at hSw); go_simp; try (with_reducible rfl))); (try simp only [Act.put, List.setIfInBounds_toArray, List.set_cons_zero, List.set_cons_succ]))
      (refine takeH (i := 17) (v := ?_) rfl (by kernel_rfl) (by kernel_rfl) (by kernel_rfl) (fun _ _ _ h => h) (Or.inl ⟨by first | kernel_rfl | rfl, ?_⟩) (by assumption) ?_; rotate_left; (focus (intro w' hSw; (try dsimp only at hSw); go_simp; try (with_reducible rfl))); (try simp only [Act.put, List.setIfInBounds_toArray, List.set_cons_zero, List.set_cons_succ]))
      refine oneH (i := 15) (by kernel_rfl) rfl (fun K hK => ?_)
      go_simp
      go_at_call 46
      refine (HNM.out sok _).mono ?_
      rintro e w' ⟨rfl, rfl⟩
      go_wp2_with fail
      refine hK.out _ _ (HSB.out _ ((But.refl g w5).drew)) (fun hHeld => ?_)
      clear hK K
      (try simp only [Act.put, List.setIfInBounds_toArray, List.set_cons_zero, List.set_cons_succ])
      refine oneH (i := 18) (by kernel_rfl) rfl (fun K hK => ?_)
      go_simp
      go_at_call 46
      refine (HNM.out (!sok) _).mono ?_
      rintro e w' ⟨rfl, rfl⟩
      go_wp2_with fail
      refine hK.out _ _ (HSB.out _ ((But.refl g w5).drew)) (fun hHeld => ?_)
      clear hK K
      (try simp only [Act.put, List.setIfInBounds_toArray, List.set_cons_zero, List.set_cons_succ])
      (refine takeH (i := 19) (v := ?_) rfl (by kernel_rfl) (by kernel_rfl) (by kernel_rfl) (fun _ _ _ h => h) (Or.inl ⟨by first | kernel_rfl | rfl, ?_⟩) (by assumption) ?_; rotate_left; (focus (intro w' hSw; (try dsimp only at hSw); go_simp; try (with_reducible rfl))); (try simp only [Act.put, List.setIfInBounds_toArray, List.set_cons_zero, List.set_cons_succ]))
      refine oneH (i := 20) (by kernel_rfl) rfl (fun K hK => ?_)
      go_simp
      refine hK.out _ _ (HSB.out _ (((But.refl g w5).drew).set o3 _)) (fun hHeld => ?_)
      clear hK K
      (try simp only [Act.put, List.setIfInBounds_toArray, List.set_cons_zero, List.set_cons_succ])
      (refine takeH (i := 21) (v := ?_) rfl (by kernel_rfl) (by kernel_rfl) (by kernel_rfl) (fun _ _ _ h => h) (Or.inl ⟨by first | kernel_rfl | rfl, ?_⟩) (by assumption) ?_; rotate_left; (focus (intro w' hSw; (try dsimp only at hSw); go_simp; try (with_reducible rfl))); (try simp only [Act.put, List.setIfInBounds_toArray, List.set_cons_zero, List.set_cons_succ]))
      refine oneH (i := 22) (by kernel_rfl) rfl (fun K hK => ?_)
      go_simp
      refine hK.out _ _ (HSB.out _ ((((But.refl g w5).drew).set o3 _).set o4 _)) (fun hHeld => ?_)
      clear hK K
      (try simp only [Act.put, List.setIfInBounds_toArray, List.set_cons_zero, List.set_cons_succ])
      refine wpAnyH_done (by kernel_rfl) ?_ _
      (try simp only [Act.put, List.setIfInBounds_toArray, List.set_cons_zero, List.set_cons_succ])
      go_upto_region 7 with (fail)
      refine wp_name fun W7 hW7 => ?_
      have HR7 : Hid (RS w W7 g q n bl ((zK.set o3 (b01 sok)).set o4 (b01 (!sok)))) := Lib.hid (by rw [hW7.out]; exact ((HR5.out.below (show Below w5.heap.size w5 w5.drew by (repeat' (first | with_reducible (first | exact Below.refl _ _ | assumption | refine below_drewN ?_ _ | refine Below.drew ?_ | refine below_new ?_ (Nat.le_refl _) _ | refine Below.setCell ?_ ?_ _ | refine below_go ?_ (by assumption) (Nat.le_refl _)) | (simp; done) | (simp; omega) | omega)))).put o3 _).put o4 _)
      have HV7 : Hid (W7.cell? ⟨B + 1, 1, none⟩ = some (.int .i64 sv) ∧ B + 1 < W7.heap.size) := Lib.hid (by
       rw [hW7.out]
       have hbt := (((But.refl g w5).drew).set o3 (.int .i64 (b01 sok))).set o4 (.int .i64 (b01 (!sok)))
       exact ⟨(hbt.cell (B + 1) 1 HV5.out.2 hBg).trans HV5.out.1, Nat.lt_of_lt_of_le HV5.out.2 hbt.size⟩)
      clear hW7 f3 f4 lg6 y3 y4 ne34 ne43
      go_wp2
      go_roundw
      case rel => exact ⟨k + 1, by omega, by go_num, Lib.hid (by rw [HZN.out]; exact HR7.out), HV7⟩
      case measure => simp [intOf]; omega
     ·have u30 : (b.kind == 30) = false := by simp [h30]
      have unv : ((b.num : Int) == sv) = true := by simp [hnv]
      have H30 := Lib.hid h30
      have HZN : Hid (shiftP (bl.take (k + 1)) sv sok zs = zK) := Lib.hid (by
       unfold shiftP
       rw [fold_take (shift1 sv sok) zs HBK.out]
       have := HZK.out
       unfold shiftP at this
       rw [this]
       exact shift1_no (fun h => H30.out h.2))
      clear hnv h30 hb
      go_upto_region 8 with (fail)
      refine wp_region_ext (by kernel_rfl) (by kernel_rfl) ?_
      repeat (go_big_quiet_step (fail))
      refine wpQuiet_nil ?_
      intro w5 hb5
      replace hb5 := ext_below hb5
      have HR5 := Lib.hid (HTK.out.below hb5)
      have HV5 : Hid (w5.cell? ⟨B + 1, 1, none⟩ = some (.int .i64 sv) ∧ B + 1 < w5.heap.size) := Lib.hid ⟨(hb5.cell (p := ⟨B + 1, 1, none⟩) HVwr.out.2).trans HVwr.out.1, Nat.lt_of_lt_of_le HVwr.out.2 hb5.size⟩
      clear b0 b1 b2 s1 ls hb5 hql
      go_wp2
      go_roundw
      case rel => exact ⟨k + 1, by omega, by go_num, Lib.hid (by rw [HZN.out]; exact HR5.out), HV5⟩
      case measure => simp [intOf]; omega
    ·have unv : ((b.num : Int) == sv) = false := by simp [hnv]
     have HNV := Lib.hid hnv
     have HZN : Hid (shiftP (bl.take (k + 1)) sv sok zs = zK) := Lib.hid (by
      unfold shiftP
      rw [fold_take (shift1 sv sok) zs HBK.out]
      have := HZK.out
      unfold shiftP at this
      rw [this]
      exact shift1_no (fun h => HNV.out h.1))
     clear hnv hb
     go_upto_region 8 with (fail)
     refine wp_region_ext (by kernel_rfl) (by kernel_rfl) ?_
     repeat (go_big_quiet_step (fail))
     refine wpQuiet_nil ?_
     intro w5 hb5
     replace hb5 := ext_below hb5
     have HR5 := Lib.hid (HTK.out.below hb5)
     have HV5 : Hid (w5.cell? ⟨B + 1, 1, none⟩ = some (.int .i64 sv) ∧ B + 1 < w5.heap.size) := Lib.hid ⟨(hb5.cell (p := ⟨B + 1, 1, none⟩) HVwr.out.2).trans HVwr.out.1, Nat.lt_of_lt_of_le HVwr.out.2 hb5.size⟩
     clear b0 b1 b2 s1 ls hb5 hql
     go_wp2
     go_roundw
     case rel => exact ⟨k + 1, by omega, by go_num, Lib.hid (by rw [HZN.out]; exact HR5.out), HV5⟩
     case measure => simp [intOf]; omega
   ·obtain rfl : k = nbk := by omega
    have HTE : Hid (RS w wr g q n bl (shiftP bl sv sok zs)) := Lib.hid (by have h := HTK.out; rw [← HZK.out, List.take_of_length_le (by rw [HNB.out]; exact Nat.le_refl _)] at h; exact h)
    clear HTK HZK HVwr
    have HRR2 : Hid (RowN wr A1 RES k1) := Lib.hid (by
     have h1 := HTE.out
     rw [← HRES.out, if_pos HSN.out]
     refine ⟨by rw [h1.len]; omega, by omega, fun i z hz => ?_⟩
     have hi := (List.getElem?_eq_some_iff.1 hz).1
     exact ⟨g, 0, HG1.out (by rw [h1.len] at hi; omega), h1.row.lt, by rw [Nat.zero_add]; exact h1.row.cell _ _ hz⟩)
    have HBE := Lib.hid (HTE.out.old)
    clear HTE
    go_wp2
    go_ret
    exact ⟨⟨_, rfl, _, _, rfl, HRR2.out⟩, HBE.out⟩
 ·have usn : ((n : Int) != (sm : Int)) = true := by simp; omega
  have HRR2 : Hid (RowN w3 A1 RES k1) := Lib.hid (by rw [← HRES.out, if_neg hsn]; exact (rowN_of HO3.out).1)
  have HBE := Lib.hid (HR3.out.old)
  clear hsn
  go_wp2
  go_ret
  exact ⟨⟨_, rfl, _, _, rfl, HRR2.out⟩, HBE.out⟩

end Go.Proofs.YtpgkebfdfhdliaaDoor
