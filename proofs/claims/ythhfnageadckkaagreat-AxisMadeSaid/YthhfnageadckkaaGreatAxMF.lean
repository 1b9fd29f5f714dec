/- Layer 15, the reference: is an axis right? PRINTED by wip/tool/mkrr15.py -/
import Derived.Test.YthhfnageadckkaaGreatM47
namespace Go.Proofs.YthhfnageadckkaaGreat
open Go.RowKit
set_option linter.unusedVariables false
set_option linter.unusedSimpArgs false
attribute [local go_sem] ite_max ite_min vite_max vite_min ext_cell ext_frozen

theorem madeB_parts {l : LimS} {win hat fast creep : Int} (h : madeB l win hat fast creep = true) : rightB l = true ∧ 1 ≤ win ∧ win ≤ 16 := by
 unfold madeB at h
 simp only [Bool.and_eq_true, decide_eq_true_eq] at h
 exact ⟨h.1.1.2, h.1.1.1.1, h.1.1.1.2⟩
theorem anyPl_no {zs : List Int} {n k : Nat} (hk : k < n) (h : plB (zs[k]?.getD 0) = false) : rightW zs n = false := by
 unfold rightW
 cases ha : anyK (fun z => !plB z) zs n
 ·have := anyK_no _ _ _ ha k hk
  simp [h] at this
 ·simp

set_option maxRecDepth 100000 in
set_option maxHeartbeats 16000000 in
theorem rright15_at (a : AX) (sv nv wv : Value) (L : List Value) (hL : AxL a sv nv wv L) (r : Bool) (w : World) (h : AxV w a sv nv wv) (h1 : a.ns.length ≤ 400) (h2 : a.ws.length ≤ 400) (hr : rightX a = r) :
  Calls Tryz.prog 19 #[.agg L.toArray] w fun e w' => e = .returned (.bool r) ∧ Below w.heap.size w w' := by
 obtain ⟨E, f, rfl, s1, s2, s3⟩ := id h.sm
 have HA := Lib.hid h
 have HL := Lib.hid hL
 have HR := Lib.hid hr
 have HN1 := Lib.hid h1
 have HN2 := Lib.hid h2
 obtain ⟨n, hn⟩ : ∃ n, a.sm.length = n := ⟨_, rfl⟩
 obtain ⟨st, hst⟩ : ∃ x, a.st = x := ⟨_, rfl⟩
 obtain ⟨ov, hov⟩ : ∃ x, a.ov = x := ⟨_, rfl⟩
 obtain ⟨off0, hoff⟩ : ∃ x, a.off = x := ⟨_, rfl⟩
 obtain ⟨win, hwin⟩ : ∃ x, a.win = x := ⟨_, rfl⟩
 obtain ⟨p, hp⟩ : ∃ x, a.g.p = x := ⟨_, rfl⟩
 have HSN := Lib.hid (And.intro hn (And.intro hst (And.intro hov (And.intro hoff (And.intro hwin hp)))))
 have HXR : Hid ((madeB a.l a.win a.hat a.fast a.creep && decide (0 ≤ st ∧ st ≤ 7) && rightW a.sm n && decide ((n : Int) = win) && safeB (bndX a) a.g && nearK p a.sm n && lineB a.ns a.ws && fitsX a && decide (0 ≤ ov ∧ ov ≤ 100) && decide (-288230376151711744 ≤ off0 ∧ off0 ≤ 288230376151711744) && (decide (st ≠ 2) || homeB a.h.p a.h.f a.h.c)) = r) := Lib.hid (by rw [← hr, ← hn, ← hst, ← hov, ← hoff, ← hwin, ← hp]; rfl)
 have HCL0 : ∀ (W : World) (B : Nat), W.heap[B]? = some (.cells L.toArray 35) → W.cell? ⟨B, 0, none⟩ = some (.int .i64 st) ∧ W.cell? ⟨B, 6, none⟩ = some (.int .i64 win) ∧ W.cell? ⟨B, 10, none⟩ = some (.int .i64 p) ∧ W.cell? ⟨B, 11, none⟩ = some (.int .i64 a.g.v) ∧ W.cell? ⟨B, 12, none⟩ = some (.slice E n f) ∧ W.cell? ⟨B, 13, none⟩ = some (.int .i64 off0) ∧ W.cell? ⟨B, 21, none⟩ = some (.int .i64 ov) := fun W B hk =>
  ⟨heap_cell 0 _ hk (by rw [hL.eq, ← hst]; rfl), heap_cell 6 _ hk (by rw [hL.eq, ← hwin]; rfl), heap_cell 10 _ hk (by rw [hL.eq, ← hp]; rfl), heap_cell 11 _ hk (by rw [hL.eq]; rfl), heap_cell 12 _ hk (by rw [hL.eq, ← hn]; rfl), heap_cell 13 _ hk (by rw [hL.eq, ← hoff]; rfl), heap_cell 21 _ hk (by rw [hL.eq, ← hov]; rfl)⟩
 have HCL := Lib.hid HCL0
 obtain ⟨q1, hq1⟩ : ∃ q, madeB a.l a.win a.hat a.fast a.creep = q := ⟨_, rfl⟩
 have HQ1 := Lib.hid hq1
 clear h hL hr h1 h2 s3 HCL0 hq1
 go_enter Tryz.func19, Tryz.ntmps19
 go_upto_region 1 with (fail)
 refine wp_name fun W hW => ?_
 obtain ⟨B, hB⟩ : ∃ B, B = w.heap.size := ⟨_, rfl⟩
 have HB : Hid (Below w.heap.size w W) := by rw [hW.out]; exact Lib.hid (by exact belowBy)
 have hlt : B < W.heap.size := by rw [hW.out, hB]; simp
 have HK : Hid (W.heap[B]? = some (.cells L.toArray 35)) := by
  rw [hW.out, hB]
  exact Lib.hid (heap_alloc_new _ _)
 have HBw := Lib.hid hB
 (try rw [← hB])
 rw [hn] at s1
 clear hW hB hn hst hov hoff hwin hp
 have q1' := heap_cell (w := W) 1 (.int .i64 a.l.v) HK.out (by rw [HL.out.eq]; rfl)
 have q2' := heap_cell (w := W) 2 (.int .i64 a.l.a) HK.out (by rw [HL.out.eq]; rfl)
 have q3' := heap_cell (w := W) 3 (.int .i64 a.l.d) HK.out (by rw [HL.out.eq]; rfl)
 have q4' := heap_cell (w := W) 4 (.int .i64 a.l.lo) HK.out (by rw [HL.out.eq]; rfl)
 have q5' := heap_cell (w := W) 5 (.int .i64 a.l.hi) HK.out (by rw [HL.out.eq]; rfl)
 have q6' := heap_cell (w := W) 6 (.int .i64 a.win) HK.out (by rw [HL.out.eq]; rfl)
 have q7' := heap_cell (w := W) 7 (.int .i64 a.hat) HK.out (by rw [HL.out.eq]; rfl)
 have q8' := heap_cell (w := W) 8 (.int .i64 a.fast) HK.out (by rw [HL.out.eq]; rfl)
 have q9' := heap_cell (w := W) 9 (.int .i64 a.creep) HK.out (by rw [HL.out.eq]; rfl)
 go_wp2_with fail
 refine (rmade_at a.l a.win a.hat a.fast a.creep q1 W HQ1.out).mono ?_
 rintro e w1 ⟨rfl, hb1⟩
 have HB1 := Lib.hid (HB.out.trans (hb1.mono HB.out.size))
 have HK1 := Lib.hid ((hb1.block B hlt).trans HK.out)
 have hlt1 : B < w1.heap.size := Nat.lt_of_lt_of_le hlt hb1.size
 have HKB : Hid (∀ W', Below w1.heap.size w1 W' → W'.heap[B]? = some (.cells L.toArray 35)) := Lib.hid (fun W' hb => (hb.block B hlt1).trans HK1.out)
 have HRG : Hid (∀ W', Below w1.heap.size w1 W' → W'.rangeAt B 0 L) := Lib.hid (fun W' hb j u hu => by
  rw [Nat.zero_add]
  exact heap_cell j u (HKB.out W' hb) (by rw [List.getElem?_toArray]; exact hu))
 clear hb1 q1' q2' q3' q4' q5' q6' q7' q8' q9' HB HK hlt
 obtain ⟨k0, k6, k10, k11, k12, k13, k21⟩ := HCL.out w1 B HK1.out
 cases q1
 ·obtain rfl : false = r := by rw [← HXR.out, HQ1.out]; simp
  go_wp2
  go_ret
  exact ⟨rfl, HB1.out.trans (Below.mono (by exact belowBy) HB1.out.size)⟩
 by_cases e1 : st < 0
 case pos =>
  obtain rfl : false = r := by rw [← HXR.out, decide_eq_false (show ¬ (0 ≤ st ∧ st ≤ 7) by omega)]; simp
  go_wp2
  go_ret
  exact ⟨rfl, HB1.out.trans (Below.mono (by exact belowBy) HB1.out.size)⟩
 by_cases e2 : 7 < st
 case pos =>
  obtain rfl : false = r := by rw [← HXR.out, decide_eq_false (show ¬ (0 ≤ st ∧ st ≤ 7) by omega)]; simp
  go_wp2
  go_ret
  exact ⟨rfl, HB1.out.trans (Below.mono (by exact belowBy) HB1.out.size)⟩
 by_cases e3 : (n : Int) = win
 case neg =>
  have t3 : ((n : Int) != win) = true := by simp [e3]
  obtain rfl : false = r := by rw [← HXR.out, decide_eq_false e3]; simp
  clear e3
  go_wp2
  go_ret
  exact ⟨rfl, HB1.out.trans (Below.mono (by exact belowBy) HB1.out.size)⟩
 have t3 : ((n : Int) != win) = false := by simp [e3]
 have E3 := Lib.hid e3
 clear e3
 by_cases e4 : ov < 0
 case pos =>
  obtain rfl : false = r := by rw [← HXR.out, decide_eq_false (show ¬ (0 ≤ ov ∧ ov ≤ 100) by omega)]; simp
  go_wp2
  go_ret
  exact ⟨rfl, HB1.out.trans (Below.mono (by exact belowBy) HB1.out.size)⟩
 by_cases e5 : 100 < ov
 case pos =>
  obtain rfl : false = r := by rw [← HXR.out, decide_eq_false (show ¬ (0 ≤ ov ∧ ov ≤ 100) by omega)]; simp
  go_wp2
  go_ret
  exact ⟨rfl, HB1.out.trans (Below.mono (by exact belowBy) HB1.out.size)⟩
 by_cases e6 : off0 < -288230376151711744
 case pos =>
  obtain rfl : false = r := by rw [← HXR.out, decide_eq_false (show ¬ (-288230376151711744 ≤ off0 ∧ off0 ≤ 288230376151711744) by omega)]; simp
  go_wp2
  go_ret
  exact ⟨rfl, HB1.out.trans (Below.mono (by exact belowBy) HB1.out.size)⟩
 by_cases e7 : 288230376151711744 < off0
 case pos =>
  obtain rfl : false = r := by rw [← HXR.out, decide_eq_false (show ¬ (-288230376151711744 ≤ off0 ∧ off0 ≤ 288230376151711744) by omega)]; simp
  go_wp2
  go_ret
  exact ⟨rfl, HB1.out.trans (Below.mono (by exact belowBy) HB1.out.size)⟩
 have hmp := madeB_parts HQ1.out
 have hnw : 1 ≤ n ∧ n ≤ 16 := by have := E3.out; have := HSN.out.2.2.2.2.1; omega
 have hbr := bnd_right hmp.1
 obtain ⟨bd, hbd⟩ : ∃ x, bndX a = x := ⟨_, rfl⟩
 rw [hbd] at HXR hbr
 obtain ⟨bv, ba, bdd, blo, bhi⟩ := bd
 have HBO : Hid (∀ W, Calls Tryz.prog 21 #[.agg L.toArray] W fun e w' => e = .returned (.agg #[.int .i64 bv, .int .i64 ba, .int .i64 bdd, .int .i64 blo, .int .i64 bhi]) ∧ Below W.heap.size W w') := Lib.hid (fun W => by rw [HL.out.eq]; exact rbounds_at a _ nv wv _ W hbd)
 obtain ⟨qs, hqs⟩ : ∃ x, safeB ⟨bv, ba, bdd, blo, bhi⟩ a.g = x := ⟨_, rfl⟩
 have hpw : -9223372036854775808 ≤ p ∧ p ≤ 9223372036854775807 := by have h := HA.out.pos; unfold I64 at h; have := HSN.out.2.2.2.2.2; omega
 have HSF : Hid (∀ W, Calls Tryz.prog 44 #[.agg #[.int .i64 bv, .int .i64 ba, .int .i64 bdd, .int .i64 blo, .int .i64 bhi], .agg #[.int .i64 p, .int .i64 a.g.v]] W fun e w' => e = .returned (.bool qs) ∧ Below W.heap.size W w') := Lib.hid (fun W => rsafe9_at bv ba bdd blo bhi p a.g.v W hbr hpw qs (by rw [← hqs, ← HSN.out.2.2.2.2.2]))
 have HQS := Lib.hid hqs
 obtain ⟨ql, hql⟩ : ∃ x, lineB a.ns a.ws = x := ⟨_, rfl⟩
 have HQL := Lib.hid hql
 obtain ⟨qf, hqf⟩ : ∃ x, fitsX a = x := ⟨_, rfl⟩
 have HQF := Lib.hid hqf
 obtain ⟨qh, hqh⟩ : ∃ x, homeB a.h.p a.h.f a.h.c = x := ⟨_, rfl⟩
 have HQH := Lib.hid hqh
 obtain ⟨N1, C1, N2, C2, hsl⟩ := LineV.slices HA.out.ln
 simp only [Value.agg.injEq, Array.mk.injEq, List.cons.injEq, and_true] at hsl
 obtain ⟨rfl, rfl⟩ := hsl
 have HLR : Hid (∀ W, Below w1.heap.size w1 W → Calls Tryz.prog 45 #[.agg #[.slice N1 a.ns.length C1, .slice N2 a.ws.length C2]] W fun e w' => e = .returned (.bool ql) ∧ Below W.heap.size W w') := Lib.hid (fun W hb => rright_at a.ns a.ws _ 0 ql W (HA.out.ln.below (HB1.out.trans (hb.mono HB1.out.size))) HN1.out HN2.out HQL.out)
 have HLD : Hid (∀ W, Below w1.heap.size w1 W → ql = true → Calls Tryz.prog 46 #[.agg L.toArray] W fun e w' => e = .returned (.bool qf) ∧ Below W.heap.size W w') := Lib.hid (fun W hb hq => rlined_at a _ _ _ L HL.out qf W (HA.out.below (HB1.out.trans (hb.mono HB1.out.size))) (by rw [HQL.out]; exact hq) (by rw [HSN.out.2.1]; omega) (by have := rightB_yes hmp.1; omega) HQF.out)
 have HHM : Hid (∀ W, Calls Tryz.prog 42 #[.agg #[.int .i64 a.h.p, .int .i64 a.h.f, .int .i64 a.h.c, .bool a.h.t]] W fun e w' => e = .returned (.bool qh) ∧ Below W.heap.size W w') := Lib.hid (fun W => rhright_at _ _ _ _ W qh HQH.out)
 have HC2 : Hid (∀ W, Below w1.heap.size w1 W → W.cell? ⟨B, 14, none⟩ = some (.slice N1 a.ns.length C1) ∧ W.cell? ⟨B, 15, none⟩ = some (.slice N2 a.ws.length C2) ∧ W.cell? ⟨B, 17, none⟩ = some (.int .i64 a.h.p) ∧ W.cell? ⟨B, 18, none⟩ = some (.int .i64 a.h.f) ∧ W.cell? ⟨B, 19, none⟩ = some (.int .i64 a.h.c) ∧ W.cell? ⟨B, 20, none⟩ = some (.bool a.h.t)) := Lib.hid (fun W hb => by
  have hk := HKB.out W hb
  exact ⟨heap_cell 14 _ hk (by rw [HL.out.eq]; rfl), heap_cell 15 _ hk (by rw [HL.out.eq]; rfl), heap_cell 17 _ hk (by rw [HL.out.eq]; rfl), heap_cell 18 _ hk (by rw [HL.out.eq]; rfl), heap_cell 19 _ hk (by rw [HL.out.eq]; rfl), heap_cell 20 _ hk (by rw [HL.out.eq]; rfl)⟩)
 have HC1 : Hid (∀ W, Below w1.heap.size w1 W → W.cell? ⟨B, 0, none⟩ = some (.int .i64 st) ∧ W.cell? ⟨B, 10, none⟩ = some (.int .i64 p) ∧ W.cell? ⟨B, 11, none⟩ = some (.int .i64 a.g.v) ∧ W.cell? ⟨B, 12, none⟩ = some (.slice E n f)) := Lib.hid (fun W hb => by
  obtain ⟨k0, k6, k10, k11, k12, k13, k21⟩ := HCL.out W B (HKB.out W hb)
  exact ⟨k0, k10, k11, k12⟩)
 obtain ⟨b, off, c, ee, t1, t2, hb0, hcell⟩ := HA.out.sm.at (by rw [HSN.out.1]; omega)
 injection ee with e1' e2' e3'
 subst e1' e3'
 have HPW := Lib.hid hpw
 rw [HSN.out.1] at hcell
 have HCE : Hid (∀ W, Below w1.heap.size w1 W → ∀ i, i < n → W.cell? ⟨b, off + i, none⟩ = some (.int .i64 (a.sm[i]?.getD 0))) := Lib.hid (fun W hb i hi => ((HB1.out.trans (hb.mono HB1.out.size)).cell (p := ⟨b, off + i, none⟩) hb0).trans (hcell i hi))
 have HPL : Hid (∀ k, k < n → plB (a.sm[k]?.getD 0) = false → false = r) := Lib.hid (fun k hk hz => by rw [← HXR.out, anyPl_no hk hz]; simp)
 have HNE : Hid (∀ k, k < n → nearF p a.sm k = false → false = r) := Lib.hid (fun k hk hz => by rw [← HXR.out, nearK_no hk hz]; simp)
 have HALL : Hid (qs = true → ql = true → qf = true → (decide (st ≠ 2) || qh) = true → nearK p a.sm n = true → anyK (fun z => !plB z) a.sm n = false → true = r) := Lib.hid (fun g1 g2 g3 g4 g5 g6 => by
  have hrw : rightW a.sm n = true := by unfold rightW; rw [g6, decide_eq_true hnw]; rfl
  rw [← HXR.out, HQ1.out, hrw, HQS.out, HQL.out, HQF.out, HQH.out, g1, g2, g3, g4, g5, decide_eq_true E3.out, decide_eq_true (show 0 ≤ st ∧ st ≤ 7 by omega), decide_eq_true (show 0 ≤ ov ∧ ov ≤ 100 by omega), decide_eq_true (show -288230376151711744 ≤ off0 ∧ off0 ≤ 288230376151711744 by omega)]
  rfl)
 clear hqs hql hqf hqh hbd hbr hmp hcell hb0 hpw t1 t2
 go_upto_region 3 with (fail)
 clear k0 k6 k10 k11 k12 k13 k21
 cases qs
 ·skip
  obtain rfl : false = r := by rw [← HXR.out, HQS.out]; simp
  refine wp_region_held_drew (S := fun w' => Below w1.heap.size w1 w') (by kernel_rfl) ?_ (fun hHeld => ?_)
  ·exact (Below.refl _ _).drew
  (refine takeH (i := 0) (v := .agg L.toArray) rfl (by kernel_rfl) (by kernel_rfl) (by kernel_rfl) (fun _ _ _ h => h) (yieldsIf_load_mid (by kernel_rfl) 35 _ rfl B 0 rfl L _ (fun _ hb => HRG.out _ hb) Tryz.underlying35 rfl HL.out.size) (by assumption) ?_)
  refine tT 2 ?_ rfl ?_ ?_; rotate_left; (focus intros; go_simp; try rfl)
  (refine tT 3 ?_ rfl ?_ ?_; rotate_left; (focus (intro w' hSw; (try dsimp only at hSw); (have g := (HC1.out _ hSw).2.1); (have g2 := (HC1.out _ hSw).2.2.1); go_simp; try (with_reducible rfl))); (try simp only [ly]))
  refine oneH (i := 1) (by kernel_rfl) rfl (fun Kc hK => ?_)
  go_simp
  go_at_call 21; refine (HBO.out _).mono ?_; rintro e w11 ⟨rfl, hb11⟩; (have HB11 := Lib.hid (hHeld.trans (hb11.mono hHeld.size))); clear hb11 hHeld
  go_wp2_with fail
  refine hK.out _ _ (HB11.out) (fun hHeld => ?_)
  clear hK Kc
  (try simp only [ly])
  refine oneH (i := 4) (by kernel_rfl) rfl (fun Kc hK => ?_)
  go_simp
  go_at_call 44; refine (HSF.out _).mono ?_; rintro e w12 ⟨rfl, hb12⟩; (have HB12 := Lib.hid (hHeld.trans (hb12.mono hHeld.size))); clear hb12 hHeld
  go_wp2_with fail
  refine hK.out _ _ (HB12.out) (fun hHeld => ?_)
  clear hK Kc
  (try simp only [ly])
  refine tT 5 ?_ rfl ?_ ?_; rotate_left; (focus intros; go_simp; try rfl)
  refine tT 6 ?_ rfl ?_ ?_; rotate_left; (focus intros; go_simp; try rfl)
  (refine takeU (i := 7) rfl ?_; (try simp only [ly]))
  (refine takeU (i := 8) rfl ?_)
  (refine takeU (i := 9) rfl ?_)
  (refine takeU (i := 10) rfl ?_; (try simp only [ly]))
  refine tT 11 ?_ rfl ?_ ?_; rotate_left; (focus intros; go_simp; try rfl)
  refine tT 12 ?_ rfl ?_ ?_; rotate_left; (focus intros; go_simp; try rfl)
  (refine takeU (i := 13) rfl ?_; (try simp only [ly]))
  (refine takeU (i := 14) rfl ?_)
  (refine takeU (i := 15) rfl ?_)
  refine tT 16 ?_ rfl ?_ ?_; rotate_left; (focus intros; go_simp; try rfl); (try simp only [ly])
  refine tT 17 ?_ rfl ?_ ?_; rotate_left; (focus intros; go_simp; try rfl)
  (refine takeU (i := 18) rfl ?_)
  (refine takeU (i := 19) rfl ?_; (try simp only [ly]))
  (refine takeU (i := 20) rfl ?_)
  (refine takeU (i := 21) rfl ?_)
  (refine takeU (i := 22) rfl ?_; (try simp only [ly]))
  (refine takeU (i := 23) rfl ?_)
  (refine takeU (i := 24) rfl ?_)
  (refine takeU (i := 25) rfl ?_; (try simp only [ly]))
  (refine takeU (i := 26) rfl ?_)
  refine tT 27 ?_ rfl ?_ ?_; rotate_left; (focus intros; go_simp; try rfl); (try simp only [ly])
  refine wpAnyH_done (by kernel_rfl) ?_ _
  (try simp only [ly])
  have HW7 := Lib.hid (HB1.out.trans (hHeld.mono HB1.out.size))
  clear hHeld
  go_wp2
  go_ret
  exact ⟨rfl, HW7.out.trans (Below.mono (by exact belowBy) HW7.out.size)⟩
 cases ql
 ·skip
  obtain rfl : false = r := by rw [← HXR.out, HQL.out]; simp
  refine wp_region_held_drew (S := fun w' => Below w1.heap.size w1 w') (by kernel_rfl) ?_ (fun hHeld => ?_)
  ·exact (Below.refl _ _).drew
  (refine takeH (i := 0) (v := .agg L.toArray) rfl (by kernel_rfl) (by kernel_rfl) (by kernel_rfl) (fun _ _ _ h => h) (yieldsIf_load_mid (by kernel_rfl) 35 _ rfl B 0 rfl L _ (fun _ hb => HRG.out _ hb) Tryz.underlying35 rfl HL.out.size) (by assumption) ?_)
  refine tT 2 ?_ rfl ?_ ?_; rotate_left; (focus intros; go_simp; try rfl)
  (refine tT 3 ?_ rfl ?_ ?_; rotate_left; (focus (intro w' hSw; (try dsimp only at hSw); (have g := (HC1.out _ hSw).2.1); (have g2 := (HC1.out _ hSw).2.2.1); go_simp; try (with_reducible rfl))); (try simp only [ly]))
  refine oneH (i := 1) (by kernel_rfl) rfl (fun Kc hK => ?_)
  go_simp
  go_at_call 21; refine (HBO.out _).mono ?_; rintro e w11 ⟨rfl, hb11⟩; (have HB11 := Lib.hid (hHeld.trans (hb11.mono hHeld.size))); clear hb11 hHeld
  go_wp2_with fail
  refine hK.out _ _ (HB11.out) (fun hHeld => ?_)
  clear hK Kc
  (try simp only [ly])
  refine oneH (i := 4) (by kernel_rfl) rfl (fun Kc hK => ?_)
  go_simp
  go_at_call 44; refine (HSF.out _).mono ?_; rintro e w12 ⟨rfl, hb12⟩; (have HB12 := Lib.hid (hHeld.trans (hb12.mono hHeld.size))); clear hb12 hHeld
  go_wp2_with fail
  refine hK.out _ _ (HB12.out) (fun hHeld => ?_)
  clear hK Kc
  (try simp only [ly])
  refine tT 5 ?_ rfl ?_ ?_; rotate_left; (focus intros; go_simp; try rfl)
  refine tT 6 ?_ rfl ?_ ?_; rotate_left; (focus intros; go_simp; try rfl)
  refine tT 7 ?_ rfl ?_ ?_; rotate_left; (focus intros; go_simp; try rfl); (try simp only [ly])
  (refine tT 8 ?_ rfl ?_ ?_; rotate_left; (focus (intro w' hSw; (try dsimp only at hSw); (have g := (HC2.out _ hSw).1); (have g2 := (HC2.out _ hSw).2.1); go_simp; try (with_reducible rfl))); (try simp only [ly]))
  refine oneH (i := 9) (by kernel_rfl) rfl (fun Kc hK => ?_)
  go_simp
  go_at_call 45; refine (HLR.out _ hHeld).mono ?_; rintro e w13 ⟨rfl, hb13⟩; (have HB13 := Lib.hid (hHeld.trans (hb13.mono hHeld.size))); clear hb13 hHeld
  go_wp2_with fail
  refine hK.out _ _ (HB13.out) (fun hHeld => ?_)
  clear hK Kc
  (try simp only [ly])
  refine tT 10 ?_ rfl ?_ ?_; rotate_left; (focus intros; go_simp; try rfl)
  refine tT 11 ?_ rfl ?_ ?_; rotate_left; (focus intros; go_simp; try rfl)
  refine tT 12 ?_ rfl ?_ ?_; rotate_left; (focus intros; go_simp; try rfl); (try simp only [ly])
  (refine takeU (i := 13) rfl ?_)
  (refine takeU (i := 14) rfl ?_)
  (refine takeU (i := 15) rfl ?_; (try simp only [ly]))
  refine tT 16 ?_ rfl ?_ ?_; rotate_left; (focus intros; go_simp; try rfl)
  refine tT 17 ?_ rfl ?_ ?_; rotate_left; (focus intros; go_simp; try rfl)
  (refine takeU (i := 18) rfl ?_; (try simp only [ly]))
  (refine takeU (i := 19) rfl ?_)
  (refine takeU (i := 20) rfl ?_)
  (refine takeU (i := 21) rfl ?_; (try simp only [ly]))
  (refine takeU (i := 22) rfl ?_)
  (refine takeU (i := 23) rfl ?_)
  (refine takeU (i := 24) rfl ?_; (try simp only [ly]))
  (refine takeU (i := 25) rfl ?_)
  (refine takeU (i := 26) rfl ?_)
  refine tT 27 ?_ rfl ?_ ?_; rotate_left; (focus intros; go_simp; try rfl); (try simp only [ly])
  refine wpAnyH_done (by kernel_rfl) ?_ _
  (try simp only [ly])
  have HW7 := Lib.hid (HB1.out.trans (hHeld.mono HB1.out.size))
  clear hHeld
  go_wp2
  go_ret
  exact ⟨rfl, HW7.out.trans (Below.mono (by exact belowBy) HW7.out.size)⟩
 cases qf
 ·skip
  obtain rfl : false = r := by rw [← HXR.out, HQF.out]; simp
  refine wp_region_held_drew (S := fun w' => Below w1.heap.size w1 w') (by kernel_rfl) ?_ (fun hHeld => ?_)
  ·exact (Below.refl _ _).drew
  (refine takeH (i := 0) (v := .agg L.toArray) rfl (by kernel_rfl) (by kernel_rfl) (by kernel_rfl) (fun _ _ _ h => h) (yieldsIf_load_mid (by kernel_rfl) 35 _ rfl B 0 rfl L _ (fun _ hb => HRG.out _ hb) Tryz.underlying35 rfl HL.out.size) (by assumption) ?_)
  refine tT 2 ?_ rfl ?_ ?_; rotate_left; (focus intros; go_simp; try rfl)
  (refine tT 3 ?_ rfl ?_ ?_; rotate_left; (focus (intro w' hSw; (try dsimp only at hSw); (have g := (HC1.out _ hSw).2.1); (have g2 := (HC1.out _ hSw).2.2.1); go_simp; try (with_reducible rfl))); (try simp only [ly]))
  refine oneH (i := 1) (by kernel_rfl) rfl (fun Kc hK => ?_)
  go_simp
  go_at_call 21; refine (HBO.out _).mono ?_; rintro e w11 ⟨rfl, hb11⟩; (have HB11 := Lib.hid (hHeld.trans (hb11.mono hHeld.size))); clear hb11 hHeld
  go_wp2_with fail
  refine hK.out _ _ (HB11.out) (fun hHeld => ?_)
  clear hK Kc
  (try simp only [ly])
  refine oneH (i := 4) (by kernel_rfl) rfl (fun Kc hK => ?_)
  go_simp
  go_at_call 44; refine (HSF.out _).mono ?_; rintro e w12 ⟨rfl, hb12⟩; (have HB12 := Lib.hid (hHeld.trans (hb12.mono hHeld.size))); clear hb12 hHeld
  go_wp2_with fail
  refine hK.out _ _ (HB12.out) (fun hHeld => ?_)
  clear hK Kc
  (try simp only [ly])
  refine tT 5 ?_ rfl ?_ ?_; rotate_left; (focus intros; go_simp; try rfl)
  refine tT 6 ?_ rfl ?_ ?_; rotate_left; (focus intros; go_simp; try rfl)
  refine tT 7 ?_ rfl ?_ ?_; rotate_left; (focus intros; go_simp; try rfl); (try simp only [ly])
  (refine tT 8 ?_ rfl ?_ ?_; rotate_left; (focus (intro w' hSw; (try dsimp only at hSw); (have g := (HC2.out _ hSw).1); (have g2 := (HC2.out _ hSw).2.1); go_simp; try (with_reducible rfl))); (try simp only [ly]))
  refine oneH (i := 9) (by kernel_rfl) rfl (fun Kc hK => ?_)
  go_simp
  go_at_call 45; refine (HLR.out _ hHeld).mono ?_; rintro e w13 ⟨rfl, hb13⟩; (have HB13 := Lib.hid (hHeld.trans (hb13.mono hHeld.size))); clear hb13 hHeld
  go_wp2_with fail
  refine hK.out _ _ (HB13.out) (fun hHeld => ?_)
  clear hK Kc
  (try simp only [ly])
  refine tT 10 ?_ rfl ?_ ?_; rotate_left; (focus intros; go_simp; try rfl)
  refine tT 11 ?_ rfl ?_ ?_; rotate_left; (focus intros; go_simp; try rfl)
  refine tT 12 ?_ rfl ?_ ?_; rotate_left; (focus intros; go_simp; try rfl); (try simp only [ly])
  (refine takeH (i := 13) (v := .agg L.toArray) rfl (by kernel_rfl) (by kernel_rfl) (by kernel_rfl) (fun _ _ _ h => h) (yieldsIf_load_mid (by kernel_rfl) 35 _ rfl B 0 rfl L _ (fun _ hb => HRG.out _ hb) Tryz.underlying35 rfl HL.out.size) (by assumption) ?_; (try simp only [ly]))
  refine oneH (i := 14) (by kernel_rfl) rfl (fun Kc hK => ?_)
  go_simp
  go_at_call 46; refine (HLD.out _ hHeld (by trivial)).mono ?_; rintro e w14 ⟨rfl, hb14⟩; (have HB14 := Lib.hid (hHeld.trans (hb14.mono hHeld.size))); clear hb14 hHeld
  go_wp2_with fail
  refine hK.out _ _ (HB14.out) (fun hHeld => ?_)
  clear hK Kc
  (try simp only [ly])
  refine tT 15 ?_ rfl ?_ ?_; rotate_left; (focus intros; go_simp; try rfl)
  refine tT 16 ?_ rfl ?_ ?_; rotate_left; (focus intros; go_simp; try rfl)
  refine tT 17 ?_ rfl ?_ ?_; rotate_left; (focus intros; go_simp; try rfl); (try simp only [ly])
  (refine takeU (i := 18) rfl ?_)
  (refine takeU (i := 19) rfl ?_)
  (refine takeU (i := 20) rfl ?_; (try simp only [ly]))
  (refine takeU (i := 21) rfl ?_)
  (refine takeU (i := 22) rfl ?_)
  (refine takeU (i := 23) rfl ?_; (try simp only [ly]))
  (refine takeU (i := 24) rfl ?_)
  (refine takeU (i := 25) rfl ?_)
  (refine takeU (i := 26) rfl ?_; (try simp only [ly]))
  refine tT 27 ?_ rfl ?_ ?_; rotate_left; (focus intros; go_simp; try rfl); (try simp only [ly])
  refine wpAnyH_done (by kernel_rfl) ?_ _
  (try simp only [ly])
  have HW7 := Lib.hid (HB1.out.trans (hHeld.mono HB1.out.size))
  clear hHeld
  go_wp2
  go_ret
  exact ⟨rfl, HW7.out.trans (Below.mono (by exact belowBy) HW7.out.size)⟩
 by_cases hE : st = 2 ∧ qh = false
 case pos =>
  obtain ⟨s2, rfl⟩ := hE
  have t2 : (st == 2) = true := by simp [s2]
  have HS := Lib.hid s2
  clear s2
  obtain rfl : false = r := by rw [← HXR.out, HQH.out, decide_eq_false (show ¬ st ≠ 2 from fun h => h HS.out)]; simp
  refine wp_region_held_drew (S := fun w' => Below w1.heap.size w1 w') (by kernel_rfl) ?_ (fun hHeld => ?_)
  ·exact (Below.refl _ _).drew
  (refine takeH (i := 0) (v := .agg L.toArray) rfl (by kernel_rfl) (by kernel_rfl) (by kernel_rfl) (fun _ _ _ h => h) (yieldsIf_load_mid (by kernel_rfl) 35 _ rfl B 0 rfl L _ (fun _ hb => HRG.out _ hb) Tryz.underlying35 rfl HL.out.size) (by assumption) ?_)
  refine tT 2 ?_ rfl ?_ ?_; rotate_left; (focus intros; go_simp; try rfl)
  (refine tT 3 ?_ rfl ?_ ?_; rotate_left; (focus (intro w' hSw; (try dsimp only at hSw); (have g := (HC1.out _ hSw).2.1); (have g2 := (HC1.out _ hSw).2.2.1); go_simp; try (with_reducible rfl))); (try simp only [ly]))
  refine oneH (i := 1) (by kernel_rfl) rfl (fun Kc hK => ?_)
  go_simp
  go_at_call 21; refine (HBO.out _).mono ?_; rintro e w11 ⟨rfl, hb11⟩; (have HB11 := Lib.hid (hHeld.trans (hb11.mono hHeld.size))); clear hb11 hHeld
  go_wp2_with fail
  refine hK.out _ _ (HB11.out) (fun hHeld => ?_)
  clear hK Kc
  (try simp only [ly])
  refine oneH (i := 4) (by kernel_rfl) rfl (fun Kc hK => ?_)
  go_simp
  go_at_call 44; refine (HSF.out _).mono ?_; rintro e w12 ⟨rfl, hb12⟩; (have HB12 := Lib.hid (hHeld.trans (hb12.mono hHeld.size))); clear hb12 hHeld
  go_wp2_with fail
  refine hK.out _ _ (HB12.out) (fun hHeld => ?_)
  clear hK Kc
  (try simp only [ly])
  refine tT 5 ?_ rfl ?_ ?_; rotate_left; (focus intros; go_simp; try rfl)
  refine tT 6 ?_ rfl ?_ ?_; rotate_left; (focus intros; go_simp; try rfl)
  refine tT 7 ?_ rfl ?_ ?_; rotate_left; (focus intros; go_simp; try rfl); (try simp only [ly])
  (refine tT 8 ?_ rfl ?_ ?_; rotate_left; (focus (intro w' hSw; (try dsimp only at hSw); (have g := (HC2.out _ hSw).1); (have g2 := (HC2.out _ hSw).2.1); go_simp; try (with_reducible rfl))); (try simp only [ly]))
  refine oneH (i := 9) (by kernel_rfl) rfl (fun Kc hK => ?_)
  go_simp
  go_at_call 45; refine (HLR.out _ hHeld).mono ?_; rintro e w13 ⟨rfl, hb13⟩; (have HB13 := Lib.hid (hHeld.trans (hb13.mono hHeld.size))); clear hb13 hHeld
  go_wp2_with fail
  refine hK.out _ _ (HB13.out) (fun hHeld => ?_)
  clear hK Kc
  (try simp only [ly])
  refine tT 10 ?_ rfl ?_ ?_; rotate_left; (focus intros; go_simp; try rfl)
  refine tT 11 ?_ rfl ?_ ?_; rotate_left; (focus intros; go_simp; try rfl)
  refine tT 12 ?_ rfl ?_ ?_; rotate_left; (focus intros; go_simp; try rfl); (try simp only [ly])
  (refine takeH (i := 13) (v := .agg L.toArray) rfl (by kernel_rfl) (by kernel_rfl) (by kernel_rfl) (fun _ _ _ h => h) (yieldsIf_load_mid (by kernel_rfl) 35 _ rfl B 0 rfl L _ (fun _ hb => HRG.out _ hb) Tryz.underlying35 rfl HL.out.size) (by assumption) ?_; (try simp only [ly]))
  refine oneH (i := 14) (by kernel_rfl) rfl (fun Kc hK => ?_)
  go_simp
  go_at_call 46; refine (HLD.out _ hHeld (by trivial)).mono ?_; rintro e w14 ⟨rfl, hb14⟩; (have HB14 := Lib.hid (hHeld.trans (hb14.mono hHeld.size))); clear hb14 hHeld
  go_wp2_with fail
  refine hK.out _ _ (HB14.out) (fun hHeld => ?_)
  clear hK Kc
  (try simp only [ly])
  refine tT 15 ?_ rfl ?_ ?_; rotate_left; (focus intros; go_simp; try rfl)
  refine tT 16 ?_ rfl ?_ ?_; rotate_left; (focus intros; go_simp; try rfl)
  refine tT 17 ?_ rfl ?_ ?_; rotate_left; (focus intros; go_simp; try rfl); (try simp only [ly])
  refine tT 18 ?_ rfl ?_ ?_; rotate_left; (focus intros; go_simp; try rfl)
  (refine tT 19 ?_ rfl ?_ ?_; rotate_left; (focus (intro w' hSw; (try dsimp only at hSw); (have g := (HC1.out _ hSw).1); go_simp; try (with_reducible rfl))))
  refine tT 20 ?_ rfl ?_ ?_; rotate_left; (focus intros; go_simp; try rfl); (try simp only [ly])
  refine tT 21 ?_ rfl ?_ ?_; rotate_left; (focus intros; go_simp; try rfl)
  refine tT 22 ?_ rfl ?_ ?_; rotate_left; (focus intros; go_simp; try rfl)
  (refine tT 23 ?_ rfl ?_ ?_; rotate_left; (focus (intro w' hSw; (try dsimp only at hSw); (obtain ⟨-, -, g1, g2, g3, g4⟩ := HC2.out _ hSw); go_simp; try (with_reducible rfl))); (try simp only [ly]))
  refine oneH (i := 24) (by kernel_rfl) rfl (fun Kc hK => ?_)
  go_simp
  go_at_call 42; refine (HHM.out _).mono ?_; rintro e w15 ⟨rfl, hb15⟩; (have HB15 := Lib.hid (hHeld.trans (hb15.mono hHeld.size))); clear hb15 hHeld
  go_wp2_with fail
  refine hK.out _ _ (HB15.out) (fun hHeld => ?_)
  clear hK Kc
  (try simp only [ly])
  refine tT 25 ?_ rfl ?_ ?_; rotate_left; (focus intros; go_simp; try rfl)
  refine tT 26 ?_ rfl ?_ ?_; rotate_left; (focus intros; go_simp; try rfl)
  refine tT 27 ?_ rfl ?_ ?_; rotate_left; (focus intros; go_simp; try rfl); (try simp only [ly])
  refine wpAnyH_done (by kernel_rfl) ?_ _
  (try simp only [ly])
  have HW7 := Lib.hid (HB1.out.trans (hHeld.mono HB1.out.size))
  clear hHeld
  go_wp2
  go_ret
  exact ⟨rfl, HW7.out.trans (Below.mono (by exact belowBy) HW7.out.size)⟩
 have HSEL : Hid ((decide (st ≠ 2) || qh) = true) := Lib.hid (by cases qh <;> simp_all)
 by_cases s2 : st = 2
 case' pos =>
  obtain rfl : qh = true := by cases qh <;> simp_all
  have t2 : (st == 2) = true := by simp [s2]
  clear s2 hE
  refine wp_region_held_drew (S := fun w' => Below w1.heap.size w1 w') (by kernel_rfl) ?_ (fun hHeld => ?_)
  ·exact (Below.refl _ _).drew
  (refine takeH (i := 0) (v := .agg L.toArray) rfl (by kernel_rfl) (by kernel_rfl) (by kernel_rfl) (fun _ _ _ h => h) (yieldsIf_load_mid (by kernel_rfl) 35 _ rfl B 0 rfl L _ (fun _ hb => HRG.out _ hb) Tryz.underlying35 rfl HL.out.size) (by assumption) ?_)
  refine tT 2 ?_ rfl ?_ ?_; rotate_left; (focus intros; go_simp; try rfl)
  (refine tT 3 ?_ rfl ?_ ?_; rotate_left; (focus (intro w' hSw; (try dsimp only at hSw); (have g := (HC1.out _ hSw).2.1); (have g2 := (HC1.out _ hSw).2.2.1); go_simp; try (with_reducible rfl))); (try simp only [ly]))
  refine oneH (i := 1) (by kernel_rfl) rfl (fun Kc hK => ?_)
  go_simp
  go_at_call 21; refine (HBO.out _).mono ?_; rintro e w11 ⟨rfl, hb11⟩; (have HB11 := Lib.hid (hHeld.trans (hb11.mono hHeld.size))); clear hb11 hHeld
  go_wp2_with fail
  refine hK.out _ _ (HB11.out) (fun hHeld => ?_)
  clear hK Kc
  (try simp only [ly])
  refine oneH (i := 4) (by kernel_rfl) rfl (fun Kc hK => ?_)
  go_simp
  go_at_call 44; refine (HSF.out _).mono ?_; rintro e w12 ⟨rfl, hb12⟩; (have HB12 := Lib.hid (hHeld.trans (hb12.mono hHeld.size))); clear hb12 hHeld
  go_wp2_with fail
  refine hK.out _ _ (HB12.out) (fun hHeld => ?_)
  clear hK Kc
  (try simp only [ly])
  refine tT 5 ?_ rfl ?_ ?_; rotate_left; (focus intros; go_simp; try rfl)
  refine tT 6 ?_ rfl ?_ ?_; rotate_left; (focus intros; go_simp; try rfl)
  refine tT 7 ?_ rfl ?_ ?_; rotate_left; (focus intros; go_simp; try rfl); (try simp only [ly])
  (refine tT 8 ?_ rfl ?_ ?_; rotate_left; (focus (intro w' hSw; (try dsimp only at hSw); (have g := (HC2.out _ hSw).1); (have g2 := (HC2.out _ hSw).2.1); go_simp; try (with_reducible rfl))); (try simp only [ly]))
  refine oneH (i := 9) (by kernel_rfl) rfl (fun Kc hK => ?_)
  go_simp
  go_at_call 45; refine (HLR.out _ hHeld).mono ?_; rintro e w13 ⟨rfl, hb13⟩; (have HB13 := Lib.hid (hHeld.trans (hb13.mono hHeld.size))); clear hb13 hHeld
  go_wp2_with fail
  refine hK.out _ _ (HB13.out) (fun hHeld => ?_)
  clear hK Kc
  (try simp only [ly])
  refine tT 10 ?_ rfl ?_ ?_; rotate_left; (focus intros; go_simp; try rfl)
  refine tT 11 ?_ rfl ?_ ?_; rotate_left; (focus intros; go_simp; try rfl)
  refine tT 12 ?_ rfl ?_ ?_; rotate_left; (focus intros; go_simp; try rfl); (try simp only [ly])
  (refine takeH (i := 13) (v := .agg L.toArray) rfl (by kernel_rfl) (by kernel_rfl) (by kernel_rfl) (fun _ _ _ h => h) (yieldsIf_load_mid (by kernel_rfl) 35 _ rfl B 0 rfl L _ (fun _ hb => HRG.out _ hb) Tryz.underlying35 rfl HL.out.size) (by assumption) ?_; (try simp only [ly]))
  refine oneH (i := 14) (by kernel_rfl) rfl (fun Kc hK => ?_)
  go_simp
  go_at_call 46; refine (HLD.out _ hHeld (by trivial)).mono ?_; rintro e w14 ⟨rfl, hb14⟩; (have HB14 := Lib.hid (hHeld.trans (hb14.mono hHeld.size))); clear hb14 hHeld
  go_wp2_with fail
  refine hK.out _ _ (HB14.out) (fun hHeld => ?_)
  clear hK Kc
  (try simp only [ly])
  refine tT 15 ?_ rfl ?_ ?_; rotate_left; (focus intros; go_simp; try rfl)
  refine tT 16 ?_ rfl ?_ ?_; rotate_left; (focus intros; go_simp; try rfl)
  refine tT 17 ?_ rfl ?_ ?_; rotate_left; (focus intros; go_simp; try rfl); (try simp only [ly])
  refine tT 18 ?_ rfl ?_ ?_; rotate_left; (focus intros; go_simp; try rfl)
  (refine tT 19 ?_ rfl ?_ ?_; rotate_left; (focus (intro w' hSw; (try dsimp only at hSw); (have g := (HC1.out _ hSw).1); go_simp; try (with_reducible rfl))))
  refine tT 20 ?_ rfl ?_ ?_; rotate_left; (focus intros; go_simp; try rfl); (try simp only [ly])
  refine tT 21 ?_ rfl ?_ ?_; rotate_left; (focus intros; go_simp; try rfl)
  refine tT 22 ?_ rfl ?_ ?_; rotate_left; (focus intros; go_simp; try rfl)
  (refine tT 23 ?_ rfl ?_ ?_; rotate_left; (focus (intro w' hSw; (try dsimp only at hSw); (obtain ⟨-, -, g1, g2, g3, g4⟩ := HC2.out _ hSw); go_simp; try (with_reducible rfl))); (try simp only [ly]))
  refine oneH (i := 24) (by kernel_rfl) rfl (fun Kc hK => ?_)
  go_simp
  go_at_call 42; refine (HHM.out _).mono ?_; rintro e w15 ⟨rfl, hb15⟩; (have HB15 := Lib.hid (hHeld.trans (hb15.mono hHeld.size))); clear hb15 hHeld
  go_wp2_with fail
  refine hK.out _ _ (HB15.out) (fun hHeld => ?_)
  clear hK Kc
  (try simp only [ly])
  refine tT 25 ?_ rfl ?_ ?_; rotate_left; (focus intros; go_simp; try rfl)
  refine tT 26 ?_ rfl ?_ ?_; rotate_left; (focus intros; go_simp; try rfl)
  refine tT 27 ?_ rfl ?_ ?_; rotate_left; (focus intros; go_simp; try rfl); (try simp only [ly])
  refine wpAnyH_done (by kernel_rfl) ?_ _
  (try simp only [ly])
 case' neg =>
  have t2 : (st == 2) = false := by simp [s2]
  clear s2 hE
  refine wp_region_held_drew (S := fun w' => Below w1.heap.size w1 w') (by kernel_rfl) ?_ (fun hHeld => ?_)
  ·exact (Below.refl _ _).drew
  (refine takeH (i := 0) (v := .agg L.toArray) rfl (by kernel_rfl) (by kernel_rfl) (by kernel_rfl) (fun _ _ _ h => h) (yieldsIf_load_mid (by kernel_rfl) 35 _ rfl B 0 rfl L _ (fun _ hb => HRG.out _ hb) Tryz.underlying35 rfl HL.out.size) (by assumption) ?_)
  refine tT 2 ?_ rfl ?_ ?_; rotate_left; (focus intros; go_simp; try rfl)
  (refine tT 3 ?_ rfl ?_ ?_; rotate_left; (focus (intro w' hSw; (try dsimp only at hSw); (have g := (HC1.out _ hSw).2.1); (have g2 := (HC1.out _ hSw).2.2.1); go_simp; try (with_reducible rfl))); (try simp only [ly]))
  refine oneH (i := 1) (by kernel_rfl) rfl (fun Kc hK => ?_)
  go_simp
  go_at_call 21; refine (HBO.out _).mono ?_; rintro e w11 ⟨rfl, hb11⟩; (have HB11 := Lib.hid (hHeld.trans (hb11.mono hHeld.size))); clear hb11 hHeld
  go_wp2_with fail
  refine hK.out _ _ (HB11.out) (fun hHeld => ?_)
  clear hK Kc
  (try simp only [ly])
  refine oneH (i := 4) (by kernel_rfl) rfl (fun Kc hK => ?_)
  go_simp
  go_at_call 44; refine (HSF.out _).mono ?_; rintro e w12 ⟨rfl, hb12⟩; (have HB12 := Lib.hid (hHeld.trans (hb12.mono hHeld.size))); clear hb12 hHeld
  go_wp2_with fail
  refine hK.out _ _ (HB12.out) (fun hHeld => ?_)
  clear hK Kc
  (try simp only [ly])
  refine tT 5 ?_ rfl ?_ ?_; rotate_left; (focus intros; go_simp; try rfl)
  refine tT 6 ?_ rfl ?_ ?_; rotate_left; (focus intros; go_simp; try rfl)
  refine tT 7 ?_ rfl ?_ ?_; rotate_left; (focus intros; go_simp; try rfl); (try simp only [ly])
  (refine tT 8 ?_ rfl ?_ ?_; rotate_left; (focus (intro w' hSw; (try dsimp only at hSw); (have g := (HC2.out _ hSw).1); (have g2 := (HC2.out _ hSw).2.1); go_simp; try (with_reducible rfl))); (try simp only [ly]))
  refine oneH (i := 9) (by kernel_rfl) rfl (fun Kc hK => ?_)
  go_simp
  go_at_call 45; refine (HLR.out _ hHeld).mono ?_; rintro e w13 ⟨rfl, hb13⟩; (have HB13 := Lib.hid (hHeld.trans (hb13.mono hHeld.size))); clear hb13 hHeld
  go_wp2_with fail
  refine hK.out _ _ (HB13.out) (fun hHeld => ?_)
  clear hK Kc
  (try simp only [ly])
  refine tT 10 ?_ rfl ?_ ?_; rotate_left; (focus intros; go_simp; try rfl)
  refine tT 11 ?_ rfl ?_ ?_; rotate_left; (focus intros; go_simp; try rfl)
  refine tT 12 ?_ rfl ?_ ?_; rotate_left; (focus intros; go_simp; try rfl); (try simp only [ly])
  (refine takeH (i := 13) (v := .agg L.toArray) rfl (by kernel_rfl) (by kernel_rfl) (by kernel_rfl) (fun _ _ _ h => h) (yieldsIf_load_mid (by kernel_rfl) 35 _ rfl B 0 rfl L _ (fun _ hb => HRG.out _ hb) Tryz.underlying35 rfl HL.out.size) (by assumption) ?_; (try simp only [ly]))
  refine oneH (i := 14) (by kernel_rfl) rfl (fun Kc hK => ?_)
  go_simp
  go_at_call 46; refine (HLD.out _ hHeld (by trivial)).mono ?_; rintro e w15 ⟨rfl, hb15⟩; (have HB15 := Lib.hid (hHeld.trans (hb15.mono hHeld.size))); clear hb15 hHeld
  go_wp2_with fail
  refine hK.out _ _ (HB15.out) (fun hHeld => ?_)
  clear hK Kc
  (try simp only [ly])
  refine tT 15 ?_ rfl ?_ ?_; rotate_left; (focus intros; go_simp; try rfl)
  refine tT 16 ?_ rfl ?_ ?_; rotate_left; (focus intros; go_simp; try rfl)
  refine tT 17 ?_ rfl ?_ ?_; rotate_left; (focus intros; go_simp; try rfl); (try simp only [ly])
  refine tT 18 ?_ rfl ?_ ?_; rotate_left; (focus intros; go_simp; try rfl)
  (refine tT 19 ?_ rfl ?_ ?_; rotate_left; (focus (intro w' hSw; (try dsimp only at hSw); (have g := (HC1.out _ hSw).1); go_simp; try (with_reducible rfl))))
  refine tT 20 ?_ rfl ?_ ?_; rotate_left; (focus intros; go_simp; try rfl); (try simp only [ly])
  refine tT 21 ?_ rfl ?_ ?_; rotate_left; (focus intros; go_simp; try rfl)
  (refine takeU (i := 22) rfl ?_)
  (refine takeU (i := 23) rfl ?_; (try simp only [ly]))
  (refine takeU (i := 24) rfl ?_)
  (refine takeU (i := 25) rfl ?_)
  refine tT 26 ?_ rfl ?_ ?_; rotate_left; (focus intros; go_simp; try rfl); (try simp only [ly])
  refine tT 27 ?_ rfl ?_ ?_; rotate_left; (focus intros; go_simp; try rfl); (try simp only [ly])
  refine wpAnyH_done (by kernel_rfl) ?_ _
  (try simp only [ly])
 all_goals
  have HW7 := Lib.hid (HB1.out.trans (hHeld.mono HB1.out.size))
  have HH7 := Lib.hid hHeld
  clear hHeld
  go_wp2_with fail
  go_loopw [3] (fun u wr => ∃ k : Nat, k ≤ n ∧ u = .int .i64 k ∧ Hid (nearK p a.sm k = true) ∧ Hid (anyK (fun z => !plB z) a.sm k = false) ∧ Hid (Below w15.heap.size w15 wr)) (fun u _ => n - (intOf u).toNat)
  case atStart => exact ⟨0, by omega, rfl, Lib.hid rfl, Lib.hid rfl, Lib.hid (Below.refl _ _)⟩
  case round =>
   obtain ⟨k, hk, rfl, HK2, HK3, hbr⟩ := hrel
   have HEW : Hid (Below w1.heap.size w1 wr) := Lib.hid (HH7.out.trans (hbr.out.mono HH7.out.size))
   have HFW : Hid (Below w.heap.size w wr) := Lib.hid (HB1.out.trans (HEW.out.mono HB1.out.size))
   obtain ⟨-, k10, -, k12⟩ := HC1.out wr HEW.out
   by_cases hlt2 : k < n
   case neg =>
    obtain rfl : k = n := by omega
    obtain rfl := HALL.out (by trivial) (by trivial) (by trivial) (by first | trivial | exact HSEL.out) HK2.out HK3.out
    go_wp2
    go_ret
    exact ⟨rfl, HFW.out⟩
   have g0 := HCE.out wr HEW.out k hlt2
   have hpl := HPL.out k hlt2
   have hne := HNE.out k hlt2
   have hs3 : anyK (fun z => !plB z) a.sm (k + 1) = (anyK (fun z => !plB z) a.sm k || !plB (a.sm[k]?.getD 0)) := rfl
   have hs2 : nearK p a.sm (k + 1) = (nearK p a.sm k && nearF p a.sm k) := rfl
   rw [HK2.out, Bool.true_and] at hs2
   rw [HK3.out, Bool.false_or] at hs3
   have hprev : 0 < k → ∃ y, a.sm[k - 1]?.getD 0 = y ∧ wr.cell? ⟨b, off + (k - 1), none⟩ = some (.int .i64 y) ∧ -2199023255552 ≤ y ∧ y ≤ 2199023255552 := fun h0 => by
    have hy := anyK_no _ _ _ HK3.out (k - 1) (by omega)
    simp only [Bool.not_eq_false'] at hy
    have := plB_yes hy
    exact ⟨_, rfl, HCE.out wr HEW.out (k - 1) (by omega), this.1, this.2⟩
   have hF : nearF p a.sm k = if k = 0 then decide (a.sm[0]?.getD 0 = p) else decide (-1048576 ≤ a.sm[k]?.getD 0 - a.sm[k - 1]?.getD 0 ∧ a.sm[k]?.getD 0 - a.sm[k - 1]?.getD 0 ≤ 1048576) := rfl
   obtain ⟨z, hz⟩ : ∃ z, a.sm[k]?.getD 0 = z := ⟨_, rfl⟩
   rw [hz] at g0 hpl hs3 hF
   rw [hF] at hne hs2
   clear hF
   have hk0 : (0 : Int) ≤ (k : Int) := by omega
   have hkn : (k : Int) < (n : Int) := by omega
   have HPL2 := Lib.hid hpl
   have HNE2 := Lib.hid hne
   have HS2 := Lib.hid hs2
   have HS3 := Lib.hid hs3
   have HPR := Lib.hid hprev
   have HZ := Lib.hid hz
   clear hpl hne hs2 hs3 hprev hz HPL HNE HALL HCE HXR HK2 HK3
   by_cases n1 : z < -2199023255552
   case pos =>
    obtain rfl := HPL2.out (decide_eq_false (by omega))
    go_wp2
    go_ret
    exact ⟨rfl, HFW.out⟩
   by_cases n2 : 2199023255552 < z
   case pos =>
    obtain rfl := HPL2.out (decide_eq_false (by omega))
    go_wp2
    go_ret
    exact ⟨rfl, HFW.out⟩
   have HP3 : Hid (anyK (fun z => !plB z) a.sm (k + 1) = false) := Lib.hid (by rw [HS3.out, show plB z = true from decide_eq_true (by omega)]; rfl)
   by_cases k0 : k = 0
   case pos =>
    subst k0
    rw [Nat.add_zero] at g0
    have hz0 : a.sm[0]?.getD 0 = z := HZ.out
    by_cases n3 : z = p
    case neg =>
     have t3 : (z != p) = true := by simp [n3]
     obtain rfl := HNE2.out (by rw [if_pos rfl, hz0]; exact decide_eq_false n3)
     clear n3 hz0
     go_wp2
     go_ret
     exact ⟨rfl, HFW.out⟩
    have HP2 : Hid (nearK p a.sm (0 + 1) = true) := Lib.hid (by rw [HS2.out, if_pos rfl, hz0]; exact decide_eq_true n3)
    have t3 : (z != p) = false := by simp [n3]
    clear n3 hz0
    go_wp2
    go_roundw
    case rel => exact ⟨0 + 1, by omega, by go_num, HP2, HP3, Lib.hid (hbr.out.trans (Below.mono (by exact belowBy) hbr.out.size))⟩
    case measure => simp [intOf]; omega
   obtain ⟨y, hy, gy, hy1, hy2⟩ := HPR.out (by omega)
   have hki : ((k : Int) == 0) = false := by simp [k0]
   have hkp : (0 : Int) < (k : Int) := by omega
   have hkq : 0 < k := by omega
   have hw0 : IntKind.i64.wrap ((k : Int) - 1) = (k : Int) - 1 := IntWalk.i64_in _ (by omega)
   have hw1 : IntKind.i64.wrap (z - y) = z - y := IntWalk.i64_in _ (by omega)
   have hw2 : IntKind.i64.wrap (y - z) = y - z := IntWalk.i64_in _ (by omega)
   have hk1 : (0 : Int) ≤ (k : Int) - 1 := by omega
   have hk2 : (k : Int) - 1 < (n : Int) := by omega
   have hk3 : ((k : Int) - 1).toNat = k - 1 := by omega
   by_cases n4 : 1048576 < z - y
   case pos =>
    obtain rfl := HNE2.out (by rw [if_neg k0, hy]; exact decide_eq_false (by omega))
    clear hy k0
    go_wp2
    go_ret
    exact ⟨rfl, HFW.out⟩
   by_cases n5 : 1048576 < y - z
   case pos =>
    obtain rfl := HNE2.out (by rw [if_neg k0, hy]; exact decide_eq_false (by omega))
    clear hy k0
    go_wp2
    go_ret
    exact ⟨rfl, HFW.out⟩
   have HP2 : Hid (nearK p a.sm (k + 1) = true) := Lib.hid (by rw [HS2.out, if_neg k0, hy]; exact decide_eq_true (by omega))
   clear hy k0
   go_wp2
   go_roundw
   case rel => exact ⟨k + 1, by omega, by go_num, HP2, HP3, Lib.hid (hbr.out.trans (Below.mono (by exact belowBy) hbr.out.size))⟩
   case measure => simp [intOf]; omega

end Go.Proofs.YthhfnageadckkaaGreat
