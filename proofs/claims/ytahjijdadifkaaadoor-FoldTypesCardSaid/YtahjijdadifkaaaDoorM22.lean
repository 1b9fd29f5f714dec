/- Merged: Layer 20: a statement. PRINTED by wip/tool/mkkdl.py Layer 20: a row of statements. -/
import Derived.Test.YtahjijdadifkaaaDoorM20
import Derived.Test.YtahjijdadifkaaaDoorKdL3
set_option linter.unusedVariables false
set_option linter.unusedSimpArgs false
set_option maxHeartbeats 8000000
namespace Go.Proofs.YtahjijdadifkaaaDoor
open Go.RowKit
attribute [local go_sem] ite_max ite_min vite_max vite_min ext_cell ext_frozen extS_cell extS_frozen

structure ShS1 (s : Stm) : Prop where
 lo : 1 ≤ s.op
 hi : s.op ≤ 9
 dst : s.op = 1 → ShE s.dst
 src : s.op = 1 ∨ s.op = 3 ∨ s.op = 5 ∨ s.op = 6 → ShE s.src
 conds : ∀ x ∈ s.conds, ShE x
 bne : s.op = 4 ∨ s.op = 5 ∨ s.op = 6 → s.blocks ≠ []
 call : s.op = 9 → s.fields.length ≤ s.conds.length
inductive ShS : Stm → Prop where
 | mk (s : Stm) (h : ShS1 s) (hb : ∀ bl ∈ s.blocks, ∀ t ∈ bl, ShS t) : ShS s
theorem ShS.parts {s : Stm} (h : ShS s) : ShS1 s ∧ ∀ bl ∈ s.blocks, ∀ t ∈ bl, ShS t := by
 cases h with
 | mk _ h1 h2 => exact ⟨h1, h2⟩
theorem stmt_rng {W : World} {B : Nat} {L D E : List Value} (h : StmV W B L D E) : W.rangeAt B 0 L := fun j u hu => by
 rw [Nat.zero_add]
 exact h.cell j u hu

set_option maxRecDepth 100000 in
theorem kstmt_of (vs : List VarS) (SS : Int → List Stm → Bool) (s : Stm) (m : SM) (w0 : World) (C : Nat) (A : Option Addr) (cap : Nat) (w : World) (ls : Int) (hS : ∀ bl ∈ s.blocks, StmtsOK w0 C A cap vs SS bl) (hw0 : Below w0.heap.size w0 w) (hC : w0.heap.size ≤ C)
  (hck : Ck w C A cap vs ls) (ht : Blanks w0) (hst : StmAt w0 s (StmC s m)) (hsh : ShS1 s) :
  Calls Tryd.prog 39 #[ckP C, .agg (StmC s m).toArray] w fun e w' => OkRes w C A cap vs ls (topS SS vs ls s) e w' := by
 obtain ⟨hd, hv, hcs, hfs, hbs⟩ : ExAt w0 s.dst (ExC s.dst m.ta m.tk) ∧ ExAt w0 s.src (ExC s.src m.va m.vk) ∧ RowE w0 m.ca s.conds m.ck ∧ RowS w0 m.fa s.fields m.fk ∧ RowB w0 m.ba s.blocks m.bk := by
  obtain ⟨m', he, h1, h2, h3, h4, h5, h6, _⟩ := hst.form19
  simp only [StmC, List.cons.injEq, Value.slice.injEq, and_true, true_and] at he
  obtain ⟨⟨e1, e2⟩, ⟨e3, e4⟩, ⟨e5, e6⟩, ⟨e7, e8⟩, ⟨e9, e10⟩, e11, e12⟩ := he
  rw [e1, e2, e3, e4, e5, e6, e9, e10, e11, e12]
  exact ⟨h1, h2, h3, h5, h6⟩
 have HDX := Lib.hid hd
 have HVX := Lib.hid hv
 have HCS := Lib.hid hcs
 have HFS := Lib.hid hfs
 have HBS := Lib.hid hbs
 have HBS0 := Lib.hid hbs
 have HSH := Lib.hid hsh
 have HCK := Lib.hid hck
 have HBT := Lib.hid ht
 have HS := Lib.hid hS
 have HW0 := Lib.hid hw0
 have HC0 := Lib.hid hC
 have HST : Hid (∀ {W : World} {B : Nat}, W.heap[B]? = some (.cells (StmC s m).toArray 63) → StmV W B (StmC s m) (ExC s.dst m.ta m.tk) (ExC s.src m.va m.vk)) := Lib.hid (fun h => stmV_of h)
 obtain ⟨r, hr⟩ : ∃ r, topS SS vs ls s = r := ⟨_, rfl⟩
 have HR := Lib.hid hr
 obtain ⟨L, hL⟩ : ∃ L, StmC s m = L := ⟨_, rfl⟩
 have HLS : Hid ((Tryd.prog.info? 63).map (·.size) = some L.length) := Lib.hid (by rw [← hL]; exact stmt_size)
 obtain ⟨op, hop⟩ : ∃ o, s.op = o := ⟨_, rfl⟩
 obtain ⟨ln, hln⟩ : ∃ o, s.line = o := ⟨_, rfl⟩
 obtain ⟨nb, hnb⟩ : ∃ o, s.blocks.length = o := ⟨_, rfl⟩
 obtain ⟨D, hD⟩ : ∃ D, ExC s.dst m.ta m.tk = D := ⟨_, rfl⟩
 obtain ⟨E, hE⟩ : ∃ D, ExC s.src m.va m.vk = D := ⟨_, rfl⟩
 have HES : Hid ((Tryd.prog.info? 28).map (·.size) = some E.length) := Lib.hid (by rw [← hE]; exact expr_size)
 obtain ⟨bA, hbA⟩ : ∃ o, m.ba = o := ⟨_, rfl⟩
 obtain ⟨bk, hbk⟩ : ∃ o, m.bk = o := ⟨_, rfl⟩
 have HLX : Hid (L[0]? = some (.int .i64 op) ∧ L[17]? = some (.slice bA nb bk) ∧ L[18]? = some (.int .i64 ln)) := Lib.hid (by rw [← hL, ← hop, ← hln, ← hnb, ← hbA, ← hbk]; exact ⟨rfl, rfl, rfl⟩)
 have HOP := Lib.hid hop
 have HNB := Lib.hid hnb
 have HLQ := Lib.hid hL
 have HEQ := Lib.hid hE
 have hlo := hsh.lo
 have hhi := hsh.hi
 rw [hop] at hlo hhi
 rw [hE, hD, hL] at HST
 rw [hbA, hbk] at HBS
 have hc3 := HBS.out.1
 have hc4 := HBS.out.2.1
 rw [hnb] at hc3
 rw [hr, hL]
 clear hd hv hcs hfs hbs hst hC hS hw0 hck ht hsh hr hL hop hln hnb hD hE hbA hbk
 go_enter Tryd.func39, Tryd.ntmps39
 go_upto_region 1 with (refine wpList_boxTo rfl 63 _ rfl _ rfl _ rfl L.toArray rfl ?_)
 refine wp_name fun W hW => ?_
 obtain ⟨B, hB⟩ : ∃ B, B = w.heap.size := ⟨_, rfl⟩
 have hh : W.heap[B]? = some (.cells L.toArray 63) := by rw [hW.out, hB]; exact heap_alloc_new _ _
 have hbel : Below w.heap.size w W := by rw [hW.out]; exact belowBy
 have HB := Lib.hid hbel
 have HSV := Lib.hid (HST.out hh)
 rw [← hB]
 have HCKW := Lib.hid (HCK.out.below hbel)
 have HWW := Lib.hid (HW0.out.trans (hbel.mono HW0.out.size))
 have HBTW := Lib.hid (HBT.out.on HWW.out)
 have HNE : Hid (B ≠ C) := Lib.hid (by have := HCK.out.v.lt; omega)
 have HSG := Lib.hid (stmt_rng HSV.out)
 have HEG := Lib.hid HSV.out.e
 have HNUM : Hid (s.op = 1 ∨ s.op = 3 ∨ s.op = 5 ∨ s.op = 6 → Calls Tryd.prog 57 #[ckP C, .agg E.toArray] W fun e w' => Oks (decide (tyE vs s.src = some 1)) e ∧ Below W.heap.size W w') := Lib.hid (fun h => by
  rw [← HEQ.out]
  exact knumber_of s.src m.va m.vk C _ W (kexpr_any (HSH.out.src h) (HVX.out.keep HWW.out) HCKW.out.v HBTW.out))
 have HTRU : Hid (∀ W, Below w0.heap.size w0 W → CkV W C A cap vs → s.op = 1 ∨ s.op = 3 ∨ s.op = 5 ∨ s.op = 6 → Calls Tryd.prog 59 #[ckP C, .agg E.toArray] W fun e w' => Oks (decide (tyE vs s.src = some 2)) e ∧ Below W.heap.size W w') := Lib.hid (fun W hW hk h => by
  rw [← HEQ.out]
  exact ktruth_of s.src m.va m.vk C _ W (kexpr_any (HSH.out.src h) (HVX.out.keep hW) hk (HBT.out.on hW)))
 have HLOOP : Hid (∀ bl, bl ∈ s.blocks → ∀ W A' k', Below w0.heap.size w0 W → Ck W C A cap vs ls → RowT w0 A' bl k' → Calls Tryd.prog 60 #[ckP C, .slice A' bl.length k'] W fun e w' => OkRes W C A cap vs ls (SS (wr1 ls) bl) e w') := Lib.hid (fun bl hb W A' k' h1 h2 h3 => kloop_of vs SS bl w0 C A A' cap k' W ls (HS.out bl hb) h1 HC0.out h2 h3)
 have x0 : W.cell? ⟨B, 0, none⟩ = some (.int .i64 op) := HSV.out.cell 0 _ HLX.out.1
 clear hW hh hbel hB HST
 unfold topS at HR
 rw [HOP.out] at HR
 rcases (show op = 1 ∨ op = 2 ∨ op = 3 ∨ op = 4 ∨ op = 5 ∨ op = 6 ∨ op = 7 ∨ op = 8 ∨ op = 9 by omega) with rfl | rfl | rfl | rfl | rfl | rfl | rfl | rfl | rfl
 ·skip
  have HC : Hid (Calls Tryd.prog 55 #[ckP C, .agg L.toArray] W fun e w' => OkRes W C A cap vs ls r e w') := Lib.hid (by
   rw [← HLQ.out, ← HR.out]
   exact (kassign_of vs s m C A cap W (HDX.out.keep HWW.out) (HVX.out.keep HWW.out) (HSH.out.dst HOP.out) (HSH.out.src (.inl HOP.out)) HCKW.out.v HBTW.out).mono fun e w' ⟨h1, h2⟩ => OkRes.of_below HCKW.out h1 h2)
  clear HR HNUM HTRU HLOOP
  go_wp2_with (refine wpList_load_mid rfl 63 _ rfl B 0 rfl L _ HSG.out Tryd.underlying63 rfl HLS.out ?_)
  refine (HC.out).mono ?_
  rintro e w1 ⟨he, hb1, hk1⟩
  have HBU := Lib.hid ((But.of_below HB.out).trans hb1)
  cases r
  ·obtain ⟨n9, l9, rfl, h9⟩ := he
   exact post_panic rfl ⟨⟨n9, l9, rfl, h9⟩, HBU.out, fun h => by cases h⟩
  ·obtain rfl := he
   have HK1 := Lib.hid (hk1 rfl)
   clear hb1 hk1
   go_wp2
   refine bodyPost_end (v := .tuple #[]) ?_ rfl ⟨rfl, HBU.out, fun _ => HK1.out⟩
   simp [results, Tryd.results39]
 ·skip
  have HC : Hid (Calls Tryd.prog 56 #[ckP C, .agg L.toArray] W fun e w' => OkRes W C A cap vs ls r e w') := Lib.hid (by
   rw [← HLQ.out, ← HR.out]
   exact kbranches_of vs SS s m w0 C A cap W ls HS.out HWW.out HC0.out HCKW.out HBT.out HCS.out HBS0.out HSH.out.conds)
  clear HR HNUM HTRU HLOOP
  go_wp2_with (refine wpList_load_mid rfl 63 _ rfl B 0 rfl L _ HSG.out Tryd.underlying63 rfl HLS.out ?_)
  refine (HC.out).mono ?_
  rintro e w1 ⟨he, hb1, hk1⟩
  have HBU := Lib.hid ((But.of_below HB.out).trans hb1)
  cases r
  ·obtain ⟨n9, l9, rfl, h9⟩ := he
   exact post_panic rfl ⟨⟨n9, l9, rfl, h9⟩, HBU.out, fun h => by cases h⟩
  ·obtain rfl := he
   have HK1 := Lib.hid (hk1 rfl)
   clear hb1 hk1
   go_wp2
   refine bodyPost_end (v := .tuple #[]) ?_ rfl ⟨rfl, HBU.out, fun _ => HK1.out⟩
   simp [results, Tryd.results39]
 ·skip
  have hn := HNUM.out (.inr (.inl HOP.out))
  have HNN := Lib.hid hn
  clear hn HNUM HTRU HLOOP
  have HC : Hid (∀ W', Below W.heap.size W W' → Calls Tryd.prog 56 #[ckP C, .agg L.toArray] W' fun e w' => OkRes W' C A cap vs ls (bsX SS vs ls s.conds s.blocks) e w') := Lib.hid (fun W' hb => by
   rw [← HLQ.out]
   exact kbranches_of vs SS s m w0 C A cap W' ls HS.out (HWW.out.trans (hb.mono HWW.out.size)) HC0.out (HCKW.out.below hb) HBT.out HCS.out HBS0.out HSH.out.conds)
  have HR2 : Hid ((decide (tyE vs s.src = some 1) && bsX SS vs ls s.conds s.blocks) = r) := Lib.hid (by rw [← HR.out]; rfl)
  clear HR
  go_wp2_with (refine wpList_load_mid rfl 28 _ rfl B 8 rfl E _ HEG.out Tryd.underlying28 rfl HES.out ?_)
  refine (HNN.out).mono ?_
  rintro e w1 ⟨he, hb1⟩
  cases hty : decide (tyE vs s.src = some 1)
  ·rw [hty] at he
   obtain ⟨n9, l9, rfl, h9⟩ := he
   obtain rfl : false = r := by rw [← HR2.out, hty]; rfl
   exact post_panic rfl ⟨⟨n9, l9, rfl, h9⟩, But.of_below (HB.out.trans (hb1.mono HB.out.size)), fun h => by cases h⟩
  ·rw [hty] at he
   obtain rfl := he
   have HC1 := Lib.hid (HC.out w1 hb1)
   obtain ⟨q, hq⟩ : ∃ q, bsX SS vs ls s.conds s.blocks = q := ⟨_, rfl⟩
   rw [hq] at HC1
   obtain rfl : q = r := by rw [← HR2.out, hty, hq, Bool.true_and]
   have HB1 := Lib.hid (HB.out.trans (hb1.mono HB.out.size))
   have HG1 := Lib.hid (stmt_rng (HSV.out.below hb1))
   clear hty hq HR2 HC hb1 x0
   go_wp2_with (refine wpList_load_mid rfl 63 _ rfl B 0 rfl L _ HG1.out Tryd.underlying63 rfl HLS.out ?_)
   refine HC1.out.mono ?_
   rintro e w2 ⟨he, hb2, hk2⟩
   have HBU := Lib.hid ((But.of_below HB1.out).trans hb2)
   cases q
   ·obtain ⟨n9, l9, rfl, h9⟩ := he
    exact post_panic rfl ⟨⟨n9, l9, rfl, h9⟩, HBU.out, fun h => by cases h⟩
   ·obtain rfl := he
    have HK2 := Lib.hid (hk2 rfl)
    clear hb2 hk2
    go_wp2
    refine bodyPost_end (v := .tuple #[]) ?_ rfl ⟨rfl, HBU.out, fun _ => HK2.out⟩
    simp [results, Tryd.results39]
 ·skip
  have HC : Hid (Calls Tryd.prog 58 #[ckP C, .agg L.toArray] W fun e w' => OkRes W C A cap vs ls r e w') := Lib.hid (by
   rw [← HLQ.out, ← HR.out]
   exact kcounted_of vs SS s m w0 C A cap W ls HS.out HWW.out HC0.out HCKW.out HBTW.out HCS.out HBS0.out HSH.out.conds (HSH.out.bne (.inl HOP.out)))
  clear HR HNUM HTRU HLOOP
  go_wp2_with (refine wpList_load_mid rfl 63 _ rfl B 0 rfl L _ HSG.out Tryd.underlying63 rfl HLS.out ?_)
  refine (HC.out).mono ?_
  rintro e w1 ⟨he, hb1, hk1⟩
  have HBU := Lib.hid ((But.of_below HB.out).trans hb1)
  cases r
  ·obtain ⟨n9, l9, rfl, h9⟩ := he
   exact post_panic rfl ⟨⟨n9, l9, rfl, h9⟩, HBU.out, fun h => by cases h⟩
  ·obtain rfl := he
   have HK1 := Lib.hid (hk1 rfl)
   clear hb1 hk1
   go_wp2
   refine bodyPost_end (v := .tuple #[]) ?_ rfl ⟨rfl, HBU.out, fun _ => HK1.out⟩
   simp [results, Tryd.results39]
 ·skip
  obtain ⟨b5, o5, bl, cs5, rfl, hb5, hz5, ⟨A6, k6, rfl, hr6⟩, hc5⟩ := RowOf.at HBS.out (i := 0) (List.length_pos_iff.2 (HSH.out.bne (.inr (.inl HOP.out))))
  have hnb0 : (0 : Int) < (nb : Int) := by
   have := List.length_pos_iff.2 (HSH.out.bne (.inr (.inl HOP.out)))
   rw [HNB.out] at this
   omega
  have HE0 : Hid (∀ W, Below w0.heap.size w0 W → W.cell? ⟨b5, o5, none⟩ = some (.slice A6 bl.length k6)) := Lib.hid (fun W hW => by
   have := hc5 0 (by omega)
   rw [Nat.zero_mul, Nat.add_zero] at this
   exact (hW.cell (p := ⟨b5, o5, none⟩) hb5).trans this)
  have HLP : Hid (∀ W, Below w0.heap.size w0 W → Ck W C A cap vs ls → Calls Tryd.prog 60 #[ckP C, .slice A6 bl.length k6] W fun e w' => OkRes W C A cap vs ls (SS (wr1 ls) bl) e w') := Lib.hid (fun W h1 h2 => HLOOP.out bl (List.mem_of_getElem? hz5) W A6 k6 h1 h2 hr6)
  have HHD := Lib.hid (hdX_some (SS := SS) (ls := wr1 ls) hz5)
  obtain ⟨q, hq⟩ : ∃ q, bl.length = q := ⟨_, rfl⟩
  rw [hq] at HE0 HLP
  obtain ⟨lo, hlo⟩ : ∃ q, SS (wr1 ls) bl = q := ⟨_, rfl⟩
  rw [hlo] at HLP HHD
  clear hz5 hr6 hc5 HLOOP hq hlo hb5
  have HR2 : Hid ((decide (tyE vs s.src = some 2) && lo) = r) := Lib.hid (by rw [← HR.out, ← HHD.out]; rfl)
  have HTT := Lib.hid (HTRU.out W HWW.out HCKW.out.v (.inr (.inr (.inl HOP.out))))
  clear HR HHD HTRU HNUM
  go_wp2_with (refine wpList_load_mid rfl 28 _ rfl B 8 rfl E _ HEG.out Tryd.underlying28 rfl HES.out ?_)
  refine (HTT.out).mono ?_
  rintro e w1 ⟨he, hb1⟩
  cases hty : decide (tyE vs s.src = some 2)
  ·rw [hty] at he
   obtain ⟨n9, l9, rfl, h9⟩ := he
   obtain rfl : false = r := by rw [← HR2.out, hty]; rfl
   exact post_panic rfl ⟨⟨n9, l9, rfl, h9⟩, But.of_below (HB.out.trans (hb1.mono HB.out.size)), fun h => by cases h⟩
  ·rw [hty] at he
   obtain rfl := he
   obtain rfl : lo = r := by rw [← HR2.out, hty, Bool.true_and]
   have HB1 := Lib.hid (HB.out.trans (hb1.mono HB.out.size))
   have HW1 := Lib.hid (HWW.out.trans (hb1.mono HWW.out.size))
   have HC1 := Lib.hid (HLP.out w1 HW1.out (HCKW.out.below hb1))
   have d17 : w1.cell? ⟨B, 17, none⟩ = some (.slice (some ⟨b5, o5, none⟩) nb bk) := (HSV.out.below hb1).cell 17 _ HLX.out.2.1
   have e0 := HE0.out w1 HW1.out
   clear hty HR2 hb1 x0 HLP HE0
   go_wp2_with fail
   refine HC1.out.mono ?_
   rintro e w2 ⟨he, hb2, hk2⟩
   have HBU := Lib.hid ((But.of_below HB1.out).trans hb2)
   cases lo
   ·obtain ⟨n9, l9, rfl, h9⟩ := he
    exact post_panic rfl ⟨⟨n9, l9, rfl, h9⟩, HBU.out, fun h => by cases h⟩
   ·obtain rfl := he
    have HK2 := Lib.hid (hk2 rfl)
    clear hb2 hk2
    go_wp2
    refine bodyPost_end (v := .tuple #[]) ?_ rfl ⟨rfl, HBU.out, fun _ => HK2.out⟩
    simp [results, Tryd.results39]
 ·skip
  obtain ⟨b5, o5, bl, cs5, rfl, hb5, hz5, ⟨A6, k6, rfl, hr6⟩, hc5⟩ := RowOf.at HBS.out (i := 0) (List.length_pos_iff.2 (HSH.out.bne (.inr (.inr HOP.out))))
  have hnb0 : (0 : Int) < (nb : Int) := by
   have := List.length_pos_iff.2 (HSH.out.bne (.inr (.inr HOP.out)))
   rw [HNB.out] at this
   omega
  have HE0 : Hid (∀ W, Below w0.heap.size w0 W → W.cell? ⟨b5, o5, none⟩ = some (.slice A6 bl.length k6)) := Lib.hid (fun W hW => by
   have := hc5 0 (by omega)
   rw [Nat.zero_mul, Nat.add_zero] at this
   exact (hW.cell (p := ⟨b5, o5, none⟩) hb5).trans this)
  have HLP : Hid (∀ W, Below w0.heap.size w0 W → Ck W C A cap vs ls → Calls Tryd.prog 60 #[ckP C, .slice A6 bl.length k6] W fun e w' => OkRes W C A cap vs ls (SS (wr1 ls) bl) e w') := Lib.hid (fun W h1 h2 => HLOOP.out bl (List.mem_of_getElem? hz5) W A6 k6 h1 h2 hr6)
  have HHD := Lib.hid (hdX_some (SS := SS) (ls := wr1 ls) hz5)
  obtain ⟨q, hq⟩ : ∃ q, bl.length = q := ⟨_, rfl⟩
  rw [hq] at HE0 HLP
  obtain ⟨lo, hlo⟩ : ∃ q, SS (wr1 ls) bl = q := ⟨_, rfl⟩
  rw [hlo] at HLP HHD
  clear hz5 hr6 hc5 HLOOP hq hlo hb5
  have HR2 : Hid ((lo && decide (tyE vs s.src = some 2)) = r) := Lib.hid (by rw [← HR.out, ← HHD.out]; rfl)
  have HC1 := Lib.hid (HLP.out W HWW.out HCKW.out)
  have d17 : W.cell? ⟨B, 17, none⟩ = some (.slice (some ⟨b5, o5, none⟩) nb bk) := HSV.out.cell 17 _ HLX.out.2.1
  have e0 := HE0.out W HWW.out
  clear HR HHD HNUM HLP HE0
  go_wp2_with fail
  refine HC1.out.mono ?_
  rintro e w1 ⟨he, hb1, hk1⟩
  have HBU := Lib.hid ((But.of_below HB.out).trans hb1)
  cases lo
  ·obtain ⟨n9, l9, rfl, h9⟩ := he
   obtain rfl : false = r := by rw [← HR2.out]; rfl
   exact post_panic rfl ⟨⟨n9, l9, rfl, h9⟩, HBU.out, fun h => by cases h⟩
  ·obtain rfl := he
   have HK1 := Lib.hid (hk1 rfl)
   have HW1 : Hid (Below w0.heap.size w0 w1) := Lib.hid (HWW.out.trans (hb1.below _ HC0.out HWW.out.size))
   have HG1 : Hid (w1.rangeAt B 8 E) := Lib.hid (HSV.out.but hb1 HNE.out).e
   have HTT := Lib.hid (HTRU.out w1 HW1.out HK1.out.v (.inr (.inr (.inr HOP.out))))
   clear hb1 hk1 x0 d17 e0 HTRU
   go_wp2_with (refine wpList_load_mid rfl 28 _ rfl B 8 rfl E _ HG1.out Tryd.underlying28 rfl HES.out ?_)
   refine HTT.out.mono ?_
   rintro e w2 ⟨he, hb2⟩
   have HBV := Lib.hid (HBU.out.trans (But.of_below hb2))
   have HK2 := Lib.hid (HK1.out.below hb2)
   cases hty : decide (tyE vs s.src = some 2)
   ·rw [hty] at he
    obtain ⟨n9, l9, rfl, h9⟩ := he
    obtain rfl : false = r := by rw [← HR2.out, hty]; rfl
    exact post_panic rfl ⟨⟨n9, l9, rfl, h9⟩, HBV.out, fun h => by cases h⟩
   ·rw [hty] at he
    obtain rfl := he
    obtain rfl : true = r := by rw [← HR2.out, hty]; rfl
    clear hty hb2
    go_wp2
    refine bodyPost_end (v := .tuple #[]) ?_ rfl ⟨rfl, HBV.out, fun _ => HK2.out⟩
    simp [results, Tryd.results39]
 ·skip
  have HR2 : Hid (decide (0 < ls) = r) := Lib.hid (by rw [← HR.out]; rfl)
  have HC7 : Hid (∀ w', Below W.heap.size W w' → w'.cell? ⟨C, 1, none⟩ = some (.int .i64 ls) ∧ w'.cell? ⟨B, 18, none⟩ = some (.int .i64 ln)) := Lib.hid (fun w' hb => ⟨(HCKW.out.below hb).c1, (HSV.out.below hb).cell 18 _ HLX.out.2.2⟩)
  clear HR HNUM HTRU HLOOP
  go_wp2_with fail
  by_cases h0 : 0 < ls
  ·obtain rfl : true = r := by rw [← HR2.out]; simp [h0]
   refine wp_region_held_drew (S := fun w' => Below W.heap.size W w') (by kernel_rfl) ?_ (fun hHeld => ?_)
   ·exact (Below.refl _ _).drew
   refine tT 0 ?_ rfl ?_ ?_; rotate_left; (focus intros; go_simp; try rfl)
   refine tT 1 ?_ rfl ?_ ?_; rotate_left; (focus intros; go_simp; try rfl)
   refine tT 2 ?_ rfl ?_ ?_; rotate_left; (focus intros; go_simp; try rfl); (try simp only [ly])
   (refine tT 3 ?_ rfl ?_ ?_; rotate_left; (focus (intro w' hSw; (try dsimp only at hSw); (have g := (HC7.out _ hSw).1); go_simp; try (with_reducible rfl))))
   refine tT 4 ?_ rfl ?_ ?_; rotate_left; (focus intros; go_simp; try rfl)
   refine tT 5 ?_ rfl ?_ ?_; rotate_left; (focus intros; go_simp; try rfl); (try simp only [ly])
   (refine tT 6 ?_ rfl ?_ ?_; rotate_left; (focus (intro w' hSw; (try dsimp only at hSw); (have g := (HC7.out _ hSw).2); go_simp; try (with_reducible rfl))); (try simp only [ly]))
   refine oneH (i := 7) (by kernel_rfl) rfl (fun Kc hK => ?_)
   go_simp
   go_at_call 35; refine (need_any true 14 ln _ (by decide)).mono ?_; rintro e w2 ⟨rfl, rfl⟩
   go_wp2_with fail
   refine hK.out _ _ (hHeld) (fun hHeld => ?_)
   clear hK Kc
   (try simp only [ly])
   refine wpAnyH_done (by kernel_rfl) ?_ _
   (try simp only [ly])
   have HBU := Lib.hid (HB.out.trans (hHeld.mono HB.out.size))
   have HK1 := Lib.hid (HCKW.out.below hHeld)
   go_wp2
   refine bodyPost_end (v := .tuple #[]) ?_ rfl ⟨rfl, But.of_below HBU.out, fun _ => HK1.out⟩
   simp [results, Tryd.results39]
  ·obtain rfl : false = r := by rw [← HR2.out]; simp [h0]
   refine wp_region_held_drew (S := fun w' => Below W.heap.size W w') (by kernel_rfl) ?_ (fun hHeld => ?_)
   ·exact (Below.refl _ _).drew
   refine tT 0 ?_ rfl ?_ ?_; rotate_left; (focus intros; go_simp; try rfl)
   refine tT 1 ?_ rfl ?_ ?_; rotate_left; (focus intros; go_simp; try rfl)
   refine tT 2 ?_ rfl ?_ ?_; rotate_left; (focus intros; go_simp; try rfl); (try simp only [ly])
   (refine tT 3 ?_ rfl ?_ ?_; rotate_left; (focus (intro w' hSw; (try dsimp only at hSw); (have g := (HC7.out _ hSw).1); go_simp; try (with_reducible rfl))))
   refine tT 4 ?_ rfl ?_ ?_; rotate_left; (focus intros; go_simp; try rfl)
   refine tT 5 ?_ rfl ?_ ?_; rotate_left; (focus intros; go_simp; try rfl); (try simp only [ly])
   (refine tT 6 ?_ rfl ?_ ?_; rotate_left; (focus (intro w' hSw; (try dsimp only at hSw); (have g := (HC7.out _ hSw).2); go_simp; try (with_reducible rfl))); (try simp only [ly]))
   refine oneH (i := 7) (by kernel_rfl) rfl (fun Kc hK => ?_)
   go_simp
   go_at_call 35; refine (need_any false 14 ln _ (by decide)).mono ?_; rintro e w2 ⟨he, rfl⟩; obtain ⟨n9, l9, rfl, h9⟩ := he
   exact post_panic rfl (⟨⟨n9, l9, rfl, h9⟩, But.of_below (HB.out.trans (hHeld.mono HB.out.size)), fun h => by cases h⟩)
 ·skip
  obtain rfl : true = r := by rw [← HR.out]; rfl
  go_wp2
  refine bodyPost_end (v := .tuple #[]) ?_ rfl ⟨rfl, But.of_below HB.out, fun _ => HCKW.out⟩
  simp [results, Tryd.results39]
 ·skip
  have HC : Hid (Calls Tryd.prog 61 #[ckP C, .agg L.toArray] W fun e w' => OkRes W C A cap vs ls r e w') := Lib.hid (by
   rw [← HLQ.out, ← HR.out]
   exact (kcall_of vs s m C A cap W HCKW.out.v HBTW.out (HCS.out.below HWW.out) (HFS.out.below HWW.out) HSH.out.conds (HSH.out.call HOP.out)).mono fun e w' ⟨h1, h2⟩ => OkRes.of_below HCKW.out h1 h2)
  clear HR HNUM HTRU HLOOP
  go_wp2_with (refine wpList_load_mid rfl 63 _ rfl B 0 rfl L _ HSG.out Tryd.underlying63 rfl HLS.out ?_)
  refine (HC.out).mono ?_
  rintro e w1 ⟨he, hb1, hk1⟩
  have HBU := Lib.hid ((But.of_below HB.out).trans hb1)
  cases r
  ·obtain ⟨n9, l9, rfl, h9⟩ := he
   exact post_panic rfl ⟨⟨n9, l9, rfl, h9⟩, HBU.out, fun h => by cases h⟩
  ·obtain rfl := he
   have HK1 := Lib.hid (hk1 rfl)
   clear hb1 hk1
   go_wp2
   refine bodyPost_end (v := .tuple #[]) ?_ rfl ⟨rfl, HBU.out, fun _ => HK1.out⟩
   simp [results, Tryd.results39]

mutual
def ktS (vs : List VarS) : Int → Stm → Bool
 | ls, .mk op nm dst src conds labels fields blocks ln =>
  if op = 1 then okAssign vs (.mk op nm dst src conds labels fields blocks ln) else if op = 2 then ktBs vs ls conds blocks
  else if op = 3 then decide (tyE vs src = some 1) && ktBs vs ls conds blocks
  else if op = 4 then okVar vs (.mk op nm dst src conds labels fields blocks ln) && (okConds vs (.mk op nm dst src conds labels fields blocks ln) && ktHd vs (wr1 ls) blocks)
  else if op = 5 then decide (tyE vs src = some 2) && ktHd vs (wr1 ls) blocks
  else if op = 6 then ktHd vs (wr1 ls) blocks && decide (tyE vs src = some 2)
  else if op = 7 then decide (0 < ls)
  else if op = 9 then okCall vs (.mk op nm dst src conds labels fields blocks ln)
  else true
def ktSs (vs : List VarS) : Int → List Stm → Bool
 | _, [] => true
 | ls, s :: l => ktS vs ls s && ktSs vs ls l
def ktBs (vs : List VarS) : Int → List Ex → List (List Stm) → Bool
 | _, _, [] => true
 | ls, cs, b :: bs => (match cs with | [] => true | c :: _ => decide (tyE vs c = some 2)) && ktSs vs ls b && ktBs vs ls cs.tail bs
def ktHd (vs : List VarS) : Int → List (List Stm) → Bool
 | _, [] => true
 | ls, b :: _ => ktSs vs ls b
end
theorem ktBs_bsX (vs : List VarS) (ls : Int) : ∀ (bs : List (List Stm)) (cs : List Ex), ktBs vs ls cs bs = bsX (ktSs vs) vs ls cs bs
 | [], cs => by rw [ktBs]; cases cs <;> rfl
 | b :: bs, cs => by
  cases cs with
  | nil =>
   rw [ktBs, ktBs_bsX vs ls bs]
   rfl
  | cons c cs =>
   rw [ktBs, ktBs_bsX vs ls bs]
   rfl
theorem ktHd_hdX (vs : List VarS) (ls : Int) (bs : List (List Stm)) : ktHd vs ls bs = hdX (ktSs vs) ls bs := by
 cases bs with
 | nil => rw [ktHd]; rfl
 | cons b l => rw [ktHd]; rfl
theorem ktS_top (vs : List VarS) (ls : Int) (s : Stm) : ktS vs ls s = topS (ktSs vs) vs ls s := by
 cases s
 rw [ktS, ktBs_bsX, ktHd_hdX]
 rfl
theorem ktSs_step {vs : List VarS} {ls : Int} {l : List Stm} {i : Nat} {s : Stm} (h : l[i]? = some s) : ktSs vs ls (l.drop i) = (ktS vs ls s && ktSs vs ls (l.drop (i + 1))) := by
 obtain ⟨hi, hs⟩ := List.getElem?_eq_some_iff.1 h
 rw [List.drop_eq_getElem_cons hi, hs, ktSs]


set_option maxRecDepth 100000 in
theorem kstmts_at : ∀ (k : Nat) (xs : List Stm), SizeOf.sizeOf xs < k → (∀ s ∈ xs, ShS s) → ∀ (w0 : World) (C : Nat) (A : Option Addr) (cap : Nat) (vs : List VarS), Blanks w0 → w0.heap.size ≤ C → StmtsOK w0 C A cap vs (ktSs vs) xs := by
 intro k
 induction k with
 | zero => intro xs h; omega
 | succ k ih =>
  intro xs hsz hsh w0 C A cap vs ht hC w ls A' k' hw0 hck hrow
  have HIH := Lib.hid ih
  have HR := Lib.hid hrow
  have HSH := Lib.hid hsh
  have HBT := Lib.hid ht
  have HC0 := Lib.hid hC
  have HW0 := Lib.hid hw0
  have HCK := Lib.hid hck
  have hl := hrow.1
  have hc := hrow.2.1
  have HSZ := Lib.hid hsz
  obtain ⟨n, hn⟩ : ∃ n, xs.length = n := ⟨_, rfl⟩
  rw [hn] at hl ⊢
  have HN := Lib.hid hn
  obtain ⟨r, hr⟩ : ∃ r, ktSs vs ls xs = r := ⟨_, rfl⟩
  rw [hr]
  have HRR := Lib.hid hr
  clear ih hrow hn hsh ht hC hw0 hck hsz hr
  go_enter Tryd.func19, Tryd.ntmps19
  go_wp2_with fail
  obtain ⟨W0, hW0⟩ : ∃ W0, W0 = w := ⟨_, rfl⟩
  have HWW := Lib.hid hW0
  clear hW0
  go_loopw [8] (fun u wr => ∃ (i : Nat), i ≤ n ∧ u = .int .i64 i ∧ Hid (ktSs vs ls (xs.drop i) = r) ∧ Hid (But C w wr) ∧ Hid (Ck wr C A cap vs ls)) (fun u _ => n - (intOf u).toNat)
  case atStart => exact ⟨0, by omega, rfl, Lib.hid (by rw [List.drop_zero]; exact HRR.out), Lib.hid (But.refl _ _), HCK⟩
  case round =>
   obtain ⟨i, hi, rfl, HRI, HBI, HCKr⟩ := hrel
   have HWr : Hid (Below w0.heap.size w0 wr) := Lib.hid (HW0.out.trans (HBI.out.below _ HC0.out HW0.out.size))
   by_cases hlt : i < n
   ·obtain ⟨b, off, s, m, rfl, hbl, hx, hsv⟩ := RowT.at HR.out (i := i) (by rw [HN.out]; exact hlt)
    have HS := Lib.hid (hsv.below HWr.out)
    have HST := Lib.hid hsv.stm
    have HX := Lib.hid hx
    have hi0 : (0 : Int) ≤ (i : Int) ∧ (i : Int) < (n : Int) := by omega
    have HSS : Hid (∀ bl ∈ s.blocks, StmtsOK w0 C A cap vs (ktSs vs) bl) := Lib.hid (fun bl hb => by
     obtain ⟨j, hj⟩ := List.mem_iff_getElem?.1 hb
     have h1 := block_lt HX.out hj
     have h2 := HSZ.out
     exact HIH.out bl (by omega) (fun t ht => (HSH.out s (List.mem_of_getElem? HX.out)).parts.2 bl hb t ht) w0 C A cap vs HBT.out HC0.out)
    have HSP := Lib.hid (HSH.out s (List.mem_of_getElem? HX.out)).parts.1
    have HRJ : Hid ((ktS vs ls s && ktSs vs ls (xs.drop (i + 1))) = r) := Lib.hid (by rw [← HRI.out, ktSs_step HX.out])
    obtain ⟨L, hL⟩ : ∃ L, StmC s m = L := ⟨_, rfl⟩
    have HLS : Hid ((Tryd.prog.info? 63).map (·.size) = some L.length) := Lib.hid (by rw [← hL]; exact stmt_size)
    have HL1 : Hid (L.toArray.all (·.oneCell') = true) := Lib.hid (by rw [← hL]; exact stmC_one s m)
    have HL19 : Hid (19 = L.toArray.size) := Lib.hid (by rw [← hL]; rfl)
    have HLR : Hid (wr.rangeAt b (off + i * 19) L) := Lib.hid (by rw [← hL]; exact HS.out.cell)
    have HCALL : Hid (∀ W, Below w0.heap.size w0 W → Ck W C A cap vs ls → Calls Tryd.prog 39 #[ckP C, .agg L.toArray] W fun e w' => OkRes W C A cap vs ls (ktS vs ls s) e w') := Lib.hid (fun W h1 h2 => by
     rw [← hL, ktS_top]
     exact kstmt_of vs (ktSs vs) s m w0 C A cap W ls HSS.out h1 HC0.out h2 HBT.out HST.out HSP.out)
    clear hsv hx hL HSS HSP HST HS HRI
    go_upto_region 3 with (first
     | refine wpList_load_mid rfl 63 _ rfl b (off + i * 19) rfl L _ HLR.out Tryd.underlying63 rfl HLS.out ?_
     | refine wpList_store_new rfl 63 _ _ rfl wr _ L.toArray rfl rfl rfl HLS.out HL19.out HL1.out ?_)
    refine wp_name fun W3 hW3 => ?_
    obtain ⟨G, hG⟩ : ∃ G, G = wr.heap.size := ⟨_, rfl⟩
    rw [← hG]
    have hB3 : Below wr.heap.size wr W3 := by rw [hW3.out]; exact belowBy
    have hh : W3.heap[G]? = some (.cells L.toArray 63) := by rw [hW3.out, hG]; exact heap_alloc_new _ _
    have HRW : Hid (W3.rangeAt G 0 L) := Lib.hid (by
     have := rangeAt_of_heap hh
     simpa using this)
    have HW3 := Lib.hid (HWr.out.trans (hB3.mono HWr.out.size))
    have HK3 := Lib.hid (HCKr.out.below hB3)
    have HI3 : Hid (But C w W3) := Lib.hid (HBI.out.trans (But.of_below hB3))
    simp only [Act.put]
    clear hW3 hB3 hh hG HLR HCKr HBI HWr
    go_wp2_with (refine wpList_load_mid rfl 63 _ rfl G 0 rfl L _ HRW.out Tryd.underlying63 rfl HLS.out ?_)
    refine (HCALL.out _ HW3.out HK3.out).mono ?_
    rintro e w4 ⟨he, hb4, hk4⟩
    have HI4 : Hid (But C w w4) := Lib.hid (HI3.out.trans hb4)
    cases hok : ktS vs ls s
    ·rw [hok] at he
     obtain ⟨n9, l9, rfl, h9⟩ := he
     obtain rfl : false = r := by rw [← HRJ.out, hok]; rfl
     exact ⟨rfl, ⟨⟨n9, l9, rfl, h9⟩, HI4.out, fun h => by cases h⟩⟩
    ·rw [hok] at he
     obtain rfl := he
     have HK4 := Lib.hid (hk4 hok)
     have HRN : Hid (ktSs vs ls (xs.drop (i + 1)) = r) := Lib.hid (by rw [← HRJ.out, hok, Bool.true_and])
     clear hok hb4 hk4
     go_wp2
     go_roundw
     case rel => exact ⟨i + 1, by omega, by go_num, HRN, HI4, HK4⟩
     case measure => simp [intOf]; omega
   ·obtain rfl : i = n := by omega
    obtain rfl : true = r := by rw [← HRI.out, List.drop_eq_nil_of_le (by rw [HN.out]; exact Nat.le_refl _), ktSs]
    go_wp2
    refine bodyPost_end (v := .tuple #[]) ?_ rfl ⟨rfl, HBI.out, fun _ => HCKr.out⟩
    simp [results, Tryd.results19]
theorem kstmts_any {xs : List Stm} (hsh : ∀ s ∈ xs, ShS s) {w0 : World} {C : Nat} {A : Option Addr} {cap : Nat} {vs : List VarS} (ht : Blanks w0) (hC : w0.heap.size ≤ C) : StmtsOK w0 C A cap vs (ktSs vs) xs := kstmts_at _ xs (Nat.lt_succ_self _) hsh w0 C A cap vs ht hC

end Go.Proofs.YtahjijdadifkaaaDoor
