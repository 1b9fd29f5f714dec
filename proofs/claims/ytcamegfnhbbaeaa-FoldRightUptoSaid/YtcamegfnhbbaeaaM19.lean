/- Merged: Layer 19, the reference: what is known as a statement's text begins. Layer 19, the reference: a statement's text, at kinds 1. PRINTED by wip/tool/mkrow19.py Layer 19, the reference: a statement's text, at kinds 2. PRINTED by wip/tool/mkrow19.py Layer 19, the reference: a statement's text, at kinds 3. PRINTED by wip/tool/mkrow19.py Layer 19, the reference: a statement's text, at kinds 4. PRINTED by wip/tool/mkrow19.py Layer 19, the reference: a statement's text, at kinds 5,6. PRINTED by wip/tool/mkrow19.py Layer 19, the reference: a statement's text, at kinds 7,8. PRINTED by wip/tool/mkrow19.py Layer 19, the reference: a statement's text, at kinds 9. PRINTED by wip/tool/mkrow19.py Layer 19, the reference: statements' text. -/
import Derived.Test.YtcamegfnhbbaeaaM17
import Derived.Test.YtcamegfnhbbaeaaM18
import Derived.Test.YtcamegfnhbbaeaaTreeK1
import Derived.Great.Ranges
namespace Go.Proofs.Ytcamegfnhbbaeaa
open Go.RowKit
set_option linter.unusedVariables false
set_option linter.unusedSimpArgs false

theorem sv_of {w : World} {s : Stm} {m : SM} (h : StmAt w s (StmC s m)) : ∀ W B, Below w.heap.size w W → W.heap[B]? = some (.cells (StmC s m).toArray 63) → SV W B 0 s m := by
  intro W B hb hh
  obtain ⟨m', e, h1, h2, h3, h4, h5, h6, h7, h8⟩ := h.form19
  have hm : m = m' := by
    cases m
    cases m'
    simp [StmC] at e
    simp_all
  subst hm
  exact ⟨(Array.getElem?_eq_some_iff.1 hh).1, fun j u hu => by rw [Nat.zero_add]; exact heap_cell j _ hh (by rw [List.getElem?_toArray]; exact hu), h1.keep hb, h2.keep hb, h3.below hb, h4.below hb, h5.below hb, h6.below hb, h7, h8⟩
def exA6 (x : Ex) (A : Option Addr) (k : Nat) : Value := .agg #[.int .i64 x.op, .int .i64 x.n, .string x.name, .string x.field, .slice A x.sub.length k, .int .i64 x.line]
/-- what is known as row begins -/
structure RowIn19 (s : Stm) (m : SM) (w : World) : Prop where
  expr : ∀ x, FitE x → nodesE x ≤ 16777216 → ∀ W, Below w.heap.size w W → ∀ A k, ExAt W x (ExC x A k) → Calls Try.prog 69 #[.agg #[.int .i64 x.op, .int .i64 x.n, .string x.name, .string x.field, .slice A x.sub.length k, .int .i64 x.line]] W fun e w' => e = .returned (.string (exprS x)) ∧ Below W.heap.size W w'
  rows : ∀ bl ∈ s.blocks, ∀ W, Below w.heap.size w W → ∀ A k, RowT W A bl k → Calls Try.prog 32 #[.slice A bl.length k] W fun e w' => e = .returned (.string (rowsS bl)) ∧ Below W.heap.size W w'
  sv : ∀ W B, Below w.heap.size w W → W.heap[B]? = some (.cells (StmC s m).toArray 63) → SV W B 0 s m
  fit : FitS s
  nodes : nodesS s ≤ 16777216
theorem RowIn19.parts {s : Stm} {m : SM} {w : World} (h : RowIn19 s m w) : nodesE s.dst ≤ 16777216 ∧ nodesE s.src ≤ 16777216 ∧ nodesEs s.conds ≤ 16777216 ∧ labN s.labels ≤ 16777216 ∧ s.fields.length ≤ 16777216 ∧ nodesBs s.blocks ≤ 16777216 := by
  have := h.nodes
  cases s
  simp only [nodesS, Stm.dst, Stm.src, Stm.conds, Stm.labels, Stm.fields, Stm.blocks] at this ⊢
  omega
theorem atB_exprs {l : List Ex} {i : Nat} {y : Ex} (h : l[i]? = some y) : atB (exprsS l) i = exprS y := by
  unfold atB
  rw [exprsS_get, h]
  rfl
theorem atB_blocks {l : List (List Stm)} {i : Nat} {b : List Stm} (h : l[i]? = some b) : atB (blocksS l) i = rowsS b := by
  unfold atB
  rw [blocksS_get, h]
  rfl
theorem exprsS_len : ∀ l, (exprsS l).length = l.length
  | [] => rfl
  | x :: l => by simp [exprsS, exprsS_len l]
theorem fitS_even {s : Stm} (h : FitS s) : ∀ l ∈ s.labels, l.length % 2 = 0 := by
  cases h with
  | mk _ _ _ h _ => exact h
theorem labN_len : ∀ l : List (List Int), l.length ≤ labN l
  | [] => Nat.le_refl _
  | x :: l => by
    have := labN_len l
    show l.length + 1 ≤ 1 + x.length + labN l
    omega
theorem labN_get : ∀ {l : List (List Int)} {i : Nat} {z : List Int}, l[i]? = some z → z.length ≤ labN l
  | [], i, z, h => by simp at h
  | x :: l, 0, z, h => by
    simp at h
    subst h
    show x.length ≤ 1 + x.length + labN l
    omega
  | x :: l, i + 1, z, h => by
    have := labN_get (l := l) (i := i) (z := z) (by simpa using h)
    show z.length ≤ 1 + x.length + labN l
    omega
theorem svSrc {w : World} {B : Nat} {s : Stm} {m : SM} (h : SV w B 0 s m) : w.rangeAt B 8 (ExC s.src m.va m.vk) := fun j u hu => by
  have hl : (ExC s.dst m.ta m.tk).length = 6 := rfl
  have := h.at0 (8 + j) u (by rw [show StmC s m = ([.int .i64 s.op, .string s.name] ++ ExC s.dst m.ta m.tk) ++ ExC s.src m.va m.vk ++ [.slice m.ca s.conds.length m.ck, .slice m.la s.labels.length m.lk, .slice m.fa s.fields.length m.fk, .slice m.ba s.blocks.length m.bk, .int .i64 s.line] from rfl, List.append_assoc, List.getElem?_append_right (by simp [hl])]; rw [List.getElem?_append_left (by have := (List.getElem?_eq_some_iff.1 hu).1; simp only [List.length_append, List.length_cons, List.length_nil, hl]; omega)]; simpa [hl] using hu)
  exact this

end Go.Proofs.Ytcamegfnhbbaeaa

namespace Go.Proofs.Ytcamegfnhbbaeaa
open Go.RowKit
set_option linter.unusedVariables false
set_option linter.unusedSimpArgs false
attribute [local go_sem] ite_max ite_min vite_max vite_min ext_cell ext_frozen

set_option maxRecDepth 100000 in
set_option maxHeartbeats 4000000 in
theorem row19_k1 (s : Stm) (m : SM) (w : World) (hin : RowIn19 s m w) (hop : s.op = 1) : Calls Try.prog 57 #[.agg (StmC s m).toArray] w fun e w' => e = .returned (.string (rowS s)) ∧ Below w.heap.size w w' := by
  have HEX := Lib.hid hin.expr
  have HRO := Lib.hid hin.rows
  have HSV := Lib.hid hin.sv
  obtain ⟨hfit, hfields, hbl⟩ := hin.fit.all
  have HFIT := Lib.hid hfit
  have HFF := Lib.hid hfields
  have HBF := Lib.hid hbl
  have HEV := Lib.hid (fitS_even hin.fit)
  have HND := Lib.hid hin.parts
  have HOP := Lib.hid hop
  have hres := rowS_top s
  obtain ⟨res, hr⟩ : ∃ r, rowS s = r := ⟨_, rfl⟩
  rw [hr, hop] at hres
  rw [hr]
  have HRES := Lib.hid hres
  obtain ⟨nc, hnc⟩ : ∃ n, s.conds.length = n := ⟨_, rfl⟩
  obtain ⟨nl, hnl⟩ : ∃ n, s.labels.length = n := ⟨_, rfl⟩
  obtain ⟨nf, hnf⟩ : ∃ n, s.fields.length = n := ⟨_, rfl⟩
  obtain ⟨nb, hnb⟩ : ∃ n, s.blocks.length = n := ⟨_, rfl⟩
  have HNC := Lib.hid hnc
  have HNL := Lib.hid hnl
  have HNF := Lib.hid hnf
  have HNB := Lib.hid hnb
  clear hin hop hres hr hfit hfields hbl hnc hnl hnf hnb
  go_enter Try.func57, Try.ntmps57
  go_upto_region 1 with (refine wpList_boxTo rfl 63 _ rfl _ rfl _ rfl (StmC s m).toArray rfl ?_)
  refine wp_name fun W hW => ?_
  obtain ⟨B, hB⟩ : ∃ B, B = w.heap.size := ⟨_, rfl⟩
  have hh : W.heap[B]? = some (.cells (StmC s m).toArray 63) := by rw [hW.out, hB]; exact heap_alloc_new _ _
  have hbel : Below w.heap.size w W := by rw [hW.out]; (repeat' (first | (with_reducible exact Below.refl _ _) | (with_reducible assumption) | (with_reducible refine below_drewN ?_ _) | (with_reducible refine Below.drew ?_) | (with_reducible refine below_new ?_ (Nat.le_refl _) _) | (with_reducible refine Below.setCell ?_ ?_ _) | (with_reducible refine below_go ?_ (by assumption) (Nat.le_refl _)) | (simp; done) | (simp; omega) | omega))
  have HV := Lib.hid (HSV.out W B hbel hh)
  have HB := Lib.hid hbel
  rw [← hB]
  have hwB : w.heap.size ≤ B := by omega
  clear hW hbel hB hh
  have c0 : W.cell? ⟨B, 0, none⟩ = some (.int .i64 1) := by have := HV.out.at0 0 _ rfl; rwa [HOP.out] at this
  have lB : B < W.heap.size := HV.out.lt
  have c2 := HV.out.at0 2 _ rfl
  have c3 := HV.out.at0 3 _ rfl
  have c4 := HV.out.at0 4 _ rfl
  have c5 := HV.out.at0 5 _ rfl
  have c6 := HV.out.at0 6 _ rfl
  have c7 := HV.out.at0 7 _ rfl
  have c8 := HV.out.at0 8 _ rfl
  have c9 := HV.out.at0 9 _ rfl
  have c10 := HV.out.at0 10 _ rfl
  have c11 := HV.out.at0 11 _ rfl
  have c12 := HV.out.at0 12 _ rfl
  have c13 := HV.out.at0 13 _ rfl
  have hsd := part_size (HFIT.out.dstOk)
  have hnd := HND.out.1
  obtain ⟨td, htd⟩ : ∃ b, exprS s.dst = b := ⟨_, rfl⟩
  rw [htd] at hsd
  have hsv := part_size (HFIT.out.srcOk)
  have hnv := HND.out.2.1
  obtain ⟨tv, htv⟩ : ∃ b, exprS s.src = b := ⟨_, rfl⟩
  rw [htv] at hsv
  have HTd : Hid (∀ W', Below W.heap.size W W' → Calls Try.prog 69 #[.agg #[.int .i64 s.dst.op, .int .i64 s.dst.n, .string s.dst.name, .string s.dst.field, .slice m.ta s.dst.sub.length m.tk, .int .i64 s.dst.line]] W' fun e w' => e = .returned (.string td) ∧ Below W'.heap.size W' w') := Lib.hid (fun W' hW' => by have := HEX.out s.dst ((HFIT.out.dst1 HOP.out).2) (HND.out.1) W' (HB.out.trans (hW'.mono HB.out.size)) _ _ (HV.out.dst.keep hW'); rwa [htd] at this)
  have HTv : Hid (∀ W', Below W.heap.size W W' → Calls Try.prog 69 #[.agg #[.int .i64 s.src.op, .int .i64 s.src.n, .string s.src.name, .string s.src.field, .slice m.va s.src.sub.length m.vk, .int .i64 s.src.line]] W' fun e w' => e = .returned (.string tv) ∧ Below W'.heap.size W' w') := Lib.hid (fun W' hW' => by have := HEX.out s.src (HFIT.out.src1 (Or.inl HOP.out)) (HND.out.2.1) W' (HB.out.trans (hW'.mono HB.out.size)) _ _ (HV.out.src.keep hW'); rwa [htv] at this)
  have hrs : res = ((td ++ ⟨#[32, 58, 61, 32]⟩) ++ tv) ++ ⟨#[59, 10]⟩ := by rw [HRES.out, htd, htv]; rfl
  replace HRES := Lib.hid hrs
  clear hrs htd htv
  go_upto_region 4 with (fail)
  refine wp_region_ext (by kernel_rfl) (by kernel_rfl) ?_
  repeat (go_big_quiet_step (first | (go_at_call 69; (with_reducible refine ext_call (HTd.out _ (ext_below ⟨_, rfl⟩)))) | (go_at_call 69; (with_reducible refine ext_call (HTv.out _ (ext_below ⟨_, rfl⟩))))))
  refine wpQuiet_nil ?_
  intro w7 hb7
  replace hb7 := ext_below hb7
  have HB1 := Lib.hid (HB.out.trans (hb7.mono HB.out.size))
  clear hb7 c0 lB c2 c3 c4 c5 c6 c7 c8 c9 c10 c11 c12 c13
  go_wp2
  go_ret
  exact ⟨by rw [HRES.out]; rfl, by have hq := HB1.out; (repeat' (first | (with_reducible exact Below.refl _ _) | (with_reducible assumption) | (with_reducible refine below_drewN ?_ _) | (with_reducible refine Below.drew ?_) | (with_reducible refine below_new ?_ (Nat.le_refl _) _) | (with_reducible refine Below.setCell ?_ ?_ _) | (with_reducible refine below_go ?_ (by assumption) (Nat.le_refl _)) | (simp; done) | (simp; omega) | omega))⟩

end Go.Proofs.Ytcamegfnhbbaeaa

namespace Go.Proofs.Ytcamegfnhbbaeaa
open Go.RowKit
set_option linter.unusedVariables false
set_option linter.unusedSimpArgs false
attribute [local go_sem] ite_max ite_min vite_max vite_min ext_cell ext_frozen

set_option maxRecDepth 100000 in
set_option maxHeartbeats 4000000 in
theorem row19_k2 (s : Stm) (m : SM) (w : World) (hin : RowIn19 s m w) (hop : s.op = 2) : Calls Try.prog 57 #[.agg (StmC s m).toArray] w fun e w' => e = .returned (.string (rowS s)) ∧ Below w.heap.size w w' := by
  have HEX := Lib.hid hin.expr
  have HRO := Lib.hid hin.rows
  have HSV := Lib.hid hin.sv
  obtain ⟨hfit, hfields, hbl⟩ := hin.fit.all
  have HFIT := Lib.hid hfit
  have HFF := Lib.hid hfields
  have HBF := Lib.hid hbl
  have HEV := Lib.hid (fitS_even hin.fit)
  have HND := Lib.hid hin.parts
  have HOP := Lib.hid hop
  have hres := rowS_top s
  obtain ⟨res, hr⟩ : ∃ r, rowS s = r := ⟨_, rfl⟩
  rw [hr, hop] at hres
  rw [hr]
  have HRES := Lib.hid hres
  obtain ⟨nc, hnc⟩ : ∃ n, s.conds.length = n := ⟨_, rfl⟩
  obtain ⟨nl, hnl⟩ : ∃ n, s.labels.length = n := ⟨_, rfl⟩
  obtain ⟨nf, hnf⟩ : ∃ n, s.fields.length = n := ⟨_, rfl⟩
  obtain ⟨nb, hnb⟩ : ∃ n, s.blocks.length = n := ⟨_, rfl⟩
  have HNC := Lib.hid hnc
  have HNL := Lib.hid hnl
  have HNF := Lib.hid hnf
  have HNB := Lib.hid hnb
  clear hin hop hres hr hfit hfields hbl hnc hnl hnf hnb
  go_enter Try.func57, Try.ntmps57
  go_upto_region 1 with (refine wpList_boxTo rfl 63 _ rfl _ rfl _ rfl (StmC s m).toArray rfl ?_)
  refine wp_name fun W hW => ?_
  obtain ⟨B, hB⟩ : ∃ B, B = w.heap.size := ⟨_, rfl⟩
  have hh : W.heap[B]? = some (.cells (StmC s m).toArray 63) := by rw [hW.out, hB]; exact heap_alloc_new _ _
  have hbel : Below w.heap.size w W := by rw [hW.out]; (repeat' (first | (with_reducible exact Below.refl _ _) | (with_reducible assumption) | (with_reducible refine below_drewN ?_ _) | (with_reducible refine Below.drew ?_) | (with_reducible refine below_new ?_ (Nat.le_refl _) _) | (with_reducible refine Below.setCell ?_ ?_ _) | (with_reducible refine below_go ?_ (by assumption) (Nat.le_refl _)) | (simp; done) | (simp; omega) | omega))
  have HV := Lib.hid (HSV.out W B hbel hh)
  have HB := Lib.hid hbel
  rw [← hB]
  have hwB : w.heap.size ≤ B := by omega
  clear hW hbel hB hh
  have c0 : W.cell? ⟨B, 0, none⟩ = some (.int .i64 2) := by have := HV.out.at0 0 _ rfl; rwa [HOP.out] at this
  have lB : B < W.heap.size := HV.out.lt
  have c14 := HV.out.at0 14 _ rfl
  rw [HNC.out] at c14
  have c17 := HV.out.at0 17 _ rfl
  rw [HNB.out] at c17
  have lnc1 := HV.out.conds.1
  have lnc2 := HV.out.conds.2.1
  rw [HNC.out] at lnc1
  have lnb1 := HV.out.blocks.1
  have lnb2 := HV.out.blocks.2.1
  rw [HNB.out] at lnb1
  have hc2 := HFIT.out.c2 HOP.out
  rw [HNC.out, HNB.out] at hc2
  obtain ⟨hc21, hc22, hc23⟩ := hc2
  have hnc24 : nc ≤ 16777216 := by have h1 := (exprsS_sum s.conds HFIT.out.conds).2.2; rw [HNC.out] at h1; have h2 := HND.out.2.2.1; omega
  obtain ⟨G, hG⟩ : ∃ G, G = ifS (exprsS s.conds) (blocksS s.blocks) := ⟨_, rfl⟩
  have HG := Lib.hid hG
  have HG0 : Hid (G 0 = ⟨#[]⟩) := Lib.hid (by rw [hG]; rfl)
  clear hG
  go_upto_region 7 with (fail)
  clear c0 lB c14 c17
  go_loopw [3, 4] (fun vs vi wr => ∃ (i : Nat) (a : ByteArray), i ≤ nc ∧ vi = .int .i64 i ∧ vs = .string a ∧ a.size ≤ i * 4294967296 ∧ Hid (a = G i) ∧ Below W.heap.size W wr) (fun _ vi _ => nc - (intOf vi).toNat)
  case atStart => exact ⟨0, ⟨#[]⟩, by omega, rfl, rfl, by decide, Lib.hid HG0.out.symm, Below.refl _ _⟩
  case round =>
    obtain ⟨i, a, hi, rfl, rfl, ha, HA, hbr⟩ := hrel
    have HVr := Lib.hid (HV.out.below hbr)
    have HBr := Lib.hid (HB.out.trans (hbr.mono HB.out.size))
    have HS := Lib.hid hbr
    clear hbr
    have c0 : wr.cell? ⟨B, 0, none⟩ = some (.int .i64 2) := by have := HVr.out.at0 0 _ rfl; rwa [HOP.out] at this
    have lB : B < wr.heap.size := HVr.out.lt
    have c14 := HVr.out.at0 14 _ rfl
    rw [HNC.out] at c14
    have c17 := HVr.out.at0 17 _ rfl
    rw [HNB.out] at c17
    by_cases hlt : i < nc
    · have hi0 : (0 : Int) ≤ (i : Int) ∧ (i : Int) < (nc : Int) ∧ (i : Int) < (nb : Int) := by omega
      obtain ⟨bqp, oqp, yp, Asp, ksp, hAp, hbp, hyp, hyap, hysp, hrgp⟩ := RowE.at HVr.out.conds (i := i) (by rw [HNC.out]; exact hlt)
      obtain ⟨tp, htp⟩ : ∃ b, exprS yp = b := ⟨_, rfl⟩
      have hndp : nodesE yp ≤ 16777216 := Nat.le_trans (nodesEs_get hyp) HND.out.2.2.1
      have hsp : tp.size ≤ 1073741824 := by rw [← htp]; have h1 := exprS_size yp (HFIT.out.conds yp (List.mem_of_getElem? hyp)); omega
      have HTp : Hid (∀ W', Below wr.heap.size wr W' → Calls Try.prog 69 #[.agg #[.int .i64 yp.op, .int .i64 yp.n, .string yp.name, .string yp.field, .slice Asp yp.sub.length ksp, .int .i64 yp.line]] W' fun e w' => e = .returned (.string tp) ∧ Below W'.heap.size W' w') := Lib.hid (fun W' hW' => by have := HEX.out yp (HFIT.out.conds yp (List.mem_of_getElem? hyp)) hndp W' (HBr.out.trans (hW'.mono HBr.out.size)) _ _ (hyap.keep hW'); rwa [htp] at this)
      have hatp : atB (exprsS s.conds) (i) = tp := by rw [atB_exprs hyp, htp]
      have zp0 : wr.cell? ⟨bqp, oqp + i * 6, none⟩ = some (.int .i64 yp.op) := by have := hrgp 0 _ rfl; simpa using this
      have zp1 : wr.cell? ⟨bqp, oqp + i * 6 + 1, none⟩ = some (.int .i64 yp.n) := by have := hrgp 1 _ rfl; simpa using this
      have zp2 : wr.cell? ⟨bqp, oqp + i * 6 + 2, none⟩ = some (.string yp.name) := by have := hrgp 2 _ rfl; simpa using this
      have zp3 : wr.cell? ⟨bqp, oqp + i * 6 + 3, none⟩ = some (.string yp.field) := by have := hrgp 3 _ rfl; simpa using this
      have zp4 : wr.cell? ⟨bqp, oqp + i * 6 + 4, none⟩ = some (.slice Asp yp.sub.length ksp) := by have := hrgp 4 _ rfl; simpa using this
      have zp5 : wr.cell? ⟨bqp, oqp + i * 6 + 5, none⟩ = some (.int .i64 yp.line) := by have := hrgp 5 _ rfl; simpa using this
      rw [hAp] at c14
      obtain ⟨bbb, obb, blb, csb, hAb, hbb, hzb, ⟨Ab, kb, hcsb, hrb⟩, hcb⟩ := RowOf.at HVr.out.blocks (i := i) (by rw [HNB.out]; omega)
      subst hcsb
      obtain ⟨tb, htb⟩ : ∃ b, rowsS blb = b := ⟨_, rfl⟩
      have hsb : tb.size ≤ 1073741824 := by rw [← htb]; have h1 := rowsS_size blb (HBF.out blb (List.mem_of_getElem? hzb)); have h2 := nodesBs_get hzb; have h3 := HND.out.2.2.2.2.2; omega
      have HTb : Hid (∀ W', Below wr.heap.size wr W' → Calls Try.prog 32 #[.slice Ab blb.length kb] W' fun e w' => e = .returned (.string tb) ∧ Below W'.heap.size W' w') := Lib.hid (fun W' hW' => by have := HRO.out blb (List.mem_of_getElem? hzb) W' (HBr.out.trans (hW'.mono HBr.out.size)) _ _ (hrb.below hW'); rwa [htb] at this)
      have hatb : atB (blocksS s.blocks) (i) = tb := by rw [atB_blocks hzb, htb]
      have db : wr.cell? ⟨bbb, obb + i, none⟩ = some (.slice Ab blb.length kb) := by have := hcb 0 (by omega); simpa using this
      have hkb := hrb.1
      have hlb := hrb.2.1
      rw [hAb] at c17
      clear hcb hrb hAb
      by_cases hi00 : i = 0
      · have hi01 : ((i : Int) == 0) = true := by simp; exact hi00
        have HI0 := Lib.hid hi00
        clear hi00
        have hst : G (i + 1) = a ++ ((((⟨#[73, 70, 32]⟩ : ByteArray) ++ tp) ++ ⟨#[32, 84, 72, 69, 78, 10]⟩) ++ tb) := by rw [HA.out, HG.out]; show ifS _ _ i ++ (((_ ++ atB _ i) ++ _) ++ atB _ i) = _; rw [hatp, hatb, if_pos HI0.out]
        have HST := Lib.hid hst
        clear hst hatp hatb htp htb
        go_upto_region 12 with (fail)
        refine wp_region_ext (by kernel_rfl) (by kernel_rfl) ?_
        repeat (go_big_quiet_step (first | (go_at_call 69; (with_reducible refine ext_call (HTp.out _ (ext_below ⟨_, rfl⟩)))) | (go_at_call 32; (with_reducible refine ext_call (HTb.out _ (ext_below ⟨_, rfl⟩))))))
        refine wpQuiet_nil ?_
        intro w7 hb7
        replace hb7 := ext_below hb7
        have HS1 := Lib.hid (HS.out.trans (hb7.mono HS.out.size))
        clear hb7 c0 lB db c14 c17 zp0 zp1 zp2 zp3 zp4 zp5
        go_wp2
        go_roundw
        case rel => exact ⟨i + 1, _, by omega, by go_num, rfl, by simp only [ByteArray.size_append, lits]; omega, Lib.hid HST.out.symm, HS1.out⟩
        case measure => simp [intOf]; omega
      · have hi01 : ((i : Int) == 0) = false := by simp; omega
        have HI0 := Lib.hid hi00
        clear hi00
        have hst : G (i + 1) = a ++ ((((⟨#[69, 76, 83, 73, 70, 32]⟩ : ByteArray) ++ tp) ++ ⟨#[32, 84, 72, 69, 78, 10]⟩) ++ tb) := by rw [HA.out, HG.out]; show ifS _ _ i ++ (((_ ++ atB _ i) ++ _) ++ atB _ i) = _; rw [hatp, hatb, if_neg HI0.out]
        have HST := Lib.hid hst
        clear hst hatp hatb htp htb
        go_upto_region 12 with (fail)
        refine wp_region_ext (by kernel_rfl) (by kernel_rfl) ?_
        repeat (go_big_quiet_step (first | (go_at_call 69; (with_reducible refine ext_call (HTp.out _ (ext_below ⟨_, rfl⟩)))) | (go_at_call 32; (with_reducible refine ext_call (HTb.out _ (ext_below ⟨_, rfl⟩))))))
        refine wpQuiet_nil ?_
        intro w7 hb7
        replace hb7 := ext_below hb7
        have HS1 := Lib.hid (HS.out.trans (hb7.mono HS.out.size))
        clear hb7 c0 lB db c14 c17 zp0 zp1 zp2 zp3 zp4 zp5
        go_wp2
        go_roundw
        case rel => exact ⟨i + 1, _, by omega, by go_num, rfl, by simp only [ByteArray.size_append, lits]; omega, Lib.hid HST.out.symm, HS1.out⟩
        case measure => simp [intOf]; omega
    · obtain rfl : i = nc := by omega
      have hge : ¬ (i : Int) < (i : Int) := by omega
      by_cases hmore : i < nb
      · have hmi : (i : Int) < (nb : Int) ∧ (0 : Int) ≤ (i : Int) := by omega
        obtain ⟨bbb, obb, blb, csb, hAb, hbb, hzb, ⟨Ab, kb, hcsb, hrb⟩, hcb⟩ := RowOf.at HVr.out.blocks (i := i) (by rw [HNB.out]; exact hmore)
        subst hcsb
        obtain ⟨tb, htb⟩ : ∃ b, rowsS blb = b := ⟨_, rfl⟩
        have hsb : tb.size ≤ 1073741824 := by rw [← htb]; have h1 := rowsS_size blb (HBF.out blb (List.mem_of_getElem? hzb)); have h2 := nodesBs_get hzb; have h3 := HND.out.2.2.2.2.2; omega
        have HTb : Hid (∀ W', Below wr.heap.size wr W' → Calls Try.prog 32 #[.slice Ab blb.length kb] W' fun e w' => e = .returned (.string tb) ∧ Below W'.heap.size W' w') := Lib.hid (fun W' hW' => by have := HRO.out blb (List.mem_of_getElem? hzb) W' (HBr.out.trans (hW'.mono HBr.out.size)) _ _ (hrb.below hW'); rwa [htb] at this)
        have hatb : atB (blocksS s.blocks) (i) = tb := by rw [atB_blocks hzb, htb]
        have db : wr.cell? ⟨bbb, obb + i, none⟩ = some (.slice Ab blb.length kb) := by have := hcb 0 (by omega); simpa using this
        have hkb := hrb.1
        have hlb := hrb.2.1
        rw [hAb] at c17
        clear hcb hrb hAb
        have hrs2 : res = (a ++ ((⟨#[69, 76, 83, 69, 10]⟩ : ByteArray) ++ tb)) ++ ⟨#[69, 78, 68, 95, 73, 70, 59, 10]⟩ := by rw [HRES.out]; unfold topR; rw [if_neg (by decide), if_pos rfl, exprsS_len, HNC.out, ← HG.out, ← HA.out]; unfold elseS; rw [if_pos (by rw [blocksS_len, HNB.out]; exact hmore), hatb]
        replace HRES := Lib.hid hrs2
        clear hrs2 htb hatb
        go_wp2_with fail
        refine (HTb.out _ (Below.refl _ _)).mono ?_
        rintro e w' ⟨rfl, hb7⟩
        have HB1 := Lib.hid (HBr.out.trans (hb7.mono HBr.out.size))
        clear hb7 c0 lB db c14 c17
        go_wp2
        go_ret
        exact ⟨by rw [HRES.out]; rfl, by have hq := HB1.out; (repeat' (first | (with_reducible exact Below.refl _ _) | (with_reducible assumption) | (with_reducible refine below_drewN ?_ _) | (with_reducible refine Below.drew ?_) | (with_reducible refine below_new ?_ (Nat.le_refl _) _) | (with_reducible refine Below.setCell ?_ ?_ _) | (with_reducible refine below_go ?_ (by assumption) (Nat.le_refl _)) | (simp; done) | (simp; omega) | omega))⟩
      · have hmi : ¬ (i : Int) < (nb : Int) := by omega
        have hrs2 : res = a ++ ⟨#[69, 78, 68, 95, 73, 70, 59, 10]⟩ := by rw [HRES.out]; unfold topR; rw [if_neg (by decide), if_pos rfl, exprsS_len, HNC.out, ← HG.out, ← HA.out]; unfold elseS; rw [if_neg (by rw [blocksS_len, HNB.out]; exact hmore)]
        replace HRES := Lib.hid hrs2
        clear hrs2
        go_wp2
        go_ret
        exact ⟨by rw [HRES.out]; rfl, by have hq := HBr.out; (repeat' (first | (with_reducible exact Below.refl _ _) | (with_reducible assumption) | (with_reducible refine below_drewN ?_ _) | (with_reducible refine Below.drew ?_) | (with_reducible refine below_new ?_ (Nat.le_refl _) _) | (with_reducible refine Below.setCell ?_ ?_ _) | (with_reducible refine below_go ?_ (by assumption) (Nat.le_refl _)) | (simp; done) | (simp; omega) | omega))⟩

end Go.Proofs.Ytcamegfnhbbaeaa

namespace Go.Proofs.Ytcamegfnhbbaeaa
open Go.RowKit
set_option linter.unusedVariables false
set_option linter.unusedSimpArgs false
attribute [local go_sem] ite_max ite_min vite_max vite_min ext_cell ext_frozen

set_option maxRecDepth 100000 in
set_option maxHeartbeats 4000000 in
theorem row19_k3 (s : Stm) (m : SM) (w : World) (hin : RowIn19 s m w) (hop : s.op = 3) : Calls Try.prog 57 #[.agg (StmC s m).toArray] w fun e w' => e = .returned (.string (rowS s)) ∧ Below w.heap.size w w' := by
  have HEX := Lib.hid hin.expr
  have HRO := Lib.hid hin.rows
  have HSV := Lib.hid hin.sv
  obtain ⟨hfit, hfields, hbl⟩ := hin.fit.all
  have HFIT := Lib.hid hfit
  have HFF := Lib.hid hfields
  have HBF := Lib.hid hbl
  have HEV := Lib.hid (fitS_even hin.fit)
  have HND := Lib.hid hin.parts
  have HOP := Lib.hid hop
  have hres := rowS_top s
  obtain ⟨res, hr⟩ : ∃ r, rowS s = r := ⟨_, rfl⟩
  rw [hr, hop] at hres
  rw [hr]
  have HRES := Lib.hid hres
  obtain ⟨nc, hnc⟩ : ∃ n, s.conds.length = n := ⟨_, rfl⟩
  obtain ⟨nl, hnl⟩ : ∃ n, s.labels.length = n := ⟨_, rfl⟩
  obtain ⟨nf, hnf⟩ : ∃ n, s.fields.length = n := ⟨_, rfl⟩
  obtain ⟨nb, hnb⟩ : ∃ n, s.blocks.length = n := ⟨_, rfl⟩
  have HNC := Lib.hid hnc
  have HNL := Lib.hid hnl
  have HNF := Lib.hid hnf
  have HNB := Lib.hid hnb
  clear hin hop hres hr hfit hfields hbl hnc hnl hnf hnb
  go_enter Try.func57, Try.ntmps57
  go_upto_region 1 with (refine wpList_boxTo rfl 63 _ rfl _ rfl _ rfl (StmC s m).toArray rfl ?_)
  refine wp_name fun W hW => ?_
  obtain ⟨B, hB⟩ : ∃ B, B = w.heap.size := ⟨_, rfl⟩
  have hh : W.heap[B]? = some (.cells (StmC s m).toArray 63) := by rw [hW.out, hB]; exact heap_alloc_new _ _
  have hbel : Below w.heap.size w W := by rw [hW.out]; (repeat' (first | (with_reducible exact Below.refl _ _) | (with_reducible assumption) | (with_reducible refine below_drewN ?_ _) | (with_reducible refine Below.drew ?_) | (with_reducible refine below_new ?_ (Nat.le_refl _) _) | (with_reducible refine Below.setCell ?_ ?_ _) | (with_reducible refine below_go ?_ (by assumption) (Nat.le_refl _)) | (simp; done) | (simp; omega) | omega))
  have HV := Lib.hid (HSV.out W B hbel hh)
  have HB := Lib.hid hbel
  rw [← hB]
  have hwB : w.heap.size ≤ B := by omega
  clear hW hbel hB hh
  have c0 : W.cell? ⟨B, 0, none⟩ = some (.int .i64 3) := by have := HV.out.at0 0 _ rfl; rwa [HOP.out] at this
  have lB : B < W.heap.size := HV.out.lt
  have c8 := HV.out.at0 8 _ rfl
  have c9 := HV.out.at0 9 _ rfl
  have c10 := HV.out.at0 10 _ rfl
  have c11 := HV.out.at0 11 _ rfl
  have c12 := HV.out.at0 12 _ rfl
  have c13 := HV.out.at0 13 _ rfl
  have hsv := part_size (HFIT.out.srcOk)
  have hnv := HND.out.2.1
  obtain ⟨tv, htv⟩ : ∃ b, exprS s.src = b := ⟨_, rfl⟩
  rw [htv] at hsv
  have HTv : Hid (∀ W', Below W.heap.size W W' → Calls Try.prog 69 #[.agg #[.int .i64 s.src.op, .int .i64 s.src.n, .string s.src.name, .string s.src.field, .slice m.va s.src.sub.length m.vk, .int .i64 s.src.line]] W' fun e w' => e = .returned (.string tv) ∧ Below W'.heap.size W' w') := Lib.hid (fun W' hW' => by have := HEX.out s.src (HFIT.out.src1 (Or.inr (Or.inl HOP.out))) (HND.out.2.1) W' (HB.out.trans (hW'.mono HB.out.size)) _ _ (HV.out.src.keep hW'); rwa [htv] at this)
  have lnl1 := HV.out.labels.1
  have lnl2 := HV.out.labels.2.1
  rw [HNL.out] at lnl1
  have lnb1 := HV.out.blocks.1
  have lnb2 := HV.out.blocks.2.1
  rw [HNB.out] at lnb1
  have hc3 := HFIT.out.c3 HOP.out
  rw [HNL.out, HNB.out] at hc3
  obtain ⟨hc31, hc32⟩ := hc3
  have hnl24 : nl ≤ 16777216 := by have h1 := labN_len s.labels; rw [HNL.out] at h1; have h2 := HND.out.2.2.2.1; omega
  obtain ⟨G, hG⟩ : ∃ G, G = caseS tv s.labels (blocksS s.blocks) := ⟨_, rfl⟩
  have HG := Lib.hid hG
  have HG0 : Hid (G 0 = ((⟨#[67, 65, 83, 69, 32]⟩ : ByteArray) ++ tv) ++ ⟨#[32, 79, 70, 10]⟩) := Lib.hid (by rw [hG]; rfl)
  have hsz0 : (((⟨#[67, 65, 83, 69, 32]⟩ : ByteArray) ++ tv) ++ ⟨#[32, 79, 70, 10]⟩).size ≤ 4294967296 := by simp only [ByteArray.size_append, lits]; have hx := HND.out.2.1; omega
  have HSZ0 := Lib.hid hsz0
  have HTV := Lib.hid htv
  have hvv : tv.size ≤ 1073741824 := by have hx := HND.out.2.1; omega
  clear hG hsz0 htv hsv hnv
  go_wp2_with (refine wpList_load_mid rfl 39 _ rfl B 8 rfl (ExC s.src m.va m.vk) _ (svSrc HV.out) Try.underlying39 rfl expr_size ?_)
  refine (HTv.out _ (Below.refl _ _)).mono ?_
  rintro e w1 ⟨rfl, hb1⟩
  have HV1 := Lib.hid (HV.out.below hb1)
  have HB1 := Lib.hid (HB.out.trans (hb1.mono HB.out.size))
  clear hb1 HTv
  clear c0 lB c8 c9 c10 c11 c12 c13
  go_upto_region 19 with (fail)
  obtain ⟨W1, hW1⟩ : ∃ W1, W1 = w1 := ⟨_, rfl⟩
  rw [← hW1] at HV1 HB1 ⊢
  clear hW1
  go_loopw [3, 6] (fun vs vi wr => ∃ (i : Nat) (a : ByteArray), i ≤ nl ∧ vi = .int .i64 i ∧ vs = .string a ∧ a.size ≤ (i + 1) * 4294967296 ∧ Hid (a = G i) ∧ Below W1.heap.size W1 wr) (fun _ vi _ => nl - (intOf vi).toNat)
  case atStart => exact ⟨0, _, by omega, rfl, rfl, by have := HSZ0.out; omega, Lib.hid HG0.out.symm, Below.refl _ _⟩
  case round =>
    obtain ⟨i, a, hi, rfl, rfl, ha, HA, hbr⟩ := hrel
    have HVr := Lib.hid (HV1.out.below hbr)
    have HBr := Lib.hid (HB1.out.trans (hbr.mono HB1.out.size))
    have HS := Lib.hid hbr
    clear hbr
    have c0 : wr.cell? ⟨B, 0, none⟩ = some (.int .i64 3) := by have := HVr.out.at0 0 _ rfl; rwa [HOP.out] at this
    have lB : B < wr.heap.size := HVr.out.lt
    have c15 := HVr.out.at0 15 _ rfl
    rw [HNL.out] at c15
    have c17 := HVr.out.at0 17 _ rfl
    rw [HNB.out] at c17
    by_cases hlt : i < nl
    · have hi0 : (0 : Int) ≤ (i : Int) ∧ (i : Int) < (nl : Int) ∧ (i : Int) < (nb : Int) := by omega
      obtain ⟨bl, ol, zs, csl, hAl, hbl, hzl, ⟨Az, kz, hcsl, hrz⟩, hcl⟩ := RowOf.at HVr.out.labels (i := i) (by rw [HNL.out]; exact hlt)
      subst hcsl
      obtain ⟨nz, hnz⟩ : ∃ n, zs.length = n := ⟨_, rfl⟩
      have dl : wr.cell? ⟨bl, ol + i, none⟩ = some (.slice Az nz kz) := by have := hcl 0 (by omega); rw [← hnz]; simpa using this
      have hev : nz % 2 = 0 := by rw [← hnz]; exact HEV.out zs (List.mem_of_getElem? hzl)
      have hnz24 : nz ≤ 16777216 := by rw [← hnz]; have h1 := labN_get hzl; have h2 := HND.out.2.2.2.1; omega
      have lz1 := hrz.1
      have lz2 := hrz.2.1
      rw [hnz] at lz1
      have HRZ := Lib.hid hrz
      have HNZ := Lib.hid hnz
      have HZL : Hid (s.labels[i]? = some zs) := Lib.hid hzl
      have HDL : Hid (∀ W', Below wr.heap.size wr W' → W'.cell? ⟨bl, ol + i, none⟩ = some (.slice Az nz kz) ∧ bl < W'.heap.size) := Lib.hid (fun W' hW' => ⟨(hW'.cell (p := ⟨bl, ol + i, none⟩) hbl).trans dl, Nat.lt_of_lt_of_le hbl hW'.size⟩)
      have HAL := Lib.hid hAl
      obtain ⟨Y, hY⟩ : ∃ Y, Y = fun j => labS zs j a := ⟨_, rfl⟩
      have HY := Lib.hid hY
      have HY0 : Hid (Y 0 = a) := Lib.hid (by rw [hY]; rfl)
      rw [hAl] at c15
      clear hcl hrz hnz hzl hAl hY
      go_upto_region 22 with (fail)
      obtain ⟨wo, rfl⟩ : ∃ wo : World, wo = wr := ⟨_, rfl⟩
      clear c0 lB c15 c17
      clear dl hbl
      go_loopw [3, 7] (fun vs vk wr => ∃ (j : Nat) (b : ByteArray), 2 * j ≤ nz ∧ vk = .int .i64 (2 * j : Nat) ∧ vs = .string b ∧ b.size ≤ (i + 1) * 4294967296 + 48 * j ∧ Hid (b = Y j) ∧ Below wo.heap.size wo wr) (fun _ vk _ => nz - (intOf vk).toNat)
      case atStart => exact ⟨0, a, Nat.zero_le _, rfl, rfl, Nat.le_trans ha (Nat.le_add_right _ _), Lib.hid HY0.out.symm, Below.refl _ _⟩
      case round =>
        obtain ⟨j, b, hj, rfl, rfl, hb, HBJ, hbk⟩ := hrel
        have HVk := Lib.hid (HVr.out.below hbk)
        have HBk := Lib.hid (HBr.out.trans (hbk.mono HBr.out.size))
        have HK := Lib.hid hbk
        obtain ⟨dl, hbl⟩ := HDL.out _ hbk
        have hrzk := RowOf.mono HRZ.out (HK.out) (fun _ _ _ h => h)
        clear hbk
        have c0 : wr.cell? ⟨B, 0, none⟩ = some (.int .i64 3) := by have := HVk.out.at0 0 _ rfl; rwa [HOP.out] at this
        have lB : B < wr.heap.size := HVk.out.lt
        have c15 := HVk.out.at0 15 _ rfl
        rw [HNL.out] at c15
        have c17 := HVk.out.at0 17 _ rfl
        rw [HNB.out] at c17
        rw [HAL.out] at c15
        by_cases hlk : 2 * j < nz
        · have hk0 : (0 : Int) ≤ ((2 * j : Nat) : Int) ∧ ((2 * j : Nat) : Int) < (nz : Int) ∧ ((2 * j : Nat) : Int) + 1 < (nz : Int) := by omega
          obtain ⟨bz, oz, z0, cz0, hAz, hbz, hz0, ⟨hcz0, hi0z⟩, hc0z⟩ := RowOf.at hrzk (i := 2 * j) (by rw [HNZ.out]; exact hlk)
          obtain ⟨bz', oz', z1, cz1, hAz', hbz', hz1, ⟨hcz1, hi1z⟩, hc1z⟩ := RowOf.at hrzk (i := 2 * j + 1) (by rw [HNZ.out]; omega)
          have he : bz' = bz ∧ oz' = oz := by rw [hAz] at hAz'; cases hAz'; exact ⟨rfl, rfl⟩
          have he1 := he.1
          have he2 := he.2
          clear he
          subst he1 he2 hcz0 hcz1
          obtain ⟨k, hk⟩ : ∃ k, 2 * j = k := ⟨_, rfl⟩
          have e0 : wr.cell? ⟨bz', oz' + k, none⟩ = some (.int .i64 z0) := by have := hc0z 0 (by omega); rw [← hk]; simpa using this
          have e1 : wr.cell? ⟨bz', oz' + (k + 1), none⟩ = some (.int .i64 z1) := by have := hc1z 0 (by omega); rw [← hk]; simpa using this
          have hx0 : zs[k]?.getD 0 = z0 := by rw [← hk, hz0]; rfl
          have hx1 : zs[k + 1]?.getD 0 = z1 := by rw [← hk, hz1]; rfl
          rw [hAz] at dl
          have HI0Z : Hid (-9223372036854775808 ≤ z0 ∧ z0 ≤ 9223372036854775807) := Lib.hid hi0z
          have HI1Z : Hid (-9223372036854775808 ≤ z1 ∧ z1 ≤ 9223372036854775807) := Lib.hid hi1z
          obtain ⟨n0, hn0⟩ : ∃ n, numS z0 = n := ⟨_, rfl⟩
          obtain ⟨n1, hn1⟩ : ∃ n, numS z1 = n := ⟨_, rfl⟩
          have hm0 := numS_size z0
          have hm1 := numS_size z1
          rw [hn0] at hm0
          rw [hn1] at hm1
          have HN0 : Hid (∀ W, Calls Try.prog 30 #[.int .i64 z0] W fun e w' => e = .returned (.string n0) ∧ W = w') := Lib.hid (fun W => by have := num19 z0 HI0Z.out W; rwa [hn0] at this)
          have HN1 : Hid (∀ W, Calls Try.prog 30 #[.int .i64 z1] W fun e w' => e = .returned (.string n1) ∧ W = w') := Lib.hid (fun W => by have := num19 z1 HI1Z.out W; rwa [hn1] at this)
          have hstep : Y (j + 1) = if z0 ≠ z1 then ((if 0 < j then b ++ ⟨#[44, 32]⟩ else b) ++ n0) ++ ((⟨#[46, 46]⟩ : ByteArray) ++ n1) else (if 0 < j then b ++ ⟨#[44, 32]⟩ else b) ++ n0 := by rw [HBJ.out, HY.out]; show labS zs (j + 1) a = _; rw [labS]; simp only []; rw [hk, hx0, hx1, hn0, hn1]
          have HSP := Lib.hid hstep
          have HKJ := Lib.hid hk
          rw [hk] at hk0 hlk ⊢
          clear hstep hx0 hx1 hn0 hn1 hz0 hz1 hc0z hc1z hAz hAz' hrzk hi0z hi1z hk hbz
          by_cases hj0 : 0 < j
          · have hj1 : (0 : Int) < (k : Int) := by have := HKJ.out; omega
            have HJ0 := Lib.hid hj0
            clear hj0
            by_cases hzz : z0 = z1
            · have hq1 : (z0 == z1) = true := by simp [hzz]
              have hq2 : (z0 != z1) = false := by simp [hzz]
              have HQ := Lib.hid hzz
              clear hzz
              go_wp2_with fail
              refine (HN0.out _).mono ?_
              rintro e w' ⟨rfl, rfl⟩
              go_upto_region 27 with (fail)
              refine wp_region_ext (by kernel_rfl) (by kernel_rfl) ?_
              repeat (go_big_quiet_step (fail))
              refine wpQuiet_nil ?_
              intro w7 hb7
              replace hb7 := ext_below hb7
              have dl7 := (hb7.cell (p := ⟨bl, ol + i, none⟩) hbl).trans dl
              have e17 := (hb7.cell (p := ⟨bz', oz' + (k + 1), none⟩) hbz').trans e1
              have c157 := (hb7.cell (p := ⟨B, 15, none⟩) lB).trans c15
              have HK7 := Lib.hid (HK.out.trans (hb7.mono HK.out.size))
              have z7 := hb7.size
              have lB7 : B < w7.heap.size := by omega
              have lbl7 : bl < w7.heap.size := by omega
              have lbz7 : bz' < w7.heap.size := by omega
              clear hb7 dl e0 e1 c0 c15 c17 lB hbl hbz'
              have hst : Y (j + 1) = (b ++ ⟨#[44, 32]⟩) ++ n0 := by rw [HSP.out, if_neg (fun h => h HQ.out), if_pos HJ0.out]
              have HST := Lib.hid hst
              clear hst
              go_wp2
              go_roundw
              case rel => exact ⟨j + 1, _, by have := HKJ.out; omega, by have := HKJ.out; go_num; first | done | omega | (congr 1; omega), rfl, by simp only [ByteArray.size_append, lits]; omega, Lib.hid HST.out.symm, HK7.out⟩
              case measure => simp [intOf]; omega
            · have hq1 : (z0 == z1) = false := by simp [hzz]
              have hq2 : (z0 != z1) = true := by simp [hzz]
              have HQ : Hid (z0 ≠ z1) := Lib.hid hzz
              clear hzz
              go_wp2_with fail
              refine (HN0.out _).mono ?_
              rintro e w' ⟨rfl, rfl⟩
              go_upto_region 27 with (fail)
              refine wp_region_ext (by kernel_rfl) (by kernel_rfl) ?_
              repeat (go_big_quiet_step (fail))
              refine wpQuiet_nil ?_
              intro w7 hb7
              replace hb7 := ext_below hb7
              have dl7 := (hb7.cell (p := ⟨bl, ol + i, none⟩) hbl).trans dl
              have e17 := (hb7.cell (p := ⟨bz', oz' + (k + 1), none⟩) hbz').trans e1
              have c157 := (hb7.cell (p := ⟨B, 15, none⟩) lB).trans c15
              have HK7 := Lib.hid (HK.out.trans (hb7.mono HK.out.size))
              have z7 := hb7.size
              have lB7 : B < w7.heap.size := by omega
              have lbl7 : bl < w7.heap.size := by omega
              have lbz7 : bz' < w7.heap.size := by omega
              clear hb7 dl e0 e1 c0 c15 c17 lB hbl hbz'
              go_wp2_with fail
              refine (HN1.out _).mono ?_
              rintro e w' ⟨rfl, rfl⟩
              have hst : Y (j + 1) = ((b ++ ⟨#[44, 32]⟩) ++ n0) ++ ((⟨#[46, 46]⟩ : ByteArray) ++ n1) := by rw [HSP.out, if_pos HQ.out, if_pos HJ0.out]
              have HST := Lib.hid hst
              clear hst
              go_wp2
              go_roundw
              case rel => exact ⟨j + 1, _, by have := HKJ.out; omega, by have := HKJ.out; go_num; first | done | omega | (congr 1; omega), rfl, by simp only [ByteArray.size_append, lits]; omega, Lib.hid HST.out.symm, HK7.out⟩
              case measure => simp [intOf]; omega
          · have hj1 : ¬ (0 : Int) < (k : Int) := by have := HKJ.out; omega
            have HJ0 := Lib.hid hj0
            clear hj0
            by_cases hzz : z0 = z1
            · have hq1 : (z0 == z1) = true := by simp [hzz]
              have hq2 : (z0 != z1) = false := by simp [hzz]
              have HQ := Lib.hid hzz
              clear hzz
              go_wp2_with fail
              refine (HN0.out _).mono ?_
              rintro e w' ⟨rfl, rfl⟩
              go_upto_region 27 with (fail)
              refine wp_region_ext (by kernel_rfl) (by kernel_rfl) ?_
              repeat (go_big_quiet_step (fail))
              refine wpQuiet_nil ?_
              intro w7 hb7
              replace hb7 := ext_below hb7
              have dl7 := (hb7.cell (p := ⟨bl, ol + i, none⟩) hbl).trans dl
              have e17 := (hb7.cell (p := ⟨bz', oz' + (k + 1), none⟩) hbz').trans e1
              have c157 := (hb7.cell (p := ⟨B, 15, none⟩) lB).trans c15
              have HK7 := Lib.hid (HK.out.trans (hb7.mono HK.out.size))
              have z7 := hb7.size
              have lB7 : B < w7.heap.size := by omega
              have lbl7 : bl < w7.heap.size := by omega
              have lbz7 : bz' < w7.heap.size := by omega
              clear hb7 dl e0 e1 c0 c15 c17 lB hbl hbz'
              have hst : Y (j + 1) = (b) ++ n0 := by rw [HSP.out, if_neg (fun h => h HQ.out), if_neg HJ0.out]
              have HST := Lib.hid hst
              clear hst
              go_wp2
              go_roundw
              case rel => exact ⟨j + 1, _, by have := HKJ.out; omega, by have := HKJ.out; go_num; first | done | omega | (congr 1; omega), rfl, by simp only [ByteArray.size_append, lits]; omega, Lib.hid HST.out.symm, HK7.out⟩
              case measure => simp [intOf]; omega
            · have hq1 : (z0 == z1) = false := by simp [hzz]
              have hq2 : (z0 != z1) = true := by simp [hzz]
              have HQ : Hid (z0 ≠ z1) := Lib.hid hzz
              clear hzz
              go_wp2_with fail
              refine (HN0.out _).mono ?_
              rintro e w' ⟨rfl, rfl⟩
              go_upto_region 27 with (fail)
              refine wp_region_ext (by kernel_rfl) (by kernel_rfl) ?_
              repeat (go_big_quiet_step (fail))
              refine wpQuiet_nil ?_
              intro w7 hb7
              replace hb7 := ext_below hb7
              have dl7 := (hb7.cell (p := ⟨bl, ol + i, none⟩) hbl).trans dl
              have e17 := (hb7.cell (p := ⟨bz', oz' + (k + 1), none⟩) hbz').trans e1
              have c157 := (hb7.cell (p := ⟨B, 15, none⟩) lB).trans c15
              have HK7 := Lib.hid (HK.out.trans (hb7.mono HK.out.size))
              have z7 := hb7.size
              have lB7 : B < w7.heap.size := by omega
              have lbl7 : bl < w7.heap.size := by omega
              have lbz7 : bz' < w7.heap.size := by omega
              clear hb7 dl e0 e1 c0 c15 c17 lB hbl hbz'
              go_wp2_with fail
              refine (HN1.out _).mono ?_
              rintro e w' ⟨rfl, rfl⟩
              have hst : Y (j + 1) = ((b) ++ n0) ++ ((⟨#[46, 46]⟩ : ByteArray) ++ n1) := by rw [HSP.out, if_pos HQ.out, if_neg HJ0.out]
              have HST := Lib.hid hst
              clear hst
              go_wp2
              go_roundw
              case rel => exact ⟨j + 1, _, by have := HKJ.out; omega, by have := HKJ.out; go_num; first | done | omega | (congr 1; omega), rfl, by simp only [ByteArray.size_append, lits]; omega, Lib.hid HST.out.symm, HK7.out⟩
              case measure => simp [intOf]; omega
        · have hkz : nz = 2 * j := by omega
          have hge : ¬ ((2 * j : Nat) : Int) < (nz : Int) := by omega
          obtain ⟨bbb, obb, blb, csb, hAb, hbb, hzb, ⟨Ab, kb, hcsb, hrb⟩, hcb⟩ := RowOf.at HVk.out.blocks (i := i) (by rw [HNB.out]; omega)
          subst hcsb
          obtain ⟨tb, htb⟩ : ∃ b, rowsS blb = b := ⟨_, rfl⟩
          have hsb : tb.size ≤ 1073741824 := by rw [← htb]; have h1 := rowsS_size blb (HBF.out blb (List.mem_of_getElem? hzb)); have h2 := nodesBs_get hzb; have h3 := HND.out.2.2.2.2.2; omega
          have HTb : Hid (∀ W', Below wr.heap.size wr W' → Calls Try.prog 32 #[.slice Ab blb.length kb] W' fun e w' => e = .returned (.string tb) ∧ Below W'.heap.size W' w') := Lib.hid (fun W' hW' => by have := HRO.out blb (List.mem_of_getElem? hzb) W' (HBk.out.trans (hW'.mono HBk.out.size)) _ _ (hrb.below hW'); rwa [htb] at this)
          have hatb : atB (blocksS s.blocks) (i) = tb := by rw [atB_blocks hzb, htb]
          have db : wr.cell? ⟨bbb, obb + i, none⟩ = some (.slice Ab blb.length kb) := by have := hcb 0 (by omega); simpa using this
          have hkb := hrb.1
          have hlb := hrb.2.1
          rw [hAb] at c17
          clear hcb hrb hAb
          have hst : G (i + 1) = b ++ ((⟨#[58, 10]⟩ : ByteArray) ++ tb) := by rw [HG.out]; show labS (s.labels[i]?.getD []) ((s.labels[i]?.getD []).length / 2) (caseS _ _ _ i) ++ (_ ++ atB _ i) = _; rw [hatb, HZL.out, ← HG.out, ← HA.out, HBJ.out, HY.out]; show labS zs (zs.length / 2) a ++ _ = labS zs j a ++ _; rw [show zs.length / 2 = j by rw [HNZ.out]; omega]
          have HST := Lib.hid hst
          have HKZ := Lib.hid hkz
          clear hst hatb htb hrzk hkz
          go_wp2_with fail
          refine (HTb.out _ (Below.refl _ _)).mono ?_
          rintro e w' ⟨rfl, hb7⟩
          have HS7 := Lib.hid ((HS.out.trans (HK.out.mono HS.out.size)).trans (hb7.mono (HS.out.trans (HK.out.mono HS.out.size)).size))
          clear hb7 c0 lB db c15 c17 dl hbl
          go_wp2
          go_roundw
          case rel => exact ⟨i + 1, _, by omega, by go_num, rfl, by simp only [ByteArray.size_append, lits]; have := HKZ.out; omega, Lib.hid HST.out.symm, HS7.out⟩
          case measure => simp [intOf]; omega
    · obtain rfl : i = nl := by omega
      have hge : ¬ (i : Int) < (i : Int) := by omega
      by_cases hmore : i < nb
      · have hmi : (i : Int) < (nb : Int) ∧ (0 : Int) ≤ (i : Int) := by omega
        obtain ⟨bbb, obb, blb, csb, hAb, hbb, hzb, ⟨Ab, kb, hcsb, hrb⟩, hcb⟩ := RowOf.at HVr.out.blocks (i := i) (by rw [HNB.out]; exact hmore)
        subst hcsb
        obtain ⟨tb, htb⟩ : ∃ b, rowsS blb = b := ⟨_, rfl⟩
        have hsb : tb.size ≤ 1073741824 := by rw [← htb]; have h1 := rowsS_size blb (HBF.out blb (List.mem_of_getElem? hzb)); have h2 := nodesBs_get hzb; have h3 := HND.out.2.2.2.2.2; omega
        have HTb : Hid (∀ W', Below wr.heap.size wr W' → Calls Try.prog 32 #[.slice Ab blb.length kb] W' fun e w' => e = .returned (.string tb) ∧ Below W'.heap.size W' w') := Lib.hid (fun W' hW' => by have := HRO.out blb (List.mem_of_getElem? hzb) W' (HBr.out.trans (hW'.mono HBr.out.size)) _ _ (hrb.below hW'); rwa [htb] at this)
        have hatb : atB (blocksS s.blocks) (i) = tb := by rw [atB_blocks hzb, htb]
        have db : wr.cell? ⟨bbb, obb + i, none⟩ = some (.slice Ab blb.length kb) := by have := hcb 0 (by omega); simpa using this
        have hkb := hrb.1
        have hlb := hrb.2.1
        rw [hAb] at c17
        clear hcb hrb hAb
        have hrs2 : res = (a ++ ((⟨#[69, 76, 83, 69, 10]⟩ : ByteArray) ++ tb)) ++ ⟨#[69, 78, 68, 95, 67, 65, 83, 69, 59, 10]⟩ := by rw [HRES.out]; unfold topR; rw [if_neg (by decide), if_neg (by decide), if_pos rfl, HTV.out, HNL.out, ← HG.out, ← HA.out]; unfold elseS; rw [if_pos (by rw [blocksS_len, HNB.out]; exact hmore), hatb]
        replace HRES := Lib.hid hrs2
        clear hrs2 htb hatb
        go_wp2_with fail
        refine (HTb.out _ (Below.refl _ _)).mono ?_
        rintro e w' ⟨rfl, hb7⟩
        have HB2 := Lib.hid (HBr.out.trans (hb7.mono HBr.out.size))
        clear hb7 c0 lB db c15 c17
        go_wp2
        go_ret
        exact ⟨by rw [HRES.out]; rfl, by have hq := HB2.out; (repeat' (first | (with_reducible exact Below.refl _ _) | (with_reducible assumption) | (with_reducible refine below_drewN ?_ _) | (with_reducible refine Below.drew ?_) | (with_reducible refine below_new ?_ (Nat.le_refl _) _) | (with_reducible refine Below.setCell ?_ ?_ _) | (with_reducible refine below_go ?_ (by assumption) (Nat.le_refl _)) | (simp; done) | (simp; omega) | omega))⟩
      · have hmi : ¬ (i : Int) < (nb : Int) := by omega
        have hrs2 : res = a ++ ⟨#[69, 78, 68, 95, 67, 65, 83, 69, 59, 10]⟩ := by rw [HRES.out]; unfold topR; rw [if_neg (by decide), if_neg (by decide), if_pos rfl, HTV.out, HNL.out, ← HG.out, ← HA.out]; unfold elseS; rw [if_neg (by rw [blocksS_len, HNB.out]; exact hmore)]
        replace HRES := Lib.hid hrs2
        clear hrs2
        go_wp2
        go_ret
        exact ⟨by rw [HRES.out]; rfl, by have hq := HBr.out; (repeat' (first | (with_reducible exact Below.refl _ _) | (with_reducible assumption) | (with_reducible refine below_drewN ?_ _) | (with_reducible refine Below.drew ?_) | (with_reducible refine below_new ?_ (Nat.le_refl _) _) | (with_reducible refine Below.setCell ?_ ?_ _) | (with_reducible refine below_go ?_ (by assumption) (Nat.le_refl _)) | (simp; done) | (simp; omega) | omega))⟩

end Go.Proofs.Ytcamegfnhbbaeaa

namespace Go.Proofs.Ytcamegfnhbbaeaa
open Go.RowKit
set_option linter.unusedVariables false
set_option linter.unusedSimpArgs false
attribute [local go_sem] ite_max ite_min vite_max vite_min ext_cell ext_frozen

set_option maxRecDepth 100000 in
set_option maxHeartbeats 4000000 in
theorem row19_k4 (s : Stm) (m : SM) (w : World) (hin : RowIn19 s m w) (hop : s.op = 4) : Calls Try.prog 57 #[.agg (StmC s m).toArray] w fun e w' => e = .returned (.string (rowS s)) ∧ Below w.heap.size w w' := by
  have HEX := Lib.hid hin.expr
  have HRO := Lib.hid hin.rows
  have HSV := Lib.hid hin.sv
  obtain ⟨hfit, hfields, hbl⟩ := hin.fit.all
  have HFIT := Lib.hid hfit
  have HFF := Lib.hid hfields
  have HBF := Lib.hid hbl
  have HEV := Lib.hid (fitS_even hin.fit)
  have HND := Lib.hid hin.parts
  have HOP := Lib.hid hop
  have hres := rowS_top s
  obtain ⟨res, hr⟩ : ∃ r, rowS s = r := ⟨_, rfl⟩
  rw [hr, hop] at hres
  rw [hr]
  have HRES := Lib.hid hres
  obtain ⟨nc, hnc⟩ : ∃ n, s.conds.length = n := ⟨_, rfl⟩
  obtain ⟨nl, hnl⟩ : ∃ n, s.labels.length = n := ⟨_, rfl⟩
  obtain ⟨nf, hnf⟩ : ∃ n, s.fields.length = n := ⟨_, rfl⟩
  obtain ⟨nb, hnb⟩ : ∃ n, s.blocks.length = n := ⟨_, rfl⟩
  have HNC := Lib.hid hnc
  have HNL := Lib.hid hnl
  have HNF := Lib.hid hnf
  have HNB := Lib.hid hnb
  clear hin hop hres hr hfit hfields hbl hnc hnl hnf hnb
  go_enter Try.func57, Try.ntmps57
  go_upto_region 1 with (refine wpList_boxTo rfl 63 _ rfl _ rfl _ rfl (StmC s m).toArray rfl ?_)
  refine wp_name fun W hW => ?_
  obtain ⟨B, hB⟩ : ∃ B, B = w.heap.size := ⟨_, rfl⟩
  have hh : W.heap[B]? = some (.cells (StmC s m).toArray 63) := by rw [hW.out, hB]; exact heap_alloc_new _ _
  have hbel : Below w.heap.size w W := by rw [hW.out]; (repeat' (first | (with_reducible exact Below.refl _ _) | (with_reducible assumption) | (with_reducible refine below_drewN ?_ _) | (with_reducible refine Below.drew ?_) | (with_reducible refine below_new ?_ (Nat.le_refl _) _) | (with_reducible refine Below.setCell ?_ ?_ _) | (with_reducible refine below_go ?_ (by assumption) (Nat.le_refl _)) | (simp; done) | (simp; omega) | omega))
  have HV := Lib.hid (HSV.out W B hbel hh)
  have HB := Lib.hid hbel
  rw [← hB]
  have hwB : w.heap.size ≤ B := by omega
  clear hW hbel hB hh
  have hnb1 : nb = 1 := by rw [← HNB.out]; exact (HFIT.out.c4 HOP.out).2
  subst hnb1
  have hnc1 : nc = 3 := by rw [← HNC.out]; exact (HFIT.out.c4 HOP.out).1
  subst hnc1
  have hnm := HFIT.out.nm
  obtain ⟨nm, hnm2⟩ : ∃ b, s.name = b := ⟨_, rfl⟩
  rw [hnm2] at hnm
  have c0 : W.cell? ⟨B, 0, none⟩ = some (.int .i64 4) := by have := HV.out.at0 0 _ rfl; rwa [HOP.out] at this
  have lB : B < W.heap.size := HV.out.lt
  have c1 := HV.out.at0 1 _ rfl
  have c14 := HV.out.at0 14 _ rfl
  rw [HNC.out] at c14
  have c17 := HV.out.at0 17 _ rfl
  rw [HNB.out] at c17
  rw [hnm2] at c1
  obtain ⟨bqp, oqp, yp, Asp, ksp, hAp, hbp, hyp, hyap, hysp, hrgp⟩ := RowE.at HV.out.conds (i := 0) (by rw [HNC.out]; omega)
  obtain ⟨tp, htp⟩ : ∃ b, exprS yp = b := ⟨_, rfl⟩
  have hndp : nodesE yp ≤ 16777216 := Nat.le_trans (nodesEs_get hyp) HND.out.2.2.1
  have hsp : tp.size ≤ 1073741824 := by rw [← htp]; have h1 := exprS_size yp (HFIT.out.conds yp (List.mem_of_getElem? hyp)); omega
  have HTp : Hid (∀ W', Below W.heap.size W W' → Calls Try.prog 69 #[.agg #[.int .i64 yp.op, .int .i64 yp.n, .string yp.name, .string yp.field, .slice Asp yp.sub.length ksp, .int .i64 yp.line]] W' fun e w' => e = .returned (.string tp) ∧ Below W'.heap.size W' w') := Lib.hid (fun W' hW' => by have := HEX.out yp (HFIT.out.conds yp (List.mem_of_getElem? hyp)) hndp W' (HB.out.trans (hW'.mono HB.out.size)) _ _ (hyap.keep hW'); rwa [htp] at this)
  have hatp : atB (exprsS s.conds) (0) = tp := by rw [atB_exprs hyp, htp]
  have zp0 : W.cell? ⟨bqp, oqp, none⟩ = some (.int .i64 yp.op) := by have := hrgp 0 _ rfl; simpa using this
  have zp1 : W.cell? ⟨bqp, oqp + 1, none⟩ = some (.int .i64 yp.n) := by have := hrgp 1 _ rfl; simpa using this
  have zp2 : W.cell? ⟨bqp, oqp + 2, none⟩ = some (.string yp.name) := by have := hrgp 2 _ rfl; simpa using this
  have zp3 : W.cell? ⟨bqp, oqp + 3, none⟩ = some (.string yp.field) := by have := hrgp 3 _ rfl; simpa using this
  have zp4 : W.cell? ⟨bqp, oqp + 4, none⟩ = some (.slice Asp yp.sub.length ksp) := by have := hrgp 4 _ rfl; simpa using this
  have zp5 : W.cell? ⟨bqp, oqp + 5, none⟩ = some (.int .i64 yp.line) := by have := hrgp 5 _ rfl; simpa using this
  obtain ⟨bqq, oqq, yq, Asq, ksq, hAq, hbq, hyq, hyaq, hysq, hrgq⟩ := RowE.at HV.out.conds (i := 1) (by rw [HNC.out]; omega)
  obtain ⟨tq, htq⟩ : ∃ b, exprS yq = b := ⟨_, rfl⟩
  have hndq : nodesE yq ≤ 16777216 := Nat.le_trans (nodesEs_get hyq) HND.out.2.2.1
  have hsq : tq.size ≤ 1073741824 := by rw [← htq]; have h1 := exprS_size yq (HFIT.out.conds yq (List.mem_of_getElem? hyq)); omega
  have HTq : Hid (∀ W', Below W.heap.size W W' → Calls Try.prog 69 #[.agg #[.int .i64 yq.op, .int .i64 yq.n, .string yq.name, .string yq.field, .slice Asq yq.sub.length ksq, .int .i64 yq.line]] W' fun e w' => e = .returned (.string tq) ∧ Below W'.heap.size W' w') := Lib.hid (fun W' hW' => by have := HEX.out yq (HFIT.out.conds yq (List.mem_of_getElem? hyq)) hndq W' (HB.out.trans (hW'.mono HB.out.size)) _ _ (hyaq.keep hW'); rwa [htq] at this)
  have hatq : atB (exprsS s.conds) (1) = tq := by rw [atB_exprs hyq, htq]
  have heq : bqp = bqq ∧ oqp = oqq := by rw [hAp] at hAq; cases hAq; exact ⟨rfl, rfl⟩
  have he1q := heq.1
  have he2q := heq.2
  clear heq
  subst he1q he2q
  have zq0 : W.cell? ⟨bqp, oqp + 6, none⟩ = some (.int .i64 yq.op) := by have := hrgq 0 _ rfl; simpa using this
  have zq1 : W.cell? ⟨bqp, oqp + 6 + 1, none⟩ = some (.int .i64 yq.n) := by have := hrgq 1 _ rfl; simpa using this
  have zq2 : W.cell? ⟨bqp, oqp + 6 + 2, none⟩ = some (.string yq.name) := by have := hrgq 2 _ rfl; simpa using this
  have zq3 : W.cell? ⟨bqp, oqp + 6 + 3, none⟩ = some (.string yq.field) := by have := hrgq 3 _ rfl; simpa using this
  have zq4 : W.cell? ⟨bqp, oqp + 6 + 4, none⟩ = some (.slice Asq yq.sub.length ksq) := by have := hrgq 4 _ rfl; simpa using this
  have zq5 : W.cell? ⟨bqp, oqp + 6 + 5, none⟩ = some (.int .i64 yq.line) := by have := hrgq 5 _ rfl; simpa using this
  obtain ⟨bqr, oqr, yr, Asr, ksr, hAr, hbr, hyr, hyar, hysr, hrgr⟩ := RowE.at HV.out.conds (i := 2) (by rw [HNC.out]; omega)
  obtain ⟨tr, htr⟩ : ∃ b, exprS yr = b := ⟨_, rfl⟩
  have hndr : nodesE yr ≤ 16777216 := Nat.le_trans (nodesEs_get hyr) HND.out.2.2.1
  have hsr : tr.size ≤ 1073741824 := by rw [← htr]; have h1 := exprS_size yr (HFIT.out.conds yr (List.mem_of_getElem? hyr)); omega
  have HTr : Hid (∀ W', Below W.heap.size W W' → Calls Try.prog 69 #[.agg #[.int .i64 yr.op, .int .i64 yr.n, .string yr.name, .string yr.field, .slice Asr yr.sub.length ksr, .int .i64 yr.line]] W' fun e w' => e = .returned (.string tr) ∧ Below W'.heap.size W' w') := Lib.hid (fun W' hW' => by have := HEX.out yr (HFIT.out.conds yr (List.mem_of_getElem? hyr)) hndr W' (HB.out.trans (hW'.mono HB.out.size)) _ _ (hyar.keep hW'); rwa [htr] at this)
  have hatr : atB (exprsS s.conds) (2) = tr := by rw [atB_exprs hyr, htr]
  have her : bqp = bqr ∧ oqp = oqr := by rw [hAp] at hAr; cases hAr; exact ⟨rfl, rfl⟩
  have he1r := her.1
  have he2r := her.2
  clear her
  subst he1r he2r
  have zr0 : W.cell? ⟨bqp, oqp + 12, none⟩ = some (.int .i64 yr.op) := by have := hrgr 0 _ rfl; simpa using this
  have zr1 : W.cell? ⟨bqp, oqp + 12 + 1, none⟩ = some (.int .i64 yr.n) := by have := hrgr 1 _ rfl; simpa using this
  have zr2 : W.cell? ⟨bqp, oqp + 12 + 2, none⟩ = some (.string yr.name) := by have := hrgr 2 _ rfl; simpa using this
  have zr3 : W.cell? ⟨bqp, oqp + 12 + 3, none⟩ = some (.string yr.field) := by have := hrgr 3 _ rfl; simpa using this
  have zr4 : W.cell? ⟨bqp, oqp + 12 + 4, none⟩ = some (.slice Asr yr.sub.length ksr) := by have := hrgr 4 _ rfl; simpa using this
  have zr5 : W.cell? ⟨bqp, oqp + 12 + 5, none⟩ = some (.int .i64 yr.line) := by have := hrgr 5 _ rfl; simpa using this
  rw [hAp] at c14
  obtain ⟨bbb, obb, blb, csb, hAb, hbb, hzb, ⟨Ab, kb, hcsb, hrb⟩, hcb⟩ := RowOf.at HV.out.blocks (i := 0) (by rw [HNB.out]; omega)
  subst hcsb
  obtain ⟨tb, htb⟩ : ∃ b, rowsS blb = b := ⟨_, rfl⟩
  have hsb : tb.size ≤ 1073741824 := by rw [← htb]; have h1 := rowsS_size blb (HBF.out blb (List.mem_of_getElem? hzb)); have h2 := nodesBs_get hzb; have h3 := HND.out.2.2.2.2.2; omega
  have HTb : Hid (∀ W', Below W.heap.size W W' → Calls Try.prog 32 #[.slice Ab blb.length kb] W' fun e w' => e = .returned (.string tb) ∧ Below W'.heap.size W' w') := Lib.hid (fun W' hW' => by have := HRO.out blb (List.mem_of_getElem? hzb) W' (HB.out.trans (hW'.mono HB.out.size)) _ _ (hrb.below hW'); rwa [htb] at this)
  have hatb : atB (blocksS s.blocks) (0) = tb := by rw [atB_blocks hzb, htb]
  have db : W.cell? ⟨bbb, obb, none⟩ = some (.slice Ab blb.length kb) := by have := hcb 0 (by omega); simpa using this
  have hkb := hrb.1
  have hlb := hrb.2.1
  rw [hAb] at c17
  clear hcb hrb hAb
  have hrs2 : res = (((((((((⟨#[70, 79, 82, 32]⟩ : ByteArray) ++ nm) ++ ⟨#[32, 58, 61, 32]⟩) ++ tp) ++ ⟨#[32, 84, 79, 32]⟩) ++ tq) ++ ⟨#[32, 66, 89, 32]⟩) ++ tr) ++ ⟨#[32, 68, 79, 10]⟩) ++ tb ++ ⟨#[69, 78, 68, 95, 70, 79, 82, 59, 10]⟩ := by rw [HRES.out, hnm2]; unfold topR; rw [hatp, hatq, hatr, hatb]; rfl
  replace HRES := Lib.hid hrs2
  clear hrs2 htb hatb htp hatp htq hatq htr hatr
  go_upto_region 34 with (fail)
  refine wp_region_ext (by kernel_rfl) (by kernel_rfl) ?_
  repeat (go_big_quiet_step (first | (go_at_call 69; (with_reducible refine ext_call (HTp.out _ (ext_below ⟨_, rfl⟩)))) | (go_at_call 69; (with_reducible refine ext_call (HTq.out _ (ext_below ⟨_, rfl⟩)))) | (go_at_call 69; (with_reducible refine ext_call (HTr.out _ (ext_below ⟨_, rfl⟩)))) | (go_at_call 32; (with_reducible refine ext_call (HTb.out _ (ext_below ⟨_, rfl⟩))))))
  refine wpQuiet_nil ?_
  intro w7 hb7
  replace hb7 := ext_below hb7
  have HB1 := Lib.hid (HB.out.trans (hb7.mono HB.out.size))
  clear hb7 c0 lB db c1 c14 c17 zp0 zp1 zp2 zp3 zp4 zp5 zq0 zq1 zq2 zq3 zq4 zq5 zr0 zr1 zr2 zr3 zr4 zr5
  go_wp2
  go_ret
  exact ⟨by rw [HRES.out]; rfl, by have hq := HB1.out; (repeat' (first | (with_reducible exact Below.refl _ _) | (with_reducible assumption) | (with_reducible refine below_drewN ?_ _) | (with_reducible refine Below.drew ?_) | (with_reducible refine below_new ?_ (Nat.le_refl _) _) | (with_reducible refine Below.setCell ?_ ?_ _) | (with_reducible refine below_go ?_ (by assumption) (Nat.le_refl _)) | (simp; done) | (simp; omega) | omega))⟩

end Go.Proofs.Ytcamegfnhbbaeaa

namespace Go.Proofs.Ytcamegfnhbbaeaa
open Go.RowKit
set_option linter.unusedVariables false
set_option linter.unusedSimpArgs false
attribute [local go_sem] ite_max ite_min vite_max vite_min ext_cell ext_frozen

set_option maxRecDepth 100000 in
set_option maxHeartbeats 4000000 in
theorem row19_k5 (s : Stm) (m : SM) (w : World) (hin : RowIn19 s m w) (hop : s.op = 5) : Calls Try.prog 57 #[.agg (StmC s m).toArray] w fun e w' => e = .returned (.string (rowS s)) ∧ Below w.heap.size w w' := by
  have HEX := Lib.hid hin.expr
  have HRO := Lib.hid hin.rows
  have HSV := Lib.hid hin.sv
  obtain ⟨hfit, hfields, hbl⟩ := hin.fit.all
  have HFIT := Lib.hid hfit
  have HFF := Lib.hid hfields
  have HBF := Lib.hid hbl
  have HEV := Lib.hid (fitS_even hin.fit)
  have HND := Lib.hid hin.parts
  have HOP := Lib.hid hop
  have hres := rowS_top s
  obtain ⟨res, hr⟩ : ∃ r, rowS s = r := ⟨_, rfl⟩
  rw [hr, hop] at hres
  rw [hr]
  have HRES := Lib.hid hres
  obtain ⟨nc, hnc⟩ : ∃ n, s.conds.length = n := ⟨_, rfl⟩
  obtain ⟨nl, hnl⟩ : ∃ n, s.labels.length = n := ⟨_, rfl⟩
  obtain ⟨nf, hnf⟩ : ∃ n, s.fields.length = n := ⟨_, rfl⟩
  obtain ⟨nb, hnb⟩ : ∃ n, s.blocks.length = n := ⟨_, rfl⟩
  have HNC := Lib.hid hnc
  have HNL := Lib.hid hnl
  have HNF := Lib.hid hnf
  have HNB := Lib.hid hnb
  clear hin hop hres hr hfit hfields hbl hnc hnl hnf hnb
  go_enter Try.func57, Try.ntmps57
  go_upto_region 1 with (refine wpList_boxTo rfl 63 _ rfl _ rfl _ rfl (StmC s m).toArray rfl ?_)
  refine wp_name fun W hW => ?_
  obtain ⟨B, hB⟩ : ∃ B, B = w.heap.size := ⟨_, rfl⟩
  have hh : W.heap[B]? = some (.cells (StmC s m).toArray 63) := by rw [hW.out, hB]; exact heap_alloc_new _ _
  have hbel : Below w.heap.size w W := by rw [hW.out]; (repeat' (first | (with_reducible exact Below.refl _ _) | (with_reducible assumption) | (with_reducible refine below_drewN ?_ _) | (with_reducible refine Below.drew ?_) | (with_reducible refine below_new ?_ (Nat.le_refl _) _) | (with_reducible refine Below.setCell ?_ ?_ _) | (with_reducible refine below_go ?_ (by assumption) (Nat.le_refl _)) | (simp; done) | (simp; omega) | omega))
  have HV := Lib.hid (HSV.out W B hbel hh)
  have HB := Lib.hid hbel
  rw [← hB]
  have hwB : w.heap.size ≤ B := by omega
  clear hW hbel hB hh
  have hnb1 : nb = 1 := by rw [← HNB.out]; exact HFIT.out.c56 (Or.inl HOP.out)
  subst hnb1
  have c0 : W.cell? ⟨B, 0, none⟩ = some (.int .i64 5) := by have := HV.out.at0 0 _ rfl; rwa [HOP.out] at this
  have lB : B < W.heap.size := HV.out.lt
  have c8 := HV.out.at0 8 _ rfl
  have c9 := HV.out.at0 9 _ rfl
  have c10 := HV.out.at0 10 _ rfl
  have c11 := HV.out.at0 11 _ rfl
  have c12 := HV.out.at0 12 _ rfl
  have c13 := HV.out.at0 13 _ rfl
  have c17 := HV.out.at0 17 _ rfl
  rw [HNB.out] at c17
  have hsv := part_size (HFIT.out.srcOk)
  have hnv := HND.out.2.1
  obtain ⟨tv, htv⟩ : ∃ b, exprS s.src = b := ⟨_, rfl⟩
  rw [htv] at hsv
  have HTv : Hid (∀ W', Below W.heap.size W W' → Calls Try.prog 69 #[.agg #[.int .i64 s.src.op, .int .i64 s.src.n, .string s.src.name, .string s.src.field, .slice m.va s.src.sub.length m.vk, .int .i64 s.src.line]] W' fun e w' => e = .returned (.string tv) ∧ Below W'.heap.size W' w') := Lib.hid (fun W' hW' => by have := HEX.out s.src (HFIT.out.src1 (Or.inr (Or.inr (Or.inl HOP.out)))) (HND.out.2.1) W' (HB.out.trans (hW'.mono HB.out.size)) _ _ (HV.out.src.keep hW'); rwa [htv] at this)
  obtain ⟨bbb, obb, blb, csb, hAb, hbb, hzb, ⟨Ab, kb, hcsb, hrb⟩, hcb⟩ := RowOf.at HV.out.blocks (i := 0) (by rw [HNB.out]; omega)
  subst hcsb
  obtain ⟨tb, htb⟩ : ∃ b, rowsS blb = b := ⟨_, rfl⟩
  have hsb : tb.size ≤ 1073741824 := by rw [← htb]; have h1 := rowsS_size blb (HBF.out blb (List.mem_of_getElem? hzb)); have h2 := nodesBs_get hzb; have h3 := HND.out.2.2.2.2.2; omega
  have HTb : Hid (∀ W', Below W.heap.size W W' → Calls Try.prog 32 #[.slice Ab blb.length kb] W' fun e w' => e = .returned (.string tb) ∧ Below W'.heap.size W' w') := Lib.hid (fun W' hW' => by have := HRO.out blb (List.mem_of_getElem? hzb) W' (HB.out.trans (hW'.mono HB.out.size)) _ _ (hrb.below hW'); rwa [htb] at this)
  have hatb : atB (blocksS s.blocks) (0) = tb := by rw [atB_blocks hzb, htb]
  have db : W.cell? ⟨bbb, obb, none⟩ = some (.slice Ab blb.length kb) := by have := hcb 0 (by omega); simpa using this
  have hkb := hrb.1
  have hlb := hrb.2.1
  rw [hAb] at c17
  clear hcb hrb hAb
  have hrs : res = topR 5 s.name (exprS s.dst) tv (exprsS s.conds) s.labels s.fields (blocksS s.blocks) := by rw [HRES.out, htv]
  have hrs2 : res = ((((⟨#[87, 72, 73, 76, 69, 32]⟩ : ByteArray) ++ tv) ++ ⟨#[32, 68, 79, 10]⟩) ++ tb) ++ ⟨#[69, 78, 68, 95, 87, 72, 73, 76, 69, 59, 10]⟩ := by rw [hrs]; unfold topR; rw [hatb]; rfl
  replace HRES := Lib.hid hrs2
  clear hrs hrs2 htv htb hatb
  go_upto_region 36 with (fail)
  refine wp_region_ext (by kernel_rfl) (by kernel_rfl) ?_
  repeat (go_big_quiet_step (first | (go_at_call 69; (with_reducible refine ext_call (HTv.out _ (ext_below ⟨_, rfl⟩)))) | (go_at_call 32; (with_reducible refine ext_call (HTb.out _ (ext_below ⟨_, rfl⟩))))))
  refine wpQuiet_nil ?_
  intro w7 hb7
  replace hb7 := ext_below hb7
  have HB1 := Lib.hid (HB.out.trans (hb7.mono HB.out.size))
  clear hb7 c0 lB db c8 c9 c10 c11 c12 c13 c17
  go_wp2
  go_ret
  exact ⟨by rw [HRES.out]; rfl, by have hq := HB1.out; (repeat' (first | (with_reducible exact Below.refl _ _) | (with_reducible assumption) | (with_reducible refine below_drewN ?_ _) | (with_reducible refine Below.drew ?_) | (with_reducible refine below_new ?_ (Nat.le_refl _) _) | (with_reducible refine Below.setCell ?_ ?_ _) | (with_reducible refine below_go ?_ (by assumption) (Nat.le_refl _)) | (simp; done) | (simp; omega) | omega))⟩

set_option maxRecDepth 100000 in
set_option maxHeartbeats 4000000 in
theorem row19_k6 (s : Stm) (m : SM) (w : World) (hin : RowIn19 s m w) (hop : s.op = 6) : Calls Try.prog 57 #[.agg (StmC s m).toArray] w fun e w' => e = .returned (.string (rowS s)) ∧ Below w.heap.size w w' := by
  have HEX := Lib.hid hin.expr
  have HRO := Lib.hid hin.rows
  have HSV := Lib.hid hin.sv
  obtain ⟨hfit, hfields, hbl⟩ := hin.fit.all
  have HFIT := Lib.hid hfit
  have HFF := Lib.hid hfields
  have HBF := Lib.hid hbl
  have HEV := Lib.hid (fitS_even hin.fit)
  have HND := Lib.hid hin.parts
  have HOP := Lib.hid hop
  have hres := rowS_top s
  obtain ⟨res, hr⟩ : ∃ r, rowS s = r := ⟨_, rfl⟩
  rw [hr, hop] at hres
  rw [hr]
  have HRES := Lib.hid hres
  obtain ⟨nc, hnc⟩ : ∃ n, s.conds.length = n := ⟨_, rfl⟩
  obtain ⟨nl, hnl⟩ : ∃ n, s.labels.length = n := ⟨_, rfl⟩
  obtain ⟨nf, hnf⟩ : ∃ n, s.fields.length = n := ⟨_, rfl⟩
  obtain ⟨nb, hnb⟩ : ∃ n, s.blocks.length = n := ⟨_, rfl⟩
  have HNC := Lib.hid hnc
  have HNL := Lib.hid hnl
  have HNF := Lib.hid hnf
  have HNB := Lib.hid hnb
  clear hin hop hres hr hfit hfields hbl hnc hnl hnf hnb
  go_enter Try.func57, Try.ntmps57
  go_upto_region 1 with (refine wpList_boxTo rfl 63 _ rfl _ rfl _ rfl (StmC s m).toArray rfl ?_)
  refine wp_name fun W hW => ?_
  obtain ⟨B, hB⟩ : ∃ B, B = w.heap.size := ⟨_, rfl⟩
  have hh : W.heap[B]? = some (.cells (StmC s m).toArray 63) := by rw [hW.out, hB]; exact heap_alloc_new _ _
  have hbel : Below w.heap.size w W := by rw [hW.out]; (repeat' (first | (with_reducible exact Below.refl _ _) | (with_reducible assumption) | (with_reducible refine below_drewN ?_ _) | (with_reducible refine Below.drew ?_) | (with_reducible refine below_new ?_ (Nat.le_refl _) _) | (with_reducible refine Below.setCell ?_ ?_ _) | (with_reducible refine below_go ?_ (by assumption) (Nat.le_refl _)) | (simp; done) | (simp; omega) | omega))
  have HV := Lib.hid (HSV.out W B hbel hh)
  have HB := Lib.hid hbel
  rw [← hB]
  have hwB : w.heap.size ≤ B := by omega
  clear hW hbel hB hh
  have hnb1 : nb = 1 := by rw [← HNB.out]; exact HFIT.out.c56 (Or.inr HOP.out)
  subst hnb1
  have c0 : W.cell? ⟨B, 0, none⟩ = some (.int .i64 6) := by have := HV.out.at0 0 _ rfl; rwa [HOP.out] at this
  have lB : B < W.heap.size := HV.out.lt
  have c8 := HV.out.at0 8 _ rfl
  have c9 := HV.out.at0 9 _ rfl
  have c10 := HV.out.at0 10 _ rfl
  have c11 := HV.out.at0 11 _ rfl
  have c12 := HV.out.at0 12 _ rfl
  have c13 := HV.out.at0 13 _ rfl
  have c17 := HV.out.at0 17 _ rfl
  rw [HNB.out] at c17
  have hsv := part_size (HFIT.out.srcOk)
  have hnv := HND.out.2.1
  obtain ⟨tv, htv⟩ : ∃ b, exprS s.src = b := ⟨_, rfl⟩
  rw [htv] at hsv
  have HTv : Hid (∀ W', Below W.heap.size W W' → Calls Try.prog 69 #[.agg #[.int .i64 s.src.op, .int .i64 s.src.n, .string s.src.name, .string s.src.field, .slice m.va s.src.sub.length m.vk, .int .i64 s.src.line]] W' fun e w' => e = .returned (.string tv) ∧ Below W'.heap.size W' w') := Lib.hid (fun W' hW' => by have := HEX.out s.src (HFIT.out.src1 (Or.inr (Or.inr (Or.inr HOP.out)))) (HND.out.2.1) W' (HB.out.trans (hW'.mono HB.out.size)) _ _ (HV.out.src.keep hW'); rwa [htv] at this)
  obtain ⟨bbb, obb, blb, csb, hAb, hbb, hzb, ⟨Ab, kb, hcsb, hrb⟩, hcb⟩ := RowOf.at HV.out.blocks (i := 0) (by rw [HNB.out]; omega)
  subst hcsb
  obtain ⟨tb, htb⟩ : ∃ b, rowsS blb = b := ⟨_, rfl⟩
  have hsb : tb.size ≤ 1073741824 := by rw [← htb]; have h1 := rowsS_size blb (HBF.out blb (List.mem_of_getElem? hzb)); have h2 := nodesBs_get hzb; have h3 := HND.out.2.2.2.2.2; omega
  have HTb : Hid (∀ W', Below W.heap.size W W' → Calls Try.prog 32 #[.slice Ab blb.length kb] W' fun e w' => e = .returned (.string tb) ∧ Below W'.heap.size W' w') := Lib.hid (fun W' hW' => by have := HRO.out blb (List.mem_of_getElem? hzb) W' (HB.out.trans (hW'.mono HB.out.size)) _ _ (hrb.below hW'); rwa [htb] at this)
  have hatb : atB (blocksS s.blocks) (0) = tb := by rw [atB_blocks hzb, htb]
  have db : W.cell? ⟨bbb, obb, none⟩ = some (.slice Ab blb.length kb) := by have := hcb 0 (by omega); simpa using this
  have hkb := hrb.1
  have hlb := hrb.2.1
  rw [hAb] at c17
  clear hcb hrb hAb
  have hrs : res = topR 6 s.name (exprS s.dst) tv (exprsS s.conds) s.labels s.fields (blocksS s.blocks) := by rw [HRES.out, htv]
  have hrs2 : res = ((((⟨#[82, 69, 80, 69, 65, 84, 10]⟩ : ByteArray) ++ tb) ++ ⟨#[85, 78, 84, 73, 76, 32]⟩) ++ tv) ++ ⟨#[32, 69, 78, 68, 95, 82, 69, 80, 69, 65, 84, 59, 10]⟩ := by rw [hrs]; unfold topR; rw [hatb]; rfl
  replace HRES := Lib.hid hrs2
  clear hrs hrs2 htv htb hatb
  go_upto_region 38 with (fail)
  refine wp_region_ext (by kernel_rfl) (by kernel_rfl) ?_
  repeat (go_big_quiet_step (first | (go_at_call 69; (with_reducible refine ext_call (HTv.out _ (ext_below ⟨_, rfl⟩)))) | (go_at_call 32; (with_reducible refine ext_call (HTb.out _ (ext_below ⟨_, rfl⟩))))))
  refine wpQuiet_nil ?_
  intro w7 hb7
  replace hb7 := ext_below hb7
  have HB1 := Lib.hid (HB.out.trans (hb7.mono HB.out.size))
  clear hb7 c0 lB db c8 c9 c10 c11 c12 c13 c17
  go_wp2
  go_ret
  exact ⟨by rw [HRES.out]; rfl, by have hq := HB1.out; (repeat' (first | (with_reducible exact Below.refl _ _) | (with_reducible assumption) | (with_reducible refine below_drewN ?_ _) | (with_reducible refine Below.drew ?_) | (with_reducible refine below_new ?_ (Nat.le_refl _) _) | (with_reducible refine Below.setCell ?_ ?_ _) | (with_reducible refine below_go ?_ (by assumption) (Nat.le_refl _)) | (simp; done) | (simp; omega) | omega))⟩

end Go.Proofs.Ytcamegfnhbbaeaa

namespace Go.Proofs.Ytcamegfnhbbaeaa
open Go.RowKit
set_option linter.unusedVariables false
set_option linter.unusedSimpArgs false
attribute [local go_sem] ite_max ite_min vite_max vite_min ext_cell ext_frozen

set_option maxRecDepth 100000 in
set_option maxHeartbeats 4000000 in
theorem row19_k7 (s : Stm) (m : SM) (w : World) (hin : RowIn19 s m w) (hop : s.op = 7) : Calls Try.prog 57 #[.agg (StmC s m).toArray] w fun e w' => e = .returned (.string (rowS s)) ∧ Below w.heap.size w w' := by
  have HEX := Lib.hid hin.expr
  have HRO := Lib.hid hin.rows
  have HSV := Lib.hid hin.sv
  obtain ⟨hfit, hfields, hbl⟩ := hin.fit.all
  have HFIT := Lib.hid hfit
  have HFF := Lib.hid hfields
  have HBF := Lib.hid hbl
  have HEV := Lib.hid (fitS_even hin.fit)
  have HND := Lib.hid hin.parts
  have HOP := Lib.hid hop
  have hres := rowS_top s
  obtain ⟨res, hr⟩ : ∃ r, rowS s = r := ⟨_, rfl⟩
  rw [hr, hop] at hres
  rw [hr]
  have HRES := Lib.hid hres
  obtain ⟨nc, hnc⟩ : ∃ n, s.conds.length = n := ⟨_, rfl⟩
  obtain ⟨nl, hnl⟩ : ∃ n, s.labels.length = n := ⟨_, rfl⟩
  obtain ⟨nf, hnf⟩ : ∃ n, s.fields.length = n := ⟨_, rfl⟩
  obtain ⟨nb, hnb⟩ : ∃ n, s.blocks.length = n := ⟨_, rfl⟩
  have HNC := Lib.hid hnc
  have HNL := Lib.hid hnl
  have HNF := Lib.hid hnf
  have HNB := Lib.hid hnb
  clear hin hop hres hr hfit hfields hbl hnc hnl hnf hnb
  go_enter Try.func57, Try.ntmps57
  go_upto_region 1 with (refine wpList_boxTo rfl 63 _ rfl _ rfl _ rfl (StmC s m).toArray rfl ?_)
  refine wp_name fun W hW => ?_
  obtain ⟨B, hB⟩ : ∃ B, B = w.heap.size := ⟨_, rfl⟩
  have hh : W.heap[B]? = some (.cells (StmC s m).toArray 63) := by rw [hW.out, hB]; exact heap_alloc_new _ _
  have hbel : Below w.heap.size w W := by rw [hW.out]; (repeat' (first | (with_reducible exact Below.refl _ _) | (with_reducible assumption) | (with_reducible refine below_drewN ?_ _) | (with_reducible refine Below.drew ?_) | (with_reducible refine below_new ?_ (Nat.le_refl _) _) | (with_reducible refine Below.setCell ?_ ?_ _) | (with_reducible refine below_go ?_ (by assumption) (Nat.le_refl _)) | (simp; done) | (simp; omega) | omega))
  have HV := Lib.hid (HSV.out W B hbel hh)
  have HB := Lib.hid hbel
  rw [← hB]
  have hwB : w.heap.size ≤ B := by omega
  clear hW hbel hB hh
  have c0 : W.cell? ⟨B, 0, none⟩ = some (.int .i64 7) := by have := HV.out.at0 0 _ rfl; rwa [HOP.out] at this
  have lB : B < W.heap.size := HV.out.lt
  have HB1 := HB
  go_wp2
  go_ret
  exact ⟨by rw [HRES.out]; rfl, by have hq := HB1.out; (repeat' (first | (with_reducible exact Below.refl _ _) | (with_reducible assumption) | (with_reducible refine below_drewN ?_ _) | (with_reducible refine Below.drew ?_) | (with_reducible refine below_new ?_ (Nat.le_refl _) _) | (with_reducible refine Below.setCell ?_ ?_ _) | (with_reducible refine below_go ?_ (by assumption) (Nat.le_refl _)) | (simp; done) | (simp; omega) | omega))⟩

set_option maxRecDepth 100000 in
set_option maxHeartbeats 4000000 in
theorem row19_k8 (s : Stm) (m : SM) (w : World) (hin : RowIn19 s m w) (hop : s.op = 8) : Calls Try.prog 57 #[.agg (StmC s m).toArray] w fun e w' => e = .returned (.string (rowS s)) ∧ Below w.heap.size w w' := by
  have HEX := Lib.hid hin.expr
  have HRO := Lib.hid hin.rows
  have HSV := Lib.hid hin.sv
  obtain ⟨hfit, hfields, hbl⟩ := hin.fit.all
  have HFIT := Lib.hid hfit
  have HFF := Lib.hid hfields
  have HBF := Lib.hid hbl
  have HEV := Lib.hid (fitS_even hin.fit)
  have HND := Lib.hid hin.parts
  have HOP := Lib.hid hop
  have hres := rowS_top s
  obtain ⟨res, hr⟩ : ∃ r, rowS s = r := ⟨_, rfl⟩
  rw [hr, hop] at hres
  rw [hr]
  have HRES := Lib.hid hres
  obtain ⟨nc, hnc⟩ : ∃ n, s.conds.length = n := ⟨_, rfl⟩
  obtain ⟨nl, hnl⟩ : ∃ n, s.labels.length = n := ⟨_, rfl⟩
  obtain ⟨nf, hnf⟩ : ∃ n, s.fields.length = n := ⟨_, rfl⟩
  obtain ⟨nb, hnb⟩ : ∃ n, s.blocks.length = n := ⟨_, rfl⟩
  have HNC := Lib.hid hnc
  have HNL := Lib.hid hnl
  have HNF := Lib.hid hnf
  have HNB := Lib.hid hnb
  clear hin hop hres hr hfit hfields hbl hnc hnl hnf hnb
  go_enter Try.func57, Try.ntmps57
  go_upto_region 1 with (refine wpList_boxTo rfl 63 _ rfl _ rfl _ rfl (StmC s m).toArray rfl ?_)
  refine wp_name fun W hW => ?_
  obtain ⟨B, hB⟩ : ∃ B, B = w.heap.size := ⟨_, rfl⟩
  have hh : W.heap[B]? = some (.cells (StmC s m).toArray 63) := by rw [hW.out, hB]; exact heap_alloc_new _ _
  have hbel : Below w.heap.size w W := by rw [hW.out]; (repeat' (first | (with_reducible exact Below.refl _ _) | (with_reducible assumption) | (with_reducible refine below_drewN ?_ _) | (with_reducible refine Below.drew ?_) | (with_reducible refine below_new ?_ (Nat.le_refl _) _) | (with_reducible refine Below.setCell ?_ ?_ _) | (with_reducible refine below_go ?_ (by assumption) (Nat.le_refl _)) | (simp; done) | (simp; omega) | omega))
  have HV := Lib.hid (HSV.out W B hbel hh)
  have HB := Lib.hid hbel
  rw [← hB]
  have hwB : w.heap.size ≤ B := by omega
  clear hW hbel hB hh
  have c0 : W.cell? ⟨B, 0, none⟩ = some (.int .i64 8) := by have := HV.out.at0 0 _ rfl; rwa [HOP.out] at this
  have lB : B < W.heap.size := HV.out.lt
  have HB1 := HB
  go_wp2
  go_ret
  exact ⟨by rw [HRES.out]; rfl, by have hq := HB1.out; (repeat' (first | (with_reducible exact Below.refl _ _) | (with_reducible assumption) | (with_reducible refine below_drewN ?_ _) | (with_reducible refine Below.drew ?_) | (with_reducible refine below_new ?_ (Nat.le_refl _) _) | (with_reducible refine Below.setCell ?_ ?_ _) | (with_reducible refine below_go ?_ (by assumption) (Nat.le_refl _)) | (simp; done) | (simp; omega) | omega))⟩

end Go.Proofs.Ytcamegfnhbbaeaa

namespace Go.Proofs.Ytcamegfnhbbaeaa
open Go.RowKit
set_option linter.unusedVariables false
set_option linter.unusedSimpArgs false
attribute [local go_sem] ite_max ite_min vite_max vite_min ext_cell ext_frozen

set_option maxRecDepth 100000 in
set_option maxHeartbeats 4000000 in
theorem row19_k9 (s : Stm) (m : SM) (w : World) (hin : RowIn19 s m w) (hop : s.op = 9) : Calls Try.prog 57 #[.agg (StmC s m).toArray] w fun e w' => e = .returned (.string (rowS s)) ∧ Below w.heap.size w w' := by
  have HEX := Lib.hid hin.expr
  have HRO := Lib.hid hin.rows
  have HSV := Lib.hid hin.sv
  obtain ⟨hfit, hfields, hbl⟩ := hin.fit.all
  have HFIT := Lib.hid hfit
  have HFF := Lib.hid hfields
  have HBF := Lib.hid hbl
  have HEV := Lib.hid (fitS_even hin.fit)
  have HND := Lib.hid hin.parts
  have HOP := Lib.hid hop
  have hres := rowS_top s
  obtain ⟨res, hr⟩ : ∃ r, rowS s = r := ⟨_, rfl⟩
  rw [hr, hop] at hres
  rw [hr]
  have HRES := Lib.hid hres
  obtain ⟨nc, hnc⟩ : ∃ n, s.conds.length = n := ⟨_, rfl⟩
  obtain ⟨nl, hnl⟩ : ∃ n, s.labels.length = n := ⟨_, rfl⟩
  obtain ⟨nf, hnf⟩ : ∃ n, s.fields.length = n := ⟨_, rfl⟩
  obtain ⟨nb, hnb⟩ : ∃ n, s.blocks.length = n := ⟨_, rfl⟩
  have HNC := Lib.hid hnc
  have HNL := Lib.hid hnl
  have HNF := Lib.hid hnf
  have HNB := Lib.hid hnb
  clear hin hop hres hr hfit hfields hbl hnc hnl hnf hnb
  go_enter Try.func57, Try.ntmps57
  go_upto_region 1 with (refine wpList_boxTo rfl 63 _ rfl _ rfl _ rfl (StmC s m).toArray rfl ?_)
  refine wp_name fun W hW => ?_
  obtain ⟨B, hB⟩ : ∃ B, B = w.heap.size := ⟨_, rfl⟩
  have hh : W.heap[B]? = some (.cells (StmC s m).toArray 63) := by rw [hW.out, hB]; exact heap_alloc_new _ _
  have hbel : Below w.heap.size w W := by rw [hW.out]; (repeat' (first | (with_reducible exact Below.refl _ _) | (with_reducible assumption) | (with_reducible refine below_drewN ?_ _) | (with_reducible refine Below.drew ?_) | (with_reducible refine below_new ?_ (Nat.le_refl _) _) | (with_reducible refine Below.setCell ?_ ?_ _) | (with_reducible refine below_go ?_ (by assumption) (Nat.le_refl _)) | (simp; done) | (simp; omega) | omega))
  have HV := Lib.hid (HSV.out W B hbel hh)
  have HB := Lib.hid hbel
  rw [← hB]
  have hwB : w.heap.size ≤ B := by omega
  clear hW hbel hB hh
  have c0 : W.cell? ⟨B, 0, none⟩ = some (.int .i64 9) := by have := HV.out.at0 0 _ rfl; rwa [HOP.out] at this
  have lB : B < W.heap.size := HV.out.lt
  have c1 := HV.out.at0 1 _ rfl
  have c14 := HV.out.at0 14 _ rfl
  rw [HNC.out] at c14
  have c16 := HV.out.at0 16 _ rfl
  rw [HNF.out] at c16
  have lnc1 := HV.out.conds.1
  have lnc2 := HV.out.conds.2.1
  rw [HNC.out] at lnc1
  have lnf1 := HV.out.fields.1
  have lnf2 := HV.out.fields.2.1
  rw [HNF.out] at lnf1
  have hc9 := HFIT.out.c9 HOP.out
  rw [HNC.out, HNF.out] at hc9
  subst hc9
  have hnf24 : nc ≤ 16777216 := by have h2 := HND.out.2.2.2.2.1; rw [HNF.out] at h2; exact h2
  have hnm := HFIT.out.nm
  obtain ⟨nm, hnm2⟩ : ∃ b, s.name = b := ⟨_, rfl⟩
  rw [hnm2] at hnm
  have HNM := Lib.hid hnm2
  obtain ⟨G, hG⟩ : ∃ G, G = callS s.fields (exprsS s.conds) := ⟨_, rfl⟩
  have HG := Lib.hid hG
  have HG0 : Hid (G 0 = ⟨#[]⟩) := Lib.hid (by rw [hG]; rfl)
  clear hG hnm2
  go_upto_region 44 with (fail)
  clear c0 lB c1 c14 c16
  go_loopw [3, 8] (fun vs vi wr => ∃ (i : Nat) (a : ByteArray), i ≤ nc ∧ vi = .int .i64 i ∧ vs = .string a ∧ a.size ≤ i * 4294967296 ∧ Hid (a = G i) ∧ Below W.heap.size W wr) (fun _ vi _ => nc - (intOf vi).toNat)
  case atStart => exact ⟨0, ⟨#[]⟩, by omega, rfl, rfl, by decide, Lib.hid HG0.out.symm, Below.refl _ _⟩
  case round =>
    obtain ⟨i, a, hi, rfl, rfl, ha, HA, hbr⟩ := hrel
    have HVr := Lib.hid (HV.out.below hbr)
    have HBr := Lib.hid (HB.out.trans (hbr.mono HB.out.size))
    have HS := Lib.hid hbr
    clear hbr
    have c0 : wr.cell? ⟨B, 0, none⟩ = some (.int .i64 9) := by have := HVr.out.at0 0 _ rfl; rwa [HOP.out] at this
    have lB : B < wr.heap.size := HVr.out.lt
    have c1 := HVr.out.at0 1 _ rfl
    have c14 := HVr.out.at0 14 _ rfl
    rw [HNC.out] at c14
    have c16 := HVr.out.at0 16 _ rfl
    rw [HNF.out] at c16
    rw [HNM.out] at c1
    by_cases hlt : i < nc
    · have hi0 : (0 : Int) ≤ (i : Int) ∧ (i : Int) < (nc : Int) := by omega
      obtain ⟨bqp, oqp, yp, Asp, ksp, hAp, hbp, hyp, hyap, hysp, hrgp⟩ := RowE.at HVr.out.conds (i := i) (by rw [HNC.out]; exact hlt)
      obtain ⟨tp, htp⟩ : ∃ b, exprS yp = b := ⟨_, rfl⟩
      have hndp : nodesE yp ≤ 16777216 := Nat.le_trans (nodesEs_get hyp) HND.out.2.2.1
      have hsp : tp.size ≤ 1073741824 := by rw [← htp]; have h1 := exprS_size yp (HFIT.out.conds yp (List.mem_of_getElem? hyp)); omega
      have HTp : Hid (∀ W', Below wr.heap.size wr W' → Calls Try.prog 69 #[.agg #[.int .i64 yp.op, .int .i64 yp.n, .string yp.name, .string yp.field, .slice Asp yp.sub.length ksp, .int .i64 yp.line]] W' fun e w' => e = .returned (.string tp) ∧ Below W'.heap.size W' w') := Lib.hid (fun W' hW' => by have := HEX.out yp (HFIT.out.conds yp (List.mem_of_getElem? hyp)) hndp W' (HBr.out.trans (hW'.mono HBr.out.size)) _ _ (hyap.keep hW'); rwa [htp] at this)
      have hatp : atB (exprsS s.conds) (i) = tp := by rw [atB_exprs hyp, htp]
      have zp0 : wr.cell? ⟨bqp, oqp + i * 6, none⟩ = some (.int .i64 yp.op) := by have := hrgp 0 _ rfl; simpa using this
      have zp1 : wr.cell? ⟨bqp, oqp + i * 6 + 1, none⟩ = some (.int .i64 yp.n) := by have := hrgp 1 _ rfl; simpa using this
      have zp2 : wr.cell? ⟨bqp, oqp + i * 6 + 2, none⟩ = some (.string yp.name) := by have := hrgp 2 _ rfl; simpa using this
      have zp3 : wr.cell? ⟨bqp, oqp + i * 6 + 3, none⟩ = some (.string yp.field) := by have := hrgp 3 _ rfl; simpa using this
      have zp4 : wr.cell? ⟨bqp, oqp + i * 6 + 4, none⟩ = some (.slice Asp yp.sub.length ksp) := by have := hrgp 4 _ rfl; simpa using this
      have zp5 : wr.cell? ⟨bqp, oqp + i * 6 + 5, none⟩ = some (.int .i64 yp.line) := by have := hrgp 5 _ rfl; simpa using this
      rw [hAp] at c14
      obtain ⟨bf, of, fx, csf, hAf, hbf, hxf, hQf, hcf⟩ := RowOf.at HVr.out.fields (i := i) (by rw [HNF.out]; exact hlt)
      subst hQf
      have df : wr.cell? ⟨bf, of + i, none⟩ = some (.string fx) := by have := hcf 0 (by omega); simpa using this
      have hsf : fx.size ≤ 16 := HFF.out fx (List.mem_of_getElem? hxf)
      have hatf : atB s.fields i = fx := by unfold atB; rw [hxf]; rfl
      rw [hAf] at c16
      clear hcf hAf hxf
      by_cases hi00 : i = 0
      · have hi01 : ¬ (0 : Int) < (i : Int) := by omega
        have HI0 := Lib.hid hi00
        clear hi00
        have hst : G (i + 1) = (a) ++ ((fx ++ ⟨#[32, 58, 61, 32]⟩) ++ tp) := by rw [HA.out, HG.out]; show (if 0 < i then callS _ _ i ++ _ else callS _ _ i) ++ ((atB _ i ++ _) ++ atB _ i) = _; rw [hatp, hatf, if_neg (by omega)]
        have HST := Lib.hid hst
        clear hst hatp hatf htp
        go_upto_region 48 with (fail)
        refine wp_region_ext (by kernel_rfl) (by kernel_rfl) ?_
        repeat (go_big_quiet_step (first | (go_at_call 69; (with_reducible refine ext_call (HTp.out _ (ext_below ⟨_, rfl⟩))))))
        refine wpQuiet_nil ?_
        intro w7 hb7
        replace hb7 := ext_below hb7
        have HS1 := Lib.hid (HS.out.trans (hb7.mono HS.out.size))
        clear hb7 c0 lB df c1 c14 c16 zp0 zp1 zp2 zp3 zp4 zp5
        go_wp2
        go_roundw
        case rel => exact ⟨i + 1, _, by omega, by go_num, rfl, by simp only [ByteArray.size_append, lits]; omega, Lib.hid HST.out.symm, HS1.out⟩
        case measure => simp [intOf]; omega
      · have hi01 : (0 : Int) < (i : Int) := by omega
        have HI0 := Lib.hid hi00
        clear hi00
        have hst : G (i + 1) = (a ++ ⟨#[44, 32]⟩) ++ ((fx ++ ⟨#[32, 58, 61, 32]⟩) ++ tp) := by rw [HA.out, HG.out]; show (if 0 < i then callS _ _ i ++ _ else callS _ _ i) ++ ((atB _ i ++ _) ++ atB _ i) = _; rw [hatp, hatf, if_pos (by omega)]
        have HST := Lib.hid hst
        clear hst hatp hatf htp
        go_upto_region 48 with (fail)
        refine wp_region_ext (by kernel_rfl) (by kernel_rfl) ?_
        repeat (go_big_quiet_step (first | (go_at_call 69; (with_reducible refine ext_call (HTp.out _ (ext_below ⟨_, rfl⟩))))))
        refine wpQuiet_nil ?_
        intro w7 hb7
        replace hb7 := ext_below hb7
        have HS1 := Lib.hid (HS.out.trans (hb7.mono HS.out.size))
        clear hb7 c0 lB df c1 c14 c16 zp0 zp1 zp2 zp3 zp4 zp5
        go_wp2
        go_roundw
        case rel => exact ⟨i + 1, _, by omega, by go_num, rfl, by simp only [ByteArray.size_append, lits]; omega, Lib.hid HST.out.symm, HS1.out⟩
        case measure => simp [intOf]; omega
    · obtain rfl : i = nc := by omega
      have hge : ¬ (i : Int) < (i : Int) := by omega
      have hrs2 : res = ((nm ++ ⟨#[40]⟩) ++ a) ++ ⟨#[41, 59, 10]⟩ := by rw [HRES.out, HNM.out]; show ((nm ++ _) ++ callS s.fields (exprsS s.conds) s.fields.length) ++ _ = _; rw [HNF.out, ← HG.out, ← HA.out]
      replace HRES := Lib.hid hrs2
      clear hrs2
      go_wp2
      go_ret
      exact ⟨by rw [HRES.out]; rfl, by have hq := HBr.out; (repeat' (first | (with_reducible exact Below.refl _ _) | (with_reducible assumption) | (with_reducible refine below_drewN ?_ _) | (with_reducible refine Below.drew ?_) | (with_reducible refine below_new ?_ (Nat.le_refl _) _) | (with_reducible refine Below.setCell ?_ ?_ _) | (with_reducible refine below_go ?_ (by assumption) (Nat.le_refl _)) | (simp; done) | (simp; omega) | omega))⟩

end Go.Proofs.Ytcamegfnhbbaeaa

namespace Go.Proofs.Ytcamegfnhbbaeaa
open Go.RowKit
set_option linter.unusedVariables false
set_option linter.unusedSimpArgs false
attribute [local go_sem] ite_max ite_min vite_max vite_min ext_cell ext_frozen

theorem row19_any (s : Stm) (m : SM) (w : World) (hin : RowIn19 s m w) : Calls Try.prog 57 #[.agg (StmC s m).toArray] w fun e w' => e = .returned (.string (rowS s)) ∧ Below w.heap.size w w' := by
  have h1 := hin.fit.all.1.lo
  have h2 := hin.fit.all.1.hi
  rcases (show s.op = 1 ∨ s.op = 2 ∨ s.op = 3 ∨ s.op = 4 ∨ s.op = 5 ∨ s.op = 6 ∨ s.op = 7 ∨ s.op = 8 ∨ s.op = 9 by omega) with h | h | h | h | h | h | h | h | h
  · exact row19_k1 s m w hin h
  · exact row19_k2 s m w hin h
  · exact row19_k3 s m w hin h
  · exact row19_k4 s m w hin h
  · exact row19_k5 s m w hin h
  · exact row19_k6 s m w hin h
  · exact row19_k7 s m w hin h
  · exact row19_k8 s m w hin h
  · exact row19_k9 s m w hin h

set_option maxRecDepth 100000 in
set_option maxHeartbeats 2000000 in
theorem rows19_at : ∀ (k : Nat) (xs : List Stm), SizeOf.sizeOf xs < k → (∀ s ∈ xs, FitS s) → nodesSs xs ≤ 16777216 → ∀ (w : World) (A : Option Addr) (cap : Nat), RowT w A xs cap → Calls Try.prog 32 #[.slice A xs.length cap] w fun e w' => e = .returned (.string (rowsS xs)) ∧ Below w.heap.size w w' := by
  intro k
  induction k with
  | zero => intro xs h; omega
  | succ k ih =>
    intro xs hsz hfit hnd w A cap hrow
    have HRW : Hid (∀ W, Below w.heap.size w W → ∀ s ∈ xs, ∀ m b o, SV W b o s m → Calls Try.prog 57 #[.agg (StmC s m).toArray] W fun e w' => e = .returned (.string (rowS s)) ∧ Below W.heap.size W w') := Lib.hid (fun W hW s hs m b o hsv => by
      have hf := hfit s hs
      obtain ⟨i, hi⟩ := List.getElem?_of_mem hs
      have hns := nodesSs_get hi
      have hin : RowIn19 s m W := by
        refine ⟨fun x hx hn W' hW' A' k' hat => expr19_any x hx hn W' A' k' hat, fun bl hbl W' hW' A' k' hr => ?_, sv_of hsv.stm, hf, by omega⟩
        obtain ⟨j, hj⟩ := List.getElem?_of_mem hbl
        have hlt := block_lt hi hj
        have hnb := nodesBs_get hj
        have hnp : nodesBs s.blocks ≤ nodesS s := by
          cases s
          simp only [nodesS, Stm.blocks]
          omega
        exact ih bl (by omega) (hf.all.2.2 bl hbl) (by omega) W' A' k' hr
      exact row19_any s m W hin)
    have HSZ : Hid (∀ i, (rowsS (xs.take i)).size ≤ 1073741824) := Lib.hid (fun i => by
      have h1 := rowsS_size (xs.take i) (fun s hs => hfit s (List.mem_of_mem_take hs))
      have h2 := nodesSs_take xs i
      omega)
    obtain ⟨n, hn⟩ : ∃ n, xs.length = n := ⟨_, rfl⟩
    have hl := hrow.1
    have hc := hrow.2.1
    have HR := Lib.hid hrow
    rw [hn] at hl ⊢
    have HN := Lib.hid hn
    obtain ⟨res, hres⟩ : ∃ r, rowsS xs = r := ⟨_, rfl⟩
    have HRES := Lib.hid hres
    rw [hres]
    clear ih hrow hn hfit hsz hres hnd
    go_enter Try.func32, Try.ntmps32
    go_upto_region 3 with (fail)
    go_loopw [3, 4] (fun vs vi wr => ∃ (i : Nat) (a : ByteArray), i ≤ n ∧ vi = .int .i64 i ∧ vs = .string a ∧ Hid (a = rowsS (xs.take i)) ∧ Below w.heap.size w wr) (fun _ vi _ => n - (intOf vi).toNat)
    case atStart => exact ⟨0, ⟨#[]⟩, by omega, rfl, rfl, Lib.hid rfl, Below.refl _ _⟩
    case round =>
      obtain ⟨i, a, hi, rfl, rfl, HA, hbr⟩ := hrel
      have HBr := Lib.hid hbr
      clear hbr
      by_cases hlt : i < n
      · obtain ⟨bb, off, s, m, rfl, hbl, hx, hsv⟩ := RowT.at (HR.out.below HBr.out) (i := i) (by rw [HN.out]; exact hlt)
        have hi0 : (0 : Int) ≤ (i : Int) ∧ (i : Int) < (n : Int) := by omega
        have hst := rowsS_take hx
        rw [← HA.out] at hst
        have hz1 := HSZ.out i
        have hz2 := HSZ.out (i + 1)
        rw [← HA.out] at hz1
        rw [hst, ByteArray.size_append] at hz2
        have HX := Lib.hid (List.mem_of_getElem? hx)
        have HSV := Lib.hid hsv
        obtain ⟨t, ht⟩ : ∃ t, rowS s = t := ⟨_, rfl⟩
        rw [ht] at hst hz2
        have HT := Lib.hid (HRW.out _ HBr.out s HX.out m _ _ hsv)
        rw [ht] at HT
        have HST := Lib.hid hst
        clear hsv hx hst ht
        go_wp2_with (refine wpList_load_mid rfl 63 _ rfl bb (off + i * 19) rfl (StmC s m) _ HSV.out.cell Try.underlying63 rfl stmt_size ?_)
        refine HT.out.mono ?_
        rintro e w1 ⟨rfl, hb⟩
        have HB1 := Lib.hid (HBr.out.trans (hb.mono HBr.out.size))
        clear hb HSV HX hbl HBr HT
        go_wp2
        go_roundw
        case rel => exact ⟨i + 1, _, by omega, by go_num, rfl, Lib.hid HST.out.symm, HB1.out⟩
        case measure => simp [intOf]; omega
      · obtain rfl : i = n := by omega
        have hfin : a = res := by rw [HA.out, ← HRES.out, List.take_of_length_le (by rw [HN.out]; exact Nat.le_refl _)]
        subst hfin
        go_wp2
        go_ret
        exact ⟨rfl, HBr.out⟩
theorem rows19_any (xs : List Stm) (hf : ∀ s ∈ xs, FitS s) (hn : nodesSs xs ≤ 16777216) (w : World) (A : Option Addr) (cap : Nat) (hr : RowT w A xs cap) : Calls Try.prog 32 #[.slice A xs.length cap] w fun e w' => e = .returned (.string (rowsS xs)) ∧ Below w.heap.size w w' :=
  rows19_at _ xs (Nat.lt_succ_self _) hf hn w A cap hr

end Go.Proofs.Ytcamegfnhbbaeaa
