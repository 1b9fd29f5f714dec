/- Merged: Do statements fit? What the counts are. Layer 20: statements that fit; an assignment. PRINTED by wip/tool/mkkdk.py -/
import Derived.Test.YtahjijdadifkaaaDoorM07
import Derived.Test.YtahjijdadifkaaaDoorM05
import Derived.Deep.Cut
import Derived.Deep.CutRange
import Derived.Deep.CutBlock
import Derived.Test.YtahjijdadifkaaaDoorWild
import Derived.Test.YtahjijdadifkaaaDoorM18
set_option linter.unusedVariables false
set_option linter.unusedSimpArgs false
set_option maxHeartbeats 4000000
namespace Go.Proofs.YtahjijdadifkaaaDoor
open Go.RowKit
attribute [local go_sem] ite_max ite_min vite_max vite_min ext_cell ext_frozen

def cC (op : Int) (nc nf : Nat) : Nat := if op = 2 then max 1 nc else if op = 4 then 3 else if op = 9 then nf else 0
def cL (op : Int) (nl : Nat) : Nat := if op = 3 then nl else 0
def cF (op : Int) (nf : Nat) : Nat := if op = 9 then nf else 0
def cB (op : Int) (nc nl : Nat) : Nat := if op = 2 then max 1 nc else if op = 3 then nl else if op = 4 ∨ op = 5 ∨ op = 6 then 1 else 0
def cM (op : Int) : Nat := if op = 2 ∨ op = 3 then 1 else 0
theorem SmS.parts {s : Stm} (h : SmS s) : SmE s.dst ∧ SmE s.src ∧ ∀ bl ∈ s.blocks, ∀ t ∈ bl, SmS t := by
 cases h with
 | mk _ h1 h2 h3 => exact ⟨h1, h2, h3⟩
theorem ExAt.len80 {w : World} {x : Ex} {cs : List Value} (h : ExAt w x cs) : x.sub.length * 80 ≤ 140737488355328 := by
 obtain ⟨A, k, -, h, -⟩ := h.form
 exact h.2.2.1
theorem rowE_one {w : World} {H : Nat} {T : TypeId} {x : Ex} {Ax : Option Addr} {kx : Nat} (hh : w.heap[H]? = some (.cells (ExC x Ax kx).toArray T)) (hx : ExAt w x (ExC x Ax kx)) : RowE w (some ⟨H, 0, none⟩) [x] 1 := by
 refine ⟨Nat.le_refl _, by omega, by show 1 * 80 ≤ 140737488355328; omega, fun _ => ExC x Ax kx, fun _ => ⟨H, 0, rfl, (Array.getElem?_eq_some_iff.1 hh).1, fun i hi j hj => ?_⟩, fun i z hz => ?_⟩
 ·have hl1 : (ExC x Ax kx).length = 6 := rfl
  have hi : i < 1 := hi
  obtain rfl : i = 0 := by omega
  show w.cell? ⟨H, 0 * 6 + j, none⟩ = (ExC x Ax kx)[j]?
  rw [Nat.zero_mul, Nat.zero_add]
  exact (heap_cell j ((ExC x Ax kx)[j]'(by omega)) hh (by rw [List.getElem?_toArray, List.getElem?_eq_getElem (by omega)])).trans (List.getElem?_eq_getElem (by omega)).symm
 ·rcases i with _ | i
  ·simp at hz
   subst hz
   exact hx
  ·simp at hz

end Go.Proofs.YtahjijdadifkaaaDoor

namespace Go.Proofs.YtahjijdadifkaaaDoor
open Go.RowKit
attribute [local go_sem] ite_max ite_min vite_max vite_min ext_cell ext_frozen extS_cell extS_frozen

def wr1 (ls : Int) : Int := wrap64 (ls + 1)
theorem wr1_I64 (ls : Int) : I64 (wr1 ls) := by unfold wr1 wrap64 I64; omega
def okAssign (vs : List VarS) (s : Stm) : Bool := match varF vs s.dst.name with
 | none => false
 | some v => (v.sect != 1) && (match placeT (tyE vs) v s.dst with
  | none => false
  | some t => decide (tyE vs s.src = some t))
def okVar (vs : List VarS) (s : Stm) : Bool := match varF vs s.name with
 | none => false
 | some v => (v.sect != 1) && (!v.arr && (v.type == 1))
def okConds (vs : List VarS) (s : Stm) : Bool := s.conds.all fun x => decide (tyE vs x = some 1)
def okField (vs : List VarS) (v : VarS) (s : Stm) (i : Nat) : Bool := match s.fields[i]?, s.conds[i]? with
 | some f, some x => (match kpF v.type f with
  | none => false
  | some k => kpIn v.type k && (!((s.fields.take i).any fun g => f.toList == g.toList)) && decide (tyE vs x = some (kpTy v.type k)))
 | _, _ => false
def okCall (vs : List VarS) (s : Stm) : Bool := match varF vs s.name with
 | none => false
 | some v => decide (2 < v.type) && (List.range s.fields.length).all (okField vs v s)
def bsX (SS : Int → List Stm → Bool) (vs : List VarS) (ls : Int) : List Ex → List (List Stm) → Bool
 | _, [] => true
 | cs, b :: bs => (match cs with | [] => true | c :: _ => decide (tyE vs c = some 2)) && SS ls b && bsX SS vs ls cs.tail bs
def hdX (SS : Int → List Stm → Bool) (ls : Int) : List (List Stm) → Bool
 | [] => true
 | b :: _ => SS ls b
def topS (SS : Int → List Stm → Bool) (vs : List VarS) (ls : Int) (s : Stm) : Bool :=
 if s.op = 1 then okAssign vs s else if s.op = 2 then bsX SS vs ls s.conds s.blocks
 else if s.op = 3 then decide (tyE vs s.src = some 1) && bsX SS vs ls s.conds s.blocks
 else if s.op = 4 then okVar vs s && (okConds vs s && hdX SS (wr1 ls) s.blocks)
 else if s.op = 5 then decide (tyE vs s.src = some 2) && hdX SS (wr1 ls) s.blocks
 else if s.op = 6 then hdX SS (wr1 ls) s.blocks && decide (tyE vs s.src = some 2)
 else if s.op = 7 then decide (0 < ls)
 else if s.op = 9 then okCall vs s
 else true

structure Ck (W : World) (C : Nat) (A : Option Addr) (cap : Nat) (vs : List VarS) (ls : Int) : Prop where
 v : CkV W C A cap vs
 c1 : W.cell? ⟨C, 1, none⟩ = some (.int .i64 ls)
 fr : ∀ o, W.frozen? ⟨C, o, none⟩ = false
 ne : ∀ b off, A = some ⟨b, off, none⟩ → b ≠ C
 i64 : I64 ls
section
variable {W W' : World} {C : Nat} {A : Option Addr} {cap : Nat} {vs : List VarS} {ls : Int}
theorem Ck.below (h : Ck W C A cap vs ls) (hb : Below W.heap.size W W') : Ck W' C A cap vs ls :=
 ⟨h.v.below hb, (hb.cell (p := ⟨C, 1, none⟩) h.v.lt).trans h.c1, fun o => (hb.frozen (p := ⟨C, o, none⟩) h.v.lt).trans (h.fr o), h.ne, h.i64⟩
theorem Ck.row (h : Ck W C A cap vs ls) (hb : But C W W') : RowV W' A vs cap := by
 obtain ⟨h1, h2, h3, f, h4, h5⟩ := h.v.row
 refine ⟨h1, h2, h3, f, fun hne => ?_, h5⟩
 obtain ⟨b, off, ha, hbl, hc⟩ := h4 hne
 exact ⟨b, off, ha, Nat.lt_of_lt_of_le hbl hb.size, fun i hi j hj => (hb.cell b _ hbl (h.ne b off ha)).trans (hc i hi j hj)⟩
theorem Ck.set (h : Ck W C A cap vs ls) {z : Int} (hz : I64 z) : Ck (W.setCell ⟨C, 1, none⟩ (.int .i64 z)) C A cap vs z := by
 have hB : But C W (W.setCell ⟨C, 1, none⟩ (.int .i64 z)) := (But.refl C W).set 1 _
 have h0 := h.v.c0
 have h1 := h.c1
 have hl := h.v.lt
 refine ⟨⟨Nat.lt_of_lt_of_le hl hB.size, ?_, h.row hB⟩, ?_, fun o => ?_, h.ne, hz⟩
 ·go_simp
 ·go_simp
 ·have := h.fr o
  go_simp
end
def OkRes (W : World) (C : Nat) (A : Option Addr) (cap : Nat) (vs : List VarS) (ls : Int) (b : Bool) (e : Ending) (W' : World) : Prop := Oks b e ∧ But C W W' ∧ (b = true → Ck W' C A cap vs ls)
theorem OkRes.of_below {W W' : World} {C : Nat} {A : Option Addr} {cap : Nat} {vs : List VarS} {ls : Int} {b : Bool} {e : Ending} (h : Ck W C A cap vs ls) (he : Oks b e) (hb : Below W.heap.size W W') : OkRes W C A cap vs ls b e W' := ⟨he, But.of_below hb, fun _ => h.below hb⟩
def StmtsOK (w0 : World) (C : Nat) (A : Option Addr) (cap : Nat) (vs : List VarS) (SS : Int → List Stm → Bool) (bl : List Stm) : Prop :=
 ∀ W ls A' k', Below w0.heap.size w0 W → Ck W C A cap vs ls → RowT w0 A' bl k' → Calls Tryd.prog 19 #[ckP C, .slice A' bl.length k'] W fun e W' => OkRes W C A cap vs ls (SS ls bl) e W'
theorem stm_rng {w : World} {B : Nat} {s : Stm} {m : SM} (h : ∀ j u, (StmC s m)[j]? = some u → w.cell? ⟨B, j, none⟩ = some u) : w.rangeAt B 2 (ExC s.dst m.ta m.tk) ∧ w.rangeAt B 8 (ExC s.src m.va m.vk) := by
 constructor
 all_goals
  intro j u hu
  have hj : j < 6 := (List.getElem?_eq_some_iff.1 hu).1
  rcases (show j = 0 ∨ j = 1 ∨ j = 2 ∨ j = 3 ∨ j = 4 ∨ j = 5 by omega) with rfl | rfl | rfl | rfl | rfl | rfl
  all_goals
   cases hu
   refine h _ _ ?_
   rfl

structure StmV (W : World) (B : Nat) (L D E : List Value) : Prop where
 lt : B < W.heap.size
 cell : ∀ j u, L[j]? = some u → W.cell? ⟨B, j, none⟩ = some u
 d : W.rangeAt B 2 D
 e : W.rangeAt B 8 E
theorem StmV.below {W W' : World} {B : Nat} {L D E : List Value} (h : StmV W B L D E) (hb : Below W.heap.size W W') : StmV W' B L D E :=
 ⟨Nat.lt_of_lt_of_le h.lt hb.size, fun j u hu => (hb.cell (p := ⟨B, j, none⟩) h.lt).trans (h.cell j u hu), fun j u hu => (hb.cell (p := ⟨B, 2 + j, none⟩) h.lt).trans (h.d j u hu), fun j u hu => (hb.cell (p := ⟨B, 8 + j, none⟩) h.lt).trans (h.e j u hu)⟩
theorem StmV.but {W W' : World} {B C : Nat} {L D E : List Value} (h : StmV W B L D E) (hb : But C W W') (hn : B ≠ C) : StmV W' B L D E :=
 ⟨Nat.lt_of_lt_of_le h.lt hb.size, fun j u hu => (hb.cell B j h.lt hn).trans (h.cell j u hu), fun j u hu => (hb.cell B (2 + j) h.lt hn).trans (h.d j u hu), fun j u hu => (hb.cell B (8 + j) h.lt hn).trans (h.e j u hu)⟩
theorem stmV_of {W : World} {B : Nat} {T : TypeId} {s : Stm} {m : SM} (hh : W.heap[B]? = some (.cells (StmC s m).toArray T)) : StmV W B (StmC s m) (ExC s.dst m.ta m.tk) (ExC s.src m.va m.vk) := by
 have hc : ∀ j u, (StmC s m)[j]? = some u → W.cell? ⟨B, j, none⟩ = some u := fun j u hu => heap_cell j u hh (by rw [List.getElem?_toArray]; exact hu)
 have := stm_rng hc
 exact ⟨(Array.getElem?_eq_some_iff.1 hh).1, hc, this.1, this.2⟩

set_option maxRecDepth 100000 in
theorem kassign_of (vs : List VarS) (s : Stm) (m : SM) (C : Nat) (vA : Option Addr) (vcap : Nat) (w : World) (hd : ExAt w s.dst (ExC s.dst m.ta m.tk)) (hs : ExAt w s.src (ExC s.src m.va m.vk)) (h1 : ShE s.dst) (h2 : ShE s.src) (hck : CkV w C vA vcap vs) (ht : Blanks w) :
  Calls Tryd.prog 55 #[ckP C, .agg (StmC s m).toArray] w fun e w' => Oks (okAssign vs s) e ∧ Below w.heap.size w w' := by
 have HDX := Lib.hid hd
 have HSH := Lib.hid h1.parts
 have HES := Lib.hid (kexpr_any h2 hs hck ht)
 have HCK := Lib.hid hck
 have HBT := Lib.hid ht
 have HST : Hid (∀ {W : World} {B : Nat}, W.heap[B]? = some (.cells (StmC s m).toArray 63) → StmV W B (StmC s m) (ExC s.dst m.ta m.tk) (ExC s.src m.va m.vk)) := Lib.hid (fun h => stmV_of h)
 obtain ⟨r, hr⟩ : ∃ r, okAssign vs s = r := ⟨_, rfl⟩
 have hr' := hr
 unfold okAssign at hr'
 obtain ⟨L, hL⟩ : ∃ L, StmC s m = L := ⟨_, rfl⟩
 obtain ⟨nm, hnm⟩ : ∃ o, s.dst.name = o := ⟨_, rfl⟩
 obtain ⟨ln, hln⟩ : ∃ o, s.dst.line = o := ⟨_, rfl⟩
 obtain ⟨ls, hls⟩ : ∃ o, s.line = o := ⟨_, rfl⟩
 obtain ⟨D, hD⟩ : ∃ D, ExC s.dst m.ta m.tk = D := ⟨_, rfl⟩
 obtain ⟨E, hE⟩ : ∃ D, ExC s.src m.va m.vk = D := ⟨_, rfl⟩
 have HLX : Hid (L[4]? = some (.string nm) ∧ L[7]? = some (.int .i64 ln) ∧ L[18]? = some (.int .i64 ls)) := Lib.hid (by rw [← hL, ← hnm, ← hln, ← hls]; exact ⟨rfl, rfl, rfl⟩)
 have HD6 : Hid ((Tryd.prog.info? 28).map (·.size) = some D.length) := Lib.hid (by rw [← hD]; exact expr_size)
 have HE6 : Hid ((Tryd.prog.info? 28).map (·.size) = some E.length) := Lib.hid (by rw [← hE]; exact expr_size)
 have HPL : Hid (∀ v W, Below w.heap.size w W → Calls Tryd.prog 41 #[ckP C, .agg v.cells.toArray, .agg D.toArray] W fun e w' => TyRes (placeT (tyE vs) v s.dst) e ∧ Below W.heap.size W w') := Lib.hid (fun v W hW => by
  rw [← hD]
  have hrow : RowE W m.ta s.dst.sub m.tk := by
   obtain ⟨A', k', he, hr, _⟩ := (hd.keep hW).form
   simp only [ExC, List.cons.injEq, Value.slice.injEq, and_true, true_and] at he
   obtain ⟨rfl, rfl⟩ := he
   exact hr
  exact kplace_of (tyE vs) v s.dst m.ta m.tk C W (hd.keep hW) hrow (fun h => h1.parts.1.ne (.inl h)) (fun y hy W' As ks hW' ha => kexpr_any (h1.parts.2 y hy) ha ((hck.below hW).below hW') ((ht.on hW).on hW')))
 rw [hnm] at hr'
 have HR := Lib.hid hr'
 unfold ExprAt at HES
 rw [hE] at HES HST
 rw [hD] at HST
 rw [hL] at HST
 rw [hr, hL]
 clear hd hs h1 h2 hck ht hr hr' hL hnm hln hls hD hE
 go_enter Tryd.func55, Tryd.ntmps55
 go_upto_region 1 with (refine wpList_boxTo rfl 63 _ rfl _ rfl _ rfl L.toArray rfl ?_)
 refine wp_name fun W hW => ?_
 obtain ⟨B, hB⟩ : ∃ B, B = w.heap.size := ⟨_, rfl⟩
 have hh : W.heap[B]? = some (.cells L.toArray 63) := by rw [hW.out, hB]; exact heap_alloc_new _ _
 have hbel : Below w.heap.size w W := by rw [hW.out]; exact belowBy
 have HB := Lib.hid hbel
 have HSV := Lib.hid (HST.out hh)
 rw [← hB]
 have HCKW := Lib.hid (HCK.out.below hbel)
 have HBTW := Lib.hid (HBT.out.on hbel)
 have s4 : W.cell? ⟨B, 4, none⟩ = some (.string nm) := HSV.out.cell 4 _ HLX.out.1
 have s7 : W.cell? ⟨B, 7, none⟩ = some (.int .i64 ln) := HSV.out.cell 7 _ HLX.out.2.1
 clear hW hh hbel hB HCK HBT HST
 go_wp2_with fail
 refine (kvar_any vs nm ln C vA vcap W HCKW.out).mono ?_
 rintro e w1 ⟨he, hb1⟩
 have HB1 := Lib.hid (HB.out.trans (hb1.mono HB.out.size))
 have HSV1 := Lib.hid (HSV.out.below hb1)
 clear hb1 HSV s4 s7
 cases hv : varF vs nm with
 | none =>
  rw [hv] at he
  obtain ⟨n9, l9, rfl, h9⟩ := he
  obtain rfl : false = r := by rw [← HR.out, hv]
  exact post_panic rfl ⟨⟨n9, l9, rfl, h9⟩, HB1.out⟩
 | some v =>
  rw [hv] at he
  obtain rfl := he
  have HR1 : Hid (((v.sect != 1) && (match placeT (tyE vs) v s.dst with | none => false | some t => decide (tyE vs s.src = some t))) = r) := Lib.hid (by rw [← HR.out, hv])
  clear HR hv
  obtain ⟨sc, hsc⟩ : ∃ o, v.sect = o := ⟨_, rfl⟩
  obtain ⟨M, hM⟩ : ∃ M, v.cells = M := ⟨_, rfl⟩
  have HMS : Hid ((Tryd.prog.info? 47).map (·.size) = some M.length) := Lib.hid (by rw [← hM]; exact var_size8)
  have HM1 : Hid (M.toArray.all (·.oneCell') = true) := Lib.hid (by rw [← hM]; exact var_one8 v)
  have HM8 : Hid (8 = M.toArray.size) := Lib.hid (by rw [← hM]; rfl)
  have HM2 : Hid (M[2]? = some (.int .i64 sc)) := Lib.hid (by rw [← hM, ← hsc]; rfl)
  have HPV : Hid (∀ W, Below w.heap.size w W → Calls Tryd.prog 41 #[ckP C, .agg M.toArray, .agg D.toArray] W fun e w' => TyRes (placeT (tyE vs) v s.dst) e ∧ Below W.heap.size W w') := Lib.hid (fun W hW => by rw [← hM]; exact HPL.out v W hW)
  rw [hsc] at HR1
  simp only [Option.map_some]
  rw [hM]
  clear hM hsc HPL
  go_upto_region 2 with (refine wpList_store_new rfl 47 _ _ rfl w1 _ M.toArray rfl rfl rfl HMS.out HM8.out HM1.out ?_)
  refine wp_name fun W2 hW2 => ?_
  obtain ⟨V, hV⟩ : ∃ V, V = w1.heap.size := ⟨_, rfl⟩
  have hh : W2.heap[V]? = some (.cells M.toArray 47) := by rw [hW2.out, hV]; exact heap_alloc_new _ _
  have hb2 : Below w1.heap.size w1 W2 := by rw [hW2.out]; exact belowBy
  rw [← hV]
  have HB2 := Lib.hid (HB1.out.trans (hb2.mono HB1.out.size))
  have HSV2 := Lib.hid (HSV1.out.below hb2)
  have HMG : Hid (W2.rangeAt V 0 M) := Lib.hid (by
   have := rangeAt_of_heap hh
   simpa using this)
  have c2 : W2.cell? ⟨V, 2, none⟩ = some (.int .i64 sc) := heap_cell 2 _ hh (by rw [List.getElem?_toArray]; exact HM2.out)
  have d7 : W2.cell? ⟨B, 7, none⟩ = some (.int .i64 ln) := HSV2.out.cell 7 _ HLX.out.2.1
  have HDG : Hid (W2.rangeAt B 2 D) := Lib.hid HSV2.out.d
  simp only [Act.put]
  clear hW2 hV hh hb2 HB1 HSV1 HB
  cases hq : (sc != 1)
  ·obtain rfl : false = r := by rw [← HR1.out, hq]; rfl
   go_wp2_with fail
   refine (need_any false 1 ln _ (by decide)).mono ?_
   rintro e w3 ⟨he, rfl⟩
   obtain ⟨n9, l9, rfl, h9⟩ := he
   exact post_panic rfl ⟨⟨n9, l9, rfl, h9⟩, HB2.out⟩
  ·have HR2 : Hid ((match placeT (tyE vs) v s.dst with | none => false | some t => decide (tyE vs s.src = some t)) = r) := Lib.hid (by rw [← HR1.out, hq, Bool.true_and])
   clear HR1
   go_wp2_with fail
   refine (need_any true 1 ln _ (by decide)).mono ?_
   rintro e w3 ⟨rfl, rfl⟩
   clear hq c2 d7
   go_wp2_with (first
    | refine wpList_load_mid rfl 47 _ rfl V 0 rfl M _ HMG.out Tryd.underlying47 rfl HMS.out ?_
    | refine wpList_load_mid rfl 28 _ rfl B 2 rfl D _ HDG.out Tryd.underlying28 rfl HD6.out ?_)
   refine (HPV.out _ HB2.out).mono ?_
   rintro e w4 ⟨he, hb4⟩
   have HB4 := Lib.hid (HB2.out.trans (hb4.mono HB2.out.size))
   have HSV4 := Lib.hid (HSV2.out.below hb4)
   clear hb4 HMG HDG HSV2 HB2 HPV
   cases hp : placeT (tyE vs) v s.dst with
   | none =>
    rw [hp] at he
    obtain ⟨n9, l9, rfl, h9⟩ := he
    obtain rfl : false = r := by rw [← HR2.out, hp]
    exact post_panic rfl ⟨⟨n9, l9, rfl, h9⟩, HB4.out⟩
   | some t =>
    rw [hp] at he
    obtain rfl := he
    have HR3 : Hid (decide (tyE vs s.src = some t) = r) := Lib.hid (by rw [← HR2.out, hp])
    simp only [Option.map_some]
    have HC5 : Hid (∀ W, Below w4.heap.size w4 W → W.cell? ⟨B, 18, none⟩ = some (.int .i64 ls)) := Lib.hid (fun W hb => (HSV4.out.below hb).cell 18 _ HLX.out.2.2)
    have HEG : Hid (∀ W, Below w4.heap.size w4 W → W.rangeAt B 8 E) := Lib.hid (fun W hb => (HSV4.out.below hb).e)
    have HEX : Hid (∀ W, Below w4.heap.size w4 W → Calls Tryd.prog 21 #[ckP C, .agg E.toArray] W fun e w' => TyRes (tyE vs s.src) e ∧ Below W.heap.size W w') := Lib.hid (fun W hb => HES.out W (HB4.out.trans (hb.mono HB4.out.size)))
    clear hp HR2 HES
    obtain ⟨q, hq⟩ : ∃ q, tyE vs s.src = q := ⟨_, rfl⟩
    rw [hq] at HR3 HEX
    clear hq
    go_wp2_with fail
    cases q with
    | none =>
     obtain rfl : false = r := by rw [← HR3.out]; rfl
     refine wp_region_held_drew (S := fun w' => Below w4.heap.size w4 w') (by kernel_rfl) ?_ (fun hHeld => ?_)
     ·exact (Below.refl _ _).drew
     refine tT 0 ?_ rfl ?_ ?_; rotate_left; (focus intros; go_simp; try rfl)
     refine tT 1 ?_ rfl ?_ ?_; rotate_left; (focus intros; go_simp; try rfl)
     (refine takeH (i := 2) (v := .agg E.toArray) rfl (by kernel_rfl) (by kernel_rfl) (by kernel_rfl) (fun _ _ _ h => h) (yieldsIf_load_mid (by kernel_rfl) 28 _ rfl B 8 rfl E _ (fun _ hb => HEG.out _ hb) Tryd.underlying28 rfl HE6.out) (by assumption) ?_; (try simp only [ly]))
     refine tT 4 ?_ rfl ?_ ?_; rotate_left; (focus intros; go_simp; try rfl)
     refine tT 6 ?_ rfl ?_ ?_; rotate_left; (focus intros; go_simp; try rfl)
     (refine tT 7 ?_ rfl ?_ ?_; rotate_left; (focus (intro w' hSw; (try dsimp only at hSw); (have g := HC5.out _ hSw); go_simp; try (with_reducible rfl))); (try simp only [ly]))
     refine oneH (i := 3) (by kernel_rfl) rfl (fun Kc hK => ?_)
     go_simp
     go_at_call 21; refine (HEX.out _ hHeld).mono ?_; rintro e w5 ⟨he, hb5⟩; obtain ⟨n9, l9, rfl, h9⟩ := he
     exact post_panic rfl (⟨⟨n9, l9, rfl, h9⟩, HB4.out.trans ((hHeld.trans (hb5.mono hHeld.size)).mono HB4.out.size)⟩)
    | some u =>
     by_cases hu : u = t
     ·subst hu
      obtain rfl : true = r := by rw [← HR3.out]; simp
      refine wp_region_held_drew (S := fun w' => Below w4.heap.size w4 w') (by kernel_rfl) ?_ (fun hHeld => ?_)
      ·exact (Below.refl _ _).drew
      refine tT 0 ?_ rfl ?_ ?_; rotate_left; (focus intros; go_simp; try rfl)
      refine tT 1 ?_ rfl ?_ ?_; rotate_left; (focus intros; go_simp; try rfl)
      (refine takeH (i := 2) (v := .agg E.toArray) rfl (by kernel_rfl) (by kernel_rfl) (by kernel_rfl) (fun _ _ _ h => h) (yieldsIf_load_mid (by kernel_rfl) 28 _ rfl B 8 rfl E _ (fun _ hb => HEG.out _ hb) Tryd.underlying28 rfl HE6.out) (by assumption) ?_; (try simp only [ly]))
      refine tT 4 ?_ rfl ?_ ?_; rotate_left; (focus intros; go_simp; try rfl)
      refine tT 6 ?_ rfl ?_ ?_; rotate_left; (focus intros; go_simp; try rfl)
      (refine tT 7 ?_ rfl ?_ ?_; rotate_left; (focus (intro w' hSw; (try dsimp only at hSw); (have g := HC5.out _ hSw); go_simp; try (with_reducible rfl))); (try simp only [ly]))
      refine oneH (i := 3) (by kernel_rfl) rfl (fun Kc hK => ?_)
      go_simp
      go_at_call 21; refine (HEX.out _ hHeld).mono ?_; rintro e w5 ⟨he, hb5⟩; obtain rfl := he; (have HB5 := Lib.hid (hHeld.trans (hb5.mono hHeld.size))); clear hb5 hHeld
      go_wp2_with fail
      refine hK.out _ _ (HB5.out) (fun hHeld => ?_)
      clear hK Kc
      (try simp only [ly])
      refine tT 5 ?_ rfl ?_ ?_; rotate_left; (focus intros; go_simp; try rfl); (try simp only [ly])
      refine oneH (i := 8) (by kernel_rfl) rfl (fun Kc hK => ?_)
      go_simp
      go_at_call 35; refine (need_any true 10 ls _ (by decide)).mono ?_; rintro e w6 ⟨rfl, rfl⟩
      go_wp2_with fail
      refine hK.out _ _ (HB5.out) (fun hHeld => ?_)
      clear hK Kc
      (try simp only [ly])
      refine wpAnyH_done (by kernel_rfl) ?_ _
      (try simp only [ly])
      go_wp2
      refine bodyPost_end (v := .tuple #[]) ?_ rfl ⟨rfl, HB4.out.trans (HB5.out.mono HB4.out.size)⟩
      simp [results, Tryd.results55]
     ·have hq : (u == t) = false := by simp [hu]
      obtain rfl : false = r := by rw [← HR3.out]; simp [hu]
      refine wp_region_held_drew (S := fun w' => Below w4.heap.size w4 w') (by kernel_rfl) ?_ (fun hHeld => ?_)
      ·exact (Below.refl _ _).drew
      refine tT 0 ?_ rfl ?_ ?_; rotate_left; (focus intros; go_simp; try rfl)
      refine tT 1 ?_ rfl ?_ ?_; rotate_left; (focus intros; go_simp; try rfl)
      (refine takeH (i := 2) (v := .agg E.toArray) rfl (by kernel_rfl) (by kernel_rfl) (by kernel_rfl) (fun _ _ _ h => h) (yieldsIf_load_mid (by kernel_rfl) 28 _ rfl B 8 rfl E _ (fun _ hb => HEG.out _ hb) Tryd.underlying28 rfl HE6.out) (by assumption) ?_; (try simp only [ly]))
      refine tT 4 ?_ rfl ?_ ?_; rotate_left; (focus intros; go_simp; try rfl)
      refine tT 6 ?_ rfl ?_ ?_; rotate_left; (focus intros; go_simp; try rfl)
      (refine tT 7 ?_ rfl ?_ ?_; rotate_left; (focus (intro w' hSw; (try dsimp only at hSw); (have g := HC5.out _ hSw); go_simp; try (with_reducible rfl))); (try simp only [ly]))
      refine oneH (i := 3) (by kernel_rfl) rfl (fun Kc hK => ?_)
      go_simp
      go_at_call 21; refine (HEX.out _ hHeld).mono ?_; rintro e w5 ⟨he, hb5⟩; obtain rfl := he; (have HB5 := Lib.hid (hHeld.trans (hb5.mono hHeld.size))); clear hb5 hHeld
      go_wp2_with fail
      refine hK.out _ _ (HB5.out) (fun hHeld => ?_)
      clear hK Kc
      (try simp only [ly])
      refine tT 5 ?_ rfl ?_ ?_; rotate_left; (focus intros; go_simp; try rfl); (try simp only [ly])
      refine oneH (i := 8) (by kernel_rfl) rfl (fun Kc hK => ?_)
      go_simp
      go_at_call 35; refine (need_any false 10 ls _ (by decide)).mono ?_; rintro e w6 ⟨he, rfl⟩; obtain ⟨n9, l9, rfl, h9⟩ := he
      exact post_panic rfl (⟨⟨n9, l9, rfl, h9⟩, HB4.out.trans (HB5.out.mono HB4.out.size)⟩)

theorem kloop_of (vs : List VarS) (SS : Int → List Stm → Bool) (bl : List Stm) (w0 : World) (C : Nat) (A A' : Option Addr) (cap k' : Nat) (w : World) (ls : Int) (hS : StmtsOK w0 C A cap vs SS bl) (hw0 : Below w0.heap.size w0 w) (hC : w0.heap.size ≤ C) (hck : Ck w C A cap vs ls) (hrow : RowT w0 A' bl k') :
  Calls Tryd.prog 60 #[ckP C, .slice A' bl.length k'] w fun e w' => OkRes w C A cap vs ls (SS (wr1 ls) bl) e w' := by
 have HS : Hid (∀ W, Below w0.heap.size w0 W → Ck W C A cap vs (wr1 ls) → Calls Tryd.prog 19 #[ckP C, .slice A' bl.length k'] W fun e W' => OkRes W C A cap vs (wr1 ls) (SS (wr1 ls) bl) e W') := Lib.hid (fun W h1 h2 => hS W _ A' k' h1 h2 hrow)
 have hbut : But C w (w.setCell ⟨C, 1, none⟩ (.int .i64 (wr1 ls))) := (But.refl C w).set 1 _
 have HCK1 := Lib.hid (hck.set (z := wr1 ls) (wr1_I64 _))
 have HW1 : Hid (Below w0.heap.size w0 (w.setCell ⟨C, 1, none⟩ (.int .i64 (wr1 ls)))) := Lib.hid (hw0.trans (hbut.below _ hC hw0.size))
 have HBUT := Lib.hid hbut
 have c1 := hck.c1
 have f1 := hck.fr 1
 have lC := hck.v.lt
 have HCK := Lib.hid hck
 have hback : wrap64 (wr1 ls - 1) = ls := by
  have := hck.i64
  unfold I64 at this
  unfold wr1 wrap64
  omega
 have HBK := Lib.hid hback
 obtain ⟨z1, hz1⟩ : ∃ z, wr1 ls = z := ⟨_, rfl⟩
 obtain ⟨n, hn⟩ : ∃ n, bl.length = n := ⟨_, rfl⟩
 have HZ : Hid (wrap64 (ls + 1) = z1) := Lib.hid hz1
 rw [hz1] at HS HCK1 HW1 HBUT HBK ⊢
 obtain ⟨r, hr⟩ : ∃ r, SS z1 bl = r := ⟨_, rfl⟩
 rw [hr] at HS ⊢
 rw [hn] at HS ⊢
 clear hS hw0 hck hrow hbut hz1 hn hr hback
 go_enter Tryd.func60, Tryd.ntmps60
 go_upto_region 1 with (fail)
 refine wp_name fun W1 hW1 => ?_
 obtain rfl : w.setCell ⟨C, 1, none⟩ (.int .i64 z1) = W1 := by
  rw [hW1.out, ← HZ.out]
 obtain ⟨W1, hW1'⟩ : ∃ W1, w.setCell ⟨C, 1, none⟩ (.int .i64 z1) = W1 := ⟨_, rfl⟩
 rw [hW1'] at HCK1 HW1 HBUT ⊢
 clear hW1 hW1' c1 f1 lC
 go_wp2_with fail
 refine (HS.out W1 HW1.out HCK1.out).mono ?_
 rintro e w2 ⟨he, hb2, hk2⟩
 have HB2 := Lib.hid (HBUT.out.trans hb2)
 cases r
 ·obtain ⟨n9, l9, rfl, h9⟩ := he
  exact post_panic rfl ⟨⟨n9, l9, rfl, h9⟩, HB2.out, fun h => by cases h⟩
 ·obtain rfl := he
  have HK2 := Lib.hid (hk2 rfl)
  have HK3 : Hid (Ck (w2.setCell ⟨C, 1, none⟩ (.int .i64 ls)) C A cap vs ls) := Lib.hid (HK2.out.set HCK.out.i64)
  have HB3 : Hid (But C w (w2.setCell ⟨C, 1, none⟩ (.int .i64 ls))) := Lib.hid (HB2.out.set 1 _)
  have c1 := HK2.out.c1
  have f1 := HK2.out.fr 1
  have lC := HK2.out.v.lt
  clear hb2 hk2
  go_wp2
  rw [HBK.out]
  refine bodyPost_end (v := .tuple #[]) ?_ rfl ⟨rfl, HB3.out, fun _ => HK3.out⟩
  simp [results, Tryd.results60]

end Go.Proofs.YtahjijdadifkaaaDoor
