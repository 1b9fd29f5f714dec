/- Merged: Layer 21: a program of one expression. Layer 21: an expression that has a type has it folded; a program that fits, folded, fits: the walk. -/
import Derived.Test.YtahjijdadifkaaaDoorM24
import Derived.Test.YtahjijdadifkaaaDoorM26
import Derived.Test.YtahjijdadifkaaaDoorM05
set_option linter.unusedVariables false
set_option linter.unusedSimpArgs false
set_option maxHeartbeats 8000000
namespace Go.Proofs.YtahjijdadifkaaaDoor
open Go.RowKit
attribute [local go_sem] ite_max ite_min vite_max vite_min ext_cell ext_frozen

def noX : Ex := .mk 0 0 ⟨#[]⟩ ⟨#[]⟩ [] 0
def holdP (vs : List VarS) (x : Ex) : Prg := ⟨⟨#[112]⟩, vs, [.mk 5 ⟨#[]⟩ noX x [] [] [] [[]] 0]⟩
theorem holdP_sm {vs : List VarS} {x : Ex} (h : SmE x) : ∀ s ∈ (holdP vs x).body, SmS s := fun s hs => by
 simp only [holdP, List.mem_singleton] at hs
 subst hs
 refine .mk _ ⟨by show (0 : Nat) ≤ 140737488355328; omega, by show (0 : Nat) ≤ 140737488355328; omega⟩ h (fun bl hbl t ht => ?_)
 simp only [Stm.blocks, List.mem_singleton] at hbl
 subst hbl
 cases ht
theorem noX_at (w : World) : ExAt w noX [.int .i64 0, .int .i64 0, .string ⟨#[]⟩, .string ⟨#[]⟩, .slice none 0 0, .int .i64 0] :=
 ExAt.of zero_I64 zero_I64 zero_I64 (RowOf.nil _ _ _ _ _ _ (by decide))
def holdC (x : Ex) (A : Option Addr) (c : Nat) (b : Nat) : List Value := [.int .i64 5, .string ⟨#[]⟩, .int .i64 0, .int .i64 0, .string ⟨#[]⟩, .string ⟨#[]⟩, .slice none 0 0, .int .i64 0, .int .i64 x.op, .int .i64 x.n, .string x.name, .string x.field, .slice A x.sub.length c, .int .i64 x.line, .slice none 0 0, .slice none 0 0, .slice none 0 0, .slice (some ⟨b, 0, none⟩) 1 1, .int .i64 0]
theorem hold_at {w : World} {vs : List VarS} {x : Ex} {A : Option Addr} {c b q kv : Nat} {Av : Option Addr} {T1 T2 : TypeId} (hv : RowV w Av vs kv) (hx : ExAt w x (ExC x A c)) (hb : w.heap[b]? = some (.cells #[.slice none 0 0] T1)) (hq : w.heap[q]? = some (.cells (holdC x A c b).toArray T2)) :
  PrgAt w (holdP vs x) [.string ⟨#[112]⟩, .slice Av vs.length kv, .slice (some ⟨q, 0, none⟩) 1 1] := by
 refine ⟨Av, kv, some ⟨q, 0, none⟩, 1, rfl, hv, Nat.le_refl _, by decide, by show 1 * 288 ≤ _; decide, fun _ => holdC x A c b, fun _ => ⟨q, 0, rfl, (Array.getElem?_eq_some_iff.1 hq).1, fun i hi j hj => ?_⟩, fun i s hs => ?_⟩
 ·have hi : i < 1 := hi
  obtain rfl : i = 0 := by omega
  rw [Nat.zero_mul, Nat.zero_add]
  have hl : (holdC x A c b).length = 19 := rfl
  show _ = (holdC x A c b)[j]?
  rw [List.getElem?_eq_getElem (by omega)]
  exact heap_cell j _ hq (by rw [List.getElem?_toArray, List.getElem?_eq_getElem (by omega)])
 ·rcases i with _ | i
  ·have hs : some (Stm.mk 5 ⟨#[]⟩ noX x [] [] [] [[]] 0) = some s := hs
   cases hs
   refine StmAt.of (conds := []) (labels := []) (fields := []) (blocks := [[]]) (Ac := none) (Al := none) (Af := none) (Ab := some ⟨b, 0, none⟩) (kc := 0) (kl := 0) (kf := 0) (kb := 1) ⟨by decide, by decide⟩ zero_I64 (noX_at w) hx (RowOf.nil _ _ _ _ _ _ (by decide)) (RowOf.nil _ _ _ _ _ _ (by decide)) (RowOf.nil _ _ _ _ _ _ (by decide)) ?_
   refine ⟨Nat.le_refl _, by decide, by show 1 * 24 ≤ _; decide, fun _ => [.slice none 0 0], fun _ => ⟨b, 0, rfl, (Array.getElem?_eq_some_iff.1 hb).1, fun i hi j hj => ?_⟩, fun i bl hbl => ?_⟩
   ·have hi : i < 1 := hi
    obtain rfl : i = 0 := by omega
    obtain rfl : j = 0 := by omega
    exact heap_cell 0 _ hb rfl
   ·rcases i with _ | i
    ·simp at hbl
     subst hbl
     exact ⟨none, 0, rfl, RowOf.nil _ _ _ _ _ _ (by decide)⟩
    ·simp at hbl
  ·simp [holdP] at hs

def HoldRes (vs : List VarS) (x : Ex) (Av : Option Addr) (kv : Nat) (e : Ending) (w' : World) : Prop := ∃ q, e = .returned (.agg #[.string ⟨#[112]⟩, .slice Av vs.length kv, .slice (some ⟨q, 0, none⟩) 1 1]) ∧ PrgAt w' (holdP vs x) [.string ⟨#[112]⟩, .slice Av vs.length kv, .slice (some ⟨q, 0, none⟩) 1 1]

set_option maxRecDepth 100000 in
theorem kholder_any (vs : List VarS) (x : Ex) (Av A : Option Addr) (kv c : Nat) (w : World) (hv : RowV w Av vs kv) (hx : ExAt w x (ExC x A c)) :
  Calls Tryd.prog 9 #[.slice Av vs.length kv, .agg (ExC x A c).toArray] w fun e w' => HoldRes vs x Av kv e w' ∧ Below w.heap.size w w' := by
 have HV := Lib.hid hv
 have HX := Lib.hid hx
 obtain ⟨n, hn⟩ : ∃ n, vs.length = n := ⟨_, rfl⟩
 have HN := Lib.hid hn
 show Calls Tryd.prog 9 #[.slice Av vs.length kv, .agg #[.int .i64 x.op, .int .i64 x.n, .string x.name, .string x.field, .slice A x.sub.length c, .int .i64 x.line]] w _
 obtain ⟨o1, ho1⟩ : ∃ o, x.op = o := ⟨_, rfl⟩
 obtain ⟨o2, ho2⟩ : ∃ o, x.n = o := ⟨_, rfl⟩
 obtain ⟨o3, ho3⟩ : ∃ o, x.name = o := ⟨_, rfl⟩
 obtain ⟨o4, ho4⟩ : ∃ o, x.field = o := ⟨_, rfl⟩
 obtain ⟨o5, ho5⟩ : ∃ o, x.sub.length = o := ⟨_, rfl⟩
 obtain ⟨o6, ho6⟩ : ∃ o, x.line = o := ⟨_, rfl⟩
 have HC : Hid (∀ b, holdC x A c b = [.int .i64 5, .string ⟨#[]⟩, .int .i64 0, .int .i64 0, .string ⟨#[]⟩, .string ⟨#[]⟩, .slice none 0 0, .int .i64 0, .int .i64 o1, .int .i64 o2, .string o3, .string o4, .slice A o5 c, .int .i64 o6, .slice none 0 0, .slice none 0 0, .slice none 0 0, .slice (some ⟨b, 0, none⟩) 1 1, .int .i64 0]) := Lib.hid (fun b => by rw [← ho1, ← ho2, ← ho3, ← ho4, ← ho5, ← ho6]; rfl)
 rw [hn, ho1, ho2, ho3, ho4, ho5, ho6]
 clear hv hx hn ho1 ho2 ho3 ho4 ho5 ho6
 go_enter Tryd.func9, Tryd.ntmps9
 go_wp2
 obtain ⟨W, hW⟩ : ∃ W, W = ((((w.alloc (.cells #[.int .i64 o1, .int .i64 o2, .string o3, .string o4, .slice A o5 c, .int .i64 o6] 28)).alloc (.cells #[.string ⟨#[112]⟩, .slice Av n kv, .slice (some ⟨w.heap.size + 1 + 1 + 1, 0, none⟩) 1 1] 25)).alloc (.cells #[.slice none 0 0] 23)).alloc (.cells #[.int .i64 5, .string ⟨#[]⟩, .int .i64 0, .int .i64 0, .string ⟨#[]⟩, .string ⟨#[]⟩, .slice none 0 0, .int .i64 0, .int .i64 o1, .int .i64 o2, .string o3, .string o4, .slice A o5 c, .int .i64 o6, .slice none 0 0, .slice none 0 0, .slice none 0 0, .slice (some ⟨w.heap.size + 1 + 1, 0, none⟩) 1 1, .int .i64 0] 63)) := ⟨_, rfl⟩
 rw [← hW]
 have hb : Below w.heap.size w W := by rw [hW]; exact belowBy
 have h1 : W.heap[w.heap.size + 1]? = some (.cells #[.string ⟨#[112]⟩, .slice Av n kv, .slice (some ⟨w.heap.size + 1 + 1 + 1, 0, none⟩) 1 1] 25) := by
  rw [hW]
  refine (heap_alloc_old _ _ (by simp)).trans ((heap_alloc_old _ _ (by simp)).trans ?_)
  have := heap_alloc_new (w.alloc (.cells #[.int .i64 o1, .int .i64 o2, .string o3, .string o4, .slice A o5 c, .int .i64 o6] 28)) (.cells #[.string ⟨#[112]⟩, .slice Av n kv, .slice (some ⟨w.heap.size + 1 + 1 + 1, 0, none⟩) 1 1] 25)
  rw [World.size_alloc] at this
  exact this
 have h2 : W.heap[w.heap.size + 1 + 1]? = some (.cells #[.slice none 0 0] 23) := by
  rw [hW]
  refine (heap_alloc_old _ _ (by simp)).trans ?_
  have := heap_alloc_new ((w.alloc (.cells #[.int .i64 o1, .int .i64 o2, .string o3, .string o4, .slice A o5 c, .int .i64 o6] 28)).alloc (.cells #[.string ⟨#[112]⟩, .slice Av n kv, .slice (some ⟨w.heap.size + 1 + 1 + 1, 0, none⟩) 1 1] 25)) (.cells #[.slice none 0 0] 23)
  rw [World.size_alloc, World.size_alloc] at this
  exact this
 have h3 : W.heap[w.heap.size + 1 + 1 + 1]? = some (.cells (holdC x A c (w.heap.size + 1 + 1)).toArray 63) := by
  rw [HC.out, hW]
  have := heap_alloc_new (((w.alloc (.cells #[.int .i64 o1, .int .i64 o2, .string o3, .string o4, .slice A o5 c, .int .i64 o6] 28)).alloc (.cells #[.string ⟨#[112]⟩, .slice Av n kv, .slice (some ⟨w.heap.size + 1 + 1 + 1, 0, none⟩) 1 1] 25)).alloc (.cells #[.slice none 0 0] 23)) (.cells #[.int .i64 5, .string ⟨#[]⟩, .int .i64 0, .int .i64 0, .string ⟨#[]⟩, .string ⟨#[]⟩, .slice none 0 0, .int .i64 0, .int .i64 o1, .int .i64 o2, .string o3, .string o4, .slice A o5 c, .int .i64 o6, .slice none 0 0, .slice none 0 0, .slice none 0 0, .slice (some ⟨w.heap.size + 1 + 1, 0, none⟩) 1 1, .int .i64 0] 63)
  rw [World.size_alloc, World.size_alloc, World.size_alloc] at this
  exact this
 have hp := hold_at (HV.out.below hb) (HX.out.keep hb) h2 h3
 clear hW
 refine post_rowK Tryd.results9 rfl h1 Tryd.underlying25 rfl prog_size rfl ⟨⟨_, by rw [HN.out], hp⟩, hb⟩


theorem TypX.form {o : Option Int} {e : Ending} (h : TypX o e) : ∃ a b c : Int, e = .returned (.tuple #[.int .i64 a, .int .i64 b, .int .i64 c]) := by
 cases o with
 | none =>
  obtain ⟨a, b, c, h, _⟩ := h
  exact ⟨a, b, c, h⟩
 | some t => exact ⟨t, 0, 0, h⟩

set_option maxRecDepth 100000 in
theorem walk_FoldTypes (p : Prg) (cs : List Value) (x : Ex) (xs : List Value) (w : World) (h : PrgAt w p cs) (hsm : ∀ s ∈ p.body, SmS s) (hx : ExAt w x xs) (hxs : SmE x) (ht : Blanks w) :
  Calls Tryd.prog 3 #[.agg cs.toArray, .agg xs.toArray] w fun e w' => e = .returned (.bool true) ∧ Below w.heap.size w w' := by
 obtain ⟨Ax, cx, rfl⟩ : ∃ Ax cx, xs = ExC x Ax cx := by
  obtain ⟨A, c, e, _⟩ := hx.form
  exact ⟨A, c, e⟩
 obtain ⟨Av, kv, Ab, kb, rfl, hv, hbd⟩ := h
 have HP : Hid (PrgAt w p [.string p.name, .slice Av p.vars.length kv, .slice Ab p.body.length kb]) := Lib.hid ⟨Av, kv, Ab, kb, rfl, hv, hbd⟩
 have HRV := Lib.hid hv
 have HRB := Lib.hid hbd
 have HSM := Lib.hid hsm
 have HXA := Lib.hid hx
 have HXS := Lib.hid hxs
 have HBT := Lib.hid ht
 obtain ⟨L, hL⟩ : ∃ L, ExC x Ax cx = L := ⟨_, rfl⟩
 have HLS : Hid ((Tryd.prog.info? 28).map (·.size) = some L.length) := Lib.hid (by rw [← hL]; exact expr_size)
 have HLX : Hid (∀ W, Below w.heap.size w W → ExAt W x L) := Lib.hid (fun W hW => by rw [← hL]; exact hx.keep hW)
 have HLQ := Lib.hid hL
 have HHO : Hid (∀ W, Below w.heap.size w W → Calls Tryd.prog 9 #[.slice Av p.vars.length kv, .agg L.toArray] W fun e w' => HoldRes p.vars x Av kv e w' ∧ Below W.heap.size W w') := Lib.hid (fun W hW => by rw [← hL]; exact kholder_any p.vars x Av Ax kv cx W (hv.below hW) (hx.keep hW))
 have HTY : Hid (ShE x → ∀ W, Below w.heap.size w W → Calls Tryd.prog 10 #[.agg #[.string p.name, .slice Av p.vars.length kv, .slice Ab p.body.length kb], .agg L.toArray] W fun e w' => TypX (tyE p.vars x) e ∧ Below W.heap.size W w') := Lib.hid (fun hs W hW => by rw [← hL]; exact ktype_any p _ x Ax cx W (HP.out.keep hW) (hx.keep hW) hs (ht.on hW))
 have HTZ : Hid (∀ y A c, ShE y → ∀ W, Below w.heap.size w W → ExAt W y (ExC y A c) → Calls Tryd.prog 10 #[.agg #[.string p.name, .slice Av p.vars.length kv, .slice Ab p.body.length kb], .agg (ExC y A c).toArray] W fun e w' => TypX (tyE p.vars y) e ∧ Below W.heap.size W w') := Lib.hid (fun y A c hs W hW ha => ktype_any p _ y A c W (HP.out.keep hW) ha hs (ht.on hW))
 have HFE : Hid (∀ W, Below w.heap.size w W → Calls Tryd.prog 11 #[.agg L.toArray] W fun e w' => ExRes W.heap.size (foldE opF x) e w' ∧ Below W.heap.size W w') := Lib.hid (fun W hW => by rw [← hL]; exact fexpr_any _ x (Nat.lt_succ_self _) W Ax cx (hx.keep hW))
 rw [hL]
 clear hv hbd hsm hx hxs ht hL HXA
 go_enter Tryd.func3, Tryd.ntmps3
 go_upto_region 1 with (refine wpList_boxTo rfl 28 _ rfl _ rfl _ rfl L.toArray rfl ?_)
 refine wp_name fun W0 hW0 => ?_
 obtain ⟨B, hB⟩ : ∃ B, B = w.heap.size := ⟨_, rfl⟩
 have hB1 : B + 1 = w.heap.size + 1 := by omega
 have hh : W0.heap[B]? = some (.cells #[.string p.name, .slice Av p.vars.length kv, .slice Ab p.body.length kb] 25) := by rw [hW0.out, hB]; exact (heap_alloc_old _ _ (by simp)).trans (heap_alloc_new _ _)
 have hg : W0.heap[B + 1]? = some (.cells L.toArray 28) := by
  rw [hW0.out, hB]
  have := heap_alloc_new (w.alloc (.cells #[.string p.name, .slice Av p.vars.length kv, .slice Ab p.body.length kb] 25)) (.cells L.toArray 28)
  rw [World.size_alloc] at this
  exact this
 have hbel : Below w.heap.size w W0 := by rw [hW0.out]; exact belowBy
 have hCW : ∀ W, Below W0.heap.size W0 W → W.cell? ⟨B, 0, none⟩ = some (.string p.name) ∧ W.cell? ⟨B, 1, none⟩ = some (.slice Av p.vars.length kv) ∧ W.cell? ⟨B, 2, none⟩ = some (.slice Ab p.body.length kb) ∧ B < W.heap.size ∧ Below w.heap.size w W := fun W hb => by
  have hl : B < W0.heap.size := (Array.getElem?_eq_some_iff.1 hh).1
  exact ⟨(hb.cell (p := ⟨B, 0, none⟩) hl).trans (heap_cell 0 _ hh rfl), (hb.cell (p := ⟨B, 1, none⟩) hl).trans (heap_cell 1 _ hh rfl), (hb.cell (p := ⟨B, 2, none⟩) hl).trans (heap_cell 2 _ hh rfl), Nat.lt_of_lt_of_le hl hb.size, hbel.trans (hb.mono hbel.size)⟩
 have HCW := Lib.hid hCW
 have HXG : Hid (∀ W, Below W0.heap.size W0 W → W.rangeAt (B + 1) 0 L) := Lib.hid (fun W hb => by
  have hl : B + 1 < W0.heap.size := (Array.getElem?_eq_some_iff.1 hg).1
  have := rangeAt_of_heap ((hb.block (B + 1) hl).trans hg)
  simpa using this)
 rw [show w.heap.size + 1 = B + 1 by omega, ← hB]
 clear hh hg hbel hW0 hB hB1 hCW
 go_wp2_with fail
 refine (awake21 _).mono ?_
 rintro e w1 ⟨rfl, hb1⟩
 obtain ⟨c0, c1, c2, hl1, hw1⟩ := HCW.out w1 hb1
 have HB1 := Lib.hid hb1
 have HW1 := Lib.hid hw1
 clear hb1 hw1
 go_wp2_with fail
 refine (short_any p _ _ (HP.out.keep HW1.out)).mono ?_
 rintro e w2 ⟨⟨b, rfl⟩, hb2⟩
 have hb2' := HB1.out.trans (hb2.mono HB1.out.size)
 clear c0 c1 c2 hl1
 obtain ⟨c0, c1, c2, hl2, hw2⟩ := HCW.out w2 hb2'
 have HB2 := Lib.hid hb2'
 have HW2 := Lib.hid hw2
 clear hb2 hb2' hw2 HB1 HW1
 cases b
 ·go_wp2
  go_ret
  exact ⟨rfl, HW2.out⟩
 go_wp2_with fail
 refine (fits_any p _ _ (HP.out.keep HW2.out) HSM.out).mono ?_
 rintro e w3 ⟨⟨b, rfl, hfit⟩, hb3⟩
 have hb3' := HB2.out.trans (hb3.mono HB2.out.size)
 clear c0 c1 c2 hl2
 obtain ⟨c0, c1, c2, hl3, hw3⟩ := HCW.out w3 hb3'
 have HB3 := Lib.hid hb3'
 have HW3 := Lib.hid hw3
 clear hb3 hb3' hw3 HB2 HW2
 cases b
 ·clear hfit
  go_wp2
  go_ret
  exact ⟨rfl, HW3.out⟩
 have HFIT := Lib.hid (hfit rfl)
 clear hfit
 go_wp2_with fail
 refine (kcheck_any p _ _ (HP.out.keep HW3.out) (fun s hs => (HFIT.out.body s hs).shS) (fun v hv => (HFIT.out.vars v hv).arrOk) HFIT.out.vl (HBT.out.on HW3.out)).mono ?_
 rintro e wy ⟨he, hby⟩
 have hby' := HB3.out.trans (hby.mono HB3.out.size)
 clear c0 c1 c2 hl3
 obtain ⟨c0, c1, c2, hly, hwy⟩ := HCW.out wy hby'
 have HBY := Lib.hid hby'
 have HWY := Lib.hid hwy
 clear hby hby' hwy HB3 HW3
 cases hck : checkX p
 case' false =>
  rw [hck] at he
  obtain ⟨n9, l9, rfl, h9⟩ := he
  have h9b : (n9 == 0) = false := by simp [h9]
  clear hck h9
  go_upto_region 10 with (fail)
  clear c0 c2
 case' true =>
  rw [hck] at he
  obtain rfl := he
  have HCK := Lib.hid (checkX_fold HFIT.out hck)
  clear hck
  go_wp2_with fail
  refine (fprog_any p _ _ _ _ _ (HRV.out.below HWY.out) (HRB.out.below HWY.out)).mono ?_
  rintro e wz ⟨⟨Av4, kv4, Ab4, kb4, rfl, hv4, hbd4⟩, hbz⟩
  have hbz' := HBY.out.trans (hbz.mono HBY.out.size)
  clear c0 c1 c2 hly
  obtain ⟨c0, c1, c2, hlz, hwz⟩ := HCW.out wz hbz'
  have HKC : Hid (Calls Tryd.prog 7 #[.agg #[.string (foldP p).name, .slice Av4 (foldP p).vars.length kv4, .slice Ab4 (foldP p).body.length kb4]] wz fun e w' => e = .returned (.tuple #[.int .i64 0, .int .i64 0]) ∧ Below wz.heap.size wz w') := Lib.hid (by
   have := kcheck_any (foldP p) _ wz ⟨Av4, kv4, Ab4, kb4, rfl, hv4, hbd4⟩ (shS_foldP HFIT.out) (fun v hv => (HFIT.out.vars v hv).arrOk) HFIT.out.vl (HBT.out.on hwz)
   rw [HCK.out] at this
   exact this)
  have HBZ := Lib.hid hbz'
  clear hbz hbz' hwz hv4 hbd4 HBY HWY
  go_wp2_with fail
  refine HKC.out.mono ?_
  rintro e wy ⟨rfl, hby⟩
  have hby' := HBZ.out.trans (hby.mono HBZ.out.size)
  clear c0 c1 c2 hlz
  obtain ⟨c0, c1, c2, hly, hwy⟩ := HCW.out wy hby'
  have HBY := Lib.hid hby'
  have HWY := Lib.hid hwy
  clear hby hby' hwy HBZ HKC
  go_upto_region 10 with (fail)
  clear c0 c2
 all_goals
  obtain ⟨n, hn⟩ : ∃ n, p.vars.length = n := ⟨_, rfl⟩
  have HN := Lib.hid hn
  have HHOW := Lib.hid (HHO.out wy HWY.out)
  have hxgy := Lib.hid (HXG.out _ HBY.out)
  rw [hn] at c1 HHOW
  go_wp2_with (refine wpList_load_mid rfl 28 _ rfl (B + 1) 0 rfl L _ hxgy.out Tryd.underlying28 rfl HLS.out ?_)
  refine HHOW.out.mono ?_
  rintro e wa ⟨⟨q, rfl, hpa⟩, hba⟩
  have HPA := Lib.hid hpa
  have HBA := Lib.hid (HBY.out.trans (hba.mono HBY.out.size))
  rw [hn] at HPA ⊢
  clear hpa hba HBY HWY c1 hly HHOW hxgy hn
  go_upto_region 11 with (refine wpList_store_new rfl 25 _ _ rfl wa _ (prA ⟨#[112]⟩ Av n kv (some ⟨q, 0, none⟩) 1 1) rfl rfl rfl prog_size rfl (prA_one _ _ _ _ _ _ _) ?_)
  refine wp_name fun wb hwb => ?_
  obtain ⟨G, hG⟩ : ∃ G, G = wa.heap.size := ⟨_, rfl⟩
  have hh : wb.heap[G]? = some (.cells (prA ⟨#[112]⟩ Av n kv (some ⟨q, 0, none⟩) 1 1) 25) := by rw [hwb.out, hG]; exact heap_alloc_new _ _
  have hbb : Below wa.heap.size wa wb := by rw [hwb.out]; exact belowBy
  have HPB := Lib.hid (HPA.out.keep hbb)
  have HBB := Lib.hid (HBA.out.trans (hbb.mono HBA.out.size))
  have HCG : Hid (∀ W, Below wb.heap.size wb W → W.cell? ⟨G, 0, none⟩ = some (.string ⟨#[112]⟩) ∧ W.cell? ⟨G, 1, none⟩ = some (.slice Av n kv) ∧ W.cell? ⟨G, 2, none⟩ = some (.slice (some ⟨q, 0, none⟩) 1 1) ∧ G < W.heap.size) := Lib.hid (fun W hb => by
   have hl : G < wb.heap.size := (Array.getElem?_eq_some_iff.1 hh).1
   exact ⟨(hb.cell (p := ⟨G, 0, none⟩) hl).trans (heap_cell 0 _ hh rfl), (hb.cell (p := ⟨G, 1, none⟩) hl).trans (heap_cell 1 _ hh rfl), (hb.cell (p := ⟨G, 2, none⟩) hl).trans (heap_cell 2 _ hh rfl), Nat.lt_of_lt_of_le hl hb.size⟩)
  rw [← hG]
  simp only [Act.put]
  clear hwb hh hbb hG HPA HBA
  obtain ⟨g0, g1, g2, gl⟩ := HCG.out wb (Below.refl _ _)
  go_wp2_with fail
  refine (short_any (holdP p.vars x) _ _ HPB.out).mono ?_
  rintro e wc ⟨⟨b, rfl⟩, hbc⟩
  have HPC := Lib.hid (HPB.out.keep hbc)
  have HBC := Lib.hid (HBB.out.trans (hbc.mono HBB.out.size))
  clear g0 g1 g2 gl
  obtain ⟨g0, g1, g2, gl⟩ := HCG.out wc hbc
  clear hbc
  cases b
  ·go_wp2
   go_ret
   exact ⟨rfl, (HCW.out _ HBC.out).2.2.2.2⟩
  go_wp2_with fail
  refine (fits_any (holdP p.vars x) _ _ HPC.out (holdP_sm HXS.out)).mono ?_
  rintro e wd ⟨⟨b, rfl, hfit⟩, hbd⟩
  have HBD := Lib.hid (HBC.out.trans (hbd.mono HBC.out.size))
  clear hbd g0 g1 g2 gl HPC HBC HPB HBB HCG
  obtain ⟨c0, c1, c2, hld, hwd⟩ := HCW.out wd HBD.out
  cases b
  ·clear hfit
   go_wp2
   go_ret
   exact ⟨rfl, hwd⟩
  have HSH : Hid (ShE x) := Lib.hid ((((hfit rfl).body _ (List.mem_singleton.2 rfl)).parts.1.src1 (.inr (.inr (.inl rfl)))).shE)
  have HWD0 := Lib.hid hwd
  have HXD0 := Lib.hid (HXG.out _ HBD.out)
  have HTYW := Lib.hid (HTY.out HSH.out wd hwd)
  rw [HN.out] at c1 HTYW
  clear hfit hwd
  go_wp2_with (refine wpList_load_mid rfl 28 _ rfl (B + 1) 0 rfl L _ HXD0.out Tryd.underlying28 rfl HLS.out ?_)
  refine HTYW.out.mono ?_
  rintro e wg ⟨he, hbg⟩
  have HBG := Lib.hid (HBD.out.trans (hbg.mono HBD.out.size))
  clear c0 c1 c2 hld hbg HXD0 HTYW HWD0 HBD
  have HWG := Lib.hid (HCW.out _ HBG.out).2.2.2.2
  have HCD : Hid (∀ W, Below wg.heap.size wg W → W.cell? ⟨B, 0, none⟩ = some (.string p.name) ∧ W.cell? ⟨B, 1, none⟩ = some (.slice Av n kv) ∧ W.cell? ⟨B, 2, none⟩ = some (.slice Ab p.body.length kb) ∧ B < W.heap.size) := Lib.hid (fun W hb => by
   obtain ⟨g0, g1, g2, gl, _⟩ := HCW.out W (HBG.out.trans (hb.mono HBG.out.size))
   rw [HN.out] at g1
   exact ⟨g0, g1, g2, gl⟩)
  have HXD : Hid (∀ W, Below wg.heap.size wg W → W.rangeAt (B + 1) 0 L) := Lib.hid (fun W hb => HXG.out W (HBG.out.trans (hb.mono HBG.out.size)))
  rw [HN.out] at HTZ
  cases hty : tyE p.vars x
  case none =>
   rw [hty] at he
   obtain ⟨t8, n8, l8, rfl, h8⟩ := he
   have h8e : (n8 == 0) = false := by simp [h8]
   have h8n : (n8 != 0) = true := by simp [h8]
   clear hty h8
   go_upto_region 14 with (fail)
   refine wp_region_held_drew (S := fun w' => Below wg.heap.size wg w') (by kernel_rfl) ?_ (fun hHeld => ?_)
   ·exact (Below.refl _ _).drew
   (refine tT 0 ?_ rfl ?_ ?_; rotate_left; (focus (intro w' hSw; (try dsimp only at hSw); (obtain ⟨g0, g1, g2, gl⟩ := HCD.out _ hSw); go_simp; try (with_reducible rfl))))
   (refine takeH (i := 1) (v := .agg L.toArray) rfl (by kernel_rfl) (by kernel_rfl) (by kernel_rfl) (fun _ _ _ h => h) (yieldsIf_load_mid (by kernel_rfl) 28 _ rfl (B + 1) 0 rfl L _ (fun _ hb => HXD.out _ hb) Tryd.underlying28 rfl HLS.out) (by assumption) ?_; (try simp only [ly]))
   refine oneH (i := 2) (by kernel_rfl) rfl (fun Kc hK => ?_)
   go_simp
   go_at_call 11; refine (HFE.out _ (HWG.out.trans (hHeld.mono HWG.out.size))).mono ?_; rintro e we ⟨⟨Ay, cy, rfl, hat⟩, hbe⟩; (have HBE := Lib.hid (hHeld.trans (hbe.mono hHeld.size))); (have HYA := Lib.hid (hat.move (Moves.only _ _))); clear hbe hHeld hat
   go_wp2_with fail
   refine hK.out _ _ (HBE.out) (fun hHeld => ?_)
   clear hK Kc
   (try simp only [ly])
   refine oneH (i := 3) (by kernel_rfl) rfl (fun Kc hK => ?_)
   go_simp
   go_at_call 10; refine (HTZ.out _ Ay cy HSH.out.fold _ (HWG.out.trans (HBE.out.mono HWG.out.size)) HYA.out).mono ?_; rintro e wf ⟨he, hbf⟩; obtain ⟨a9, b9, d9, rfl⟩ := he.form; (have HBF := Lib.hid (HBE.out.trans (hbf.mono HBE.out.size))); clear hbf
   go_wp2_with fail
   refine hK.out _ _ (HBF.out) (fun hHeld => ?_)
   clear hK Kc
   (try simp only [ly])
   refine tT 4 ?_ rfl ?_ ?_; rotate_left; (focus intros; go_simp; try rfl)
   refine tT 5 ?_ rfl ?_ ?_; rotate_left; (focus intros; go_simp; try rfl)
   refine tT 6 ?_ rfl ?_ ?_; rotate_left; (focus intros; go_simp; try rfl); (try simp only [ly])
   refine tT 7 ?_ rfl ?_ ?_; rotate_left; (focus intros; go_simp; try rfl)
   refine tT 8 ?_ rfl ?_ ?_; rotate_left; (focus intros; go_simp; try rfl)
   refine tT 9 ?_ rfl ?_ ?_; rotate_left; (focus intros; go_simp; try rfl); (try simp only [ly])
   refine tT 10 ?_ rfl ?_ ?_; rotate_left; (focus intros; go_simp; try rfl); (try simp only [ly])
   refine wpAnyH_done (by kernel_rfl) ?_ _
   (try simp only [ly])
   go_wp2
   go_ret
   exact ⟨rfl, HWG.out.trans (HBF.out.mono HWG.out.size)⟩
  case some t =>
   rw [hty] at he
   obtain rfl := he
   have HTF := Lib.hid (tyE_fold p.vars x t hty)
   clear hty
   go_upto_region 14 with (fail)
   refine wp_region_held_drew (S := fun w' => Below wg.heap.size wg w') (by kernel_rfl) ?_ (fun hHeld => ?_)
   ·exact (Below.refl _ _).drew
   (refine tT 0 ?_ rfl ?_ ?_; rotate_left; (focus (intro w' hSw; (try dsimp only at hSw); (obtain ⟨g0, g1, g2, gl⟩ := HCD.out _ hSw); go_simp; try (with_reducible rfl))))
   (refine takeH (i := 1) (v := .agg L.toArray) rfl (by kernel_rfl) (by kernel_rfl) (by kernel_rfl) (fun _ _ _ h => h) (yieldsIf_load_mid (by kernel_rfl) 28 _ rfl (B + 1) 0 rfl L _ (fun _ hb => HXD.out _ hb) Tryd.underlying28 rfl HLS.out) (by assumption) ?_; (try simp only [ly]))
   refine oneH (i := 2) (by kernel_rfl) rfl (fun Kc hK => ?_)
   go_simp
   go_at_call 11; refine (HFE.out _ (HWG.out.trans (hHeld.mono HWG.out.size))).mono ?_; rintro e we ⟨⟨Ay, cy, rfl, hat⟩, hbe⟩; (have HBE := Lib.hid (hHeld.trans (hbe.mono hHeld.size))); (have HYA := Lib.hid (hat.move (Moves.only _ _))); clear hbe hHeld hat
   go_wp2_with fail
   refine hK.out _ _ (HBE.out) (fun hHeld => ?_)
   clear hK Kc
   (try simp only [ly])
   refine oneH (i := 3) (by kernel_rfl) rfl (fun Kc hK => ?_)
   go_simp
   go_at_call 10; refine (HTZ.out _ Ay cy HSH.out.fold _ (HWG.out.trans (HBE.out.mono HWG.out.size)) HYA.out).mono ?_; rintro e wf ⟨he, hbf⟩; (rw [HTF.out] at he); obtain rfl := he; (have HBF := Lib.hid (HBE.out.trans (hbf.mono HBE.out.size))); clear hbf
   go_wp2_with fail
   refine hK.out _ _ (HBF.out) (fun hHeld => ?_)
   clear hK Kc
   (try simp only [ly])
   refine tT 4 ?_ rfl ?_ ?_; rotate_left; (focus intros; go_simp; try rfl)
   refine tT 5 ?_ rfl ?_ ?_; rotate_left; (focus intros; go_simp; try rfl)
   refine tT 6 ?_ rfl ?_ ?_; rotate_left; (focus intros; go_simp; try rfl); (try simp only [ly])
   refine tT 7 ?_ rfl ?_ ?_; rotate_left; (focus intros; go_simp; try rfl)
   refine tT 8 ?_ rfl ?_ ?_; rotate_left; (focus intros; go_simp; try rfl)
   refine tT 9 ?_ rfl ?_ ?_; rotate_left; (focus intros; go_simp; try rfl); (try simp only [ly])
   refine tT 10 ?_ rfl ?_ ?_; rotate_left; (focus intros; go_simp; try rfl); (try simp only [ly])
   refine wpAnyH_done (by kernel_rfl) ?_ _
   (try simp only [ly])
   go_wp2
   go_ret
   exact ⟨rfl, HWG.out.trans (HBF.out.mono HWG.out.size)⟩

end Go.Proofs.YtahjijdadifkaaaDoor
