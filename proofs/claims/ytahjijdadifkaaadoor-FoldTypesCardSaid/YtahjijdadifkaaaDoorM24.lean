/- Merged: Layer 20: a program is checked. Layer 21: a program folded. Layers 20 and 21, plain: what fits, folded, fits; what has a type has it folded. Layers 20 and 21, plain: a program that fits, folded, fits. -/
import Derived.Test.YtahjijdadifkaaaDoorM23
import Derived.Test.YtahjijdadifkaaaDoorM15
import Derived.Laws.CopyOwn
import Derived.Test.YtahjijdadifkaaaDoorM07
set_option linter.unusedVariables false
set_option linter.unusedSimpArgs false
set_option maxHeartbeats 4000000
namespace Go.Proofs.YtahjijdadifkaaaDoor
open Go.RowKit
attribute [local go_sem] ite_max ite_min vite_max vite_min ext_cell ext_frozen extS_cell extS_frozen

def checkX (p : Prg) : Bool := declX [] 0 p.vars && ktSs p.vars 0 p.body
def ErrX (ok : Bool) (e : Ending) : Prop := match ok with
 | true => e = .returned (.tuple #[.int .i64 0, .int .i64 0])
 | false => ∃ n ln : Int, e = .returned (.tuple #[.int .i64 n, .int .i64 ln]) ∧ n ≠ 0

set_option maxRecDepth 100000 in
theorem kcheck_any (p : Prg) (cs : List Value) (w : World) (h : PrgAt w p cs) (hsh : ∀ s ∈ p.body, ShS s) (hok : ∀ v ∈ p.vars, ArrOk v) (hfew : p.vars.length ≤ 64) (ht : Blanks w) :
  Calls Tryd.prog 7 #[.agg cs.toArray] w fun e w' => ErrX (checkX p) e ∧ Below w.heap.size w w' := by
 obtain ⟨Av, kv, Ab, kb, rfl, hv, hb⟩ := h
 have HV := Lib.hid hv
 have HBD := Lib.hid hb
 have HBT := Lib.hid ht
 have HDE : Hid (∀ W C, Below w.heap.size w W → w.heap.size ≤ C → C < W.heap.size → W.cell? ⟨C, 0, none⟩ = some (.slice none 0 0) → W.cell? ⟨C, 1, none⟩ = some (.int .i64 0) → (∀ o, W.frozen? ⟨C, o, none⟩ = false) →
   Calls Tryd.prog 18 #[ckP C, .slice Av p.vars.length kv] W fun e w' => Oks (declX [] 0 p.vars) e ∧ But C W w' ∧ (declX [] 0 p.vars = true → ∃ A cap, Ck w' C A cap p.vars 0)) := Lib.hid (fun W C h1 h2 h3 h4 h5 h6 => kdeclared_of p.vars Av kv C w W hv hok hfew ht h1 h2 h3 h4 h5 h6)
 have HST : Hid (∀ W C A cap, Below w.heap.size w W → w.heap.size ≤ C → Ck W C A cap p.vars 0 → Calls Tryd.prog 19 #[ckP C, .slice Ab p.body.length kb] W fun e W' => OkRes W C A cap p.vars 0 (ktSs p.vars 0 p.body) e W') := Lib.hid (fun W C A cap h1 h2 h3 => kstmts_any hsh ht h2 W 0 Ab kb h1 h3 hb)
 obtain ⟨n, hn⟩ : ∃ n, p.vars.length = n := ⟨_, rfl⟩
 obtain ⟨nb, hnb⟩ : ∃ n, p.body.length = n := ⟨_, rfl⟩
 obtain ⟨q1, hq1⟩ : ∃ q, declX [] 0 p.vars = q := ⟨_, rfl⟩
 obtain ⟨q2, hq2⟩ : ∃ q, ktSs p.vars 0 p.body = q := ⟨_, rfl⟩
 have hck : checkX p = (q1 && q2) := by unfold checkX; rw [hq1, hq2]
 rw [hck]
 rw [hn, hq1] at HDE
 rw [hnb, hq2] at HST
 rw [hn, hnb]
 clear hv hb ht hsh hok hfew hn hnb hq1 hq2 hck
 have hmf : ∀ (fn : Fn) (first cap : Array Value) (w : World), (Instr.makeFunc fn first cap).run Tryd.prog w = .ok (.func fn first cap) w := fun _ _ _ _ => rfl
 go_enter_defers Tryd.func7, Tryd.ntmps7
 go_upto_region 3 with (fail)
 refine wp_name fun W hW => ?_
 obtain ⟨H, hH⟩ : ∃ H, H = w.heap.size := ⟨_, rfl⟩
 have hH1 : H + 1 = w.heap.size + 1 := by omega
 have hH2 : H + 2 = w.heap.size + 1 + 1 := by omega
 have hH3 : H + 3 = w.heap.size + 1 + 1 + 1 := by omega
 have hbel : Below w.heap.size w W := by rw [hW.out]; exact belowBy
 have hsz : W.heap.size = H + 4 := by rw [hW.out, hH]; simp
 have p1 : W.cell? ⟨H, 1, none⟩ = some (.slice Av n kv) := by rw [hW.out, hH]; go_simp
 have p2 : W.cell? ⟨H, 2, none⟩ = some (.slice Ab nb kb) := by rw [hW.out, hH]; go_simp
 have hEL : EL W (H + 1) (H + 2) 0 0 := by
  refine ⟨?_, ?_, ?_, ?_, by omega, by omega, by omega⟩
  ·rw [hW.out, hH1]; go_simp
  ·rw [hW.out, hH2]; go_simp
  ·rw [hW.out, hH1]; go_simp
  ·rw [hW.out, hH2]; go_simp
 have c0 : W.cell? ⟨H + 3, 0, none⟩ = some (.slice none 0 0) := by rw [hW.out, hH3]; go_simp
 have c1 : W.cell? ⟨H + 3, 1, none⟩ = some (.int .i64 0) := by rw [hW.out, hH3]; go_simp
 have fr : ∀ o, W.frozen? ⟨H + 3, o, none⟩ = false := fun o => by rw [hW.out, hH3]; go_simp
 have HB := Lib.hid hbel
 have HEL := Lib.hid hEL
 have HDW := Lib.hid (HDE.out W (H + 3) hbel (by omega) (by omega) c0 c1 fr)
 have HHW := Lib.hid hH
 have lP : H < W.heap.size := by omega
 have HP2 := Lib.hid p2
 rw [show w.heap.size + 1 + 1 + 1 = H + 3 by omega, show w.heap.size + 1 + 1 = H + 2 by omega, show w.heap.size + 1 = H + 1 by omega, ← hH]
 clear hW hH hH1 hH2 hH3 hbel hEL c0 c1 fr hsz HDE p2
 go_wp2_with fail
 refine HDW.out.mono ?_
 rintro e w1 ⟨he, hb1, hk1⟩
 have hp2 : w1.cell? ⟨H, 2, none⟩ = some (.slice Ab nb kb) := (hb1.cell H 2 lP (by omega)).trans HP2.out
 have HEL1 := Lib.hid (HEL.out.but hb1 (by omega) (by omega))
 have HB1 : Hid (Below w.heap.size w w1) := Lib.hid (HB.out.trans (hb1.below _ (by have := HHW.out; omega) HB.out.size))
 have lP1 : H < w1.heap.size := Nat.lt_of_lt_of_le lP hb1.size
 clear HDW HEL HP2 p1 lP hb1
 cases q1
 ·obtain ⟨n9, l9, rfl, h9⟩ := he
  clear hk1 hp2
  refine leaves_cons (f := 17) (args := #[.pointer (some ⟨H + 1, 0, none⟩), .pointer (some ⟨H + 2, 0, none⟩)]) (by simp) (by simp [go_sem]) ?_
  refine (caught_panic (H + 1) (H + 2) _ _ n9 l9 [] _ HEL1.out).mono ?_
  rintro e u' w'' ⟨rfl, rfl, hel, hbl⟩
  obtain ⟨d0, d1, f0, f1, ne, l0, l1⟩ := hel
  have hb2 := hbl w.heap.size (by have := HHW.out; omega) (by have := HHW.out; omega) HB1.out.size
  have hb3 := HB1.out.trans hb2
  simp [Leaves, settle, results, Tryd.results7, go_sem, d0, d1, f0, f1, l0, l1]
  exact ⟨⟨n9, l9, rfl, h9⟩, hb3⟩
 ·obtain rfl := he
  obtain ⟨A, cap, hck⟩ := hk1 rfl
  have HSS := Lib.hid (HST.out w1 (H + 3) A cap HB1.out (by have := HHW.out; omega) hck)
  clear hk1 hck HST
  go_wp2_with fail
  refine HSS.out.mono ?_
  rintro e w2 ⟨he, hb2, -⟩
  have HEL2 := Lib.hid (HEL1.out.but hb2 (by omega) (by omega))
  have HB2 : Hid (Below w.heap.size w w2) := Lib.hid (HB1.out.trans (hb2.below _ (by have := HHW.out; omega) HB1.out.size))
  clear hp2 lP1 hb2 HEL1 HB1
  cases q2
  ·obtain ⟨n9, l9, rfl, h9⟩ := he
   refine leaves_cons (f := 17) (args := #[.pointer (some ⟨H + 1, 0, none⟩), .pointer (some ⟨H + 2, 0, none⟩)]) (by simp) (by simp [go_sem]) ?_
   refine (caught_panic (H + 1) (H + 2) _ _ n9 l9 [] _ HEL2.out).mono ?_
   rintro e u' w'' ⟨rfl, rfl, hel, hbl⟩
   obtain ⟨d0, d1, f0, f1, ne, l0, l1⟩ := hel
   have hb2 := hbl w.heap.size (by have := HHW.out; omega) (by have := HHW.out; omega) HB2.out.size
   have hb3 := HB2.out.trans hb2
   simp [Leaves, settle, results, Tryd.results7, go_sem, d0, d1, f0, f1, l0, l1]
   exact ⟨⟨n9, l9, rfl, h9⟩, hb3⟩
  ·obtain rfl := he
   obtain ⟨d0, d1, f0, f1, ne, l0, l1⟩ := HEL2.out
   have HZ : Hid (EL ((w2.setCell ⟨H + 1, 0, none⟩ (.int .i64 0)).setCell ⟨H + 2, 0, none⟩ (.int .i64 0)) (H + 1) (H + 2) 0 0) := Lib.hid (by
    refine ⟨?_, ?_, ?_, ?_, ne, ?_, ?_⟩
    ·go_simp
    ·go_simp
    ·go_simp
    ·go_simp
    ·go_simp
    ·go_simp)
   have HB3 : Hid (Below w.heap.size w ((w2.setCell ⟨H + 1, 0, none⟩ (.int .i64 0)).setCell ⟨H + 2, 0, none⟩ (.int .i64 0))) := Lib.hid (Below.setCell (Below.setCell HB2.out (by have := HHW.out; show w.heap.size ≤ H + 1; omega) _) (by have := HHW.out; show w.heap.size ≤ H + 2; omega) _)
   have s2 : (w2.setCell ⟨H + 1, 0, none⟩ (.int .i64 0)).cell? ⟨H + 2, 0, none⟩ = some (.int .i64 0) := (World.cell?_setCell_other _ _ _ _ (fun e => by injection e with e1 e2 e3; omega)).trans d1
   go_wp2
   obtain ⟨W9, hW9⟩ : ∃ W9, (w2.setCell ⟨H + 1, 0, none⟩ (.int .i64 0)).setCell ⟨H + 2, 0, none⟩ (.int .i64 0) = W9 := ⟨_, rfl⟩
   rw [hW9] at HZ HB3 ⊢
   clear d0 d1 f0 f1 l0 l1 s2 hW9
   refine leaves_cons (f := 17) (args := #[.pointer (some ⟨H + 1, 0, none⟩), .pointer (some ⟨H + 2, 0, none⟩)]) (by simp) (by simp [go_sem]) ?_
   refine (caught_idle _ _ _).mono ?_
   rintro e u' w'' ⟨rfl, rfl, rfl⟩
   obtain ⟨d0, d1, f0, f1, ne, l0, l1⟩ := HZ.out
   have hb3 := HB3.out
   simp [Leaves, settle, results, Tryd.results7, go_sem, d0, d1, f0, f1, l0, l1]
   exact ⟨rfl, hb3⟩

def TypX (o : Option Int) (e : Ending) : Prop := match o with
 | some t => e = .returned (.tuple #[.int .i64 t, .int .i64 0, .int .i64 0])
 | none => ∃ t n ln : Int, e = .returned (.tuple #[.int .i64 t, .int .i64 n, .int .i64 ln]) ∧ n ≠ 0

set_option maxRecDepth 100000 in
theorem ktype_any (p : Prg) (cs : List Value) (x : Ex) (Ax : Option Addr) (cx : Nat) (w : World) (h : PrgAt w p cs) (hx : ExAt w x (ExC x Ax cx)) (hsh : ShE x) (ht : Blanks w) :
  Calls Tryd.prog 10 #[.agg cs.toArray, .agg (ExC x Ax cx).toArray] w fun e w' => TypX (tyE p.vars x) e ∧ Below w.heap.size w w' := by
 obtain ⟨Av, kv, Ab, kb, rfl, hv, hb⟩ := h
 have HV := Lib.hid hv
 have HEX : Hid (∀ W C, Below w.heap.size w W → C < W.heap.size → W.cell? ⟨C, 0, none⟩ = some (.slice Av p.vars.length kv) → Calls Tryd.prog 21 #[ckP C, .agg (ExC x Ax cx).toArray] W fun e w' => TyRes (tyE p.vars x) e ∧ Below W.heap.size W w') := Lib.hid (fun W C h1 h2 h3 => kexpr_any hsh (hx.keep h1) ⟨h2, h3, hv.below h1⟩ (ht.on h1) W (Below.refl _ _))
 obtain ⟨n, hn⟩ : ∃ n, p.vars.length = n := ⟨_, rfl⟩
 obtain ⟨nb, hnb⟩ : ∃ n, p.body.length = n := ⟨_, rfl⟩
 obtain ⟨q, hq⟩ : ∃ q, tyE p.vars x = q := ⟨_, rfl⟩
 obtain ⟨L, hL⟩ : ∃ L, ExC x Ax cx = L := ⟨_, rfl⟩
 have HLS : Hid ((Tryd.prog.info? 28).map (·.size) = some L.length) := Lib.hid (by rw [← hL]; exact expr_size)
 rw [hn, hq, hL] at HEX
 rw [hn, hnb, hq, hL]
 clear hv hb ht hx hsh hn hnb hq hL
 have hmf : ∀ (fn : Fn) (first cap : Array Value) (w : World), (Instr.makeFunc fn first cap).run Tryd.prog w = .ok (.func fn first cap) w := fun _ _ _ _ => rfl
 go_enter_defers Tryd.func10, Tryd.ntmps10
 go_upto_region 3 with (refine wpList_boxTo rfl 28 _ rfl _ rfl _ rfl L.toArray rfl ?_)
 refine wp_name fun W hW => ?_
 obtain ⟨H, hH⟩ : ∃ H, H = w.heap.size := ⟨_, rfl⟩
 have hH1 : H + 1 = w.heap.size + 1 := by omega
 have hH2 : H + 2 = w.heap.size + 1 + 1 := by omega
 have hH3 : H + 3 = w.heap.size + 1 + 1 + 1 := by omega
 have hH4 : H + 4 = w.heap.size + 1 + 1 + 1 + 1 := by omega
 have hbel : Below w.heap.size w W := by rw [hW.out]; exact belowBy
 have hsz : W.heap.size = H + 5 := by rw [hW.out, hH]; simp
 have hh : W.heap[H + 1]? = some (.cells L.toArray 28) := by
  rw [hW.out, hH1]
  refine (heap_alloc_old _ _ (by simp)).trans ((heap_alloc_old _ _ (by simp)).trans ((heap_alloc_old _ _ (by simp)).trans ?_))
  have := heap_alloc_new (w.alloc (.cells #[.string p.name, .slice Av n kv, .slice Ab nb kb] 25)) (.cells L.toArray 28)
  rw [World.size_alloc] at this
  exact this
 have hEL : EL W (H + 2) (H + 3) 0 0 := by
  refine ⟨?_, ?_, ?_, ?_, by omega, by omega, by omega⟩
  ·rw [hW.out, hH2]; go_simp
  ·rw [hW.out, hH3]; go_simp
  ·rw [hW.out, hH2]; go_simp
  ·rw [hW.out, hH3]; go_simp
 have c0 : W.cell? ⟨H + 4, 0, none⟩ = some (.slice Av n kv) := by rw [hW.out, hH4]; go_simp
 have HB := Lib.hid hbel
 have HEL := Lib.hid hEL
 have HDW := Lib.hid (HEX.out W (H + 4) hbel (by omega) c0)
 have HHW := Lib.hid hH
 have HRG : Hid (W.rangeAt (H + 1) 0 L) := Lib.hid (by
  have := rangeAt_of_heap hh
  simpa using this)
 rw [show w.heap.size + 1 + 1 + 1 + 1 = H + 4 by omega, show w.heap.size + 1 + 1 + 1 = H + 3 by omega, show w.heap.size + 1 + 1 = H + 2 by omega, show w.heap.size + 1 = H + 1 by omega, ← hH]
 clear hW hH hH1 hH2 hH3 hH4 hbel hEL c0 hsz HEX hh
 go_wp2_with (refine wpList_load_mid rfl 28 _ rfl (H + 1) 0 rfl L _ HRG.out Tryd.underlying28 rfl HLS.out ?_)
 refine HDW.out.mono ?_
 rintro e w2 ⟨he, hb2⟩
 have HEL2 := Lib.hid (HEL.out.below hb2)
 have HB2 : Hid (Below w.heap.size w w2) := Lib.hid (HB.out.trans (hb2.mono HB.out.size))
 clear hb2 HEL HB HDW HRG
 cases q with
 | none =>
  obtain ⟨n9, l9, rfl, h9⟩ := he
  refine leaves_cons (f := 17) (args := #[.pointer (some ⟨H + 2, 0, none⟩), .pointer (some ⟨H + 3, 0, none⟩)]) (by simp) (by simp [go_sem]) ?_
  refine (caught_panic (H + 2) (H + 3) _ _ n9 l9 [] _ HEL2.out).mono ?_
  rintro e u' w'' ⟨rfl, rfl, hel, hbl⟩
  obtain ⟨d0, d1, f0, f1, ne, l0, l1⟩ := hel
  have hb2 := hbl w.heap.size (by have := HHW.out; omega) (by have := HHW.out; omega) HB2.out.size
  have hb3 := HB2.out.trans hb2
  simp [Leaves, settle, results, Tryd.results10, go_sem, d0, d1, f0, f1, l0, l1]
  exact ⟨⟨0, n9, l9, rfl, h9⟩, hb3⟩
 | some t =>
  obtain rfl := he
  obtain ⟨d0, d1, f0, f1, ne, l0, l1⟩ := HEL2.out
  have HZ : Hid (EL ((w2.setCell ⟨H + 2, 0, none⟩ (.int .i64 0)).setCell ⟨H + 3, 0, none⟩ (.int .i64 0)) (H + 2) (H + 3) 0 0) := Lib.hid (by
   refine ⟨?_, ?_, ?_, ?_, ne, ?_, ?_⟩
   ·go_simp
   ·go_simp
   ·go_simp
   ·go_simp
   ·go_simp
   ·go_simp)
  have HB3 : Hid (Below w.heap.size w ((w2.setCell ⟨H + 2, 0, none⟩ (.int .i64 0)).setCell ⟨H + 3, 0, none⟩ (.int .i64 0))) := Lib.hid (Below.setCell (Below.setCell HB2.out (by have := HHW.out; show w.heap.size ≤ H + 2; omega) _) (by have := HHW.out; show w.heap.size ≤ H + 3; omega) _)
  have s2 : (w2.setCell ⟨H + 2, 0, none⟩ (.int .i64 0)).cell? ⟨H + 3, 0, none⟩ = some (.int .i64 0) := (World.cell?_setCell_other _ _ _ _ (fun e => by injection e with e1 e2 e3; omega)).trans d1
  go_wp2
  obtain ⟨W9, hW9⟩ : ∃ W9, (w2.setCell ⟨H + 2, 0, none⟩ (.int .i64 0)).setCell ⟨H + 3, 0, none⟩ (.int .i64 0) = W9 := ⟨_, rfl⟩
  rw [hW9] at HZ HB3 ⊢
  clear d0 d1 f0 f1 l0 l1 s2 hW9
  refine leaves_cons (f := 17) (args := #[.pointer (some ⟨H + 2, 0, none⟩), .pointer (some ⟨H + 3, 0, none⟩)]) (by simp) (by simp [go_sem]) ?_
  refine (caught_idle _ _ _).mono ?_
  rintro e u' w'' ⟨rfl, rfl, rfl⟩
  obtain ⟨d0, d1, f0, f1, ne, l0, l1⟩ := HZ.out
  have hb3 := HB3.out
  simp [Leaves, settle, results, Tryd.results10, go_sem, d0, d1, f0, f1, l0, l1]
  exact ⟨rfl, hb3⟩

end Go.Proofs.YtahjijdadifkaaaDoor

namespace Go.Proofs.YtahjijdadifkaaaDoor
open Go.RowKit
attribute [local go_sem] ite_max ite_min vite_max vite_min ext_cell ext_frozen

def foldP (p : Prg) : Prg := ⟨p.name, p.vars, foldSs opF p.body⟩
def PrgRes (p : Prg) (e : Ending) (w' : World) : Prop := ∃ Av kv Ab kb, e = .returned (.agg #[.string p.name, .slice Av p.vars.length kv, .slice Ab p.body.length kb]) ∧ RowV w' Av p.vars kv ∧ RowT w' Ab p.body kb
theorem moves_old {w W : World} (h : Below w.heap.size w W) : Moves w (only W fun i => decide (i < w.heap.size)) :=
 ⟨by rw [only_size]; exact h.size, fun b o v hv => by
  have hl := cell_lt hv
  rw [cell_only (by simpa using hl)]
  exact (h.cell (p := ⟨b, o, none⟩) hl).trans hv⟩
theorem prog_size : (Tryd.prog.info? 25).map (·.size) = some 3 := by kernel_rfl
def prA (s : ByteArray) (Av : Option Addr) (n kv : Nat) (Ab : Option Addr) (m kb : Nat) : Array Value := #[.string s, .slice Av n kv, .slice Ab m kb]
theorem prA_one (s : ByteArray) (Av : Option Addr) (n kv : Nat) (Ab : Option Addr) (m kb : Nat) : (prA s Av n kv Ab m kb).all (·.oneCell') = true := by simp [prA, Value.oneCell']

set_option maxRecDepth 100000 in
theorem fprog_any (p : Prg) (w : World) (Av Ab : Option Addr) (kv kb : Nat) (hv : RowV w Av p.vars kv) (hb : RowT w Ab p.body kb) :
  Calls Tryd.prog 8 #[.agg #[.string p.name, .slice Av p.vars.length kv, .slice Ab p.body.length kb]] w fun e w' => PrgRes (foldP p) e w' ∧ Below w.heap.size w w' := by
 have HC : Hid (∀ W, Below w.heap.size w W → Calls Tryd.prog 20 #[.slice Ab p.body.length kb] W fun e w' => StRes W.heap.size (fun i => decide (i < w.heap.size)) (foldSs opF p.body) e w' ∧ Below W.heap.size W w') := Lib.hid (fun W hW => fstmts_any _ p.body (Nat.lt_succ_self _) (fun i => decide (i < w.heap.size)) W Ab kb (hb.move (moves_old hW)))
 have HV := Lib.hid hv
 obtain ⟨nv, hnv⟩ : ∃ n, p.vars.length = n := ⟨_, rfl⟩
 obtain ⟨nb, hnb⟩ : ∃ n, p.body.length = n := ⟨_, rfl⟩
 have HNV := Lib.hid hnv
 rw [hnb] at HC
 rw [hnv, hnb]
 clear hv hb hnv hnb
 go_enter Tryd.func8, Tryd.ntmps8
 go_wp2_with fail
 refine (HC.out _ (by exact belowBy)).mono ?_
 rintro e w1 ⟨⟨A2, c2, rfl, hr2⟩, hb1⟩
 obtain ⟨ys, hys⟩ : ∃ ys, foldSs opF p.body = ys := ⟨_, rfl⟩
 rw [hys] at hr2 ⊢
 have HYS := Lib.hid hys
 have hX : w1.heap[w.heap.size]? = some (.cells (prA p.name Av nv kv Ab nb kb) 25) := (hb1.block _ (by simp; omega)).trans ((heap_alloc_old _ _ (by simp)).trans (heap_alloc_new _ _))
 have hZ : w1.heap[w.heap.size + 1]? = some (.cells (prA ⟨#[]⟩ none 0 0 none 0 0) 25) := (hb1.block _ (by simp)).trans (by
  have := heap_alloc_new (w.alloc (.cells (prA p.name Av nv kv Ab nb kb) 25)) (.cells (prA ⟨#[]⟩ none 0 0 none 0 0) 25)
  rw [World.size_alloc] at this
  exact this)
 have hB1 : Below w.heap.size w w1 := by exact belowBy
 have hs1 := hB1.size
 have HR2 := Lib.hid hr2
 have HX := Lib.hid hX
 have HZ := Lib.hid hZ
 have HB1 := Lib.hid hB1
 have hc2 : w1.cell? ⟨w.heap.size, 2, none⟩ = some (.slice Ab nb kb) := heap_cell 2 _ hX rfl
 have hf2 : w1.frozen? ⟨w.heap.size, 2, none⟩ = false := heap_free 2 hX
 have hsz : w.heap.size + 2 ≤ w1.heap.size := by have := (Array.getElem?_eq_some_iff.1 hZ).1; omega
 clear hr2 hb1 hB1 hX hZ hys
 go_upto_region 2 with (fail)
 refine wp_name fun W2 hW2 => ?_
 have hX2 : W2.heap[w.heap.size]? = some (.cells (prA p.name Av nv kv A2 ys.length c2) 25) := by
  rw [hW2.out, setCell_eq_setRow _ _ _ _ _ _ _ HX.out]
  exact setRow_heap _ _ _ _ _ _ HX.out
 have hZ2 : W2.heap[w.heap.size + 1]? = some (.cells (prA ⟨#[]⟩ none 0 0 none 0 0) 25) := by
  rw [hW2.out, heap_setCell_other _ _ _ _ (by simp)]
  exact HZ.out
 have hB2 : Below w.heap.size w W2 := by
  rw [hW2.out]
  exact HB1.out.setCell (by simp) _
 have HX2 := Lib.hid hX2
 have HZ2 := Lib.hid hZ2
 have HB2 := Lib.hid hB2
 have HRES : Hid (RowT (W2.setRow (w.heap.size + 1) (prA p.name Av nv kv A2 ys.length c2)) A2 ys c2) := Lib.hid (by
  refine HR2.out.move (.trans (.onlyW (w' := W2.setRow (w.heap.size + 1) (prA p.name Av nv kv A2 ys.length c2)) (q := fun _ => true) (by rw [hW2.out]; simp [World.setRow]) fun b _ hp => ?_) (Moves.only _ _))
  rw [orNew_iff] at hp
  simp only [World.size_alloc, decide_eq_true_eq] at hp
  refine ⟨rfl, ?_⟩
  rw [setRow_other _ _ _ _ (by omega), hW2.out, heap_setCell_other _ _ _ _ (by show b ≠ w.heap.size; omega)])
 clear hW2 hX2 hZ2 hB2 hc2 hf2 HX HZ HB1
 go_wp2_with (first
  | refine wpList_load_row rfl 25 _ rfl w.heap.size rfl 25 (prA p.name Av nv kv A2 ys.length c2) (0, 0) _ HX2.out Tryd.underlying25 rfl prog_size ?_
  | refine wpList_store_row rfl 25 _ _ rfl (w.heap.size + 1) (prA p.name Av nv kv A2 ys.length c2) rfl rfl 25 _ HZ2.out prog_size rfl (prA_one _ _ _ _ _ _ _) ?_)
 have hBE : Below w.heap.size w (W2.setRow (w.heap.size + 1) (prA p.name Av nv kv A2 ys.length c2)) := below_setRow HB2.out (by omega) _
 refine post_row Tryd.results8 rfl (setRow_heap _ _ _ _ _ _ HZ2.out) Tryd.underlying25 rfl prog_size rfl ⟨?_, hBE⟩
 refine ⟨Av, kv, A2, c2, ?_, HV.out.below hBE, ?_⟩
 ·show Ending.returned (.agg (prA p.name Av nv kv A2 ys.length c2)) = _
  unfold foldP
  rw [HYS.out]
  show _ = Ending.returned (.agg (prA p.name Av p.vars.length kv A2 ys.length c2))
  rw [HNV.out]
 ·show RowT _ A2 (foldSs opF p.body) c2
  rw [HYS.out]
  exact HRES.out

end Go.Proofs.YtahjijdadifkaaaDoor

namespace Go.Proofs.YtahjijdadifkaaaDoor
open Go.RowKit

def numOp (op : Int) : Bool := decide (op = 6 ∨ (8 ≤ op ∧ op ≤ 12))
theorem opF_kind {op : Int} {zs : List Int} {tr : Bool} (h : (opF op zs tr).2.2 = 0) : (opF op zs tr).2.1 = !numOp op := by
 unfold opF at h ⊢
 by_cases hb : (tr && zs.any badT) = true
 ·rw [if_pos hb] at h
  cases h
 ·rw [if_neg hb] at h ⊢
  unfold numOp
  match zs, h with
  | [], h => cases h
  | [a], h =>
   simp only at h ⊢
   unfold op1 at h ⊢
   by_cases h6 : op = 6 ∧ tr = false
   ·rw [if_pos h6] at h ⊢
    simp [h6.1]
   ·rw [if_neg h6] at h ⊢
    by_cases h7 : op = 7 ∧ tr = true
    ·rw [if_pos h7]
     simp [h7.1]
    ·rw [if_neg h7] at h
     cases h
  | [a, b], h =>
   simp only at h ⊢
   by_cases ht : tr = true
   ·rw [if_pos ht] at h ⊢
    unfold opT at h ⊢
    by_cases h1 : op = 13
    ·rw [if_pos h1]
     simp [h1]
    ·rw [if_neg h1] at h ⊢
     by_cases h2 : op = 14 ∨ op = 20
     ·rw [if_pos h2]
      rcases h2 with rfl | rfl <;> rfl
     ·rw [if_neg h2] at h ⊢
      by_cases h3 : op = 19
      ·rw [if_pos h3]
       simp [h3]
      ·rw [if_neg h3] at h ⊢
       by_cases h4 : op = 21
       ·rw [if_pos h4]
        simp [h4]
       ·rw [if_neg h4] at h
        cases h
   ·rw [if_neg ht] at h ⊢
    by_cases h1 : 8 ≤ op ∧ op ≤ 12
    ·rw [if_pos h1]
     have : decide (op = 6 ∨ (8 ≤ op ∧ op ≤ 12)) = true := decide_eq_true (.inr h1)
     rw [this]
     unfold opK
     split
     ·rfl
     split
     ·rfl
     split
     ·rfl
     split
     ·rfl
     ·rfl
    ·rw [if_neg h1] at h ⊢
     by_cases h2 : 13 ≤ op ∧ op ≤ 18
     ·rw [if_pos h2]
      have : decide (op = 6 ∨ (8 ≤ op ∧ op ≤ 12)) = false := decide_eq_false (by omega)
      rw [this]
      rfl
     ·rw [if_neg h2] at h
      cases h
  | a :: b :: c :: l, h => cases h
theorem topX_made (F : Int → List Int → Bool → Int × Bool × Int) (op n : Int) (nm fd : ByteArray) (subs : List Ex) (ln : Int) : topX F op n nm fd subs ln = .mk op n nm fd subs ln ∨
  ∃ vals tr, 6 ≤ op ∧ (F op vals tr).2.2 = 0 ∧ topX F op n nm fd subs ln = madeX (F op vals tr).1 (F op vals tr).2.1 ln := by
 unfold topX
 simp only
 by_cases h1 : op < 6
 ·rw [if_pos h1]
  exact .inl rfl
 rw [if_neg h1]
 by_cases h2 : (constV (Ex.mk op n nm fd subs ln)).2.2 = true
 ·rw [if_pos h2]
  exact .inl rfl
 rw [if_neg h2]
 by_cases h3 : (subs.any fun s => !(constV s).2.2) = true
 ·rw [if_pos h3]
  exact .inl rfl
 rw [if_neg h3]
 by_cases h4 : (subs.any fun s => (constV s).2.1) = true ∧ (subs.any fun s => !(constV s).2.1) = true
 ·rw [if_pos h4]
  exact .inl rfl
 rw [if_neg h4]
 by_cases h5 : (F op (subs.map fun s => (constV s).1) (subs.any fun s => (constV s).2.1)).2.2 ≠ 0 ∨ ((F op (subs.map fun s => (constV s).1) (subs.any fun s => (constV s).2.1)).2.1 = false ∧ (F op (subs.map fun s => (constV s).1) (subs.any fun s => (constV s).2.1)).1 = -9223372036854775808)
 ·rw [if_pos h5]
  exact .inl rfl
 rw [if_neg h5]
 refine .inr ⟨_, _, by omega, ?_, rfl⟩
 by_cases h6 : (F op (subs.map fun s => (constV s).1) (subs.any fun s => (constV s).2.1)).2.2 = 0
 ·exact h6
 ·exact absurd (.inl h6) h5

def Kept : List (Option Int) → List (Option Int) → Prop
 | [], [] => True
 | a :: l, b :: m => (∀ t, a = some t → b = some t) ∧ Kept l m
 | _, _ => False
theorem Kept.all : ∀ {a b : List (Option Int)} {r : List Int}, Kept a b → allSome a = some r → allSome b = some r
 | [], [], _, _, h => h
 | none :: _, _ :: _, _, _, h => by cases h
 | some t :: l, b :: m, r, hk, h => by
  obtain ⟨h1, h2⟩ := hk
  rw [h1 t rfl]
  cases hl : allSome l with
  | none => simp [allSome, hl] at h
  | some q =>
   simp [allSome, hl] at h
   have := Kept.all h2 hl
   simp [allSome, this, h]
theorem Kept.head : ∀ {a b : List (Option Int)} {t : Int}, Kept a b → a.head?.bind id = some t → b.head?.bind id = some t
 | [], [], _, _, h => h
 | a :: l, b :: m, t, hk, h => hk.1 t h
theorem tyTop_kept {vs : List VarS} {x y : Ex} {a b : List (Option Int)} {t : Int} (ho : y.op = x.op) (hn : y.name = x.name) (hf : y.field = x.field) (hk : Kept a b) (h : tyTop vs x a = some t) : tyTop vs y b = some t := by
 unfold tyTop at h ⊢
 unfold fieldT at h ⊢
 rw [ho, hn, hf]
 by_cases h1 : x.op = 1
 ·rw [if_pos h1] at h ⊢
  exact h
 rw [if_neg h1] at h ⊢
 by_cases h2 : x.op = 2
 ·rw [if_pos h2] at h ⊢
  exact h
 rw [if_neg h2] at h ⊢
 by_cases h3 : x.op = 3 ∨ x.op = 4
 ·rw [if_pos h3] at h ⊢
  cases hv : varF vs x.name with
  | none => rw [hv] at h; cases h
  | some v =>
   rw [hv] at h
   simp only [Option.bind_some] at h ⊢
   by_cases h4 : x.op = 4
   ·rw [if_pos h4] at h ⊢
    by_cases h5 : v.arr = true ∧ a.head?.bind id = some 1
    ·rw [if_pos h5] at h
     rw [if_pos ⟨h5.1, hk.head h5.2⟩]
     exact h
    ·rw [if_neg h5] at h
     cases h
   ·rw [if_neg h4] at h ⊢
    exact h
 rw [if_neg h3] at h ⊢
 by_cases h5 : x.op = 5
 ·rw [if_pos h5] at h ⊢
  exact h
 rw [if_neg h5] at h ⊢
 cases hl : allSome a with
 | none => rw [hl] at h; cases h
 | some l =>
  rw [hl] at h
  rw [hk.all hl]
  exact h
theorem resT_kind {op : Int} {l : List Int} {t : Int} (h : resT op l = some t) : t = if numOp op = true then 1 else 2 := by
 unfold resT at h
 unfold numOp
 by_cases h1 : op = 6 ∨ (8 ≤ op ∧ op ≤ 12)
 ·rw [if_pos h1] at h
  rw [decide_eq_true h1]
  split at h
  ·cases h
   rfl
  ·cases h
 ·rw [if_neg h1] at h
  rw [decide_eq_false h1]
  split at h
  ·split at h
   ·cases h
    rfl
   ·cases h
  split at h
  ·split at h
   ·cases h
    rfl
   ·cases h
  split at h
  ·cases h
   rfl
  ·cases h
theorem tyTop_kind {vs : List VarS} {x : Ex} {a : List (Option Int)} {t : Int} (h6 : 6 ≤ x.op) (h : tyTop vs x a = some t) : t = if numOp x.op = true then 1 else 2 := by
 unfold tyTop at h
 rw [if_neg (by omega), if_neg (by omega), if_neg (by omega), if_neg (by omega)] at h
 cases hl : allSome a with
 | none => rw [hl] at h; cases h
 | some l =>
  rw [hl] at h
  exact resT_kind h
theorem tyE_made (vs : List VarS) (n : Int) (is : Bool) (ln : Int) : tyE vs (madeX n is ln) = some (if is = true then 2 else 1) := by
 unfold madeX
 by_cases h1 : is = true
 ·rw [if_pos h1, if_pos h1, tyE, tyTop]
  simp [Ex.op]
 ·rw [if_neg h1, if_neg h1]
  by_cases h2 : 0 ≤ n
  ·rw [if_pos h2, tyE, tyTop]
   simp [Ex.op]
  ·rw [if_neg h2, tyE, tyEs, tyEs, tyE, tyTop, tyTop]
   simp [Ex.op, allSome, resT, allT]

mutual
theorem tyE_fold (vs : List VarS) : ∀ (x : Ex) (t : Int), tyE vs x = some t → tyE vs (foldE opF x) = some t
 | .mk op n nm fd sub ln, t, h => by
  have ih := tyEs_fold vs sub
  rw [tyE] at h
  rw [foldE]
  rcases topX_made opF op n nm fd (foldEs opF sub) ln with e | ⟨vals, tr, h6, h0, e⟩
  ·rw [e, tyE]
   exact tyTop_kept rfl rfl rfl ih h
  ·rw [e, tyE_made, opF_kind h0]
   have := tyTop_kind (x := .mk op n nm fd sub ln) h6 h
   rw [this]
   show some (if (!numOp op) = true then (2 : Int) else 1) = some (if numOp op = true then 1 else 2)
   cases numOp op <;> rfl
theorem tyEs_fold (vs : List VarS) : ∀ l : List Ex, Kept (tyEs vs l) (tyEs vs (foldEs opF l))
 | [] => by
  rw [foldEs, tyEs]
  trivial
 | x :: l => by
  rw [foldEs, tyEs, tyEs]
  exact ⟨fun t h => tyE_fold vs x t h, tyEs_fold vs l⟩
end


theorem FitE.shE {x : Ex} (h : FitE x) : ShE x := by
 induction h with
 | mk x h hr ih =>
  refine .mk x ⟨h.lo, h.hi, fun ho he => ?_⟩ ih
  have := h.subs
  rw [he] at this
  unfold subsN at this
  simp only [List.length_nil] at this
  split at this
  ·omega
  split at this
  ·omega
  ·omega
theorem FitS.parts {s : Stm} (h : FitS s) : FitS1 s ∧ ∀ bl ∈ s.blocks, ∀ t ∈ bl, FitS t := by
 cases h with
 | mk _ h1 _ _ h2 => exact ⟨h1, h2⟩
theorem FitS.shS {s : Stm} (h : FitS s) : ShS s := by
 induction h with
 | mk s h hf hl hb ih =>
  refine .mk s ⟨h.lo, h.hi, fun ho => (h.dst1 ho).2.shE, fun ho => (h.src1 ho).shE, fun x hx => (h.conds x hx).shE, fun ho he => ?_, fun ho => by rw [h.c9 ho]; exact Nat.le_refl _⟩ ih
  rcases ho with ho | ho
  ·have := (h.c4 ho).2
   rw [he] at this
   cases this
  ·have := h.c56 ho
   rw [he] at this
   cases this
theorem madeX_shE (n : Int) (is : Bool) (ln : Int) : ShE (madeX n is ln) := by
 unfold madeX
 have h1 : ∀ k, ShE (.mk 1 k ⟨#[]⟩ ⟨#[]⟩ [] ln) := fun k => .mk _ ⟨by simp [Ex.op], by simp [Ex.op], fun h => by simp [Ex.op] at h⟩ (fun y hy => by simp [Ex.sub] at hy)
 split
 ·exact .mk _ ⟨by simp [Ex.op], by simp [Ex.op], fun h => by simp [Ex.op] at h⟩ (fun y hy => by simp [Ex.sub] at hy)
 split
 ·exact h1 _
 ·refine .mk _ ⟨by simp [Ex.op], by simp [Ex.op], fun h => by simp [Ex.op] at h⟩ (fun y hy => ?_)
  simp [Ex.sub] at hy
  subst hy
  exact h1 _
theorem ShE.fold {x : Ex} (h : ShE x) : ShE (foldE opF x) := by
 induction h with
 | mk x h hr ih =>
  obtain ⟨op, n, nm, fd, sub, ln⟩ := x
  rw [foldE]
  rcases topX_or opF op n nm fd (foldEs opF sub) ln with e | ⟨k, is, e⟩
  ·rw [e]
   refine .mk _ ⟨h.lo, h.hi, fun ho he => ?_⟩ (fun y hy => ?_)
   ·refine h.ne ho ?_
    have h2 : foldEs opF sub = [] := he
    have := foldEs_len opF sub
    rw [h2] at this
    exact List.eq_nil_of_length_eq_zero this.symm
   ·have hy' : y ∈ foldEs opF sub := hy
    rw [foldEs_map] at hy'
    obtain ⟨z, hz, rfl⟩ := List.mem_map.1 hy'
    exact ih z hz
  ·rw [e]
   exact madeX_shE k is ln
theorem ShS.fold {s : Stm} (h : ShS s) : ShS (foldS opF s) := by
 induction h with
 | mk s h hb ih =>
  rw [foldS_eq]
  refine .mk _ ⟨h.lo, h.hi, fun ho => (h.dst ho).fold, fun ho => (h.src ho).fold, fun x hx => ?_, fun ho he => ?_, fun ho => ?_⟩ (fun bl hbl t ht => ?_)
  ·have hx' : x ∈ foldEs opF s.conds := hx
   rw [foldEs_map] at hx'
   obtain ⟨z, hz, rfl⟩ := List.mem_map.1 hx'
   exact (h.conds z hz).fold
  ·refine h.bne ho ?_
   have h2 : foldBs opF s.blocks = [] := he
   have := foldBs_len opF s.blocks
   rw [h2] at this
   exact List.eq_nil_of_length_eq_zero this.symm
  ·show s.fields.length ≤ (foldEs opF s.conds).length
   rw [foldEs_len]
   exact h.call ho
  ·have hb' : bl ∈ foldBs opF s.blocks := hbl
   rw [foldBs_map] at hb'
   obtain ⟨b0, hb0, rfl⟩ := List.mem_map.1 hb'
   rw [foldSs_map] at ht
   obtain ⟨t0, ht0, rfl⟩ := List.mem_map.1 ht
   exact ih b0 hb0 t0 ht0

section
variable {vs : List VarS} {s : Stm} {ls : Int}
theorem ty_dec {x : Ex} {t : Int} (h : decide (tyE vs x = some t) = true) : decide (tyE vs (foldE opF x) = some t) = true := decide_eq_true (tyE_fold vs x t (of_decide_eq_true h))
theorem placeT_fold {v : VarS} {x : Ex} {t : Int} (ho : x.op = 3 ∨ x.op = 4) (h : placeT (tyE vs) v x = some t) : (foldE opF x).op = x.op ∧ (foldE opF x).name = x.name ∧ placeT (tyE vs) v (foldE opF x) = some t := by
 obtain ⟨op, n, nm, fd, sub, ln⟩ := x
 have hop : op = 3 ∨ op = 4 := ho
 have e : foldE opF (.mk op n nm fd sub ln) = .mk op n nm fd (foldEs opF sub) ln := by
  rw [foldE, topX_low (by omega)]
 rw [e]
 refine ⟨rfl, rfl, ?_⟩
 unfold placeT at h ⊢
 show (if op = 4 then (if v.arr = true ∧ (foldEs opF sub).head?.bind (tyE vs) = some 1 then some v.type else none) else if v.arr = false ∧ ¬ 2 < v.type then some v.type else none) = some t
 have h' : (if op = 4 then (if v.arr = true ∧ sub.head?.bind (tyE vs) = some 1 then some v.type else none) else if v.arr = false ∧ ¬ 2 < v.type then some v.type else none) = some t := h
 by_cases h4 : op = 4
 ·rw [if_pos h4] at h' ⊢
  by_cases h5 : v.arr = true ∧ sub.head?.bind (tyE vs) = some 1
  ·rw [if_pos h5] at h'
   have h6 : (foldEs opF sub).head?.bind (tyE vs) = some 1 := by
    cases sub with
    | nil => exact h5.2
    | cons y l =>
     rw [foldEs]
     exact tyE_fold vs y 1 h5.2
   rw [if_pos ⟨h5.1, h6⟩]
   exact h'
  ·rw [if_neg h5] at h'
   cases h'
 ·rw [if_neg h4] at h' ⊢
  exact h'
theorem okAssign_fold (ho : s.dst.op = 3 ∨ s.dst.op = 4) (h : okAssign vs s = true) : okAssign vs (foldS opF s) = true := by
 rw [foldS_eq]
 unfold okAssign at h ⊢
 show (match varF vs (foldE opF s.dst).name with | none => false | some v => (v.sect != 1) && (match placeT (tyE vs) v (foldE opF s.dst) with | none => false | some t => decide (tyE vs (foldE opF s.src) = some t))) = true
 cases hv : varF vs s.dst.name with
 | none => rw [hv] at h; cases h
 | some v =>
  rw [hv] at h
  simp only [Bool.and_eq_true] at h
  obtain ⟨h1, h2⟩ := h
  cases hp : placeT (tyE vs) v s.dst with
  | none => rw [hp] at h2; cases h2
  | some t =>
   rw [hp] at h2
   obtain ⟨-, e2, e3⟩ := placeT_fold ho hp
   rw [e2, hv]
   simp only [e3]
   rw [h1, Bool.true_and]
   exact ty_dec h2
theorem okConds_fold (h : okConds vs s = true) : okConds vs (foldS opF s) = true := by
 rw [foldS_eq]
 unfold okConds at h ⊢
 show (foldEs opF s.conds).all (fun x => decide (tyE vs x = some 1)) = true
 rw [foldEs_map, List.all_map]
 rw [List.all_eq_true] at h ⊢
 exact fun x hx => ty_dec (h x hx)
theorem okVar_fold (h : okVar vs s = true) : okVar vs (foldS opF s) = true := by
 rw [foldS_eq]
 exact h
theorem okField_fold {v : VarS} {i : Nat} (h : okField vs v s i = true) : okField vs v (foldS opF s) i = true := by
 rw [foldS_eq]
 unfold okField at h ⊢
 show (match s.fields[i]?, (foldEs opF s.conds)[i]? with
  | some f, some x => (match kpF v.type f with
   | none => false
   | some k => kpIn v.type k && (!((s.fields.take i).any fun g => f.toList == g.toList)) && decide (tyE vs x = some (kpTy v.type k)))
  | _, _ => false) = true
 rw [foldEs_map, List.getElem?_map]
 cases hf : s.fields[i]? with
 | none => rw [hf] at h; cases h
 | some f =>
  cases hx : s.conds[i]? with
  | none => rw [hf, hx] at h; cases h
  | some x =>
   rw [hf, hx] at h
   simp only [Option.map_some] at h ⊢
   cases hk : kpF v.type f with
   | none => rw [hk] at h; cases h
   | some k =>
    rw [hk] at h
    simp only [Bool.and_eq_true] at h ⊢
    exact ⟨h.1, ty_dec h.2⟩
theorem okCall_fold (h : okCall vs s = true) : okCall vs (foldS opF s) = true := by
 have e : (foldS opF s).name = s.name ∧ (foldS opF s).fields = s.fields := by rw [foldS_eq]; exact ⟨rfl, rfl⟩
 unfold okCall at h ⊢
 rw [e.1, e.2]
 cases hv : varF vs s.name with
 | none => rw [hv] at h; cases h
 | some v =>
  rw [hv] at h
  simp only [Bool.and_eq_true, List.all_eq_true] at h ⊢
  exact ⟨h.1, fun i hi => okField_fold (h.2 i hi)⟩
theorem bsX_fold : ∀ (bs : List (List Stm)) (cs : List Ex) (_ : ∀ b ∈ bs, ∀ n, ktSs vs n b = true → ktSs vs n (foldSs opF b) = true), bsX (ktSs vs) vs ls cs bs = true → bsX (ktSs vs) vs ls (foldEs opF cs) (foldBs opF bs) = true
 | [], cs, _, _ => by
  rw [foldBs]
  cases foldEs opF cs <;> rfl
 | b :: bs, [], hb, h => by
  rw [foldBs, foldEs]
  rw [bsX, Bool.and_eq_true, Bool.and_eq_true] at h ⊢
  refine ⟨⟨rfl, hb b List.mem_cons_self ls h.1.2⟩, ?_⟩
  have := bsX_fold bs [] (fun b' hb' => hb b' (List.mem_cons_of_mem _ hb')) h.2
  rw [foldEs] at this
  exact this
 | b :: bs, c :: cs, hb, h => by
  rw [foldBs, foldEs]
  rw [bsX, Bool.and_eq_true, Bool.and_eq_true] at h ⊢
  exact ⟨⟨ty_dec h.1.1, hb b List.mem_cons_self ls h.1.2⟩, bsX_fold bs cs (fun b' hb' => hb b' (List.mem_cons_of_mem _ hb')) h.2⟩
theorem hdX_fold : ∀ (bs : List (List Stm)) (_ : ∀ b ∈ bs, ∀ n, ktSs vs n b = true → ktSs vs n (foldSs opF b) = true), hdX (ktSs vs) ls bs = true → hdX (ktSs vs) ls (foldBs opF bs) = true
 | [], _, _ => by
  rw [foldBs]
  rfl
 | b :: bs, hb, h => by
  rw [foldBs]
  exact hb b List.mem_cons_self ls h
end
theorem ktSs_fold_of {vs : List VarS} : ∀ (l : List Stm) (n : Int) (_ : ∀ t ∈ l, ∀ n, ktS vs n t = true → ktS vs n (foldS opF t) = true), ktSs vs n l = true → ktSs vs n (foldSs opF l) = true
 | [], n, _, _ => by
  rw [foldSs, ktSs]
 | t :: l, n, ht, h => by
  rw [ktSs, Bool.and_eq_true] at h
  rw [foldSs, ktSs, Bool.and_eq_true]
  exact ⟨ht t List.mem_cons_self n h.1, ktSs_fold_of l n (fun t' ht' => ht t' (List.mem_cons_of_mem _ ht')) h.2⟩
theorem ktS_fold {vs : List VarS} {s : Stm} (hf : FitS s) : ∀ n, ktS vs n s = true → ktS vs n (foldS opF s) = true := by
 induction hf with
 | mk s h hfl hl hb ih =>
  intro n hk
  have hB : ∀ b ∈ s.blocks, ∀ n, ktSs vs n b = true → ktSs vs n (foldSs opF b) = true := fun b hb' n' h' => ktSs_fold_of b n' (fun t ht => ih b hb' t ht) h'
  have e : (foldS opF s).op = s.op ∧ (foldS opF s).src = foldE opF s.src ∧ (foldS opF s).conds = foldEs opF s.conds ∧ (foldS opF s).blocks = foldBs opF s.blocks := by
   rw [foldS_eq]
   exact ⟨rfl, rfl, rfl, rfl⟩
  rw [ktS_top] at hk ⊢
  unfold topS at hk ⊢
  rw [e.1, e.2.1, e.2.2.1, e.2.2.2]
  by_cases h1 : s.op = 1
  ·rw [if_pos h1] at hk ⊢
   exact okAssign_fold (h.dst1 h1).1 hk
  rw [if_neg h1] at hk ⊢
  by_cases h2 : s.op = 2
  ·rw [if_pos h2] at hk ⊢
   exact bsX_fold _ _ hB hk
  rw [if_neg h2] at hk ⊢
  by_cases h3 : s.op = 3
  ·rw [if_pos h3] at hk ⊢
   rw [Bool.and_eq_true] at hk ⊢
   exact ⟨ty_dec hk.1, bsX_fold _ _ hB hk.2⟩
  rw [if_neg h3] at hk ⊢
  by_cases h4 : s.op = 4
  ·rw [if_pos h4] at hk ⊢
   rw [Bool.and_eq_true, Bool.and_eq_true] at hk ⊢
   exact ⟨okVar_fold hk.1, okConds_fold hk.2.1, hdX_fold _ hB hk.2.2⟩
  rw [if_neg h4] at hk ⊢
  by_cases h5 : s.op = 5
  ·rw [if_pos h5] at hk ⊢
   rw [Bool.and_eq_true] at hk ⊢
   exact ⟨ty_dec hk.1, hdX_fold _ hB hk.2⟩
  rw [if_neg h5] at hk ⊢
  by_cases h6 : s.op = 6
  ·rw [if_pos h6] at hk ⊢
   rw [Bool.and_eq_true] at hk ⊢
   exact ⟨hdX_fold _ hB hk.1, ty_dec hk.2⟩
  rw [if_neg h6] at hk ⊢
  by_cases h7 : s.op = 7
  ·rw [if_pos h7] at hk ⊢
   exact hk
  rw [if_neg h7] at hk ⊢
  by_cases h9 : s.op = 9
  ·rw [if_pos h9] at hk ⊢
   exact okCall_fold hk
  rw [if_neg h9]
theorem checkX_fold {p : Prg} (h : FitP p) (hk : checkX p = true) : checkX (foldP p) = true := by
 unfold checkX at hk ⊢
 rw [Bool.and_eq_true] at hk ⊢
 exact ⟨hk.1, ktSs_fold_of p.body 0 (fun t ht => ktS_fold (h.body t ht)) hk.2⟩
theorem shS_foldP {p : Prg} (h : FitP p) : ∀ s ∈ (foldP p).body, ShS s := fun s hs => by
 have hs' : s ∈ foldSs opF p.body := hs
 rw [foldSs_map] at hs'
 obtain ⟨t, ht, rfl⟩ := List.mem_map.1 hs'
 exact (h.body t ht).shS.fold

end Go.Proofs.YtahjijdadifkaaaDoor
