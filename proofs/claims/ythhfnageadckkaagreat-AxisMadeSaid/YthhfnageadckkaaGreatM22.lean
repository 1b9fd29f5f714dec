/- Merged: Layer 15: is the window's newest place an axis' own, and each one near to the next? Layer 15: what a drive is told; an axis whose lists are its own. Layer 15: an axis whose lists are its own. Layer 15: does a line of moves lie within the limits? -/
import Derived.Test.YthhfnageadckkaaGreatM21
import Derived.Test.YthhfnageadckkaaGreatM13
import Derived.Laws.CopyOwn
set_option linter.unusedVariables false
set_option linter.unusedSimpArgs false
set_option maxHeartbeats 4000000
namespace Go.Proofs.YthhfnageadckkaaGreat
open Go.RowKit
attribute [local go_sem] ite_max ite_min vite_max vite_min ext_cell ext_frozen

theorem nearK_all {p : Int} {zs : List Int} : ∀ {n : Nat}, nearK p zs n = true → ∀ i, i < n → nearF p zs i = true
 | 0, _, i, hi => by omega
 | n + 1, h, i, hi => by
  rw [nearK, Bool.and_eq_true] at h
  by_cases he : i = n
  ·rw [he]; exact h.2
  ·exact nearK_all h.1 i (by omega)
theorem nearK_no {p : Int} {zs : List Int} {n k : Nat} (hk : k < n) (h : nearF p zs k = false) : nearK p zs n = false := by
 cases hn : nearK p zs n
 ·rfl
 ·rw [nearK_all hn k hk] at h
  cases h

set_option maxRecDepth 100000 in
theorem anear_at (a : AX) (sv nv wv : Value) (r : Bool) (w : World) (hs : SmV w a.sm sv) (hr : rightW a.sm a.sm.length = true) (hp : -1099511627776 ≤ a.g.p ∧ a.g.p ≤ 1099511627776) (hq : nearK a.g.p a.sm a.sm.length = r) :
  Calls Tryz.prog 26 #[.agg #[.int .i64 a.st, .int .i64 a.l.v, .int .i64 a.l.a, .int .i64 a.l.d, .int .i64 a.l.lo, .int .i64 a.l.hi, .int .i64 a.win, .int .i64 a.hat, .int .i64 a.fast, .int .i64 a.creep, .int .i64 a.g.p, .int .i64 a.g.v, sv, .int .i64 a.off, nv, wv, .bool a.hd, .int .i64 a.h.p, .int .i64 a.h.f, .int .i64 a.h.c, .bool a.h.t, .int .i64 a.ov, .int .i64 a.sta, .int .i64 a.mas, .int .i64 a.cau, .bool a.ins]] w fun e w' => e = .returned (.bool r) ∧ Below w.heap.size w w' := by
 have hy := rightW_yes hr
 obtain ⟨b, off, c, rfl, h1, h2, h3, h4⟩ := hs.at (by omega)
 obtain ⟨n, hn⟩ : ∃ n, a.sm.length = n := ⟨_, rfl⟩
 obtain ⟨p, hpe⟩ : ∃ p, a.g.p = p := ⟨_, rfl⟩
 obtain ⟨zs, hzs⟩ : ∃ z, a.sm = z := ⟨_, rfl⟩
 rw [hn] at h1 h4 hy hq
 rw [hpe] at hp hq
 rw [hzs] at h4 hy hq
 rw [hn, hpe]
 have HQ := Lib.hid hq
 have HY : Hid (∀ i, i < n → -2199023255552 ≤ zs[i]?.getD 0 ∧ zs[i]?.getD 0 ≤ 2199023255552) := Lib.hid hy.2.2
 have HC := Lib.hid h4
 clear hs hr hn hpe hzs hq hy h4
 go_enter Tryz.func26, Tryz.ntmps26
 go_upto_region 1 with (fail)
 refine wp_name fun W hW => ?_
 obtain ⟨B, hB⟩ : ∃ B, B = w.heap.size := ⟨_, rfl⟩
 have hbel : Below w.heap.size w W := by rw [hW.out]; exact belowBy
 have hlt : B < W.heap.size := by rw [hW.out, hB]; simp
 have c10 : W.cell? ⟨B, 10, none⟩ = some (.int .i64 p) := by rw [hW.out, hB]; go_simp
 have c12 : W.cell? ⟨B, 12, none⟩ = some (.slice (some ⟨b, off, none⟩) n c) := by rw [hW.out, hB]; go_simp
 have HB := Lib.hid hbel
 have HCW : Hid (∀ i, i < n → W.cell? ⟨b, off + i, none⟩ = some (.int .i64 (zs[i]?.getD 0))) := Lib.hid (fun i hi => (hbel.cell (p := ⟨b, off + i, none⟩) h3).trans (HC.out i hi))
 (try rw [← hB])
 clear hW hbel hB h3
 go_wp2_with fail
 go_loopw [3, 4, 5, 6, 14] (fun l _ _ _ u wr => ∃ k : Nat, k ≤ n ∧ u = .int .i64 k ∧ l = .int .i64 (if k = 0 then p else zs[k - 1]?.getD 0) ∧ Hid (nearK p zs k = true) ∧ W = wr) (fun _ _ _ _ u _ => n - (intOf u).toNat)
 case atStart => exact ⟨0, by omega, rfl, rfl, Lib.hid rfl, rfl⟩
 case round =>
  obtain ⟨k, hk, rfl, rfl, HK, rfl⟩ := hrel
  by_cases hlt2 : k < n
  ·have g0 := HCW.out k hlt2
   have hzb := HY.out k hlt2
   obtain ⟨z, hz⟩ : ∃ z, zs[k]?.getD 0 = z := ⟨_, rfl⟩
   rw [hz] at g0 hzb
   have hk0 : (0 : Int) ≤ (k : Int) := by omega
   have hkn : (k : Int) < (n : Int) := by omega
   by_cases k0 : k = 0
   ·subst k0
    rw [Nat.add_zero] at g0
    have hF : nearF p zs 0 = decide (z = p) := by unfold nearF; rw [if_pos rfl, hz]
    simp only [if_true]
    have hw : IntKind.i64.wrap (z - p) = z - p := IntWalk.i64_in _ (by omega)
    have hw2 : IntKind.i64.wrap (-(z - p)) = -(z - p) := IntWalk.i64_in _ (by omega)
    by_cases he : z = p
    ·subst he
     have HN : Hid (nearK z zs (0 + 1) = true) := Lib.hid (by rw [nearK, HK.out, hF]; simp)
     have HZ := Lib.hid hz
     clear hF hz
     go_wp2
     go_roundw
     case rel => exact ⟨1, by omega, by go_num, by rw [if_neg (by decide)]; show _ = Value.int .i64 (zs[0]?.getD 0); rw [HZ.out], HN, by first | rfl | trivial⟩
     case measure => simp [intOf]; omega
    ·have HN : Hid (nearK p zs n = false) := Lib.hid (nearK_no hlt2 (by rw [hF]; exact decide_eq_false he))
     have hd : ¬ z - p = 0 := by omega
     have hd2 : (z - p != 0) = true := by simp [hd]
     clear hF hz he
     go_wp2
     go_ret
     exact ⟨by rw [← HQ.out, HN.out]; rfl, HB.out⟩
   ·have hu := HY.out (k - 1) (by omega)
    obtain ⟨l, hl⟩ : ∃ l, zs[k - 1]?.getD 0 = l := ⟨_, rfl⟩
    have hF : nearF p zs k = decide (-1048576 ≤ z - l ∧ z - l ≤ 1048576) := by unfold nearF; rw [if_neg k0, hz, hl]
    rw [if_neg k0, hl]
    rw [hl] at hu
    have hw : IntKind.i64.wrap (z - l) = z - l := IntWalk.i64_in _ (by omega)
    have hw2 : IntKind.i64.wrap (-(z - l)) = -(z - l) := IntWalk.i64_in _ (by omega)
    have hki : ¬ ((k : Int) = 0) := by omega
    by_cases he : -1048576 ≤ z - l ∧ z - l ≤ 1048576
    ·have HN : Hid (nearK p zs (k + 1) = true) := Lib.hid (by rw [nearK, HK.out, hF, decide_eq_true he]; rfl)
     have HZ := Lib.hid hz
     clear hF hz hl
     go_wp2
     go_roundw
     case rel => exact ⟨k + 1, by omega, by go_num, by rw [if_neg (by omega)]; show _ = Value.int .i64 (zs[k + 1 - 1]?.getD 0); rw [Nat.add_sub_cancel, HZ.out], HN, by first | rfl | trivial⟩
     case measure => simp [intOf]; omega
    ·have HN : Hid (nearK p zs n = false) := Lib.hid (nearK_no hlt2 (by rw [hF]; exact decide_eq_false he))
     clear hF hz hl
     by_cases h5 : 1048576 < z - l
     ·go_wp2
      go_ret
      exact ⟨by rw [← HQ.out, HN.out]; rfl, HB.out⟩
     ·have h6 : 1048576 < -(z - l) := by omega
      go_wp2
      go_ret
      exact ⟨by rw [← HQ.out, HN.out]; rfl, HB.out⟩
  ·obtain rfl : k = n := by omega
   go_wp2
   all_goals go_ret
   all_goals exact ⟨by rw [← HQ.out, HK.out]; rfl, HB.out⟩


theorem win_off {win off : Int} (hw : 0 ≤ win ∧ win ≤ 16) (ho : -288230376151711744 ≤ off ∧ off ≤ 288230376151711744) : -4611686018427387904 ≤ win * off ∧ win * off ≤ 4611686018427387904 := by
 have h1 : win * off ≤ win * 288230376151711744 := Int.mul_le_mul_of_nonneg_left ho.2 hw.1
 have h2 : win * (-288230376151711744) ≤ win * off := Int.mul_le_mul_of_nonneg_left ho.1 hw.1
 omega

set_option maxRecDepth 100000 in
theorem aout_at (a : AX) (sv nv wv : Value) (x : Int) (w : World) (hs : SmV w a.sm sv) (hr : rightW a.sm a.sm.length = true) (hw : 0 ≤ a.win ∧ a.win ≤ 16) (ho : -288230376151711744 ≤ a.off ∧ a.off ≤ 288230376151711744) (hx : outX a = x) :
  Calls Tryz.prog 22 #[.agg #[.int .i64 a.st, .int .i64 a.l.v, .int .i64 a.l.a, .int .i64 a.l.d, .int .i64 a.l.lo, .int .i64 a.l.hi, .int .i64 a.win, .int .i64 a.hat, .int .i64 a.fast, .int .i64 a.creep, .int .i64 a.g.p, .int .i64 a.g.v, sv, .int .i64 a.off, nv, wv, .bool a.hd, .int .i64 a.h.p, .int .i64 a.h.f, .int .i64 a.h.c, .bool a.h.t, .int .i64 a.ov, .int .i64 a.sta, .int .i64 a.mas, .int .i64 a.cau, .bool a.ins]] w fun e w' => e = .returned (.int .i64 x) ∧ Below w.heap.size w w' := by
 have hy := rightW_yes hr
 have hsb := sumK_bd a.sm a.sm.length a.sm.length hy.2.2 (Nat.le_refl _)
 have hwo := win_off hw ho
 obtain ⟨b, off, c, rfl, h1, h2, h3, h4⟩ := hs.at (by omega)
 obtain ⟨S, hS⟩ : ∃ S, sumK a.sm a.sm.length = S := ⟨_, rfl⟩
 unfold outX at hx
 rw [hS] at hx hsb
 obtain ⟨n, hn⟩ : ∃ n, a.sm.length = n := ⟨_, rfl⟩
 obtain ⟨M, hM⟩ : ∃ M, a.win * a.off = M := ⟨_, rfl⟩
 rw [hn] at h1 h4 hsb hr hS ⊢
 rw [hM] at hx hwo
 have hn16 : (n : Int) ≤ 16 := by omega
 have hw1 : IntKind.i64.wrap (a.win * a.off) = M := by rw [hM]; exact IntWalk.i64_in _ (by omega)
 have hw2 : IntKind.i64.wrap (S + M) = x := by rw [hx]; exact IntWalk.i64_in _ (by omega)
 have HOU : Hid (∀ W, Below w.heap.size w W → Calls Tryz.prog 47 #[.agg #[.slice (some ⟨b, off, none⟩) n c]] W fun e w' => e = .returned (.int .i64 S) ∧ Below W.heap.size W w') := Lib.hid (fun W hW =>
  sm_out_at a.sm b off n c S W h1 h2 (Nat.lt_of_lt_of_le h3 hW.size) (fun i hi => (hW.cell (p := ⟨b, off + i, none⟩) h3).trans (h4 i hi)) hr hS)
 clear hs hr hw ho hx hy hsb hwo h1 h2 h3 h4 hS hn hM hn16
 go_enter Tryz.func22, Tryz.ntmps22
 go_upto_region 1 with (fail)
 refine wp_name fun W hW => ?_
 obtain ⟨B, hB⟩ : ∃ B, B = w.heap.size := ⟨_, rfl⟩
 have hbel : Below w.heap.size w W := by rw [hW.out]; exact belowBy
 have hlt : B < W.heap.size := by rw [hW.out, hB]; simp
 have c6 : W.cell? ⟨B, 6, none⟩ = some (.int .i64 a.win) := by rw [hW.out, hB]; go_simp
 have c12 : W.cell? ⟨B, 12, none⟩ = some (.slice (some ⟨b, off, none⟩) n c) := by rw [hW.out, hB]; go_simp
 have c13 : W.cell? ⟨B, 13, none⟩ = some (.int .i64 a.off) := by rw [hW.out, hB]; go_simp
 have HB := Lib.hid hbel
 (try rw [← hB])
 clear hW hbel hB
 refine wp_region_ext (by kernel_rfl) (by kernel_rfl) ?_
 repeat (go_big_quiet_step (first | (go_at_call 47; exact ext_call (HOU.out _ (HB.out.trans (Below.mono (ext_below ⟨_, rfl⟩) HB.out.size))))))
 refine wpQuiet_nil ?_
 intro w1 hb1
 replace hb1 := ext_below hb1
 have HB1 := Lib.hid (HB.out.trans (hb1.mono HB.out.size))
 clear hb1
 go_wp2
 go_ret
 exact ⟨rfl, HB1.out⟩


theorem num_info : (Tryz.prog.info? 2).map (fun i => (i.zero, i.size, i.bytes)) = some (some (.int .i64 0), 1, 8) := by kernel_rfl
def NewV (base : Nat) (v : Value) : Prop := ∀ b o n c, 0 < n → v = .slice (some ⟨b, o, none⟩) n c → base ≤ b
structure CpS (w W : World) (B : Nat) (cs : List Value) : Prop where
 blk : W.heap[B]? = some (.cells cs.toArray 35)
 res : ∃ zs : Array Value, W.heap[B + 1]? = some (.cells zs 35) ∧ zs.size = 26
 bel : Below B w W
 lt : B + 2 ≤ W.heap.size
section
variable {w W W' : World} {B : Nat} {cs : List Value}
theorem CpS.below (h : CpS w W B cs) (hb : Below W.heap.size W W') : CpS w W' B cs := by
 obtain ⟨zs, h1, h2⟩ := h.res
 exact ⟨(hb.block B (by have := h.lt; omega)).trans h.blk, ⟨zs, (hb.block (B + 1) (by have := h.lt; omega)).trans h1, h2⟩, h.bel.trans (hb.mono (by have := h.lt; omega)), Nat.le_trans h.lt hb.size⟩
theorem CpS.set (h : CpS w W B cs) (i : Nat) (v : Value) : CpS w (W.setCell ⟨B, i, none⟩ v) B (cs.set i v) := by
 obtain ⟨zs, h1, h2⟩ := h.res
 refine ⟨?_, ⟨zs, ?_, h2⟩, Below.setCell h.bel (Nat.le_refl _) _, by simpa [World.setCell] using h.lt⟩
 ·rw [heap_setCell_same W B i _ _ v h.blk, List.setIfInBounds_toArray]
 ·rw [Below.heap_setCell W ⟨B, i, none⟩ v (B + 1) (by show B + 1 ≠ B; omega)]
  exact h1
theorem CpS.cell (h : CpS w W B cs) (i : Nat) (v : Value) (hv : cs[i]? = some v) : W.cell? ⟨B, i, none⟩ = some v := heap_cell i v h.blk (by rw [List.getElem?_toArray]; exact hv)
end
theorem heap_alloc_atX {w : World} {o : Obj} {k : Nat} (h : w.heap.size = k) : (w.alloc o).heap[k]? = some o := h ▸ heap_alloc_new w o
theorem Lies.row {w : World} {size n base g : Nat} {A : Option Addr} {xs : List Value} (h : Lies w w.heap.size size A n xs) (h4 : ∀ b o, 0 < n → A = Option.some ⟨b, o, Option.none⟩ → base ≤ b) (hg : g < base) (cs : Array Value) : Lies (w.setRow g cs) (w.setRow g cs).heap.size size A n xs := by
 refine ⟨h.1, fun hn => ?_⟩
 obtain ⟨b, off, e, hb, hc⟩ := h.2 hn
 have := h4 b off hn e
 exact ⟨b, off, e, by simpa [World.setRow] using hb, fun j u hu => (cell_setRow_other w g cs ⟨b, off + j, Option.none⟩ (by show b ≠ g; omega)).trans (hc j u hu)⟩
theorem ReadC.row {w : World} {n base g : Nat} {xs : List Value} {v : Value} (h : ReadC w n xs base v) (hg : g < base) {cs : Array Value} : ReadC (w.setRow g cs) n xs base v := by
 obtain ⟨A, c, rfl, h1, h2, h3, h4⟩ := h
 exact ⟨A, c, rfl, h1, h2, Lies.row h3 h4 hg cs, h4⟩
theorem ReadC.grown {W W' : World} {B n c : Nat} {A : Option Addr} {xs : List Value} (h : W'.ownsRow W.heap.size 63 7 (.slice A n c) n xs) (hb : B ≤ W.heap.size) : ReadC W' n xs B (.slice A n c) := (ReadC.of_own h).base0 hb
section
variable {P : Program}
theorem wpList_copyL {ops : Array Oper} {rest : List Oper} {o : Oper} {a : Act} {Q : Exit → Act → World → Prop} (hgd : o.guard = none) (s x : Operand) (t e : TypeId)
  (ho : o.op = .call { callee := .builtin .append, args := #[s, x], argTypes := #[t, t] })
  (i : TypeInfo) (z : Value) (size bytes : Nat) (ht : P.underlying t = some (.slice e)) (hi : P.info? e = some i) (hz : i.zero = some z)
  (hsize : i.size = size) (hby : i.bytes = bytes) (hzs : z.cells.size = size) (hsz : 0 < size)
  (W : World) (B : Nat) (A : Option Addr) (n c : Nat) (xs : List Value) (hs : a.eval s = .slice (some ⟨W.heap.size, 0, none⟩) 0 0) (hx : a.eval x = .slice A n c)
  (hr : Lies (W.alloc (.cells #[] e)) B size A n xs) (h1 : ∀ u ∈ xs, u.oneCell' = true) (h63 : n ≤ maxLen) (hbytes : n * bytes ≤ 140737488355328)
  (h : ∀ A' c' w', w'.ownsRow W.heap.size e size (.slice A' n c') n xs → Below W.heap.size W w' → wpList P ops Q rest (a.put o.dst (.slice A' n c')) w') :
  wpList P ops Q (o :: rest) a (W.alloc (.cells #[] e)) := by
 have hb : Below W.heap.size W (W.alloc (.cells #[] e)) := below_new (Below.refl _ _) (Nat.le_refl _) _
 have h0 : (W.alloc (.cells #[] e)).ownsRow W.heap.size e size (.slice (some ⟨W.heap.size, 0, none⟩) 0 0) 0 [] := World.ownsRow_made W #[] 0 (Nat.le_refl _) (by unfold maxLen; omega) (by simp)
 refine wpList_app _ hgd s x t ho W.heap.size e i z size bytes ht hi hz hsize hby hzs hsz _ 0 [] hs h0 B A n c xs hx hr h1 (by rw [Nat.zero_add]; exact h63) (by rw [Nat.zero_add]; exact hbytes) (by simp) (fun v' w' h1 h2 h3 => ?_)
 rw [Nat.zero_add, List.nil_append] at h1
 obtain ⟨A', c', rfl, -⟩ := own_form h1
 exact h A' c' w' h1 (below_grown hb h2 h0 (Nat.le_refl _) (by simp))
end
def SmR (w : World) (zs : List Int) (base : Nat) (v : Value) : Prop := SmV w zs v ∧ NewV base v
theorem SmR.of_own {W W' : World} {B c : Nat} {A : Option Addr} {zs : List Int} (h : W'.ownsRow W.heap.size 2 1 (.slice A zs.length c) zs.length (intsC zs)) (hb : B ≤ W.heap.size) : SmR W' zs B (.slice A zs.length c) := by
 obtain ⟨A', c', e, h1, h2, h3⟩ := own_form h
 unfold maxLen at h2
 injection e with e1 e2 e3
 subst e1 e3
 refine ⟨⟨A, c, rfl, h1, by omega, Lies.own h⟩, fun b o n c' _ e => ?_⟩
 injection e with e1
 exact Nat.le_trans hb (h3 b o none e1)
theorem SmR.store {w : World} {base : Nat} {zs : List Int} {v : Value} (h : SmR w zs base v) {p : Addr} (hp : p.block < base) (u : Value) : SmR (w.setCell p u) zs base v := by
 obtain ⟨⟨A, c, rfl, h1, h2, h3⟩, h4⟩ := h
 refine ⟨⟨A, c, rfl, h1, h2, ⟨h3.1, fun hn => ?_⟩⟩, h4⟩
 obtain ⟨b, off, e, hb, hc⟩ := h3.2 hn
 have := h4 b off _ c hn (by rw [e])
 refine ⟨b, off, e, by simpa [World.setCell] using hb, fun j u' hu => ?_⟩
 rw [World.cell?_setCell_other w p ⟨b, off + j, none⟩ u (fun he => by subst he; simp only at hp; omega)]
 exact hc j u' hu
theorem SmR.row {w : World} {base g : Nat} {zs : List Int} {v : Value} (h : SmR w zs base v) (hg : g < base) {cs : Array Value} : SmV (w.setRow g cs) zs v := by
 obtain ⟨⟨A, c, rfl, h1, h2, h3⟩, h4⟩ := h
 exact ⟨A, c, rfl, h1, h2, Lies.row h3 (fun b o hn e => h4 b o _ c hn (by rw [e])) hg cs⟩
theorem intsC_oneR (zs : List Int) : ∀ u ∈ intsC zs, u.oneCell' = true := by
 intro u hu
 simp only [intsC, List.mem_map] at hu
 obtain ⟨z, -, rfl⟩ := hu
 rfl
theorem axis_size : (Tryz.prog.info? 35).map (·.size) = some 26 := by kernel_rfl
theorem axC_oneC (a : AX) (sv nv wv : Value) (h1 : sv.oneCell' = true) (h2 : nv.oneCell' = true) (h3 : wv.oneCell' = true) : (axC a sv nv wv).toArray.all (·.oneCell') = true := by
 simp only [axC, List.all_toArray, List.all_cons, List.all_nil, h1, h2, h3]
 rfl
theorem post_row {P : Program} {fn : Func} {R : Ending → World → Prop} {a : Act} {w : World} {p : Tmp} {ty : TypeId} {g : Nat} {t : TypeId} {cs : Array Value} {fr : Nat × Nat} {d : TypeDesc} (h : fn.results = #[.cell p ty])
  (hp : a.tmps.getD p undef = .pointer (some ⟨g, 0, none⟩)) (hg : w.heap[g]? = some (.cells cs t fr)) (hu : P.underlying ty = some d) (hd : (match d with | .struct _ | .array _ _ => true | _ => false) = true) (hi : (P.info? ty).map (·.size) = some cs.size)
  (hdf : a.defers = []) (hR : R (.returned (.agg cs)) w) : bodyPost P fn R .ret a w := bodyPost_ret (results_cell_row h a.tmps w g t cs fr d hp hg hu hd hi) hdf hR

set_option maxRecDepth 100000 in
theorem acopied_at (a : AX) (sv nv wv : Value) (w : World) (hs : SmV w a.sm sv) (hl : LineV w 0 a.ns a.ws (.agg #[nv, wv])) (h1 : a.sm.length ≤ 400) (h2 : a.ns.length ≤ 400) (h3 : a.ws.length ≤ 400) :
  Calls Tryz.prog 30 #[.agg #[.int .i64 a.st, .int .i64 a.l.v, .int .i64 a.l.a, .int .i64 a.l.d, .int .i64 a.l.lo, .int .i64 a.l.hi, .int .i64 a.win, .int .i64 a.hat, .int .i64 a.fast, .int .i64 a.creep, .int .i64 a.g.p, .int .i64 a.g.v, sv, .int .i64 a.off, nv, wv, .bool a.hd, .int .i64 a.h.p, .int .i64 a.h.f, .int .i64 a.h.c, .bool a.h.t, .int .i64 a.ov, .int .i64 a.sta, .int .i64 a.mas, .int .i64 a.cau, .bool a.ins]] w fun e w' => ∃ sv' nv' wv', e = .returned (.agg (axC a sv' nv' wv').toArray) ∧ SmV w' a.sm sv' ∧ LineV w' w.heap.size a.ns a.ws (.agg #[nv', wv']) ∧ NewV w.heap.size sv' ∧ Below w.heap.size w w' := by
 obtain ⟨i0, hi0, hz0, hz1, hz2⟩ := info_parts cmd_info
 have HI := Lib.hid hi0
 have HZ0 := Lib.hid hz0
 have HZ1 := Lib.hid hz1
 have HZ2 := Lib.hid hz2
 obtain ⟨i1, hi1, hy0, hy1, hy2⟩ := info_parts num_info
 have HI1 := Lib.hid hi1
 have HY0 := Lib.hid hy0
 have HY1 := Lib.hid hy1
 have HY2 := Lib.hid hy2
 obtain ⟨⟨A, c, rfl, n1, n2, n3, -⟩, ⟨D, d, rfl, m1, m2, m3, -⟩⟩ := LineV.parts hl
 obtain ⟨E, f, rfl, s1, s2, s3⟩ := hs
 have HN := Lib.hid n3
 have HM := Lib.hid m3
 have HS := Lib.hid s3
 have HLEN : Hid (a.sm.length ≤ 400 ∧ a.ns.length ≤ 400 ∧ a.ws.length ≤ 400) := Lib.hid ⟨h1, h2, h3⟩
 clear n3 m3 s3 hl hi0 hz0 hz1 hz2 hi1 hy0 hy1 hy2 h1 h2 h3
 go_enter Tryz.func30, Tryz.ntmps30
 go_upto_region 1 with (fail)
 refine wp_name fun W hW => ?_
 obtain ⟨B, hB⟩ : ∃ B, B = w.heap.size := ⟨_, rfl⟩
 have HC : Hid (CpS w W B (axC a (.slice E a.sm.length f) (.slice A a.ns.length c) (.slice D a.ws.length d))) := by
  refine Lib.hid ⟨?_, ?_, ?_, ?_⟩
  ·rw [hW.out, hB]
   exact heap_alloc2_old w _ _
  ·rw [hW.out, hB]
   exact ⟨_, heap_alloc_atX (by simp), rfl⟩
  ·rw [hW.out, hB]; exact belowBy
  ·rw [hW.out, hB]; simp
 (try rw [← hB])
 have HBw := Lib.hid hB
 clear hW hB
 have g14 : (W.alloc (.cells #[] 63)).cell? ⟨B, 14, none⟩ = some (.slice A a.ns.length c) := (HC.out.below (below_new (Below.refl _ _) (Nat.le_refl _) _)).cell 14 _ rfl
 go_wp2_with (at_builtin; refine wpList_copyL rfl _ _ 29 63 rfl i0 _ 7 56 Tryz.underlying29 HI.out HZ0.out HZ1.out HZ2.out rfl (by decide) W w.heap.size A _ c (cmdsC a.ns) rfl rfl (HN.out.below ?c0) (cmdsC_one _) ?c1 ?c2 ?_)
 case c0 => rw [← HBw.out]; exact (HC.out.below (below_new (Below.refl _ _) (Nat.le_refl _) _)).bel
 case c1 => have := HLEN.out.2.1; unfold maxLen; omega
 case c2 => have := HLEN.out.2.1; omega
 intro A1 c1 w1 hown hb1
 have HC1 := Lib.hid (HC.out.below hb1)
 have HR1 := Lib.hid (ReadC.grown hown HC.out.lt)
 clear hown hb1 g14 HC
 have g14 := HC1.out.cell 14 _ rfl
 have fr := fun j => frozen_of_row w1 B j _ _ HC1.out.blk
 go_upto_region 2 with (fail)
 refine wp_name fun W2 hW2 => ?_
 have HC2 : Hid (CpS w W2 B (axC a (.slice E a.sm.length f) (.slice A1 a.ns.length c1) (.slice D a.ws.length d))) := by
  rw [hW2.out]; exact Lib.hid (HC1.out.set 14 _)
 have HR2 : Hid (ReadC W2 a.ns.length (cmdsC a.ns) (B + 2) (.slice A1 a.ns.length c1)) := by
  rw [hW2.out]; exact Lib.hid (HR1.out.store (by show B < B + 2; omega) _)
 clear hW2 HC1 HR1 g14 fr
 have g15 : (W2.alloc (.cells #[] 63)).cell? ⟨B, 15, none⟩ = some (.slice D a.ws.length d) := (HC2.out.below (below_new (Below.refl _ _) (Nat.le_refl _) _)).cell 15 _ rfl
 go_wp2_with (at_builtin; refine wpList_copyL rfl _ _ 29 63 rfl i0 _ 7 56 Tryz.underlying29 HI.out HZ0.out HZ1.out HZ2.out rfl (by decide) W2 w.heap.size D _ d (cmdsC a.ws) rfl rfl (HM.out.below ?c0) (cmdsC_one _) ?c1 ?c2 ?_)
 case c0 => rw [← HBw.out]; exact (HC2.out.below (below_new (Below.refl _ _) (Nat.le_refl _) _)).bel
 case c1 => have := HLEN.out.2.2; unfold maxLen; omega
 case c2 => have := HLEN.out.2.2; omega
 intro D1 d1 w3 hown hb3
 have HC3 := Lib.hid (HC2.out.below hb3)
 have HR3 := Lib.hid (HR2.out.below hb3)
 have HS3 := Lib.hid (ReadC.grown hown HC2.out.lt)
 clear hown hb3 g15 HC2 HR2
 have g15 := HC3.out.cell 15 _ rfl
 have fr := fun j => frozen_of_row w3 B j _ _ HC3.out.blk
 go_upto_region 3 with (fail)
 refine wp_name fun W4 hW4 => ?_
 have HC4 : Hid (CpS w W4 B (axC a (.slice E a.sm.length f) (.slice A1 a.ns.length c1) (.slice D1 a.ws.length d1))) := by
  rw [hW4.out]; exact Lib.hid (HC3.out.set 15 _)
 have HR4 : Hid (ReadC W4 a.ns.length (cmdsC a.ns) (B + 2) (.slice A1 a.ns.length c1)) := by
  rw [hW4.out]; exact Lib.hid (HR3.out.store (by show B < B + 2; omega) _)
 have HS4 : Hid (ReadC W4 a.ws.length (cmdsC a.ws) (B + 2) (.slice D1 a.ws.length d1)) := by
  rw [hW4.out]; exact Lib.hid (HS3.out.store (by show B < B + 2; omega) _)
 clear hW4 HC3 HR3 HS3 g15 fr
 have g12 : (W4.alloc (.cells #[] 2)).cell? ⟨B, 12, none⟩ = some (.slice E a.sm.length f) := (HC4.out.below (below_new (Below.refl _ _) (Nat.le_refl _) _)).cell 12 _ rfl
 go_wp2_with (at_builtin; refine wpList_copyL rfl _ _ 26 2 rfl i1 _ 1 8 Tryz.underlying26 HI1.out HY0.out HY1.out HY2.out rfl (by decide) W4 w.heap.size E _ f (intsC a.sm) rfl rfl (HS.out.below ?c0) (intsC_oneR _) ?c1 ?c2 ?_)
 case c0 => rw [← HBw.out]; exact (HC4.out.below (below_new (Below.refl _ _) (Nat.le_refl _) _)).bel
 case c1 => have := HLEN.out.1; unfold maxLen; omega
 case c2 => have := HLEN.out.1; omega
 intro E1 f1 w5 hown hb5
 have HC5 := Lib.hid (HC4.out.below hb5)
 have HR5 := Lib.hid (HR4.out.below hb5)
 have HS5 := Lib.hid (HS4.out.below hb5)
 have HT5 := Lib.hid (SmR.of_own hown HC4.out.lt)
 clear hown hb5 g12 HC4 HR4 HS4
 have g12 := HC5.out.cell 12 _ rfl
 have fr := fun j => frozen_of_row w5 B j _ _ HC5.out.blk
 go_upto_region 4 with (fail)
 refine wp_name fun W6 hW6 => ?_
 have HC6 : Hid (CpS w W6 B (axC a (.slice E1 a.sm.length f1) (.slice A1 a.ns.length c1) (.slice D1 a.ws.length d1))) := by
  rw [hW6.out]; exact Lib.hid (HC5.out.set 12 _)
 have HR6 : Hid (ReadC W6 a.ns.length (cmdsC a.ns) (B + 2) (.slice A1 a.ns.length c1)) := by
  rw [hW6.out]; exact Lib.hid (HR5.out.store (by show B < B + 2; omega) _)
 have HS6 : Hid (ReadC W6 a.ws.length (cmdsC a.ws) (B + 2) (.slice D1 a.ws.length d1)) := by
  rw [hW6.out]; exact Lib.hid (HS5.out.store (by show B < B + 2; omega) _)
 have HT6 : Hid (SmR W6 a.sm (B + 2) (.slice E1 a.sm.length f1)) := by
  rw [hW6.out]; exact Lib.hid (HT5.out.store (by show B < B + 2; omega) _)
 clear hW6 HC5 HR5 HS5 HT5 g12 fr
 obtain ⟨zs, hz1, hz2⟩ := HC6.out.res
 have HZB := Lib.hid hz1
 have HZN := Lib.hid hz2
 clear hz1 hz2
 go_wp2_with (first
  | refine wpList_load_row rfl 35 _ rfl B rfl 35 (axC a (.slice E1 a.sm.length f1) (.slice A1 a.ns.length c1) (.slice D1 a.ws.length d1)).toArray (0, 0) _ HC6.out.blk Tryz.underlying35 rfl axis_size ?_
  | refine wpList_store_row rfl 35 _ _ rfl (B + 1) (axC a (.slice E1 a.sm.length f1) (.slice A1 a.ns.length c1) (.slice D1 a.ws.length d1)).toArray rfl rfl 35 _ HZB.out axis_size HZN.out (axC_oneC _ _ _ _ rfl rfl rfl) ?_)
 refine post_row rfl rfl (setRow_heap _ _ _ _ _ _ HZB.out) Tryz.underlying35 rfl axis_size rfl ?_
 have HBW := HBw.out
 refine ⟨_, _, _, rfl, HT6.out.row (by omega), ⟨_, _, rfl, (HR6.out.row (by omega)).base0 (by omega), (HS6.out.row (by omega)).base0 (by omega)⟩, fun b o n c h e => by have := HT6.out.2 b o n c h e; omega, ?_⟩
 rw [← HBW]
 exact below_setRow HC6.out.bel (Nat.le_succ _) _


theorem movesK_all {V lo hi : Int} {xs : List CmdS} : ∀ {n : Nat}, movesK V lo hi xs n = true → ∀ i, i < n → moveF V lo hi i (xs[i]?.getD cmd0) = true
 | 0, _, i, hi => by omega
 | n + 1, h, i, hi => by
  rw [movesK, Bool.and_eq_true] at h
  by_cases he : i = n
  ·rw [he]; exact h.2
  ·exact movesK_all h.1 i (by omega)
theorem movesK_no {V lo hi : Int} {xs : List CmdS} {n k : Nat} (hk : k < n) (h : moveF V lo hi k (xs[k]?.getD cmd0) = false) : movesK V lo hi xs n = false := by
 cases hn : movesK V lo hi xs n
 ·rfl
 ·rw [movesK_all hn k hk] at h
  cases h

set_option maxRecDepth 100000 in
theorem amoves_at (a : AX) (sv nv wv : Value) (r : Bool) (w : World) (hs : sv.oneCell' = true) (hl : LineV w 0 a.ns a.ws (.agg #[nv, wv])) (hn : a.ns.length ≤ 400) (hm : a.ws.length ≤ 400) (hr : movesX a = r) :
  Calls Tryz.prog 57 #[.agg #[.int .i64 a.st, .int .i64 a.l.v, .int .i64 a.l.a, .int .i64 a.l.d, .int .i64 a.l.lo, .int .i64 a.l.hi, .int .i64 a.win, .int .i64 a.hat, .int .i64 a.fast, .int .i64 a.creep, .int .i64 a.g.p, .int .i64 a.g.v, sv, .int .i64 a.off, nv, wv, .bool a.hd, .int .i64 a.h.p, .int .i64 a.h.f, .int .i64 a.h.c, .bool a.h.t, .int .i64 a.ov, .int .i64 a.sta, .int .i64 a.mas, .int .i64 a.cau, .bool a.ins]] w fun e w' => e = .returned (.bool r) ∧ Below w.heap.size w w' := by
 obtain ⟨i0, hi0, hz0, hz1, hz2⟩ := info_parts cmd_info
 have HI := Lib.hid hi0
 have HZ0 := Lib.hid hz0
 have HZ1 := Lib.hid hz1
 have HZ2 := Lib.hid hz2
 obtain ⟨⟨A, c, rfl, h1, -, h3, -⟩, ⟨D, d, rfl, k1, -, k3, -⟩⟩ := LineV.parts hl
 have HX := Lib.hid h3
 have HY := Lib.hid k3
 obtain ⟨ns, hns⟩ : ∃ x, a.ns = x := ⟨_, rfl⟩
 obtain ⟨ws, hws⟩ : ∃ x, a.ws = x := ⟨_, rfl⟩
 obtain ⟨V, hV⟩ : ∃ x, a.l.v = x := ⟨_, rfl⟩
 obtain ⟨bd, hbd⟩ : ∃ x, bndX a = x := ⟨_, rfl⟩
 unfold movesX at hr
 rw [hns, hws, hV, hbd] at hr
 rw [hns] at HX hn h1 ⊢
 rw [hws] at HY hm k1 ⊢
 have HBAD : Hid (∀ (k : Nat) (x : CmdS), (ns ++ ws)[k]? = some x → moveF V bd.lo bd.hi k x = false → r = false) := Lib.hid (fun k x hx hb => by
  rw [← hr]
  exact movesK_no (List.getElem?_eq_some_iff.1 hx).1 (by rw [hx]; exact hb))
 have HALL : Hid (movesK V bd.lo bd.hi (ns ++ ws) (ns ++ ws).length = true → r = true) := Lib.hid (fun hb => by rw [← hr]; exact hb)
 have HNM := Lib.hid (show (ns ++ ws).length = ns.length + ws.length from List.length_append)
 have HCC := Lib.hid (cmdsC_append ns ws)
 obtain ⟨n, hn'⟩ : ∃ n, ns.length = n := ⟨_, rfl⟩
 obtain ⟨m, hm'⟩ : ∃ m, ws.length = m := ⟨_, rfl⟩
 rw [hn'] at HX hn h1 HNM ⊢
 rw [hm'] at HY hm k1 HNM ⊢
 obtain ⟨L, hL⟩ := axL_some a sv (.slice A n c) (.slice D m d)
 have HL := Lib.hid hL
 have HBO : Hid (∀ W, Calls Tryz.prog 20 #[.agg L.toArray] W fun e w' => e = .returned (.agg #[.int .i64 bd.v, .int .i64 bd.a, .int .i64 bd.d, .int .i64 bd.lo, .int .i64 bd.hi]) ∧ Below W.heap.size W w') := Lib.hid (fun W => abounds_L a _ _ _ L bd W hL hbd)
 have HV := Lib.hid hV
 clear h3 k3 hn' hm' hi0 hz0 hz1 hz2 hr hl hns hws hbd hL hV
 go_enter Tryz.func57, Tryz.ntmps57
 go_upto_region 1 with (fail)
 refine wp_name fun W hW => ?_
 obtain ⟨B, hB⟩ : ∃ B, B = w.heap.size := ⟨_, rfl⟩
 have HB : Hid (Below w.heap.size w W) := by rw [hW.out]; exact Lib.hid (by exact belowBy)
 have hlt : B < W.heap.size := by rw [hW.out, hB]; simp
 have HK : Hid (W.heap[B]? = some (.cells L.toArray 35)) := by
  rw [hW.out, hB, HL.out.eq]
  exact Lib.hid (heap_alloc_new _ _)
 (try rw [← hB])
 have HBw := Lib.hid hB
 clear hW hB
 go_wp2_with (first
  | refine wpList_load_row rfl 35 _ rfl B rfl 35 L.toArray (0, 0) _ HK.out Tryz.underlying35 rfl HL.out.size ?_)
 refine (HBO.out _).mono ?_
 rintro e w1 ⟨rfl, hb1⟩
 have HB1 := Lib.hid (HB.out.trans (hb1.mono HB.out.size))
 have HK1 := Lib.hid ((hb1.block B hlt).trans HK.out)
 have hlt1 : B < w1.heap.size := Nat.lt_of_lt_of_le hlt hb1.size
 clear HB HK hb1 hlt
 go_upto_region 2 with (fail)
 refine wp_name fun W2 hW2 => ?_
 obtain ⟨C, hC⟩ : ∃ C, C = w1.heap.size := ⟨_, rfl⟩
 have hbx : Below w1.heap.size w1 W2 := by rw [hW2.out]; exact belowBy
 have HB2 := Lib.hid (HB1.out.trans (hbx.mono HB1.out.size))
 have HK2 := Lib.hid ((hbx.block B hlt1).trans HK1.out)
 have hlt2 : B < W2.heap.size := Nat.lt_of_lt_of_le hlt1 hbx.size
 have hltC : C < W2.heap.size := by rw [hW2.out, hC]; simp
 have HC3 : Hid (W2.cell? ⟨C, 3, none⟩ = some (.int .i64 bd.lo)) := Lib.hid (by rw [hW2.out, hC]; go_simp)
 have HC4 : Hid (W2.cell? ⟨C, 4, none⟩ = some (.int .i64 bd.hi)) := Lib.hid (by rw [hW2.out, hC]; go_simp)
 have HQ1 : Hid (W2.cell? ⟨B, 1, none⟩ = some (.int .i64 V)) := Lib.hid (heap_cell 1 _ HK2.out (by rw [HL.out.eq, ← HV.out]; rfl))
 have q14 : W2.cell? ⟨B, 14, none⟩ = some (.slice A n c) := heap_cell 14 _ HK2.out (by rw [HL.out.eq]; rfl)
 have q15 : W2.cell? ⟨B, 15, none⟩ = some (.slice D m d) := heap_cell 15 _ HK2.out (by rw [HL.out.eq]; rfl)
 have hw2 : w.heap.size ≤ W2.heap.size := HB2.out.size
 (try rw [← hC])
 clear hW2 hC hbx HK1 HB1 hlt1
 go_region_held3 (fun w' => w'.cell? ⟨B, 14, none⟩ = some (.slice A n c) ∧ w'.cell? ⟨B, 15, none⟩ = some (.slice D m d)) (go_keep)
  (first
   | (have o0 := (own_none W2 W2.heap.size W2.heap.size 63 7 rfl (Nat.le_refl _)).drew; refine step_app rfl (.tmp 8) (.tmp 11) 29 rfl W2.heap.size 63 i0 (.agg #[.int .i64 0, .int .i64 0, .int .i64 0, .int .i64 0, .int .i64 0, .int .i64 0, .int .i64 0]) 7 56 Tryz.underlying29 HI.out HZ0.out HZ1.out HZ2.out rfl (by decide) (.slice (some ⟨W2.heap.size, 0, none⟩) 0 0) 0 [] rfl o0 w.heap.size A n c (cmdsC ns) rfl (HX.out.below (HB2.out.trans (Below.mono (by exact belowBy) hw2))) (cmdsC_one _) (by unfold maxLen; omega) (by omega) (by simp) ?_; intro A1 c1 w3 ho1 hg1; simp only [Nat.zero_add, List.nil_append] at ho1 ⊢; (have z1 : W2.heap.size + 1 ≤ w3.heap.size := (by have := hg1.size; simp at this; omega)); (have k0 : w3.cell? ⟨B, 14, none⟩ = some (.slice A n c) := (grown_cell (p := ⟨B, 14, none⟩) o0 hg1 hlt2 (by simp)).trans (by go_simp)); (have k1 : w3.cell? ⟨B, 15, none⟩ = some (.slice D m d) := (grown_cell (p := ⟨B, 15, none⟩) o0 hg1 hlt2 (by simp)).trans (by go_simp)); (have HB3 : Below W2.heap.size W2 w3 := below_grown (by exact belowBy) hg1 o0 (Nat.le_refl _) (by simp)); clear o0 hg1)
   | (refine step_app rfl (.tmp 12) (.tmp 15) 29 rfl W2.heap.size 63 i0 (.agg #[.int .i64 0, .int .i64 0, .int .i64 0, .int .i64 0, .int .i64 0, .int .i64 0, .int .i64 0]) 7 56 Tryz.underlying29 HI.out HZ0.out HZ1.out HZ2.out rfl (by decide) (.slice A1 n c1) n (cmdsC ns) rfl ho1 w.heap.size D m d (cmdsC ws) rfl (HY.out.below (HB2.out.trans (HB3.mono hw2))) (cmdsC_one _) (by unfold maxLen; omega) (by omega) (by omega) ?_; intro A2 c2 w4 ho2 hg2; (have HB4 : Below W2.heap.size W2 w4 := below_grown HB3 hg2 ho1 (Nat.le_refl _) (by omega)); (have k2 : w4.cell? ⟨B, 14, none⟩ = some (.slice A n c) := (grown_cell (p := ⟨B, 14, none⟩) ho1 hg2 hlt2 (by omega)).trans k0); (have k3 : w4.cell? ⟨B, 15, none⟩ = some (.slice D m d) := (grown_cell (p := ⟨B, 15, none⟩) ho1 hg2 hlt2 (by omega)).trans k1)))
 have HR2 : Hid (ReadC w4 (ns ++ ws).length (cmdsC (ns ++ ws)) 0 (.slice A2 (n + m) c2)) := Lib.hid (by
  rw [HCC.out, HNM.out]
  exact (ReadC.of_own ho2).base0 (Nat.zero_le _))
 have HBE := Lib.hid (HB2.out.trans (HB4.mono HB2.out.size))
 have HC1 := Lib.hid ((HB4.cell (p := ⟨B, 1, none⟩) hlt2).trans HQ1.out)
 have HC3' := Lib.hid ((HB4.cell (p := ⟨C, 3, none⟩) hltC).trans HC3.out)
 have HC4' := Lib.hid ((HB4.cell (p := ⟨C, 4, none⟩) hltC).trans HC4.out)
 have hB4 : B < w4.heap.size := Nat.lt_of_lt_of_le hlt2 HB4.size
 have hC4 : C < w4.heap.size := Nat.lt_of_lt_of_le hltC HB4.size
 have hw4 : w.heap.size ≤ w4.heap.size := HBE.out.size
 clear ho1 ho2 hg2 HX HY k0 k1 k2 k3 q14 q15 HB3 HB4 HB2 HK2 HC3 HC4 HQ1 hlt2 hltC hw2 z1
 go_wp2_with fail
 go_loopw [18] (fun u wr => ∃ k : Nat, k ≤ n + m ∧ u = .int .i64 k ∧ Hid (movesK V bd.lo bd.hi (ns ++ ws) k = true) ∧ Below w4.heap.size w4 wr) (fun u _ => n + m - (intOf u).toNat)
 case atStart => exact ⟨0, by omega, rfl, Lib.hid rfl, Below.refl _ _⟩
 case round =>
  obtain ⟨k, hk, rfl, HK, hbr⟩ := hrel
  by_cases hlt : k < n + m
  ·obtain ⟨A', c', e, q1, q2, q3, -⟩ := HR2.out
   injection e with e1 e2 e3
   subst e1 e3
   clear e2
   obtain ⟨b, off, x, e, hb, hxk, hcell⟩ := q3.cmd k (by rw [HNM.out]; exact hlt)
   subst e
   have hsucc : movesK V bd.lo bd.hi (ns ++ ws) (k + 1) = moveF V bd.lo bd.hi k x := by rw [movesK, HK.out, hxk, Bool.true_and]; rfl
   have g0 := (hbr.cell (p := ⟨b, off + k * 7 + 0, none⟩) hb).trans (hcell 0 (by omega))
   have g1 := (hbr.cell (p := ⟨b, off + k * 7 + 1, none⟩) hb).trans (hcell 1 (by omega))
   have g2 := (hbr.cell (p := ⟨b, off + k * 7 + 2, none⟩) hb).trans (hcell 2 (by omega))
   have g3 := (hbr.cell (p := ⟨b, off + k * 7 + 3, none⟩) hb).trans (hcell 3 (by omega))
   have g4 := (hbr.cell (p := ⟨b, off + k * 7 + 4, none⟩) hb).trans (hcell 4 (by omega))
   have g5 := (hbr.cell (p := ⟨b, off + k * 7 + 5, none⟩) hb).trans (hcell 5 (by omega))
   have g6 := (hbr.cell (p := ⟨b, off + k * 7 + 6, none⟩) hb).trans (hcell 6 (by omega))
   have hbad := HBAD.out k x hxk
   obtain ⟨x0, x1, x2, x3, x4, x5, x6⟩ := x
   simp only [CmdS.cells, List.getElem?_cons_zero, List.getElem?_cons_succ, Nat.add_zero] at g0 g1 g2 g3 g4 g5 g6
   simp only [moveF] at hsucc hbad
   have hk0 : (0 : Int) ≤ (k : Int) := by omega
   have hkn : (k : Int) < (n : Int) + (m : Int) := by omega
   have p1 := (hbr.cell (p := ⟨B, 1, none⟩) hB4).trans HC1.out
   have p3 := (hbr.cell (p := ⟨C, 3, none⟩) hC4).trans HC3'.out
   have p4 := (hbr.cell (p := ⟨C, 4, none⟩) hC4).trans HC4'.out
   have hBr : B < wr.heap.size := Nat.lt_of_lt_of_le hB4 hbr.size
   have hCr : C < wr.heap.size := Nat.lt_of_lt_of_le hC4 hbr.size
   have HS := Lib.hid hsucc
   have HBD := Lib.hid hbad
   clear hcell hxk hsucc hbad HBAD HALL q1 q3
   by_cases e1 : x1 = 1
   ·subst e1
    have b1 : ((1 : Int) != 1) = false := rfl
    by_cases e2 : x3 < 1
    ·obtain rfl := HBD.out (decide_eq_false (fun h => by have := h.2.1; omega))
     clear HBD HS
     go_wp2
     go_ret
     exact ⟨rfl, HBE.out.trans (Below.mono (by exact belowBy) hw4)⟩
    by_cases e3 : V < x3
    ·obtain rfl := HBD.out (decide_eq_false (fun h => by have := h.2.2.1; omega))
     clear HBD HS
     go_wp2
     go_ret
     exact ⟨rfl, HBE.out.trans (Below.mono (by exact belowBy) hw4)⟩
    by_cases e4 : x2 < bd.lo
    ·obtain rfl := HBD.out (decide_eq_false (fun h => by have := h.2.2.2.1; omega))
     clear HBD HS
     go_wp2
     go_ret
     exact ⟨rfl, HBE.out.trans (Below.mono (by exact belowBy) hw4)⟩
    by_cases e5 : bd.hi < x2
    ·obtain rfl := HBD.out (decide_eq_false (fun h => by have := h.2.2.2.2.1; omega))
     clear HBD HS
     go_wp2
     go_ret
     exact ⟨rfl, HBE.out.trans (Below.mono (by exact belowBy) hw4)⟩
    by_cases k0 : k = 0
    ·have HN : Hid (movesK V bd.lo bd.hi (ns ++ ws) (k + 1) = true) := Lib.hid (by rw [HS.out]; exact decide_eq_true ⟨rfl, by omega, by omega, by omega, by omega, fun h => by omega⟩)
     have k1 : ¬ (0 : Int) < (k : Int) := by omega
     clear HBD HS k0
     go_wp2
     go_roundw
     case rel => exact ⟨k + 1, by omega, by go_num, HN, by exact belowBy⟩
     case measure => simp [intOf]; omega
    have k1 : (0 : Int) < (k : Int) := by omega
    by_cases e6 : x4 = 0
    ·obtain rfl := HBD.out (decide_eq_false (fun h => h.2.2.2.2.2 (by omega) e6))
     have b6 : (x4 == 0) = true := by simp [e6]
     clear HBD HS
     go_wp2
     go_ret
     exact ⟨rfl, HBE.out.trans (Below.mono (by exact belowBy) hw4)⟩
    have HN : Hid (movesK V bd.lo bd.hi (ns ++ ws) (k + 1) = true) := Lib.hid (by rw [HS.out]; exact decide_eq_true ⟨rfl, by omega, by omega, by omega, by omega, fun _ => e6⟩)
    have b6 : (x4 == 0) = false := by simp [e6]
    clear HBD HS
    go_wp2
    go_roundw
    case rel => exact ⟨k + 1, by omega, by go_num, HN, by exact belowBy⟩
    case measure => simp [intOf]; omega
   ·obtain rfl := HBD.out (decide_eq_false (fun h => e1 h.1))
    have b1 : (x1 != 1) = true := by simp [e1]
    clear HBD HS e1
    go_wp2
    go_ret
    exact ⟨rfl, HBE.out.trans (Below.mono (by exact belowBy) hw4)⟩
  ·obtain rfl : k = n + m := by omega
   have hr := HALL.out (by rw [HNM.out]; exact HK.out)
   subst hr
   have HEND : Hid (Below w.heap.size w wr) := Lib.hid (HBE.out.trans (hbr.mono hw4))
   go_wp2
   go_ret
   exact ⟨rfl, HEND.out⟩

end Go.Proofs.YthhfnageadckkaaGreat
