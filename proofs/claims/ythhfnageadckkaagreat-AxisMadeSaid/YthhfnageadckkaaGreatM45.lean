/- Merged: Layer 15, the reference: is an axis made so? Its bounds; what its drive is told. Layer 15, the reference: what a drive is told; a window full of one place; an axis made. -/
import Derived.Test.YthhfnageadckkaaGreatM44
import Derived.Test.YthhfnageadckkaaGreatM07
import Derived.Laws.AppendOwn
set_option linter.unusedVariables false
set_option linter.unusedSimpArgs false
set_option maxHeartbeats 4000000
namespace Go.Proofs.YthhfnageadckkaaGreat
open Go.RowKit
attribute [local go_sem] ite_max ite_min vite_max vite_min ext_cell ext_frozen

set_option maxRecDepth 100000 in
theorem rmade_at (l : LimS) (win hat fast creep : Int) (r : Bool) (w : World) (hr : madeB l win hat fast creep = r) :
  Calls Tryz.prog 17 #[.agg #[.int .i64 l.v, .int .i64 l.a, .int .i64 l.d, .int .i64 l.lo, .int .i64 l.hi], .int .i64 win, .int .i64 hat, .int .i64 fast, .int .i64 creep] w fun e w' => e = .returned (.bool r) ∧ Below w.heap.size w w' := by
 obtain ⟨q, hq⟩ : ∃ q, rightB l = q := ⟨_, rfl⟩
 obtain ⟨p, hp⟩ : ∃ p, homeB 0 fast creep = p := ⟨_, rfl⟩
 have HR : Hid ((decide (1 ≤ win ∧ win ≤ 16) && q && decide (l.lo ≤ hat ∧ hat ≤ l.hi) && p) = r) := Lib.hid (by rw [← hr, ← hq, ← hp]; rfl)
 have HQ : Hid (rightB ⟨l.v, l.a, l.d, l.lo, l.hi⟩ = q) := Lib.hid hq
 have HP := Lib.hid hp
 clear hr hq hp
 go_enter Tryz.func17, Tryz.ntmps17
 go_upto_region 1 with (fail)
 refine wp_name fun W hW => ?_
 obtain ⟨B, hB⟩ : ∃ B, B = w.heap.size := ⟨_, rfl⟩
 have HB : Hid (Below w.heap.size w W) := by rw [hW.out]; exact Lib.hid (by exact belowBy)
 have HK : Hid (W.heap[B]? = some (.cells #[.int .i64 l.v, .int .i64 l.a, .int .i64 l.d, .int .i64 l.lo, .int .i64 l.hi] 23)) := by
  rw [hW.out, hB]
  exact Lib.hid (heap_alloc_new _ _)
 (try rw [← hB])
 clear hW hB
 have q0 := heap_cell 0 _ HK.out rfl
 have q1 := heap_cell 1 _ HK.out rfl
 have q2 := heap_cell 2 _ HK.out rfl
 have q3 := heap_cell 3 _ HK.out rfl
 have q4 := heap_cell 4 _ HK.out rfl
 go_wp2_with fail
 refine (rright9_at l.v l.a l.d l.lo l.hi _ q HQ.out).mono ?_
 rintro e w1 ⟨rfl, hb1⟩
 have hlt : B < W.heap.size := (Array.getElem?_eq_some_iff.1 HK.out).1
 have HB1 := Lib.hid (HB.out.trans (hb1.mono HB.out.size))
 have HK1 := Lib.hid ((hb1.block B hlt).trans HK.out)
 clear hb1 q0 q1 q2 q3 q4 HK HB hlt
 have q3 : w1.cell? ⟨B, 3, none⟩ = some (.int .i64 l.lo) := heap_cell 3 _ HK1.out rfl
 have q4 : w1.cell? ⟨B, 4, none⟩ = some (.int .i64 l.hi) := heap_cell 4 _ HK1.out rfl
 cases q
 ·obtain rfl : false = r := by rw [← HR.out]; simp
  go_wp2
  go_ret
  exact ⟨rfl, HB1.out⟩
 by_cases e1 : 1 ≤ win
 case neg =>
  obtain rfl : false = r := by rw [← HR.out, decide_eq_false (fun h => e1 h.1)]; rfl
  go_wp2
  go_ret
  exact ⟨rfl, HB1.out⟩
 by_cases e2 : win ≤ 16
 case neg =>
  obtain rfl : false = r := by rw [← HR.out, decide_eq_false (fun h => e2 h.2)]; rfl
  go_wp2
  go_ret
  exact ⟨rfl, HB1.out⟩
 by_cases e3 : l.lo ≤ hat
 case neg =>
  obtain rfl : false = r := by rw [← HR.out, decide_eq_false (fun h : l.lo ≤ hat ∧ hat ≤ l.hi => e3 h.1)]; simp
  go_wp2
  go_ret
  exact ⟨rfl, HB1.out⟩
 by_cases e4 : hat ≤ l.hi
 case neg =>
  obtain rfl : false = r := by rw [← HR.out, decide_eq_false (fun h : l.lo ≤ hat ∧ hat ≤ l.hi => e4 h.2)]; simp
  go_wp2
  go_ret
  exact ⟨rfl, HB1.out⟩
 obtain rfl : p = r := by rw [← HR.out, decide_eq_true ⟨e1, e2⟩, decide_eq_true ⟨e3, e4⟩]; rfl
 go_wp2_with fail
 refine (rhright_at 0 fast creep false _ p HP.out).mono ?_
 rintro e w2 ⟨rfl, hb2⟩
 have HB2 := Lib.hid (HB1.out.trans (hb2.mono HB1.out.size))
 clear hb2
 go_wp2
 go_ret
 exact ⟨rfl, HB2.out⟩

set_option maxRecDepth 100000 in
theorem rbounds_at (a : AX) (sv nv wv : Value) (b : LimS) (w : World) (hb : bndX a = b) :
  Calls Tryz.prog 21 #[.agg #[.int .i64 a.st, .int .i64 a.l.v, .int .i64 a.l.a, .int .i64 a.l.d, .int .i64 a.l.lo, .int .i64 a.l.hi, .int .i64 a.win, .int .i64 a.hat, .int .i64 a.fast, .int .i64 a.creep, .int .i64 a.g.p, .int .i64 a.g.v, sv, .int .i64 a.off, nv, wv, .bool a.hd, .int .i64 a.h.p, .int .i64 a.h.f, .int .i64 a.h.c, .bool a.h.t, .int .i64 a.ov, .int .i64 a.sta, .int .i64 a.mas, .int .i64 a.cau, .bool a.ins]] w fun e w' => e = .returned (.agg #[.int .i64 b.v, .int .i64 b.a, .int .i64 b.d, .int .i64 b.lo, .int .i64 b.hi]) ∧ Below w.heap.size w w' := by
 subst hb
 unfold bndX
 obtain ⟨q, hq⟩ : ∃ q, a.hd = q := ⟨_, rfl⟩
 rw [hq]
 clear hq
 go_enter Tryz.func21, Tryz.ntmps21
 go_upto_region 1 with (fail)
 refine wp_name fun W hW => ?_
 obtain ⟨B, hB⟩ : ∃ B, B = w.heap.size := ⟨_, rfl⟩
 have hbel : Below w.heap.size w W := by rw [hW.out]; exact belowBy
 have hsz : W.heap.size = B + 2 := by rw [hW.out, hB]; simp
 have c1 : W.cell? ⟨B, 1, none⟩ = some (.int .i64 a.l.v) := by rw [hW.out, hB]; go_simp
 have c2 : W.cell? ⟨B, 2, none⟩ = some (.int .i64 a.l.a) := by rw [hW.out, hB]; go_simp
 have c3 : W.cell? ⟨B, 3, none⟩ = some (.int .i64 a.l.d) := by rw [hW.out, hB]; go_simp
 have c4 : W.cell? ⟨B, 4, none⟩ = some (.int .i64 a.l.lo) := by rw [hW.out, hB]; go_simp
 have c5 : W.cell? ⟨B, 5, none⟩ = some (.int .i64 a.l.hi) := by rw [hW.out, hB]; go_simp
 have c16 : W.cell? ⟨B, 16, none⟩ = some (.bool q) := by rw [hW.out, hB]; go_simp
 have r0 : W.cell? ⟨B + 1, 0, none⟩ = some (.int .i64 0) := by rw [hW.out, hB]; go_simp
 have r1 : W.cell? ⟨B + 1, 1, none⟩ = some (.int .i64 0) := by rw [hW.out, hB]; go_simp
 have r2 : W.cell? ⟨B + 1, 2, none⟩ = some (.int .i64 0) := by rw [hW.out, hB]; go_simp
 have r3 : W.cell? ⟨B + 1, 3, none⟩ = some (.int .i64 0) := by rw [hW.out, hB]; go_simp
 have r4 : W.cell? ⟨B + 1, 4, none⟩ = some (.int .i64 0) := by rw [hW.out, hB]; go_simp
 have rf : ∀ o, W.frozen? ⟨B + 1, o, none⟩ = false := fun o => by rw [hW.out, hB]; go_simp
 have HB := Lib.hid hbel
 have hlB : w.heap.size ≤ B := by omega
 (try rw [← hB])
 clear hW hbel hB
 cases q
 ·go_wp2
  refine bodyPost_ret (v := .agg #[.int .i64 a.l.v, .int .i64 a.l.a, .int .i64 a.l.d, .int .i64 (-1099511627776), .int .i64 1099511627776]) (by simp [results, Tryz.results21, go_sem, r0, r1, r2, r3, r4, rf, hsz]) rfl ⟨rfl, ?_⟩
  have hlw := HB.out.size
  have := HB.out
  exact belowBy
 ·go_wp2
  refine bodyPost_ret (v := .agg #[.int .i64 a.l.v, .int .i64 a.l.a, .int .i64 a.l.d, .int .i64 a.l.lo, .int .i64 a.l.hi]) (by simp [results, Tryz.results21, go_sem, r0, r1, r2, r3, r4, rf, hsz]) rfl ⟨rfl, ?_⟩
  have hlw := HB.out.size
  have := HB.out
  exact belowBy


set_option maxRecDepth 100000 in
theorem rout15_at (a : AX) (sv nv wv : Value) (x : Int) (w : World) (h : AxR w a sv nv wv) (hx : outX a = x) :
  Calls Tryz.prog 23 #[.agg #[.int .i64 a.st, .int .i64 a.l.v, .int .i64 a.l.a, .int .i64 a.l.d, .int .i64 a.l.lo, .int .i64 a.l.hi, .int .i64 a.win, .int .i64 a.hat, .int .i64 a.fast, .int .i64 a.creep, .int .i64 a.g.p, .int .i64 a.g.v, sv, .int .i64 a.off, nv, wv, .bool a.hd, .int .i64 a.h.p, .int .i64 a.h.f, .int .i64 a.h.c, .bool a.h.t, .int .i64 a.ov, .int .i64 a.sta, .int .i64 a.mas, .int .i64 a.cau, .bool a.ins]] w fun e w' => e = .returned (.int .i64 x) ∧ Below w.heap.size w w' := by
 have hi := h.inv
 have hy := rightW_yes hi.smr
 have hw := hi.win
 have ho := hi.off
 have hwo := win_off (win := a.win) (off := a.off) ⟨by omega, by omega⟩ ho
 obtain ⟨b, off, c, rfl, h1, h2, h3, h4⟩ := h.v.sm.at (by omega)
 have HBD : Hid (∀ k, k ≤ a.sm.length → -2199023255552 * (k : Int) ≤ sumK a.sm k ∧ sumK a.sm k ≤ 2199023255552 * (k : Int)) := Lib.hid (fun k hk => sumK_bd a.sm a.sm.length k hy.2.2 hk)
 have HZ : Hid (∀ k, k < a.sm.length → -2199023255552 ≤ a.sm[k]?.getD 0 ∧ a.sm[k]?.getD 0 ≤ 2199023255552) := Lib.hid (fun k hk => hy.2.2 k hk)
 have HC := Lib.hid h4
 have hn16 := hy.2.1
 unfold outX at hx
 obtain ⟨zs, hzs⟩ : ∃ zs, a.sm = zs := ⟨_, rfl⟩
 rw [hzs] at HBD HZ HC h1 hn16 hx ⊢
 obtain ⟨n, hn⟩ : ∃ n, zs.length = n := ⟨_, rfl⟩
 rw [hn] at HBD HZ HC h1 hn16 hx ⊢
 obtain ⟨M, hM⟩ : ∃ M, a.win * a.off = M := ⟨_, rfl⟩
 rw [hM] at hx hwo
 have hw1 : IntKind.i64.wrap (a.win * a.off) = M := by rw [hM]; exact IntWalk.i64_in _ (by omega)
 have hsn := HBD.out n (Nat.le_refl _)
 have hw2 : IntKind.i64.wrap (sumK zs n + M) = x := by rw [hx]; exact IntWalk.i64_in _ (by omega)
 have HW2 := Lib.hid hw2
 clear h hi hy hw ho hwo h4 hzs hn hM hx hsn hw2
 go_enter Tryz.func23, Tryz.ntmps23
 go_wp2_with fail
 go_loopw [3, 4] (fun r3 r4 wr => ∃ k : Nat, k ≤ n ∧ r3 = .int .i64 (sumK zs k) ∧ r4 = .int .i64 k ∧ wr = w.alloc (.cells #[.int .i64 a.st, .int .i64 a.l.v, .int .i64 a.l.a, .int .i64 a.l.d, .int .i64 a.l.lo, .int .i64 a.l.hi, .int .i64 a.win, .int .i64 a.hat, .int .i64 a.fast, .int .i64 a.creep, .int .i64 a.g.p, .int .i64 a.g.v, .slice (some ⟨b, off, none⟩) n c, .int .i64 a.off, nv, wv, .bool a.hd, .int .i64 a.h.p, .int .i64 a.h.f, .int .i64 a.h.c, .bool a.h.t, .int .i64 a.ov, .int .i64 a.sta, .int .i64 a.mas, .int .i64 a.cau, .bool a.ins] 35)) (fun _ r4 _ => n - (intOf r4).toNat)
 case atStart => exact ⟨0, by omega, rfl, rfl, rfl⟩
 case round =>
  obtain ⟨k, hk, rfl, rfl, rfl⟩ := hrel
  by_cases hlt : k < n
  ·have hcell := HC.out k hlt
   have hz := HZ.out k hlt
   have hs := HBD.out k (by omega)
   have hsucc : sumK zs (k + 1) = sumK zs k + zs[k]?.getD 0 := rfl
   obtain ⟨z, hz0⟩ : ∃ z, zs[k]?.getD 0 = z := ⟨_, rfl⟩
   obtain ⟨S, hS⟩ : ∃ S, sumK zs k = S := ⟨_, rfl⟩
   rw [hz0] at hcell hz hsucc
   rw [hS] at hs hsucc ⊢
   have hwr : IntKind.i64.wrap (S + z) = S + z := IntWalk.i64_in _ (by omega)
   have HSU := Lib.hid hsucc
   have hk0 : (0 : Int) ≤ (k : Int) := by omega
   have hkn : (k : Int) < (n : Int) := by omega
   clear hz hs hsucc hz0 hS
   go_wp2
   go_roundw
   case rel => exact ⟨k + 1, by omega, by rw [HSU.out], by go_num, trivial⟩
   case measure => simp [intOf]; omega
  ·obtain rfl : n = k := by omega
   obtain ⟨S, hS⟩ : ∃ S, sumK zs n = S := ⟨_, rfl⟩
   have hw2 := HW2.out
   rw [hS] at hw2 ⊢
   clear hS
   go_wp2
   go_ret
   exact ⟨rfl, by exact belowBy⟩

end Go.Proofs.YthhfnageadckkaaGreat
