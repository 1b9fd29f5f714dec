/- Layer 21: the product of two numbers is folded; the laws are awake. -/
import Derived.Test.YtahjijdadifkaaaDoorM11
import Derived.Test.YtahjijdadifkaaaDoorM00
namespace Go.Proofs.YtahjijdadifkaaaDoor
open Go.RowKit
set_option linter.unusedVariables false
set_option linter.unusedSimpArgs false
attribute [local go_sem] ite_max ite_min vite_max vite_min ext_cell ext_frozen

def leafC (k : Int) : List Value := [.int .i64 1, .int .i64 k, .string ⟨#[]⟩, .string ⟨#[]⟩, .slice none 0 0, .int .i64 0]
def leafs (a b : Int) (k : Nat) : List Value := match k with | 0 => [] | 1 => leafC a | _ => leafC a ++ leafC b
def numC (a b : Int) (k : Nat) : List Value := match k with | 0 => [] | 1 => [.int .i64 a] | _ => [.int .i64 a, .int .i64 b]
theorem leafC_one (k : Int) : ∀ u ∈ leafC k, u.oneCell' = true := by
 intro u hu
 simp only [leafC, List.mem_cons, List.not_mem_nil, or_false] at hu
 rcases hu with rfl | rfl | rfl | rfl | rfl | rfl <;> rfl
theorem expr_info : (Tryd.prog.info? 28).map (fun i => (i.zero, i.size, i.bytes)) = some (some (.agg #[.int .i64 0, .int .i64 0, .string ⟨#[]⟩, .string ⟨#[]⟩, .slice none 0 0, .int .i64 0]), 6, 80) := by kernel_rfl

set_option maxRecDepth 100000 in
set_option maxHeartbeats 2000000 in
theorem fexpr_mul (q : Nat) (w : World) (hq : q < w.heap.size) (hc : ∀ j u, (leafs 2 3 2)[j]? = some u → w.cell? ⟨q, j, none⟩ = some u) :
  Calls Tryd.prog 11 #[.agg #[.int .i64 10, .int .i64 0, .string ⟨#[]⟩, .string ⟨#[]⟩, .slice (some ⟨q, 0, none⟩) 2 2, .int .i64 0]] w fun e w' => (∃ s1 s2 : ByteArray, e = .returned (.agg #[.int .i64 1, .int .i64 6, .string s1, .string s2, .slice none 0 0, .int .i64 0])) ∧ Below w.heap.size w w' := by
 obtain ⟨i0, hi0, hz0, hz1, hz2⟩ := info_parts expr_info
 have HI := Lib.hid hi0
 have HZ0 := Lib.hid hz0
 have HZ1 := Lib.hid hz1
 have HZ2 := Lib.hid hz2
 have HC := Lib.hid hc
 clear hi0 hz0 hz1 hz2 hc
 go_enter Tryd.func11, Tryd.ntmps11
 go_wp2_with fail
 refine wp_name fun W hW => ?_
 have c0 : W.cell? ⟨w.heap.size, 0, none⟩ = some (.int .i64 10) := by rw [hW.out]; go_simp
 have c1 : W.cell? ⟨w.heap.size, 1, none⟩ = some (.int .i64 0) := by rw [hW.out]; go_simp
 have c2 : W.cell? ⟨w.heap.size, 2, none⟩ = some (.string ⟨#[]⟩) := by rw [hW.out]; go_simp
 have c3 : W.cell? ⟨w.heap.size, 3, none⟩ = some (.string ⟨#[]⟩) := by rw [hW.out]; go_simp
 have c4 : W.cell? ⟨w.heap.size, 4, none⟩ = some (.slice (some ⟨q, 0, none⟩) 2 2) := by rw [hW.out]; go_simp
 have c5 : W.cell? ⟨w.heap.size, 5, none⟩ = some (.int .i64 0) := by rw [hW.out]; go_simp
 have cf : ∀ o, W.frozen? ⟨w.heap.size, o, none⟩ = false := fun o => by rw [hW.out]; go_simp
 have r0 : W.cell? ⟨w.heap.size + 1, 0, none⟩ = some (.int .i64 0) := by rw [hW.out]; go_simp
 have r1 : W.cell? ⟨w.heap.size + 1, 1, none⟩ = some (.int .i64 0) := by rw [hW.out]; go_simp
 have r2 : W.cell? ⟨w.heap.size + 1, 2, none⟩ = some (.string ⟨#[]⟩) := by rw [hW.out]; go_simp
 have r3 : W.cell? ⟨w.heap.size + 1, 3, none⟩ = some (.string ⟨#[]⟩) := by rw [hW.out]; go_simp
 have r4 : W.cell? ⟨w.heap.size + 1, 4, none⟩ = some (.slice none 0 0) := by rw [hW.out]; go_simp
 have r5 : W.cell? ⟨w.heap.size + 1, 5, none⟩ = some (.int .i64 0) := by rw [hW.out]; go_simp
 have rf : ∀ o, W.frozen? ⟨w.heap.size + 1, o, none⟩ = false := fun o => by rw [hW.out]; go_simp
 have hWs : W.heap.size = w.heap.size + 2 := by rw [hW.out]; simp
 have hB : Below w.heap.size w W := by rw [hW.out]; exact belowBy
 have HCW : Hid (∀ j u, (leafs 2 3 2)[j]? = some u → W.cell? ⟨q, j, none⟩ = some u) := Lib.hid (fun j u hu => (hB.cell (p := ⟨q, j, none⟩) hq).trans (HC.out j u hu))
 clear hW
 go_loopw [3, 22] (fun v u wr => ∃ (k : Nat) (v' : Value), v' = v ∧ k ≤ 2 ∧ u = .int .i64 k ∧ Hid (wr.ownsRow (w.heap.size + 2) 28 6 v' k (leafs 2 3 k)) ∧ Below W.heap.size W wr) (fun _ u _ => 2 - (intOf u).toNat)
 case atStart => exact ⟨0, _, rfl, by omega, rfl, Lib.hid (World.ownsRow_nil _ _ _ _), Below.refl _ _⟩
 case round =>
  obtain ⟨k, v', rfl, hk, rfl, HO, hbr⟩ := hrel
  have hbs := hbr.size
  rcases (show k = 0 ∨ k = 1 ∨ k = 2 by omega) with rfl | rfl | rfl
  ·have g0 : wr.cell? ⟨q, 0, none⟩ = some (.int .i64 1) := (hbr.cell (p := ⟨q, 0, none⟩) (by simp; omega)).trans (HCW.out 0 _ rfl)
   have g1 : wr.cell? ⟨q, 1, none⟩ = some (.int .i64 2) := (hbr.cell (p := ⟨q, 1, none⟩) (by simp; omega)).trans (HCW.out 1 _ rfl)
   have g2 : wr.cell? ⟨q, 2, none⟩ = some (.string ⟨#[]⟩) := (hbr.cell (p := ⟨q, 2, none⟩) (by simp; omega)).trans (HCW.out 2 _ rfl)
   have g3 : wr.cell? ⟨q, 3, none⟩ = some (.string ⟨#[]⟩) := (hbr.cell (p := ⟨q, 3, none⟩) (by simp; omega)).trans (HCW.out 3 _ rfl)
   have g4 : wr.cell? ⟨q, 4, none⟩ = some (.slice none 0 0) := (hbr.cell (p := ⟨q, 4, none⟩) (by simp; omega)).trans (HCW.out 4 _ rfl)
   have g5 : wr.cell? ⟨q, 5, none⟩ = some (.int .i64 0) := (hbr.cell (p := ⟨q, 5, none⟩) (by simp; omega)).trans (HCW.out 5 _ rfl)
   go_wp2_with fail
   refine (fexpr_leaf 2 0 ⟨#[]⟩ ⟨#[]⟩ _).mono ?_
   rintro e w1 ⟨rfl, hb1⟩
   have hb1s : wr.heap.size + 1 ≤ w1.heap.size := by have := hb1.size; simp at this; omega
   have hB1 : Below wr.heap.size wr w1 := by exact belowBy
   have HO1 := Lib.hid (owns_below HO.out hB1)
   clear g0 g1 g2 g3 g4 g5 hb1
   go_wp2_with (at_builtin; refine wpList_append_own _ rfl _ _ 26 rfl (w.heap.size + 2) 28 i0 (.agg #[.int .i64 0, .int .i64 0, .string ⟨#[]⟩, .string ⟨#[]⟩, .slice none 0 0, .int .i64 0]) 6 80 Tryd.underlying26 HI.out HZ0.out HZ1.out HZ2.out rfl (by decide) _ 0 _ rfl (HO1.out.alloc _) ⟨w1.heap.size, 0, none⟩ 1 1 (leafC 2) rfl rfl ?c4 (leafC_one _) ?c1 ?c2 ?c3 ?_)
   case c4 =>
    intro j u hu
    have had : (⟨w1.heap.size, 0, none⟩ : Addr).add j = ⟨w1.heap.size, j, none⟩ := by cases j <;> simp [Addr.add]
    rw [had]
    exact heap_cell j _ (heap_alloc_new w1 _) (by rw [List.getElem?_toArray]; exact hu)
   case c1 => unfold maxLen; omega
   case c2 => omega
   case c3 => first | omega | (simp; omega)
   intro v2 w2 hown2 hgrow _
   have HO2 : Hid (w2.ownsRow (w.heap.size + 2) 28 6 v2 1 (leafs 2 3 1)) := Lib.hid hown2
   have hb2 : Below W.heap.size W w2 := below_grown (below_new (hbr.trans (hB1.mono hbr.size)) (Nat.le_refl _) _) hgrow (HO1.out.alloc _) (by omega) (by simp; omega)
   clear hown2 hgrow HO HO1
   go_wp2
   go_roundw
   case rel => exact ⟨1, _, rfl, by omega, by go_num, HO2, hb2⟩
   case measure => simp [intOf]
  ·have g0 : wr.cell? ⟨q, 6, none⟩ = some (.int .i64 1) := (hbr.cell (p := ⟨q, 6, none⟩) (by simp; omega)).trans (HCW.out 6 _ rfl)
   have g1 : wr.cell? ⟨q, 7, none⟩ = some (.int .i64 3) := (hbr.cell (p := ⟨q, 7, none⟩) (by simp; omega)).trans (HCW.out 7 _ rfl)
   have g2 : wr.cell? ⟨q, 8, none⟩ = some (.string ⟨#[]⟩) := (hbr.cell (p := ⟨q, 8, none⟩) (by simp; omega)).trans (HCW.out 8 _ rfl)
   have g3 : wr.cell? ⟨q, 9, none⟩ = some (.string ⟨#[]⟩) := (hbr.cell (p := ⟨q, 9, none⟩) (by simp; omega)).trans (HCW.out 9 _ rfl)
   have g4 : wr.cell? ⟨q, 10, none⟩ = some (.slice none 0 0) := (hbr.cell (p := ⟨q, 10, none⟩) (by simp; omega)).trans (HCW.out 10 _ rfl)
   have g5 : wr.cell? ⟨q, 11, none⟩ = some (.int .i64 0) := (hbr.cell (p := ⟨q, 11, none⟩) (by simp; omega)).trans (HCW.out 11 _ rfl)
   go_wp2_with fail
   refine (fexpr_leaf 3 0 ⟨#[]⟩ ⟨#[]⟩ _).mono ?_
   rintro e w1 ⟨rfl, hb1⟩
   have hb1s : wr.heap.size + 1 ≤ w1.heap.size := by have := hb1.size; simp at this; omega
   have hB1 : Below wr.heap.size wr w1 := by exact belowBy
   have HO1 := Lib.hid (owns_below HO.out hB1)
   clear g0 g1 g2 g3 g4 g5 hb1
   go_wp2_with (at_builtin; refine wpList_append_own _ rfl _ _ 26 rfl (w.heap.size + 2) 28 i0 (.agg #[.int .i64 0, .int .i64 0, .string ⟨#[]⟩, .string ⟨#[]⟩, .slice none 0 0, .int .i64 0]) 6 80 Tryd.underlying26 HI.out HZ0.out HZ1.out HZ2.out rfl (by decide) _ 1 _ rfl (HO1.out.alloc _) ⟨w1.heap.size, 0, none⟩ 1 1 (leafC 3) rfl rfl ?c4 (leafC_one _) ?c1 ?c2 ?c3 ?_)
   case c4 =>
    intro j u hu
    have had : (⟨w1.heap.size, 0, none⟩ : Addr).add j = ⟨w1.heap.size, j, none⟩ := by cases j <;> simp [Addr.add]
    rw [had]
    exact heap_cell j _ (heap_alloc_new w1 _) (by rw [List.getElem?_toArray]; exact hu)
   case c1 => unfold maxLen; omega
   case c2 => omega
   case c3 => first | omega | (simp; omega)
   intro v2 w2 hown2 hgrow _
   have HO2 : Hid (w2.ownsRow (w.heap.size + 2) 28 6 v2 2 (leafs 2 3 2)) := Lib.hid hown2
   have hb2 : Below W.heap.size W w2 := below_grown (below_new (hbr.trans (hB1.mono hbr.size)) (Nat.le_refl _) _) hgrow (HO1.out.alloc _) (by omega) (by simp; omega)
   clear hown2 hgrow HO HO1
   go_wp2
   go_roundw
   case rel => exact ⟨2, _, rfl, by omega, by go_num, HO2, hb2⟩
   case measure => simp [intOf]
  ·obtain ⟨gS, cS, hv, hgS1, hgS2⟩ := HO.out.form (by omega)
   subst hv
   have HS := Lib.hid (fun j u (hu : (leafs 2 3 2)[j]? = some u) => (HO.out.cells (g := gS) rfl j u hu))
   have d0 := (hbr.cell (p := ⟨w.heap.size, 0, none⟩) (by simp; omega)).trans c0
   have d1 := (hbr.cell (p := ⟨w.heap.size, 1, none⟩) (by simp; omega)).trans c1
   have d2 := (hbr.cell (p := ⟨w.heap.size, 2, none⟩) (by simp; omega)).trans c2
   have d3 := (hbr.cell (p := ⟨w.heap.size, 3, none⟩) (by simp; omega)).trans c3
   have d4 := (hbr.cell (p := ⟨w.heap.size, 4, none⟩) (by simp; omega)).trans c4
   have d5 := (hbr.cell (p := ⟨w.heap.size, 5, none⟩) (by simp; omega)).trans c5
   have df : ∀ o, wr.frozen? ⟨w.heap.size, o, none⟩ = false := fun o => (hbr.frozen (p := ⟨w.heap.size, o, none⟩) (by simp; omega)).trans (cf o)
   go_upto_region 8 with (fail)
   refine wp_name fun W1 hW1 => ?_
   have e0 : W1.cell? ⟨w.heap.size, 0, none⟩ = some (.int .i64 10) := by rw [hW1.out]; go_simp
   have e1 : W1.cell? ⟨w.heap.size, 1, none⟩ = some (.int .i64 0) := by rw [hW1.out]; go_simp
   have e2 : W1.cell? ⟨w.heap.size, 2, none⟩ = some (.string ⟨#[]⟩) := by rw [hW1.out]; go_simp
   have e3 : W1.cell? ⟨w.heap.size, 3, none⟩ = some (.string ⟨#[]⟩) := by rw [hW1.out]; go_simp
   have e4 : W1.cell? ⟨w.heap.size, 4, none⟩ = some (.slice (some ⟨gS, 0, none⟩) 2 cS) := by rw [hW1.out]; go_simp
   have e5 : W1.cell? ⟨w.heap.size, 5, none⟩ = some (.int .i64 0) := by rw [hW1.out]; go_simp
   have p0 := (hbr.cell (p := ⟨w.heap.size + 1, 0, none⟩) (by simp; omega)).trans r0
   have p1 := (hbr.cell (p := ⟨w.heap.size + 1, 1, none⟩) (by simp; omega)).trans r1
   have p2 := (hbr.cell (p := ⟨w.heap.size + 1, 2, none⟩) (by simp; omega)).trans r2
   have p3 := (hbr.cell (p := ⟨w.heap.size + 1, 3, none⟩) (by simp; omega)).trans r3
   have p4 := (hbr.cell (p := ⟨w.heap.size + 1, 4, none⟩) (by simp; omega)).trans r4
   have p5 := (hbr.cell (p := ⟨w.heap.size + 1, 5, none⟩) (by simp; omega)).trans r5
   have pf : ∀ o, wr.frozen? ⟨w.heap.size + 1, o, none⟩ = false := fun o => (hbr.frozen (p := ⟨w.heap.size + 1, o, none⟩) (by simp; omega)).trans (rf o)
   have n0 : W1.cell? ⟨w.heap.size + 1, 0, none⟩ = some (.int .i64 0) := by rw [hW1.out]; go_simp
   have n1 : W1.cell? ⟨w.heap.size + 1, 1, none⟩ = some (.int .i64 0) := by rw [hW1.out]; go_simp
   have n2 : W1.cell? ⟨w.heap.size + 1, 2, none⟩ = some (.string ⟨#[]⟩) := by rw [hW1.out]; go_simp
   have n3 : W1.cell? ⟨w.heap.size + 1, 3, none⟩ = some (.string ⟨#[]⟩) := by rw [hW1.out]; go_simp
   have n4 : W1.cell? ⟨w.heap.size + 1, 4, none⟩ = some (.slice none 0 0) := by rw [hW1.out]; go_simp
   have n5 : W1.cell? ⟨w.heap.size + 1, 5, none⟩ = some (.int .i64 0) := by rw [hW1.out]; go_simp
   have nf : ∀ o, W1.frozen? ⟨w.heap.size + 1, o, none⟩ = false := fun o => by rw [hW1.out]; go_simp
   have hz1 : W1.heap.size = wr.heap.size := by rw [hW1.out]; simp [World.setCell]
   have HB1 : Hid (Below w.heap.size w W1) := Lib.hid (by rw [hW1.out]; have := hB.trans (hbr.mono hB.size); exact belowBy)
   have HS1 : Hid (∀ j u, (leafs 2 3 2)[j]? = some u → W1.cell? ⟨gS, j, none⟩ = some u) := Lib.hid (fun j u hu => by
    have had : (⟨gS, 0, none⟩ : Addr).add j = ⟨gS, j, none⟩ := by cases j <;> simp [Addr.add]
    have := HS.out j u hu
    rw [had] at this
    rw [hW1.out, World.cell?_setCell_other _ _ _ _ (fun he => by injection he with h1 h2; omega)]
    exact this)
   have hgS1 : gS < W1.heap.size := by omega
   clear hW1 HS HO d0 d1 d2 d3 d4 d5 p0 p1 p2 p3 p4 p5 df pf c0 c1 c2 c3 c4 c5 r0 r1 r2 r3 r4 r5 cf rf
   go_wp2_with fail
   refine (fconst_mul 0 0 ⟨#[]⟩ ⟨#[]⟩ _ 2 cS _).mono ?_
   rintro e W2 ⟨rfl, hb2⟩
   have hz2 := hb2.size
   have lb : w.heap.size + 1 < W1.heap.size := by omega
   have lb0 : w.heap.size < W1.heap.size := by omega
   have x0 := (hb2.cell (p := ⟨w.heap.size, 0, none⟩) lb0).trans e0
   have x5 := (hb2.cell (p := ⟨w.heap.size, 5, none⟩) lb0).trans e5
   have m0 := (hb2.cell (p := ⟨w.heap.size + 1, 0, none⟩) lb).trans n0
   have m1 := (hb2.cell (p := ⟨w.heap.size + 1, 1, none⟩) lb).trans n1
   have m2 := (hb2.cell (p := ⟨w.heap.size + 1, 2, none⟩) lb).trans n2
   have m3 := (hb2.cell (p := ⟨w.heap.size + 1, 3, none⟩) lb).trans n3
   have m4 := (hb2.cell (p := ⟨w.heap.size + 1, 4, none⟩) lb).trans n4
   have m5 := (hb2.cell (p := ⟨w.heap.size + 1, 5, none⟩) lb).trans n5
   have mf : ∀ o, W2.frozen? ⟨w.heap.size + 1, o, none⟩ = false := fun o => (hb2.frozen (p := ⟨w.heap.size + 1, o, none⟩) lb).trans (nf o)
   have HB2 := Lib.hid (HB1.out.trans (hb2.mono HB1.out.size))
   have HS2 : Hid (∀ j u, (leafs 2 3 2)[j]? = some u → W2.cell? ⟨gS, j, none⟩ = some u) := Lib.hid (fun j u hu => (hb2.cell (p := ⟨gS, j, none⟩) hgS1).trans (HS1.out j u hu))
   have hgS : gS < W2.heap.size := by omega
   clear e0 e1 e2 e3 e4 e5 n0 n1 n2 n3 n4 n5 nf HS1 hb2
   have hinf : (Tryd.prog.info? 2).map (fun i => (i.zero, i.size, i.bytes)) = some (some (.int .i64 0), 1, 8) := by kernel_rfl
   obtain ⟨j0, hj0, jz0, jz1, jz2⟩ := info_parts hinf
   have JI := Lib.hid hj0
   have JZ0 := Lib.hid jz0
   have JZ1 := Lib.hid jz1
   have JZ2 := Lib.hid jz2
   clear hinf hj0 jz0 jz1 jz2
   go_wp2_with fail
   go_loopw [9, 10, 48] (fun v s u wr2 => ∃ (k : Nat) (v' : Value), v' = v ∧ k ≤ 2 ∧ s = .int .i64 0 ∧ u = .int .i64 k ∧ Hid (wr2.ownsRow W2.heap.size 2 1 v' k (numC 2 3 k)) ∧ Below W2.heap.size W2 wr2) (fun _ _ u _ => 2 - (intOf u).toNat)
   case atStart => exact ⟨0, _, rfl, by omega, rfl, rfl, Lib.hid (World.ownsRow_nil _ _ _ _), Below.refl _ _⟩
   case round =>
    obtain ⟨k, v', rfl, hk, rfl, rfl, HO2, hbr2⟩ := hrel
    have hbs2 := hbr2.size
    rcases (show k = 0 ∨ k = 1 ∨ k = 2 by omega) with rfl | rfl | rfl
    ·have g0 : wr.cell? ⟨gS, 0, none⟩ = some (.int .i64 1) := (hbr2.cell (p := ⟨gS, 0, none⟩) hgS).trans (HS2.out 0 _ rfl)
     have g1 : wr.cell? ⟨gS, 1, none⟩ = some (.int .i64 2) := (hbr2.cell (p := ⟨gS, 1, none⟩) hgS).trans (HS2.out 1 _ rfl)
     have g2 : wr.cell? ⟨gS, 2, none⟩ = some (.string ⟨#[]⟩) := (hbr2.cell (p := ⟨gS, 2, none⟩) hgS).trans (HS2.out 2 _ rfl)
     have g3 : wr.cell? ⟨gS, 3, none⟩ = some (.string ⟨#[]⟩) := (hbr2.cell (p := ⟨gS, 3, none⟩) hgS).trans (HS2.out 3 _ rfl)
     have g4 : wr.cell? ⟨gS, 4, none⟩ = some (.slice none 0 0) := (hbr2.cell (p := ⟨gS, 4, none⟩) hgS).trans (HS2.out 4 _ rfl)
     have g5 : wr.cell? ⟨gS, 5, none⟩ = some (.int .i64 0) := (hbr2.cell (p := ⟨gS, 5, none⟩) hgS).trans (HS2.out 5 _ rfl)
     go_wp2_with fail
     refine (fconst_leaf 2 0 ⟨#[]⟩ ⟨#[]⟩ _).mono ?_
     rintro e w1 ⟨rfl, hb1⟩
     have hb1s : wr.heap.size + 1 ≤ w1.heap.size := by have := hb1.size; simp at this; omega
     have hB1 : Below wr.heap.size wr w1 := by exact belowBy
     have HO1 := Lib.hid (owns_below HO2.out hB1)
     clear g0 g1 g2 g3 g4 g5 hb1
     go_wp2_with (at_builtin; refine wpList_append_own _ rfl _ _ 42 rfl W2.heap.size 2 j0 (.int .i64 0) 1 8 Tryd.underlying42 JI.out JZ0.out JZ1.out JZ2.out rfl (by decide) _ 0 _ rfl (HO1.out.alloc _) ⟨w1.heap.size, 0, none⟩ 1 1 [.int .i64 2] rfl rfl ?c4 (one_cell _ rfl) ?c1 ?c2 ?c3 ?_)
     case c4 =>
      intro j u hu
      have had : (⟨w1.heap.size, 0, none⟩ : Addr).add j = ⟨w1.heap.size, j, none⟩ := by cases j <;> simp [Addr.add]
      rw [had]
      exact heap_cell j _ (heap_alloc_new w1 _) (by rw [List.getElem?_toArray]; exact hu)
     case c1 => unfold maxLen; omega
     case c2 => omega
     case c3 => first | omega | (simp; omega)
     intro v2 w2 hown2 hgrow _
     have HO3 : Hid (w2.ownsRow W2.heap.size 2 1 v2 1 (numC 2 3 1)) := Lib.hid hown2
     have hb2 : Below W2.heap.size W2 w2 := below_grown (below_new (hbr2.trans (hB1.mono hbr2.size)) (Nat.le_refl _) _) hgrow (HO1.out.alloc _) (by omega) (by simp; omega)
     clear hown2 hgrow HO2 HO1
     go_wp2_with (first | (go_at_call 23; refine (ftruth_any _ _).mono ?_; rintro e w' ⟨rfl, rfl⟩))
     go_roundw
     case rel => exact ⟨1, _, rfl, by omega, by kernel_rfl, by go_num, HO3, hb2⟩
     case measure => simp [intOf]
    ·have g0 : wr.cell? ⟨gS, 6, none⟩ = some (.int .i64 1) := (hbr2.cell (p := ⟨gS, 6, none⟩) hgS).trans (HS2.out 6 _ rfl)
     have g1 : wr.cell? ⟨gS, 7, none⟩ = some (.int .i64 3) := (hbr2.cell (p := ⟨gS, 7, none⟩) hgS).trans (HS2.out 7 _ rfl)
     have g2 : wr.cell? ⟨gS, 8, none⟩ = some (.string ⟨#[]⟩) := (hbr2.cell (p := ⟨gS, 8, none⟩) hgS).trans (HS2.out 8 _ rfl)
     have g3 : wr.cell? ⟨gS, 9, none⟩ = some (.string ⟨#[]⟩) := (hbr2.cell (p := ⟨gS, 9, none⟩) hgS).trans (HS2.out 9 _ rfl)
     have g4 : wr.cell? ⟨gS, 10, none⟩ = some (.slice none 0 0) := (hbr2.cell (p := ⟨gS, 10, none⟩) hgS).trans (HS2.out 10 _ rfl)
     have g5 : wr.cell? ⟨gS, 11, none⟩ = some (.int .i64 0) := (hbr2.cell (p := ⟨gS, 11, none⟩) hgS).trans (HS2.out 11 _ rfl)
     go_wp2_with fail
     refine (fconst_leaf 3 0 ⟨#[]⟩ ⟨#[]⟩ _).mono ?_
     rintro e w1 ⟨rfl, hb1⟩
     have hb1s : wr.heap.size + 1 ≤ w1.heap.size := by have := hb1.size; simp at this; omega
     have hB1 : Below wr.heap.size wr w1 := by exact belowBy
     have HO1 := Lib.hid (owns_below HO2.out hB1)
     clear g0 g1 g2 g3 g4 g5 hb1
     go_wp2_with (at_builtin; refine wpList_append_own _ rfl _ _ 42 rfl W2.heap.size 2 j0 (.int .i64 0) 1 8 Tryd.underlying42 JI.out JZ0.out JZ1.out JZ2.out rfl (by decide) _ 1 _ rfl (HO1.out.alloc _) ⟨w1.heap.size, 0, none⟩ 1 1 [.int .i64 3] rfl rfl ?c4 (one_cell _ rfl) ?c1 ?c2 ?c3 ?_)
     case c4 =>
      intro j u hu
      have had : (⟨w1.heap.size, 0, none⟩ : Addr).add j = ⟨w1.heap.size, j, none⟩ := by cases j <;> simp [Addr.add]
      rw [had]
      exact heap_cell j _ (heap_alloc_new w1 _) (by rw [List.getElem?_toArray]; exact hu)
     case c1 => unfold maxLen; omega
     case c2 => omega
     case c3 => first | omega | (simp; omega)
     intro v2 w2 hown2 hgrow _
     have HO3 : Hid (w2.ownsRow W2.heap.size 2 1 v2 2 (numC 2 3 2)) := Lib.hid hown2
     have hb2 : Below W2.heap.size W2 w2 := below_grown (below_new (hbr2.trans (hB1.mono hbr2.size)) (Nat.le_refl _) _) hgrow (HO1.out.alloc _) (by omega) (by simp; omega)
     clear hown2 hgrow HO2 HO1
     go_wp2_with (first | (go_at_call 23; refine (ftruth_any _ _).mono ?_; rintro e w' ⟨rfl, rfl⟩))
     go_roundw
     case rel => exact ⟨2, _, rfl, by omega, by kernel_rfl, by go_num, HO3, hb2⟩
     case measure => simp [intOf]
    ·obtain ⟨gN, cN, hv, hgN1, hgN2⟩ := HO2.out.form (by omega)
     subst hv
     have lw : w.heap.size + 1 < W2.heap.size := by omega
     have lw0 : w.heap.size < W2.heap.size := by omega
     have y0 := (hbr2.cell (p := ⟨w.heap.size, 0, none⟩) lw0).trans x0
     have y5 := (hbr2.cell (p := ⟨w.heap.size, 5, none⟩) lw0).trans x5
     have q0 := (hbr2.cell (p := ⟨w.heap.size + 1, 0, none⟩) lw).trans m0
     have q1 := (hbr2.cell (p := ⟨w.heap.size + 1, 1, none⟩) lw).trans m1
     have q2 := (hbr2.cell (p := ⟨w.heap.size + 1, 2, none⟩) lw).trans m2
     have q3 := (hbr2.cell (p := ⟨w.heap.size + 1, 3, none⟩) lw).trans m3
     have q4 := (hbr2.cell (p := ⟨w.heap.size + 1, 4, none⟩) lw).trans m4
     have q5 := (hbr2.cell (p := ⟨w.heap.size + 1, 5, none⟩) lw).trans m5
     have qf : ∀ o, wr.frozen? ⟨w.heap.size + 1, o, none⟩ = false := fun o => (hbr2.frozen (p := ⟨w.heap.size + 1, o, none⟩) lw).trans (mf o)
     obtain ⟨_, _, ee, hcN1, hcN2, -⟩ := own_form HO2.out
     cases ee
     unfold maxLen at hcN2
     have HLI := Lib.hid (Lies.own HO2.out)
     have HBR := Lib.hid (HB2.out.trans (hbr2.mono HB2.out.size))
     clear x0 x5 m0 m1 m2 m3 m4 m5 mf
     go_wp2_with fail
     refine (fop_any 10 [2, 3] false _ 2 cN _ HLI.out hcN1 (by omega) (by intro z hz; simp at hz; omega)).mono ?_
     rintro e w3 ⟨rfl, hb3⟩
     rw [show opV (opF 10 [2, 3] false) = .tuple #[.int .i64 6, .bool false, .int .i64 0] from by kernel_rfl]
     have hz3 := hb3.size
     have lv : w.heap.size + 1 < wr.heap.size := by omega
     have lv0 : w.heap.size < wr.heap.size := by omega
     have t0 := (hb3.cell (p := ⟨w.heap.size, 0, none⟩) lv0).trans y0
     have t5 := (hb3.cell (p := ⟨w.heap.size, 5, none⟩) lv0).trans y5
     have s0 := (hb3.cell (p := ⟨w.heap.size + 1, 0, none⟩) lv).trans q0
     have s1 := (hb3.cell (p := ⟨w.heap.size + 1, 1, none⟩) lv).trans q1
     have s2 := (hb3.cell (p := ⟨w.heap.size + 1, 2, none⟩) lv).trans q2
     have s3 := (hb3.cell (p := ⟨w.heap.size + 1, 3, none⟩) lv).trans q3
     have s4 := (hb3.cell (p := ⟨w.heap.size + 1, 4, none⟩) lv).trans q4
     have s5 := (hb3.cell (p := ⟨w.heap.size + 1, 5, none⟩) lv).trans q5
     have sf : ∀ o, w3.frozen? ⟨w.heap.size + 1, o, none⟩ = false := fun o => (hb3.frozen (p := ⟨w.heap.size + 1, o, none⟩) lv).trans (qf o)
     clear y0 y5 q0 q1 q2 q3 q4 q5 qf
     go_wp2_with fail
     refine (fmade_num 6 0 _ (by omega)).mono ?_
     rintro e w4 ⟨⟨a1, a2, rfl⟩, hb4⟩
     have lu : w.heap.size + 1 < w3.heap.size := by omega
     have u0' := (hb4.cell (p := ⟨w.heap.size + 1, 0, none⟩) lu).trans s0
     have u1' := (hb4.cell (p := ⟨w.heap.size + 1, 1, none⟩) lu).trans s1
     have u2' := (hb4.cell (p := ⟨w.heap.size + 1, 2, none⟩) lu).trans s2
     have u3' := (hb4.cell (p := ⟨w.heap.size + 1, 3, none⟩) lu).trans s3
     have u4' := (hb4.cell (p := ⟨w.heap.size + 1, 4, none⟩) lu).trans s4
     have u5' := (hb4.cell (p := ⟨w.heap.size + 1, 5, none⟩) lu).trans s5
     have uf : ∀ o, w4.frozen? ⟨w.heap.size + 1, o, none⟩ = false := fun o => (hb4.frozen (p := ⟨w.heap.size + 1, o, none⟩) lu).trans (sf o)
     have hE := HBR.out.trans ((hb3.trans (hb4.mono hz3)).mono HBR.out.size)
     go_wp2
     refine bodyPost_ret (v := .agg #[.int .i64 1, .int .i64 6, .string a1, .string a2, .slice none 0 0, .int .i64 0]) ?_ rfl ⟨⟨_, _, rfl⟩, ?_⟩
     ·simp [results, Tryd.results11, go_sem, u0', u1', u2', u3', u4', u5', uf]
     ·exact belowBy
end Go.Proofs.YtahjijdadifkaaaDoor
