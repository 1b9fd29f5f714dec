/- Layer 15: the speed at which the next command is gone over to. PRINTED by wip/tool/mkblend.py -/
import Derived.Test.YthhfnageadckkaaGreatM21
import Derived.Test.YthhfnageadckkaaGreatLineRI
set_option maxHeartbeats 2000000
namespace Go.Proofs.YthhfnageadckkaaGreat
open Go.RowKit
set_option linter.unusedVariables false
set_option linter.unusedSimpArgs false
attribute [local go_sem] ite_max ite_min vite_max vite_min ext_cell ext_frozen

theorem Buts.setR {K : Nat} {w w' : World} (h : Buts (fun b => b = K) w w') (o : Nat) (v : Value) : Buts (fun b => b = K) w (w'.setCell ⟨K, o, none⟩ v) := Buts.set (P := fun b => b = K) h (g := K) rfl o v

set_option maxRecDepth 100000 in
theorem ablend_a (s : WS) (c : CmdS) (K : Nat) (rv : Value) (W : World) (h : WK W K s rv) (ho : (nextR s.a.ns s.a.ws).ok = false) :
  Calls Tryz.prog 98 #[.pointer (some ⟨K, 0, none⟩), c.val] W fun x w' => x = .returned (.tuple #[.int .i64 (blendX s.a c).u, (blendX s.a c).x.val, .bool (blendX s.a c).ok]) ∧ Below W.heap.size W w' := by
 have HW := Lib.hid h
 have lK := h.lt
 obtain ⟨y, z, hla⟩ : ∃ y z, nextR s.a.ns s.a.ws = ⟨y, z⟩ := ⟨_, _, rfl⟩
 have HLA := Lib.hid hla
 have HE : Hid (blendX s.a c = if (z && decide (2 ≤ y.mode) && beyondB s.a.g.p c.target y.target) = true then ⟨blendU c y, y, true⟩ else ⟨0, y, false⟩) := Lib.hid (by unfold blendX; rw [hla])
 show Calls Tryz.prog 98 #[.pointer (some ⟨K, 0, none⟩), .agg #[.int .i64 c.id, .int .i64 c.kind, .int .i64 c.target, .int .i64 c.speed, .int .i64 c.mode, .int .i64 c.num, .int .i64 c.den]] W _
 rw [hla] at ho
 obtain rfl : z = false := ho
 have HEQ : Hid (blendX s.a c = ⟨0, y, false⟩) := Lib.hid (by rw [HE.out]; rfl)
 clear h hla
 go_enter Tryz.func98, Tryz.ntmps98
 go_upto_region 1 with (fail)
 refine wp_name fun W1 hW => ?_
 obtain ⟨B, hB⟩ : ∃ B, B = W.heap.size := ⟨_, rfl⟩
 have hbel : Below W.heap.size W W1 := by rw [hW.out]; exact belowBy
 have hsz : W1.heap.size = B + 2 := by rw [hW.out, hB]; simp
 have e2 : W1.cell? ⟨B, 2, none⟩ = some (.int .i64 c.target) := by rw [hW.out, hB]; go_simp
 have e3 : W1.cell? ⟨B, 3, none⟩ = some (.int .i64 c.speed) := by rw [hW.out, hB]; go_simp
 have z0 : W1.cell? ⟨B + 1, 0, none⟩ = some (.int .i64 0) := by rw [hW.out, hB]; go_simp
 have z1 : W1.cell? ⟨B + 1, 1, none⟩ = some (.int .i64 0) := by rw [hW.out, hB]; go_simp
 have z2 : W1.cell? ⟨B + 1, 2, none⟩ = some (.int .i64 0) := by rw [hW.out, hB]; go_simp
 have z3 : W1.cell? ⟨B + 1, 3, none⟩ = some (.int .i64 0) := by rw [hW.out, hB]; go_simp
 have z4 : W1.cell? ⟨B + 1, 4, none⟩ = some (.int .i64 0) := by rw [hW.out, hB]; go_simp
 have z5 : W1.cell? ⟨B + 1, 5, none⟩ = some (.int .i64 0) := by rw [hW.out, hB]; go_simp
 have z6 : W1.cell? ⟨B + 1, 6, none⟩ = some (.int .i64 0) := by rw [hW.out, hB]; go_simp
 have zf : ∀ o, W1.frozen? ⟨B + 1, o, none⟩ = false := fun o => by rw [hW.out, hB]; go_simp
 have hlB : B < W1.heap.size := by omega
 have hlR : B + 1 < W1.heap.size := by omega
 have HBW : Hid (W.heap.size ≤ B) := Lib.hid (by omega)
 have HB := Lib.hid hbel
 obtain ⟨sv, nv, wv, cv, hp⟩ := HW.out.below hbel
 have HP1 := Lib.hid hp
 (try rw [← hB])
 clear hW hB hbel lK hsz
 have c_nv := hp.cell 14 _ rfl
 have c_wv := hp.cell 15 _ rfl
 have lK := hp.lt
 have fK := hp.froz
 clear hp
 go_wp2_with fail
 refine (lnext_at s.a.ns s.a.ws _ 0 _ HP1.out.ln).mono ?_
 rw [HLA.out]
 simp only [OnePost]
 rintro e w2 ⟨rfl, hb2⟩
 have HB2 := Lib.hid hb2
 clear hb2 c_nv c_wv lK fK
 go_upto_region 2 with (fail)
 refine wp_name fun W3 hW => ?_
 obtain ⟨U, hB⟩ : ∃ B, B = w2.heap.size := ⟨_, rfl⟩
 have hbel : Below w2.heap.size w2 W3 := by rw [hW.out]; exact belowBy
 have hlU : U < W3.heap.size := by rw [hW.out, hB]; simp
 have x0 : W3.cell? ⟨U, 0, none⟩ = some (.int .i64 y.id) := by rw [hW.out, hB]; go_simp
 have x1 : W3.cell? ⟨U, 1, none⟩ = some (.int .i64 y.kind) := by rw [hW.out, hB]; go_simp
 have x2 : W3.cell? ⟨U, 2, none⟩ = some (.int .i64 y.target) := by rw [hW.out, hB]; go_simp
 have x3 : W3.cell? ⟨U, 3, none⟩ = some (.int .i64 y.speed) := by rw [hW.out, hB]; go_simp
 have x4 : W3.cell? ⟨U, 4, none⟩ = some (.int .i64 y.mode) := by rw [hW.out, hB]; go_simp
 have x5 : W3.cell? ⟨U, 5, none⟩ = some (.int .i64 y.num) := by rw [hW.out, hB]; go_simp
 have x6 : W3.cell? ⟨U, 6, none⟩ = some (.int .i64 y.den) := by rw [hW.out, hB]; go_simp
 have hUR : B + 1 < U := by have := HB2.out.size; omega
 have hba : Below W1.heap.size W1 W3 := HB2.out.trans (hbel.mono HB2.out.size)
 have b2 := (hba.cell (p := ⟨B, 2, none⟩) hlB).trans e2
 have b3 := (hba.cell (p := ⟨B, 3, none⟩) hlB).trans e3
 have r0 := (hba.cell (p := ⟨(B + 1), 0, none⟩) hlR).trans z0
 have r1 := (hba.cell (p := ⟨(B + 1), 1, none⟩) hlR).trans z1
 have r2 := (hba.cell (p := ⟨(B + 1), 2, none⟩) hlR).trans z2
 have r3 := (hba.cell (p := ⟨(B + 1), 3, none⟩) hlR).trans z3
 have r4 := (hba.cell (p := ⟨(B + 1), 4, none⟩) hlR).trans z4
 have r5 := (hba.cell (p := ⟨(B + 1), 5, none⟩) hlR).trans z5
 have r6 := (hba.cell (p := ⟨(B + 1), 6, none⟩) hlR).trans z6
 have rf : ∀ o, W3.frozen? ⟨B + 1, o, none⟩ = false := fun o => (hba.frozen (p := ⟨B + 1, o, none⟩) hlR).trans (zf o)
 have HP3 := Lib.hid (HP1.out.below hba)
 have HB3 := Lib.hid (HB.out.trans (hba.mono HB.out.size))
 have lB := Nat.lt_of_lt_of_le hlB hba.size
 have lR := Nat.lt_of_lt_of_le hlR hba.size
 (try rw [← hB])
 (try simp only [Act.put])
 clear hW hB hbel hba hlB hlR HB HB2 HP1 e2 e3 z0 z1 z2 z3 z4 z5 z6 zf
 go_wp2_with fail
 refine wp_region_held_drew (S := fun w' => Below W3.heap.size W3 w') (by kernel_rfl) ?_ (fun hHeld => ?_)
 ·exact (Below.refl _ _).drew
 refine tT 0 ?_ rfl ?_ ?_; rotate_left; (focus intros; go_simp; try rfl)
 refine tT 1 ?_ rfl ?_ ?_; rotate_left; (focus intros; go_simp; try rfl)
 refine tT 2 ?_ rfl ?_ ?_; rotate_left; (focus intros; go_simp; try rfl); (try simp only [ly])
 (refine takeU (i := 3) rfl ?_)
 (refine takeU (i := 4) rfl ?_)
 (refine takeU (i := 5) rfl ?_; (try simp only [ly]))
 refine tT 6 ?_ rfl ?_ ?_; rotate_left; (focus intros; go_simp; try rfl)
 refine tT 7 ?_ rfl ?_ ?_; rotate_left; (focus intros; go_simp; try rfl)
 (refine takeU (i := 8) rfl ?_; (try simp only [ly]))
 (refine takeU (i := 9) rfl ?_)
 (refine takeU (i := 10) rfl ?_)
 (refine takeU (i := 11) rfl ?_; (try simp only [ly]))
 (refine takeU (i := 12) rfl ?_)
 (refine takeU (i := 13) rfl ?_)
 (refine takeU (i := 14) rfl ?_; (try simp only [ly]))
 (refine takeU (i := 15) rfl ?_)
 (refine takeU (i := 16) rfl ?_)
 (refine takeU (i := 17) rfl ?_; (try simp only [ly]))
 (refine takeU (i := 18) rfl ?_)
 (refine takeU (i := 19) rfl ?_)
 refine tT 20 ?_ rfl ?_ ?_; rotate_left; (focus intros; go_simp; try rfl); (try simp only [ly])
 refine wpAnyH_done (by kernel_rfl) ?_ _
 (try simp only [ly])
 clear hHeld
 have HBD : Hid (Below W3.heap.size W3 W3.drew) := Lib.hid (Below.refl _ _).drew
 go_upto_region 3 with (fail)
 refine wp_name fun W4 hW => ?_
 have hb4 : Below W3.heap.size W3 W4 := by rw [hW.out]; exact belowBy
 have u0 := (hb4.cell (p := ⟨U, 0, none⟩) hlU).trans x0
 have u1 := (hb4.cell (p := ⟨U, 1, none⟩) hlU).trans x1
 have u2 := (hb4.cell (p := ⟨U, 2, none⟩) hlU).trans x2
 have u3 := (hb4.cell (p := ⟨U, 3, none⟩) hlU).trans x3
 have u4 := (hb4.cell (p := ⟨U, 4, none⟩) hlU).trans x4
 have u5 := (hb4.cell (p := ⟨U, 5, none⟩) hlU).trans x5
 have u6 := (hb4.cell (p := ⟨U, 6, none⟩) hlU).trans x6
 have v2 := (hb4.cell (p := ⟨B, 2, none⟩) lB).trans b2
 have v3 := (hb4.cell (p := ⟨B, 3, none⟩) lB).trans b3
 have q0 := (hb4.cell (p := ⟨(B + 1), 0, none⟩) lR).trans r0
 have q1 := (hb4.cell (p := ⟨(B + 1), 1, none⟩) lR).trans r1
 have q2 := (hb4.cell (p := ⟨(B + 1), 2, none⟩) lR).trans r2
 have q3 := (hb4.cell (p := ⟨(B + 1), 3, none⟩) lR).trans r3
 have q4 := (hb4.cell (p := ⟨(B + 1), 4, none⟩) lR).trans r4
 have q5 := (hb4.cell (p := ⟨(B + 1), 5, none⟩) lR).trans r5
 have q6 := (hb4.cell (p := ⟨(B + 1), 6, none⟩) lR).trans r6
 have qf : ∀ o, W4.frozen? ⟨B + 1, o, none⟩ = false := fun o => (hb4.frozen (p := ⟨B + 1, o, none⟩) lR).trans (rf o)
 have l4B := Nat.lt_of_lt_of_le lB hb4.size
 have l4R := Nat.lt_of_lt_of_le lR hb4.size
 have l4U := Nat.lt_of_lt_of_le hlU hb4.size
 have HB4 : Hid (Below W.heap.size W W4) := Lib.hid (HB3.out.trans (hb4.mono HB3.out.size))
 clear hW hb4 r0 r1 r2 r3 r4 r5 r6 rf x0 x1 x2 x3 x4 x5 x6 b2 b3 lB lR hlU
 have nU : ¬ U = B + 1 := by omega
 refine wp_region_held_drew (S := fun w' => Buts (fun b => b = B + 1) W4 w') (by kernel_rfl) ?_ (fun hHeld => ?_)
 ·exact (Buts.refl _ _).drew
 (refine tT 0 ?_ rfl ?_ ?_; rotate_left; (focus (intro w' hSw; (try dsimp only at hSw); (have f0 := (hSw.cell U 0 l4U nU).trans u0); (have f1 := (hSw.cell U 1 l4U nU).trans u1); (have f2 := (hSw.cell U 2 l4U nU).trans u2); (have f3 := (hSw.cell U 3 l4U nU).trans u3); (have f4 := (hSw.cell U 4 l4U nU).trans u4); (have f5 := (hSw.cell U 5 l4U nU).trans u5); (have f6 := (hSw.cell U 6 l4U nU).trans u6); (have lw := Nat.lt_of_lt_of_le l4U hSw.size); go_simp; try (with_reducible rfl))))
 refine tT 1 ?_ rfl ?_ ?_; rotate_left; (focus intros; go_simp; try rfl); (try simp only [ly])
 refine oneH (i := 2) (by kernel_rfl) rfl (fun Kc hK => ?_)
 go_simp
 refine hK.out _ _ ?_ (fun hHeld => ?_)
 ·(show Buts _ _ _; repeat' (first | (with_reducible exact hHeld) | (with_reducible exact Buts.refl _ _) | (with_reducible refine Buts.drew ?_) | (with_reducible refine Buts.setR ?_ _ _)))
 clear hK Kc
 (try simp only [ly])
 refine tT 3 ?_ rfl ?_ ?_; rotate_left; (focus intros; go_simp; try rfl); (try simp only [ly])
 refine wpAnyH_done (by kernel_rfl) ?_ _
 (try simp only [ly])
 go_wp2
 refine bodyPost_ret (v := .tuple #[.int .i64 (0), .agg #[.int .i64 y.id, .int .i64 y.kind, .int .i64 y.target, .int .i64 y.speed, .int .i64 y.mode, .int .i64 y.num, .int .i64 y.den], .bool false]) (by simp [results, Tryz.results98, go_sem, q0, q1, q2, q3, q4, q5, q6, qf, l4R]) rfl ⟨by rw [HEQ.out]; rfl, ?_⟩
 exact HB4.out.trans (hHeld.below W.heap.size (fun b hb => by have := HBW.out; omega) HB4.out.size)

set_option maxRecDepth 100000 in
theorem ablend_b (s : WS) (c : CmdS) (K : Nat) (rv : Value) (W : World) (h : WK W K s rv) (ho : (nextR s.a.ns s.a.ws).ok = true) (hm : ¬ 2 ≤ (nextR s.a.ns s.a.ws).x.mode) :
  Calls Tryz.prog 98 #[.pointer (some ⟨K, 0, none⟩), c.val] W fun x w' => x = .returned (.tuple #[.int .i64 (blendX s.a c).u, (blendX s.a c).x.val, .bool (blendX s.a c).ok]) ∧ Below W.heap.size W w' := by
 have HW := Lib.hid h
 have lK := h.lt
 obtain ⟨y, z, hla⟩ : ∃ y z, nextR s.a.ns s.a.ws = ⟨y, z⟩ := ⟨_, _, rfl⟩
 have HLA := Lib.hid hla
 have HE : Hid (blendX s.a c = if (z && decide (2 ≤ y.mode) && beyondB s.a.g.p c.target y.target) = true then ⟨blendU c y, y, true⟩ else ⟨0, y, false⟩) := Lib.hid (by unfold blendX; rw [hla])
 show Calls Tryz.prog 98 #[.pointer (some ⟨K, 0, none⟩), .agg #[.int .i64 c.id, .int .i64 c.kind, .int .i64 c.target, .int .i64 c.speed, .int .i64 c.mode, .int .i64 c.num, .int .i64 c.den]] W _
 rw [hla] at ho hm
 obtain rfl : z = true := ho
 dsimp only at hm
 have HEQ : Hid (blendX s.a c = ⟨0, y, false⟩) := Lib.hid (by rw [HE.out, decide_eq_false hm]; rfl)
 have um : decide (y.mode < 2) = true := decide_eq_true (by omega)
 clear hm
 clear h hla
 go_enter Tryz.func98, Tryz.ntmps98
 go_upto_region 1 with (fail)
 refine wp_name fun W1 hW => ?_
 obtain ⟨B, hB⟩ : ∃ B, B = W.heap.size := ⟨_, rfl⟩
 have hbel : Below W.heap.size W W1 := by rw [hW.out]; exact belowBy
 have hsz : W1.heap.size = B + 2 := by rw [hW.out, hB]; simp
 have e2 : W1.cell? ⟨B, 2, none⟩ = some (.int .i64 c.target) := by rw [hW.out, hB]; go_simp
 have e3 : W1.cell? ⟨B, 3, none⟩ = some (.int .i64 c.speed) := by rw [hW.out, hB]; go_simp
 have z0 : W1.cell? ⟨B + 1, 0, none⟩ = some (.int .i64 0) := by rw [hW.out, hB]; go_simp
 have z1 : W1.cell? ⟨B + 1, 1, none⟩ = some (.int .i64 0) := by rw [hW.out, hB]; go_simp
 have z2 : W1.cell? ⟨B + 1, 2, none⟩ = some (.int .i64 0) := by rw [hW.out, hB]; go_simp
 have z3 : W1.cell? ⟨B + 1, 3, none⟩ = some (.int .i64 0) := by rw [hW.out, hB]; go_simp
 have z4 : W1.cell? ⟨B + 1, 4, none⟩ = some (.int .i64 0) := by rw [hW.out, hB]; go_simp
 have z5 : W1.cell? ⟨B + 1, 5, none⟩ = some (.int .i64 0) := by rw [hW.out, hB]; go_simp
 have z6 : W1.cell? ⟨B + 1, 6, none⟩ = some (.int .i64 0) := by rw [hW.out, hB]; go_simp
 have zf : ∀ o, W1.frozen? ⟨B + 1, o, none⟩ = false := fun o => by rw [hW.out, hB]; go_simp
 have hlB : B < W1.heap.size := by omega
 have hlR : B + 1 < W1.heap.size := by omega
 have HBW : Hid (W.heap.size ≤ B) := Lib.hid (by omega)
 have HB := Lib.hid hbel
 obtain ⟨sv, nv, wv, cv, hp⟩ := HW.out.below hbel
 have HP1 := Lib.hid hp
 (try rw [← hB])
 clear hW hB hbel lK hsz
 have c_nv := hp.cell 14 _ rfl
 have c_wv := hp.cell 15 _ rfl
 have lK := hp.lt
 have fK := hp.froz
 clear hp
 go_wp2_with fail
 refine (lnext_at s.a.ns s.a.ws _ 0 _ HP1.out.ln).mono ?_
 rw [HLA.out]
 simp only [OnePost]
 rintro e w2 ⟨rfl, hb2⟩
 have HB2 := Lib.hid hb2
 clear hb2 c_nv c_wv lK fK
 go_upto_region 2 with (fail)
 refine wp_name fun W3 hW => ?_
 obtain ⟨U, hB⟩ : ∃ B, B = w2.heap.size := ⟨_, rfl⟩
 have hbel : Below w2.heap.size w2 W3 := by rw [hW.out]; exact belowBy
 have hlU : U < W3.heap.size := by rw [hW.out, hB]; simp
 have x0 : W3.cell? ⟨U, 0, none⟩ = some (.int .i64 y.id) := by rw [hW.out, hB]; go_simp
 have x1 : W3.cell? ⟨U, 1, none⟩ = some (.int .i64 y.kind) := by rw [hW.out, hB]; go_simp
 have x2 : W3.cell? ⟨U, 2, none⟩ = some (.int .i64 y.target) := by rw [hW.out, hB]; go_simp
 have x3 : W3.cell? ⟨U, 3, none⟩ = some (.int .i64 y.speed) := by rw [hW.out, hB]; go_simp
 have x4 : W3.cell? ⟨U, 4, none⟩ = some (.int .i64 y.mode) := by rw [hW.out, hB]; go_simp
 have x5 : W3.cell? ⟨U, 5, none⟩ = some (.int .i64 y.num) := by rw [hW.out, hB]; go_simp
 have x6 : W3.cell? ⟨U, 6, none⟩ = some (.int .i64 y.den) := by rw [hW.out, hB]; go_simp
 have hUR : B + 1 < U := by have := HB2.out.size; omega
 have hba : Below W1.heap.size W1 W3 := HB2.out.trans (hbel.mono HB2.out.size)
 have b2 := (hba.cell (p := ⟨B, 2, none⟩) hlB).trans e2
 have b3 := (hba.cell (p := ⟨B, 3, none⟩) hlB).trans e3
 have r0 := (hba.cell (p := ⟨(B + 1), 0, none⟩) hlR).trans z0
 have r1 := (hba.cell (p := ⟨(B + 1), 1, none⟩) hlR).trans z1
 have r2 := (hba.cell (p := ⟨(B + 1), 2, none⟩) hlR).trans z2
 have r3 := (hba.cell (p := ⟨(B + 1), 3, none⟩) hlR).trans z3
 have r4 := (hba.cell (p := ⟨(B + 1), 4, none⟩) hlR).trans z4
 have r5 := (hba.cell (p := ⟨(B + 1), 5, none⟩) hlR).trans z5
 have r6 := (hba.cell (p := ⟨(B + 1), 6, none⟩) hlR).trans z6
 have rf : ∀ o, W3.frozen? ⟨B + 1, o, none⟩ = false := fun o => (hba.frozen (p := ⟨B + 1, o, none⟩) hlR).trans (zf o)
 have HP3 := Lib.hid (HP1.out.below hba)
 have HB3 := Lib.hid (HB.out.trans (hba.mono HB.out.size))
 have lB := Nat.lt_of_lt_of_le hlB hba.size
 have lR := Nat.lt_of_lt_of_le hlR hba.size
 (try rw [← hB])
 (try simp only [Act.put])
 clear hW hB hbel hba hlB hlR HB HB2 HP1 e2 e3 z0 z1 z2 z3 z4 z5 z6 zf
 go_wp2_with fail
 refine wp_region_held_drew (S := fun w' => Below W3.heap.size W3 w') (by kernel_rfl) ?_ (fun hHeld => ?_)
 ·exact (Below.refl _ _).drew
 refine tT 0 ?_ rfl ?_ ?_; rotate_left; (focus intros; go_simp; try rfl)
 refine tT 1 ?_ rfl ?_ ?_; rotate_left; (focus intros; go_simp; try rfl)
 refine tT 2 ?_ rfl ?_ ?_; rotate_left; (focus intros; go_simp; try rfl); (try simp only [ly])
 refine tT 3 ?_ rfl ?_ ?_; rotate_left; (focus intros; go_simp; try rfl)
 (refine tT 4 ?_ rfl ?_ ?_; rotate_left; (focus (intro w' hSw; (try dsimp only at hSw); (have f := (hSw.cell (p := ⟨U, 4, none⟩) hlU).trans x4); (have lw := Nat.lt_of_lt_of_le hlU hSw.size); go_simp; try (with_reducible rfl))))
 refine tT 5 ?_ rfl ?_ ?_; rotate_left; (focus intros; go_simp; try rfl); (try simp only [ly])
 refine tT 6 ?_ rfl ?_ ?_; rotate_left; (focus intros; go_simp; try rfl)
 refine tT 7 ?_ rfl ?_ ?_; rotate_left; (focus intros; go_simp; try rfl)
 (refine takeU (i := 8) rfl ?_; (try simp only [ly]))
 (refine takeU (i := 9) rfl ?_)
 (refine takeU (i := 10) rfl ?_)
 (refine takeU (i := 11) rfl ?_; (try simp only [ly]))
 (refine takeU (i := 12) rfl ?_)
 (refine takeU (i := 13) rfl ?_)
 (refine takeU (i := 14) rfl ?_; (try simp only [ly]))
 (refine takeU (i := 15) rfl ?_)
 (refine takeU (i := 16) rfl ?_)
 (refine takeU (i := 17) rfl ?_; (try simp only [ly]))
 (refine takeU (i := 18) rfl ?_)
 (refine takeU (i := 19) rfl ?_)
 refine tT 20 ?_ rfl ?_ ?_; rotate_left; (focus intros; go_simp; try rfl); (try simp only [ly])
 refine wpAnyH_done (by kernel_rfl) ?_ _
 (try simp only [ly])
 clear hHeld
 have HBD : Hid (Below W3.heap.size W3 W3.drew) := Lib.hid (Below.refl _ _).drew
 go_upto_region 3 with (fail)
 refine wp_name fun W4 hW => ?_
 have hb4 : Below W3.heap.size W3 W4 := by rw [hW.out]; exact belowBy
 have u0 := (hb4.cell (p := ⟨U, 0, none⟩) hlU).trans x0
 have u1 := (hb4.cell (p := ⟨U, 1, none⟩) hlU).trans x1
 have u2 := (hb4.cell (p := ⟨U, 2, none⟩) hlU).trans x2
 have u3 := (hb4.cell (p := ⟨U, 3, none⟩) hlU).trans x3
 have u4 := (hb4.cell (p := ⟨U, 4, none⟩) hlU).trans x4
 have u5 := (hb4.cell (p := ⟨U, 5, none⟩) hlU).trans x5
 have u6 := (hb4.cell (p := ⟨U, 6, none⟩) hlU).trans x6
 have v2 := (hb4.cell (p := ⟨B, 2, none⟩) lB).trans b2
 have v3 := (hb4.cell (p := ⟨B, 3, none⟩) lB).trans b3
 have q0 := (hb4.cell (p := ⟨(B + 1), 0, none⟩) lR).trans r0
 have q1 := (hb4.cell (p := ⟨(B + 1), 1, none⟩) lR).trans r1
 have q2 := (hb4.cell (p := ⟨(B + 1), 2, none⟩) lR).trans r2
 have q3 := (hb4.cell (p := ⟨(B + 1), 3, none⟩) lR).trans r3
 have q4 := (hb4.cell (p := ⟨(B + 1), 4, none⟩) lR).trans r4
 have q5 := (hb4.cell (p := ⟨(B + 1), 5, none⟩) lR).trans r5
 have q6 := (hb4.cell (p := ⟨(B + 1), 6, none⟩) lR).trans r6
 have qf : ∀ o, W4.frozen? ⟨B + 1, o, none⟩ = false := fun o => (hb4.frozen (p := ⟨B + 1, o, none⟩) lR).trans (rf o)
 have l4B := Nat.lt_of_lt_of_le lB hb4.size
 have l4R := Nat.lt_of_lt_of_le lR hb4.size
 have l4U := Nat.lt_of_lt_of_le hlU hb4.size
 have HB4 : Hid (Below W.heap.size W W4) := Lib.hid (HB3.out.trans (hb4.mono HB3.out.size))
 clear hW hb4 r0 r1 r2 r3 r4 r5 r6 rf x0 x1 x2 x3 x4 x5 x6 b2 b3 lB lR hlU
 have nU : ¬ U = B + 1 := by omega
 refine wp_region_held_drew (S := fun w' => Buts (fun b => b = B + 1) W4 w') (by kernel_rfl) ?_ (fun hHeld => ?_)
 ·exact (Buts.refl _ _).drew
 (refine tT 0 ?_ rfl ?_ ?_; rotate_left; (focus (intro w' hSw; (try dsimp only at hSw); (have f0 := (hSw.cell U 0 l4U nU).trans u0); (have f1 := (hSw.cell U 1 l4U nU).trans u1); (have f2 := (hSw.cell U 2 l4U nU).trans u2); (have f3 := (hSw.cell U 3 l4U nU).trans u3); (have f4 := (hSw.cell U 4 l4U nU).trans u4); (have f5 := (hSw.cell U 5 l4U nU).trans u5); (have f6 := (hSw.cell U 6 l4U nU).trans u6); (have lw := Nat.lt_of_lt_of_le l4U hSw.size); go_simp; try (with_reducible rfl))))
 refine tT 1 ?_ rfl ?_ ?_; rotate_left; (focus intros; go_simp; try rfl); (try simp only [ly])
 refine oneH (i := 2) (by kernel_rfl) rfl (fun Kc hK => ?_)
 go_simp
 refine hK.out _ _ ?_ (fun hHeld => ?_)
 ·(show Buts _ _ _; repeat' (first | (with_reducible exact hHeld) | (with_reducible exact Buts.refl _ _) | (with_reducible refine Buts.drew ?_) | (with_reducible refine Buts.setR ?_ _ _)))
 clear hK Kc
 (try simp only [ly])
 refine tT 3 ?_ rfl ?_ ?_; rotate_left; (focus intros; go_simp; try rfl); (try simp only [ly])
 refine wpAnyH_done (by kernel_rfl) ?_ _
 (try simp only [ly])
 go_wp2
 refine bodyPost_ret (v := .tuple #[.int .i64 (0), .agg #[.int .i64 y.id, .int .i64 y.kind, .int .i64 y.target, .int .i64 y.speed, .int .i64 y.mode, .int .i64 y.num, .int .i64 y.den], .bool false]) (by simp [results, Tryz.results98, go_sem, q0, q1, q2, q3, q4, q5, q6, qf, l4R]) rfl ⟨by rw [HEQ.out]; rfl, ?_⟩
 exact HB4.out.trans (hHeld.below W.heap.size (fun b hb => by have := HBW.out; omega) HB4.out.size)

set_option maxRecDepth 100000 in
theorem ablend_c (s : WS) (c : CmdS) (K : Nat) (rv : Value) (W : World) (h : WK W K s rv) (ho : (nextR s.a.ns s.a.ws).ok = true) (hm : 2 ≤ (nextR s.a.ns s.a.ws).x.mode) (hb : beyondB s.a.g.p c.target (nextR s.a.ns s.a.ws).x.target = false) :
  Calls Tryz.prog 98 #[.pointer (some ⟨K, 0, none⟩), c.val] W fun x w' => x = .returned (.tuple #[.int .i64 (blendX s.a c).u, (blendX s.a c).x.val, .bool (blendX s.a c).ok]) ∧ Below W.heap.size W w' := by
 have HW := Lib.hid h
 have lK := h.lt
 obtain ⟨y, z, hla⟩ : ∃ y z, nextR s.a.ns s.a.ws = ⟨y, z⟩ := ⟨_, _, rfl⟩
 have HLA := Lib.hid hla
 have HE : Hid (blendX s.a c = if (z && decide (2 ≤ y.mode) && beyondB s.a.g.p c.target y.target) = true then ⟨blendU c y, y, true⟩ else ⟨0, y, false⟩) := Lib.hid (by unfold blendX; rw [hla])
 show Calls Tryz.prog 98 #[.pointer (some ⟨K, 0, none⟩), .agg #[.int .i64 c.id, .int .i64 c.kind, .int .i64 c.target, .int .i64 c.speed, .int .i64 c.mode, .int .i64 c.num, .int .i64 c.den]] W _
 rw [hla] at ho hm hb
 obtain rfl : z = true := ho
 dsimp only at hm hb
 have HEQ : Hid (blendX s.a c = ⟨0, y, false⟩) := Lib.hid (by rw [HE.out, decide_eq_true hm, hb]; rfl)
 have um : decide (y.mode < 2) = false := decide_eq_false (by omega)
 have HBY := Lib.hid hb
 clear hm hb
 clear h hla
 go_enter Tryz.func98, Tryz.ntmps98
 go_upto_region 1 with (fail)
 refine wp_name fun W1 hW => ?_
 obtain ⟨B, hB⟩ : ∃ B, B = W.heap.size := ⟨_, rfl⟩
 have hbel : Below W.heap.size W W1 := by rw [hW.out]; exact belowBy
 have hsz : W1.heap.size = B + 2 := by rw [hW.out, hB]; simp
 have e2 : W1.cell? ⟨B, 2, none⟩ = some (.int .i64 c.target) := by rw [hW.out, hB]; go_simp
 have e3 : W1.cell? ⟨B, 3, none⟩ = some (.int .i64 c.speed) := by rw [hW.out, hB]; go_simp
 have z0 : W1.cell? ⟨B + 1, 0, none⟩ = some (.int .i64 0) := by rw [hW.out, hB]; go_simp
 have z1 : W1.cell? ⟨B + 1, 1, none⟩ = some (.int .i64 0) := by rw [hW.out, hB]; go_simp
 have z2 : W1.cell? ⟨B + 1, 2, none⟩ = some (.int .i64 0) := by rw [hW.out, hB]; go_simp
 have z3 : W1.cell? ⟨B + 1, 3, none⟩ = some (.int .i64 0) := by rw [hW.out, hB]; go_simp
 have z4 : W1.cell? ⟨B + 1, 4, none⟩ = some (.int .i64 0) := by rw [hW.out, hB]; go_simp
 have z5 : W1.cell? ⟨B + 1, 5, none⟩ = some (.int .i64 0) := by rw [hW.out, hB]; go_simp
 have z6 : W1.cell? ⟨B + 1, 6, none⟩ = some (.int .i64 0) := by rw [hW.out, hB]; go_simp
 have zf : ∀ o, W1.frozen? ⟨B + 1, o, none⟩ = false := fun o => by rw [hW.out, hB]; go_simp
 have hlB : B < W1.heap.size := by omega
 have hlR : B + 1 < W1.heap.size := by omega
 have HBW : Hid (W.heap.size ≤ B) := Lib.hid (by omega)
 have HB := Lib.hid hbel
 obtain ⟨sv, nv, wv, cv, hp⟩ := HW.out.below hbel
 have HP1 := Lib.hid hp
 (try rw [← hB])
 clear hW hB hbel lK hsz
 have c_nv := hp.cell 14 _ rfl
 have c_wv := hp.cell 15 _ rfl
 have lK := hp.lt
 have fK := hp.froz
 clear hp
 go_wp2_with fail
 refine (lnext_at s.a.ns s.a.ws _ 0 _ HP1.out.ln).mono ?_
 rw [HLA.out]
 simp only [OnePost]
 rintro e w2 ⟨rfl, hb2⟩
 have HB2 := Lib.hid hb2
 clear hb2 c_nv c_wv lK fK
 go_upto_region 2 with (fail)
 refine wp_name fun W3 hW => ?_
 obtain ⟨U, hB⟩ : ∃ B, B = w2.heap.size := ⟨_, rfl⟩
 have hbel : Below w2.heap.size w2 W3 := by rw [hW.out]; exact belowBy
 have hlU : U < W3.heap.size := by rw [hW.out, hB]; simp
 have x0 : W3.cell? ⟨U, 0, none⟩ = some (.int .i64 y.id) := by rw [hW.out, hB]; go_simp
 have x1 : W3.cell? ⟨U, 1, none⟩ = some (.int .i64 y.kind) := by rw [hW.out, hB]; go_simp
 have x2 : W3.cell? ⟨U, 2, none⟩ = some (.int .i64 y.target) := by rw [hW.out, hB]; go_simp
 have x3 : W3.cell? ⟨U, 3, none⟩ = some (.int .i64 y.speed) := by rw [hW.out, hB]; go_simp
 have x4 : W3.cell? ⟨U, 4, none⟩ = some (.int .i64 y.mode) := by rw [hW.out, hB]; go_simp
 have x5 : W3.cell? ⟨U, 5, none⟩ = some (.int .i64 y.num) := by rw [hW.out, hB]; go_simp
 have x6 : W3.cell? ⟨U, 6, none⟩ = some (.int .i64 y.den) := by rw [hW.out, hB]; go_simp
 have hUR : B + 1 < U := by have := HB2.out.size; omega
 have hba : Below W1.heap.size W1 W3 := HB2.out.trans (hbel.mono HB2.out.size)
 have b2 := (hba.cell (p := ⟨B, 2, none⟩) hlB).trans e2
 have b3 := (hba.cell (p := ⟨B, 3, none⟩) hlB).trans e3
 have r0 := (hba.cell (p := ⟨(B + 1), 0, none⟩) hlR).trans z0
 have r1 := (hba.cell (p := ⟨(B + 1), 1, none⟩) hlR).trans z1
 have r2 := (hba.cell (p := ⟨(B + 1), 2, none⟩) hlR).trans z2
 have r3 := (hba.cell (p := ⟨(B + 1), 3, none⟩) hlR).trans z3
 have r4 := (hba.cell (p := ⟨(B + 1), 4, none⟩) hlR).trans z4
 have r5 := (hba.cell (p := ⟨(B + 1), 5, none⟩) hlR).trans z5
 have r6 := (hba.cell (p := ⟨(B + 1), 6, none⟩) hlR).trans z6
 have rf : ∀ o, W3.frozen? ⟨B + 1, o, none⟩ = false := fun o => (hba.frozen (p := ⟨B + 1, o, none⟩) hlR).trans (zf o)
 have HP3 := Lib.hid (HP1.out.below hba)
 have HB3 := Lib.hid (HB.out.trans (hba.mono HB.out.size))
 have lB := Nat.lt_of_lt_of_le hlB hba.size
 have lR := Nat.lt_of_lt_of_le hlR hba.size
 (try rw [← hB])
 (try simp only [Act.put])
 clear hW hB hbel hba hlB hlR HB HB2 HP1 e2 e3 z0 z1 z2 z3 z4 z5 z6 zf
 go_wp2_with fail
 refine wp_region_held_drew (S := fun w' => Below W3.heap.size W3 w') (by kernel_rfl) ?_ (fun hHeld => ?_)
 ·exact (Below.refl _ _).drew
 refine tT 0 ?_ rfl ?_ ?_; rotate_left; (focus intros; go_simp; try rfl)
 refine tT 1 ?_ rfl ?_ ?_; rotate_left; (focus intros; go_simp; try rfl)
 refine tT 2 ?_ rfl ?_ ?_; rotate_left; (focus intros; go_simp; try rfl); (try simp only [ly])
 refine tT 3 ?_ rfl ?_ ?_; rotate_left; (focus intros; go_simp; try rfl)
 (refine tT 4 ?_ rfl ?_ ?_; rotate_left; (focus (intro w' hSw; (try dsimp only at hSw); (have f := (hSw.cell (p := ⟨U, 4, none⟩) hlU).trans x4); (have lw := Nat.lt_of_lt_of_le hlU hSw.size); go_simp; try (with_reducible rfl))))
 refine tT 5 ?_ rfl ?_ ?_; rotate_left; (focus intros; go_simp; try rfl); (try simp only [ly])
 refine tT 6 ?_ rfl ?_ ?_; rotate_left; (focus intros; go_simp; try rfl)
 refine tT 7 ?_ rfl ?_ ?_; rotate_left; (focus intros; go_simp; try rfl)
 refine tT 8 ?_ rfl ?_ ?_; rotate_left; (focus intros; go_simp; try rfl); (try simp only [ly])
 refine tT 9 ?_ rfl ?_ ?_; rotate_left; (focus intros; go_simp; try rfl)
 refine tT 10 ?_ rfl ?_ ?_; rotate_left; (focus intros; go_simp; try rfl)
 refine tT 11 ?_ rfl ?_ ?_; rotate_left; (focus intros; go_simp; try rfl); (try simp only [ly])
 refine tT 12 ?_ rfl ?_ ?_; rotate_left; (focus intros; go_simp; try rfl)
 (refine tT 13 ?_ rfl ?_ ?_; rotate_left; (focus (intro w' hSw; (try dsimp only at hSw); (have hh := HP3.out.below hSw); (have f := hh.cell 10 _ rfl); (have lw := hh.lt); go_simp; try (with_reducible rfl))))
 refine tT 14 ?_ rfl ?_ ?_; rotate_left; (focus intros; go_simp; try rfl); (try simp only [ly])
 (refine tT 15 ?_ rfl ?_ ?_; rotate_left; (focus (intro w' hSw; (try dsimp only at hSw); (have f := (hSw.cell (p := ⟨B, 2, none⟩) lB).trans b2); (have lw := Nat.lt_of_lt_of_le lB hSw.size); go_simp; try (with_reducible rfl))))
 refine tT 16 ?_ rfl ?_ ?_; rotate_left; (focus intros; go_simp; try rfl)
 (refine tT 17 ?_ rfl ?_ ?_; rotate_left; (focus (intro w' hSw; (try dsimp only at hSw); (have f := (hSw.cell (p := ⟨U, 2, none⟩) hlU).trans x2); (have lw := Nat.lt_of_lt_of_le hlU hSw.size); go_simp; try (with_reducible rfl))); (try simp only [ly]))
 refine oneH (i := 18) (by kernel_rfl) rfl (fun Kc hK => ?_)
 go_simp
 go_at_call 115; refine (abeyond_at s.a.g.p c.target y.target false _ HBY.out).mono ?_; rintro e w' ⟨rfl, rfl⟩
 go_wp2_with fail
 refine hK.out _ _ (hHeld) (fun hHeld => ?_)
 clear hK Kc
 (try simp only [ly])
 refine tT 19 ?_ rfl ?_ ?_; rotate_left; (focus intros; go_simp; try rfl)
 refine tT 20 ?_ rfl ?_ ?_; rotate_left; (focus intros; go_simp; try rfl); (try simp only [ly])
 refine wpAnyH_done (by kernel_rfl) ?_ _
 (try simp only [ly])
 clear hHeld
 have HBD : Hid (Below W3.heap.size W3 W3.drew) := Lib.hid (Below.refl _ _).drew
 go_upto_region 3 with (fail)
 refine wp_name fun W4 hW => ?_
 have hb4 : Below W3.heap.size W3 W4 := by rw [hW.out]; exact belowBy
 have u0 := (hb4.cell (p := ⟨U, 0, none⟩) hlU).trans x0
 have u1 := (hb4.cell (p := ⟨U, 1, none⟩) hlU).trans x1
 have u2 := (hb4.cell (p := ⟨U, 2, none⟩) hlU).trans x2
 have u3 := (hb4.cell (p := ⟨U, 3, none⟩) hlU).trans x3
 have u4 := (hb4.cell (p := ⟨U, 4, none⟩) hlU).trans x4
 have u5 := (hb4.cell (p := ⟨U, 5, none⟩) hlU).trans x5
 have u6 := (hb4.cell (p := ⟨U, 6, none⟩) hlU).trans x6
 have v2 := (hb4.cell (p := ⟨B, 2, none⟩) lB).trans b2
 have v3 := (hb4.cell (p := ⟨B, 3, none⟩) lB).trans b3
 have q0 := (hb4.cell (p := ⟨(B + 1), 0, none⟩) lR).trans r0
 have q1 := (hb4.cell (p := ⟨(B + 1), 1, none⟩) lR).trans r1
 have q2 := (hb4.cell (p := ⟨(B + 1), 2, none⟩) lR).trans r2
 have q3 := (hb4.cell (p := ⟨(B + 1), 3, none⟩) lR).trans r3
 have q4 := (hb4.cell (p := ⟨(B + 1), 4, none⟩) lR).trans r4
 have q5 := (hb4.cell (p := ⟨(B + 1), 5, none⟩) lR).trans r5
 have q6 := (hb4.cell (p := ⟨(B + 1), 6, none⟩) lR).trans r6
 have qf : ∀ o, W4.frozen? ⟨B + 1, o, none⟩ = false := fun o => (hb4.frozen (p := ⟨B + 1, o, none⟩) lR).trans (rf o)
 have l4B := Nat.lt_of_lt_of_le lB hb4.size
 have l4R := Nat.lt_of_lt_of_le lR hb4.size
 have l4U := Nat.lt_of_lt_of_le hlU hb4.size
 have HB4 : Hid (Below W.heap.size W W4) := Lib.hid (HB3.out.trans (hb4.mono HB3.out.size))
 clear hW hb4 r0 r1 r2 r3 r4 r5 r6 rf x0 x1 x2 x3 x4 x5 x6 b2 b3 lB lR hlU
 have nU : ¬ U = B + 1 := by omega
 refine wp_region_held_drew (S := fun w' => Buts (fun b => b = B + 1) W4 w') (by kernel_rfl) ?_ (fun hHeld => ?_)
 ·exact (Buts.refl _ _).drew
 (refine tT 0 ?_ rfl ?_ ?_; rotate_left; (focus (intro w' hSw; (try dsimp only at hSw); (have f0 := (hSw.cell U 0 l4U nU).trans u0); (have f1 := (hSw.cell U 1 l4U nU).trans u1); (have f2 := (hSw.cell U 2 l4U nU).trans u2); (have f3 := (hSw.cell U 3 l4U nU).trans u3); (have f4 := (hSw.cell U 4 l4U nU).trans u4); (have f5 := (hSw.cell U 5 l4U nU).trans u5); (have f6 := (hSw.cell U 6 l4U nU).trans u6); (have lw := Nat.lt_of_lt_of_le l4U hSw.size); go_simp; try (with_reducible rfl))))
 refine tT 1 ?_ rfl ?_ ?_; rotate_left; (focus intros; go_simp; try rfl); (try simp only [ly])
 refine oneH (i := 2) (by kernel_rfl) rfl (fun Kc hK => ?_)
 go_simp
 refine hK.out _ _ ?_ (fun hHeld => ?_)
 ·(show Buts _ _ _; repeat' (first | (with_reducible exact hHeld) | (with_reducible exact Buts.refl _ _) | (with_reducible refine Buts.drew ?_) | (with_reducible refine Buts.setR ?_ _ _)))
 clear hK Kc
 (try simp only [ly])
 refine tT 3 ?_ rfl ?_ ?_; rotate_left; (focus intros; go_simp; try rfl); (try simp only [ly])
 refine wpAnyH_done (by kernel_rfl) ?_ _
 (try simp only [ly])
 go_wp2
 refine bodyPost_ret (v := .tuple #[.int .i64 (0), .agg #[.int .i64 y.id, .int .i64 y.kind, .int .i64 y.target, .int .i64 y.speed, .int .i64 y.mode, .int .i64 y.num, .int .i64 y.den], .bool false]) (by simp [results, Tryz.results98, go_sem, q0, q1, q2, q3, q4, q5, q6, qf, l4R]) rfl ⟨by rw [HEQ.out]; rfl, ?_⟩
 exact HB4.out.trans (hHeld.below W.heap.size (fun b hb => by have := HBW.out; omega) HB4.out.size)

set_option maxRecDepth 100000 in
theorem ablend_d2 (s : WS) (c : CmdS) (K : Nat) (rv : Value) (W : World) (h : WK W K s rv) (ho : (nextR s.a.ns s.a.ws).ok = true) (hm : 2 ≤ (nextR s.a.ns s.a.ws).x.mode) (hb : beyondB s.a.g.p c.target (nextR s.a.ns s.a.ws).x.target = true) (hd : (nextR s.a.ns s.a.ws).x.mode = 2) :
  Calls Tryz.prog 98 #[.pointer (some ⟨K, 0, none⟩), c.val] W fun x w' => x = .returned (.tuple #[.int .i64 (blendX s.a c).u, (blendX s.a c).x.val, .bool (blendX s.a c).ok]) ∧ Below W.heap.size W w' := by
 have HW := Lib.hid h
 have lK := h.lt
 obtain ⟨y, z, hla⟩ : ∃ y z, nextR s.a.ns s.a.ws = ⟨y, z⟩ := ⟨_, _, rfl⟩
 have HLA := Lib.hid hla
 have HE : Hid (blendX s.a c = if (z && decide (2 ≤ y.mode) && beyondB s.a.g.p c.target y.target) = true then ⟨blendU c y, y, true⟩ else ⟨0, y, false⟩) := Lib.hid (by unfold blendX; rw [hla])
 show Calls Tryz.prog 98 #[.pointer (some ⟨K, 0, none⟩), .agg #[.int .i64 c.id, .int .i64 c.kind, .int .i64 c.target, .int .i64 c.speed, .int .i64 c.mode, .int .i64 c.num, .int .i64 c.den]] W _
 rw [hla] at ho hm hb hd
 obtain rfl : z = true := ho
 dsimp only at hm hb hd
 have HEQ : Hid (blendX s.a c = ⟨min c.speed y.speed, y, true⟩) := Lib.hid (by rw [HE.out, decide_eq_true hm, hb]; show (⟨blendU c y, y, true⟩ : BlendR) = _; unfold blendU; simp [hd])
 have um : decide (y.mode < 2) = false := decide_eq_false (by omega)
 have um2 : (y.mode == 2) = true := by simp [hd]
 have um4 : (y.mode == 4) = false := by simp [hd]
 have um5 : (y.mode == 5) = false := by simp [hd]
 have HBY := Lib.hid hb
 clear hm hb hd
 clear h hla
 go_enter Tryz.func98, Tryz.ntmps98
 go_upto_region 1 with (fail)
 refine wp_name fun W1 hW => ?_
 obtain ⟨B, hB⟩ : ∃ B, B = W.heap.size := ⟨_, rfl⟩
 have hbel : Below W.heap.size W W1 := by rw [hW.out]; exact belowBy
 have hsz : W1.heap.size = B + 2 := by rw [hW.out, hB]; simp
 have e2 : W1.cell? ⟨B, 2, none⟩ = some (.int .i64 c.target) := by rw [hW.out, hB]; go_simp
 have e3 : W1.cell? ⟨B, 3, none⟩ = some (.int .i64 c.speed) := by rw [hW.out, hB]; go_simp
 have z0 : W1.cell? ⟨B + 1, 0, none⟩ = some (.int .i64 0) := by rw [hW.out, hB]; go_simp
 have z1 : W1.cell? ⟨B + 1, 1, none⟩ = some (.int .i64 0) := by rw [hW.out, hB]; go_simp
 have z2 : W1.cell? ⟨B + 1, 2, none⟩ = some (.int .i64 0) := by rw [hW.out, hB]; go_simp
 have z3 : W1.cell? ⟨B + 1, 3, none⟩ = some (.int .i64 0) := by rw [hW.out, hB]; go_simp
 have z4 : W1.cell? ⟨B + 1, 4, none⟩ = some (.int .i64 0) := by rw [hW.out, hB]; go_simp
 have z5 : W1.cell? ⟨B + 1, 5, none⟩ = some (.int .i64 0) := by rw [hW.out, hB]; go_simp
 have z6 : W1.cell? ⟨B + 1, 6, none⟩ = some (.int .i64 0) := by rw [hW.out, hB]; go_simp
 have zf : ∀ o, W1.frozen? ⟨B + 1, o, none⟩ = false := fun o => by rw [hW.out, hB]; go_simp
 have hlB : B < W1.heap.size := by omega
 have hlR : B + 1 < W1.heap.size := by omega
 have HBW : Hid (W.heap.size ≤ B) := Lib.hid (by omega)
 have HB := Lib.hid hbel
 obtain ⟨sv, nv, wv, cv, hp⟩ := HW.out.below hbel
 have HP1 := Lib.hid hp
 (try rw [← hB])
 clear hW hB hbel lK hsz
 have c_nv := hp.cell 14 _ rfl
 have c_wv := hp.cell 15 _ rfl
 have lK := hp.lt
 have fK := hp.froz
 clear hp
 go_wp2_with fail
 refine (lnext_at s.a.ns s.a.ws _ 0 _ HP1.out.ln).mono ?_
 rw [HLA.out]
 simp only [OnePost]
 rintro e w2 ⟨rfl, hb2⟩
 have HB2 := Lib.hid hb2
 clear hb2 c_nv c_wv lK fK
 go_upto_region 2 with (fail)
 refine wp_name fun W3 hW => ?_
 obtain ⟨U, hB⟩ : ∃ B, B = w2.heap.size := ⟨_, rfl⟩
 have hbel : Below w2.heap.size w2 W3 := by rw [hW.out]; exact belowBy
 have hlU : U < W3.heap.size := by rw [hW.out, hB]; simp
 have x0 : W3.cell? ⟨U, 0, none⟩ = some (.int .i64 y.id) := by rw [hW.out, hB]; go_simp
 have x1 : W3.cell? ⟨U, 1, none⟩ = some (.int .i64 y.kind) := by rw [hW.out, hB]; go_simp
 have x2 : W3.cell? ⟨U, 2, none⟩ = some (.int .i64 y.target) := by rw [hW.out, hB]; go_simp
 have x3 : W3.cell? ⟨U, 3, none⟩ = some (.int .i64 y.speed) := by rw [hW.out, hB]; go_simp
 have x4 : W3.cell? ⟨U, 4, none⟩ = some (.int .i64 y.mode) := by rw [hW.out, hB]; go_simp
 have x5 : W3.cell? ⟨U, 5, none⟩ = some (.int .i64 y.num) := by rw [hW.out, hB]; go_simp
 have x6 : W3.cell? ⟨U, 6, none⟩ = some (.int .i64 y.den) := by rw [hW.out, hB]; go_simp
 have hUR : B + 1 < U := by have := HB2.out.size; omega
 have hba : Below W1.heap.size W1 W3 := HB2.out.trans (hbel.mono HB2.out.size)
 have b2 := (hba.cell (p := ⟨B, 2, none⟩) hlB).trans e2
 have b3 := (hba.cell (p := ⟨B, 3, none⟩) hlB).trans e3
 have r0 := (hba.cell (p := ⟨(B + 1), 0, none⟩) hlR).trans z0
 have r1 := (hba.cell (p := ⟨(B + 1), 1, none⟩) hlR).trans z1
 have r2 := (hba.cell (p := ⟨(B + 1), 2, none⟩) hlR).trans z2
 have r3 := (hba.cell (p := ⟨(B + 1), 3, none⟩) hlR).trans z3
 have r4 := (hba.cell (p := ⟨(B + 1), 4, none⟩) hlR).trans z4
 have r5 := (hba.cell (p := ⟨(B + 1), 5, none⟩) hlR).trans z5
 have r6 := (hba.cell (p := ⟨(B + 1), 6, none⟩) hlR).trans z6
 have rf : ∀ o, W3.frozen? ⟨B + 1, o, none⟩ = false := fun o => (hba.frozen (p := ⟨B + 1, o, none⟩) hlR).trans (zf o)
 have HP3 := Lib.hid (HP1.out.below hba)
 have HB3 := Lib.hid (HB.out.trans (hba.mono HB.out.size))
 have lB := Nat.lt_of_lt_of_le hlB hba.size
 have lR := Nat.lt_of_lt_of_le hlR hba.size
 (try rw [← hB])
 (try simp only [Act.put])
 clear hW hB hbel hba hlB hlR HB HB2 HP1 e2 e3 z0 z1 z2 z3 z4 z5 z6 zf
 go_wp2_with fail
 refine wp_region_held_drew (S := fun w' => Below W3.heap.size W3 w') (by kernel_rfl) ?_ (fun hHeld => ?_)
 ·exact (Below.refl _ _).drew
 refine tT 0 ?_ rfl ?_ ?_; rotate_left; (focus intros; go_simp; try rfl)
 refine tT 1 ?_ rfl ?_ ?_; rotate_left; (focus intros; go_simp; try rfl)
 refine tT 2 ?_ rfl ?_ ?_; rotate_left; (focus intros; go_simp; try rfl); (try simp only [ly])
 refine tT 3 ?_ rfl ?_ ?_; rotate_left; (focus intros; go_simp; try rfl)
 (refine tT 4 ?_ rfl ?_ ?_; rotate_left; (focus (intro w' hSw; (try dsimp only at hSw); (have f := (hSw.cell (p := ⟨U, 4, none⟩) hlU).trans x4); (have lw := Nat.lt_of_lt_of_le hlU hSw.size); go_simp; try (with_reducible rfl))))
 refine tT 5 ?_ rfl ?_ ?_; rotate_left; (focus intros; go_simp; try rfl); (try simp only [ly])
 refine tT 6 ?_ rfl ?_ ?_; rotate_left; (focus intros; go_simp; try rfl)
 refine tT 7 ?_ rfl ?_ ?_; rotate_left; (focus intros; go_simp; try rfl)
 refine tT 8 ?_ rfl ?_ ?_; rotate_left; (focus intros; go_simp; try rfl); (try simp only [ly])
 refine tT 9 ?_ rfl ?_ ?_; rotate_left; (focus intros; go_simp; try rfl)
 refine tT 10 ?_ rfl ?_ ?_; rotate_left; (focus intros; go_simp; try rfl)
 refine tT 11 ?_ rfl ?_ ?_; rotate_left; (focus intros; go_simp; try rfl); (try simp only [ly])
 refine tT 12 ?_ rfl ?_ ?_; rotate_left; (focus intros; go_simp; try rfl)
 (refine tT 13 ?_ rfl ?_ ?_; rotate_left; (focus (intro w' hSw; (try dsimp only at hSw); (have hh := HP3.out.below hSw); (have f := hh.cell 10 _ rfl); (have lw := hh.lt); go_simp; try (with_reducible rfl))))
 refine tT 14 ?_ rfl ?_ ?_; rotate_left; (focus intros; go_simp; try rfl); (try simp only [ly])
 (refine tT 15 ?_ rfl ?_ ?_; rotate_left; (focus (intro w' hSw; (try dsimp only at hSw); (have f := (hSw.cell (p := ⟨B, 2, none⟩) lB).trans b2); (have lw := Nat.lt_of_lt_of_le lB hSw.size); go_simp; try (with_reducible rfl))))
 refine tT 16 ?_ rfl ?_ ?_; rotate_left; (focus intros; go_simp; try rfl)
 (refine tT 17 ?_ rfl ?_ ?_; rotate_left; (focus (intro w' hSw; (try dsimp only at hSw); (have f := (hSw.cell (p := ⟨U, 2, none⟩) hlU).trans x2); (have lw := Nat.lt_of_lt_of_le hlU hSw.size); go_simp; try (with_reducible rfl))); (try simp only [ly]))
 refine oneH (i := 18) (by kernel_rfl) rfl (fun Kc hK => ?_)
 go_simp
 go_at_call 115; refine (abeyond_at s.a.g.p c.target y.target true _ HBY.out).mono ?_; rintro e w' ⟨rfl, rfl⟩
 go_wp2_with fail
 refine hK.out _ _ (hHeld) (fun hHeld => ?_)
 clear hK Kc
 (try simp only [ly])
 refine tT 19 ?_ rfl ?_ ?_; rotate_left; (focus intros; go_simp; try rfl)
 refine tT 20 ?_ rfl ?_ ?_; rotate_left; (focus intros; go_simp; try rfl); (try simp only [ly])
 refine wpAnyH_done (by kernel_rfl) ?_ _
 (try simp only [ly])
 clear hHeld
 have HBD : Hid (Below W3.heap.size W3 W3.drew) := Lib.hid (Below.refl _ _).drew
 go_upto_region 4 with (fail)
 refine wp_name fun W4 hW => ?_
 have hb4 : Below W3.heap.size W3 W4 := by rw [hW.out]; exact belowBy
 have u0 := (hb4.cell (p := ⟨U, 0, none⟩) hlU).trans x0
 have u1 := (hb4.cell (p := ⟨U, 1, none⟩) hlU).trans x1
 have u2 := (hb4.cell (p := ⟨U, 2, none⟩) hlU).trans x2
 have u3 := (hb4.cell (p := ⟨U, 3, none⟩) hlU).trans x3
 have u4 := (hb4.cell (p := ⟨U, 4, none⟩) hlU).trans x4
 have u5 := (hb4.cell (p := ⟨U, 5, none⟩) hlU).trans x5
 have u6 := (hb4.cell (p := ⟨U, 6, none⟩) hlU).trans x6
 have v2 := (hb4.cell (p := ⟨B, 2, none⟩) lB).trans b2
 have v3 := (hb4.cell (p := ⟨B, 3, none⟩) lB).trans b3
 have q0 := (hb4.cell (p := ⟨(B + 1), 0, none⟩) lR).trans r0
 have q1 := (hb4.cell (p := ⟨(B + 1), 1, none⟩) lR).trans r1
 have q2 := (hb4.cell (p := ⟨(B + 1), 2, none⟩) lR).trans r2
 have q3 := (hb4.cell (p := ⟨(B + 1), 3, none⟩) lR).trans r3
 have q4 := (hb4.cell (p := ⟨(B + 1), 4, none⟩) lR).trans r4
 have q5 := (hb4.cell (p := ⟨(B + 1), 5, none⟩) lR).trans r5
 have q6 := (hb4.cell (p := ⟨(B + 1), 6, none⟩) lR).trans r6
 have qf : ∀ o, W4.frozen? ⟨B + 1, o, none⟩ = false := fun o => (hb4.frozen (p := ⟨B + 1, o, none⟩) lR).trans (rf o)
 have l4B := Nat.lt_of_lt_of_le lB hb4.size
 have l4R := Nat.lt_of_lt_of_le lR hb4.size
 have l4U := Nat.lt_of_lt_of_le hlU hb4.size
 have HB4 : Hid (Below W.heap.size W W4) := Lib.hid (HB3.out.trans (hb4.mono HB3.out.size))
 clear hW hb4 r0 r1 r2 r3 r4 r5 r6 rf x0 x1 x2 x3 x4 x5 x6 b2 b3 lB lR hlU
 go_upto_region 12 with (fail)
 have nU : ¬ U = B + 1 := by omega
 refine wp_region_held_drew (S := fun w' => Buts (fun b => b = B + 1) W4 w') (by kernel_rfl) ?_ (fun hHeld => ?_)
 ·exact (Buts.refl _ _).drew
 refine tT 0 ?_ rfl ?_ ?_; rotate_left; (focus intros; go_simp; try rfl)
 (refine tT 1 ?_ rfl ?_ ?_; rotate_left; (focus (intro w' hSw; (try dsimp only at hSw); (have f0 := (hSw.cell U 0 l4U nU).trans u0); (have f1 := (hSw.cell U 1 l4U nU).trans u1); (have f2 := (hSw.cell U 2 l4U nU).trans u2); (have f3 := (hSw.cell U 3 l4U nU).trans u3); (have f4 := (hSw.cell U 4 l4U nU).trans u4); (have f5 := (hSw.cell U 5 l4U nU).trans u5); (have f6 := (hSw.cell U 6 l4U nU).trans u6); (have lw := Nat.lt_of_lt_of_le l4U hSw.size); go_simp; try (with_reducible rfl))))
 refine tT 2 ?_ rfl ?_ ?_; rotate_left; (focus intros; go_simp; try rfl); (try simp only [ly])
 refine oneH (i := 3) (by kernel_rfl) rfl (fun Kc hK => ?_)
 go_simp
 refine hK.out _ _ ?_ (fun hHeld => ?_)
 ·(show Buts _ _ _; repeat' (first | (with_reducible exact hHeld) | (with_reducible exact Buts.refl _ _) | (with_reducible refine Buts.drew ?_) | (with_reducible refine Buts.setR ?_ _ _)))
 clear hK Kc
 (try simp only [ly])
 refine tT 4 ?_ rfl ?_ ?_; rotate_left; (focus intros; go_simp; try rfl); (try simp only [ly])
 refine wpAnyH_done (by kernel_rfl) ?_ _
 (try simp only [ly])
 go_wp2
 refine bodyPost_ret (v := .tuple #[.int .i64 (min c.speed y.speed), .agg #[.int .i64 y.id, .int .i64 y.kind, .int .i64 y.target, .int .i64 y.speed, .int .i64 y.mode, .int .i64 y.num, .int .i64 y.den], .bool true]) (by simp [results, Tryz.results98, go_sem, q0, q1, q2, q3, q4, q5, q6, qf, l4R]) rfl ⟨by rw [HEQ.out]; rfl, ?_⟩
 exact HB4.out.trans (hHeld.below W.heap.size (fun b hb => by have := HBW.out; omega) HB4.out.size)

set_option maxRecDepth 100000 in
theorem ablend_d4 (s : WS) (c : CmdS) (K : Nat) (rv : Value) (W : World) (h : WK W K s rv) (ho : (nextR s.a.ns s.a.ws).ok = true) (hm : 2 ≤ (nextR s.a.ns s.a.ws).x.mode) (hb : beyondB s.a.g.p c.target (nextR s.a.ns s.a.ws).x.target = true) (hd : (nextR s.a.ns s.a.ws).x.mode = 4) :
  Calls Tryz.prog 98 #[.pointer (some ⟨K, 0, none⟩), c.val] W fun x w' => x = .returned (.tuple #[.int .i64 (blendX s.a c).u, (blendX s.a c).x.val, .bool (blendX s.a c).ok]) ∧ Below W.heap.size W w' := by
 have HW := Lib.hid h
 have lK := h.lt
 obtain ⟨y, z, hla⟩ : ∃ y z, nextR s.a.ns s.a.ws = ⟨y, z⟩ := ⟨_, _, rfl⟩
 have HLA := Lib.hid hla
 have HE : Hid (blendX s.a c = if (z && decide (2 ≤ y.mode) && beyondB s.a.g.p c.target y.target) = true then ⟨blendU c y, y, true⟩ else ⟨0, y, false⟩) := Lib.hid (by unfold blendX; rw [hla])
 show Calls Tryz.prog 98 #[.pointer (some ⟨K, 0, none⟩), .agg #[.int .i64 c.id, .int .i64 c.kind, .int .i64 c.target, .int .i64 c.speed, .int .i64 c.mode, .int .i64 c.num, .int .i64 c.den]] W _
 rw [hla] at ho hm hb hd
 obtain rfl : z = true := ho
 dsimp only at hm hb hd
 have HEQ : Hid (blendX s.a c = ⟨y.speed, y, true⟩) := Lib.hid (by rw [HE.out, decide_eq_true hm, hb]; show (⟨blendU c y, y, true⟩ : BlendR) = _; unfold blendU; simp [hd])
 have um : decide (y.mode < 2) = false := decide_eq_false (by omega)
 have um2 : (y.mode == 2) = false := by simp [hd]
 have um4 : (y.mode == 4) = true := by simp [hd]
 have um5 : (y.mode == 5) = false := by simp [hd]
 have HBY := Lib.hid hb
 clear hm hb hd
 clear h hla
 go_enter Tryz.func98, Tryz.ntmps98
 go_upto_region 1 with (fail)
 refine wp_name fun W1 hW => ?_
 obtain ⟨B, hB⟩ : ∃ B, B = W.heap.size := ⟨_, rfl⟩
 have hbel : Below W.heap.size W W1 := by rw [hW.out]; exact belowBy
 have hsz : W1.heap.size = B + 2 := by rw [hW.out, hB]; simp
 have e2 : W1.cell? ⟨B, 2, none⟩ = some (.int .i64 c.target) := by rw [hW.out, hB]; go_simp
 have e3 : W1.cell? ⟨B, 3, none⟩ = some (.int .i64 c.speed) := by rw [hW.out, hB]; go_simp
 have z0 : W1.cell? ⟨B + 1, 0, none⟩ = some (.int .i64 0) := by rw [hW.out, hB]; go_simp
 have z1 : W1.cell? ⟨B + 1, 1, none⟩ = some (.int .i64 0) := by rw [hW.out, hB]; go_simp
 have z2 : W1.cell? ⟨B + 1, 2, none⟩ = some (.int .i64 0) := by rw [hW.out, hB]; go_simp
 have z3 : W1.cell? ⟨B + 1, 3, none⟩ = some (.int .i64 0) := by rw [hW.out, hB]; go_simp
 have z4 : W1.cell? ⟨B + 1, 4, none⟩ = some (.int .i64 0) := by rw [hW.out, hB]; go_simp
 have z5 : W1.cell? ⟨B + 1, 5, none⟩ = some (.int .i64 0) := by rw [hW.out, hB]; go_simp
 have z6 : W1.cell? ⟨B + 1, 6, none⟩ = some (.int .i64 0) := by rw [hW.out, hB]; go_simp
 have zf : ∀ o, W1.frozen? ⟨B + 1, o, none⟩ = false := fun o => by rw [hW.out, hB]; go_simp
 have hlB : B < W1.heap.size := by omega
 have hlR : B + 1 < W1.heap.size := by omega
 have HBW : Hid (W.heap.size ≤ B) := Lib.hid (by omega)
 have HB := Lib.hid hbel
 obtain ⟨sv, nv, wv, cv, hp⟩ := HW.out.below hbel
 have HP1 := Lib.hid hp
 (try rw [← hB])
 clear hW hB hbel lK hsz
 have c_nv := hp.cell 14 _ rfl
 have c_wv := hp.cell 15 _ rfl
 have lK := hp.lt
 have fK := hp.froz
 clear hp
 go_wp2_with fail
 refine (lnext_at s.a.ns s.a.ws _ 0 _ HP1.out.ln).mono ?_
 rw [HLA.out]
 simp only [OnePost]
 rintro e w2 ⟨rfl, hb2⟩
 have HB2 := Lib.hid hb2
 clear hb2 c_nv c_wv lK fK
 go_upto_region 2 with (fail)
 refine wp_name fun W3 hW => ?_
 obtain ⟨U, hB⟩ : ∃ B, B = w2.heap.size := ⟨_, rfl⟩
 have hbel : Below w2.heap.size w2 W3 := by rw [hW.out]; exact belowBy
 have hlU : U < W3.heap.size := by rw [hW.out, hB]; simp
 have x0 : W3.cell? ⟨U, 0, none⟩ = some (.int .i64 y.id) := by rw [hW.out, hB]; go_simp
 have x1 : W3.cell? ⟨U, 1, none⟩ = some (.int .i64 y.kind) := by rw [hW.out, hB]; go_simp
 have x2 : W3.cell? ⟨U, 2, none⟩ = some (.int .i64 y.target) := by rw [hW.out, hB]; go_simp
 have x3 : W3.cell? ⟨U, 3, none⟩ = some (.int .i64 y.speed) := by rw [hW.out, hB]; go_simp
 have x4 : W3.cell? ⟨U, 4, none⟩ = some (.int .i64 y.mode) := by rw [hW.out, hB]; go_simp
 have x5 : W3.cell? ⟨U, 5, none⟩ = some (.int .i64 y.num) := by rw [hW.out, hB]; go_simp
 have x6 : W3.cell? ⟨U, 6, none⟩ = some (.int .i64 y.den) := by rw [hW.out, hB]; go_simp
 have hUR : B + 1 < U := by have := HB2.out.size; omega
 have hba : Below W1.heap.size W1 W3 := HB2.out.trans (hbel.mono HB2.out.size)
 have b2 := (hba.cell (p := ⟨B, 2, none⟩) hlB).trans e2
 have b3 := (hba.cell (p := ⟨B, 3, none⟩) hlB).trans e3
 have r0 := (hba.cell (p := ⟨(B + 1), 0, none⟩) hlR).trans z0
 have r1 := (hba.cell (p := ⟨(B + 1), 1, none⟩) hlR).trans z1
 have r2 := (hba.cell (p := ⟨(B + 1), 2, none⟩) hlR).trans z2
 have r3 := (hba.cell (p := ⟨(B + 1), 3, none⟩) hlR).trans z3
 have r4 := (hba.cell (p := ⟨(B + 1), 4, none⟩) hlR).trans z4
 have r5 := (hba.cell (p := ⟨(B + 1), 5, none⟩) hlR).trans z5
 have r6 := (hba.cell (p := ⟨(B + 1), 6, none⟩) hlR).trans z6
 have rf : ∀ o, W3.frozen? ⟨B + 1, o, none⟩ = false := fun o => (hba.frozen (p := ⟨B + 1, o, none⟩) hlR).trans (zf o)
 have HP3 := Lib.hid (HP1.out.below hba)
 have HB3 := Lib.hid (HB.out.trans (hba.mono HB.out.size))
 have lB := Nat.lt_of_lt_of_le hlB hba.size
 have lR := Nat.lt_of_lt_of_le hlR hba.size
 (try rw [← hB])
 (try simp only [Act.put])
 clear hW hB hbel hba hlB hlR HB HB2 HP1 e2 e3 z0 z1 z2 z3 z4 z5 z6 zf
 go_wp2_with fail
 refine wp_region_held_drew (S := fun w' => Below W3.heap.size W3 w') (by kernel_rfl) ?_ (fun hHeld => ?_)
 ·exact (Below.refl _ _).drew
 refine tT 0 ?_ rfl ?_ ?_; rotate_left; (focus intros; go_simp; try rfl)
 refine tT 1 ?_ rfl ?_ ?_; rotate_left; (focus intros; go_simp; try rfl)
 refine tT 2 ?_ rfl ?_ ?_; rotate_left; (focus intros; go_simp; try rfl); (try simp only [ly])
 refine tT 3 ?_ rfl ?_ ?_; rotate_left; (focus intros; go_simp; try rfl)
 (refine tT 4 ?_ rfl ?_ ?_; rotate_left; (focus (intro w' hSw; (try dsimp only at hSw); (have f := (hSw.cell (p := ⟨U, 4, none⟩) hlU).trans x4); (have lw := Nat.lt_of_lt_of_le hlU hSw.size); go_simp; try (with_reducible rfl))))
 refine tT 5 ?_ rfl ?_ ?_; rotate_left; (focus intros; go_simp; try rfl); (try simp only [ly])
 refine tT 6 ?_ rfl ?_ ?_; rotate_left; (focus intros; go_simp; try rfl)
 refine tT 7 ?_ rfl ?_ ?_; rotate_left; (focus intros; go_simp; try rfl)
 refine tT 8 ?_ rfl ?_ ?_; rotate_left; (focus intros; go_simp; try rfl); (try simp only [ly])
 refine tT 9 ?_ rfl ?_ ?_; rotate_left; (focus intros; go_simp; try rfl)
 refine tT 10 ?_ rfl ?_ ?_; rotate_left; (focus intros; go_simp; try rfl)
 refine tT 11 ?_ rfl ?_ ?_; rotate_left; (focus intros; go_simp; try rfl); (try simp only [ly])
 refine tT 12 ?_ rfl ?_ ?_; rotate_left; (focus intros; go_simp; try rfl)
 (refine tT 13 ?_ rfl ?_ ?_; rotate_left; (focus (intro w' hSw; (try dsimp only at hSw); (have hh := HP3.out.below hSw); (have f := hh.cell 10 _ rfl); (have lw := hh.lt); go_simp; try (with_reducible rfl))))
 refine tT 14 ?_ rfl ?_ ?_; rotate_left; (focus intros; go_simp; try rfl); (try simp only [ly])
 (refine tT 15 ?_ rfl ?_ ?_; rotate_left; (focus (intro w' hSw; (try dsimp only at hSw); (have f := (hSw.cell (p := ⟨B, 2, none⟩) lB).trans b2); (have lw := Nat.lt_of_lt_of_le lB hSw.size); go_simp; try (with_reducible rfl))))
 refine tT 16 ?_ rfl ?_ ?_; rotate_left; (focus intros; go_simp; try rfl)
 (refine tT 17 ?_ rfl ?_ ?_; rotate_left; (focus (intro w' hSw; (try dsimp only at hSw); (have f := (hSw.cell (p := ⟨U, 2, none⟩) hlU).trans x2); (have lw := Nat.lt_of_lt_of_le hlU hSw.size); go_simp; try (with_reducible rfl))); (try simp only [ly]))
 refine oneH (i := 18) (by kernel_rfl) rfl (fun Kc hK => ?_)
 go_simp
 go_at_call 115; refine (abeyond_at s.a.g.p c.target y.target true _ HBY.out).mono ?_; rintro e w' ⟨rfl, rfl⟩
 go_wp2_with fail
 refine hK.out _ _ (hHeld) (fun hHeld => ?_)
 clear hK Kc
 (try simp only [ly])
 refine tT 19 ?_ rfl ?_ ?_; rotate_left; (focus intros; go_simp; try rfl)
 refine tT 20 ?_ rfl ?_ ?_; rotate_left; (focus intros; go_simp; try rfl); (try simp only [ly])
 refine wpAnyH_done (by kernel_rfl) ?_ _
 (try simp only [ly])
 clear hHeld
 have HBD : Hid (Below W3.heap.size W3 W3.drew) := Lib.hid (Below.refl _ _).drew
 go_upto_region 4 with (fail)
 refine wp_name fun W4 hW => ?_
 have hb4 : Below W3.heap.size W3 W4 := by rw [hW.out]; exact belowBy
 have u0 := (hb4.cell (p := ⟨U, 0, none⟩) hlU).trans x0
 have u1 := (hb4.cell (p := ⟨U, 1, none⟩) hlU).trans x1
 have u2 := (hb4.cell (p := ⟨U, 2, none⟩) hlU).trans x2
 have u3 := (hb4.cell (p := ⟨U, 3, none⟩) hlU).trans x3
 have u4 := (hb4.cell (p := ⟨U, 4, none⟩) hlU).trans x4
 have u5 := (hb4.cell (p := ⟨U, 5, none⟩) hlU).trans x5
 have u6 := (hb4.cell (p := ⟨U, 6, none⟩) hlU).trans x6
 have v2 := (hb4.cell (p := ⟨B, 2, none⟩) lB).trans b2
 have v3 := (hb4.cell (p := ⟨B, 3, none⟩) lB).trans b3
 have q0 := (hb4.cell (p := ⟨(B + 1), 0, none⟩) lR).trans r0
 have q1 := (hb4.cell (p := ⟨(B + 1), 1, none⟩) lR).trans r1
 have q2 := (hb4.cell (p := ⟨(B + 1), 2, none⟩) lR).trans r2
 have q3 := (hb4.cell (p := ⟨(B + 1), 3, none⟩) lR).trans r3
 have q4 := (hb4.cell (p := ⟨(B + 1), 4, none⟩) lR).trans r4
 have q5 := (hb4.cell (p := ⟨(B + 1), 5, none⟩) lR).trans r5
 have q6 := (hb4.cell (p := ⟨(B + 1), 6, none⟩) lR).trans r6
 have qf : ∀ o, W4.frozen? ⟨B + 1, o, none⟩ = false := fun o => (hb4.frozen (p := ⟨B + 1, o, none⟩) lR).trans (rf o)
 have l4B := Nat.lt_of_lt_of_le lB hb4.size
 have l4R := Nat.lt_of_lt_of_le lR hb4.size
 have l4U := Nat.lt_of_lt_of_le hlU hb4.size
 have HB4 : Hid (Below W.heap.size W W4) := Lib.hid (HB3.out.trans (hb4.mono HB3.out.size))
 clear hW hb4 r0 r1 r2 r3 r4 r5 r6 rf x0 x1 x2 x3 x4 x5 x6 b2 b3 lB lR hlU
 go_upto_region 12 with (fail)
 have nU : ¬ U = B + 1 := by omega
 refine wp_region_held_drew (S := fun w' => Buts (fun b => b = B + 1) W4 w') (by kernel_rfl) ?_ (fun hHeld => ?_)
 ·exact (Buts.refl _ _).drew
 refine tT 0 ?_ rfl ?_ ?_; rotate_left; (focus intros; go_simp; try rfl)
 (refine tT 1 ?_ rfl ?_ ?_; rotate_left; (focus (intro w' hSw; (try dsimp only at hSw); (have f0 := (hSw.cell U 0 l4U nU).trans u0); (have f1 := (hSw.cell U 1 l4U nU).trans u1); (have f2 := (hSw.cell U 2 l4U nU).trans u2); (have f3 := (hSw.cell U 3 l4U nU).trans u3); (have f4 := (hSw.cell U 4 l4U nU).trans u4); (have f5 := (hSw.cell U 5 l4U nU).trans u5); (have f6 := (hSw.cell U 6 l4U nU).trans u6); (have lw := Nat.lt_of_lt_of_le l4U hSw.size); go_simp; try (with_reducible rfl))))
 refine tT 2 ?_ rfl ?_ ?_; rotate_left; (focus intros; go_simp; try rfl); (try simp only [ly])
 refine oneH (i := 3) (by kernel_rfl) rfl (fun Kc hK => ?_)
 go_simp
 refine hK.out _ _ ?_ (fun hHeld => ?_)
 ·(show Buts _ _ _; repeat' (first | (with_reducible exact hHeld) | (with_reducible exact Buts.refl _ _) | (with_reducible refine Buts.drew ?_) | (with_reducible refine Buts.setR ?_ _ _)))
 clear hK Kc
 (try simp only [ly])
 refine tT 4 ?_ rfl ?_ ?_; rotate_left; (focus intros; go_simp; try rfl); (try simp only [ly])
 refine wpAnyH_done (by kernel_rfl) ?_ _
 (try simp only [ly])
 go_wp2
 refine bodyPost_ret (v := .tuple #[.int .i64 (y.speed), .agg #[.int .i64 y.id, .int .i64 y.kind, .int .i64 y.target, .int .i64 y.speed, .int .i64 y.mode, .int .i64 y.num, .int .i64 y.den], .bool true]) (by simp [results, Tryz.results98, go_sem, q0, q1, q2, q3, q4, q5, q6, qf, l4R]) rfl ⟨by rw [HEQ.out]; rfl, ?_⟩
 exact HB4.out.trans (hHeld.below W.heap.size (fun b hb => by have := HBW.out; omega) HB4.out.size)

set_option maxRecDepth 100000 in
theorem ablend_d5 (s : WS) (c : CmdS) (K : Nat) (rv : Value) (W : World) (h : WK W K s rv) (ho : (nextR s.a.ns s.a.ws).ok = true) (hm : 2 ≤ (nextR s.a.ns s.a.ws).x.mode) (hb : beyondB s.a.g.p c.target (nextR s.a.ns s.a.ws).x.target = true) (hd : (nextR s.a.ns s.a.ws).x.mode = 5) :
  Calls Tryz.prog 98 #[.pointer (some ⟨K, 0, none⟩), c.val] W fun x w' => x = .returned (.tuple #[.int .i64 (blendX s.a c).u, (blendX s.a c).x.val, .bool (blendX s.a c).ok]) ∧ Below W.heap.size W w' := by
 have HW := Lib.hid h
 have lK := h.lt
 obtain ⟨y, z, hla⟩ : ∃ y z, nextR s.a.ns s.a.ws = ⟨y, z⟩ := ⟨_, _, rfl⟩
 have HLA := Lib.hid hla
 have HE : Hid (blendX s.a c = if (z && decide (2 ≤ y.mode) && beyondB s.a.g.p c.target y.target) = true then ⟨blendU c y, y, true⟩ else ⟨0, y, false⟩) := Lib.hid (by unfold blendX; rw [hla])
 show Calls Tryz.prog 98 #[.pointer (some ⟨K, 0, none⟩), .agg #[.int .i64 c.id, .int .i64 c.kind, .int .i64 c.target, .int .i64 c.speed, .int .i64 c.mode, .int .i64 c.num, .int .i64 c.den]] W _
 rw [hla] at ho hm hb hd
 obtain rfl : z = true := ho
 dsimp only at hm hb hd
 have HEQ : Hid (blendX s.a c = ⟨max c.speed y.speed, y, true⟩) := Lib.hid (by rw [HE.out, decide_eq_true hm, hb]; show (⟨blendU c y, y, true⟩ : BlendR) = _; unfold blendU; simp [hd])
 have um : decide (y.mode < 2) = false := decide_eq_false (by omega)
 have um2 : (y.mode == 2) = false := by simp [hd]
 have um4 : (y.mode == 4) = false := by simp [hd]
 have um5 : (y.mode == 5) = true := by simp [hd]
 have HBY := Lib.hid hb
 clear hm hb hd
 clear h hla
 go_enter Tryz.func98, Tryz.ntmps98
 go_upto_region 1 with (fail)
 refine wp_name fun W1 hW => ?_
 obtain ⟨B, hB⟩ : ∃ B, B = W.heap.size := ⟨_, rfl⟩
 have hbel : Below W.heap.size W W1 := by rw [hW.out]; exact belowBy
 have hsz : W1.heap.size = B + 2 := by rw [hW.out, hB]; simp
 have e2 : W1.cell? ⟨B, 2, none⟩ = some (.int .i64 c.target) := by rw [hW.out, hB]; go_simp
 have e3 : W1.cell? ⟨B, 3, none⟩ = some (.int .i64 c.speed) := by rw [hW.out, hB]; go_simp
 have z0 : W1.cell? ⟨B + 1, 0, none⟩ = some (.int .i64 0) := by rw [hW.out, hB]; go_simp
 have z1 : W1.cell? ⟨B + 1, 1, none⟩ = some (.int .i64 0) := by rw [hW.out, hB]; go_simp
 have z2 : W1.cell? ⟨B + 1, 2, none⟩ = some (.int .i64 0) := by rw [hW.out, hB]; go_simp
 have z3 : W1.cell? ⟨B + 1, 3, none⟩ = some (.int .i64 0) := by rw [hW.out, hB]; go_simp
 have z4 : W1.cell? ⟨B + 1, 4, none⟩ = some (.int .i64 0) := by rw [hW.out, hB]; go_simp
 have z5 : W1.cell? ⟨B + 1, 5, none⟩ = some (.int .i64 0) := by rw [hW.out, hB]; go_simp
 have z6 : W1.cell? ⟨B + 1, 6, none⟩ = some (.int .i64 0) := by rw [hW.out, hB]; go_simp
 have zf : ∀ o, W1.frozen? ⟨B + 1, o, none⟩ = false := fun o => by rw [hW.out, hB]; go_simp
 have hlB : B < W1.heap.size := by omega
 have hlR : B + 1 < W1.heap.size := by omega
 have HBW : Hid (W.heap.size ≤ B) := Lib.hid (by omega)
 have HB := Lib.hid hbel
 obtain ⟨sv, nv, wv, cv, hp⟩ := HW.out.below hbel
 have HP1 := Lib.hid hp
 (try rw [← hB])
 clear hW hB hbel lK hsz
 have c_nv := hp.cell 14 _ rfl
 have c_wv := hp.cell 15 _ rfl
 have lK := hp.lt
 have fK := hp.froz
 clear hp
 go_wp2_with fail
 refine (lnext_at s.a.ns s.a.ws _ 0 _ HP1.out.ln).mono ?_
 rw [HLA.out]
 simp only [OnePost]
 rintro e w2 ⟨rfl, hb2⟩
 have HB2 := Lib.hid hb2
 clear hb2 c_nv c_wv lK fK
 go_upto_region 2 with (fail)
 refine wp_name fun W3 hW => ?_
 obtain ⟨U, hB⟩ : ∃ B, B = w2.heap.size := ⟨_, rfl⟩
 have hbel : Below w2.heap.size w2 W3 := by rw [hW.out]; exact belowBy
 have hlU : U < W3.heap.size := by rw [hW.out, hB]; simp
 have x0 : W3.cell? ⟨U, 0, none⟩ = some (.int .i64 y.id) := by rw [hW.out, hB]; go_simp
 have x1 : W3.cell? ⟨U, 1, none⟩ = some (.int .i64 y.kind) := by rw [hW.out, hB]; go_simp
 have x2 : W3.cell? ⟨U, 2, none⟩ = some (.int .i64 y.target) := by rw [hW.out, hB]; go_simp
 have x3 : W3.cell? ⟨U, 3, none⟩ = some (.int .i64 y.speed) := by rw [hW.out, hB]; go_simp
 have x4 : W3.cell? ⟨U, 4, none⟩ = some (.int .i64 y.mode) := by rw [hW.out, hB]; go_simp
 have x5 : W3.cell? ⟨U, 5, none⟩ = some (.int .i64 y.num) := by rw [hW.out, hB]; go_simp
 have x6 : W3.cell? ⟨U, 6, none⟩ = some (.int .i64 y.den) := by rw [hW.out, hB]; go_simp
 have hUR : B + 1 < U := by have := HB2.out.size; omega
 have hba : Below W1.heap.size W1 W3 := HB2.out.trans (hbel.mono HB2.out.size)
 have b2 := (hba.cell (p := ⟨B, 2, none⟩) hlB).trans e2
 have b3 := (hba.cell (p := ⟨B, 3, none⟩) hlB).trans e3
 have r0 := (hba.cell (p := ⟨(B + 1), 0, none⟩) hlR).trans z0
 have r1 := (hba.cell (p := ⟨(B + 1), 1, none⟩) hlR).trans z1
 have r2 := (hba.cell (p := ⟨(B + 1), 2, none⟩) hlR).trans z2
 have r3 := (hba.cell (p := ⟨(B + 1), 3, none⟩) hlR).trans z3
 have r4 := (hba.cell (p := ⟨(B + 1), 4, none⟩) hlR).trans z4
 have r5 := (hba.cell (p := ⟨(B + 1), 5, none⟩) hlR).trans z5
 have r6 := (hba.cell (p := ⟨(B + 1), 6, none⟩) hlR).trans z6
 have rf : ∀ o, W3.frozen? ⟨B + 1, o, none⟩ = false := fun o => (hba.frozen (p := ⟨B + 1, o, none⟩) hlR).trans (zf o)
 have HP3 := Lib.hid (HP1.out.below hba)
 have HB3 := Lib.hid (HB.out.trans (hba.mono HB.out.size))
 have lB := Nat.lt_of_lt_of_le hlB hba.size
 have lR := Nat.lt_of_lt_of_le hlR hba.size
 (try rw [← hB])
 (try simp only [Act.put])
 clear hW hB hbel hba hlB hlR HB HB2 HP1 e2 e3 z0 z1 z2 z3 z4 z5 z6 zf
 go_wp2_with fail
 refine wp_region_held_drew (S := fun w' => Below W3.heap.size W3 w') (by kernel_rfl) ?_ (fun hHeld => ?_)
 ·exact (Below.refl _ _).drew
 refine tT 0 ?_ rfl ?_ ?_; rotate_left; (focus intros; go_simp; try rfl)
 refine tT 1 ?_ rfl ?_ ?_; rotate_left; (focus intros; go_simp; try rfl)
 refine tT 2 ?_ rfl ?_ ?_; rotate_left; (focus intros; go_simp; try rfl); (try simp only [ly])
 refine tT 3 ?_ rfl ?_ ?_; rotate_left; (focus intros; go_simp; try rfl)
 (refine tT 4 ?_ rfl ?_ ?_; rotate_left; (focus (intro w' hSw; (try dsimp only at hSw); (have f := (hSw.cell (p := ⟨U, 4, none⟩) hlU).trans x4); (have lw := Nat.lt_of_lt_of_le hlU hSw.size); go_simp; try (with_reducible rfl))))
 refine tT 5 ?_ rfl ?_ ?_; rotate_left; (focus intros; go_simp; try rfl); (try simp only [ly])
 refine tT 6 ?_ rfl ?_ ?_; rotate_left; (focus intros; go_simp; try rfl)
 refine tT 7 ?_ rfl ?_ ?_; rotate_left; (focus intros; go_simp; try rfl)
 refine tT 8 ?_ rfl ?_ ?_; rotate_left; (focus intros; go_simp; try rfl); (try simp only [ly])
 refine tT 9 ?_ rfl ?_ ?_; rotate_left; (focus intros; go_simp; try rfl)
 refine tT 10 ?_ rfl ?_ ?_; rotate_left; (focus intros; go_simp; try rfl)
 refine tT 11 ?_ rfl ?_ ?_; rotate_left; (focus intros; go_simp; try rfl); (try simp only [ly])
 refine tT 12 ?_ rfl ?_ ?_; rotate_left; (focus intros; go_simp; try rfl)
 (refine tT 13 ?_ rfl ?_ ?_; rotate_left; (focus (intro w' hSw; (try dsimp only at hSw); (have hh := HP3.out.below hSw); (have f := hh.cell 10 _ rfl); (have lw := hh.lt); go_simp; try (with_reducible rfl))))
 refine tT 14 ?_ rfl ?_ ?_; rotate_left; (focus intros; go_simp; try rfl); (try simp only [ly])
 (refine tT 15 ?_ rfl ?_ ?_; rotate_left; (focus (intro w' hSw; (try dsimp only at hSw); (have f := (hSw.cell (p := ⟨B, 2, none⟩) lB).trans b2); (have lw := Nat.lt_of_lt_of_le lB hSw.size); go_simp; try (with_reducible rfl))))
 refine tT 16 ?_ rfl ?_ ?_; rotate_left; (focus intros; go_simp; try rfl)
 (refine tT 17 ?_ rfl ?_ ?_; rotate_left; (focus (intro w' hSw; (try dsimp only at hSw); (have f := (hSw.cell (p := ⟨U, 2, none⟩) hlU).trans x2); (have lw := Nat.lt_of_lt_of_le hlU hSw.size); go_simp; try (with_reducible rfl))); (try simp only [ly]))
 refine oneH (i := 18) (by kernel_rfl) rfl (fun Kc hK => ?_)
 go_simp
 go_at_call 115; refine (abeyond_at s.a.g.p c.target y.target true _ HBY.out).mono ?_; rintro e w' ⟨rfl, rfl⟩
 go_wp2_with fail
 refine hK.out _ _ (hHeld) (fun hHeld => ?_)
 clear hK Kc
 (try simp only [ly])
 refine tT 19 ?_ rfl ?_ ?_; rotate_left; (focus intros; go_simp; try rfl)
 refine tT 20 ?_ rfl ?_ ?_; rotate_left; (focus intros; go_simp; try rfl); (try simp only [ly])
 refine wpAnyH_done (by kernel_rfl) ?_ _
 (try simp only [ly])
 clear hHeld
 have HBD : Hid (Below W3.heap.size W3 W3.drew) := Lib.hid (Below.refl _ _).drew
 go_upto_region 4 with (fail)
 refine wp_name fun W4 hW => ?_
 have hb4 : Below W3.heap.size W3 W4 := by rw [hW.out]; exact belowBy
 have u0 := (hb4.cell (p := ⟨U, 0, none⟩) hlU).trans x0
 have u1 := (hb4.cell (p := ⟨U, 1, none⟩) hlU).trans x1
 have u2 := (hb4.cell (p := ⟨U, 2, none⟩) hlU).trans x2
 have u3 := (hb4.cell (p := ⟨U, 3, none⟩) hlU).trans x3
 have u4 := (hb4.cell (p := ⟨U, 4, none⟩) hlU).trans x4
 have u5 := (hb4.cell (p := ⟨U, 5, none⟩) hlU).trans x5
 have u6 := (hb4.cell (p := ⟨U, 6, none⟩) hlU).trans x6
 have v2 := (hb4.cell (p := ⟨B, 2, none⟩) lB).trans b2
 have v3 := (hb4.cell (p := ⟨B, 3, none⟩) lB).trans b3
 have q0 := (hb4.cell (p := ⟨(B + 1), 0, none⟩) lR).trans r0
 have q1 := (hb4.cell (p := ⟨(B + 1), 1, none⟩) lR).trans r1
 have q2 := (hb4.cell (p := ⟨(B + 1), 2, none⟩) lR).trans r2
 have q3 := (hb4.cell (p := ⟨(B + 1), 3, none⟩) lR).trans r3
 have q4 := (hb4.cell (p := ⟨(B + 1), 4, none⟩) lR).trans r4
 have q5 := (hb4.cell (p := ⟨(B + 1), 5, none⟩) lR).trans r5
 have q6 := (hb4.cell (p := ⟨(B + 1), 6, none⟩) lR).trans r6
 have qf : ∀ o, W4.frozen? ⟨B + 1, o, none⟩ = false := fun o => (hb4.frozen (p := ⟨B + 1, o, none⟩) lR).trans (rf o)
 have l4B := Nat.lt_of_lt_of_le lB hb4.size
 have l4R := Nat.lt_of_lt_of_le lR hb4.size
 have l4U := Nat.lt_of_lt_of_le hlU hb4.size
 have HB4 : Hid (Below W.heap.size W W4) := Lib.hid (HB3.out.trans (hb4.mono HB3.out.size))
 clear hW hb4 r0 r1 r2 r3 r4 r5 r6 rf x0 x1 x2 x3 x4 x5 x6 b2 b3 lB lR hlU
 go_upto_region 12 with (fail)
 have nU : ¬ U = B + 1 := by omega
 refine wp_region_held_drew (S := fun w' => Buts (fun b => b = B + 1) W4 w') (by kernel_rfl) ?_ (fun hHeld => ?_)
 ·exact (Buts.refl _ _).drew
 refine tT 0 ?_ rfl ?_ ?_; rotate_left; (focus intros; go_simp; try rfl)
 (refine tT 1 ?_ rfl ?_ ?_; rotate_left; (focus (intro w' hSw; (try dsimp only at hSw); (have f0 := (hSw.cell U 0 l4U nU).trans u0); (have f1 := (hSw.cell U 1 l4U nU).trans u1); (have f2 := (hSw.cell U 2 l4U nU).trans u2); (have f3 := (hSw.cell U 3 l4U nU).trans u3); (have f4 := (hSw.cell U 4 l4U nU).trans u4); (have f5 := (hSw.cell U 5 l4U nU).trans u5); (have f6 := (hSw.cell U 6 l4U nU).trans u6); (have lw := Nat.lt_of_lt_of_le l4U hSw.size); go_simp; try (with_reducible rfl))))
 refine tT 2 ?_ rfl ?_ ?_; rotate_left; (focus intros; go_simp; try rfl); (try simp only [ly])
 refine oneH (i := 3) (by kernel_rfl) rfl (fun Kc hK => ?_)
 go_simp
 refine hK.out _ _ ?_ (fun hHeld => ?_)
 ·(show Buts _ _ _; repeat' (first | (with_reducible exact hHeld) | (with_reducible exact Buts.refl _ _) | (with_reducible refine Buts.drew ?_) | (with_reducible refine Buts.setR ?_ _ _)))
 clear hK Kc
 (try simp only [ly])
 refine tT 4 ?_ rfl ?_ ?_; rotate_left; (focus intros; go_simp; try rfl); (try simp only [ly])
 refine wpAnyH_done (by kernel_rfl) ?_ _
 (try simp only [ly])
 go_wp2
 refine bodyPost_ret (v := .tuple #[.int .i64 (max c.speed y.speed), .agg #[.int .i64 y.id, .int .i64 y.kind, .int .i64 y.target, .int .i64 y.speed, .int .i64 y.mode, .int .i64 y.num, .int .i64 y.den], .bool true]) (by simp [results, Tryz.results98, go_sem, q0, q1, q2, q3, q4, q5, q6, qf, l4R]) rfl ⟨by rw [HEQ.out]; rfl, ?_⟩
 exact HB4.out.trans (hHeld.below W.heap.size (fun b hb => by have := HBW.out; omega) HB4.out.size)

set_option maxRecDepth 100000 in
theorem ablend_d0 (s : WS) (c : CmdS) (K : Nat) (rv : Value) (W : World) (h : WK W K s rv) (ho : (nextR s.a.ns s.a.ws).ok = true) (hm : 2 ≤ (nextR s.a.ns s.a.ws).x.mode) (hb : beyondB s.a.g.p c.target (nextR s.a.ns s.a.ws).x.target = true) (hd : (nextR s.a.ns s.a.ws).x.mode ≠ 2 ∧ (nextR s.a.ns s.a.ws).x.mode ≠ 4 ∧ (nextR s.a.ns s.a.ws).x.mode ≠ 5) :
  Calls Tryz.prog 98 #[.pointer (some ⟨K, 0, none⟩), c.val] W fun x w' => x = .returned (.tuple #[.int .i64 (blendX s.a c).u, (blendX s.a c).x.val, .bool (blendX s.a c).ok]) ∧ Below W.heap.size W w' := by
 have HW := Lib.hid h
 have lK := h.lt
 obtain ⟨y, z, hla⟩ : ∃ y z, nextR s.a.ns s.a.ws = ⟨y, z⟩ := ⟨_, _, rfl⟩
 have HLA := Lib.hid hla
 have HE : Hid (blendX s.a c = if (z && decide (2 ≤ y.mode) && beyondB s.a.g.p c.target y.target) = true then ⟨blendU c y, y, true⟩ else ⟨0, y, false⟩) := Lib.hid (by unfold blendX; rw [hla])
 show Calls Tryz.prog 98 #[.pointer (some ⟨K, 0, none⟩), .agg #[.int .i64 c.id, .int .i64 c.kind, .int .i64 c.target, .int .i64 c.speed, .int .i64 c.mode, .int .i64 c.num, .int .i64 c.den]] W _
 rw [hla] at ho hm hb hd
 obtain rfl : z = true := ho
 dsimp only at hm hb hd
 have HEQ : Hid (blendX s.a c = ⟨c.speed, y, true⟩) := Lib.hid (by rw [HE.out, decide_eq_true hm, hb]; show (⟨blendU c y, y, true⟩ : BlendR) = _; unfold blendU; simp [hd])
 have um : decide (y.mode < 2) = false := decide_eq_false (by omega)
 have um2 : (y.mode == 2) = false := by simp [hd]
 have um4 : (y.mode == 4) = false := by simp [hd]
 have um5 : (y.mode == 5) = false := by simp [hd]
 have HBY := Lib.hid hb
 clear hm hb hd
 clear h hla
 go_enter Tryz.func98, Tryz.ntmps98
 go_upto_region 1 with (fail)
 refine wp_name fun W1 hW => ?_
 obtain ⟨B, hB⟩ : ∃ B, B = W.heap.size := ⟨_, rfl⟩
 have hbel : Below W.heap.size W W1 := by rw [hW.out]; exact belowBy
 have hsz : W1.heap.size = B + 2 := by rw [hW.out, hB]; simp
 have e2 : W1.cell? ⟨B, 2, none⟩ = some (.int .i64 c.target) := by rw [hW.out, hB]; go_simp
 have e3 : W1.cell? ⟨B, 3, none⟩ = some (.int .i64 c.speed) := by rw [hW.out, hB]; go_simp
 have z0 : W1.cell? ⟨B + 1, 0, none⟩ = some (.int .i64 0) := by rw [hW.out, hB]; go_simp
 have z1 : W1.cell? ⟨B + 1, 1, none⟩ = some (.int .i64 0) := by rw [hW.out, hB]; go_simp
 have z2 : W1.cell? ⟨B + 1, 2, none⟩ = some (.int .i64 0) := by rw [hW.out, hB]; go_simp
 have z3 : W1.cell? ⟨B + 1, 3, none⟩ = some (.int .i64 0) := by rw [hW.out, hB]; go_simp
 have z4 : W1.cell? ⟨B + 1, 4, none⟩ = some (.int .i64 0) := by rw [hW.out, hB]; go_simp
 have z5 : W1.cell? ⟨B + 1, 5, none⟩ = some (.int .i64 0) := by rw [hW.out, hB]; go_simp
 have z6 : W1.cell? ⟨B + 1, 6, none⟩ = some (.int .i64 0) := by rw [hW.out, hB]; go_simp
 have zf : ∀ o, W1.frozen? ⟨B + 1, o, none⟩ = false := fun o => by rw [hW.out, hB]; go_simp
 have hlB : B < W1.heap.size := by omega
 have hlR : B + 1 < W1.heap.size := by omega
 have HBW : Hid (W.heap.size ≤ B) := Lib.hid (by omega)
 have HB := Lib.hid hbel
 obtain ⟨sv, nv, wv, cv, hp⟩ := HW.out.below hbel
 have HP1 := Lib.hid hp
 (try rw [← hB])
 clear hW hB hbel lK hsz
 have c_nv := hp.cell 14 _ rfl
 have c_wv := hp.cell 15 _ rfl
 have lK := hp.lt
 have fK := hp.froz
 clear hp
 go_wp2_with fail
 refine (lnext_at s.a.ns s.a.ws _ 0 _ HP1.out.ln).mono ?_
 rw [HLA.out]
 simp only [OnePost]
 rintro e w2 ⟨rfl, hb2⟩
 have HB2 := Lib.hid hb2
 clear hb2 c_nv c_wv lK fK
 go_upto_region 2 with (fail)
 refine wp_name fun W3 hW => ?_
 obtain ⟨U, hB⟩ : ∃ B, B = w2.heap.size := ⟨_, rfl⟩
 have hbel : Below w2.heap.size w2 W3 := by rw [hW.out]; exact belowBy
 have hlU : U < W3.heap.size := by rw [hW.out, hB]; simp
 have x0 : W3.cell? ⟨U, 0, none⟩ = some (.int .i64 y.id) := by rw [hW.out, hB]; go_simp
 have x1 : W3.cell? ⟨U, 1, none⟩ = some (.int .i64 y.kind) := by rw [hW.out, hB]; go_simp
 have x2 : W3.cell? ⟨U, 2, none⟩ = some (.int .i64 y.target) := by rw [hW.out, hB]; go_simp
 have x3 : W3.cell? ⟨U, 3, none⟩ = some (.int .i64 y.speed) := by rw [hW.out, hB]; go_simp
 have x4 : W3.cell? ⟨U, 4, none⟩ = some (.int .i64 y.mode) := by rw [hW.out, hB]; go_simp
 have x5 : W3.cell? ⟨U, 5, none⟩ = some (.int .i64 y.num) := by rw [hW.out, hB]; go_simp
 have x6 : W3.cell? ⟨U, 6, none⟩ = some (.int .i64 y.den) := by rw [hW.out, hB]; go_simp
 have hUR : B + 1 < U := by have := HB2.out.size; omega
 have hba : Below W1.heap.size W1 W3 := HB2.out.trans (hbel.mono HB2.out.size)
 have b2 := (hba.cell (p := ⟨B, 2, none⟩) hlB).trans e2
 have b3 := (hba.cell (p := ⟨B, 3, none⟩) hlB).trans e3
 have r0 := (hba.cell (p := ⟨(B + 1), 0, none⟩) hlR).trans z0
 have r1 := (hba.cell (p := ⟨(B + 1), 1, none⟩) hlR).trans z1
 have r2 := (hba.cell (p := ⟨(B + 1), 2, none⟩) hlR).trans z2
 have r3 := (hba.cell (p := ⟨(B + 1), 3, none⟩) hlR).trans z3
 have r4 := (hba.cell (p := ⟨(B + 1), 4, none⟩) hlR).trans z4
 have r5 := (hba.cell (p := ⟨(B + 1), 5, none⟩) hlR).trans z5
 have r6 := (hba.cell (p := ⟨(B + 1), 6, none⟩) hlR).trans z6
 have rf : ∀ o, W3.frozen? ⟨B + 1, o, none⟩ = false := fun o => (hba.frozen (p := ⟨B + 1, o, none⟩) hlR).trans (zf o)
 have HP3 := Lib.hid (HP1.out.below hba)
 have HB3 := Lib.hid (HB.out.trans (hba.mono HB.out.size))
 have lB := Nat.lt_of_lt_of_le hlB hba.size
 have lR := Nat.lt_of_lt_of_le hlR hba.size
 (try rw [← hB])
 (try simp only [Act.put])
 clear hW hB hbel hba hlB hlR HB HB2 HP1 e2 e3 z0 z1 z2 z3 z4 z5 z6 zf
 go_wp2_with fail
 refine wp_region_held_drew (S := fun w' => Below W3.heap.size W3 w') (by kernel_rfl) ?_ (fun hHeld => ?_)
 ·exact (Below.refl _ _).drew
 refine tT 0 ?_ rfl ?_ ?_; rotate_left; (focus intros; go_simp; try rfl)
 refine tT 1 ?_ rfl ?_ ?_; rotate_left; (focus intros; go_simp; try rfl)
 refine tT 2 ?_ rfl ?_ ?_; rotate_left; (focus intros; go_simp; try rfl); (try simp only [ly])
 refine tT 3 ?_ rfl ?_ ?_; rotate_left; (focus intros; go_simp; try rfl)
 (refine tT 4 ?_ rfl ?_ ?_; rotate_left; (focus (intro w' hSw; (try dsimp only at hSw); (have f := (hSw.cell (p := ⟨U, 4, none⟩) hlU).trans x4); (have lw := Nat.lt_of_lt_of_le hlU hSw.size); go_simp; try (with_reducible rfl))))
 refine tT 5 ?_ rfl ?_ ?_; rotate_left; (focus intros; go_simp; try rfl); (try simp only [ly])
 refine tT 6 ?_ rfl ?_ ?_; rotate_left; (focus intros; go_simp; try rfl)
 refine tT 7 ?_ rfl ?_ ?_; rotate_left; (focus intros; go_simp; try rfl)
 refine tT 8 ?_ rfl ?_ ?_; rotate_left; (focus intros; go_simp; try rfl); (try simp only [ly])
 refine tT 9 ?_ rfl ?_ ?_; rotate_left; (focus intros; go_simp; try rfl)
 refine tT 10 ?_ rfl ?_ ?_; rotate_left; (focus intros; go_simp; try rfl)
 refine tT 11 ?_ rfl ?_ ?_; rotate_left; (focus intros; go_simp; try rfl); (try simp only [ly])
 refine tT 12 ?_ rfl ?_ ?_; rotate_left; (focus intros; go_simp; try rfl)
 (refine tT 13 ?_ rfl ?_ ?_; rotate_left; (focus (intro w' hSw; (try dsimp only at hSw); (have hh := HP3.out.below hSw); (have f := hh.cell 10 _ rfl); (have lw := hh.lt); go_simp; try (with_reducible rfl))))
 refine tT 14 ?_ rfl ?_ ?_; rotate_left; (focus intros; go_simp; try rfl); (try simp only [ly])
 (refine tT 15 ?_ rfl ?_ ?_; rotate_left; (focus (intro w' hSw; (try dsimp only at hSw); (have f := (hSw.cell (p := ⟨B, 2, none⟩) lB).trans b2); (have lw := Nat.lt_of_lt_of_le lB hSw.size); go_simp; try (with_reducible rfl))))
 refine tT 16 ?_ rfl ?_ ?_; rotate_left; (focus intros; go_simp; try rfl)
 (refine tT 17 ?_ rfl ?_ ?_; rotate_left; (focus (intro w' hSw; (try dsimp only at hSw); (have f := (hSw.cell (p := ⟨U, 2, none⟩) hlU).trans x2); (have lw := Nat.lt_of_lt_of_le hlU hSw.size); go_simp; try (with_reducible rfl))); (try simp only [ly]))
 refine oneH (i := 18) (by kernel_rfl) rfl (fun Kc hK => ?_)
 go_simp
 go_at_call 115; refine (abeyond_at s.a.g.p c.target y.target true _ HBY.out).mono ?_; rintro e w' ⟨rfl, rfl⟩
 go_wp2_with fail
 refine hK.out _ _ (hHeld) (fun hHeld => ?_)
 clear hK Kc
 (try simp only [ly])
 refine tT 19 ?_ rfl ?_ ?_; rotate_left; (focus intros; go_simp; try rfl)
 refine tT 20 ?_ rfl ?_ ?_; rotate_left; (focus intros; go_simp; try rfl); (try simp only [ly])
 refine wpAnyH_done (by kernel_rfl) ?_ _
 (try simp only [ly])
 clear hHeld
 have HBD : Hid (Below W3.heap.size W3 W3.drew) := Lib.hid (Below.refl _ _).drew
 go_upto_region 4 with (fail)
 refine wp_name fun W4 hW => ?_
 have hb4 : Below W3.heap.size W3 W4 := by rw [hW.out]; exact belowBy
 have u0 := (hb4.cell (p := ⟨U, 0, none⟩) hlU).trans x0
 have u1 := (hb4.cell (p := ⟨U, 1, none⟩) hlU).trans x1
 have u2 := (hb4.cell (p := ⟨U, 2, none⟩) hlU).trans x2
 have u3 := (hb4.cell (p := ⟨U, 3, none⟩) hlU).trans x3
 have u4 := (hb4.cell (p := ⟨U, 4, none⟩) hlU).trans x4
 have u5 := (hb4.cell (p := ⟨U, 5, none⟩) hlU).trans x5
 have u6 := (hb4.cell (p := ⟨U, 6, none⟩) hlU).trans x6
 have v2 := (hb4.cell (p := ⟨B, 2, none⟩) lB).trans b2
 have v3 := (hb4.cell (p := ⟨B, 3, none⟩) lB).trans b3
 have q0 := (hb4.cell (p := ⟨(B + 1), 0, none⟩) lR).trans r0
 have q1 := (hb4.cell (p := ⟨(B + 1), 1, none⟩) lR).trans r1
 have q2 := (hb4.cell (p := ⟨(B + 1), 2, none⟩) lR).trans r2
 have q3 := (hb4.cell (p := ⟨(B + 1), 3, none⟩) lR).trans r3
 have q4 := (hb4.cell (p := ⟨(B + 1), 4, none⟩) lR).trans r4
 have q5 := (hb4.cell (p := ⟨(B + 1), 5, none⟩) lR).trans r5
 have q6 := (hb4.cell (p := ⟨(B + 1), 6, none⟩) lR).trans r6
 have qf : ∀ o, W4.frozen? ⟨B + 1, o, none⟩ = false := fun o => (hb4.frozen (p := ⟨B + 1, o, none⟩) lR).trans (rf o)
 have l4B := Nat.lt_of_lt_of_le lB hb4.size
 have l4R := Nat.lt_of_lt_of_le lR hb4.size
 have l4U := Nat.lt_of_lt_of_le hlU hb4.size
 have HB4 : Hid (Below W.heap.size W W4) := Lib.hid (HB3.out.trans (hb4.mono HB3.out.size))
 clear hW hb4 r0 r1 r2 r3 r4 r5 r6 rf x0 x1 x2 x3 x4 x5 x6 b2 b3 lB lR hlU
 go_upto_region 12 with (fail)
 have nU : ¬ U = B + 1 := by omega
 refine wp_region_held_drew (S := fun w' => Buts (fun b => b = B + 1) W4 w') (by kernel_rfl) ?_ (fun hHeld => ?_)
 ·exact (Buts.refl _ _).drew
 refine tT 0 ?_ rfl ?_ ?_; rotate_left; (focus intros; go_simp; try rfl)
 (refine tT 1 ?_ rfl ?_ ?_; rotate_left; (focus (intro w' hSw; (try dsimp only at hSw); (have f0 := (hSw.cell U 0 l4U nU).trans u0); (have f1 := (hSw.cell U 1 l4U nU).trans u1); (have f2 := (hSw.cell U 2 l4U nU).trans u2); (have f3 := (hSw.cell U 3 l4U nU).trans u3); (have f4 := (hSw.cell U 4 l4U nU).trans u4); (have f5 := (hSw.cell U 5 l4U nU).trans u5); (have f6 := (hSw.cell U 6 l4U nU).trans u6); (have lw := Nat.lt_of_lt_of_le l4U hSw.size); go_simp; try (with_reducible rfl))))
 refine tT 2 ?_ rfl ?_ ?_; rotate_left; (focus intros; go_simp; try rfl); (try simp only [ly])
 refine oneH (i := 3) (by kernel_rfl) rfl (fun Kc hK => ?_)
 go_simp
 refine hK.out _ _ ?_ (fun hHeld => ?_)
 ·(show Buts _ _ _; repeat' (first | (with_reducible exact hHeld) | (with_reducible exact Buts.refl _ _) | (with_reducible refine Buts.drew ?_) | (with_reducible refine Buts.setR ?_ _ _)))
 clear hK Kc
 (try simp only [ly])
 refine tT 4 ?_ rfl ?_ ?_; rotate_left; (focus intros; go_simp; try rfl); (try simp only [ly])
 refine wpAnyH_done (by kernel_rfl) ?_ _
 (try simp only [ly])
 go_wp2
 refine bodyPost_ret (v := .tuple #[.int .i64 (c.speed), .agg #[.int .i64 y.id, .int .i64 y.kind, .int .i64 y.target, .int .i64 y.speed, .int .i64 y.mode, .int .i64 y.num, .int .i64 y.den], .bool true]) (by simp [results, Tryz.results98, go_sem, q0, q1, q2, q3, q4, q5, q6, qf, l4R]) rfl ⟨by rw [HEQ.out]; rfl, ?_⟩
 exact HB4.out.trans (hHeld.below W.heap.size (fun b hb => by have := HBW.out; omega) HB4.out.size)

theorem ablend_at (s : WS) (c : CmdS) (K : Nat) (rv : Value) (W : World) (h : WK W K s rv) :
  Calls Tryz.prog 98 #[.pointer (some ⟨K, 0, none⟩), c.val] W fun x w' => x = .returned (.tuple #[.int .i64 (blendX s.a c).u, (blendX s.a c).x.val, .bool (blendX s.a c).ok]) ∧ Below W.heap.size W w' := by
 cases ho : (nextR s.a.ns s.a.ws).ok
 ·exact ablend_a s c K rv W h ho
 ·by_cases hm : 2 ≤ (nextR s.a.ns s.a.ws).x.mode
  ·cases hb : beyondB s.a.g.p c.target (nextR s.a.ns s.a.ws).x.target
   ·exact ablend_c s c K rv W h ho hm hb
   ·by_cases h2 : (nextR s.a.ns s.a.ws).x.mode = 2
    ·exact ablend_d2 s c K rv W h ho hm hb h2
    ·by_cases h4 : (nextR s.a.ns s.a.ws).x.mode = 4
     ·exact ablend_d4 s c K rv W h ho hm hb h4
     ·by_cases h5 : (nextR s.a.ns s.a.ws).x.mode = 5
      ·exact ablend_d5 s c K rv W h ho hm hb h5
      ·exact ablend_d0 s c K rv W h ho hm hb ⟨h2, h4, h5⟩
  ·exact ablend_b s c K rv W h ho hm

end Go.Proofs.YthhfnageadckkaaGreat
