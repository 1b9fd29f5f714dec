/- Merged: Layer 27: a program's motion blocks. PRINTED by wip/tool/mkinst.py Layer 27: what blocks are told, in plain Lean; the state of a telling. Layer 27: a program's blocks are told: the walk. PRINTED by wip/tool/mktell.py -/
import Derived.Test.YtknnhnefbbjcdaaDoorBlF
import Derived.Test.YtknnhnefbbjcdaaDoorM37
import Derived.Test.YtknnhnefbbjcdaaDoorHeld
import Derived.Deep.AppendLies
import Derived.Test.YtknnhnefbbjcdaaDoorM16
namespace Go.Proofs.YtknnhnefbbjcdaaDoor
open Go.RowKit
set_option linter.unusedVariables false
set_option linter.unusedSimpArgs false
attribute [local go_sem] ite_max ite_min vite_max vite_min ext_cell ext_frozen

structure BlK where
 num : Nat
 kind : Int
 off : Nat
def motB (t : Int) : Bool := decide (20 ≤ t) && decide (t ≤ 31)
theorem mot_kind {t : Int} (h : motB t = true) : t = 20 ∨ t = 21 ∨ t = 22 ∨ t = 23 ∨ t = 24 ∨ t = 25 ∨ t = 26 ∨ t = 27 ∨ t = 28 ∨ t = 29 ∨ t = 30 ∨ t = 31 := by
 unfold motB at h
 simp only [Bool.and_eq_true, decide_eq_true_eq] at h
 omega
theorem mot_count {t : Int} (h : motB t = true) : 1 ≤ rcount t := by
 rcases mot_kind h with rfl | rfl | rfl | rfl | rfl | rfl | rfl | rfl | rfl | rfl | rfl | rfl
 all_goals decide +kernel
def blkAt (vs : List VarS) (i : Nat) : List BlK := match vs[i]? with | some v => if motB v.type = true then [⟨i, v.type, sumN (vs.take i)⟩] else [] | none => []
def blksT (vs : List VarS) : Nat → List BlK
 | 0 => []
 | i + 1 => blksT vs i ++ blkAt vs i
def blks (vs : List VarS) : List BlK := blksT vs vs.length
theorem blksT_yes {vs : List VarS} {i : Nat} {v : VarS} (h : vs[i]? = some v) (hm : motB v.type = true) : blksT vs (i + 1) = blksT vs i ++ [⟨i, v.type, sumN (vs.take i)⟩] := by
 rw [blksT, blkAt, h]
 simp only [hm, if_true]
theorem blksT_no {vs : List VarS} {i : Nat} {v : VarS} (h : vs[i]? = some v) (hm : motB v.type = false) : blksT vs (i + 1) = blksT vs i := by
 rw [blksT, blkAt, h]
 simp only [hm]
 simp
theorem blksT_len (vs : List VarS) : ∀ i, (blksT vs i).length ≤ i
 | 0 => by simp [blksT]
 | i + 1 => by
  have := blksT_len vs i
  rw [blksT, List.length_append]
  have h1 : (blkAt vs i).length ≤ 1 := by
   unfold blkAt
   split
   ·split <;> simp
   ·simp
  omega
def blkC (g c : Nat) (b : BlK) : List Value := [.int .i64 b.num, .int .i64 b.kind, .slice (some ⟨g, b.off, none⟩) (rcount b.kind) (c - b.off)]
def blkCs (g c : Nat) (l : List BlK) : List Value := l.flatMap (blkC g c)
theorem blkCs_snoc (g c : Nat) (l : List BlK) (b : BlK) : blkCs g c (l ++ [b]) = blkCs g c l ++ blkC g c b := by simp [blkCs]
theorem ins_info : (Tryd.prog.info? 68).map (fun i => (i.zero.map (·.cells.size), i.size, i.bytes)) = some (some 3, 3, 40) := by kernel_rfl
theorem ins_parts : ∃ i z, Tryd.prog.info? 68 = some i ∧ i.zero = some z ∧ z.cells.size = 3 ∧ i.size = 3 ∧ i.bytes = 40 := by
 obtain ⟨i, hi, h⟩ := Option.map_eq_some_iff.1 ins_info
 simp only [Prod.mk.injEq] at h
 obtain ⟨hz, h1, h2⟩ := h
 obtain ⟨z, hz, hs⟩ := Option.map_eq_some_iff.1 hz
 exact ⟨i, z, hi, hz, hs, h1, h2⟩
theorem motion_any (t : Int) (w : World) : Calls Tryd.prog 39 #[.int .i64 t] w fun e w' => e = .returned (.bool (motB t)) ∧ w = w' := by
 unfold motB
 by_cases h : 20 ≤ t
 ·rw [decide_eq_true h]
  go_enter Tryd.func39, Tryd.ntmps39
  go_wp2
  go_ret
  exact ⟨rfl, rfl⟩
 ·rw [decide_eq_false h]
  go_enter Tryd.func39, Tryd.ntmps39
  go_wp2
  go_ret
  exact ⟨rfl, rfl⟩

set_option maxRecDepth 100000 in
set_option maxHeartbeats 4000000 in
theorem inst_at (p : Prg) (cs : List Value) (g n c : Nat) (Ao : Option Addr) (w : World) (h : PrgAt w p cs) (hfit : ∀ v ∈ p.vars, ArrOk v) (hmot : ∀ v ∈ p.vars, v.arr = true → v.type ≤ 2) (hn64 : p.vars.length ≤ 64) (ht : Blanks w)
  (hA : 0 < n → Ao = some ⟨g, 0, none⟩) (hn : sumN p.vars ≤ n) (hnc : n ≤ c ∧ c ≤ 9223372036854775807) :
  Calls Tryd.prog 17 #[.agg cs.toArray, .slice Ao n c] w fun e w' => (∃ v, e = .returned v ∧ w'.ownsRow w.heap.size 68 3 v (blks p.vars).length (blkCs g c (blks p.vars))) ∧ Below w.heap.size w w' := by
 obtain ⟨Av, kv, Ab, kb, rfl, hv, hbd⟩ := h
 have HOF : Hid (∀ W, Below w.heap.size w W → Calls Tryd.prog 6 #[.agg #[.string p.name, .slice Av p.vars.length kv, .slice Ab p.body.length kb]] W fun e w' => (∃ v, e = .returned v ∧ LayR W p.vars v w') ∧ Below W.heap.size W w') := Lib.hid (fun W hW => layof_any p _ W ⟨Av, kv, Ab, kb, rfl, hv.below hW, hbd.below hW⟩ hfit hn64 (ht.on hW))
 have HRV := Lib.hid hv
 have HT := Lib.hid ht
 have HMO := Lib.hid hmot
 have hv1 := hv.1
 have hv2 := hv.2.1
 obtain ⟨m, hm⟩ : ∃ m, p.vars.length = m := ⟨_, rfl⟩
 obtain ⟨nb, hnb⟩ : ∃ m, p.body.length = m := ⟨_, rfl⟩
 obtain ⟨i0, z0, hi0, hz0, hzs, hs0, hb0⟩ := ins_parts
 have HI := Lib.hid hi0
 have HZ0 := Lib.hid hz0
 have HZS := Lib.hid hzs
 have HS0 := Lib.hid hs0
 have HBB := Lib.hid hb0
 have HM := Lib.hid hm
 have HA := Lib.hid hA
 show Calls Tryd.prog 17 #[.agg #[.string p.name, .slice Av p.vars.length kv, .slice Ab p.body.length kb], .slice Ao n c] w _
 unfold blks
 rw [hm, hnb] at HOF ⊢
 rw [hm] at hv1 hn64
 clear hv hbd hfit hm hnb hi0 hz0 hzs hs0 hb0 ht hmot hA
 go_enter Tryd.func17, Tryd.ntmps17
 go_upto_region 1 with (fail)
 refine wp_name fun W hW => ?_
 obtain ⟨B, hB⟩ : ∃ B, B = w.heap.size := ⟨_, rfl⟩
 have HC : Hid (∀ W', Below W.heap.size W W' → W'.cell? ⟨B, 0, none⟩ = some (.string p.name) ∧ W'.cell? ⟨B, 1, none⟩ = some (.slice Av m kv) ∧ W'.cell? ⟨B, 2, none⟩ = some (.slice Ab nb kb) ∧ B < W'.heap.size) := Lib.hid (fun W' hW' => by
  have hl : B < W.heap.size := by rw [hW.out, hB]; simp
  exact ⟨(hW'.cell (p := ⟨B, 0, none⟩) hl).trans (by rw [hW.out, hB]; go_simp), (hW'.cell (p := ⟨B, 1, none⟩) hl).trans (by rw [hW.out, hB]; go_simp), (hW'.cell (p := ⟨B, 2, none⟩) hl).trans (by rw [hW.out, hB]; go_simp), Nat.lt_of_lt_of_le hl hW'.size⟩)
 have hbel : Below w.heap.size w W := by rw [hW.out]; exact belowBy
 have HB := Lib.hid hbel
 (try rw [← hB])
 have hwB : w.heap.size ≤ B := by omega
 have hwB2 : B ≤ w.heap.size := by omega
 have hWs : W.heap.size = B + 1 := by rw [hW.out, hB]; simp
 have HWS := Lib.hid hWs
 clear hW hbel hB hWs
 obtain ⟨c0, c1, c2, lB⟩ := HC.out W (Below.refl _ _)
 go_wp2_with fail
 refine (HOF.out W HB.out).mono ?_
 rintro e w1 ⟨⟨v1, rfl, hlr⟩, hb1⟩
 obtain ⟨vA, vF, rfl, hoA, hoF⟩ := hlr
 obtain ⟨AA, cA, rfl⟩ := own_slice hoA
 obtain ⟨AF, cF, rfl⟩ := own_slice hoF
 obtain ⟨hrA, -⟩ := rowN_of hoA
 have HRA := Lib.hid hrA
 have HS1 := Lib.hid hb1
 have HB1 := Lib.hid (HB.out.trans (hb1.mono HB.out.size))
 clear c0 c1 c2 lB hb1 hoA hoF hrA
 go_upto_region 2 with (fail)
 refine wp_name fun W2 hW2 => ?_
 obtain ⟨L, hL⟩ : ∃ L, L = w1.heap.size := ⟨_, rfl⟩
 have HL : Hid (∀ W', Below W2.heap.size W2 W' → W'.cell? ⟨L, 0, none⟩ = some (.slice AA m cA) ∧ L < W'.heap.size) := Lib.hid (fun W' hW' => by
  have hl : L < W2.heap.size := by rw [hW2.out, hL]; simp
  exact ⟨(hW'.cell (p := ⟨L, 0, none⟩) hl).trans (by rw [hW2.out, hL, ← HM.out]; go_simp), Nat.lt_of_lt_of_le hl hW'.size⟩)
 have hb2 : Below w1.heap.size w1 W2 := by rw [hW2.out]; exact belowBy
 have HS2 := Lib.hid (HS1.out.trans (hb2.mono HS1.out.size))
 have HB2 := Lib.hid (HB1.out.trans (hb2.mono HB1.out.size))
 have HRA2 := Lib.hid (HRA.out.below hb2)
 (try rw [← hL])
 clear hW2 hL hb2 HRA
 obtain ⟨c0, c1, c2, lB⟩ := HC.out W2 HS2.out
 go_upto_region 4 with (fail)
 clear c0 c1 c2 lB
 have hsz2 := HB2.out.size
 go_loopw [6, 14] (fun v u wr => ∃ (i : Nat) (vo : Value), vo = v ∧ i ≤ m ∧ u = .int .i64 i ∧ Hid (wr.ownsRow W2.heap.size 68 3 vo (blksT p.vars i).length (blkCs g c (blksT p.vars i))) ∧ Hid (Below W2.heap.size W2 wr)) (fun _ u _ => m - (intOf u).toNat)
 case atStart => exact ⟨0, _, rfl, by omega, rfl, Lib.hid (World.ownsRow_nil _ _ _ _), Lib.hid (Below.refl _ _)⟩
 case round =>
  obtain ⟨i, vo, rfl, hi, rfl, HOW, HBR⟩ := hrel
  have hbs := HBR.out.size
  by_cases hlt : i < m
  ·obtain ⟨bb, off, v, hAv, hbl, hx, hrg⟩ := RowV.at8 (HRV.out.below (HB2.out.trans (HBR.out.mono HB2.out.size))) (i := i) (by rw [HM.out]; exact hlt)
   have hi0 : (0 : Int) ≤ (i : Int) ∧ (i : Int) < (m : Int) := by omega
   have HX := Lib.hid hx
   have HRG := Lib.hid hrg
   subst hAv
   clear hx hrg
   go_upto_region 6 with (first | refine wpList_load_mid rfl 45 _ rfl bb (off + i * 8) rfl v.cells _ HRG.out Tryd.underlying45 rfl var_size8 ?_ | refine wpList_store_new rfl 45 _ _ rfl wr _ v.cells.toArray rfl rfl rfl var_size8 rfl (var_one8 v) ?_)
   refine wp_name fun W3 hW3 => ?_
   obtain ⟨V, hV⟩ : ∃ V, V = wr.heap.size := ⟨_, rfl⟩
   have hh : W3.heap[V]? = some (.cells v.cells.toArray 45) := by rw [hW3.out, hV]; exact heap_alloc_new _ _
   have hb3 : Below wr.heap.size wr W3 := by rw [hW3.out]; exact belowBy
   obtain ⟨ty, hty⟩ : ∃ t, v.type = t := ⟨_, rfl⟩
   have HTY := Lib.hid hty
   have HV : Hid (∀ W', Below W3.heap.size W3 W' → W'.cell? ⟨V, 1, none⟩ = some (.int .i64 ty) ∧ V < W'.heap.size) := Lib.hid (fun W' hW' => by
    have hl : V < W3.heap.size := (Array.getElem?_eq_some_iff.1 hh).1
    exact ⟨(hW'.cell (p := ⟨V, 1, none⟩) hl).trans (by rw [← hty]; exact heap_cell 1 _ hh rfl), Nat.lt_of_lt_of_le hl hW'.size⟩)
   have HBR3 := Lib.hid (HBR.out.trans (hb3.mono HBR.out.size))
   have HOW3 := Lib.hid (owns_below HOW.out hb3)
   have HVN : Hid (∀ k, vo.ownBlock = some k → k < V) := Lib.hid (fun k hk => by rw [hV]; exact (HOW.out.lt k hk).2)
   (try rw [← hV])
   (try simp only [Act.put])
   clear hW3 hV hh hb3 hty HOW HBR HRG
   obtain ⟨t1, lV⟩ := HV.out W3 (Below.refl _ _)
   go_wp2_with fail
   refine (motion_any ty _).mono ?_
   rintro e w' ⟨rfl, rfl⟩
   cases hmt : motB ty
   ·have hT : blksT p.vars (i + 1) = blksT p.vars i := blksT_no HX.out (by rw [HTY.out]; exact hmt)
    have HTT := Lib.hid hT
    clear hT t1 lV hmt
    go_wp2
    go_roundw
    case rel => exact ⟨i + 1, _, rfl, by omega, by go_num, Lib.hid (by rw [HTT.out]; exact HOW3.out), HBR3⟩
    case measure => simp [intOf]; omega
   ·have hT := blksT_yes HX.out (by rw [HTY.out]; exact hmt)
    rw [HTY.out] at hT
    obtain ⟨q, hq⟩ : ∃ q, sumN (p.vars.take i) = q := ⟨_, rfl⟩
    rw [hq] at hT
    have HTT := Lib.hid hT
    have hcell : cellsN v = rcount ty := by
     unfold motB at hmt
     simp only [Bool.and_eq_true, decide_eq_true_eq] at hmt
     have hna : ¬ v.arr = true := fun ha => by
      have := HMO.out v (List.mem_of_getElem? HX.out) ha
      have := HTY.out
      omega
     unfold cellsN
     rw [if_neg hna, if_pos (by rw [HTY.out]; omega), HTY.out]
    have hrc : 1 ≤ rcount ty := mot_count hmt
    have hqn : q + rcount ty ≤ n := by
     have h1 := sumN_take HX.out
     have h2 := sumN_mono (l := p.vars) (i := i + 1)
     omega
    have hAo := HA.out (by omega)
    obtain ⟨rc, hrc0⟩ : ∃ r, rcount ty = r := ⟨_, rfl⟩
    rw [hrc0] at hrc hqn
    have HRC := Lib.hid hrc0
    obtain ⟨ba, oa, hAA, hba, hca⟩ := HRA2.out.2.2 i (q : Int) (by have := offsN_get p.vars 0 i (by rw [HM.out]; exact hlt); rw [Nat.zero_add, hq] at this; exact this)
    have HSB : Hid (∀ W', Below W3.heap.size W3 W' → (W'.cell? ⟨V, 1, none⟩ = some (.int .i64 ty) ∧ V < W'.heap.size) ∧ W'.cell? ⟨L, 0, none⟩ = some (.slice (some ⟨ba, oa, none⟩) m cA) ∧ W'.cell? ⟨ba, oa + i, none⟩ = some (.int .i64 q)) := Lib.hid (fun W' hW' => by
     have hb := HBR3.out.trans (hW'.mono HBR3.out.size)
     exact ⟨HV.out W' hW', by rw [← hAA]; exact (HL.out W' hb).1, (hb.cell (p := ⟨ba, oa + i, none⟩) hba).trans hca⟩)
    have HSB2 : Hid (∀ W', Below W2.heap.size W2 W' → W'.cell? ⟨L, 0, none⟩ = some (.slice (some ⟨ba, oa, none⟩) m cA) ∧ W'.cell? ⟨ba, oa + i, none⟩ = some (.int .i64 q)) := Lib.hid (fun W' hb => ⟨by rw [← hAA]; exact (HL.out W' hb).1, (hb.cell (p := ⟨ba, oa + i, none⟩) hba).trans hca⟩)
    have HBM : Hid ((blksT p.vars i).length ≤ i) := Lib.hid (blksT_len p.vars i)
    subst hAA hAo
    clear hT hq hcell hrc0 hba hca t1 lV hmt
    have hwr : IntKind.i64.wrap ((q : Int) + (rc : Int)) = (q : Int) + (rc : Int) := by rw [IntKind.wrap_i64]; omega
    have htn : ((q : Int) + (rc : Int)).toNat = q + rc := by omega
    have sl1 : (0 : Int) ≤ (q : Int) + (rc : Int) := by omega
    have sl2 : (q : Int) + (rc : Int) ≤ (c : Int) := by omega
    have sl3 : q ≤ q + rc := by omega
    have sl4 : ¬ c = q := by omega
    have sl5 : q + rc - q = rc := by omega
    go_wp2_with fail
    refine wp_region_held_drew (S := fun W' => (W'.cell? ⟨V, 1, none⟩ = some (.int .i64 ty) ∧ V < W'.heap.size) ∧ W'.cell? ⟨L, 0, none⟩ = some (.slice (some ⟨ba, oa, none⟩) m cA) ∧ W'.cell? ⟨ba, oa + i, none⟩ = some (.int .i64 q)) (by kernel_rfl) (HSB.out _ (by exact belowBy)) (fun hHeld => ?_)
    (try simp only [Act.put, List.setIfInBounds_toArray, List.set_cons_zero, List.set_cons_succ])
    (refine takeH (i := 0) (v := ?_) rfl (by kernel_rfl) (by kernel_rfl) (by kernel_rfl) (fun _ _ _ h => h) (Or.inl ⟨by first | kernel_rfl | rfl, ?_⟩) (by assumption) ?_; rotate_left; (focus (intro w' hSw; (try dsimp only at hSw); go_simp; try (with_reducible rfl))))
    (refine takeH (i := 1) (v := ?_) rfl (by kernel_rfl) (by kernel_rfl) (by kernel_rfl) (fun _ _ _ h => h) (Or.inl ⟨by first | kernel_rfl | rfl, ?_⟩) (by assumption) ?_; rotate_left; (focus (intro w' hSw; (try dsimp only at hSw); go_simp; try (with_reducible rfl))))
    (refine takeH (i := 2) (v := ?_) rfl (by kernel_rfl) (by kernel_rfl) (by kernel_rfl) (fun _ _ _ h => h) (Or.inl ⟨by first | kernel_rfl | rfl, ?_⟩) (by assumption) ?_; rotate_left; (focus (intro w' hSw; (try dsimp only at hSw); go_simp; try (with_reducible rfl))))
    (refine takeH (i := 3) (v := ?_) rfl (by kernel_rfl) (by kernel_rfl) (by kernel_rfl) (fun _ _ _ h => h) (Or.inl ⟨by first | kernel_rfl | rfl, ?_⟩) (by assumption) ?_; rotate_left; (focus (intro w' hSw; (try dsimp only at hSw); go_simp; try (with_reducible rfl))))
    (refine takeH (i := 4) (v := ?_) rfl (by kernel_rfl) (by kernel_rfl) (by kernel_rfl) (fun _ _ _ h => h) (Or.inl ⟨by first | kernel_rfl | rfl, ?_⟩) (by assumption) ?_; rotate_left; (focus (intro w' hSw; (try dsimp only at hSw); go_simp; try (with_reducible rfl))))
    (refine takeH (i := 5) (v := ?_) rfl (by kernel_rfl) (by kernel_rfl) (by kernel_rfl) (fun _ _ _ h => h) (Or.inl ⟨by first | kernel_rfl | rfl, ?_⟩) (by assumption) ?_; rotate_left; (focus (intro w' hSw; (try dsimp only at hSw); go_simp; try (with_reducible rfl))))
    (refine takeH (i := 6) (v := ?_) rfl (by kernel_rfl) (by kernel_rfl) (by kernel_rfl) (fun _ _ _ h => h) (Or.inl ⟨by first | kernel_rfl | rfl, ?_⟩) (by assumption) ?_; rotate_left; (focus (intro w' hSw; (try dsimp only at hSw); go_simp; try (with_reducible rfl))))
    (refine takeH (i := 7) (v := ?_) rfl (by kernel_rfl) (by kernel_rfl) (by kernel_rfl) (fun _ _ _ h => h) (Or.inl ⟨by first | kernel_rfl | rfl, ?_⟩) (by assumption) ?_; rotate_left; (focus (intro w' hSw; (try dsimp only at hSw); go_simp; try (with_reducible rfl))))
    (refine takeH (i := 8) (v := ?_) rfl (by kernel_rfl) (by kernel_rfl) (by kernel_rfl) (fun _ _ _ h => h) (Or.inl ⟨by first | kernel_rfl | rfl, ?_⟩) (by assumption) ?_; rotate_left; (focus (intro w' hSw; (try dsimp only at hSw); go_simp; try (with_reducible rfl))))
    (refine takeH (i := 9) (v := ?_) rfl (by kernel_rfl) (by kernel_rfl) (by kernel_rfl) (fun _ _ _ h => h) (Or.inl ⟨by first | kernel_rfl | rfl, ?_⟩) (by assumption) ?_; rotate_left; (focus (intro w' hSw; (try dsimp only at hSw); go_simp; try (with_reducible rfl))))
    (refine takeH (i := 10) (v := ?_) rfl (by kernel_rfl) (by kernel_rfl) (by kernel_rfl) (fun _ _ _ h => h) (Or.inl ⟨by first | kernel_rfl | rfl, ?_⟩) (by assumption) ?_; rotate_left; (focus (intro w' hSw; (try dsimp only at hSw); go_simp; try (with_reducible rfl))))
    (refine takeH (i := 11) (v := ?_) rfl (by kernel_rfl) (by kernel_rfl) (by kernel_rfl) (fun _ _ _ h => h) (Or.inl ⟨by first | kernel_rfl | rfl, ?_⟩) (by assumption) ?_; rotate_left; (focus (intro w' hSw; (try dsimp only at hSw); go_simp; try (with_reducible rfl))))
    (refine takeH (i := 12) (v := ?_) rfl (by kernel_rfl) (by kernel_rfl) (by kernel_rfl) (fun _ _ _ h => h) (Or.inl ⟨by first | kernel_rfl | rfl, ?_⟩) (by assumption) ?_; rotate_left; (focus (intro w' hSw; (try dsimp only at hSw); go_simp; try (with_reducible rfl))))
    (refine takeH (i := 13) (v := ?_) rfl (by kernel_rfl) (by kernel_rfl) (by kernel_rfl) (fun _ _ _ h => h) (Or.inl ⟨by first | kernel_rfl | rfl, ?_⟩) (by assumption) ?_; rotate_left; (focus (intro w' hSw; (try dsimp only at hSw); go_simp; try (with_reducible rfl))))
    (refine takeH (i := 14) (v := ?_) rfl (by kernel_rfl) (by kernel_rfl) (by kernel_rfl) (fun _ _ _ h => h) (Or.inl ⟨by first | kernel_rfl | rfl, ?_⟩) (by assumption) ?_; rotate_left; (focus (intro w' hSw; (try dsimp only at hSw); go_simp; try (with_reducible rfl))))
    (refine takeH (i := 15) (v := ?_) rfl (by kernel_rfl) (by kernel_rfl) (by kernel_rfl) (fun _ _ _ h => h) (Or.inl ⟨by first | kernel_rfl | rfl, ?_⟩) (by assumption) ?_; rotate_left; (focus (intro w' hSw; (try dsimp only at hSw); go_simp; try (with_reducible rfl))))
    (refine takeH (i := 16) (v := ?_) rfl (by kernel_rfl) (by kernel_rfl) (by kernel_rfl) (fun _ _ _ h => h) (Or.inl ⟨by first | kernel_rfl | rfl, ?_⟩) (by assumption) ?_; rotate_left; (focus (intro w' hSw; (try dsimp only at hSw); go_simp; try (with_reducible rfl))); (try simp only [Act.put, List.setIfInBounds_toArray, List.set_cons_zero, List.set_cons_succ]))
    refine oneH (i := 17) (by kernel_rfl) rfl (fun K hK => ?_)
    go_simp
    go_at_call 35
    refine (pins_rowK ty _ (HT.out.on (HB2.out.trans ((HBR3.out.trans (show Below W2.heap.size W3 W3.drew by exact belowBy)).mono HB2.out.size)))).mono ?_
    rintro e w4 ⟨⟨AP, cP, rfl, hp1, hp2, -⟩, hb4⟩
    rw [HRC.out] at hp1 ⊢
    have hb4' : Below W3.heap.size W3 w4 := by exact belowBy
    have HB4 := Lib.hid hb4'
    have HO4 := Lib.hid (owns_below HOW3.out hb4')
    have hz4 := hb4'.size
    have hz3 := HBR3.out.size
    clear hb4 hb4'
    go_wp2_with fail
    refine hK.out _ _ (HSB.out _ HB4.out) (fun hHeld => ?_)
    clear hK K
    (try simp only [Act.put, List.setIfInBounds_toArray, List.set_cons_zero, List.set_cons_succ])
    (refine takeH (i := 18) (v := ?_) rfl (by kernel_rfl) (by kernel_rfl) (by kernel_rfl) (fun _ _ _ h => h) (Or.inl ⟨by first | kernel_rfl | rfl, ?_⟩) (by assumption) ?_; rotate_left; (focus (intro w' hSw; (try dsimp only at hSw); go_simp; try (with_reducible rfl))))
    (refine takeH (i := 19) (v := ?_) rfl (by kernel_rfl) (by kernel_rfl) (by kernel_rfl) (fun _ _ _ h => h) (Or.inl ⟨by first | kernel_rfl | rfl, ?_⟩) (by assumption) ?_; rotate_left; (focus (intro w' hSw; (try dsimp only at hSw); go_simp; try (with_reducible rfl))))
    (refine takeH (i := 20) (v := ?_) rfl (by kernel_rfl) (by kernel_rfl) (by kernel_rfl) (fun _ _ _ h => h) (Or.inl ⟨by first | kernel_rfl | rfl, ?_⟩) (by assumption) ?_; rotate_left; (focus (intro w' hSw; (try dsimp only at hSw); go_simp; try (with_reducible rfl))))
    (refine takeH (i := 21) (v := ?_) rfl (by kernel_rfl) (by kernel_rfl) (by kernel_rfl) (fun _ _ _ h => h) (Or.inl ⟨by first | kernel_rfl | rfl, ?_⟩) (by assumption) ?_; rotate_left; (focus (intro w' hSw; (try dsimp only at hSw); go_simp; try (with_reducible rfl))); (try simp only [Act.put, List.setIfInBounds_toArray, List.set_cons_zero, List.set_cons_succ]))
    refine oneH (i := 22) (by kernel_rfl) rfl (fun K hK => ?_)
    go_simp
    have HB4a : Hid (Below W3.heap.size W3 (w4.alloc (.cells #[.int .i64 i, .int .i64 ty, .slice (some ⟨g, q, none⟩) rc (c - q)] 68))) := Lib.hid (below_new HB4.out (Nat.le_refl _) _)
    refine hK.out _ (w4.alloc (.cells #[.int .i64 i, .int .i64 ty, .slice (some ⟨g, q, none⟩) rc (c - q)] 68)) (HSB.out _ HB4a.out) (fun hHeld => ?_)
    clear hK K
    (try simp only [Act.put, List.setIfInBounds_toArray, List.set_cons_zero, List.set_cons_succ])
    refine oneH (i := 23) (by kernel_rfl) rfl (fun K hK => ?_)
    refine step_append_lies _ rfl (.tmp 22) (.tmp 44) 65 rfl W2.heap.size 68 i0 z0 3 40 Tryd.underlying65 HI.out HZ0.out HS0.out HBB.out HZS.out (by decide) vo (blksT p.vars i).length _ rfl (HO4.out.alloc _) ⟨w4.heap.size, 0, none⟩ 1 1 [.int .i64 i, .int .i64 ty, .slice (some ⟨g, q, none⟩) rc (c - q)] rfl rfl ?c4 ?c6 (by decide) ?c1 ?c2 ?c3 (w4.heap.size + 1) ?c5 ?_
    case c4 =>
     intro j u hu
     have had : (⟨w4.heap.size, 0, none⟩ : Addr).add j = ⟨w4.heap.size, j, none⟩ := by cases j <;> simp [Addr.add]
     rw [had]
     exact heap_cell j _ (heap_alloc_new w4 _) (by rw [List.getElem?_toArray]; exact hu)
    case c6 => intro u hu; simp only [List.mem_cons, List.not_mem_nil, or_false] at hu; rcases hu with rfl | rfl | rfl <;> rfl
    case c1 => have := HBM.out; unfold maxLen; omega
    case c2 => have := HBM.out; omega
    case c3 => first | omega | (simp; omega)
    case c5 => simp
    intro gg cap2 w5 hown5 hgrow hatg hg5
    have HO5 : Hid (w5.ownsRow W2.heap.size 68 3 (.slice (some ⟨gg, 0, none⟩) ((blksT p.vars i).length + 1) cap2) (blksT p.vars (i + 1)).length (blkCs g c (blksT p.vars (i + 1)))) := Lib.hid (by
     rw [HTT.out, blkCs_snoc, List.length_append]
     simp only [blkC, HRC.out]
     exact hown5)
    have HB5 : Hid (Below W2.heap.size W2 w5) := Lib.hid (below_grown (HBR3.out.trans (HB4a.out.mono HBR3.out.size)) hgrow (HO4.out.alloc _) (Nat.le_refl _) (by simp; omega))
    have h4 := HV.out w4 HB4.out
    have HVC : Hid (w5.cell? ⟨V, 1, none⟩ = some (.int .i64 ty) ∧ V < w5.heap.size) := Lib.hid ⟨by rw [hgrow.cell_far ⟨V, 1, none⟩ (by have := h4.2; simp; omega) (fun e => by have := HVN.out V e.symm; omega), World.cell?_alloc_lt _ _ _ h4.2]; exact h4.1, by have := hgrow.size; have := h4.2; simp at *; omega⟩
    clear h4
    refine hK.out _ _ ?hS5 (fun hHeld => ?_)
    case hS5 => exact ⟨HVC.out, HSB2.out _ HB5.out⟩
    clear hK K
    (try simp only [Act.put, List.setIfInBounds_toArray, List.set_cons_zero, List.set_cons_succ])
    (refine takeH (i := 24) (v := ?_) rfl (by kernel_rfl) (by kernel_rfl) (by kernel_rfl) (fun _ _ _ h => h) (Or.inl ⟨by first | kernel_rfl | rfl, ?_⟩) (by assumption) ?_; rotate_left; (focus (intro w' hSw; (try dsimp only at hSw); go_simp; try (with_reducible rfl))); (try simp only [Act.put, List.setIfInBounds_toArray, List.set_cons_zero, List.set_cons_succ]))
    refine wpAnyH_done (by kernel_rfl) ?_ _
    (try simp only [Act.put, List.setIfInBounds_toArray, List.set_cons_zero, List.set_cons_succ])
    go_wp2
    go_roundw
    case rel => exact ⟨i + 1, _, rfl, by omega, by go_num, HO5, HB5⟩
    case measure => simp [intOf]; omega
  ·obtain rfl : i = m := by omega
   have HRES : Hid ((∃ v, Ending.returned vo = .returned v ∧ wr.ownsRow w.heap.size 68 3 v (blksT p.vars i).length (blkCs g c (blksT p.vars i))) ∧ Below w.heap.size w wr) := Lib.hid ⟨⟨vo, rfl, owns_mono HOW.out hsz2⟩, HB2.out.trans (HBR.out.mono HB2.out.size)⟩
   clear HOW HBR
   go_wp2
   go_ret
   exact HRES.out

end Go.Proofs.YtknnhnefbbjcdaaDoor

namespace Go.Proofs.YtknnhnefbbjcdaaDoor
open Go.RowKit
set_option linter.unusedVariables false
set_option linter.unusedSimpArgs false
attribute [local go_sem] ite_max ite_min vite_max vite_min ext_cell ext_frozen

def cmdB (k : Int) : Bool := decide (21 ≤ k) && decide (k ≤ 28)
def rep1 (id what : Int) (z : List Int) (b : BlK) : List Int := if (cmdB b.kind && decide (id ≠ 0) && decide (z[b.off + (outsN b.kind + 5 + 1)]?.getD 0 = id)) = true then toldP b.kind b.off what z else z
def repP (bl : List BlK) (id what : Int) (zs : List Int) : List Int := bl.foldl (rep1 id what) zs
def repsP (bl : List BlK) (l : List (Int × Int)) (zs : List Int) : List Int := l.foldl (fun z r => repP bl r.1 r.2 z) zs
def repssP (bl : List BlK) (ll : List (List (Int × Int))) (zs : List Int) : List Int := ll.foldl (fun z l => repsP bl l z) zs
def look1 (xs : List AxS) (z : List Int) (b : BlK) : List Int := looksP b.kind b.off (axP xs (z[b.off]?.getD 0)) z
def lookP (bl : List BlK) (xs : List AxS) (zs : List Int) : List Int := bl.foldl (look1 xs) zs
def tellP (bl : List BlK) (xs : List AxS) (ll : List (List (Int × Int))) (zs : List Int) : List Int := lookP bl xs (repssP bl ll zs)
theorem fold_take {α β : Type} (f : β → α → β) (z : β) {l : List α} {i : Nat} {x : α} (h : l[i]? = some x) : (l.take (i + 1)).foldl f z = f ((l.take i).foldl f z) x := by
 rw [List.take_add_one, h]
 simp [List.foldl_append]
theorem toldP_len (kind : Int) (off : Nat) (what : Int) (zs : List Int) : (toldP kind off what zs).length = zs.length := by
 unfold toldP
 (repeat' split) <;> simp
theorem looksP_len (kind : Int) (off : Nat) (a : Option AxS) (zs : List Int) : (looksP kind off a zs).length = zs.length := by
 unfold looksP
 (repeat' split) <;> simp
theorem commands_any (t : Int) (w : World) : Calls Tryd.prog 20 #[.int .i64 t] w fun e w' => e = .returned (.bool (cmdB t)) ∧ w = w' := by
 unfold cmdB
 by_cases h : 21 ≤ t
 ·rw [decide_eq_true h]
  go_enter Tryd.func20, Tryd.ntmps20
  go_wp2
  go_ret
  exact ⟨rfl, rfl⟩
 ·rw [decide_eq_false h]
  go_enter Tryd.func20, Tryd.ntmps20
  go_wp2
  go_ret
  exact ⟨rfl, rfl⟩
structure BlOk (bl : List BlK) (n : Nat) : Prop where
 mot : ∀ b ∈ bl, motB b.kind = true
 len : ∀ b ∈ bl, b.off + rcount b.kind ≤ n
theorem blksT_ok {vs : List VarS} (hmot : ∀ v ∈ vs, v.arr = true → v.type ≤ 2) : ∀ i, i ≤ vs.length → BlOk (blksT vs i) (sumN vs)
 | 0, _ => ⟨fun b hb => (by cases hb), fun b hb => (by cases hb)⟩
 | i + 1, hi => by
  have ih := blksT_ok hmot i (by omega)
  have hx : vs[i]? = some vs[i] := List.getElem?_eq_getElem (by omega)
  cases hm : motB (vs[i]).type
  ·rw [blksT_no hx hm]
   exact ih
  ·rw [blksT_yes hx hm]
   have hc : cellsN vs[i] = rcount (vs[i]).type := by
    have hm2 := hm
    unfold motB at hm2
    simp only [Bool.and_eq_true, decide_eq_true_eq] at hm2
    have hna : ¬ (vs[i]).arr = true := fun ha => by
     have := hmot _ (List.getElem_mem (by omega)) ha
     omega
    unfold cellsN
    rw [if_neg hna, if_pos (by omega)]
   have h1 := sumN_take hx
   have h2 := sumN_mono (l := vs) (i := i + 1)
   refine ⟨fun b hb => ?_, fun b hb => ?_⟩
   ·rcases List.mem_append.1 hb with hb | hb
    ·exact ih.mot b hb
    ·rw [List.mem_singleton.1 hb]
     exact hm
   ·rcases List.mem_append.1 hb with hb | hb
    ·exact ih.len b hb
    ·rw [List.mem_singleton.1 hb]
     show sumN (vs.take i) + rcount (vs[i]).type ≤ _
     omega
structure TS (w0 W : World) (g q c n : Nat) (bl : List BlK) (zs : List Int) : Prop where
 row : Row W g zs
 len : zs.length = n
 low : w0.heap.size ≤ g
 old : Below w0.heap.size w0 W
 ne : q ≠ g
 ql : bl ≠ [] → q < W.heap.size
 ins : ∀ j b, bl[j]? = some b → ∀ k u, (blkC g c b)[k]? = some u → W.cell? ⟨q, j * 3 + k, none⟩ = some u
theorem TS.next {w0 W W' : World} {g q c n : Nat} {bl : List BlK} {zs zs' : List Int} (h : TS w0 W g q c n bl zs) (hb : But g W W') (hr : Row W' g zs') (hl : zs'.length = zs.length) : TS w0 W' g q c n bl zs' :=
 ⟨hr, hl.trans h.len, h.low, h.old.trans (hb.below _ h.low h.old.size), h.ne, fun hn => Nat.lt_of_lt_of_le (h.ql hn) hb.size, fun j b hj k u hu => (hb.cell q _ (h.ql (fun e => by rw [e] at hj; simp at hj)) h.ne).trans (h.ins j b hj k u hu)⟩
theorem TS.below {w0 W W' : World} {g q c n : Nat} {bl : List BlK} {zs : List Int} (h : TS w0 W g q c n bl zs) (hb : Below W.heap.size W W') : TS w0 W' g q c n bl zs := h.next (But.of_below hb) (h.row.below hb) rfl
theorem TS.told {w0 W : World} {g q c n : Nat} {bl : List BlK} {zs : List Int} (ht : Blanks w0) (h : TS w0 W g q c n bl zs) (ok : BlOk bl n) (hnc : n ≤ c ∧ c ≤ 9223372036854775807) {b : BlK} (hb : b ∈ bl) (hc : cmdB b.kind = true) (i : Int) (what : Int) :
  Calls Tryd.prog 26 #[.agg #[.int .i64 i, .int .i64 b.kind, .slice (some ⟨g, b.off, none⟩) (rcount b.kind) (c - b.off)], .int .i64 what] W fun e w' => e = .returned (.tuple #[]) ∧ But g W w' ∧ Row w' g (toldP b.kind b.off what zs) := by
 have h1 : 21 ≤ b.kind ∧ b.kind ≤ 28 := by
  unfold cmdB at hc
  simpa only [Bool.and_eq_true, decide_eq_true_eq] using hc
 have h2 := (cmdK h1).cnt
 have h3 := ok.len b hb
 have h4 := h.len
 rw [h2] at h3 ⊢
 exact btold_at i b.kind g b.off (c - b.off) zs what w0 W ⟨h1, by omega, by omega, ht, h.old, h.low, h.row⟩
theorem TS.inner {w0 W : World} {g q c n : Nat} {bl : List BlK} {zs : List Int} (ht : Blanks w0) (h : TS w0 W g q c n bl zs) (ok : BlOk bl n) (hnc : n ≤ c ∧ c ≤ 9223372036854775807) {b : BlK} (hb : b ∈ bl) (hc : cmdB b.kind = true) (i : Int) :
  Calls Tryd.prog 25 #[.agg #[.int .i64 i, .int .i64 b.kind, .slice (some ⟨g, b.off, none⟩) (rcount b.kind) (c - b.off)], .int .i64 1] W fun e w' => e = .returned (.pointer (some ⟨g, b.off + (outsN b.kind + 5 + 1), none⟩)) ∧ Below W.heap.size W w' := by
 have h1 : 21 ≤ b.kind ∧ b.kind ≤ 28 := by
  unfold cmdB at hc
  simpa only [Bool.and_eq_true, decide_eq_true_eq] using hc
 have h2 := (cmdK h1).cnt
 have h3 := ok.len b hb
 rw [h2] at h3 ⊢
 exact binner_at i b.kind g b.off (outsN b.kind + 7) (c - b.off) 1 (outsN b.kind + 5) W (ht.on h.old) (cmdK h1).inner (by omega) (by omega)
theorem TS.looks {w0 W : World} {g q c n : Nat} {bl : List BlK} {zs : List Int} (ht : Blanks w0) (h : TS w0 W g q c n bl zs) (ok : BlOk bl n) (hnc : n ≤ c ∧ c ≤ 9223372036854775807) {b : BlK} (hb : b ∈ bl) (i : Int) (xs : List AxS) (A : Option Addr) (cap : Nat) (hx : RowX w0 A xs cap) (hf : xs.length ≤ 4) :
  Calls Tryd.prog 27 #[.agg #[.int .i64 i, .int .i64 b.kind, .slice (some ⟨g, b.off, none⟩) (rcount b.kind) (c - b.off)], .slice A xs.length cap] W fun e w' => e = .returned (.tuple #[]) ∧ But g W w' ∧ Row w' g (look1 xs zs b) := by
 have h3 := ok.len b hb
 have h4 := h.len
 have hm := ok.mot b hb
 have hcnt := mot_count hm
 obtain ⟨z0, hz0⟩ : ∃ z, zs[b.off]? = some z := ⟨_, List.getElem?_eq_getElem (by omega)⟩
 have hax : px b.kind nmAxis = some 0 := by
  rcases mot_kind hm with e | e | e | e | e | e | e | e | e | e | e | e
  ·rw [e]; exact othK.a20
  all_goals first | exact (cmdK (by omega)).axis | (rw [e]; first | exact othK.a29 | exact othK.a30 | exact othK.a31)
 have hin : LookIn i b.kind g b.off (rcount b.kind) (c - b.off) zs xs A cap w0 W := ⟨by omega, by omega, by omega, hax, hf, ht, hx, h.old, h.low, h.row⟩
 unfold look1
 rw [hz0, Option.getD_some]
 cases ha : axP xs z0 with
 | some x =>
  by_cases h20 : b.kind = 20
  ·exact blook20s i b.kind g b.off (rcount b.kind) _ zs xs A cap z0 x w0 W hin hz0 ha h20 (by rw [h20]; exact othK.c20)
  by_cases h27 : b.kind = 27
  ·exact blook27s i b.kind g b.off (rcount b.kind) _ zs xs A cap z0 x w0 W hin hz0 ha h27 (by rw [h27]; exact (cmdK (by omega)).cnt)
  by_cases h28 : b.kind = 28
  ·exact blook28s i b.kind g b.off (rcount b.kind) _ zs xs A cap z0 x w0 W hin hz0 ha h28 (by rw [h28]; exact (cmdK (by omega)).cnt)
  by_cases h29 : b.kind = 29
  ·exact blook29s i b.kind g b.off (rcount b.kind) _ zs xs A cap z0 x w0 W hin hz0 ha h29 (by rw [h29]; exact othK.c29)
  ·exact blook0s i b.kind g b.off (rcount b.kind) _ zs xs A cap z0 x w0 W hin hz0 ha ⟨h20, h27, h28, h29⟩
 | none =>
  by_cases h20 : b.kind = 20
  ·exact blook20n i b.kind g b.off (rcount b.kind) _ zs xs A cap z0 w0 W hin hz0 ha h20 (by rw [h20]; exact othK.c20)
  by_cases h27 : b.kind = 27
  ·exact blook27n i b.kind g b.off (rcount b.kind) _ zs xs A cap z0 w0 W hin hz0 ha h27 (by rw [h27]; exact (cmdK (by omega)).cnt)
  by_cases h28 : b.kind = 28
  ·exact blook28n i b.kind g b.off (rcount b.kind) _ zs xs A cap z0 w0 W hin hz0 ha h28 (by rw [h28]; exact (cmdK (by omega)).cnt)
  by_cases h29 : b.kind = 29
  ·exact blook29n i b.kind g b.off (rcount b.kind) _ zs xs A cap z0 w0 W hin hz0 ha h29 (by rw [h29]; exact othK.c29)
  ·exact blook0n i b.kind g b.off (rcount b.kind) _ zs xs A cap z0 w0 W hin hz0 ha ⟨h20, h27, h28, h29⟩

end Go.Proofs.YtknnhnefbbjcdaaDoor

namespace Go.Proofs.YtknnhnefbbjcdaaDoor
open Go.RowKit
set_option linter.unusedVariables false
set_option linter.unusedSimpArgs false
attribute [local go_sem] ite_max ite_min vite_max vite_min ext_cell ext_frozen

theorem row_of_own {w : World} {base n : Nat} {v : Value} {zs : List Int} (h : w.ownsRow base 2 1 v n (intsV .i64 zs)) (hn : 0 < n) : ∃ g cap, v = .slice (some ⟨g, 0, none⟩) n cap ∧ n ≤ cap ∧ cap ≤ 9223372036854775807 ∧ base ≤ g ∧ Row w g zs ∧ zs.length = n := by
 have hl : zs.length = n := by have := h.1; rw [intsV_len] at this; omega
 have h' := h
 obtain ⟨h1, h2⟩ := h
 rcases h2 with ⟨-, h0⟩ | ⟨g, cap, cur, rfl, hg, hh, hnc, hc, -⟩
 ·omega
 ·unfold maxLen at hc
  refine ⟨g, cap, rfl, hnc, hc, hg, ⟨(Array.getElem?_eq_some_iff.1 hh).1, fun j z hz => ?_, fun o => heap_free o hh⟩, hl⟩
  have hj : j < zs.length := (List.getElem?_eq_some_iff.1 hz).1
  have := owns_cell (g := g) h' rfl (j := j) (u := .int .i64 z) (by simp [intsV, hz])
  exact this
theorem clone_at (zs : List Int) (A : Option Addr) (n c : Nat) (w : World) (hr : RowN w A zs c) (hA : A = none ∨ ∃ b off, A = some ⟨b, off, none⟩) (hl : zs.length = n) (hn : n ≤ 16384) :
  Calls Tryd.prog 16 #[.slice A n c] w fun e w' => (∃ v, e = .returned v ∧ w'.ownsRow w.heap.size 2 1 v n (intsV .i64 zs)) ∧ Below w.heap.size w w' := by
 obtain ⟨i0, hi0, hz0, hz1, hz2⟩ := info_parts (show (Tryd.prog.info? 2).map (fun i => (i.zero, i.size, i.bytes)) = some (some (.int .i64 0), 1, 8) by kernel_rfl)
 rcases hA with rfl | ⟨b, off, rfl⟩
 ·have h0 : zs = [] := by
   cases zs with
   | nil => rfl
   | cons x l =>
    obtain ⟨b, off, h, -⟩ := hr.2.2 0 x rfl
    cases h
  subst h0
  obtain rfl : n = 0 := hl.symm
  refine (Tryd.slices_Clone_nil 0 c w).mono ?_
  rintro e w' ⟨rfl, rfl⟩
  exact ⟨⟨_, rfl, World.ownsRow_nil _ _ _ _⟩, Below.refl _ _⟩
 ·refine (Tryd.slices_Clone i0 (.int .i64 0) 1 8 hi0 hz0 hz1 hz2 rfl (by decide) (fun w => by kernel_rfl) b off n c (intsV .i64 zs) w (by rw [intsV_len, hl, Nat.mul_one]) (by unfold maxLen; omega) (by omega) (fun j u hu => ?_) (fun u hu => ?_)).mono ?_
  ·simp only [intsV, List.getElem?_map, Option.map_eq_some_iff] at hu
   obtain ⟨z, hz, rfl⟩ := hu
   obtain ⟨b', off', hA', hb', hc'⟩ := hr.2.2 j z hz
   cases hA'
   exact hc'
  ·simp only [intsV, List.mem_map] at hu
   obtain ⟨z, -, rfl⟩ := hu
   rfl
  ·rintro e w' ⟨v, rfl, ho, -, hb⟩
   exact ⟨⟨v, rfl, ho⟩, hb⟩
def RowR (w : World) (A : Option Addr) (l : List (Int × Int)) (cap : Nat) : Prop := RowOf w 2 16 (fun r c => c = [.int .i64 r.1, .int .i64 r.2] ∧ I64 r.1 ∧ I64 r.2) A l cap
def RepC (w : World) (l : List (Int × Int)) (c : List Value) : Prop := ∃ A cap, c = [.slice A l.length cap] ∧ RowR w A l cap
def RowRR (w : World) (A : Option Addr) (ll : List (List (Int × Int))) (cap : Nat) : Prop := RowOf w 1 24 (RepC w) A ll cap
theorem RowR.below {w w' : World} {A : Option Addr} {l : List (Int × Int)} {cap : Nat} (h : RowR w A l cap) (hb : Below w.heap.size w w') : RowR w' A l cap := RowOf.mono h hb fun _ _ _ h => h
theorem RowRR.below {w w' : World} {A : Option Addr} {ll : List (List (Int × Int))} {cap : Nat} (h : RowRR w A ll cap) (hb : Below w.heap.size w w') : RowRR w' A ll cap := RowOf.mono h hb fun _ _ _ ⟨A, c, e, h⟩ => ⟨A, c, e, h.below hb⟩
theorem rep_size : (Tryd.prog.info? 75).map (·.size) = some 2 := by kernel_rfl
theorem ins_size : (Tryd.prog.info? 68).map (·.size) = some 3 := by kernel_rfl
theorem blkC_one (g c : Nat) (b : BlK) : (blkC g c b).toArray.all (·.oneCell') = true := by simp [blkC, Value.oneCell']
theorem TS.range {w0 W : World} {g q c n : Nat} {bl : List BlK} {zs : List Int} (h : TS w0 W g q c n bl zs) {j : Nat} {b : BlK} (hj : bl[j]? = some b) : W.rangeAt q (j * 3) (blkC g c b) := fun k u hu => h.ins j b hj k u hu
theorem rep1_yes {id what : Int} {z : List Int} {b : BlK} (h1 : cmdB b.kind = true) (h2 : id ≠ 0) (h3 : z[b.off + (outsN b.kind + 5 + 1)]? = some id) : rep1 id what z b = toldP b.kind b.off what z := by
 unfold rep1
 rw [h1, decide_eq_true h2, h3]
 simp
theorem rep1_no1 {id what : Int} {z : List Int} {b : BlK} (h1 : cmdB b.kind = false) : rep1 id what z b = z := by
 unfold rep1
 rw [h1]
 rfl
theorem rep1_no2 {id what : Int} {z : List Int} {b : BlK} (h2 : id = 0) : rep1 id what z b = z := by
 unfold rep1
 rw [decide_eq_false (fun h => h h2)]
 simp
theorem rep1_no3 {id what x : Int} {z : List Int} {b : BlK} (h3 : z[b.off + (outsN b.kind + 5 + 1)]? = some x) (hx : ¬ x = id) : rep1 id what z b = z := by
 unfold rep1
 rw [h3, Option.getD_some, decide_eq_false hx]
 simp
theorem rep1_len (id what : Int) (z : List Int) (b : BlK) : (rep1 id what z b).length = z.length := by
 unfold rep1
 split
 ·exact toldP_len _ _ _ _
 ·rfl
theorem look1_len (xs : List AxS) (z : List Int) (b : BlK) : (look1 xs z b).length = z.length := looksP_len _ _ _ _

theorem blkCs_get (g c : Nat) : ∀ (l : List BlK) (j : Nat) (b : BlK), l[j]? = some b → ∀ k u, (blkC g c b)[k]? = some u → (blkCs g c l)[j * 3 + k]? = some u
 | [], j, b, h, _, _, _ => by simp at h
 | x :: l, 0, b, h, k, u, hu => by
  simp at h
  subst h
  have hk : k < 3 := (List.getElem?_eq_some_iff.1 hu).1
  rw [Nat.zero_mul, Nat.zero_add]
  show (blkC g c x ++ blkCs g c l)[k]? = some u
  rw [List.getElem?_append_left (by exact hk)]
  exact hu
 | x :: l, j + 1, b, h, k, u, hu => by
  have ih := blkCs_get g c l j b (by simpa using h) k u hu
  show (blkC g c x ++ blkCs g c l)[(j + 1) * 3 + k]? = some u
  have h3 : (blkC g c x).length = 3 := rfl
  rw [List.getElem?_append_right (by omega), h3, show (j + 1) * 3 + k - 3 = j * 3 + k by omega]
  exact ih
theorem ts_start {w : World} {H g c : Nat} {v : Value} {bl : List BlK} (ho : w.ownsRow H 68 3 v bl.length (blkCs g c bl)) (hg : g < H) (hw : H ≤ w.heap.size) :
  ∃ A k q, v = .slice A bl.length k ∧ bl.length ≤ k ∧ k ≤ 9223372036854775807 ∧ (bl ≠ [] → A = some ⟨q, 0, none⟩) ∧ q ≠ g ∧ (bl ≠ [] → q < w.heap.size) ∧ ∀ j b, bl[j]? = some b → ∀ k u, (blkC g c b)[k]? = some u → w.cell? ⟨q, j * 3 + k, none⟩ = some u := by
 have ho' := ho
 obtain ⟨h1, h2⟩ := ho
 rcases h2 with ⟨rfl, h0⟩ | ⟨q, cap, cur, rfl, hq, hh, hnc, hc, -⟩
 ·have hb : bl = [] := List.eq_nil_of_length_eq_zero h0
  subst hb
  exact ⟨none, 0, w.heap.size, rfl, Nat.le_refl _, by omega, fun h => absurd rfl h, by omega, fun h => absurd rfl h, fun j b h => by simp at h⟩
 ·unfold maxLen at hc
  refine ⟨some ⟨q, 0, none⟩, cap, q, rfl, hnc, hc, fun _ => rfl, by omega, fun _ => (Array.getElem?_eq_some_iff.1 hh).1, fun j b hj k u hu => ?_⟩
  have := ho'.cells (g := q) rfl (j * 3 + k) u (blkCs_get g c bl j b hj k u hu)
  have had : (⟨q, 0, none⟩ : Addr).add (j * 3 + k) = ⟨q, j * 3 + k, none⟩ := by
   unfold Addr.add
   split
   ·rename_i h; simp [h]
   ·simp
  rwa [had] at this

set_option maxRecDepth 100000 in
set_option maxHeartbeats 8000000 in
theorem tellS_at (p : Prg) (cs : List Value) (zs : List Int) (A : Option Addr) (n c : Nat) (xs : List AxS) (Ax : Option Addr) (kx : Nat) (ll : List (List (Int × Int))) (Ar : Option Addr) (kr : Nat) (w : World)
  (h : PrgAt w p cs) (hfit : ∀ v ∈ p.vars, ArrOk v) (hmot : ∀ v ∈ p.vars, v.arr = true → v.type ≤ 2) (hn64 : p.vars.length ≤ 64) (ht : Blanks w) (hr : RowN w A zs c) (hA : A = none ∨ ∃ b off, A = some ⟨b, off, none⟩) (hl : zs.length = n) (hn : n ≤ 16384) (hx : RowX w Ax xs kx) (hf : xs.length ≤ 4) (hrr : RowRR w Ar ll kr) :
  Calls Tryd.prog 10 #[.agg cs.toArray, .slice A n c, .slice Ax xs.length kx, .slice Ar ll.length kr] w fun e w' => (∃ v, e = .returned v ∧ ∃ A' c', v = .slice A' n c' ∧ RowN w' A' (if n = sumN p.vars then tellP (blks p.vars) xs ll zs else zs) c') ∧ Below w.heap.size w w' := by
 obtain ⟨Av, kv, Ab, kb, rfl, hv, hbd⟩ := h
 have HOF : Hid (∀ W, Below w.heap.size w W → Calls Tryd.prog 6 #[.agg #[.string p.name, .slice Av p.vars.length kv, .slice Ab p.body.length kb]] W fun e w' => (∃ v, e = .returned v ∧ LayR W p.vars v w') ∧ Below W.heap.size W w') := Lib.hid (fun W hW => layof_any p _ W ⟨Av, kv, Ab, kb, rfl, hv.below hW, hbd.below hW⟩ hfit hn64 (ht.on hW))
 have HIN : Hid (∀ W g n c Ao, Below w.heap.size w W → (0 < n → Ao = some ⟨g, 0, none⟩) → sumN p.vars ≤ n → n ≤ c ∧ c ≤ 9223372036854775807 → Calls Tryd.prog 17 #[.agg #[.string p.name, .slice Av p.vars.length kv, .slice Ab p.body.length kb], .slice Ao n c] W fun e w' => (∃ v, e = .returned v ∧ w'.ownsRow W.heap.size 68 3 v (blks p.vars).length (blkCs g c (blks p.vars))) ∧ Below W.heap.size W w') := Lib.hid (fun W g n c Ao hW h1 h2 h3 => inst_at p _ g n c Ao W ⟨Av, kv, Ab, kb, rfl, hv.below hW, hbd.below hW⟩ hfit hmot hn64 (ht.on hW) h1 h2 h3)
 have HOK := Lib.hid (blksT_ok hmot p.vars.length (Nat.le_refl _))
 have HT := Lib.hid ht
 have HX := Lib.hid hx
 have HRR := Lib.hid hrr
 have HCL := Lib.hid (clone_at zs A n c)
 have HRN := Lib.hid hr
 have HL := Lib.hid hl
 have HA := Lib.hid hA
 obtain ⟨nx, hnx⟩ : ∃ m, xs.length = m := ⟨_, rfl⟩
 obtain ⟨nr, hnr⟩ : ∃ m, ll.length = m := ⟨_, rfl⟩
 obtain ⟨m, hm⟩ : ∃ m, p.vars.length = m := ⟨_, rfl⟩
 obtain ⟨nb, hnb⟩ : ∃ m, p.body.length = m := ⟨_, rfl⟩
 obtain ⟨sm, hsm⟩ : ∃ s, sumN p.vars = s := ⟨_, rfl⟩
 obtain ⟨bl, hbl⟩ : ∃ b, blks p.vars = b := ⟨_, rfl⟩
 have hok := HOK.out
 have hbl0 : blksT p.vars p.vars.length = bl := hbl
 rw [hbl0, hsm] at hok
 have HBO := Lib.hid hok
 have HNX := Lib.hid hnx
 have HNR := Lib.hid hnr
 have HSM := Lib.hid hsm
 have HBL := Lib.hid hbl
 have hblm : bl.length ≤ m := by rw [← hbl0, ← hm]; exact blksT_len _ _
 have hr1 := hrr.1
 have hr2 := hrr.2.1
 have hx1 := hx.1
 have hx2 := hx.2.1
 rw [hnr] at hr1
 rw [hnx] at hx1 hf
 rw [hsm, hbl] at HIN
 rw [hm] at hn64
 show Calls Tryd.prog 10 #[.agg #[.string p.name, .slice Av p.vars.length kv, .slice Ab p.body.length kb], .slice A n c, .slice Ax xs.length kx, .slice Ar ll.length kr] w _
 rw [hsm, hbl, hm, hnb, hnx, hnr]
 obtain ⟨RES, hRES⟩ : ∃ r, (if n = sm then tellP bl xs ll zs else zs) = r := ⟨_, rfl⟩
 rw [hRES]
 have HRES := Lib.hid hRES
 clear hRES
 rw [hm, hnb] at HOF HIN
 have hc1 := hr.1
 have hc2 := hr.2.1
 rw [hl] at hc1
 clear hv hbd hfit hmot ht hx hrr hr hA hl hnx hnr hm hnb hsm hbl hbl0 hok HOK
 go_enter Tryd.func10, Tryd.ntmps10
 go_upto_region 1 with (fail)
 refine wp_name fun W hW => ?_
 obtain ⟨B, hB⟩ : ∃ B, B = w.heap.size := ⟨_, rfl⟩
 have HC : Hid (∀ W', Below W.heap.size W W' → W'.cell? ⟨B, 0, none⟩ = some (.string p.name) ∧ W'.cell? ⟨B, 1, none⟩ = some (.slice Av m kv) ∧ W'.cell? ⟨B, 2, none⟩ = some (.slice Ab nb kb) ∧ B < W'.heap.size) := Lib.hid (fun W' hW' => by
  have hl : B < W.heap.size := by rw [hW.out, hB]; simp
  exact ⟨(hW'.cell (p := ⟨B, 0, none⟩) hl).trans (by rw [hW.out, hB]; go_simp), (hW'.cell (p := ⟨B, 1, none⟩) hl).trans (by rw [hW.out, hB]; go_simp), (hW'.cell (p := ⟨B, 2, none⟩) hl).trans (by rw [hW.out, hB]; go_simp), Nat.lt_of_lt_of_le hl hW'.size⟩)
 have hbel : Below w.heap.size w W := by rw [hW.out]; exact belowBy
 have HB := Lib.hid hbel
 have HFZ : Hid (∀ W', Below W.heap.size W W' → w.heap.size ≤ B ∧ Row W' B []) := Lib.hid (fun W' hW' => by
  have hh : W.heap[B]? = some (.cells #[.string p.name, .slice Av m kv, .slice Ab nb kb] 25) := by rw [hW.out, hB]; exact heap_alloc_new _ _
  have hl : B < W.heap.size := (Array.getElem?_eq_some_iff.1 hh).1
  exact ⟨by omega, ⟨Nat.lt_of_lt_of_le hl hW'.size, fun j z hz => by simp at hz, fun o => (hW'.frozen (p := ⟨B, o, none⟩) hl).trans (heap_free o hh)⟩⟩)
 (try rw [← hB])
 clear hW hbel hB
 go_wp2_with fail
 refine (HCL.out W (HRN.out.below HB.out) HA.out HL.out hn).mono ?_
 rintro e w1 ⟨⟨v1, rfl, hown⟩, hb1⟩
 obtain ⟨A1, k1, rfl⟩ := own_slice hown
 have HO1 := Lib.hid hown
 have HS1 := Lib.hid hb1
 have HB1 := Lib.hid (HB.out.trans (hb1.mono HB.out.size))
 obtain ⟨c0, c1', c2, lB⟩ := HC.out w1 HS1.out
 have hz1 := HB1.out.size
 clear hb1 hown
 go_wp2_with fail
 refine (HOF.out w1 HB1.out).mono ?_
 rintro e w2 ⟨⟨v2, rfl, ⟨vA, vF, rfl, -, -⟩⟩, hb2⟩
 rw [HSM.out]
 have hfd : ∀ W : World, (Instr.field 33 (.agg #[vA, .int .i64 (sm : Int), vF]) 1).run Tryd.prog W = .ok (.int .i64 (sm : Int)) W := fun W => by kernel_rfl
 have HS2 := Lib.hid (HS1.out.trans (hb2.mono HS1.out.size))
 have HB2 := Lib.hid (HB1.out.trans (hb2.mono HB1.out.size))
 have HO2 := Lib.hid (owns_below HO1.out hb2)
 clear hb2 c0 c1' c2 lB
 obtain ⟨c0, c1', c2, lB⟩ := HC.out w2 HS2.out
 by_cases hsn : n = sm
 ·have usn : ((n : Int) != (sm : Int)) = false := by simp [hsn]
  have HSN := Lib.hid hsn
  clear hsn
  obtain ⟨AO, kO, hvO, hnO, hcO, -⟩ := own_form HO2.out
  cases hvO
  unfold maxLen at hcO
  obtain ⟨g, HG1, hgw, HRW⟩ : ∃ g, Hid (0 < n → A1 = some ⟨g, 0, none⟩) ∧ w.heap.size ≤ g ∧ Hid (Row w2 g zs) := by
   by_cases h0 : 0 < n
   ·obtain ⟨g, cap, hv, -, -, hg, hrow, -⟩ := row_of_own HO2.out h0
    cases hv
    exact ⟨g, Lib.hid (fun _ => rfl), by have := HB1.out.size; have := HB.out.size; omega, Lib.hid hrow⟩
   ·have hz : zs = [] := List.eq_nil_of_length_eq_zero (by rw [HL.out]; omega)
    obtain ⟨h1, h2⟩ := HFZ.out w2 HS2.out
    exact ⟨B, Lib.hid (fun h => absurd h h0), h1, Lib.hid (by rw [hz]; exact h2)⟩
  have hnk : n ≤ k1 ∧ k1 ≤ 9223372036854775807 := ⟨hnO, by omega⟩
  have hgl := HRW.out.lt
  have hz2 := HB2.out.size
  go_wp2_with fail
  refine (HIN.out w2 g n k1 A1 HB2.out HG1.out (by have := HSN.out; omega) hnk).mono ?_
  rintro e w3 ⟨⟨v3, rfl, hown3⟩, hb3⟩
  obtain ⟨A3, k3, q, rfl, hq1, hq2, hq3, hqg, hql, hins⟩ := ts_start hown3 hgl hb3.size
  have HA3 := Lib.hid hq3
  have HT0 : Hid (TS w w3 g q k1 n bl zs) := Lib.hid ⟨HRW.out.below hb3, HL.out, hgw, HB2.out.trans (hb3.mono HB2.out.size), hqg, hql, hins⟩
  have hbo := HBO.out
  rw [← HSN.out] at hbo
  have HBO := Lib.hid hbo
  obtain ⟨nbk, hnbk⟩ : ∃ x, bl.length = x := ⟨_, rfl⟩
  rw [hnbk] at hq1 ⊢
  have HNB := Lib.hid hnbk
  have hfx : xs.length ≤ 4 := by rw [HNX.out]; exact hf
  have HFX := Lib.hid hfx
  clear hown3 hb3 hq3 hins hbo hnbk hfx c0 c1' c2 lB hqg hql
  have hfx := HFX.out
  rw [HNX.out] at hfx
  go_wp2_with fail
  go_loopw [33] (fun u wr => ∃ (i : Nat), i ≤ nr ∧ u = .int .i64 i ∧ Hid (TS w wr g q k1 n bl (repssP bl (ll.take i) zs))) (fun u _ => nr - (intOf u).toNat)
  case atStart => exact ⟨0, by omega, rfl, HT0⟩
  case round =>
   obtain ⟨i, hi, rfl, HTI⟩ := hrel
   obtain ⟨zI, hzI⟩ : ∃ z, repssP bl (ll.take i) zs = z := ⟨_, rfl⟩
   have HZI := Lib.hid hzI
   rw [hzI] at HTI
   clear hzI
   by_cases hlt1 : i < nr
   ·obtain ⟨bq, oq, l, cq, hAr, hbq, hlx, ⟨Al, kl, rfl, hrl⟩, hcq⟩ := RowOf.at (HRR.out.below HTI.out.old) (i := i) (by rw [HNR.out]; exact hlt1)
    have hi1 : (0 : Int) ≤ (i : Int) ∧ (i : Int) < (nr : Int) := by omega
    obtain ⟨nl, hnl⟩ : ∃ x, l.length = x := ⟨_, rfl⟩
    have q0 : wr.cell? ⟨bq, oq + i, none⟩ = some (.slice Al nl kl) := by have h0 := hcq 0 (by omega); rw [Nat.mul_one, Nat.add_zero, hnl] at h0; exact h0
    have hl1 := hrl.1
    have hl2 := hrl.2.1
    rw [hnl] at hl1
    have HNL := Lib.hid hnl
    have HLX := Lib.hid hlx
    have HRL0 : Hid (RowR wr Al l kl) := Lib.hid hrl
    subst hAr
    clear hcq hlx hrl hnl
    have HZN1 : Hid (repssP bl (ll.take (i + 1)) zs = repsP bl l zI) := Lib.hid (by
     unfold repssP
     rw [fold_take _ zs HLX.out]
     have := HZI.out
     unfold repssP at this
     rw [this])
    have HRL : Hid (RowR w Al l kl) := Lib.hid (by
     obtain ⟨b', o', l', c', hA', hb', hl', ⟨Al', kl', hc', hrl'⟩, hcc⟩ := RowOf.at HRR.out (i := i) (by rw [HNR.out]; exact hlt1)
     have e1 := HLX.out
     rw [hl'] at e1
     cases e1
     cases hA'
     have h0 := hcc 0 (by omega)
     have h1 := (HTI.out.old.cell (p := ⟨bq, oq + i * 1 + 0, none⟩) hb').trans h0
     rw [Nat.mul_one, Nat.add_zero] at h1
     rw [q0, hc'] at h1
     simp at h1
     obtain ⟨rfl, -, rfl⟩ := h1
     exact hrl')
    clear HRL0
    go_wp2_with fail
    clear q0
    go_loopw [39] (fun u wr => ∃ (j : Nat), j ≤ nl ∧ u = .int .i64 j ∧ Hid (TS w wr g q k1 n bl (repsP bl (l.take j) zI))) (fun u _ => nl - (intOf u).toNat)
    case atStart => exact ⟨0, by omega, rfl, HTI⟩
    case round =>
     obtain ⟨j, hj, rfl, HTJ⟩ := hrel
     obtain ⟨zJ, hzJ⟩ : ∃ z, repsP bl (l.take j) zI = z := ⟨_, rfl⟩
     have HZJ := Lib.hid hzJ
     rw [hzJ] at HTJ
     clear hzJ
     by_cases hlt2 : j < nl
     ·obtain ⟨br, orr, ⟨rid, rwh⟩, cr, hAl, hbr, hr, ⟨rfl, hi1, hi2⟩, hcr⟩ := RowOf.at (HRL.out.below HTJ.out.old) (i := j) (by rw [HNL.out]; exact hlt2)
      have hj2 : (0 : Int) ≤ (j : Int) ∧ (j : Int) < (nl : Int) := by omega
      have r0 : wr.cell? ⟨br, orr + j * 2, none⟩ = some (.int .i64 rid) := hcr 0 (by omega)
      have r1 : wr.cell? ⟨br, orr + j * 2 + 1, none⟩ = some (.int .i64 rwh) := hcr 1 (by omega)
      have HRJ := Lib.hid hr
      subst hAl
      clear hcr hr hi1 hi2
      have HZM : Hid (repsP bl (l.take (j + 1)) zI = repP bl rid rwh zJ) := Lib.hid (by
       unfold repsP
       rw [fold_take _ zI HRJ.out]
       have := HZJ.out
       unfold repsP at this
       rw [this])
      go_upto_region 11 with (fail)
      refine wp_name fun W3 hW3 => ?_
      obtain ⟨D, hD⟩ : ∃ D, D = wr.heap.size := ⟨_, rfl⟩
      have hhD : W3.heap[D]? = some (.cells #[.int .i64 rid, .int .i64 rwh] 75) := by rw [hW3.out, hD]; exact heap_alloc_new _ _
      have hb3 : Below wr.heap.size wr W3 := by rw [hW3.out]; exact belowBy
      have HDJ : Hid (W3.cell? ⟨D, 0, none⟩ = some (.int .i64 rid) ∧ W3.cell? ⟨D, 1, none⟩ = some (.int .i64 rwh) ∧ D < W3.heap.size) := Lib.hid ⟨heap_cell 0 _ hhD rfl, heap_cell 1 _ hhD rfl, (Array.getElem?_eq_some_iff.1 hhD).1⟩
      have hDg : D ≠ g := fun e => by have := HTJ.out.row.lt; omega
      have HTJ0 := Lib.hid (HTJ.out.below hb3)
      (try rw [← hD])
      (try simp only [Act.put])
      clear hW3 hD hhD hb3 r0 r1 HTJ
      have HTJ := HTJ0
      clear HTJ0
      go_wp2_with fail
      go_loopw [45] (fun u wr => ∃ (k : Nat), k ≤ nbk ∧ u = .int .i64 k ∧ Hid (TS w wr g q k1 n bl (repP (bl.take k) rid rwh zJ)) ∧ Hid (wr.cell? ⟨D, 0, none⟩ = some (.int .i64 rid) ∧ wr.cell? ⟨D, 1, none⟩ = some (.int .i64 rwh) ∧ D < wr.heap.size)) (fun u _ => nbk - (intOf u).toNat)
      case atStart => exact ⟨0, by omega, rfl, HTJ, HDJ⟩
      case round =>
       obtain ⟨k, hk, rfl, HTK, HDwr⟩ := hrel
       obtain ⟨zK, hzK⟩ : ∃ z, repP (bl.take k) rid rwh zJ = z := ⟨_, rfl⟩
       have HZK := Lib.hid hzK
       rw [hzK] at HTK
       clear hzK
       by_cases hlt3 : k < nbk
       ·obtain ⟨b, hb⟩ : ∃ b, bl[k]? = some b := ⟨_, List.getElem?_eq_getElem (by rw [HNB.out]; exact hlt3)⟩
        have hk3 : (0 : Int) ≤ (k : Int) ∧ (k : Int) < (nbk : Int) := by omega
        have HBK := Lib.hid hb
        have HBM := Lib.hid (List.mem_of_getElem? hb)
        have HRG := Lib.hid (HTK.out.range hb)
        have hA3 := HA3.out (fun e => by rw [e] at hb; simp at hb)
        have hql := HTK.out.ql (fun e => by rw [e] at hb; simp at hb)
        subst hA3
        clear hb
        go_upto_region 14 with (first | refine wpList_load_mid rfl 68 _ rfl q (k * 3) rfl (blkC g k1 b) _ (by simpa using HRG.out) Tryd.underlying68 rfl ins_size ?_ | refine wpList_load_mid rfl 68 _ rfl q (k * 3) rfl (blkC g k1 b) _ HRG.out Tryd.underlying68 rfl ins_size ?_ | refine wpList_store_new rfl 68 _ _ rfl wr _ (blkC g k1 b).toArray rfl rfl rfl ins_size rfl (blkC_one g k1 b) ?_)
        refine wp_name fun W4 hW4 => ?_
        obtain ⟨V, hV⟩ : ∃ V, V = wr.heap.size := ⟨_, rfl⟩
        have hh4 : W4.heap[V]? = some (.cells (blkC g k1 b).toArray 68) := by rw [hW4.out, hV]; exact heap_alloc_new _ _
        have hb4 : Below wr.heap.size wr W4 := by rw [hW4.out]; exact belowBy
        have HT4 := Lib.hid (HTK.out.below hb4)
        have HDW4 : Hid (W4.cell? ⟨D, 0, none⟩ = some (.int .i64 rid) ∧ W4.cell? ⟨D, 1, none⟩ = some (.int .i64 rwh) ∧ D < W4.heap.size) := Lib.hid ⟨((But.of_below (g := g) hb4).cell D 0 HDwr.out.2.2 hDg).trans HDwr.out.1, ((But.of_below (g := g) hb4).cell D 1 HDwr.out.2.2 hDg).trans HDwr.out.2.1, Nat.lt_of_lt_of_le HDwr.out.2.2 (But.of_below (g := g) hb4).size⟩
        have hVg : V ≠ g := fun e => by have := HTK.out.row.lt; omega
        have HVV : Hid (∀ W', But g W4 W' → (W'.cell? ⟨V, 0, none⟩ = some (.int .i64 (b.num : Int)) ∧ W'.cell? ⟨V, 1, none⟩ = some (.int .i64 b.kind) ∧ W'.cell? ⟨V, 2, none⟩ = some (.slice (some ⟨g, b.off, none⟩) (rcount b.kind) (k1 - b.off)) ∧ V < W'.heap.size)) := Lib.hid (fun W' hW' => by
         have hl : V < W4.heap.size := (Array.getElem?_eq_some_iff.1 hh4).1
         exact ⟨(hW'.cell V 0 hl hVg).trans (heap_cell 0 _ hh4 rfl), (hW'.cell V 1 hl hVg).trans (heap_cell 1 _ hh4 rfl), (hW'.cell V 2 hl hVg).trans (heap_cell 2 _ hh4 rfl), Nat.lt_of_lt_of_le hl hW'.size⟩)
        (try rw [← hV])
        (try simp only [Act.put])
        clear hW4 hV hh4 hb4 hql HRG
        obtain ⟨cb, hcb⟩ : ∃ x, cmdB b.kind = x := ⟨_, rfl⟩
        have HCM := Lib.hid (fun w => commands_any b.kind w)
        rw [hcb] at HCM
        have HCB := Lib.hid hcb
        clear hcb
        obtain ⟨v0, v1, v2, lV⟩ := HVV.out W4 (But.refl _ _)
        obtain ⟨e0, e1, lD⟩ := HDW4.out
        cases cb
        ·have HZN : Hid (repP (bl.take (k + 1)) rid rwh zJ = zK) := Lib.hid (by
          unfold repP
          rw [fold_take (rep1 rid rwh) zJ HBK.out]
          have := HZK.out
          unfold repP at this
          rw [this]
          exact rep1_no1 HCB.out)
         go_wp2_with fail
         refine wp_region_ext (by kernel_rfl) (by kernel_rfl) ?_
         repeat (go_big_quiet_step (first | (go_at_call 20; with_reducible exact ext_same (HCM.out _))))
         refine wpQuiet_nil ?_
         intro w5 hb5
         replace hb5 := ext_below hb5
         have HT5 := Lib.hid (HT4.out.below hb5)
         have HDw5 : Hid (w5.cell? ⟨D, 0, none⟩ = some (.int .i64 rid) ∧ w5.cell? ⟨D, 1, none⟩ = some (.int .i64 rwh) ∧ D < w5.heap.size) := Lib.hid ⟨((But.of_below (g := g) hb5).cell D 0 HDW4.out.2.2 hDg).trans HDW4.out.1, ((But.of_below (g := g) hb5).cell D 1 HDW4.out.2.2 hDg).trans HDW4.out.2.1, Nat.lt_of_lt_of_le HDW4.out.2.2 (But.of_below (g := g) hb5).size⟩
         have hb5' := hb5
         clear hb5 hb5' v0 v1 v2 lV e0 e1 lD
         go_wp2
         go_roundw
         case rel => exact ⟨k + 1, by omega, by go_num, Lib.hid (by rw [HZN.out]; exact HT5.out), HDw5⟩
         case measure => simp [intOf]; omega
        ·by_cases hid : rid = 0
         ·have HID := Lib.hid hid
          have uid : (rid != 0) = false := by simp [hid]
          clear hid
          have HZN : Hid (repP (bl.take (k + 1)) rid rwh zJ = zK) := Lib.hid (by
           unfold repP
           rw [fold_take (rep1 rid rwh) zJ HBK.out]
           have := HZK.out
           unfold repP at this
           rw [this]
           exact rep1_no2 HID.out)
          go_wp2_with fail
          refine wp_region_ext (by kernel_rfl) (by kernel_rfl) ?_
          repeat (go_big_quiet_step (first | (go_at_call 20; with_reducible exact ext_same (HCM.out _))))
          refine wpQuiet_nil ?_
          intro w5 hb5
          replace hb5 := ext_below hb5
          have HT5 := Lib.hid (HT4.out.below hb5)
          have HDw5 : Hid (w5.cell? ⟨D, 0, none⟩ = some (.int .i64 rid) ∧ w5.cell? ⟨D, 1, none⟩ = some (.int .i64 rwh) ∧ D < w5.heap.size) := Lib.hid ⟨((But.of_below (g := g) hb5).cell D 0 HDW4.out.2.2 hDg).trans HDW4.out.1, ((But.of_below (g := g) hb5).cell D 1 HDW4.out.2.2 hDg).trans HDW4.out.2.1, Nat.lt_of_lt_of_le HDW4.out.2.2 (But.of_below (g := g) hb5).size⟩
          have hb5' := hb5
          clear hb5 hb5' v0 v1 v2 lV e0 e1 lD
          go_wp2
          go_roundw
          case rel => exact ⟨k + 1, by omega, by go_num, Lib.hid (by rw [HZN.out]; exact HT5.out), HDw5⟩
          case measure => simp [intOf]; omega
         ·have uid : (rid != 0) = true := by simp [hid]
          have HID := Lib.hid hid
          clear hid
          have HINN : Hid (∀ W', Below W4.heap.size W4 W' → Calls Tryd.prog 25 #[.agg #[.int .i64 (b.num : Int), .int .i64 b.kind, .slice (some ⟨g, b.off, none⟩) (rcount b.kind) (k1 - b.off)], .int .i64 1] W' fun e w' => e = .returned (.pointer (some ⟨g, b.off + (outsN b.kind + 5 + 1), none⟩)) ∧ Below W'.heap.size W' w') := Lib.hid (fun W' h => TS.inner HT.out (HT4.out.below h) HBO.out hnk HBM.out HCB.out (b.num : Int))
          obtain ⟨x6, hx6⟩ : ∃ x, zK[b.off + (outsN b.kind + 5 + 1)]? = some x := ⟨_, List.getElem?_eq_getElem (by
           have h1 := HBO.out.len b HBM.out
           have h2 := (cmdK (show 21 ≤ b.kind ∧ b.kind ≤ 28 by have := HCB.out; unfold cmdB at this; simpa only [Bool.and_eq_true, decide_eq_true_eq] using this)).cnt
           have h3 := HTK.out.len
           omega)⟩
          have HX6 := Lib.hid hx6
          have g6 : W4.cell? ⟨g, b.off + (outsN b.kind + 5 + 1), none⟩ = some (.int .i64 x6) := HT4.out.row.cell _ _ hx6
          have lg4 : g < W4.heap.size := HT4.out.row.lt
          clear hx6
          by_cases hxe : x6 = rid
          ·have uxe : (x6 == rid) = true := by simp [hxe]
           have HXE := Lib.hid hxe
           clear hxe
           have HZN : Hid (repP (bl.take (k + 1)) rid rwh zJ = (toldP b.kind b.off rwh zK)) := Lib.hid (by
            unfold repP
            rw [fold_take (rep1 rid rwh) zJ HBK.out]
            have := HZK.out
            unfold repP at this
            rw [this]
            exact rep1_yes HCB.out HID.out (by rw [HX6.out, HXE.out]))
           go_wp2_with fail
           refine wp_region_ext (by kernel_rfl) (by kernel_rfl) ?_
           repeat (go_big_quiet_step (first | (go_at_call 20; with_reducible exact ext_same (HCM.out _)) | (go_at_call 25; with_reducible exact ext_call (HINN.out _ (ext_below ⟨_, rfl⟩)))))
           refine wpQuiet_nil ?_
           intro w5 hb5
           replace hb5 := ext_below hb5
           have HT5 := Lib.hid (HT4.out.below hb5)
           have HDw5 : Hid (w5.cell? ⟨D, 0, none⟩ = some (.int .i64 rid) ∧ w5.cell? ⟨D, 1, none⟩ = some (.int .i64 rwh) ∧ D < w5.heap.size) := Lib.hid ⟨((But.of_below (g := g) hb5).cell D 0 HDW4.out.2.2 hDg).trans HDW4.out.1, ((But.of_below (g := g) hb5).cell D 1 HDW4.out.2.2 hDg).trans HDW4.out.2.1, Nat.lt_of_lt_of_le HDW4.out.2.2 (But.of_below (g := g) hb5).size⟩
           have hb5' := hb5
           clear g6 lg4 v0 v1 v2 lV e0 e1 lD
           obtain ⟨v0, v1, v2, lV⟩ := HVV.out w5 (But.of_below hb5)
           obtain ⟨e0, e1, lD⟩ := HDw5.out
           clear hb5 hb5'
           go_wp2_with fail
           refine (HT5.out.told HT.out HBO.out hnk HBM.out HCB.out (b.num : Int) rwh).mono ?_
           rintro e w6 ⟨rfl, hbt, hrw⟩
           have HT6 := Lib.hid (HT5.out.next hbt hrw (toldP_len _ _ _ _))
           have HDw6 : Hid (w6.cell? ⟨D, 0, none⟩ = some (.int .i64 rid) ∧ w6.cell? ⟨D, 1, none⟩ = some (.int .i64 rwh) ∧ D < w6.heap.size) := Lib.hid ⟨(hbt.cell D 0 HDw5.out.2.2 hDg).trans HDw5.out.1, (hbt.cell D 1 HDw5.out.2.2 hDg).trans HDw5.out.2.1, Nat.lt_of_lt_of_le HDw5.out.2.2 hbt.size⟩
           clear hbt hrw v0 v1 v2 lV e0 e1 lD
           go_wp2
           go_roundw
           case rel => exact ⟨k + 1, by omega, by go_num, Lib.hid (by rw [HZN.out]; exact HT6.out), HDw6⟩
           case measure => simp [intOf]; omega
          ·have uxe : (x6 == rid) = false := by simp [hxe]
           have HXE := Lib.hid hxe
           clear hxe
           have HZN : Hid (repP (bl.take (k + 1)) rid rwh zJ = zK) := Lib.hid (by
            unfold repP
            rw [fold_take (rep1 rid rwh) zJ HBK.out]
            have := HZK.out
            unfold repP at this
            rw [this]
            exact rep1_no3 HX6.out HXE.out)
           go_wp2_with fail
           refine wp_region_ext (by kernel_rfl) (by kernel_rfl) ?_
           repeat (go_big_quiet_step (first | (go_at_call 20; with_reducible exact ext_same (HCM.out _)) | (go_at_call 25; with_reducible exact ext_call (HINN.out _ (ext_below ⟨_, rfl⟩)))))
           refine wpQuiet_nil ?_
           intro w5 hb5
           replace hb5 := ext_below hb5
           have HT5 := Lib.hid (HT4.out.below hb5)
           have HDw5 : Hid (w5.cell? ⟨D, 0, none⟩ = some (.int .i64 rid) ∧ w5.cell? ⟨D, 1, none⟩ = some (.int .i64 rwh) ∧ D < w5.heap.size) := Lib.hid ⟨((But.of_below (g := g) hb5).cell D 0 HDW4.out.2.2 hDg).trans HDW4.out.1, ((But.of_below (g := g) hb5).cell D 1 HDW4.out.2.2 hDg).trans HDW4.out.2.1, Nat.lt_of_lt_of_le HDW4.out.2.2 (But.of_below (g := g) hb5).size⟩
           have hb5' := hb5
           clear g6 lg4 hb5 hb5' v0 v1 v2 lV e0 e1 lD
           go_wp2
           go_roundw
           case rel => exact ⟨k + 1, by omega, by go_num, Lib.hid (by rw [HZN.out]; exact HT5.out), HDw5⟩
           case measure => simp [intOf]; omega
       ·obtain rfl : k = nbk := by omega
        have HTE : Hid (TS w wr g q k1 n bl (repP bl rid rwh zJ)) := Lib.hid (by have h := HTK.out; rw [← HZK.out, List.take_of_length_le (by rw [HNB.out]; exact Nat.le_refl _)] at h; exact h)
        clear HTK HZK HDwr
        go_wp2
        go_roundw
        case rel => exact ⟨j + 1, by omega, by go_num, Lib.hid (by rw [HZM.out]; exact HTE.out)⟩
        case measure => simp [intOf]; omega
     ·obtain rfl : j = nl := by omega
      have HTE : Hid (TS w wr g q k1 n bl (repsP bl l zI)) := Lib.hid (by have h := HTJ.out; rw [← HZJ.out, List.take_of_length_le (by rw [HNL.out]; exact Nat.le_refl _)] at h; exact h)
      clear HTJ HZJ
      go_wp2
      go_roundw
      case rel => exact ⟨i + 1, by omega, by go_num, Lib.hid (by rw [HZN1.out]; exact HTE.out)⟩
      case measure => simp [intOf]; omega
   ·obtain rfl : i = nr := by omega
    obtain ⟨zR, hzR⟩ : ∃ z, repssP bl ll zs = z := ⟨_, rfl⟩
    have HZR := Lib.hid hzR
    have HTR : Hid (TS w wr g q k1 n bl zR) := Lib.hid (by have h := HTI.out; rw [← HZI.out, List.take_of_length_le (by rw [HNR.out]; exact Nat.le_refl _), hzR] at h; exact h)
    clear HTI HZI hzR
    obtain ⟨WR, rfl⟩ : ∃ X : World, X = wr := ⟨_, rfl⟩
    go_wp2_with fail
    go_loopw [75] (fun u wr => ∃ (k : Nat), k ≤ nbk ∧ u = .int .i64 k ∧ Hid (TS w wr g q k1 n bl (lookP (bl.take k) xs zR))) (fun u _ => nbk - (intOf u).toNat)
    case atStart => exact ⟨0, by omega, rfl, HTR⟩
    case round =>
     obtain ⟨k, hk, rfl, HTK⟩ := hrel
     obtain ⟨zK, hzK⟩ : ∃ z, lookP (bl.take k) xs zR = z := ⟨_, rfl⟩
     have HZK := Lib.hid hzK
     rw [hzK] at HTK
     clear hzK
     by_cases hlt3 : k < nbk
     ·obtain ⟨b, hb⟩ : ∃ b, bl[k]? = some b := ⟨_, List.getElem?_eq_getElem (by rw [HNB.out]; exact hlt3)⟩
      have hk3 : (0 : Int) ≤ (k : Int) ∧ (k : Int) < (nbk : Int) := by omega
      have HBK := Lib.hid hb
      have HBM := Lib.hid (List.mem_of_getElem? hb)
      have HRG := Lib.hid (HTK.out.range hb)
      have hA3 := HA3.out (fun e => by rw [e] at hb; simp at hb)
      have hql := HTK.out.ql (fun e => by rw [e] at hb; simp at hb)
      subst hA3
      clear hb
      go_upto_region 22 with (first | refine wpList_load_mid rfl 68 _ rfl q (k * 3) rfl (blkC g k1 b) _ (by simpa using HRG.out) Tryd.underlying68 rfl ins_size ?_ | refine wpList_load_mid rfl 68 _ rfl q (k * 3) rfl (blkC g k1 b) _ HRG.out Tryd.underlying68 rfl ins_size ?_ | refine wpList_store_new rfl 68 _ _ rfl wr _ (blkC g k1 b).toArray rfl rfl rfl ins_size rfl (blkC_one g k1 b) ?_)
      refine wp_name fun W4 hW4 => ?_
      obtain ⟨V, hV⟩ : ∃ V, V = wr.heap.size := ⟨_, rfl⟩
      have hh4 : W4.heap[V]? = some (.cells (blkC g k1 b).toArray 68) := by rw [hW4.out, hV]; exact heap_alloc_new _ _
      have hb4 : Below wr.heap.size wr W4 := by rw [hW4.out]; exact belowBy
      have HT4 := Lib.hid (HTK.out.below hb4)
      have hVg : V ≠ g := fun e => by have := HTK.out.row.lt; omega
      have HVV : Hid (∀ W', But g W4 W' → (W'.cell? ⟨V, 0, none⟩ = some (.int .i64 (b.num : Int)) ∧ W'.cell? ⟨V, 1, none⟩ = some (.int .i64 b.kind) ∧ W'.cell? ⟨V, 2, none⟩ = some (.slice (some ⟨g, b.off, none⟩) (rcount b.kind) (k1 - b.off)) ∧ V < W'.heap.size)) := Lib.hid (fun W' hW' => by
       have hl : V < W4.heap.size := (Array.getElem?_eq_some_iff.1 hh4).1
       exact ⟨(hW'.cell V 0 hl hVg).trans (heap_cell 0 _ hh4 rfl), (hW'.cell V 1 hl hVg).trans (heap_cell 1 _ hh4 rfl), (hW'.cell V 2 hl hVg).trans (heap_cell 2 _ hh4 rfl), Nat.lt_of_lt_of_le hl hW'.size⟩)
      (try rw [← hV])
      (try simp only [Act.put])
      clear hW4 hV hh4 hb4 hql HRG
      obtain ⟨v0, v1, v2, lV⟩ := HVV.out W4 (But.refl _ _)
      have HZN : Hid (lookP (bl.take (k + 1)) xs zR = look1 xs zK b) := Lib.hid (by
       unfold lookP
       rw [fold_take _ zR HBK.out]
       have := HZK.out
       unfold lookP at this
       rw [this])
      have HLK := Lib.hid (HT4.out.looks HT.out HBO.out hnk HBM.out (b.num : Int) xs Ax kx HX.out HFX.out)
      rw [HNX.out] at HLK
      go_wp2_with fail
      refine HLK.out.mono ?_
      rintro e w6 ⟨rfl, hbt, hrw⟩
      have HT6 := Lib.hid (HT4.out.next hbt hrw (look1_len _ _ _))
      clear hbt hrw v0 v1 v2 lV
      go_wp2
      go_roundw
      case rel => exact ⟨k + 1, by omega, by go_num, Lib.hid (by rw [HZN.out]; exact HT6.out)⟩
      case measure => simp [intOf]; omega
     ·obtain rfl : k = nbk := by omega
      have HTE : Hid (TS w wr g q k1 n bl (lookP bl xs zR)) := Lib.hid (by have h := HTK.out; rw [← HZK.out, List.take_of_length_le (by rw [HNB.out]; exact Nat.le_refl _)] at h; exact h)
      clear HTK HZK
      have HRR2 : Hid (RowN wr A1 RES k1) := Lib.hid (by
       have h1 := HTE.out
       rw [← HRES.out, if_pos HSN.out]
       show RowN wr A1 (lookP bl xs (repssP bl ll zs)) k1
       rw [HZR.out]
       refine ⟨by rw [h1.len]; omega, by omega, fun i z hz => ?_⟩
       have hi := (List.getElem?_eq_some_iff.1 hz).1
       exact ⟨g, 0, HG1.out (by rw [h1.len] at hi; omega), h1.row.lt, by rw [Nat.zero_add]; exact h1.row.cell _ _ hz⟩)
      have HBE := Lib.hid (HTE.out.old)
      clear HTE
      go_wp2
      go_ret
      exact ⟨⟨_, rfl, _, _, rfl, HRR2.out⟩, HBE.out⟩
 ·have usn : ((n : Int) != (sm : Int)) = true := by simp; omega
  have HSN := Lib.hid hsn
  clear hsn
  have HRR2 : Hid (RowN w2 A1 RES k1) := Lib.hid (by rw [← HRES.out, if_neg HSN.out]; exact (rowN_of HO2.out).1)
  go_wp2
  go_ret
  exact ⟨⟨_, rfl, _, _, rfl, HRR2.out⟩, HB2.out⟩

end Go.Proofs.YtknnhnefbbjcdaaDoor
