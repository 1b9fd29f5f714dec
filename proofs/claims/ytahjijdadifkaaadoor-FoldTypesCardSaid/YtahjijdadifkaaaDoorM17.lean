/- Merged: Layer 20: a place, a field. PRINTED by wip/tool/mkkdg.py Layer 20: the types of an operation's parts. -/
import Derived.Test.YtahjijdadifkaaaDoorM16
set_option linter.unusedVariables false
set_option linter.unusedSimpArgs false
set_option maxHeartbeats 4000000
namespace Go.Proofs.YtahjijdadifkaaaDoor
open Go.RowKit
attribute [local go_sem] ite_max ite_min vite_max vite_min ext_cell ext_frozen extS_cell extS_frozen

def placeT (T : Ex → Option Int) (v : VarS) (x : Ex) : Option Int :=
 if x.op = 4 then (if v.arr = true ∧ x.sub.head?.bind T = some 1 then some v.type else none) else if v.arr = false ∧ ¬ 2 < v.type then some v.type else none
def fieldT (vs : List VarS) (x : Ex) : Option Int := match varF vs x.name with
 | none => none
 | some v => if 2 < v.type then (kpF v.type x.field).map (kpTy v.type) else none
set_option maxRecDepth 100000 in
theorem kplace_of (T : Ex → Option Int) (v : VarS) (x : Ex) (A : Option Addr) (cap C : Nat) (w : World) (hx : ExAt w x (ExC x A cap)) (hrow : RowE w A x.sub cap) (hne : x.op = 4 → x.sub ≠ [])
  (hT : ∀ y ∈ x.sub, ∀ W As ks, Below w.heap.size w W → ExAt W y (ExC y As ks) → ExprAt W C y As ks (T y)) :
  Calls Tryd.prog 41 #[ckP C, .agg v.cells.toArray, .agg (ExC x A cap).toArray] w fun e w' => TyRes (placeT T v x) e ∧ Below w.heap.size w w' := by
 have HROW := Lib.hid hrow
 have HT := Lib.hid hT
 have HNE := Lib.hid hne
 have HBL : Hid (∀ w, Calls Tryd.prog 62 #[.agg v.cells.toArray] w fun e w' => e = .returned (.bool (decide (2 < v.type))) ∧ Below w.heap.size w w') := Lib.hid (kblock_any v)
 have hcap := hrow.1
 have hcap2 := hrow.2.1
 obtain ⟨L, hL⟩ : ∃ L, ExC x A cap = L := ⟨_, rfl⟩
 obtain ⟨M, hM⟩ : ∃ M, v.cells = M := ⟨_, rfl⟩
 obtain ⟨ln, hln⟩ : ∃ ln, x.line = ln := ⟨_, rfl⟩
 obtain ⟨op, hop⟩ : ∃ o, x.op = o := ⟨_, rfl⟩
 obtain ⟨n, hn⟩ : ∃ n, x.sub.length = n := ⟨_, rfl⟩
 obtain ⟨ty, hty⟩ : ∃ o, v.type = o := ⟨_, rfl⟩
 obtain ⟨ar, har⟩ : ∃ o, v.arr = o := ⟨_, rfl⟩
 have HMS : Hid ((Tryd.prog.info? 47).map (·.size) = some M.length) := Lib.hid (by rw [← hM]; exact var_size8)
 have HX : Hid (L[0]? = some (.int .i64 op) ∧ L[4]? = some (.slice A n cap) ∧ L[5]? = some (.int .i64 ln)) := Lib.hid (by rw [← hL, ← hop, ← hn, ← hln]; exact ⟨rfl, rfl, rfl⟩)
 have HM : Hid (M[1]? = some (.int .i64 ty) ∧ M[3]? = some (.bool ar)) := Lib.hid (by rw [← hM, ← hty, ← har]; exact ⟨rfl, rfl⟩)
 obtain ⟨r, hr⟩ : ∃ r, placeT T v x = r := ⟨_, rfl⟩
 have HR : Hid ((if op = 4 then (if ar = true ∧ x.sub.head?.bind T = some 1 then some ty else none) else if ar = false ∧ ¬ 2 < ty then some ty else none) = r) := Lib.hid (by rw [← hr, ← hop, ← hty, ← har]; rfl)
 have HOP := Lib.hid hop
 have HN := Lib.hid hn
 rw [hty, hM] at HBL
 rw [hr, hL, hM]
 rw [hn] at hcap
 clear hrow hT hne hL hM hln hop hn hty har hr hx
 go_enter Tryd.func41, Tryd.ntmps41
 go_upto_region 1 with (first | refine wpList_boxTo rfl 47 _ rfl _ rfl _ rfl M.toArray rfl ?_ | refine wpList_boxTo rfl 28 _ rfl _ rfl _ rfl L.toArray rfl ?_)
 refine wp_name fun W hW => ?_
 obtain ⟨B, hB⟩ : ∃ B, B = w.heap.size := ⟨_, rfl⟩
 have hh : W.heap[B]? = some (.cells M.toArray 47) := by rw [hW.out, hB]; exact (heap_alloc_old _ _ (by simp)).trans (heap_alloc_new _ _)
 have hg : W.heap[B + 1]? = some (.cells L.toArray 28) := by
  rw [hW.out, hB]
  have := heap_alloc_new (w.alloc (.cells M.toArray 47)) (.cells L.toArray 28)
  rw [World.size_alloc] at this
  exact this
 have hbel : Below w.heap.size w W := by rw [hW.out]; exact belowBy
 have lB1 : B + 1 < W.heap.size := (Array.getElem?_eq_some_iff.1 hg).1
 have lB : B < W.heap.size := by omega
 have HB := Lib.hid hbel
 have HMG : Hid (∀ w', Below W.heap.size W w' → w'.rangeAt B 0 M) := Lib.hid (fun w' hb => by
  have := rangeAt_of_heap ((hb.block B lB).trans hh)
  simpa using this)
 have HC : Hid (∀ w', Below W.heap.size W w' → w'.cell? ⟨B, 1, none⟩ = some (.int .i64 ty) ∧ w'.cell? ⟨B, 3, none⟩ = some (.bool ar) ∧ w'.cell? ⟨B + 1, 0, none⟩ = some (.int .i64 op) ∧ w'.cell? ⟨B + 1, 4, none⟩ = some (.slice A n cap) ∧ w'.cell? ⟨B + 1, 5, none⟩ = some (.int .i64 ln)) := Lib.hid (fun w' hb => by
  have h1 := (hb.block B lB).trans hh
  have h2 := (hb.block (B + 1) lB1).trans hg
  exact ⟨heap_cell 1 _ h1 (by rw [List.getElem?_toArray]; exact HM.out.1), heap_cell 3 _ h1 (by rw [List.getElem?_toArray]; exact HM.out.2), heap_cell 0 _ h2 (by rw [List.getElem?_toArray]; exact HX.out.1), heap_cell 4 _ h2 (by rw [List.getElem?_toArray]; exact HX.out.2.1), heap_cell 5 _ h2 (by rw [List.getElem?_toArray]; exact HX.out.2.2)⟩)
 obtain ⟨v1, v3, x0, x4, x5⟩ := HC.out W (Below.refl _ _)
 rw [show w.heap.size + 1 = B + 1 by omega, ← hB]
 clear hW hh hg hbel hB lB1 lB HX HM
 by_cases h4 : op = 4
 ·subst h4
  cases ar
  ·obtain rfl : none = r := by rw [← HR.out]; simp
   go_wp2_with fail
   refine (need_any false 10 ln _ (by decide)).mono ?_
   rintro e w2 ⟨he, rfl⟩
   obtain ⟨n9, l9, rfl, h9⟩ := he
   exact post_panic rfl ⟨⟨n9, l9, rfl, h9⟩, HB.out⟩
  ·have hpos : 0 < x.sub.length := List.length_pos_iff.2 (HNE.out HOP.out)
   obtain ⟨b, off, y, As, ks, rfl, hbl, hy, hay, hry, hrg⟩ := RowE.at (HROW.out.below HB.out) hpos
   have HRG := Lib.hid hrg
   have HHD : Hid (x.sub.head? = some y) := Lib.hid (by rw [← hy]; cases hxs : x.sub <;> rfl)
   have HNUM : Hid (Calls Tryd.prog 57 #[ckP C, .agg (ExC y As ks).toArray] W fun e w' => Oks (decide (T y = some 1)) e ∧ Below W.heap.size W w') := Lib.hid (knumber_of y As ks C (T y) W (HT.out y (List.mem_of_getElem? hy) W As ks HB.out hay))
   have hn0 : (0 : Int) < (n : Int) := by rw [HN.out] at hpos; omega
   have HHR : Hid ((if T y = some 1 then some ty else none) = r) := Lib.hid (by rw [← HR.out, if_pos rfl, HHD.out]; simp)
   obtain ⟨L6, hL6⟩ : ∃ L, ExC y As ks = L := ⟨_, rfl⟩
   have HL6 : Hid ((Tryd.prog.info? 28).map (·.size) = some L6.length) := Lib.hid (by rw [← hL6]; exact expr_size)
   rw [hL6] at HNUM HRG
   clear hy hay hry hrg hpos hL6
   go_wp2_with fail
   refine (need_any true 10 ln _ (by decide)).mono ?_
   rintro e w2 ⟨rfl, rfl⟩
   cases hty : decide (T y = some 1)
   ·rw [hty] at HNUM
    obtain rfl : none = r := by rw [← HHR.out, if_neg (of_decide_eq_false hty)]
    clear hty
    go_wp2_with (refine wpList_load_mid rfl 28 _ rfl b (off + 0 * 6) (by rfl) L6 _ HRG.out Tryd.underlying28 rfl HL6.out ?_)
    refine HNUM.out.mono ?_
    rintro e w3 ⟨he, hb3⟩
    obtain ⟨n9, l9, rfl, h9⟩ := he
    exact post_panic rfl ⟨⟨n9, l9, rfl, h9⟩, HB.out.trans (hb3.mono HB.out.size)⟩
   ·rw [hty] at HNUM
    obtain rfl : some ty = r := by rw [← HHR.out, if_pos (of_decide_eq_true hty)]
    clear hty
    go_wp2_with (refine wpList_load_mid rfl 28 _ rfl b (off + 0 * 6) (by rfl) L6 _ HRG.out Tryd.underlying28 rfl HL6.out ?_)
    refine HNUM.out.mono ?_
    rintro e w3 ⟨he, hb3⟩
    obtain rfl := he
    have v1' := (HC.out _ hb3).1
    have lB3 := hb3.size
    have HB3 := Lib.hid (HB.out.trans (hb3.mono HB.out.size))
    clear hb3
    go_wp2
    go_ret
    exact ⟨rfl, HB3.out⟩
 ·have hop4 : (op == 4) = false := by simp [h4]
  cases ar
  ·by_cases h2 : 2 < ty
   ·have hd : decide (2 < ty) = true := by simp [h2]
    obtain rfl : none = r := by rw [← HR.out, if_neg h4, if_neg (by intro h; exact h.2 h2)]
    rw [hd] at HBL
    clear h2 hd
    go_wp2_with fail
    refine wp_region_held_drew (S := fun w' => Below W.heap.size W w') (by kernel_rfl) ?_ (fun hHeld => ?_)
    ·exact (Below.refl _ _).drew
    refine tT 0 ?_ rfl ?_ ?_; rotate_left; (focus intros; go_simp; try rfl)
    (refine tT 1 ?_ rfl ?_ ?_; rotate_left; (focus (intro w' hSw; (try dsimp only at hSw); (have g := (HC.out _ hSw).2.1); go_simp; try (with_reducible rfl))))
    refine tT 2 ?_ rfl ?_ ?_; rotate_left; (focus intros; go_simp; try rfl); (try simp only [ly])
    refine tT 3 ?_ rfl ?_ ?_; rotate_left; (focus intros; go_simp; try rfl)
    (refine takeH (i := 4) (v := .agg M.toArray) rfl (by kernel_rfl) (by kernel_rfl) (by kernel_rfl) (fun _ _ _ h => h) (yieldsIf_load_mid (by kernel_rfl) 47 _ rfl B 0 rfl M _ (fun _ hb => HMG.out _ hb) Tryd.underlying47 rfl HMS.out) (by assumption) ?_)
    refine tT 8 ?_ rfl ?_ ?_; rotate_left; (focus intros; go_simp; try rfl); (try simp only [ly])
    (refine tT 9 ?_ rfl ?_ ?_; rotate_left; (focus (intro w' hSw; (try dsimp only at hSw); (have g := (HC.out _ hSw).2.2.2.2); go_simp; try (with_reducible rfl))); (try simp only [ly]))
    refine oneH (i := 5) (by kernel_rfl) rfl (fun Kc hK => ?_)
    go_simp
    go_at_call 62; refine (HBL.out _).mono ?_; rintro e w1 ⟨rfl, hb1⟩; (have HB1 := Lib.hid (hHeld.trans (hb1.mono hHeld.size))); clear hb1 hHeld
    go_wp2_with fail
    refine hK.out _ _ (HB1.out) (fun hHeld => ?_)
    clear hK Kc
    (try simp only [ly])
    refine tT 6 ?_ rfl ?_ ?_; rotate_left; (focus intros; go_simp; try rfl)
    refine tT 7 ?_ rfl ?_ ?_; rotate_left; (focus intros; go_simp; try rfl); (try simp only [ly])
    refine oneH (i := 10) (by kernel_rfl) rfl (fun Kc hK => ?_)
    go_simp
    go_at_call 35; refine (need_any false 10 ln _ (by decide)).mono ?_; rintro e w2 ⟨he, rfl⟩; obtain ⟨n9, l9, rfl, h9⟩ := he
    exact post_panic rfl (⟨⟨n9, l9, rfl, h9⟩, HB.out.trans (HB1.out.mono HB.out.size)⟩)
   ·have hd : decide (2 < ty) = false := by simp [h2]
    obtain rfl : some ty = r := by rw [← HR.out, if_neg h4, if_pos ⟨rfl, h2⟩]
    rw [hd] at HBL
    clear h2 hd
    go_wp2_with fail
    refine wp_region_held_drew (S := fun w' => Below W.heap.size W w') (by kernel_rfl) ?_ (fun hHeld => ?_)
    ·exact (Below.refl _ _).drew
    refine tT 0 ?_ rfl ?_ ?_; rotate_left; (focus intros; go_simp; try rfl)
    (refine tT 1 ?_ rfl ?_ ?_; rotate_left; (focus (intro w' hSw; (try dsimp only at hSw); (have g := (HC.out _ hSw).2.1); go_simp; try (with_reducible rfl))))
    refine tT 2 ?_ rfl ?_ ?_; rotate_left; (focus intros; go_simp; try rfl); (try simp only [ly])
    refine tT 3 ?_ rfl ?_ ?_; rotate_left; (focus intros; go_simp; try rfl)
    (refine takeH (i := 4) (v := .agg M.toArray) rfl (by kernel_rfl) (by kernel_rfl) (by kernel_rfl) (fun _ _ _ h => h) (yieldsIf_load_mid (by kernel_rfl) 47 _ rfl B 0 rfl M _ (fun _ hb => HMG.out _ hb) Tryd.underlying47 rfl HMS.out) (by assumption) ?_)
    refine tT 8 ?_ rfl ?_ ?_; rotate_left; (focus intros; go_simp; try rfl); (try simp only [ly])
    (refine tT 9 ?_ rfl ?_ ?_; rotate_left; (focus (intro w' hSw; (try dsimp only at hSw); (have g := (HC.out _ hSw).2.2.2.2); go_simp; try (with_reducible rfl))); (try simp only [ly]))
    refine oneH (i := 5) (by kernel_rfl) rfl (fun Kc hK => ?_)
    go_simp
    go_at_call 62; refine (HBL.out _).mono ?_; rintro e w1 ⟨rfl, hb1⟩; (have HB1 := Lib.hid (hHeld.trans (hb1.mono hHeld.size))); clear hb1 hHeld
    go_wp2_with fail
    refine hK.out _ _ (HB1.out) (fun hHeld => ?_)
    clear hK Kc
    (try simp only [ly])
    refine tT 6 ?_ rfl ?_ ?_; rotate_left; (focus intros; go_simp; try rfl)
    refine tT 7 ?_ rfl ?_ ?_; rotate_left; (focus intros; go_simp; try rfl); (try simp only [ly])
    refine oneH (i := 10) (by kernel_rfl) rfl (fun Kc hK => ?_)
    go_simp
    go_at_call 35; refine (need_any true 10 ln _ (by decide)).mono ?_; rintro e w2 ⟨rfl, rfl⟩
    go_wp2_with fail
    refine hK.out _ _ (HB1.out) (fun hHeld => ?_)
    clear hK Kc
    (try simp only [ly])
    refine wpAnyH_done (by kernel_rfl) ?_ _
    (try simp only [ly])
    have v1' := (HC.out _ HB1.out).1
    have HB3 := Lib.hid (HB.out.trans (HB1.out.mono HB.out.size))
    have lB3 := HB1.out.size
    go_wp2
    go_ret
    exact ⟨rfl, HB3.out⟩
  ·obtain rfl : none = r := by rw [← HR.out, if_neg h4]; simp
   go_wp2_with fail
   refine wp_region_held_drew (S := fun w' => Below W.heap.size W w') (by kernel_rfl) ?_ (fun hHeld => ?_)
   ·exact (Below.refl _ _).drew
   refine tT 0 ?_ rfl ?_ ?_; rotate_left; (focus intros; go_simp; try rfl)
   (refine tT 1 ?_ rfl ?_ ?_; rotate_left; (focus (intro w' hSw; (try dsimp only at hSw); (have g := (HC.out _ hSw).2.1); go_simp; try (with_reducible rfl))))
   refine tT 2 ?_ rfl ?_ ?_; rotate_left; (focus intros; go_simp; try rfl); (try simp only [ly])
   refine tT 3 ?_ rfl ?_ ?_; rotate_left; (focus intros; go_simp; try rfl)
   (refine takeU (i := 4) rfl ?_)
   (refine takeU (i := 5) rfl ?_; (try simp only [ly]))
   (refine takeU (i := 6) rfl ?_)
   refine tT 8 ?_ rfl ?_ ?_; rotate_left; (focus intros; go_simp; try rfl)
   (refine tT 9 ?_ rfl ?_ ?_; rotate_left; (focus (intro w' hSw; (try dsimp only at hSw); (have g := (HC.out _ hSw).2.2.2.2); go_simp; try (with_reducible rfl))); (try simp only [ly]))
   refine tT 7 ?_ rfl ?_ ?_; rotate_left; (focus intros; go_simp; try rfl); (try simp only [ly])
   refine oneH (i := 10) (by kernel_rfl) rfl (fun Kc hK => ?_)
   go_simp
   go_at_call 35; refine (need_any false 10 ln _ (by decide)).mono ?_; rintro e w2 ⟨he, rfl⟩; obtain ⟨n9, l9, rfl, h9⟩ := he
   exact post_panic rfl (⟨⟨n9, l9, rfl, h9⟩, HB.out.trans (hHeld.mono HB.out.size)⟩)

set_option maxRecDepth 100000 in
theorem kfield_any (vs : List VarS) (x : Ex) (A : Option Addr) (cap C : Nat) (vA : Option Addr) (vcap : Nat) (w : World) (hx : ExAt w x (ExC x A cap)) (hck : CkV w C vA vcap vs) (ht : Blanks w) :
  Calls Tryd.prog 43 #[ckP C, .agg (ExC x A cap).toArray] w fun e w' => TyRes (fieldT vs x) e ∧ Below w.heap.size w w' := by
 have HCK := Lib.hid hck
 have HBT := Lib.hid ht
 obtain ⟨L, hL⟩ : ∃ L, ExC x A cap = L := ⟨_, rfl⟩
 obtain ⟨ln, hln⟩ : ∃ ln, x.line = ln := ⟨_, rfl⟩
 obtain ⟨nm, hnm⟩ : ∃ o, x.name = o := ⟨_, rfl⟩
 obtain ⟨fd, hfd⟩ : ∃ o, x.field = o := ⟨_, rfl⟩
 have HX : Hid (L[2]? = some (.string nm) ∧ L[3]? = some (.string fd) ∧ L[5]? = some (.int .i64 ln)) := Lib.hid (by rw [← hL, ← hnm, ← hfd, ← hln]; exact ⟨rfl, rfl, rfl⟩)
 obtain ⟨r, hr⟩ : ∃ r, fieldT vs x = r := ⟨_, rfl⟩
 have hr' := hr
 unfold fieldT at hr'
 rw [hnm, hfd] at hr'
 have HR := Lib.hid hr'
 rw [hr, hL]
 clear hx hck ht hL hln hnm hfd hr hr'
 go_enter Tryd.func43, Tryd.ntmps43
 go_upto_region 1 with (refine wpList_boxTo rfl 28 _ rfl _ rfl _ rfl L.toArray rfl ?_)
 refine wp_name fun W hW => ?_
 obtain ⟨B, hB⟩ : ∃ B, B = w.heap.size := ⟨_, rfl⟩
 have hh : W.heap[B]? = some (.cells L.toArray 28) := by rw [hW.out, hB]; exact heap_alloc_new _ _
 have hbel : Below w.heap.size w W := by rw [hW.out]; exact belowBy
 have lB : B < W.heap.size := (Array.getElem?_eq_some_iff.1 hh).1
 have HB := Lib.hid hbel
 have HC : Hid (∀ w', Below W.heap.size W w' → w'.cell? ⟨B, 2, none⟩ = some (.string nm) ∧ w'.cell? ⟨B, 3, none⟩ = some (.string fd) ∧ w'.cell? ⟨B, 5, none⟩ = some (.int .i64 ln)) := Lib.hid (fun w' hb => by
  have h1 := (hb.block B lB).trans hh
  exact ⟨heap_cell 2 _ h1 (by rw [List.getElem?_toArray]; exact HX.out.1), heap_cell 3 _ h1 (by rw [List.getElem?_toArray]; exact HX.out.2.1), heap_cell 5 _ h1 (by rw [List.getElem?_toArray]; exact HX.out.2.2)⟩)
 obtain ⟨x2, x3, x5⟩ := HC.out W (Below.refl _ _)
 rw [← hB]
 have HCKW := Lib.hid (HCK.out.below hbel)
 have HBTW := Lib.hid (HBT.out.on hbel)
 clear hW hh hbel hB lB HX HCK HBT
 go_wp2_with fail
 refine (kvar_any vs nm ln C vA vcap W HCKW.out).mono ?_
 rintro e w1 ⟨he, hb1⟩
 have HB1 := Lib.hid hb1
 have HBT1 := Lib.hid (HBTW.out.on hb1)
 clear hb1 HCKW HBTW x2 x3 x5
 cases hv : varF vs nm with
 | none =>
  rw [hv] at he
  obtain ⟨n9, l9, rfl, h9⟩ := he
  obtain rfl : none = r := by rw [← HR.out, hv]
  exact post_panic rfl ⟨⟨n9, l9, rfl, h9⟩, HB.out.trans (HB1.out.mono HB.out.size)⟩
 | some v =>
  rw [hv] at he
  obtain rfl := he
  have HR1 : Hid ((if 2 < v.type then (kpF v.type fd).map (kpTy v.type) else none) = r) := Lib.hid (by rw [← HR.out, hv])
  clear HR hv
  obtain ⟨ty, hty⟩ : ∃ o, v.type = o := ⟨_, rfl⟩
  have HBL : Hid (∀ w, Calls Tryd.prog 62 #[.agg v.cells.toArray] w fun e w' => e = .returned (.bool (decide (2 < v.type))) ∧ Below w.heap.size w w') := Lib.hid (kblock_any v)
  have HPIN : Hid (∀ w, Blanks w → Calls Tryd.prog 64 #[.agg v.cells.toArray, .string fd] w fun e w' => e = .returned (kpV v.type (kpF v.type fd)) ∧ Below w.heap.size w w') := Lib.hid (fun w h => kpin_any v fd w h)
  rw [hty] at HR1 HBL HPIN
  obtain ⟨M, hM⟩ : ∃ M, v.cells = M := ⟨_, rfl⟩
  have HMS : Hid ((Tryd.prog.info? 47).map (·.size) = some M.length) := Lib.hid (by rw [← hM]; exact var_size8)
  have HM1 : Hid (M.toArray.all (·.oneCell') = true) := Lib.hid (by rw [← hM]; exact var_one8 v)
  have HM8 : Hid (8 = M.toArray.size) := Lib.hid (by rw [← hM]; rfl)
  rw [hM] at HBL HPIN
  simp only [Option.map_some]
  rw [hM]
  clear hM hty
  go_upto_region 2 with (refine wpList_store_new rfl 47 _ _ rfl w1 _ M.toArray rfl rfl rfl HMS.out HM8.out HM1.out ?_)
  refine wp_name fun W2 hW2 => ?_
  obtain ⟨V, hV⟩ : ∃ V, V = w1.heap.size := ⟨_, rfl⟩
  have hh : W2.heap[V]? = some (.cells M.toArray 47) := by rw [hW2.out, hV]; exact heap_alloc_new _ _
  have hb2 : Below w1.heap.size w1 W2 := by rw [hW2.out]; exact belowBy
  have lV : V < W2.heap.size := (Array.getElem?_eq_some_iff.1 hh).1
  rw [← hV]
  have HBX := Lib.hid (HB1.out.trans (hb2.mono HB1.out.size))
  have HB2 := Lib.hid (HB.out.trans (HBX.out.mono HB.out.size))
  have HBT2 := Lib.hid (HBT1.out.on hb2)
  have HMG : Hid (∀ w', Below W2.heap.size W2 w' → w'.rangeAt V 0 M) := Lib.hid (fun w' hb => by
   have := rangeAt_of_heap ((hb.block V lV).trans hh)
   simpa using this)
  have HD : Hid (∀ w', Below W2.heap.size W2 w' → w'.cell? ⟨B, 3, none⟩ = some (.string fd) ∧ w'.cell? ⟨B, 5, none⟩ = some (.int .i64 ln)) := Lib.hid (fun w' hb => by
   have := HC.out w' (HBX.out.trans (hb.mono HBX.out.size))
   exact ⟨this.2.1, this.2.2⟩)
  simp only [Act.put]
  clear hW2 hV hh hb2 lV HB1 HBT1 HBX HC HB
  by_cases h2 : 2 < ty
  ·have hd : decide (2 < ty) = true := by simp [h2]
   rw [if_pos h2] at HR1
   rw [hd] at HBL
   clear h2 hd
   refine wp_region_held_drew (S := fun w' => Below W2.heap.size W2 w') (by kernel_rfl) ?_ (fun hHeld => ?_)
   ·exact (Below.refl _ _).drew
   (refine takeH (i := 0) (v := .agg M.toArray) rfl (by kernel_rfl) (by kernel_rfl) (by kernel_rfl) (fun _ _ _ h => h) (yieldsIf_load_mid (by kernel_rfl) 47 _ rfl V 0 rfl M _ (fun _ hb => HMG.out _ hb) Tryd.underlying47 rfl HMS.out) (by assumption) ?_)
   refine tT 2 ?_ rfl ?_ ?_; rotate_left; (focus intros; go_simp; try rfl)
   (refine tT 3 ?_ rfl ?_ ?_; rotate_left; (focus (intro w' hSw; (try dsimp only at hSw); (have g := (HD.out _ hSw).2); go_simp; try (with_reducible rfl))); (try simp only [ly]))
   refine oneH (i := 1) (by kernel_rfl) rfl (fun Kc hK => ?_)
   go_simp
   go_at_call 62; refine (HBL.out _).mono ?_; rintro e w3 ⟨rfl, hb3⟩; (have HB3 := Lib.hid (hHeld.trans (hb3.mono hHeld.size))); clear hb3 hHeld
   go_wp2_with fail
   refine hK.out _ _ (HB3.out) (fun hHeld => ?_)
   clear hK Kc
   (try simp only [ly])
   refine oneH (i := 4) (by kernel_rfl) rfl (fun Kc hK => ?_)
   go_simp
   go_at_call 35; refine (need_any true 10 ln _ (by decide)).mono ?_; rintro e w4 ⟨rfl, rfl⟩
   go_wp2_with fail
   refine hK.out _ _ (HB3.out) (fun hHeld => ?_)
   clear hK Kc
   (try simp only [ly])
   refine wpAnyH_done (by kernel_rfl) ?_ _
   (try simp only [ly])
   have HG3 := Lib.hid (HMG.out _ HB3.out)
   have HBT3 := Lib.hid (HBT2.out.on HB3.out)
   obtain ⟨d3, d5⟩ := HD.out _ HB3.out
   go_wp2_with (refine wpList_load_mid rfl 47 _ rfl V 0 rfl M _ HG3.out Tryd.underlying47 rfl HMS.out ?_)
   refine (HPIN.out _ HBT3.out).mono ?_
   rintro e w4 ⟨rfl, hb4⟩
   have HB4 := Lib.hid (HB3.out.trans (hb4.mono HB3.out.size))
   have HB5 := Lib.hid (HB2.out.trans (HB4.out.mono HB2.out.size))
   clear hb4 d3 d5 HG3 HBT3 HB3 HPIN
   obtain ⟨d3, d5⟩ := HD.out _ HB4.out
   have lB4 : B < w4.heap.size := cell_lt d5
   have hz4 := HB4.out.size
   cases hp : kpF ty fd with
   | none =>
    obtain rfl : none = r := by rw [← HR1.out, hp]; rfl
    clear hp
    simp only [kpV]
    go_wp2_with fail
    refine (need_any false 9 ln _ (by decide)).mono ?_
    rintro e w5 ⟨he, rfl⟩
    obtain ⟨n9, l9, rfl, h9⟩ := he
    refine post_panic rfl ⟨⟨n9, l9, rfl, h9⟩, ?_⟩
    have := HB5.out
    exact belowBy
   | some k =>
    obtain rfl : some (kpTy ty k) = r := by rw [← HR1.out, hp]; rfl
    simp only [kpV]
    obtain ⟨s0, hs0⟩ : ∃ s, kpNm ty k = s := ⟨_, rfl⟩
    obtain ⟨s1, hs1⟩ : ∃ s, kpTy ty k = s := ⟨_, rfl⟩
    obtain ⟨s2, hs2⟩ : ∃ s, kpIn ty k = s := ⟨_, rfl⟩
    rw [hs0, hs1, hs2]
    have HS1 := Lib.hid hs1
    clear hp hs0 hs1 hs2
    go_wp2_with fail
    refine (need_any true 9 ln _ (by decide)).mono ?_
    rintro e w5 ⟨rfl, rfl⟩
    go_wp2
    go_ret
    rw [HS1.out]
    refine ⟨rfl, ?_⟩
    have := HB5.out
    exact belowBy
  ·have hd : decide (2 < ty) = false := by simp [h2]
   obtain rfl : none = r := by rw [← HR1.out, if_neg h2]
   rw [hd] at HBL
   clear h2 hd
   refine wp_region_held_drew (S := fun w' => Below W2.heap.size W2 w') (by kernel_rfl) ?_ (fun hHeld => ?_)
   ·exact (Below.refl _ _).drew
   (refine takeH (i := 0) (v := .agg M.toArray) rfl (by kernel_rfl) (by kernel_rfl) (by kernel_rfl) (fun _ _ _ h => h) (yieldsIf_load_mid (by kernel_rfl) 47 _ rfl V 0 rfl M _ (fun _ hb => HMG.out _ hb) Tryd.underlying47 rfl HMS.out) (by assumption) ?_)
   refine tT 2 ?_ rfl ?_ ?_; rotate_left; (focus intros; go_simp; try rfl)
   (refine tT 3 ?_ rfl ?_ ?_; rotate_left; (focus (intro w' hSw; (try dsimp only at hSw); (have g := (HD.out _ hSw).2); go_simp; try (with_reducible rfl))); (try simp only [ly]))
   refine oneH (i := 1) (by kernel_rfl) rfl (fun Kc hK => ?_)
   go_simp
   go_at_call 62; refine (HBL.out _).mono ?_; rintro e w3 ⟨rfl, hb3⟩; (have HB3 := Lib.hid (hHeld.trans (hb3.mono hHeld.size))); clear hb3 hHeld
   go_wp2_with fail
   refine hK.out _ _ (HB3.out) (fun hHeld => ?_)
   clear hK Kc
   (try simp only [ly])
   refine oneH (i := 4) (by kernel_rfl) rfl (fun Kc hK => ?_)
   go_simp
   go_at_call 35; refine (need_any false 10 ln _ (by decide)).mono ?_; rintro e w4 ⟨he, rfl⟩; obtain ⟨n9, l9, rfl, h9⟩ := he
   exact post_panic rfl (⟨⟨n9, l9, rfl, h9⟩, HB2.out.trans (HB3.out.mono HB2.out.size)⟩)


def allSome : List (Option Int) → Option (List Int)
 | [] => some []
 | none :: _ => none
 | some t :: l => (allSome l).map (t :: ·)
theorem allSome_map (l : List Int) : allSome (l.map some) = some l := by
 induction l with
 | nil => rfl
 | cons t l ih => simp [allSome, ih]
theorem allSome_none {l : List (Option Int)} (h : none ∈ l) : allSome l = none := by
 induction l with
 | nil => cases h
 | cons o l ih =>
  cases o with
  | none => rfl
  | some t =>
   have : none ∈ l := by simpa using h
   simp [allSome, ih this]
theorem allSome_len {l : List (Option Int)} {r : List Int} (h : allSome l = some r) : l = r.map some := by
 induction l generalizing r with
 | nil => cases h; rfl
 | cons o l ih =>
  cases o with
  | none => cases h
  | some t =>
   cases h2 : allSome l with
   | none => simp [allSome, h2] at h
   | some q =>
    simp [allSome, h2] at h
    subst h
    rw [ih h2]
    rfl
def PartsRes (H : Nat) (o : Option (List Int)) (e : Ending) (w' : World) : Prop := match o with
 | some l => ∃ A c, e = .returned (.slice A l.length c) ∧ KInts w' A l c
 | none => Flt e
theorem kints_own {w : World} {base n : Nat} {T : TypeId} {v : Value} {zs : List Int} (h : w.ownsRow base T 1 v n (intsV .i64 zs)) : ∃ A c, v = .slice A zs.length c ∧ KInts w A zs c := by
 have h' := h
 obtain ⟨h1, h2⟩ := h
 have hn : zs.length = n := by rw [intsV_len] at h1; omega
 subst hn
 rcases h2 with ⟨rfl, hn⟩ | ⟨g, cap, cur, rfl, hg, hh, hn, hc, hr⟩
 ·refine ⟨none, 0, by rw [hn], by rw [hn]; exact Nat.zero_le _, by omega, fun k z hz => ?_⟩
  have := (List.getElem?_eq_some_iff.1 hz).1
  omega
 ·refine ⟨some ⟨g, 0, none⟩, cap, rfl, hn, by unfold maxLen at hc; exact hc, fun k z hz => ⟨g, 0, rfl, (Array.getElem?_eq_some_iff.1 hh).1, ?_⟩⟩
  have := h'.cells rfl k (.int .i64 z) (by simp [intsV, hz])
  have hadd : (⟨g, 0, none⟩ : Addr).add k = ⟨g, k, none⟩ := by cases k <;> simp [Addr.add]
  rw [Nat.zero_add]
  rwa [hadd] at this
theorem kd_int : (Tryd.prog.info? 3).map (fun i => (i.zero, i.size, i.bytes)) = some (some (.int .i64 0), 1, 8) := by kernel_rfl
theorem take_map_some {T : Ex → Option Int} {xs : List Ex} {i : Nat} {y : Ex} {l : List Int} {t : Int} (h : (xs.take i).map T = l.map some) (hy : xs[i]? = some y) (ht : T y = some t) : (xs.take (i + 1)).map T = (l ++ [t]).map some := by
 rw [List.take_add_one, hy]
 simp [h, ht]

set_option maxRecDepth 100000 in
theorem kparts_of (T : Ex → Option Int) (x : Ex) (A : Option Addr) (cap C : Nat) (w : World) (hrow : RowE w A x.sub cap)
  (hT : ∀ y ∈ x.sub, ∀ W As ks, Below w.heap.size w W → ExAt W y (ExC y As ks) → ExprAt W C y As ks (T y)) :
  Calls Tryd.prog 44 #[ckP C, .agg (ExC x A cap).toArray] w fun e w' => PartsRes w.heap.size (allSome (x.sub.map T)) e w' ∧ Below w.heap.size w w' := by
 obtain ⟨j0, hj0, jz0, jz1, jz2⟩ := info_parts kd_int
 have JI := Lib.hid hj0
 have JZ0 := Lib.hid jz0
 have JZ1 := Lib.hid jz1
 have JZ2 := Lib.hid jz2
 have HROW := Lib.hid hrow
 have HT := Lib.hid hT
 have hc1 := hrow.1
 have hc2 := hrow.2.1
 have hc3 := hrow.2.2.1
 obtain ⟨L, hL⟩ : ∃ L, ExC x A cap = L := ⟨_, rfl⟩
 obtain ⟨xs, hxs⟩ : ∃ xs, x.sub = xs := ⟨_, rfl⟩
 rw [hxs] at HROW HT hc1 hc3
 obtain ⟨n, hn⟩ : ∃ n, xs.length = n := ⟨_, rfl⟩
 have HX : Hid (L[4]? = some (.slice A n cap)) := Lib.hid (by rw [← hL, ← hn, ← hxs]; rfl)
 rw [hL, hxs]
 rw [hn] at hc1 hc3
 have HN := Lib.hid hn
 obtain ⟨r, hr⟩ : ∃ r, allSome (xs.map T) = r := ⟨_, rfl⟩
 rw [hr]
 have HR := Lib.hid hr
 clear hrow hT hL hxs hn hj0 jz0 jz1 jz2 hr
 go_enter Tryd.func44, Tryd.ntmps44
 go_upto_region 1 with (refine wpList_boxTo rfl 28 _ rfl _ rfl _ rfl L.toArray rfl ?_)
 refine wp_name fun W hW => ?_
 obtain ⟨B, hB⟩ : ∃ B, B = w.heap.size := ⟨_, rfl⟩
 have hh : W.heap[B]? = some (.cells L.toArray 28) := by rw [hW.out, hB]; exact heap_alloc_new _ _
 have hbel : Below w.heap.size w W := by rw [hW.out]; exact belowBy
 have lB : B < W.heap.size := (Array.getElem?_eq_some_iff.1 hh).1
 have HB := Lib.hid hbel
 have x4 : W.cell? ⟨B, 4, none⟩ = some (.slice A n cap) := heap_cell 4 _ hh (by rw [List.getElem?_toArray]; exact HX.out)
 rw [← hB]
 clear hW hh hbel hB HX
 go_wp2_with fail
 obtain ⟨W0, hW0⟩ : ∃ W0, W0 = W := ⟨_, rfl⟩
 have HWW := Lib.hid hW0
 clear hW0
 go_loopw [5, 11] (fun v u wr => ∃ (i : Nat) (v' : Value) (l : List Int), v' = v ∧ i ≤ n ∧ u = .int .i64 i ∧ Hid ((xs.take i).map T = l.map some) ∧ Hid (wr.ownsRow W.heap.size 3 1 v' i (intsV .i64 l)) ∧ Below W.heap.size W wr) (fun _ u _ => n - (intOf u).toNat)
 case atStart => exact ⟨0, _, [], rfl, by omega, rfl, Lib.hid rfl, Lib.hid (World.ownsRow_nil _ _ _ _), Below.refl _ _⟩
 case round =>
  obtain ⟨i, v', l, rfl, hi, rfl, HTK, HOW, hbr⟩ := hrel
  by_cases hlt : i < n
  ·obtain ⟨b2, o2, y, As, ks, rfl, hbl, hy, hat, hsub, hrng⟩ := RowE.at (HROW.out.below (HB.out.trans (hbr.mono HB.out.size))) (i := i) (by rw [HN.out]; exact hlt)
   have hi0 : (0 : Int) ≤ (i : Int) ∧ (i : Int) < (n : Int) := by omega
   have HY := Lib.hid hy
   have HEX : Hid (ExprAt wr C y As ks (T y)) := Lib.hid (HT.out y (List.mem_of_getElem? hy) wr As ks (HB.out.trans (hbr.mono HB.out.size)) hat)
   obtain ⟨M, hM⟩ : ∃ M, ExC y As ks = M := ⟨_, rfl⟩
   have HMS : Hid ((Tryd.prog.info? 28).map (·.size) = some M.length) := Lib.hid (by rw [← hM]; exact expr_size)
   have HM1 : Hid (M.toArray.all (·.oneCell') = true) := Lib.hid (by rw [← hM]; exact exC_one y As ks)
   have HM6 : Hid (6 = M.toArray.size) := Lib.hid (by rw [← hM]; rfl)
   unfold ExprAt at HEX
   rw [hM] at hrng HEX
   have HRG := Lib.hid hrng
   clear hy hat hsub hrng hM x4
   go_upto_region 5 with (first
    | refine wpList_load_mid rfl 28 _ rfl b2 (o2 + i * 6) rfl M _ HRG.out Tryd.underlying28 rfl HMS.out ?_
    | refine wpList_store_new rfl 28 _ _ rfl wr _ M.toArray rfl rfl rfl HMS.out HM6.out HM1.out ?_)
   refine wp_name fun W3 hW3 => ?_
   obtain ⟨G, hG⟩ : ∃ G, G = wr.heap.size := ⟨_, rfl⟩
   rw [← hG]
   have hB3 : Below wr.heap.size wr W3 := by rw [hW3.out]; exact belowBy
   have hh : W3.heap[G]? = some (.cells M.toArray 28) := by rw [hW3.out, hG]; exact heap_alloc_new _ _
   have HRW : Hid (W3.rangeAt G 0 M) := Lib.hid (by
    have := rangeAt_of_heap hh
    simpa using this)
   have HB3 := Lib.hid hB3
   simp only [Act.put]
   clear hW3 hB3 hh hG HRG
   go_wp2_with (refine wpList_load_mid rfl 28 _ rfl G 0 rfl M _ HRW.out Tryd.underlying28 rfl HMS.out ?_)
   refine (HEX.out _ HB3.out).mono ?_
   rintro e w4 ⟨he, hb4⟩
   have HB4 := Lib.hid (hbr.trans ((HB3.out.trans (hb4.mono HB3.out.size)).mono hbr.size))
   have HOW4 := Lib.hid (owns_below HOW.out (HB3.out.trans (hb4.mono HB3.out.size)))
   clear hb4 HRW HB3 HOW HEX hbr
   cases ht : T y with
   | none =>
    rw [ht] at he
    obtain ⟨n9, l9, rfl, h9⟩ := he
    have hno : allSome (xs.map T) = none := allSome_none (List.mem_map.2 ⟨y, List.mem_of_getElem? HY.out, ht⟩)
    obtain rfl : none = r := by rw [← HR.out, hno]
    exact ⟨rfl, ⟨⟨n9, l9, rfl, h9⟩, HB.out.trans (HB4.out.mono HB.out.size)⟩⟩
   | some t =>
    rw [ht] at he
    obtain rfl := he
    have HTK2 := Lib.hid (take_map_some HTK.out HY.out ht)
    clear ht
    have hz4 := HB4.out.size
    simp only [Option.map_some]
    go_wp2_with (at_builtin; refine wpList_append_own _ rfl _ _ 91 rfl W.heap.size 3 j0 (.int .i64 0) 1 8 Tryd.underlying91 JI.out JZ0.out JZ1.out JZ2.out rfl (by decide) _ i _ rfl (HOW4.out.alloc _) ⟨w4.heap.size, 0, none⟩ 1 1 [.int .i64 t] rfl rfl ?c14 (one_cell _ rfl) ?c11 ?c12 ?c13 ?_)
    case c14 =>
     intro q u hu
     have had : (⟨w4.heap.size, 0, none⟩ : Addr).add q = ⟨w4.heap.size, q, none⟩ := by cases q <;> simp [Addr.add]
     rw [had]
     exact heap_cell q _ (heap_alloc_new w4 _) (by rw [List.getElem?_toArray]; exact hu)
    case c11 => unfold maxLen; omega
    case c12 => omega
    case c13 => first | omega | (simp; omega)
    intro v2 w5 hown5 hgrow _
    have HO5 : Hid (w5.ownsRow W.heap.size 3 1 v2 (i + 1) (intsV .i64 (l ++ [t]))) := Lib.hid (by
     rw [← intsV_snoc]
     exact hown5)
    have hb5 : Below W.heap.size W w5 := below_grown (below_new HB4.out (by have := HB4.out.size; omega) _) hgrow (HOW4.out.alloc _) (by omega) (by simp; omega)
    clear hown5 hgrow HOW4
    go_wp2
    go_roundw
    case rel => exact ⟨i + 1, _, l ++ [t], rfl, by omega, by go_num, HTK2, HO5, hb5⟩
    case measure => simp [intOf]; omega
  ·obtain rfl : i = n := by omega
   have HAL : Hid (allSome (xs.map T) = some l) := Lib.hid (by
    have := HTK.out
    rw [← HN.out, List.take_length] at this
    rw [this]
    exact allSome_map l)
   obtain ⟨Al, cl, rfl, HLI⟩ := kints_own HOW.out
   have HLI := Lib.hid HLI
   have HBE := Lib.hid (HB.out.trans (hbr.mono HB.out.size))
   clear HTK HOW hbr
   go_wp2
   go_ret
   obtain rfl : some l = r := by rw [← HR.out, HAL.out]
   exact ⟨⟨Al, cl, rfl, HLI.out⟩, HBE.out⟩

end Go.Proofs.YtahjijdadifkaaaDoor
