/- Merged: Regions that draw their order: plain operations taken. Layer 20: an expression that has to be a number, a truth. -/
import Derived.Test.YtahjijdadifkaaaDoorM15
import Derived.Test.YtahjijdadifkaaaDoorM09
set_option linter.unusedVariables false
set_option linter.unusedSimpArgs false
set_option maxHeartbeats 2000000
namespace Go.Proofs.YtahjijdadifkaaaDoor
open Go.RowKit

section
variable {P : Program} {md : Region.Mode} {l : List Oper} {Q : Exit → Act → World → Prop} {S : World → Prop} {fuel : Nat} {listed : Array Bool} {a : Act} {w : World} {i : Nat} {o : Oper}
theorem takeT {v : Value} (hi : l[i]? = some o) (hy : ∀ w, S w → (execOp a.eval o).run P w = .ok (.value v) w) (h : wpAnyH P md l.toArray Q S fuel (listed.setIfInBounds i true) (a.put o.dst v) w)
  (hs : Region.noSelect l.toArray = true := by kernel_rfl) (hf : Region.free md l.toArray listed i = true := by kernel_rfl) (hr : (Region.ready md l.toArray listed).contains i = true := by kernel_rfl)
  (hQ : ∀ c a w, Q (.panic c) (a.put o.dst v) w → Q (.panic c) a w := by exact fun _ _ _ h => h) (hw : Region.wanted o (yielded l.toArray a.tmps) = true := by first | kernel_rfl | rfl) (hS : S w := by assumption) : wpAnyH P md l.toArray Q S (fuel + 1) listed a w :=
 takeH hi hs hf hr hQ (Or.inl ⟨hw, hy⟩) hS h
theorem tT {o : Oper} (i : Nat) (v : Value) (hi : l[i]? = some o) (hy : ∀ w, S w → (execOp a.eval o).run P w = .ok (.value v) w) (h : wpAnyH P md l.toArray Q S fuel (listed.setIfInBounds i true) (a.put o.dst v) w)
  (hs : Region.noSelect l.toArray = true := by kernel_rfl) (hf : Region.free md l.toArray listed i = true := by kernel_rfl) (hr : (Region.ready md l.toArray listed).contains i = true := by kernel_rfl)
  (hQ : ∀ c a w, Q (.panic c) (a.put o.dst v) w → Q (.panic c) a w := by exact fun _ _ _ h => h) (hw : Region.wanted o (yielded l.toArray a.tmps) = true := by first | kernel_rfl | rfl) (hS : S w := by assumption) : wpAnyH P md l.toArray Q S (fuel + 1) listed a w :=
 takeH hi hs hf hr hQ (Or.inl ⟨hw, hy⟩) hS h
theorem takeU (hi : l[i]? = some o) (h : wpAnyH P md l.toArray Q S fuel (listed.setIfInBounds i true) (a.put o.dst undef) w)
  (hs : Region.noSelect l.toArray = true := by kernel_rfl) (hf : Region.free md l.toArray listed i = true := by kernel_rfl) (hr : (Region.ready md l.toArray listed).contains i = true := by kernel_rfl)
  (hQ : ∀ c a w, Q (.panic c) (a.put o.dst undef) w → Q (.panic c) a w := by exact fun _ _ _ h => h) (hw : Region.wanted o (yielded l.toArray a.tmps) = false := by first | kernel_rfl | rfl) (hS : S w := by assumption) : wpAnyH P md l.toArray Q S (fuel + 1) listed a w :=
 takeH hi hs hf hr hQ (Or.inr ⟨hw, rfl⟩) hS h
end

end Go.Proofs.YtahjijdadifkaaaDoor

namespace Go.Proofs.YtahjijdadifkaaaDoor
open Go.RowKit
attribute [local go_sem] ite_max ite_min vite_max vite_min ext_cell ext_frozen extS_cell extS_frozen

abbrev ckP (C : Nat) : Value := .pointer (some ⟨C, 0, none⟩)
def TyRes (o : Option Int) (e : Ending) : Prop := Res (o.map fun t => .int .i64 t) e
def ExprAt (w : World) (C : Nat) (x : Ex) (A : Option Addr) (cap : Nat) (o : Option Int) : Prop :=
 ∀ W, Below w.heap.size w W → Calls Tryd.prog 21 #[ckP C, .agg (ExC x A cap).toArray] W fun e w' => TyRes o e ∧ Below W.heap.size W w'
theorem ExprAt.below {w w' : World} {C : Nat} {x : Ex} {A : Option Addr} {cap : Nat} {o : Option Int} (h : ExprAt w C x A cap o) (hb : Below w.heap.size w w') : ExprAt w' C x A cap o := fun W hW => h W (hb.trans (hW.mono hb.size))

set_option maxRecDepth 100000 in
theorem knumber_of (x : Ex) (A : Option Addr) (cap C : Nat) (o : Option Int) (w : World) (hE : ExprAt w C x A cap o) :
  Calls Tryd.prog 57 #[ckP C, .agg (ExC x A cap).toArray] w fun e w' => Oks (decide (o = some 1)) e ∧ Below w.heap.size w w' := by
 have HE := Lib.hid hE
 obtain ⟨L, hL⟩ : ∃ L, ExC x A cap = L := ⟨_, rfl⟩
 obtain ⟨ln, hln⟩ : ∃ ln, x.line = ln := ⟨_, rfl⟩
 have h5 : L[5]? = some (.int .i64 ln) := by rw [← hL, ← hln]; rfl
 have hs6 : L.length = 6 := by rw [← hL]; rfl
 have HSZ : Hid ((Tryd.prog.info? 28).map (·.size) = some L.length) := Lib.hid (by rw [hs6]; exact expr_size)
 unfold ExprAt at HE
 rw [hL] at HE ⊢
 obtain ⟨r, hr⟩ : ∃ r, decide (o = some 1) = r := ⟨_, rfl⟩
 rw [hr]
 have HR := Lib.hid hr
 clear hE hL hln hr
 go_enter Tryd.func57, Tryd.ntmps57
 go_upto_region 1 with (refine wpList_boxTo rfl 28 _ rfl _ rfl _ rfl L.toArray rfl ?_)
 refine wp_name fun W hW => ?_
 obtain ⟨B, hB⟩ : ∃ B, B = w.heap.size := ⟨_, rfl⟩
 have hh : W.heap[B]? = some (.cells L.toArray 28) := by rw [hW.out, hB]; exact heap_alloc_new _ _
 have hbel : Below w.heap.size w W := by rw [hW.out]; exact belowBy
 have lB : B < W.heap.size := (Array.getElem?_eq_some_iff.1 hh).1
 have HB := Lib.hid hbel
 have HRG : Hid (∀ w', Below W.heap.size W w' → w'.rangeAt B 0 L) := Lib.hid (fun w' hb => by
  have := rangeAt_of_heap ((hb.block B lB).trans hh)
  simpa using this)
 have HX5 : Hid (∀ w', Below W.heap.size W w' → w'.cell? ⟨B, 5, none⟩ = some (.int .i64 ln)) := Lib.hid (fun w' hb => heap_cell 5 _ ((hb.block B lB).trans hh) (by rw [List.getElem?_toArray]; exact h5))
 have HEW : Hid (∀ w', Below W.heap.size W w' → Calls Tryd.prog 21 #[ckP C, .agg L.toArray] w' fun e w'' => TyRes o e ∧ Below w'.heap.size w' w'') := Lib.hid (fun w' hb => HE.out w' (hbel.trans (hb.mono hbel.size)))
 rw [← hB]
 clear hW hh hbel hB lB h5 hs6 HE
 cases o with
 | none =>
  obtain rfl : false = r := by rw [← HR.out]; rfl
  refine wp_region_held_drew (S := fun w' => Below W.heap.size W w') (by kernel_rfl) ?_ (fun hHeld => ?_)
  ·exact (Below.refl _ _).drew
  refine tT 0 ?_ rfl ?_ ?_; rotate_left; (focus intros; go_simp; try rfl)
  (refine takeH (i := 1) (v := .agg L.toArray) rfl (by kernel_rfl) (by kernel_rfl) (by kernel_rfl) (fun _ _ _ h => h) (yieldsIf_load_mid (by kernel_rfl) 28 _ rfl B 0 rfl L _ (fun _ hb => HRG.out _ hb) Tryd.underlying28 rfl HSZ.out) (by assumption) ?_)
  refine tT 4 ?_ rfl ?_ ?_; rotate_left; (focus intros; go_simp; try rfl); (try simp only [ly])
  (refine tT 5 ?_ rfl ?_ ?_; rotate_left; (focus (intro w' hSw; (try dsimp only at hSw); (have g := HX5.out _ hSw); go_simp; try (with_reducible rfl))); (try simp only [ly]))
  refine oneH (i := 2) (by kernel_rfl) rfl (fun Kc hK => ?_)
  go_simp
  go_at_call 21; refine (HEW.out _ hHeld).mono ?_; rintro e w1 ⟨he, hb1⟩; obtain ⟨n9, l9, rfl, h9⟩ := he
  exact post_panic rfl (⟨⟨n9, l9, rfl, h9⟩, HB.out.trans ((hHeld.trans (hb1.mono hHeld.size)).mono HB.out.size)⟩)
 | some t =>
  by_cases ht : t = 1
  ·subst ht
   obtain rfl : true = r := by rw [← HR.out]; simp
   refine wp_region_held_drew (S := fun w' => Below W.heap.size W w') (by kernel_rfl) ?_ (fun hHeld => ?_)
   ·exact (Below.refl _ _).drew
   refine tT 0 ?_ rfl ?_ ?_; rotate_left; (focus intros; go_simp; try rfl)
   (refine takeH (i := 1) (v := .agg L.toArray) rfl (by kernel_rfl) (by kernel_rfl) (by kernel_rfl) (fun _ _ _ h => h) (yieldsIf_load_mid (by kernel_rfl) 28 _ rfl B 0 rfl L _ (fun _ hb => HRG.out _ hb) Tryd.underlying28 rfl HSZ.out) (by assumption) ?_)
   refine tT 4 ?_ rfl ?_ ?_; rotate_left; (focus intros; go_simp; try rfl); (try simp only [ly])
   (refine tT 5 ?_ rfl ?_ ?_; rotate_left; (focus (intro w' hSw; (try dsimp only at hSw); (have g := HX5.out _ hSw); go_simp; try (with_reducible rfl))); (try simp only [ly]))
   refine oneH (i := 2) (by kernel_rfl) rfl (fun Kc hK => ?_)
   go_simp
   go_at_call 21; refine (HEW.out _ hHeld).mono ?_; rintro e w1 ⟨he, hb1⟩; obtain rfl := he; (have HB1 := Lib.hid (hHeld.trans (hb1.mono hHeld.size))); clear hb1 hHeld
   go_wp2_with fail
   refine hK.out _ _ (HB1.out) (fun hHeld => ?_)
   clear hK Kc
   (try simp only [ly])
   refine tT 3 ?_ rfl ?_ ?_; rotate_left; (focus intros; go_simp; try rfl); (try simp only [ly])
   refine oneH (i := 6) (by kernel_rfl) rfl (fun Kc hK => ?_)
   go_simp
   go_at_call 35; refine (need_any true 10 ln _ (by decide)).mono ?_; rintro e w2 ⟨rfl, rfl⟩
   go_wp2_with fail
   refine hK.out _ _ (HB1.out) (fun hHeld => ?_)
   clear hK Kc
   (try simp only [ly])
   refine wpAnyH_done (by kernel_rfl) ?_ _
   (try simp only [ly])
   go_wp2
   refine bodyPost_end (v := .tuple #[]) ?_ rfl ⟨rfl, HB.out.trans (HB1.out.mono HB.out.size)⟩
   simp [results, Tryd.results57]
  ·have hq : (t == 1) = false := by simp [ht]
   obtain rfl : false = r := by rw [← HR.out]; simp [ht]
   refine wp_region_held_drew (S := fun w' => Below W.heap.size W w') (by kernel_rfl) ?_ (fun hHeld => ?_)
   ·exact (Below.refl _ _).drew
   refine tT 0 ?_ rfl ?_ ?_; rotate_left; (focus intros; go_simp; try rfl)
   (refine takeH (i := 1) (v := .agg L.toArray) rfl (by kernel_rfl) (by kernel_rfl) (by kernel_rfl) (fun _ _ _ h => h) (yieldsIf_load_mid (by kernel_rfl) 28 _ rfl B 0 rfl L _ (fun _ hb => HRG.out _ hb) Tryd.underlying28 rfl HSZ.out) (by assumption) ?_)
   refine tT 4 ?_ rfl ?_ ?_; rotate_left; (focus intros; go_simp; try rfl); (try simp only [ly])
   (refine tT 5 ?_ rfl ?_ ?_; rotate_left; (focus (intro w' hSw; (try dsimp only at hSw); (have g := HX5.out _ hSw); go_simp; try (with_reducible rfl))); (try simp only [ly]))
   refine oneH (i := 2) (by kernel_rfl) rfl (fun Kc hK => ?_)
   go_simp
   go_at_call 21; refine (HEW.out _ hHeld).mono ?_; rintro e w1 ⟨he, hb1⟩; obtain rfl := he; (have HB1 := Lib.hid (hHeld.trans (hb1.mono hHeld.size))); clear hb1 hHeld
   go_wp2_with fail
   refine hK.out _ _ (HB1.out) (fun hHeld => ?_)
   clear hK Kc
   (try simp only [ly])
   refine tT 3 ?_ rfl ?_ ?_; rotate_left; (focus intros; go_simp; try rfl); (try simp only [ly])
   refine oneH (i := 6) (by kernel_rfl) rfl (fun Kc hK => ?_)
   go_simp
   go_at_call 35; refine (need_any false 10 ln _ (by decide)).mono ?_; rintro e w2 ⟨he, rfl⟩; obtain ⟨n9, l9, rfl, h9⟩ := he
   exact post_panic rfl (⟨⟨n9, l9, rfl, h9⟩, HB.out.trans (HB1.out.mono HB.out.size)⟩)

set_option maxRecDepth 100000 in
theorem ktruth_of (x : Ex) (A : Option Addr) (cap C : Nat) (o : Option Int) (w : World) (hE : ExprAt w C x A cap o) :
  Calls Tryd.prog 59 #[ckP C, .agg (ExC x A cap).toArray] w fun e w' => Oks (decide (o = some 2)) e ∧ Below w.heap.size w w' := by
 have HE := Lib.hid hE
 obtain ⟨L, hL⟩ : ∃ L, ExC x A cap = L := ⟨_, rfl⟩
 obtain ⟨ln, hln⟩ : ∃ ln, x.line = ln := ⟨_, rfl⟩
 have h5 : L[5]? = some (.int .i64 ln) := by rw [← hL, ← hln]; rfl
 have hs6 : L.length = 6 := by rw [← hL]; rfl
 have HSZ : Hid ((Tryd.prog.info? 28).map (·.size) = some L.length) := Lib.hid (by rw [hs6]; exact expr_size)
 unfold ExprAt at HE
 rw [hL] at HE ⊢
 obtain ⟨r, hr⟩ : ∃ r, decide (o = some 2) = r := ⟨_, rfl⟩
 rw [hr]
 have HR := Lib.hid hr
 clear hE hL hln hr
 go_enter Tryd.func59, Tryd.ntmps59
 go_upto_region 1 with (refine wpList_boxTo rfl 28 _ rfl _ rfl _ rfl L.toArray rfl ?_)
 refine wp_name fun W hW => ?_
 obtain ⟨B, hB⟩ : ∃ B, B = w.heap.size := ⟨_, rfl⟩
 have hh : W.heap[B]? = some (.cells L.toArray 28) := by rw [hW.out, hB]; exact heap_alloc_new _ _
 have hbel : Below w.heap.size w W := by rw [hW.out]; exact belowBy
 have lB : B < W.heap.size := (Array.getElem?_eq_some_iff.1 hh).1
 have HB := Lib.hid hbel
 have HRG : Hid (∀ w', Below W.heap.size W w' → w'.rangeAt B 0 L) := Lib.hid (fun w' hb => by
  have := rangeAt_of_heap ((hb.block B lB).trans hh)
  simpa using this)
 have HX5 : Hid (∀ w', Below W.heap.size W w' → w'.cell? ⟨B, 5, none⟩ = some (.int .i64 ln)) := Lib.hid (fun w' hb => heap_cell 5 _ ((hb.block B lB).trans hh) (by rw [List.getElem?_toArray]; exact h5))
 have HEW : Hid (∀ w', Below W.heap.size W w' → Calls Tryd.prog 21 #[ckP C, .agg L.toArray] w' fun e w'' => TyRes o e ∧ Below w'.heap.size w' w'') := Lib.hid (fun w' hb => HE.out w' (hbel.trans (hb.mono hbel.size)))
 rw [← hB]
 clear hW hh hbel hB lB h5 hs6 HE
 cases o with
 | none =>
  obtain rfl : false = r := by rw [← HR.out]; rfl
  refine wp_region_held_drew (S := fun w' => Below W.heap.size W w') (by kernel_rfl) ?_ (fun hHeld => ?_)
  ·exact (Below.refl _ _).drew
  refine tT 0 ?_ rfl ?_ ?_; rotate_left; (focus intros; go_simp; try rfl)
  (refine takeH (i := 1) (v := .agg L.toArray) rfl (by kernel_rfl) (by kernel_rfl) (by kernel_rfl) (fun _ _ _ h => h) (yieldsIf_load_mid (by kernel_rfl) 28 _ rfl B 0 rfl L _ (fun _ hb => HRG.out _ hb) Tryd.underlying28 rfl HSZ.out) (by assumption) ?_)
  refine tT 4 ?_ rfl ?_ ?_; rotate_left; (focus intros; go_simp; try rfl); (try simp only [ly])
  (refine tT 5 ?_ rfl ?_ ?_; rotate_left; (focus (intro w' hSw; (try dsimp only at hSw); (have g := HX5.out _ hSw); go_simp; try (with_reducible rfl))); (try simp only [ly]))
  refine oneH (i := 2) (by kernel_rfl) rfl (fun Kc hK => ?_)
  go_simp
  go_at_call 21; refine (HEW.out _ hHeld).mono ?_; rintro e w1 ⟨he, hb1⟩; obtain ⟨n9, l9, rfl, h9⟩ := he
  exact post_panic rfl (⟨⟨n9, l9, rfl, h9⟩, HB.out.trans ((hHeld.trans (hb1.mono hHeld.size)).mono HB.out.size)⟩)
 | some t =>
  by_cases ht : t = 2
  ·subst ht
   obtain rfl : true = r := by rw [← HR.out]; simp
   refine wp_region_held_drew (S := fun w' => Below W.heap.size W w') (by kernel_rfl) ?_ (fun hHeld => ?_)
   ·exact (Below.refl _ _).drew
   refine tT 0 ?_ rfl ?_ ?_; rotate_left; (focus intros; go_simp; try rfl)
   (refine takeH (i := 1) (v := .agg L.toArray) rfl (by kernel_rfl) (by kernel_rfl) (by kernel_rfl) (fun _ _ _ h => h) (yieldsIf_load_mid (by kernel_rfl) 28 _ rfl B 0 rfl L _ (fun _ hb => HRG.out _ hb) Tryd.underlying28 rfl HSZ.out) (by assumption) ?_)
   refine tT 4 ?_ rfl ?_ ?_; rotate_left; (focus intros; go_simp; try rfl); (try simp only [ly])
   (refine tT 5 ?_ rfl ?_ ?_; rotate_left; (focus (intro w' hSw; (try dsimp only at hSw); (have g := HX5.out _ hSw); go_simp; try (with_reducible rfl))); (try simp only [ly]))
   refine oneH (i := 2) (by kernel_rfl) rfl (fun Kc hK => ?_)
   go_simp
   go_at_call 21; refine (HEW.out _ hHeld).mono ?_; rintro e w1 ⟨he, hb1⟩; obtain rfl := he; (have HB1 := Lib.hid (hHeld.trans (hb1.mono hHeld.size))); clear hb1 hHeld
   go_wp2_with fail
   refine hK.out _ _ (HB1.out) (fun hHeld => ?_)
   clear hK Kc
   (try simp only [ly])
   refine tT 3 ?_ rfl ?_ ?_; rotate_left; (focus intros; go_simp; try rfl); (try simp only [ly])
   refine oneH (i := 6) (by kernel_rfl) rfl (fun Kc hK => ?_)
   go_simp
   go_at_call 35; refine (need_any true 10 ln _ (by decide)).mono ?_; rintro e w2 ⟨rfl, rfl⟩
   go_wp2_with fail
   refine hK.out _ _ (HB1.out) (fun hHeld => ?_)
   clear hK Kc
   (try simp only [ly])
   refine wpAnyH_done (by kernel_rfl) ?_ _
   (try simp only [ly])
   go_wp2
   refine bodyPost_end (v := .tuple #[]) ?_ rfl ⟨rfl, HB.out.trans (HB1.out.mono HB.out.size)⟩
   simp [results, Tryd.results59]
  ·have hq : (t == 2) = false := by simp [ht]
   obtain rfl : false = r := by rw [← HR.out]; simp [ht]
   refine wp_region_held_drew (S := fun w' => Below W.heap.size W w') (by kernel_rfl) ?_ (fun hHeld => ?_)
   ·exact (Below.refl _ _).drew
   refine tT 0 ?_ rfl ?_ ?_; rotate_left; (focus intros; go_simp; try rfl)
   (refine takeH (i := 1) (v := .agg L.toArray) rfl (by kernel_rfl) (by kernel_rfl) (by kernel_rfl) (fun _ _ _ h => h) (yieldsIf_load_mid (by kernel_rfl) 28 _ rfl B 0 rfl L _ (fun _ hb => HRG.out _ hb) Tryd.underlying28 rfl HSZ.out) (by assumption) ?_)
   refine tT 4 ?_ rfl ?_ ?_; rotate_left; (focus intros; go_simp; try rfl); (try simp only [ly])
   (refine tT 5 ?_ rfl ?_ ?_; rotate_left; (focus (intro w' hSw; (try dsimp only at hSw); (have g := HX5.out _ hSw); go_simp; try (with_reducible rfl))); (try simp only [ly]))
   refine oneH (i := 2) (by kernel_rfl) rfl (fun Kc hK => ?_)
   go_simp
   go_at_call 21; refine (HEW.out _ hHeld).mono ?_; rintro e w1 ⟨he, hb1⟩; obtain rfl := he; (have HB1 := Lib.hid (hHeld.trans (hb1.mono hHeld.size))); clear hb1 hHeld
   go_wp2_with fail
   refine hK.out _ _ (HB1.out) (fun hHeld => ?_)
   clear hK Kc
   (try simp only [ly])
   refine tT 3 ?_ rfl ?_ ?_; rotate_left; (focus intros; go_simp; try rfl); (try simp only [ly])
   refine oneH (i := 6) (by kernel_rfl) rfl (fun Kc hK => ?_)
   go_simp
   go_at_call 35; refine (need_any false 10 ln _ (by decide)).mono ?_; rintro e w2 ⟨he, rfl⟩; obtain ⟨n9, l9, rfl, h9⟩ := he
   exact post_panic rfl (⟨⟨n9, l9, rfl, h9⟩, HB.out.trans (HB1.out.mono HB.out.size)⟩)

end Go.Proofs.YtahjijdadifkaaaDoor
