/- Merged: Layer 20: the type of an expression. PRINTED by wip/tool/mkkdi.py Layer 20: the type of any expression. PRINTED by wip/tool/mkkdi.py -/
import Derived.Test.YtahjijdadifkaaaDoorM17
set_option linter.unusedVariables false
set_option linter.unusedSimpArgs false
namespace Go.Proofs.YtahjijdadifkaaaDoor
open Go.RowKit
attribute [local go_sem] ite_max ite_min vite_max vite_min ext_cell ext_frozen extS_cell extS_frozen

def resT (op : Int) (l : List Int) : Option Int :=
 if op = 6 ∨ (8 ≤ op ∧ op ≤ 12) then (if allT l 1 = true then some 1 else none)
 else if op = 13 ∨ op = 14 then (if allT l (l.head?.getD 0) = true then some 2 else none)
 else if 15 ≤ op ∧ op ≤ 18 then (if allT l 1 = true then some 2 else none)
 else (if allT l 2 = true then some 2 else none)
def tyX (T : Ex → Option Int) (vs : List VarS) (x : Ex) : Option Int :=
 if x.op = 1 then some 1 else if x.op = 2 then some 2 else if x.op = 3 ∨ x.op = 4 then (varF vs x.name).bind fun v => placeT T v x else if x.op = 5 then fieldT vs x
 else (allSome (x.sub.map T)).bind (resT x.op)
structure ShX (x : Ex) : Prop where
 lo : 1 ≤ x.op
 hi : x.op ≤ 21
 ne : x.op = 4 ∨ x.op = 13 ∨ x.op = 14 → x.sub ≠ []
inductive ShE : Ex → Prop where
 | mk (x : Ex) (h : ShX x) (hr : ∀ y, y ∈ x.sub → ShE y) : ShE x
theorem ShE.parts {x : Ex} (h : ShE x) : ShX x ∧ ∀ y, y ∈ x.sub → ShE y := by
 cases h with
 | mk _ h1 h2 => exact ⟨h1, h2⟩
theorem KInts.head {w : World} {A : Option Addr} {zs : List Int} {c : Nat} (h : KInts w A zs c) (hn : zs ≠ []) : ∃ b off z, A = some ⟨b, off, none⟩ ∧ b < w.heap.size ∧ zs.head?.getD 0 = z ∧ w.cell? ⟨b, off, none⟩ = some (.int .i64 z) := by
 cases zs with
 | nil => exact absurd rfl hn
 | cons z l =>
  obtain ⟨b, off, h1, h2, h3⟩ := h.2.2 0 z rfl
  exact ⟨b, off, z, h1, h2, rfl, h3⟩

set_option maxRecDepth 100000 in
set_option maxHeartbeats 16000000 in
theorem kexpr_of (T : Ex → Option Int) (vs : List VarS) (x : Ex) (A : Option Addr) (cap C : Nat) (vA : Option Addr) (vcap : Nat) (w : World) (hx : ExAt w x (ExC x A cap)) (hsh : ShX x) (hck : CkV w C vA vcap vs) (ht : Blanks w)
  (hT : ∀ y ∈ x.sub, ∀ W As ks, Below w.heap.size w W → ExAt W y (ExC y As ks) → ExprAt W C y As ks (T y)) :
  Calls Tryd.prog 21 #[ckP C, .agg (ExC x A cap).toArray] w fun e w' => TyRes (tyX T vs x) e ∧ Below w.heap.size w w' := by
 have hrow : RowE w A x.sub cap := by
  obtain ⟨A', k', he, hr, _⟩ := hx.form
  simp only [ExC, List.cons.injEq, Value.slice.injEq, and_true, true_and] at he
  obtain ⟨rfl, rfl⟩ := he
  exact hr
 have HVAR : Hid (∀ W, Below w.heap.size w W → Calls Tryd.prog 42 #[ckP C, .string x.name, .int .i64 x.line] W fun e w' => Res ((varF vs x.name).map fun v => .agg v.cells.toArray) e ∧ Below W.heap.size W w') := Lib.hid (fun W hW => kvar_any vs x.name x.line C vA vcap W (hck.below hW))
 have HPL : Hid (∀ v W, Below w.heap.size w W → Calls Tryd.prog 41 #[ckP C, .agg v.cells.toArray, .agg (ExC x A cap).toArray] W fun e w' => TyRes (placeT T v x) e ∧ Below W.heap.size W w') := Lib.hid (fun v W hW => kplace_of T v x A cap C W (hx.keep hW) (hrow.below hW) (fun h => hsh.ne (.inl h)) (fun y hy W' As ks hW' ha => hT y hy W' As ks (hW.trans (hW'.mono hW.size)) ha))
 have HFD : Hid (∀ W, Below w.heap.size w W → Calls Tryd.prog 43 #[ckP C, .agg (ExC x A cap).toArray] W fun e w' => TyRes (fieldT vs x) e ∧ Below W.heap.size W w') := Lib.hid (fun W hW => kfield_any vs x A cap C vA vcap W (hx.keep hW) (hck.below hW) (ht.on hW))
 have HPA : Hid (∀ W, Below w.heap.size w W → Calls Tryd.prog 44 #[ckP C, .agg (ExC x A cap).toArray] W fun e w' => PartsRes W.heap.size (allSome (x.sub.map T)) e w' ∧ Below W.heap.size W w') := Lib.hid (fun W hW => kparts_of T x A cap C W (hrow.below hW) (fun y hy W' As ks hW' ha => hT y hy W' As ks (hW.trans (hW'.mono hW.size)) ha))
 obtain ⟨L, hL⟩ : ∃ L, ExC x A cap = L := ⟨_, rfl⟩
 obtain ⟨ln, hln⟩ : ∃ ln, x.line = ln := ⟨_, rfl⟩
 obtain ⟨op, hop⟩ : ∃ o, x.op = o := ⟨_, rfl⟩
 obtain ⟨nm, hnm⟩ : ∃ o, x.name = o := ⟨_, rfl⟩
 have HLS : Hid ((Tryd.prog.info? 28).map (·.size) = some L.length) := Lib.hid (by rw [← hL]; exact expr_size)
 have HX : Hid (L[0]? = some (.int .i64 op) ∧ L[2]? = some (.string nm) ∧ L[5]? = some (.int .i64 ln)) := Lib.hid (by rw [← hL, ← hop, ← hnm, ← hln]; exact ⟨rfl, rfl, rfl⟩)
 have hlo := hsh.lo
 have hhi := hsh.hi
 have HSH : Hid (op = 4 ∨ op = 13 ∨ op = 14 → x.sub ≠ []) := Lib.hid (by rw [← hop]; exact hsh.ne)
 obtain ⟨r, hr⟩ : ∃ r, tyX T vs x = r := ⟨_, rfl⟩
 have hr' := hr
 unfold tyX at hr'
 rw [hop, hnm] at hr'
 have HR := Lib.hid hr'
 rw [hop] at hlo hhi
 rw [hnm, hln] at HVAR
 rw [hL] at HPL HFD HPA
 rw [hr, hL]
 clear hx hsh hck ht hT hrow hL hln hop hnm hr hr'
 go_enter Tryd.func21, Tryd.ntmps21
 go_upto_region 1 with (refine wpList_boxTo rfl 28 _ rfl _ rfl _ rfl L.toArray rfl ?_)
 refine wp_name fun W hW => ?_
 obtain ⟨B, hB⟩ : ∃ B, B = w.heap.size := ⟨_, rfl⟩
 have hh : W.heap[B]? = some (.cells L.toArray 28) := by rw [hW.out, hB]; exact heap_alloc_new _ _
 have hbel : Below w.heap.size w W := by rw [hW.out]; exact belowBy
 have lB : B < W.heap.size := (Array.getElem?_eq_some_iff.1 hh).1
 have HB := Lib.hid hbel
 have HRG : Hid (∀ w', Below W.heap.size W w' → w'.rangeAt B 0 L) := Lib.hid (fun w' hb => by
  have := rangeAt_of_heap ((hb.block B lB).trans hh)
  simpa using this)
 have HC : Hid (∀ w', Below W.heap.size W w' → w'.cell? ⟨B, 0, none⟩ = some (.int .i64 op) ∧ w'.cell? ⟨B, 2, none⟩ = some (.string nm) ∧ w'.cell? ⟨B, 5, none⟩ = some (.int .i64 ln)) := Lib.hid (fun w' hb => by
  have h1 := (hb.block B lB).trans hh
  exact ⟨heap_cell 0 _ h1 (by rw [List.getElem?_toArray]; exact HX.out.1), heap_cell 2 _ h1 (by rw [List.getElem?_toArray]; exact HX.out.2.1), heap_cell 5 _ h1 (by rw [List.getElem?_toArray]; exact HX.out.2.2)⟩)
 have HVW : Hid (∀ w', Below W.heap.size W w' → Calls Tryd.prog 42 #[ckP C, .string nm, .int .i64 ln] w' fun e w'' => Res ((varF vs nm).map fun v => .agg v.cells.toArray) e ∧ Below w'.heap.size w' w'') := Lib.hid (fun w' hb => HVAR.out w' (hbel.trans (hb.mono hbel.size)))
 have HPW : Hid (∀ v w', Below W.heap.size W w' → Calls Tryd.prog 41 #[ckP C, .agg v.cells.toArray, .agg L.toArray] w' fun e w'' => TyRes (placeT T v x) e ∧ Below w'.heap.size w' w'') := Lib.hid (fun v w' hb => HPL.out v w' (hbel.trans (hb.mono hbel.size)))
 have HFW := Lib.hid (HFD.out W hbel)
 have HPAW := Lib.hid (HPA.out W hbel)
 obtain ⟨x0, x2, x5⟩ := HC.out W (Below.refl _ _)
 rw [← hB]
 have hwB : w.heap.size ≤ B := by omega
 clear hW hh hbel hB HVAR HPL HFD HPA HX
 rcases (show op = 1 ∨ op = 2 ∨ (op = 3 ∨ op = 4) ∨ op = 5 ∨ 6 ≤ op by omega) with rfl | rfl | h34 | rfl | h6
 ·obtain rfl : some 1 = r := by rw [← HR.out]; rfl
  go_wp2
  go_ret
  exact ⟨rfl, HB.out⟩
 ·obtain rfl : some 2 = r := by rw [← HR.out]; rfl
  go_wp2
  go_ret
  exact ⟨rfl, HB.out⟩
 ·have HR2 : Hid (((varF vs nm).bind fun v => placeT T v x) = r) := Lib.hid (by rw [← HR.out, if_neg (by omega), if_neg (by omega), if_pos h34])
  clear HR HSH hlo hhi HFW HPAW
  cases hv : varF vs nm with
  | none =>
   rw [hv] at HVW
   obtain rfl : none = r := by rw [← HR2.out, hv]; rfl
   clear hv
   rcases h34 with rfl | rfl
   all_goals
    go_wp2_with fail
    refine wp_region_held_drew (S := fun w' => Below W.heap.size W w') (by kernel_rfl) ?_ (fun hHeld => ?_)
    ·exact (Below.refl _ _).drew
    refine tT 0 ?_ rfl ?_ ?_; rotate_left; (focus intros; go_simp; try rfl)
    refine tT 1 ?_ rfl ?_ ?_; rotate_left; (focus intros; go_simp; try rfl)
    refine tT 2 ?_ rfl ?_ ?_; rotate_left; (focus intros; go_simp; try rfl); (try simp only [ly])
    (refine tT 3 ?_ rfl ?_ ?_; rotate_left; (focus (intro w' hSw; (try dsimp only at hSw); (have g := (HC.out _ hSw).2.1); go_simp; try (with_reducible rfl))))
    refine tT 4 ?_ rfl ?_ ?_; rotate_left; (focus intros; go_simp; try rfl)
    (refine tT 5 ?_ rfl ?_ ?_; rotate_left; (focus (intro w' hSw; (try dsimp only at hSw); (have g := (HC.out _ hSw).2.2); go_simp; try (with_reducible rfl))); (try simp only [ly]))
    (refine takeH (i := 7) (v := .agg L.toArray) rfl (by kernel_rfl) (by kernel_rfl) (by kernel_rfl) (fun _ _ _ h => h) (yieldsIf_load_mid (by kernel_rfl) 28 _ rfl B 0 rfl L _ (fun _ hb => HRG.out _ hb) Tryd.underlying28 rfl HLS.out) (by assumption) ?_; (try simp only [ly]))
    refine oneH (i := 6) (by kernel_rfl) rfl (fun Kc hK => ?_)
    go_simp
    go_at_call 42; refine (HVW.out _ hHeld).mono ?_; rintro e w1 ⟨he, hb1⟩; obtain ⟨n9, l9, rfl, h9⟩ := he
    exact post_panic rfl (⟨⟨n9, l9, rfl, h9⟩, HB.out.trans ((hHeld.trans (hb1.mono hHeld.size)).mono HB.out.size)⟩)
  | some v =>
   rw [hv] at HVW
   have HPV := Lib.hid (HPW.out v)
   obtain ⟨M, hM⟩ : ∃ M, v.cells = M := ⟨_, rfl⟩
   rw [hM] at HPV
   have HVM : Hid (∀ w', Below W.heap.size W w' → Calls Tryd.prog 42 #[ckP C, .string nm, .int .i64 ln] w' fun e w'' => e = .returned (.agg M.toArray) ∧ Below w'.heap.size w' w'') := Lib.hid (fun w' hb => (HVW.out w' hb).mono fun e w'' ⟨he, hb2⟩ => ⟨by rw [← hM]; exact he, hb2⟩)
   have HR3 : Hid (placeT T v x = r) := Lib.hid (by rw [← HR2.out, hv]; rfl)
   rw [HR3.out] at HPV
   clear hv hM HVW HR2 HPW HR3
   cases r with
   | none =>
    rcases h34 with rfl | rfl
    all_goals
     go_wp2_with fail
     refine wp_region_held_drew (S := fun w' => Below W.heap.size W w') (by kernel_rfl) ?_ (fun hHeld => ?_)
     ·exact (Below.refl _ _).drew
     refine tT 0 ?_ rfl ?_ ?_; rotate_left; (focus intros; go_simp; try rfl)
     refine tT 1 ?_ rfl ?_ ?_; rotate_left; (focus intros; go_simp; try rfl)
     refine tT 2 ?_ rfl ?_ ?_; rotate_left; (focus intros; go_simp; try rfl); (try simp only [ly])
     (refine tT 3 ?_ rfl ?_ ?_; rotate_left; (focus (intro w' hSw; (try dsimp only at hSw); (have g := (HC.out _ hSw).2.1); go_simp; try (with_reducible rfl))))
     refine tT 4 ?_ rfl ?_ ?_; rotate_left; (focus intros; go_simp; try rfl)
     (refine tT 5 ?_ rfl ?_ ?_; rotate_left; (focus (intro w' hSw; (try dsimp only at hSw); (have g := (HC.out _ hSw).2.2); go_simp; try (with_reducible rfl))); (try simp only [ly]))
     (refine takeH (i := 7) (v := .agg L.toArray) rfl (by kernel_rfl) (by kernel_rfl) (by kernel_rfl) (fun _ _ _ h => h) (yieldsIf_load_mid (by kernel_rfl) 28 _ rfl B 0 rfl L _ (fun _ hb => HRG.out _ hb) Tryd.underlying28 rfl HLS.out) (by assumption) ?_; (try simp only [ly]))
     refine oneH (i := 6) (by kernel_rfl) rfl (fun Kc hK => ?_)
     go_simp
     go_at_call 42; refine (HVM.out _ hHeld).mono ?_; rintro e w1 ⟨rfl, hb1⟩; (have HB1 := Lib.hid (hHeld.trans (hb1.mono hHeld.size))); clear hb1 hHeld
     go_wp2_with fail
     refine hK.out _ _ (HB1.out) (fun hHeld => ?_)
     clear hK Kc
     (try simp only [ly])
     refine oneH (i := 8) (by kernel_rfl) rfl (fun Kc hK => ?_)
     go_simp
     go_at_call 41; refine (HPV.out _ HB1.out).mono ?_; rintro e w2 ⟨he, hb2⟩; obtain ⟨n9, l9, rfl, h9⟩ := he
     exact post_panic rfl (⟨⟨n9, l9, rfl, h9⟩, HB.out.trans ((HB1.out.trans (hb2.mono HB1.out.size)).mono HB.out.size)⟩)
   | some t =>
    rcases h34 with rfl | rfl
    all_goals
     go_wp2_with fail
     refine wp_region_held_drew (S := fun w' => Below W.heap.size W w') (by kernel_rfl) ?_ (fun hHeld => ?_)
     ·exact (Below.refl _ _).drew
     refine tT 0 ?_ rfl ?_ ?_; rotate_left; (focus intros; go_simp; try rfl)
     refine tT 1 ?_ rfl ?_ ?_; rotate_left; (focus intros; go_simp; try rfl)
     refine tT 2 ?_ rfl ?_ ?_; rotate_left; (focus intros; go_simp; try rfl); (try simp only [ly])
     (refine tT 3 ?_ rfl ?_ ?_; rotate_left; (focus (intro w' hSw; (try dsimp only at hSw); (have g := (HC.out _ hSw).2.1); go_simp; try (with_reducible rfl))))
     refine tT 4 ?_ rfl ?_ ?_; rotate_left; (focus intros; go_simp; try rfl)
     (refine tT 5 ?_ rfl ?_ ?_; rotate_left; (focus (intro w' hSw; (try dsimp only at hSw); (have g := (HC.out _ hSw).2.2); go_simp; try (with_reducible rfl))); (try simp only [ly]))
     (refine takeH (i := 7) (v := .agg L.toArray) rfl (by kernel_rfl) (by kernel_rfl) (by kernel_rfl) (fun _ _ _ h => h) (yieldsIf_load_mid (by kernel_rfl) 28 _ rfl B 0 rfl L _ (fun _ hb => HRG.out _ hb) Tryd.underlying28 rfl HLS.out) (by assumption) ?_; (try simp only [ly]))
     refine oneH (i := 6) (by kernel_rfl) rfl (fun Kc hK => ?_)
     go_simp
     go_at_call 42; refine (HVM.out _ hHeld).mono ?_; rintro e w1 ⟨rfl, hb1⟩; (have HB1 := Lib.hid (hHeld.trans (hb1.mono hHeld.size))); clear hb1 hHeld
     go_wp2_with fail
     refine hK.out _ _ (HB1.out) (fun hHeld => ?_)
     clear hK Kc
     (try simp only [ly])
     refine oneH (i := 8) (by kernel_rfl) rfl (fun Kc hK => ?_)
     go_simp
     go_at_call 41; refine (HPV.out _ HB1.out).mono ?_; rintro e w2 ⟨he, hb2⟩; obtain rfl := he; (have HB2 := Lib.hid (HB1.out.trans (hb2.mono HB1.out.size))); clear hb2 hHeld
     go_wp2_with fail
     refine hK.out _ _ (HB2.out) (fun hHeld => ?_)
     clear hK Kc
     (try simp only [ly])
     refine tT 9 ?_ rfl ?_ ?_; rotate_left; (focus intros; go_simp; try rfl); (try simp only [ly])
     refine wpAnyH_done (by kernel_rfl) ?_ _
     (try simp only [ly])
     go_wp2
     go_ret
     exact ⟨rfl, HB.out.trans (HB2.out.mono HB.out.size)⟩
 ·have hf : fieldT vs x = r := by rw [← HR.out]; rfl
  rw [hf] at HFW
  clear hf HR
  cases r with
  | none =>
   go_wp2_with (refine wpList_load_mid rfl 28 _ rfl B 0 rfl L _ (HRG.out _ (Below.refl _ _)) Tryd.underlying28 rfl HLS.out ?_)
   refine HFW.out.mono ?_
   rintro e w1 ⟨he, hb1⟩
   obtain ⟨n9, l9, rfl, h9⟩ := he
   exact post_panic rfl ⟨⟨n9, l9, rfl, h9⟩, HB.out.trans (hb1.mono HB.out.size)⟩
  | some t =>
   go_wp2_with (refine wpList_load_mid rfl 28 _ rfl B 0 rfl L _ (HRG.out _ (Below.refl _ _)) Tryd.underlying28 rfl HLS.out ?_)
   refine HFW.out.mono ?_
   rintro e w1 ⟨he, hb1⟩
   obtain rfl := he
   go_wp2
   go_ret
   exact ⟨rfl, HB.out.trans (hb1.mono HB.out.size)⟩
 ·have HR2 : Hid ((allSome (x.sub.map T)).bind (resT op) = r) := Lib.hid (by rw [← HR.out, if_neg (by omega), if_neg (by omega), if_neg (by omega), if_neg (by omega)])
  have q1 : (op == 1) = false := by simp; omega
  have q2 : (op == 2) = false := by simp; omega
  have q3 : (op == 3) = false := by simp; omega
  have q4 : (op == 4) = false := by simp; omega
  have q5 : (op == 5) = false := by simp; omega
  clear HR HFW HVW HPW hlo
  go_wp2_with (refine wpList_load_mid rfl 28 _ rfl B 0 rfl L _ (HRG.out _ (Below.refl _ _)) Tryd.underlying28 rfl HLS.out ?_)
  refine HPAW.out.mono ?_
  rintro e w1 ⟨he, hb1⟩
  cases hal : allSome (x.sub.map T) with
  | none =>
   rw [hal] at he
   obtain rfl : none = r := by rw [← HR2.out, hal]; rfl
   obtain ⟨n9, l9, rfl, h9⟩ := he
   exact post_panic rfl ⟨⟨n9, l9, rfl, h9⟩, HB.out.trans (hb1.mono HB.out.size)⟩
  | some l =>
   rw [hal] at he
   obtain ⟨Al, cl, rfl, hin⟩ := he
   have HIN := Lib.hid hin
   have HLL : Hid (op = 13 ∨ op = 14 → l ≠ []) := Lib.hid (fun h hl => by
    have := allSome_len hal
    rw [hl] at this
    have h2 : x.sub = [] := by simpa using this
    exact HSH.out (.inr h) h2)
   have HR3 : Hid (resT op l = r) := Lib.hid (by rw [← HR2.out, hal]; rfl)
   have HB1 := Lib.hid hb1
   have HC1 : Hid (∀ w', Below w1.heap.size w1 w' → w'.cell? ⟨B, 5, none⟩ = some (.int .i64 ln)) := Lib.hid (fun w' hb => (HC.out _ (hb1.trans (hb.mono hb1.size))).2.2)
   have HB2 := Lib.hid (HB.out.trans (hb1.mono HB.out.size))
   have x0 := (HC.out _ hb1).1
   have x5 := HC1.out w1 (Below.refl _ _)
   have lB1 : B < w1.heap.size := Nat.lt_of_lt_of_le lB hb1.size
   have HALL : Hid (∀ t w', Below w1.heap.size w1 w' → Calls Tryd.prog 45 #[.slice Al l.length cl, .int .i64 t] w' fun e w'' => e = .returned (.bool (allT l t)) ∧ Below w'.heap.size w' w'') := Lib.hid (fun t w' hb => kall_any l t Al cl w' (hin.below hb))
   obtain ⟨m, hm⟩ : ∃ m, l.length = m := ⟨_, rfl⟩
   have hmc : m ≤ cl := by rw [← hm]; exact hin.1
   have hmc2 := hin.2.1
   rw [hm] at HALL ⊢
   have HM := Lib.hid hm
   clear hb1 hin hal HR2 HPAW HSH HC HRG HB x2 q1 q2 q3 q4 q5 lB hm
   rcases (show (op = 6 ∨ op = 8 ∨ op = 9 ∨ op = 10 ∨ op = 11 ∨ op = 12) ∨ (op = 13 ∨ op = 14) ∨ (op = 15 ∨ op = 16 ∨ op = 17 ∨ op = 18) ∨ (op = 7 ∨ op = 19 ∨ op = 20 ∨ op = 21) by omega) with hk | hk | hk | hk
   ·have HR4 : Hid ((if allT l 1 = true then some 1 else none) = r) := Lib.hid (by
     rw [← HR3.out]
     rcases hk with rfl | rfl | rfl | rfl | rfl | rfl
     all_goals rfl)
    clear HR3 HLL h6 hhi
    cases hq : allT l 1
    ·obtain rfl : none = r := by rw [← HR4.out, hq]; rfl
     clear HR4
     rcases hk with rfl | rfl | rfl | rfl | rfl | rfl
     all_goals
      go_wp2_with fail
      refine wp_region_held_drew (S := fun w' => Below w1.heap.size w1 w') (by kernel_rfl) ?_ (fun hHeld => ?_)
      ·exact (Below.refl _ _).drew
      refine tT 0 ?_ rfl ?_ ?_; rotate_left; (focus intros; go_simp; try rfl)
      refine tT 2 ?_ rfl ?_ ?_; rotate_left; (focus intros; go_simp; try rfl)
      (refine tT 3 ?_ rfl ?_ ?_; rotate_left; (focus (intro w' hSw; (try dsimp only at hSw); (have g := HC1.out _ hSw); go_simp; try (with_reducible rfl))); (try simp only [ly]))
      refine oneH (i := 1) (by kernel_rfl) rfl (fun Kc hK => ?_)
      go_simp
      go_at_call 45; refine (HALL.out 1 _ hHeld).mono ?_; rintro e w2 ⟨rfl, hb2⟩; (have HB3 := Lib.hid (hHeld.trans (hb2.mono hHeld.size))); (rw [hq]); clear hb2 hHeld
      go_wp2_with fail
      refine hK.out _ _ (HB3.out) (fun hHeld => ?_)
      clear hK Kc
      (try simp only [ly])
      refine oneH (i := 4) (by kernel_rfl) rfl (fun Kc hK => ?_)
      go_simp
      go_at_call 35; refine (need_any false 10 ln _ (by decide)).mono ?_; rintro e w3 ⟨he, rfl⟩; obtain ⟨n9, l9, rfl, h9⟩ := he
      exact post_panic rfl (⟨⟨n9, l9, rfl, h9⟩, HB2.out.trans (HB3.out.mono HB2.out.size)⟩)
    ·obtain rfl : some 1 = r := by rw [← HR4.out, hq]; rfl
     clear HR4
     rcases hk with rfl | rfl | rfl | rfl | rfl | rfl
     all_goals
      go_wp2_with fail
      refine wp_region_held_drew (S := fun w' => Below w1.heap.size w1 w') (by kernel_rfl) ?_ (fun hHeld => ?_)
      ·exact (Below.refl _ _).drew
      refine tT 0 ?_ rfl ?_ ?_; rotate_left; (focus intros; go_simp; try rfl)
      refine tT 2 ?_ rfl ?_ ?_; rotate_left; (focus intros; go_simp; try rfl)
      (refine tT 3 ?_ rfl ?_ ?_; rotate_left; (focus (intro w' hSw; (try dsimp only at hSw); (have g := HC1.out _ hSw); go_simp; try (with_reducible rfl))); (try simp only [ly]))
      refine oneH (i := 1) (by kernel_rfl) rfl (fun Kc hK => ?_)
      go_simp
      go_at_call 45; refine (HALL.out 1 _ hHeld).mono ?_; rintro e w2 ⟨rfl, hb2⟩; (have HB3 := Lib.hid (hHeld.trans (hb2.mono hHeld.size))); (rw [hq]); clear hb2 hHeld
      go_wp2_with fail
      refine hK.out _ _ (HB3.out) (fun hHeld => ?_)
      clear hK Kc
      (try simp only [ly])
      refine oneH (i := 4) (by kernel_rfl) rfl (fun Kc hK => ?_)
      go_simp
      go_at_call 35; refine (need_any true 10 ln _ (by decide)).mono ?_; rintro e w3 ⟨rfl, rfl⟩
      go_wp2_with fail
      refine hK.out _ _ (HB3.out) (fun hHeld => ?_)
      clear hK Kc
      (try simp only [ly])
      refine wpAnyH_done (by kernel_rfl) ?_ _
      (try simp only [ly])
      go_wp2
      go_ret
      exact ⟨rfl, HB2.out.trans (HB3.out.mono HB2.out.size)⟩
   ·have HR4 : Hid ((if allT l (l.head?.getD 0) = true then some 2 else none) = r) := Lib.hid (by
     rw [← HR3.out]
     rcases hk with rfl | rfl
     all_goals rfl)
    obtain ⟨b, off, z, rfl, hbl, hz, hcz⟩ := HIN.out.head (HLL.out hk)
    rw [hz] at HR4
    have HZ : Hid (∀ w', Below w1.heap.size w1 w' → w'.cell? ⟨b, off, none⟩ = some (.int .i64 z)) := Lib.hid (fun w' hb => (hb.cell (p := ⟨b, off, none⟩) hbl).trans hcz)
    have hm0 : (0 : Int) < (m : Int) := by
     have := List.length_pos_iff.2 (HLL.out hk)
     rw [HM.out] at this
     omega
    have hm1 : 0 < m := by omega
    clear hz
    clear HR3 HLL h6 hhi
    cases hq : allT l z
    ·obtain rfl : none = r := by rw [← HR4.out, hq]; rfl
     clear HR4
     rcases hk with rfl | rfl
     all_goals
      go_wp2_with fail
      refine wp_region_held_drew (S := fun w' => Below w1.heap.size w1 w') (by kernel_rfl) ?_ (fun hHeld => ?_)
      ·exact (Below.refl _ _).drew
      refine tT 0 ?_ rfl ?_ ?_; rotate_left; (focus intros; go_simp; try rfl)
      refine tT 1 ?_ rfl ?_ ?_; rotate_left; (focus intros; go_simp; try rfl)
      refine tT 2 ?_ rfl ?_ ?_; rotate_left; (focus intros; go_simp; try rfl); (try simp only [ly])
      (refine tT 3 ?_ rfl ?_ ?_; rotate_left; (focus (intro w' hSw; (try dsimp only at hSw); (have g := (HZ.out _ hSw)); go_simp; try (with_reducible rfl))))
      refine tT 5 ?_ rfl ?_ ?_; rotate_left; (focus intros; go_simp; try rfl)
      (refine tT 6 ?_ rfl ?_ ?_; rotate_left; (focus (intro w' hSw; (try dsimp only at hSw); (have g := HC1.out _ hSw); go_simp; try (with_reducible rfl))); (try simp only [ly]))
      refine oneH (i := 4) (by kernel_rfl) rfl (fun Kc hK => ?_)
      go_simp
      go_at_call 45; refine (HALL.out z _ hHeld).mono ?_; rintro e w2 ⟨rfl, hb2⟩; (have HB3 := Lib.hid (hHeld.trans (hb2.mono hHeld.size))); (rw [hq]); clear hb2 hHeld
      go_wp2_with fail
      refine hK.out _ _ (HB3.out) (fun hHeld => ?_)
      clear hK Kc
      (try simp only [ly])
      refine oneH (i := 7) (by kernel_rfl) rfl (fun Kc hK => ?_)
      go_simp
      go_at_call 35; refine (need_any false 10 ln _ (by decide)).mono ?_; rintro e w3 ⟨he, rfl⟩; obtain ⟨n9, l9, rfl, h9⟩ := he
      exact post_panic rfl (⟨⟨n9, l9, rfl, h9⟩, HB2.out.trans (HB3.out.mono HB2.out.size)⟩)
    ·obtain rfl : some 2 = r := by rw [← HR4.out, hq]; rfl
     clear HR4
     rcases hk with rfl | rfl
     all_goals
      go_wp2_with fail
      refine wp_region_held_drew (S := fun w' => Below w1.heap.size w1 w') (by kernel_rfl) ?_ (fun hHeld => ?_)
      ·exact (Below.refl _ _).drew
      refine tT 0 ?_ rfl ?_ ?_; rotate_left; (focus intros; go_simp; try rfl)
      refine tT 1 ?_ rfl ?_ ?_; rotate_left; (focus intros; go_simp; try rfl)
      refine tT 2 ?_ rfl ?_ ?_; rotate_left; (focus intros; go_simp; try rfl); (try simp only [ly])
      (refine tT 3 ?_ rfl ?_ ?_; rotate_left; (focus (intro w' hSw; (try dsimp only at hSw); (have g := (HZ.out _ hSw)); go_simp; try (with_reducible rfl))))
      refine tT 5 ?_ rfl ?_ ?_; rotate_left; (focus intros; go_simp; try rfl)
      (refine tT 6 ?_ rfl ?_ ?_; rotate_left; (focus (intro w' hSw; (try dsimp only at hSw); (have g := HC1.out _ hSw); go_simp; try (with_reducible rfl))); (try simp only [ly]))
      refine oneH (i := 4) (by kernel_rfl) rfl (fun Kc hK => ?_)
      go_simp
      go_at_call 45; refine (HALL.out z _ hHeld).mono ?_; rintro e w2 ⟨rfl, hb2⟩; (have HB3 := Lib.hid (hHeld.trans (hb2.mono hHeld.size))); (rw [hq]); clear hb2 hHeld
      go_wp2_with fail
      refine hK.out _ _ (HB3.out) (fun hHeld => ?_)
      clear hK Kc
      (try simp only [ly])
      refine oneH (i := 7) (by kernel_rfl) rfl (fun Kc hK => ?_)
      go_simp
      go_at_call 35; refine (need_any true 10 ln _ (by decide)).mono ?_; rintro e w3 ⟨rfl, rfl⟩
      go_wp2_with fail
      refine hK.out _ _ (HB3.out) (fun hHeld => ?_)
      clear hK Kc
      (try simp only [ly])
      refine wpAnyH_done (by kernel_rfl) ?_ _
      (try simp only [ly])
      go_wp2
      go_ret
      exact ⟨rfl, HB2.out.trans (HB3.out.mono HB2.out.size)⟩
   ·have HR4 : Hid ((if allT l 1 = true then some 2 else none) = r) := Lib.hid (by
     rw [← HR3.out]
     rcases hk with rfl | rfl | rfl | rfl
     all_goals rfl)
    clear HR3 HLL h6 hhi
    cases hq : allT l 1
    ·obtain rfl : none = r := by rw [← HR4.out, hq]; rfl
     clear HR4
     rcases hk with rfl | rfl | rfl | rfl
     all_goals
      go_wp2_with fail
      refine wp_region_held_drew (S := fun w' => Below w1.heap.size w1 w') (by kernel_rfl) ?_ (fun hHeld => ?_)
      ·exact (Below.refl _ _).drew
      refine tT 0 ?_ rfl ?_ ?_; rotate_left; (focus intros; go_simp; try rfl)
      refine tT 2 ?_ rfl ?_ ?_; rotate_left; (focus intros; go_simp; try rfl)
      (refine tT 3 ?_ rfl ?_ ?_; rotate_left; (focus (intro w' hSw; (try dsimp only at hSw); (have g := HC1.out _ hSw); go_simp; try (with_reducible rfl))); (try simp only [ly]))
      refine oneH (i := 1) (by kernel_rfl) rfl (fun Kc hK => ?_)
      go_simp
      go_at_call 45; refine (HALL.out 1 _ hHeld).mono ?_; rintro e w2 ⟨rfl, hb2⟩; (have HB3 := Lib.hid (hHeld.trans (hb2.mono hHeld.size))); (rw [hq]); clear hb2 hHeld
      go_wp2_with fail
      refine hK.out _ _ (HB3.out) (fun hHeld => ?_)
      clear hK Kc
      (try simp only [ly])
      refine oneH (i := 4) (by kernel_rfl) rfl (fun Kc hK => ?_)
      go_simp
      go_at_call 35; refine (need_any false 10 ln _ (by decide)).mono ?_; rintro e w3 ⟨he, rfl⟩; obtain ⟨n9, l9, rfl, h9⟩ := he
      exact post_panic rfl (⟨⟨n9, l9, rfl, h9⟩, HB2.out.trans (HB3.out.mono HB2.out.size)⟩)
    ·obtain rfl : some 2 = r := by rw [← HR4.out, hq]; rfl
     clear HR4
     rcases hk with rfl | rfl | rfl | rfl
     all_goals
      go_wp2_with fail
      refine wp_region_held_drew (S := fun w' => Below w1.heap.size w1 w') (by kernel_rfl) ?_ (fun hHeld => ?_)
      ·exact (Below.refl _ _).drew
      refine tT 0 ?_ rfl ?_ ?_; rotate_left; (focus intros; go_simp; try rfl)
      refine tT 2 ?_ rfl ?_ ?_; rotate_left; (focus intros; go_simp; try rfl)
      (refine tT 3 ?_ rfl ?_ ?_; rotate_left; (focus (intro w' hSw; (try dsimp only at hSw); (have g := HC1.out _ hSw); go_simp; try (with_reducible rfl))); (try simp only [ly]))
      refine oneH (i := 1) (by kernel_rfl) rfl (fun Kc hK => ?_)
      go_simp
      go_at_call 45; refine (HALL.out 1 _ hHeld).mono ?_; rintro e w2 ⟨rfl, hb2⟩; (have HB3 := Lib.hid (hHeld.trans (hb2.mono hHeld.size))); (rw [hq]); clear hb2 hHeld
      go_wp2_with fail
      refine hK.out _ _ (HB3.out) (fun hHeld => ?_)
      clear hK Kc
      (try simp only [ly])
      refine oneH (i := 4) (by kernel_rfl) rfl (fun Kc hK => ?_)
      go_simp
      go_at_call 35; refine (need_any true 10 ln _ (by decide)).mono ?_; rintro e w3 ⟨rfl, rfl⟩
      go_wp2_with fail
      refine hK.out _ _ (HB3.out) (fun hHeld => ?_)
      clear hK Kc
      (try simp only [ly])
      refine wpAnyH_done (by kernel_rfl) ?_ _
      (try simp only [ly])
      go_wp2
      go_ret
      exact ⟨rfl, HB2.out.trans (HB3.out.mono HB2.out.size)⟩
   ·have HR4 : Hid ((if allT l 2 = true then some 2 else none) = r) := Lib.hid (by
     rw [← HR3.out]
     rcases hk with rfl | rfl | rfl | rfl
     all_goals rfl)
    clear HR3 HLL h6 hhi
    cases hq : allT l 2
    ·obtain rfl : none = r := by rw [← HR4.out, hq]; rfl
     clear HR4
     rcases hk with rfl | rfl | rfl | rfl
     all_goals
      go_wp2_with fail
      refine wp_region_held_drew (S := fun w' => Below w1.heap.size w1 w') (by kernel_rfl) ?_ (fun hHeld => ?_)
      ·exact (Below.refl _ _).drew
      refine tT 0 ?_ rfl ?_ ?_; rotate_left; (focus intros; go_simp; try rfl)
      refine tT 2 ?_ rfl ?_ ?_; rotate_left; (focus intros; go_simp; try rfl)
      (refine tT 3 ?_ rfl ?_ ?_; rotate_left; (focus (intro w' hSw; (try dsimp only at hSw); (have g := HC1.out _ hSw); go_simp; try (with_reducible rfl))); (try simp only [ly]))
      refine oneH (i := 1) (by kernel_rfl) rfl (fun Kc hK => ?_)
      go_simp
      go_at_call 45; refine (HALL.out 2 _ hHeld).mono ?_; rintro e w2 ⟨rfl, hb2⟩; (have HB3 := Lib.hid (hHeld.trans (hb2.mono hHeld.size))); (rw [hq]); clear hb2 hHeld
      go_wp2_with fail
      refine hK.out _ _ (HB3.out) (fun hHeld => ?_)
      clear hK Kc
      (try simp only [ly])
      refine oneH (i := 4) (by kernel_rfl) rfl (fun Kc hK => ?_)
      go_simp
      go_at_call 35; refine (need_any false 10 ln _ (by decide)).mono ?_; rintro e w3 ⟨he, rfl⟩; obtain ⟨n9, l9, rfl, h9⟩ := he
      exact post_panic rfl (⟨⟨n9, l9, rfl, h9⟩, HB2.out.trans (HB3.out.mono HB2.out.size)⟩)
    ·obtain rfl : some 2 = r := by rw [← HR4.out, hq]; rfl
     clear HR4
     rcases hk with rfl | rfl | rfl | rfl
     all_goals
      go_wp2_with fail
      refine wp_region_held_drew (S := fun w' => Below w1.heap.size w1 w') (by kernel_rfl) ?_ (fun hHeld => ?_)
      ·exact (Below.refl _ _).drew
      refine tT 0 ?_ rfl ?_ ?_; rotate_left; (focus intros; go_simp; try rfl)
      refine tT 2 ?_ rfl ?_ ?_; rotate_left; (focus intros; go_simp; try rfl)
      (refine tT 3 ?_ rfl ?_ ?_; rotate_left; (focus (intro w' hSw; (try dsimp only at hSw); (have g := HC1.out _ hSw); go_simp; try (with_reducible rfl))); (try simp only [ly]))
      refine oneH (i := 1) (by kernel_rfl) rfl (fun Kc hK => ?_)
      go_simp
      go_at_call 45; refine (HALL.out 2 _ hHeld).mono ?_; rintro e w2 ⟨rfl, hb2⟩; (have HB3 := Lib.hid (hHeld.trans (hb2.mono hHeld.size))); (rw [hq]); clear hb2 hHeld
      go_wp2_with fail
      refine hK.out _ _ (HB3.out) (fun hHeld => ?_)
      clear hK Kc
      (try simp only [ly])
      refine oneH (i := 4) (by kernel_rfl) rfl (fun Kc hK => ?_)
      go_simp
      go_at_call 35; refine (need_any true 10 ln _ (by decide)).mono ?_; rintro e w3 ⟨rfl, rfl⟩
      go_wp2_with fail
      refine hK.out _ _ (HB3.out) (fun hHeld => ?_)
      clear hK Kc
      (try simp only [ly])
      refine wpAnyH_done (by kernel_rfl) ?_ _
      (try simp only [ly])
      go_wp2
      go_ret
      exact ⟨rfl, HB2.out.trans (HB3.out.mono HB2.out.size)⟩
end Go.Proofs.YtahjijdadifkaaaDoor

namespace Go.Proofs.YtahjijdadifkaaaDoor
open Go.RowKit

def tyTop (vs : List VarS) (x : Ex) (ts : List (Option Int)) : Option Int :=
 if x.op = 1 then some 1 else if x.op = 2 then some 2
 else if x.op = 3 ∨ x.op = 4 then (varF vs x.name).bind fun v => if x.op = 4 then (if v.arr = true ∧ ts.head?.bind id = some 1 then some v.type else none) else if v.arr = false ∧ ¬ 2 < v.type then some v.type else none
 else if x.op = 5 then fieldT vs x
 else (allSome ts).bind (resT x.op)
mutual
def tyE (vs : List VarS) : Ex → Option Int
 | .mk op n nm fd sub ln => tyTop vs (.mk op n nm fd sub ln) (tyEs vs sub)
def tyEs (vs : List VarS) : List Ex → List (Option Int)
 | [] => []
 | x :: l => tyE vs x :: tyEs vs l
end
theorem tyEs_map (vs : List VarS) : ∀ l, tyEs vs l = l.map (tyE vs)
 | [] => by rw [tyEs]; rfl
 | x :: l => by rw [tyEs, tyEs_map vs l]; rfl
theorem tyE_eq (vs : List VarS) (x : Ex) : tyE vs x = tyTop vs x (x.sub.map (tyE vs)) := by
 cases x
 rw [tyE, tyEs_map]
 rfl
theorem tyE_tyX (vs : List VarS) (x : Ex) : tyE vs x = tyX (tyE vs) vs x := by
 rw [tyE_eq]
 have : (x.sub.map (tyE vs)).head?.bind id = x.sub.head?.bind (tyE vs) := by cases x.sub <;> rfl
 unfold tyTop tyX placeT
 rw [this]

theorem kexpr_at : ∀ (k : Nat) (x : Ex), SizeOf.sizeOf x < k → ShE x → ∀ (vs : List VarS) (A : Option Addr) (cap C : Nat) (vA : Option Addr) (vcap : Nat) (w : World), ExAt w x (ExC x A cap) → CkV w C vA vcap vs → Blanks w →
  Calls Tryd.prog 21 #[ckP C, .agg (ExC x A cap).toArray] w fun e w' => TyRes (tyE vs x) e ∧ Below w.heap.size w w' := by
 intro k
 induction k with
 | zero => intro x h; omega
 | succ k ih =>
  intro x hsz hsh vs A cap C vA vcap w hx hck ht
  obtain ⟨h1, h2⟩ := hsh.parts
  rw [tyE_tyX]
  refine kexpr_of (tyE vs) vs x A cap C vA vcap w hx h1 hck ht fun y hy W As ks hW ha W' hW' => ?_
  have h3 : SizeOf.sizeOf y < k := by
   have h4 := List.sizeOf_lt_of_mem hy
   have h5 : SizeOf.sizeOf x.sub < SizeOf.sizeOf x := by
    cases x
    simp [Ex.sub]
    omega
   omega
  have hWW := hW.trans (hW'.mono hW.size)
  exact ih y h3 (h2 y hy) vs As ks C vA vcap W' (ha.keep hW') (hck.below hWW) (ht.on hWW)
theorem kexpr_any {x : Ex} (hsh : ShE x) {vs : List VarS} {A : Option Addr} {cap C : Nat} {vA : Option Addr} {vcap : Nat} {w : World} (hx : ExAt w x (ExC x A cap)) (hck : CkV w C vA vcap vs) (ht : Blanks w) : ExprAt w C x A cap (tyE vs x) :=
 fun W hW => kexpr_at _ x (Nat.lt_succ_self _) hsh vs A cap C vA vcap W (hx.keep hW) (hck.below hW) (ht.on hW)

end Go.Proofs.YtahjijdadifkaaaDoor
