/- Merged: Layer 20: the variables are declared. Layer 20: a fault is caught. -/
import Derived.Test.YtahjijdadifkaaaDoorM22
import Derived.Deep.AppendLies
import Derived.Recover
set_option linter.unusedVariables false
set_option linter.unusedSimpArgs false
set_option maxHeartbeats 8000000
namespace Go.Proofs.YtahjijdadifkaaaDoor
open Go.RowKit
attribute [local go_sem] ite_max ite_min vite_max vite_min ext_cell ext_frozen extS_cell extS_frozen

section
variable {P : Program} {md : Region.Mode} {l : List Oper} {Q : Exit → Act → World → Prop} {S : World → Prop} {fuel : Nat} {listed : Array Bool} {a : Act} {w : World} {i j : Nat} {o p : Oper}
theorem twoK (hr : Region.ready md l.toArray listed = [i, j]) (ho : l[i]? = some o) (hp : l[j]? = some p)
  (h1 : ∀ K' : Act → World → Prop, Shut (∀ a w, S w → (S w → wpAnyH P md l.toArray Q S fuel (listed.setIfInBounds i true) a w) → K' a w) → if Region.wanted o (yielded l.toArray a.tmps) = true then Oper.wp P o a w K' Q else K' (a.put o.dst undef) w)
  (h2 : ∀ K' : Act → World → Prop, Shut (∀ a w, S w → (S w → wpAnyH P md l.toArray Q S fuel (listed.setIfInBounds j true) a w) → K' a w) → if Region.wanted p (yielded l.toArray a.tmps) = true then Oper.wp P p a w K' Q else K' (a.put p.dst undef) w) :
  wpAnyH P md l.toArray Q S (fuel + 1) listed a w :=
 wpAnyH_ready hr (by simp) (AllReadyH.cons (by simpa using ho) h1 (AllReadyH.cons (by simpa using hp) h2 AllReadyH.nil))
end

def declX : List VarS → Nat → List VarS → Bool
 | _, _, [] => true
 | acc, n, v :: l => (!(acc.any (sameV v.name))) && (decide (n + cellsK v ≤ 1024) && declX (acc ++ [v]) (n + cellsK v) l)
theorem declX_step {vs : List VarS} {n i : Nat} {v : VarS} (h : vs[i]? = some v) : declX (vs.take i) n (vs.drop i) = ((!((vs.take i).any (sameV v.name))) && (decide (n + cellsK v ≤ 1024) && declX (vs.take (i + 1)) (n + cellsK v) (vs.drop (i + 1)))) := by
 obtain ⟨hi, hv⟩ := List.getElem?_eq_some_iff.1 h
 rw [List.drop_eq_getElem_cons hi, hv, declX, List.take_add_one, h]
 rfl
theorem cellsK_few {v : VarS} (h : ArrOk v) : cellsK v ≤ 256 := by
 unfold cellsK
 by_cases ha : v.arr = true
 ·rw [if_pos ha]
  have := h ha
  omega
 ·rw [if_neg ha]
  split
  ·have := count_few v.type
   omega
  ·omega
theorem kd_var : (Tryd.prog.info? 47).map (fun i => (i.zero, i.size, i.bytes)) = some (some (.agg #[.string ⟨#[]⟩, .int .i64 0, .int .i64 0, .bool false, .int .i64 0, .int .i64 0, .int .i64 0, .int .i64 0]), 8, 72) := by kernel_rfl
def OwnV (w : World) (base : Nat) (l : List VarS) (v : Value) : Prop := ∃ cs, w.ownsRow base 47 8 v l.length cs ∧ CellsOf VarAt 8 l cs
theorem OwnV.row {w : World} {base : Nat} {l : List VarS} {v : Value} (h : OwnV w base l v) (hb : l.length ≤ 64) : ∃ A cap, v = .slice A l.length cap ∧ RowV w A l cap ∧ ∀ b off, A = some ⟨b, off, none⟩ → base ≤ b := by
 obtain ⟨cs, h1, h2⟩ := h
 obtain ⟨A, cap, e, hr⟩ := h2.row (bytes := 72) (p := fun _ => true) h1 rfl (by omega) (fun _ _ => rfl) (by decide)
 obtain ⟨A', cap', e', _, _, hA⟩ := own_form h1
 rw [e] at e'
 cases e'
 refine ⟨A, cap, e, RowOf.move hr (Moves.only _ _) (fun x cs _ h => ⟨by rw [h.1]; rfl, h⟩), fun b off hb => hA b off none hb⟩
theorem owns_butK {w w' : World} {base size C : Nat} {e : TypeId} {v : Value} {n : Nat} {xs : List Value} (h : w.ownsRow base e size v n xs) (hb : But C w w') (hn : v.ownBlock ≠ some C) : w'.ownsRow base e size v n xs := by
 obtain ⟨h1, h2⟩ := h
 refine ⟨h1, ?_⟩
 rcases h2 with h2 | ⟨g, cap, cur, hv, hg, hh, r⟩
 ·exact Or.inl h2
 ·refine Or.inr ⟨g, cap, cur, hv, hg, ?_, r⟩
  rw [hb.blk g (Array.getElem?_eq_some_iff.1 hh).1 (fun e => hn (by rw [hv, ← e]; rfl))]
  exact hh
theorem but_below {C : Nat} {w a b : World} (h1 : But C w a) (h2 : Below w.heap.size a b) : But C w b :=
 ⟨Nat.le_trans h1.size h2.size, fun k hk hn => (h2.block k hk).trans (h1.blk k hk hn), fun B hB hs => (h1.below B hB hs).trans (h2.mono hs)⟩
structure DV (W wr : World) (C : Nat) (l : List VarS) (v : Value) : Prop where
 but : But C W wr
 lt : C < wr.heap.size
 c0 : wr.cell? ⟨C, 0, none⟩ = some v
 c1 : wr.cell? ⟨C, 1, none⟩ = some (.int .i64 0)
 fr : ∀ o, wr.frozen? ⟨C, o, none⟩ = false
 own : OwnV wr W.heap.size l v
theorem DV.below {W wr wr' : World} {C : Nat} {l : List VarS} {v : Value} (h : DV W wr C l v) (hb : Below wr.heap.size wr wr') : DV W wr' C l v := by
 obtain ⟨cs, h1, h2⟩ := h.own
 exact ⟨h.but.trans (But.of_below hb), Nat.lt_of_lt_of_le h.lt hb.size, (hb.cell (p := ⟨C, 0, none⟩) h.lt).trans h.c0, (hb.cell (p := ⟨C, 1, none⟩) h.lt).trans h.c1, fun o => (hb.frozen (p := ⟨C, o, none⟩) h.lt).trans (h.fr o), cs, owns_below h1 hb, h2⟩
theorem DV.next {W wr w8 : World} {C : Nat} {l : List VarS} {v v8 : Value} {y : VarS} {M cs : List Value} {n : Nat} (h : DV W wr C l v) (hC : C < W.heap.size) (hb : Below W.heap.size wr w8) (ho : w8.ownsRow W.heap.size 47 8 v8 n (cs ++ M)) (hn : n = (l ++ [y]).length) (hcs : CellsOf VarAt 8 l cs) (hy : VarAt y M) :
  DV W (w8.setCell ⟨C, 0, none⟩ v8) C (l ++ [y]) v8 := by
 have hB : But C w8 (w8.setCell ⟨C, 0, none⟩ v8) := (But.refl C w8).set 0 _
 have h0 := (hb.cell (p := ⟨C, 0, none⟩) hC).trans h.c0
 have h1 := (hb.cell (p := ⟨C, 1, none⟩) hC).trans h.c1
 have hl : C < w8.heap.size := Nat.lt_of_lt_of_le h.lt hb.size
 subst hn
 refine ⟨(but_below h.but hb).trans hB, Nat.lt_of_lt_of_le hl hB.size, ?_, ?_, fun o => ?_, cs ++ M, owns_butK ho hB (fun e => by have := (ho.lt _ e).1; omega), hcs.snoc hy (by rw [hy.1]; rfl)⟩
 ·go_simp
 ·go_simp
 ·have := (hb.frozen (p := ⟨C, o, none⟩) hC).trans (h.fr o)
  go_simp
theorem cf_decl1 (args : Array Value) (w : World) : Sem.run Tryd.prog (callFunc 37 args) w = .ok (.enter 37 args) w := by
 go_simp

set_option maxRecDepth 100000 in
theorem decl1_any (v : VarS) (nm : ByteArray) (c : Nat) (w : World) (hc : w.cell? ⟨c, 0, none⟩ = some (.string nm)) (hl : c < w.heap.size) :
  Calls Tryd.prog 37 #[.agg v.cells.toArray, .pointer (some ⟨c, 0, none⟩)] w fun e w' => e = .returned (.bool (sameV nm v)) ∧ Below w.heap.size w w' := by
 show Calls Tryd.prog 37 #[.agg #[.string v.name, .int .i64 v.type, .int .i64 v.sect, .bool v.arr, .int .i64 v.lo, .int .i64 v.hi, .int .i64 v.init, .int .i64 v.line], .pointer (some ⟨c, 0, none⟩)] w _
 go_enter Tryd.func37, Tryd.ntmps37
 go_wp2
 go_ret
 exact ⟨rfl, by exact belowBy⟩

set_option maxRecDepth 100000 in
theorem kdeclared_of (vs : List VarS) (Av : Option Addr) (kv C : Nat) (w0 w : World) (hrow : RowV w0 Av vs kv) (hok : ∀ v ∈ vs, ArrOk v) (hfew : vs.length ≤ 64) (ht : Blanks w0) (hw0 : Below w0.heap.size w0 w) (hC0 : w0.heap.size ≤ C) (hC : C < w.heap.size)
  (c0 : w.cell? ⟨C, 0, none⟩ = some (.slice none 0 0)) (c1 : w.cell? ⟨C, 1, none⟩ = some (.int .i64 0)) (fr : ∀ o, w.frozen? ⟨C, o, none⟩ = false) :
  Calls Tryd.prog 18 #[ckP C, .slice Av vs.length kv] w fun e w' => Oks (declX [] 0 vs) e ∧ But C w w' ∧ (declX [] 0 vs = true → ∃ A cap, Ck w' C A cap vs 0) := by
 obtain ⟨i0, hi0, hz0, hz1, hz2⟩ := info_parts kd_var
 have HI := Lib.hid hi0
 have HZ0 := Lib.hid hz0
 have HZ1 := Lib.hid hz1
 have HZ2 := Lib.hid hz2
 have HROW := Lib.hid hrow
 have HOK := Lib.hid hok
 have HBT := Lib.hid ht
 have HW0 := Lib.hid hw0
 have HC0 := Lib.hid hC0
 have hc1 := hrow.1
 have hc2 := hrow.2.1
 have HDV : Hid (DV w w C [] (.slice none 0 0)) := Lib.hid ⟨But.refl _ _, hC, c0, c1, fr, [], World.ownsRow_nil _ _ _ _, .nil⟩
 obtain ⟨n, hn⟩ : ∃ n, vs.length = n := ⟨_, rfl⟩
 have HN := Lib.hid hn
 obtain ⟨r, hr⟩ : ∃ r, declX [] 0 vs = r := ⟨_, rfl⟩
 have HR := Lib.hid hr
 have HCW := Lib.hid hC
 rw [hn] at hc1 hfew ⊢
 rw [hr]
 clear hrow hok ht hw0 hC0 c0 c1 fr hi0 hz0 hz1 hz2 hn hr hC
 go_enter Tryd.func18, Tryd.ntmps18
 go_wp2_with fail
 obtain ⟨W0, hW0⟩ : ∃ W0, W0 = w := ⟨_, rfl⟩
 have HWW := Lib.hid hW0
 clear hW0
 go_loopw [4, 9] (fun q u wr => ∃ (i k : Nat) (v' : Value), i ≤ n ∧ k ≤ 1024 ∧ q = .int .i64 k ∧ u = .int .i64 i ∧ Hid (declX (vs.take i) k (vs.drop i) = r) ∧ Hid (DV w wr C (vs.take i) v')) (fun _ u _ => n - (intOf u).toNat)
 case atStart => exact ⟨0, 0, _, by omega, by omega, rfl, rfl, Lib.hid (by rw [List.take_zero, List.drop_zero]; exact HR.out), HDV⟩
 case round =>
  obtain ⟨i, k, v', hi, hk, rfl, rfl, HRI, HD⟩ := hrel
  have HWr : Hid (Below w0.heap.size w0 wr) := Lib.hid (HW0.out.trans (HD.out.but.below _ HC0.out HW0.out.size))
  by_cases hlt : i < n
  ·obtain ⟨b, off, y, rfl, hbl, hy, hrg⟩ := RowV.at8 (HROW.out.below HWr.out) (i := i) (by rw [HN.out]; exact hlt)
   have hib : (0 : Int) ≤ (i : Int) ∧ (i : Int) < (n : Int) := by omega
   have HY := Lib.hid hy
   have HYO : Hid y.Ok := Lib.hid (by
    obtain ⟨b', o', x, cs, _, _, hx, hxa, _⟩ := RowOf.at HROW.out (i := i) (by rw [HN.out]; exact hlt)
    rw [hy] at hx
    cases hx
    exact hxa.2)
   have HAO := Lib.hid (HOK.out y (List.mem_of_getElem? hy))
   have HRJ : Hid (((!((vs.take i).any (sameV y.name))) && (decide (k + cellsK y ≤ 1024) && declX (vs.take (i + 1)) (k + cellsK y) (vs.drop (i + 1)))) = r) := Lib.hid (by rw [← HRI.out, declX_step hy])
   have hcf := cellsK_few HAO.out
   obtain ⟨M, hM⟩ : ∃ M, y.cells = M := ⟨_, rfl⟩
   obtain ⟨nm, hnm⟩ : ∃ o, y.name = o := ⟨_, rfl⟩
   obtain ⟨ln, hln⟩ : ∃ o, y.line = o := ⟨_, rfl⟩
   obtain ⟨ck, hck⟩ : ∃ o, cellsK y = o := ⟨_, rfl⟩
   have HMS : Hid ((Tryd.prog.info? 47).map (·.size) = some M.length) := Lib.hid (by rw [← hM]; exact var_size8)
   have HM1 : Hid (M.toArray.all (·.oneCell') = true) := Lib.hid (by rw [← hM]; exact var_one8 y)
   have HM8 : Hid (8 = M.toArray.size) := Lib.hid (by rw [← hM]; rfl)
   have HML : Hid (M.length = 8) := Lib.hid (by rw [← hM]; rfl)
   have HMX : Hid (M[0]? = some (.string nm) ∧ M[7]? = some (.int .i64 ln)) := Lib.hid (by rw [← hM, ← hnm, ← hln]; exact ⟨rfl, rfl⟩)
   have HMY : Hid (VarAt y M) := Lib.hid ⟨hM.symm, HYO.out⟩
   have HCL : Hid (∀ W, Blanks W → Calls Tryd.prog 38 #[.agg M.toArray] W fun e w' => e = .returned (.int .i64 (ck : Nat)) ∧ Below W.heap.size W w') := Lib.hid (fun W hW => by
    have := kcells_is y HAO.out W hW
    rw [hM, hck] at this
    exact this)
   rw [hM] at hrg
   rw [hnm, hck] at HRJ
   rw [hck] at hcf
   have HRG := Lib.hid hrg
   clear hy hrg hM hnm hln hck HRI HAO HYO
   go_upto_region 4 with (first
    | refine wpList_load_mid rfl 47 _ rfl b (off + i * 8) rfl M _ HRG.out Tryd.underlying47 rfl HMS.out ?_
    | refine wpList_store_new rfl 47 _ _ rfl wr _ M.toArray rfl rfl rfl HMS.out HM8.out HM1.out ?_)
   refine wp_name fun W3 hW3 => ?_
   obtain ⟨V, hV⟩ : ∃ G, G = wr.heap.size := ⟨_, rfl⟩
   rw [← hV]
   have hB3 : Below wr.heap.size wr W3 := by rw [hW3.out]; exact belowBy
   have hh : W3.heap[V]? = some (.cells M.toArray 47) := by rw [hW3.out, hV]; exact heap_alloc_new _ _
   have lV : V < W3.heap.size := (Array.getElem?_eq_some_iff.1 hh).1
   have HMG : Hid (∀ w', Below W3.heap.size W3 w' → w'.rangeAt V 0 M) := Lib.hid (fun w' hb => by
    have := rangeAt_of_heap ((hb.block V lV).trans hh)
    simpa using this)
   have HVC : Hid (∀ w', Below W3.heap.size W3 w' → w'.cell? ⟨V, 0, none⟩ = some (.string nm) ∧ w'.cell? ⟨V, 7, none⟩ = some (.int .i64 ln) ∧ V < w'.heap.size) := Lib.hid (fun w' hb => by
    have h1 := (hb.block V lV).trans hh
    exact ⟨heap_cell 0 _ h1 (by rw [List.getElem?_toArray]; exact HMX.out.1), heap_cell 7 _ h1 (by rw [List.getElem?_toArray]; exact HMX.out.2), Nat.lt_of_lt_of_le lV hb.size⟩)
   have HD3 := Lib.hid (HD.out.below hB3)
   have HW3 := Lib.hid (HWr.out.trans (hB3.mono HWr.out.size))
   have HVN : Hid (V ≠ C) := Lib.hid (by have := HD.out.lt; omega)
   have HOV : Hid (∀ g, v'.ownBlock = some g → g < V) := Lib.hid (fun g hg => by
    obtain ⟨cs, ho, _⟩ := HD.out.own
    have := (ho.lt g hg).2
    omega)
   simp only [Act.put]
   clear hW3 hB3 hh hV lV HRG HD HWr
   obtain ⟨Aq, cq, hvq, hrq, -⟩ := HD3.out.own.row (by rw [List.length_take]; omega)
   have hti : (vs.take i).length = i := by rw [List.length_take, HN.out]; omega
   rw [hti] at hvq
   subst hvq
   have HCQ : Hid (∀ w', Below W3.heap.size W3 w' → w'.cell? ⟨C, 0, none⟩ = some (.slice Aq i cq) ∧ C < w'.heap.size) := Lib.hid (fun w' hb => ⟨(HD3.out.below hb).c0, (HD3.out.below hb).lt⟩)
   have HHAS : Hid (∀ w', Below W3.heap.size W3 w' → Calls Tryd.prog 36 #[.slice Aq i cq, .func (.func 37) #[] #[.pointer (some ⟨V, 0, none⟩)]] w' fun e w'' => e = .returned (.bool ((vs.take i).any (sameV nm))) ∧ Below w'.heap.size w' w'') := Lib.hid (fun w' hb => by
    have := khas_var _ #[.pointer (some ⟨V, 0, none⟩)] (sameV nm) (vs.take i) Aq cq w' (hrq.below hb) cf_decl1 (fun v w'' hb2 => decl1_any v nm V w'' (HVC.out _ (hb.trans (hb2.mono hb.size))).1 (HVC.out _ (hb.trans (hb2.mono hb.size))).2.2)
    rw [hti] at this
    exact this)
   have lC := HD3.out.lt
   clear hrq hti
   go_wp2_with fail
   cases hdup : (vs.take i).any (sameV nm)
   case true =>
    rw [hdup] at HHAS
    obtain rfl : false = r := by rw [← HRJ.out, hdup]; rfl
    clear hdup
    refine wp_region_held_drew (S := fun w' => Below W3.heap.size W3 w') (by kernel_rfl) ?_ (fun hHeld => ?_)
    ·exact (Below.refl _ _).drew
    refine tT 0 ?_ rfl ?_ ?_; rotate_left; (focus intros; go_simp; try rfl)
    refine tT 1 ?_ rfl ?_ ?_; rotate_left; (focus intros; go_simp; try rfl)
    refine tT 2 ?_ rfl ?_ ?_; rotate_left; (focus intros; go_simp; try rfl); (try simp only [ly])
    (refine tT 3 ?_ rfl ?_ ?_; rotate_left; (focus (intro w' hSw; (try dsimp only at hSw); (have g := (HCQ.out _ hSw).1); (have g2 := (HCQ.out _ hSw).2); go_simp; try (with_reducible rfl))))
    refine tT 4 ?_ rfl ?_ ?_; rotate_left; (focus intros; go_simp; try rfl)
    refine tT 7 ?_ rfl ?_ ?_; rotate_left; (focus intros; go_simp; try rfl); (try simp only [ly])
    (refine tT 8 ?_ rfl ?_ ?_; rotate_left; (focus (intro w' hSw; (try dsimp only at hSw); (have g := (HVC.out _ hSw).2.1); go_simp; try (with_reducible rfl))); (try simp only [ly]))
    refine oneH (i := 5) (by kernel_rfl) rfl (fun Kc hK => ?_)
    go_simp
    go_at_call 36; refine (HHAS.out _ hHeld).mono ?_; rintro e w4 ⟨rfl, hb4⟩; (have HB4 := Lib.hid (hHeld.trans (hb4.mono hHeld.size))); clear hb4 hHeld
    go_wp2_with fail
    refine hK.out _ _ (HB4.out) (fun hHeld => ?_)
    clear hK Kc
    (try simp only [ly])
    refine tT 6 ?_ rfl ?_ ?_; rotate_left; (focus intros; go_simp; try rfl); (try simp only [ly])
    refine oneH (i := 9) (by kernel_rfl) rfl (fun Kc hK => ?_)
    go_simp
    go_at_call 35; refine (need_any false 11 ln _ (by decide)).mono ?_; rintro e w5 ⟨he, rfl⟩; obtain ⟨n9, l9, rfl, h9⟩ := he
    exact ⟨rfl, ⟨⟨n9, l9, rfl, h9⟩, HD3.out.but.trans (But.of_below HB4.out), fun h => by cases h⟩⟩
   case false =>
    rw [hdup] at HHAS
    have HRK : Hid ((decide (k + ck ≤ 1024) && declX (vs.take (i + 1)) (k + ck) (vs.drop (i + 1))) = r) := Lib.hid (by rw [← HRJ.out, hdup]; rfl)
    clear hdup HRJ
    refine wp_region_held_drew (S := fun w' => Below W3.heap.size W3 w') (by kernel_rfl) ?_ (fun hHeld => ?_)
    ·exact (Below.refl _ _).drew
    refine tT 0 ?_ rfl ?_ ?_; rotate_left; (focus intros; go_simp; try rfl)
    refine tT 1 ?_ rfl ?_ ?_; rotate_left; (focus intros; go_simp; try rfl)
    refine tT 2 ?_ rfl ?_ ?_; rotate_left; (focus intros; go_simp; try rfl); (try simp only [ly])
    (refine tT 3 ?_ rfl ?_ ?_; rotate_left; (focus (intro w' hSw; (try dsimp only at hSw); (have g := (HCQ.out _ hSw).1); (have g2 := (HCQ.out _ hSw).2); go_simp; try (with_reducible rfl))))
    refine tT 4 ?_ rfl ?_ ?_; rotate_left; (focus intros; go_simp; try rfl)
    refine tT 7 ?_ rfl ?_ ?_; rotate_left; (focus intros; go_simp; try rfl); (try simp only [ly])
    (refine tT 8 ?_ rfl ?_ ?_; rotate_left; (focus (intro w' hSw; (try dsimp only at hSw); (have g := (HVC.out _ hSw).2.1); go_simp; try (with_reducible rfl))); (try simp only [ly]))
    refine oneH (i := 5) (by kernel_rfl) rfl (fun Kc hK => ?_)
    go_simp
    go_at_call 36; refine (HHAS.out _ hHeld).mono ?_; rintro e w4 ⟨rfl, hb4⟩; (have HB4 := Lib.hid (hHeld.trans (hb4.mono hHeld.size))); clear hb4 hHeld
    go_wp2_with fail
    refine hK.out _ _ (HB4.out) (fun hHeld => ?_)
    clear hK Kc
    (try simp only [ly])
    refine tT 6 ?_ rfl ?_ ?_; rotate_left; (focus intros; go_simp; try rfl); (try simp only [ly])
    refine oneH (i := 9) (by kernel_rfl) rfl (fun Kc hK => ?_)
    go_simp
    go_at_call 35; refine (need_any true 11 ln _ (by decide)).mono ?_; rintro e w5 ⟨rfl, rfl⟩
    go_wp2_with fail
    refine hK.out _ _ (HB4.out) (fun hHeld => ?_)
    clear hK Kc
    (try simp only [ly])
    refine wpAnyH_done (by kernel_rfl) ?_ _
    (try simp only [ly])
    have HG4 := Lib.hid (HMG.out _ HB4.out)
    have HBT4 := Lib.hid (HBT.out.on (HW3.out.trans (HB4.out.mono HW3.out.size)))
    clear HHAS
    go_wp2_with (refine wpList_load_mid rfl 47 _ rfl V 0 rfl M _ HG4.out Tryd.underlying47 rfl HMS.out ?_)
    refine (HCL.out _ HBT4.out).mono ?_
    rintro e w6 ⟨rfl, hb6⟩
    have HB6 := Lib.hid (HB4.out.trans (hb6.mono HB4.out.size))
    clear hb6 HG4 HBT4 HB4 HCL
    obtain ⟨x0, x7, lV6⟩ := HVC.out _ HB6.out
    by_cases hle : k + ck ≤ 1024
    case neg =>
     have hlz : ¬ ((k : Int) + (ck : Int) ≤ 1024) := by omega
     obtain rfl : false = r := by rw [← HRK.out]; simp [hle]
     go_wp2_with fail
     rw [show decide ((k : Int) + (ck : Int) ≤ 1024) = false from decide_eq_false (by omega)]
     refine (need_any false 13 ln _ (by decide)).mono ?_
     rintro e w7 ⟨he, rfl⟩
     obtain ⟨n9, l9, rfl, h9⟩ := he
     exact ⟨rfl, ⟨⟨n9, l9, rfl, h9⟩, HD3.out.but.trans (But.of_below HB6.out), fun h => by cases h⟩⟩
    case pos =>
     have hlz : (k : Int) + (ck : Int) ≤ 1024 := by omega
     have HRL : Hid (declX (vs.take (i + 1)) (k + ck) (vs.drop (i + 1)) = r) := Lib.hid (by rw [← HRK.out, decide_eq_true hle, Bool.true_and])
     clear HRK
     go_wp2_with fail
     refine (need_any true 13 ln _ (by decide)).mono ?_
     rintro e w7 ⟨rfl, rfl⟩
     have HD7 := Lib.hid (HD3.out.below HB6.out)
     have HMG7 : Hid (∀ w', Below w7.heap.size w7 w' → w'.rangeAt V 0 M) := Lib.hid (fun w' hb => HMG.out _ (HB6.out.trans (hb.mono HB6.out.size)))
     clear x0 x7 lV6 lC
     go_wp2_with fail
     obtain ⟨csq, hownq, hcsq⟩ := HD7.out.own
     have HOWN := Lib.hid hownq
     have HCSQ := Lib.hid hcsq
     have hti : (vs.take i).length = i := by rw [List.length_take, HN.out]; omega
     rw [hti] at HOWN
     clear hownq hcsq
     have q0 := HD7.out.c0
     have lC := HD7.out.lt
     have hz7 := HD7.out.but.size
     have lV7 : V < w7.heap.size := (HVC.out _ HB6.out).2.2
     obtain ⟨a0, a1, a2, a3, a4, a5, a6, a7, rfl⟩ := list_8 M HML.out
     refine wp_region_held_drew (S := fun w' => But C w w' ∧ w'.rangeAt V 0 [a0, a1, a2, a3, a4, a5, a6, a7]) (by kernel_rfl) ?_ (fun hHeld => ?_)
     ·exact ⟨HD7.out.but.drew, HMG7.out _ ((Below.refl _ _).drew)⟩
     refine tT 0 ?_ rfl ?_ ?_; rotate_left; (focus intros; go_simp; try rfl)
     refine tT 1 ?_ rfl ?_ ?_; rotate_left; (focus intros; go_simp; try rfl)
     refine tT 2 ?_ rfl ?_ ?_; rotate_left; (focus intros; go_simp; try rfl); (try simp only [ly])
     refine tT 3 ?_ rfl ?_ ?_; rotate_left; (focus intros; go_simp; try rfl)
     (refine takeH (i := 5) (v := .agg [a0, a1, a2, a3, a4, a5, a6, a7].toArray) rfl (by kernel_rfl) (by kernel_rfl) (by kernel_rfl) (fun _ _ _ h => h) (yieldsIf_load_mid (by kernel_rfl) 47 _ rfl V 0 rfl [a0, a1, a2, a3, a4, a5, a6, a7] _ (fun _ hb => hb.2) Tryd.underlying47 rfl HMS.out) (by assumption) ?_; (try simp only [ly]))
     refine twoK (i := 4) (j := 6) (by kernel_rfl) rfl rfl (fun Kc hK => ?o1) (fun Kc hK => ?o2)
     case' o1 =>
      go_simp
      refine hK.out _ _ hHeld (fun hHeld => ?_)
      clear hK Kc
      (try simp only [ly])
      refine oneH (i := 6) (by kernel_rfl) rfl (fun Kc hK => ?_)
      go_simp
      refine hK.out _ (w7.drew.alloc (.cells #[a0, a1, a2, a3, a4, a5, a6, a7] 47)) ⟨hHeld.1.alloc _, HMG7.out _ (((Below.refl _ _).drew).alloc (Nat.le_refl _) _)⟩ (fun hHeld => ?_)
      clear hK Kc
      (try simp only [ly])
     case' o2 =>
      go_simp
      refine hK.out _ (w7.drew.alloc (.cells #[a0, a1, a2, a3, a4, a5, a6, a7] 47)) ⟨hHeld.1.alloc _, HMG7.out _ (((Below.refl _ _).drew).alloc (Nat.le_refl _) _)⟩ (fun hHeld => ?_)
      clear hK Kc
      (try simp only [ly])
      refine oneH (i := 4) (by kernel_rfl) rfl (fun Kc hK => ?_)
      go_simp
      refine hK.out _ _ hHeld (fun hHeld => ?_)
      clear hK Kc
      (try simp only [ly])
     all_goals
      refine oneH (i := 7) (by kernel_rfl) rfl (fun Kc hK => ?_)
      refine step_append_lies _ rfl (.tmp 36) (.tmp 38) 22 rfl w.heap.size 47 i0 (.agg #[.string ⟨#[]⟩, .int .i64 0, .int .i64 0, .bool false, .int .i64 0, .int .i64 0, .int .i64 0, .int .i64 0]) 8 72 Tryd.underlying22 HI.out HZ0.out HZ1.out HZ2.out rfl (by decide) (.slice Aq i cq) i csq rfl (HOWN.out.drew.alloc _) ⟨w7.heap.size, 0, none⟩ 1 1 [a0, a1, a2, a3, a4, a5, a6, a7] rfl ?c8 ?c4 ?c6 (by decide) ?c1 ?c2 ?c3 (w7.heap.size + 1) ?c5 ?_
      case c8 => rfl
      case c4 =>
       intro q u hu
       have had : (⟨w7.heap.size, 0, none⟩ : Addr).add q = ⟨w7.heap.size, q, none⟩ := by cases q <;> simp [Addr.add]
       rw [had]
       exact heap_cell q _ (heap_alloc_new w7.drew _) (by rw [List.getElem?_toArray]; exact hu)
      case c6 => intro u hu; exact (List.all_eq_true.1 (by simpa using HM1.out) u hu)
      case c1 => unfold maxLen; omega
      case c2 => omega
      case c3 => first | omega | (simp; omega)
      case c5 => simp
      intro g cap2 w8 hown8 hgrow hatg hg2
      have HB8 : Hid (Below w.heap.size w7 w8) := Lib.hid (below_grown (Below.alloc ((Below.refl _ _).drew) (by simp; omega) _) hgrow (HOWN.out.drew.alloc _) (Nat.le_refl _) (by simp; omega))
      have HBC : Hid (But C w w8) := Lib.hid (but_below HD7.out.but HB8.out)
      have HRV : Hid (w8.rangeAt V 0 [a0, a1, a2, a3, a4, a5, a6, a7]) := Lib.hid (fun jj u hu => by
       refine hgrow.cell (HMG7.out _ (((Below.refl _ _).drew).alloc (Nat.le_refl _) _) jj u hu) (fun e => ?_)
       have := HOV.out V e.symm
       omega)
      have HD8 : Hid (DV w (w8.setCell ⟨C, 0, none⟩ (.slice (some ⟨g, 0, none⟩) (i + 1) cap2)) C (vs.take i ++ [y]) (.slice (some ⟨g, 0, none⟩) (i + 1) cap2)) := Lib.hid (HD7.out.next HCW.out HB8.out hown8 (by rw [List.length_append, hti]; rfl) HCSQ.out HMY.out)
      have HTK : Hid (vs.take (i + 1) = vs.take i ++ [y]) := Lib.hid (by rw [List.take_add_one, HY.out]; rfl)
      have q8 : w8.cell? ⟨C, 0, none⟩ = some (.slice Aq i cq) := (HB8.out.cell (p := ⟨C, 0, none⟩) HCW.out).trans q0
      have f8 : w8.frozen? ⟨C, 0, none⟩ = false := (HB8.out.frozen (p := ⟨C, 0, none⟩) HCW.out).trans (HD7.out.fr 0)
      have l8 : C < w8.heap.size := Nat.lt_of_lt_of_le lC HB8.out.size
      have HS8 : Hid ((w8.setCell ⟨C, 0, none⟩ (.slice (some ⟨g, 0, none⟩) (i + 1) cap2)).rangeAt V 0 [a0, a1, a2, a3, a4, a5, a6, a7]) := Lib.hid (fun jj u hu => (((But.refl C w8).set 0 _).cell V _ (Nat.lt_of_lt_of_le lV7 HB8.out.size) HVN.out).trans (HRV.out jj u hu))
      clear hown8 hgrow hatg hg2
      refine hK.out _ _ ⟨HBC.out, HRV.out⟩ (fun hHeld => ?_)
      clear hK Kc
      (try simp only [ly])
      refine tT 8 ?_ rfl ?_ ?_; rotate_left; (focus intros; go_simp; try rfl)
      refine tT 9 ?_ rfl ?_ ?_; rotate_left; (focus intros; go_simp; try rfl); (try simp only [ly])
      refine oneH (i := 10) (by kernel_rfl) rfl (fun Kc hK => ?_)
      go_simp
      refine hK.out _ _ ⟨HBC.out.set 0 _, HS8.out⟩ (fun hHeld => ?_)
      clear hK Kc
      (try simp only [ly])
      refine wpAnyH_done (by kernel_rfl) ?_ _
      (try simp only [ly])
      clear q8 f8 l8 q0 lC
      go_wp2
      go_roundw
      case rel => exact ⟨i + 1, k + ck, _, by omega, hle, by go_num, by go_num, HRL, Lib.hid (by rw [HTK.out]; exact HD8.out)⟩
      case measure => simp [intOf]; omega
  ·obtain rfl : i = n := by omega
   obtain rfl : true = r := by rw [← HRI.out, List.drop_eq_nil_of_le (by rw [HN.out]; exact Nat.le_refl _), declX]
   obtain ⟨Aq, cq, rfl, hrq, hne⟩ := HD.out.own.row (by rw [List.length_take]; omega)
   have hti : vs.take i = vs := List.take_of_length_le (by rw [HN.out]; exact Nat.le_refl _)
   have HCK : Hid (∃ A cap, Ck wr C A cap vs 0) := Lib.hid (by
    have h0 := HD.out.c0
    rw [hti] at h0 hrq
    exact ⟨Aq, cq, ⟨HD.out.lt, h0, hrq⟩, HD.out.c1, HD.out.fr, fun b off hb => by have := hne b off hb; have := HCW.out; omega, by unfold I64; omega⟩)
   have HBU := Lib.hid HD.out.but
   clear hrq hne hti
   go_wp2
   refine bodyPost_end (v := .tuple #[]) ?_ rfl ⟨rfl, HBU.out, by first | exact HCK.out | exact fun _ => HCK.out⟩
   simp [results, Tryd.results18]


structure EL (w : World) (E L : Nat) (x y : Int) : Prop where
 c : w.cell? ⟨E, 0, none⟩ = some (.int .i64 x)
 d : w.cell? ⟨L, 0, none⟩ = some (.int .i64 y)
 f : w.frozen? ⟨E, 0, none⟩ = false
 g : w.frozen? ⟨L, 0, none⟩ = false
 ne : E ≠ L
 lE : E < w.heap.size
 lL : L < w.heap.size

theorem ta_fault (v : Value) (w : World) : Sem.run Tryd.prog (Instr.typeAssert (.iface 81 v) 20 81 true) w = .ok (.tuple #[v, .bool true]) w := by
 kernel_rfl

set_option maxRecDepth 100000 in
theorem caught_panic (E L : Nat) (x y n ln : Int) (older : List PanicEntry) (w : World) (h : EL w E L x y) :
  CallsD Tryd.prog 17 #[.pointer (some ⟨E, 0, none⟩), .pointer (some ⟨L, 0, none⟩)] (.panicking ({ v := .iface 81 (.agg #[.int .i64 n, .int .i64 ln]), recovered := false } :: older)) w fun e u' w' =>
   e = .returned (.tuple #[]) ∧ u' = .panicking ({ v := .iface 81 (.agg #[.int .i64 n, .int .i64 ln]), recovered := true } :: older) ∧ EL w' E L n ln ∧ ∀ B, B ≤ E → B ≤ L → B ≤ w.heap.size → Below B w w' := by
 have H := Lib.hid h
 obtain ⟨c, d, f, g, ne, lE, lL⟩ := h
 refine callsD_of_wpS Tryd.func17 rfl fun c₀ cs hu => ?_
 apply wpS_seq
 apply wpS_region
 simp [wpOpsS, go_sem, recoverD, hu, Tryd.ntmps17, Exit.thenS, Array.replicate, List.replicate]
 refine wpS_of_wp ?_
 refine wp_mono (Q := fun e a' w' => match e with | .normal => a'.defers = [] ∧ EL w' E L n ln ∧ ∀ B, B ≤ E → B ≤ L → B ≤ w.heap.size → Below B w w' | _ => False) ?_ (fun e a' w' hh => ?_)
 ·obtain ⟨Q, hQ⟩ : ∃ Q : Exit → Act → World → Prop, Q = (fun e a' w' => match e with | .normal => a'.defers = [] ∧ EL w' E L n ln ∧ ∀ B, B ≤ E → B ≤ L → B ≤ w.heap.size → Below B w w' | _ => False) := ⟨_, rfl⟩
  rw [← hQ]
  have HQ := Lib.hid hQ
  clear hQ
  have hta := ta_fault
  go_upto_region 5 with (fail)
  refine wp_name fun W hW => ?_
  obtain ⟨F, hF⟩ : ∃ F, F = w.heap.size := ⟨_, rfl⟩
  have f0 : W.cell? ⟨F, 0, none⟩ = some (.int .i64 n) := by rw [hW.out, hF]; go_simp
  have f1 : W.cell? ⟨F, 1, none⟩ = some (.int .i64 ln) := by rw [hW.out, hF]; go_simp
  have lF : F < W.heap.size := by rw [hW.out, hF]; simp
  have hB : Below w.heap.size w W := by rw [hW.out]; exact belowBy
  rw [← hF]
  have c' := (hB.cell (p := ⟨E, 0, none⟩) lE).trans c
  have d' := (hB.cell (p := ⟨L, 0, none⟩) lL).trans d
  have g1 := (hB.frozen (p := ⟨E, 0, none⟩) lE).trans f
  have g2 := (hB.frozen (p := ⟨L, 0, none⟩) lL).trans g
  have lE' : E < W.heap.size := Nat.lt_of_lt_of_le lE hB.size
  have lL' : L < W.heap.size := Nat.lt_of_lt_of_le lL hB.size
  have nE : F ≠ E := by omega
  have nL : F ≠ L := by omega
  have nE' : E ≠ F := by omega
  have nL' : L ≠ F := by omega
  have ne' : L ≠ E := fun e => ne e.symm
  have HB := Lib.hid hB
  have HLE := Lib.hid (show E < w.heap.size ∧ L < w.heap.size from ⟨lE, lL⟩)
  have s2 : (W.setCell ⟨E, 0, none⟩ (.int .i64 n)).cell? ⟨L, 0, none⟩ = some (.int .i64 y) := (World.cell?_setCell_other _ _ _ _ (fun e => by injection e with e1 e2 e3; exact absurd e1 (by omega))).trans d'
  clear hW hB hF c d f g lE lL
  rw [HQ.out]
  refine wp_region_held_drew (S := fun w' => w'.cell? ⟨F, 0, none⟩ = some (.int .i64 n) ∧ w'.cell? ⟨F, 1, none⟩ = some (.int .i64 ln)) (by kernel_rfl) ?_ (fun hHeld => ?_)
  ·exact ⟨f0, f1⟩
  (refine tT 0 ?_ rfl ?_ ?_; rotate_left; (focus (intro w' hSw; (try dsimp only at hSw); go_simp; try (with_reducible rfl))))
  (refine tT 1 ?_ rfl ?_ ?_; rotate_left; (focus (intro w' hSw; (try dsimp only at hSw); go_simp; try (with_reducible rfl))))
  (refine tT 2 ?_ rfl ?_ ?_; rotate_left; (focus (intro w' hSw; (try dsimp only at hSw); go_simp; try (with_reducible rfl))); (try simp only [ly]))
  (refine tT 3 ?_ rfl ?_ ?_; rotate_left; (focus (intro w' hSw; (try dsimp only at hSw); (have q := hSw.1); go_simp; try (with_reducible rfl))))
  (refine tT 4 ?_ rfl ?_ ?_; rotate_left; (focus (intro w' hSw; (try dsimp only at hSw); go_simp; try (with_reducible rfl))))
  (refine tT 5 ?_ rfl ?_ ?_; rotate_left; (focus (intro w' hSw; (try dsimp only at hSw); (have q := hSw.2); go_simp; try (with_reducible rfl))); (try simp only [ly]))
  (refine tT 6 ?_ rfl ?_ ?_; rotate_left; (focus (intro w' hSw; (try dsimp only at hSw); go_simp; try (with_reducible rfl))); (try simp only [ly]))
  refine oneH (i := 7) (by kernel_rfl) rfl (fun Kc hK => ?_)
  go_simp
  refine hK.out _ _ ⟨?s0, ?s1⟩ (fun hHeld => ?_)
  case s0 => go_simp
  case s1 => go_simp
  clear hK Kc
  (try simp only [ly])
  (refine tT 8 ?_ rfl ?_ ?_; rotate_left; (focus (intro w' hSw; (try dsimp only at hSw); go_simp; try (with_reducible rfl))); (try simp only [ly]))
  refine oneH (i := 9) (by kernel_rfl) rfl (fun Kc hK => ?_)
  go_simp
  refine hK.out _ _ ⟨?s2, ?s3⟩ (fun hHeld => ?_)
  case s2 => go_simp
  case s3 => go_simp
  clear hK Kc
  (try simp only [ly])
  refine wpAnyH_done (by kernel_rfl) ?_ _
  (try simp only [ly])
  have hle := HLE.out
  have hb := HB.out
  refine ⟨by trivial, ⟨?_, ?_, ?_, ?_, ne, ?_, ?_⟩, fun B h1 h2 h3 => ?_⟩
  ·go_simp
  ·go_simp
  ·go_simp
  ·go_simp
  ·go_simp
  ·go_simp
  ·have hb3 := hb.mono h3
   clear f0 f1 c' d' g1 g2 s2
   exact belowBy
 ·cases e with
  | normal =>
   obtain ⟨h1, h2, h3⟩ := hh
   simp [bodyPostS, results, Tryd.results17, h1]
   exact ⟨h2, h3⟩
  | _ => exact hh.elim

set_option maxRecDepth 100000 in
theorem caught_idle (p q : Addr) (w : World) :
  CallsD Tryd.prog 17 #[.pointer (some p), .pointer (some q)] .returning w fun e u' w' => e = .returned (.tuple #[]) ∧ u' = .returning ∧ w' = w := by
 refine callsD_of_wpS Tryd.func17 rfl fun c₀ cs hu => ?_
 apply wpS_seq
 apply wpS_region
 simp [wpOpsS, go_sem, recoverD, hu, Tryd.ntmps17, Exit.thenS, Array.replicate, List.replicate]
 refine wpS_of_wp ?_
 refine wp_mono (Q := fun e a' w' => match e with | .normal => a'.defers = [] ∧ w' = w | _ => False) ?_ (fun e a' w' hh => ?_)
 ·obtain ⟨Q, hQ⟩ : ∃ Q : Exit → Act → World → Prop, Q = (fun e a' w' => match e with | .normal => a'.defers = [] ∧ w' = w | _ => False) := ⟨_, rfl⟩
  rw [← hQ]
  have HQ := Lib.hid hQ
  clear hQ
  go_wp2
  rw [HQ.out]
  exact ⟨rfl, rfl⟩
 ·cases e with
  | normal =>
   obtain ⟨h1, rfl⟩ := hh
   cases c₀
   simp_all [bodyPostS, results, Tryd.results17]
  | _ => exact hh.elim
theorem EL.but {w w' : World} {E L C : Nat} {x y : Int} (h : EL w E L x y) (hb : But C w w') (hE : E ≠ C) (hL : L ≠ C) : EL w' E L x y :=
 ⟨(hb.cell E 0 h.lE hE).trans h.c, (hb.cell L 0 h.lL hL).trans h.d, (hb.froz E 0 h.lE hE).trans h.f, (hb.froz L 0 h.lL hL).trans h.g, h.ne, Nat.lt_of_lt_of_le h.lE hb.size, Nat.lt_of_lt_of_le h.lL hb.size⟩
theorem EL.below {w w' : World} {E L : Nat} {x y : Int} (h : EL w E L x y) (hb : Below w.heap.size w w') : EL w' E L x y :=
 ⟨(hb.cell (p := ⟨E, 0, none⟩) h.lE).trans h.c, (hb.cell (p := ⟨L, 0, none⟩) h.lL).trans h.d, (hb.frozen (p := ⟨E, 0, none⟩) h.lE).trans h.f, (hb.frozen (p := ⟨L, 0, none⟩) h.lL).trans h.g, h.ne, Nat.lt_of_lt_of_le h.lE hb.size, Nat.lt_of_lt_of_le h.lL hb.size⟩

end Go.Proofs.YtahjijdadifkaaaDoor
