/- Merged: Do expressions fit? PRINTED by wip/tool/mkfite.py The shape of a statement's kind; is an expression none? Statements that fit: what is known of them; an expression that is none. A program that fits: what is known of it. -/
import Derived.Test.YtahjijdadifkaaaDoorTreeH
import Derived.Test.YtahjijdadifkaaaDoorM02
import Derived.Test.YtahjijdadifkaaaDoorM05
set_option linter.unusedVariables false
set_option linter.unusedSimpArgs false
set_option maxHeartbeats 16000000
namespace Go.Proofs.YtahjijdadifkaaaDoor
open Go.RowKit
attribute [local go_sem] ite_max ite_min vite_max vite_min ext_cell ext_frozen

structure EV (w : World) (H : Nat) (x : Ex) (A : Option Addr) (k : Nat) : Prop where
 lt : H < w.heap.size
 cell : ∀ j u, (ExC x A k)[j]? = some u → w.cell? ⟨H, j, none⟩ = some u
 sub : RowE w A x.sub k
 ats : ExAt w x (ExC x A k)
theorem EV.below {w w' : World} {H : Nat} {x : Ex} {A : Option Addr} {k : Nat} (h : EV w H x A k) (hb : Below w.heap.size w w') : EV w' H x A k :=
 ⟨Nat.lt_of_lt_of_le h.lt hb.size, fun j u hu => (hb.cell (p := ⟨H, j, none⟩) h.lt).trans (h.cell j u hu), h.sub.below hb, h.ats.keep hb⟩
theorem RowE.at {w : World} {A : Option Addr} {xs : List Ex} {cap : Nat} (h : RowE w A xs cap) {i : Nat} (hi : i < xs.length) : ∃ b off x As ks, A = some ⟨b, off, none⟩ ∧ b < w.heap.size ∧ xs[i]? = some x ∧ ExAt w x (ExC x As ks) ∧ RowE w As x.sub ks ∧ w.rangeAt b (off + i * 6) (ExC x As ks) := by
 obtain ⟨b, off, x, cs, hA, hb, hx, hat, hcell⟩ := RowOf.at h hi
 obtain ⟨As, ks, rfl, hsub, h1, h2, h3⟩ := hat.form
 refine ⟨b, off, x, As, ks, hA, hb, hx, hat, hsub, fun j v hv => ?_⟩
 have hj : j < 6 := (List.getElem?_eq_some_iff.1 hv).1
 rw [hcell j hj]
 exact hv
theorem EV.mk0 {w W : World} {H : Nat} {x : Ex} {A : Option Addr} {k : Nat} {T : TypeId} (h : ExAt w x (ExC x A k)) (hs : RowE w A x.sub k) (hb : Below w.heap.size w W) (hH : W.heap[H]? = some (.cells (ExC x A k).toArray T)) : EV W H x A k :=
 ⟨(Array.getElem?_eq_some_iff.1 hH).1, fun j u hu => heap_cell j _ hH (by rw [List.getElem?_toArray]; exact hu), hs.below hb, h.keep hb⟩
theorem exC_one (x : Ex) (A : Option Addr) (k : Nat) : (ExC x A k).toArray.all (·.oneCell') = true := by
 simp [ExC, Value.oneCell']
theorem expr_size : (Tryd.prog.info? 28).map (·.size) = some 6 := by kernel_rfl

theorem loop_len (bs : ByteArray) : ∀ (n i : Nat) (r : List UInt8), bs.size - i = n → (ByteArray.toList.loop bs i r).length = n + r.length := by
 intro n
 induction n with
 | zero =>
  intro i r h
  unfold ByteArray.toList.loop
  rw [if_neg (by omega)]
  simp
 | succ n ih =>
  intro i r h
  unfold ByteArray.toList.loop
  rw [if_pos (by omega), ih _ _ (by omega)]
  simp
  omega
theorem toList_len (bs : ByteArray) : bs.toList.length = bs.size := by
 have := loop_len bs bs.size 0 [] (by omega)
 simpa [ByteArray.toList] using this
theorem empty_le {bs : ByteArray} (h : bs.toList = []) : bs.size ≤ 16 := by
 have := toList_len bs
 rw [h] at this
 simp at this
 omega
def subsN (op : Int) : Nat := if op = 4 ∨ op = 6 ∨ op = 7 then 1 else if 7 < op then 2 else 0
structure FitX (x : Ex) : Prop where
 lo : 1 ≤ x.op
 hi : x.op ≤ 21
 subs : x.sub.length = subsN x.op
 num : x.op = 1 → 0 ≤ x.n
 truth : x.op = 2 → 0 ≤ x.n ∧ x.n ≤ 1
 zero : 2 < x.op → x.n = 0
 nm : x.name.size ≤ 16
 fd : x.field.size ≤ 16
inductive FitE : Ex → Prop where
 | mk (x : Ex) (h : FitX x) (hr : ∀ y, y ∈ x.sub → FitE y) : FitE x
def BoolIf (p : Prop) (e : Ending) : Prop := ∃ b : Bool, e = .returned (.bool b) ∧ (b = true → p)

set_option maxRecDepth 100000 in
theorem fitExprs_any : ∀ (k : Nat) (xs : List Ex), SizeOf.sizeOf xs < k → ∀ (w : World) (A : Option Addr) (cap : Nat), RowE w A xs cap → Calls Tryd.prog 33 #[.slice A xs.length cap] w fun e w' => BoolIf (∀ x ∈ xs, FitE x) e ∧ Below w.heap.size w w' := by
 intro k
 induction k with
 | zero => intro xs h; omega
 | succ k ih =>
  intro xs hsz w A cap hrow
  have HIH := Lib.hid ih
  have HR := Lib.hid hrow
  have hl := hrow.1
  have hc := hrow.2.1
  obtain ⟨n, hn⟩ : ∃ n, xs.length = n := ⟨_, rfl⟩
  rw [hn] at hl ⊢
  have HN := Lib.hid hn
  clear ih hrow hn
  go_enter Tryd.func33, Tryd.ntmps33
  go_wp2_with fail
  go_loopw [3] (fun vi wr => ∃ (i : Nat), i ≤ n ∧ vi = .int .i64 i ∧ Hid (∀ j x, j < i → xs[j]? = some x → FitE x) ∧ Below w.heap.size w wr) (fun vi _ => n - (intOf vi).toNat)
  case atStart => exact ⟨0, by omega, rfl, Lib.hid (fun j x hj => by omega), Below.refl _ _⟩
  case round =>
   obtain ⟨i, hi, rfl, HFI, hbr⟩ := hrel
   by_cases hlt : i < n
   ·obtain ⟨bb, off, x, As, ks, rfl, hbl, hx, hat, hsub, hrng⟩ := RowE.at (HR.out.below hbr) (i := i) (by rw [HN.out]; exact hlt)
    have hi0 : (0 : Int) ≤ (i : Int) ∧ (i : Int) < (n : Int) := by omega
    have HX := Lib.hid hx
    have HRG := Lib.hid hrng
    have HAT := Lib.hid hat
    have HSB := Lib.hid hsub
    clear hx hrng hat hsub
    go_upto_region 5 with (first
     | refine wpList_load_mid rfl 28 _ rfl bb (off + i * 6) rfl (ExC x As ks) _ HRG.out Tryd.underlying28 rfl expr_size ?_
     | refine wpList_store_new rfl 28 _ _ rfl wr _ (ExC x As ks).toArray rfl rfl rfl expr_size rfl (exC_one x As ks) ?_)
    refine wp_name fun W hW => ?_
    obtain ⟨H, hH⟩ : ∃ H, H = wr.heap.size := ⟨_, rfl⟩
    rw [← hH]
    have hB : Below wr.heap.size wr W := by rw [hW.out]; exact belowBy
    have hh : W.heap[H]? = some (.cells (ExC x As ks).toArray 28) := by rw [hW.out, hH]; exact heap_alloc_new _ _
    have HV := Lib.hid (EV.mk0 HAT.out HSB.out hB hh)
    have HB := Lib.hid (hbr.trans (hB.mono hbr.size))
    have hHl : H < W.heap.size := HV.out.lt
    have hWs := HB.out.size
    obtain ⟨op, hop⟩ : ∃ op, x.op = op := ⟨_, rfl⟩
    obtain ⟨nn, hnn⟩ : ∃ nn, x.n = nn := ⟨_, rfl⟩
    have HOP := Lib.hid hop
    have HNN := Lib.hid hnn
    have d0 : W.cell? ⟨H, 0, none⟩ = some (.int .i64 op) := by rw [← hop]; exact HV.out.cell 0 _ rfl
    have d1 : W.cell? ⟨H, 1, none⟩ = some (.int .i64 nn) := by rw [← hnn]; exact HV.out.cell 1 _ rfl
    have d2 : W.cell? ⟨H, 2, none⟩ = some (.string x.name) := HV.out.cell 2 _ rfl
    have d3 : W.cell? ⟨H, 3, none⟩ = some (.string x.field) := HV.out.cell 3 _ rfl
    have d4 : W.cell? ⟨H, 4, none⟩ = some (.slice As x.sub.length ks) := HV.out.cell 4 _ rfl
    clear hW hB hh hH hbr HAT HSB HRG hop hnn
    have hno : ∀ {W' : World} {Q : Prop}, True → True := fun _ => trivial
    clear hno
    by_cases hlo : op < 1
    ·have t1 : ¬ op = 1 := by omega
     have t2 : ¬ op = 2 := by omega
     have t3 : ¬ 2 < op := by omega
     have u1 : (op == 1) = false := by simp; omega
     have u2 : (op == 2) = false := by simp; omega
     go_wp2
     go_ret
     exact ⟨⟨_, rfl, fun h => by cases h⟩, HB.out⟩
    ·by_cases hhi : 21 < op
     ·have t1 : ¬ op = 1 := by omega
      have t2 : ¬ op = 2 := by omega
      have t3 : 2 < op := by omega
      have u1 : (op == 1) = false := by simp; omega
      have u2 : (op == 2) = false := by simp; omega
      by_cases hz : nn = 0
      ·have hzB : (nn == 0) = true := by simp; omega
       go_wp2
       go_ret
       exact ⟨⟨_, rfl, fun h => by cases h⟩, HB.out⟩
      ·have hzB : (nn == 0) = false := by simp; omega
       go_wp2
       go_ret
       exact ⟨⟨_, rfl, fun h => by cases h⟩, HB.out⟩
     ·rcases (show op = 1 ∨ op = 2 ∨ 2 < op by omega) with hop | hop | hop
      ·subst hop
       by_cases hneg : nn < 0
       ·go_wp2
        go_ret
        exact ⟨⟨_, rfl, fun h => by cases h⟩, HB.out⟩
       ·as_aux_lemma =>
         by_cases hs : x.sub.length = 0
         ·have HSL := Lib.hid hs
          have hIH0 := fun w' h => HIH.out x.sub (by have := sub_lt HX.out; omega) w' As ks h
          have hsE : x.sub = [] := List.eq_nil_of_length_eq_zero hs
          simp only [hsE, List.length_nil] at hIH0
          have HI0 := Lib.hid hIH0
          clear hIH0
          by_cases hq : x.name.toList = []
          ·have HNMn := Lib.hid (empty_le hq)
           by_cases hq2 : x.field.toList = []
           ·have HNMf := Lib.hid (empty_le hq2)
            go_wp2_with fail
            refine (HI0.out _ (by have h := HV.out.sub; rw [hsE] at h; exact h)).mono ?_
            rintro e w9 ⟨⟨b, rfl, hfit⟩, hb9⟩
            have HFIT := Lib.hid hfit
            have HB9 := Lib.hid (HB.out.trans (hb9.mono HB.out.size))
            clear hfit hb9
            cases b
            ·go_wp2
             go_ret
             exact ⟨⟨_, rfl, fun h => by cases h⟩, HB9.out⟩
            ·go_wp2
             go_roundw
             case rel =>
              refine ⟨i + 1, by omega, by go_num, Lib.hid (fun j y hj hy => ?_), HB9.out⟩
              rcases Nat.lt_succ_iff_lt_or_eq.1 hj with h | rfl
              ·exact HFI.out j y h hy
              ·rw [HX.out] at hy
               cases hy
               refine .mk x ⟨by rw [HOP.out]; omega, by rw [HOP.out]; omega, by rw [HSL.out, HOP.out] <;> rfl, fun h => ?_, fun h => ?_, fun h => ?_, HNMn.out, HNMf.out⟩ (fun y hy => HFIT.out (by trivial) y (by rw [hsE] at hy; exact hy))
               ·have e1 := HOP.out; have e2 := HNN.out; omega
               ·have e1 := HOP.out; have e2 := HNN.out; omega
               ·have e1 := HOP.out; have e2 := HNN.out; omega
             case measure => simp [intOf]; omega
           ·go_wp2
            go_ret
            exact ⟨⟨_, rfl, fun h => by cases h⟩, HB.out⟩
          ·go_wp2
           go_ret
           exact ⟨⟨_, rfl, fun h => by cases h⟩, HB.out⟩
         ·have hsE : ¬ x.sub = [] := fun h => hs (by rw [h]; rfl)
          go_wp2
          go_ret
          exact ⟨⟨_, rfl, fun h => by cases h⟩, HB.out⟩
      ·subst hop
       by_cases hneg : nn < 0
       ·go_wp2
        go_ret
        exact ⟨⟨_, rfl, fun h => by cases h⟩, HB.out⟩
       ·by_cases hbig : 1 < nn
        ·go_wp2
         go_ret
         exact ⟨⟨_, rfl, fun h => by cases h⟩, HB.out⟩
        ·as_aux_lemma =>
          by_cases hs : x.sub.length = 0
          ·have HSL := Lib.hid hs
           have hIH0 := fun w' h => HIH.out x.sub (by have := sub_lt HX.out; omega) w' As ks h
           have hsE : x.sub = [] := List.eq_nil_of_length_eq_zero hs
           simp only [hsE, List.length_nil] at hIH0
           have HI0 := Lib.hid hIH0
           clear hIH0
           by_cases hq : x.name.toList = []
           ·have HNMn := Lib.hid (empty_le hq)
            by_cases hq2 : x.field.toList = []
            ·have HNMf := Lib.hid (empty_le hq2)
             go_wp2_with fail
             refine (HI0.out _ (by have h := HV.out.sub; rw [hsE] at h; exact h)).mono ?_
             rintro e w9 ⟨⟨b, rfl, hfit⟩, hb9⟩
             have HFIT := Lib.hid hfit
             have HB9 := Lib.hid (HB.out.trans (hb9.mono HB.out.size))
             clear hfit hb9
             cases b
             ·go_wp2
              go_ret
              exact ⟨⟨_, rfl, fun h => by cases h⟩, HB9.out⟩
             ·go_wp2
              go_roundw
              case rel =>
               refine ⟨i + 1, by omega, by go_num, Lib.hid (fun j y hj hy => ?_), HB9.out⟩
               rcases Nat.lt_succ_iff_lt_or_eq.1 hj with h | rfl
               ·exact HFI.out j y h hy
               ·rw [HX.out] at hy
                cases hy
                refine .mk x ⟨by rw [HOP.out]; omega, by rw [HOP.out]; omega, by rw [HSL.out, HOP.out] <;> rfl, fun h => ?_, fun h => ?_, fun h => ?_, HNMn.out, HNMf.out⟩ (fun y hy => HFIT.out (by trivial) y (by rw [hsE] at hy; exact hy))
                ·have e1 := HOP.out; have e2 := HNN.out; omega
                ·have e1 := HOP.out; have e2 := HNN.out; omega
                ·have e1 := HOP.out; have e2 := HNN.out; omega
              case measure => simp [intOf]; omega
            ·go_wp2
             go_ret
             exact ⟨⟨_, rfl, fun h => by cases h⟩, HB.out⟩
           ·go_wp2
            go_ret
            exact ⟨⟨_, rfl, fun h => by cases h⟩, HB.out⟩
          ·have hsE : ¬ x.sub = [] := fun h => hs (by rw [h]; rfl)
           go_wp2
           go_ret
           exact ⟨⟨_, rfl, fun h => by cases h⟩, HB.out⟩
      ·by_cases hz : nn = 0
       ·obtain rfl := hz
        rcases (show op = 3 ∨ op = 4 ∨ op = 5 ∨ op = 6 ∨ op = 7 ∨ 7 < op by omega) with rfl | rfl | rfl | rfl | rfl | hbig
        ·as_aux_lemma =>
          by_cases hs : x.sub.length = 0
          ·have HSL := Lib.hid hs
           have hIH0 := fun w' h => HIH.out x.sub (by have := sub_lt HX.out; omega) w' As ks h
           have hsE : x.sub = [] := List.eq_nil_of_length_eq_zero hs
           simp only [hsE, List.length_nil] at hIH0
           have HI0 := Lib.hid hIH0
           clear hIH0
           go_wp2_with fail
           refine (name19_any x.name _).mono ?_
           rintro e wn ⟨⟨b, rfl, hnmn⟩, hbn⟩
           have HVn := Lib.hid (HV.out.below hbn)
           have HBn := Lib.hid (HB.out.trans (hbn.mono HB.out.size))
           have hHln : H < wn.heap.size := HVn.out.lt
           have HNMn := Lib.hid hnmn
           clear hnmn hbn d2 d3 d4
           try clear d0 d1
           have d2 : wn.cell? ⟨H, 2, none⟩ = some (.string x.name) := HVn.out.cell 2 _ rfl
           have d3 : wn.cell? ⟨H, 3, none⟩ = some (.string x.field) := HVn.out.cell 3 _ rfl
           have d4 : wn.cell? ⟨H, 4, none⟩ = some (.slice As x.sub.length ks) := HVn.out.cell 4 _ rfl
           cases b
           ·go_wp2
            go_ret
            exact ⟨⟨_, rfl, fun h => by cases h⟩, HBn.out⟩
           ·by_cases hq2 : x.field.toList = []
            ·have HNMf := Lib.hid (empty_le hq2)
             go_wp2_with fail
             refine (HI0.out _ (by have h := HVn.out.sub; rw [hsE] at h; exact h)).mono ?_
             rintro e w9 ⟨⟨b, rfl, hfit⟩, hb9⟩
             have HFIT := Lib.hid hfit
             have HB9 := Lib.hid (HBn.out.trans (hb9.mono HBn.out.size))
             clear hfit hb9
             cases b
             ·go_wp2
              go_ret
              exact ⟨⟨_, rfl, fun h => by cases h⟩, HB9.out⟩
             ·go_wp2
              go_roundw
              case rel =>
               refine ⟨i + 1, by omega, by go_num, Lib.hid (fun j y hj hy => ?_), HB9.out⟩
               rcases Nat.lt_succ_iff_lt_or_eq.1 hj with h | rfl
               ·exact HFI.out j y h hy
               ·rw [HX.out] at hy
                cases hy
                refine .mk x ⟨by rw [HOP.out]; omega, by rw [HOP.out]; omega, by rw [HSL.out, HOP.out] <;> rfl, fun h => ?_, fun h => ?_, fun h => ?_, (HNMn.out (by trivial)).2, HNMf.out⟩ (fun y hy => HFIT.out (by trivial) y (by rw [hsE] at hy; exact hy))
                ·have e1 := HOP.out; have e2 := HNN.out; omega
                ·have e1 := HOP.out; have e2 := HNN.out; omega
                ·have e1 := HOP.out; have e2 := HNN.out; omega
              case measure => simp [intOf]; omega
            ·go_wp2
             go_ret
             exact ⟨⟨_, rfl, fun h => by cases h⟩, HBn.out⟩
          ·have hsE : ¬ x.sub = [] := fun h => hs (by rw [h]; rfl)
           go_wp2
           go_ret
           exact ⟨⟨_, rfl, fun h => by cases h⟩, HB.out⟩
        ·as_aux_lemma =>
          by_cases hs : x.sub.length = 1
          ·have HSL := Lib.hid hs
           have hIH0 := fun w' h => HIH.out x.sub (by have := sub_lt HX.out; omega) w' As ks h
           have hsI : (x.sub.length : Int) = 1 := by omega
           simp only [hs] at hIH0
           have HI0 := Lib.hid hIH0
           clear hIH0
           go_wp2_with fail
           refine (name19_any x.name _).mono ?_
           rintro e wn ⟨⟨b, rfl, hnmn⟩, hbn⟩
           have HVn := Lib.hid (HV.out.below hbn)
           have HBn := Lib.hid (HB.out.trans (hbn.mono HB.out.size))
           have hHln : H < wn.heap.size := HVn.out.lt
           have HNMn := Lib.hid hnmn
           clear hnmn hbn d2 d3 d4
           try clear d0 d1
           have d2 : wn.cell? ⟨H, 2, none⟩ = some (.string x.name) := HVn.out.cell 2 _ rfl
           have d3 : wn.cell? ⟨H, 3, none⟩ = some (.string x.field) := HVn.out.cell 3 _ rfl
           have d4 : wn.cell? ⟨H, 4, none⟩ = some (.slice As x.sub.length ks) := HVn.out.cell 4 _ rfl
           cases b
           ·go_wp2
            go_ret
            exact ⟨⟨_, rfl, fun h => by cases h⟩, HBn.out⟩
           ·by_cases hq2 : x.field.toList = []
            ·have HNMf := Lib.hid (empty_le hq2)
             go_wp2_with fail
             refine (HI0.out _ HVn.out.sub).mono ?_
             rintro e w9 ⟨⟨b, rfl, hfit⟩, hb9⟩
             have HFIT := Lib.hid hfit
             have HB9 := Lib.hid (HBn.out.trans (hb9.mono HBn.out.size))
             clear hfit hb9
             cases b
             ·go_wp2
              go_ret
              exact ⟨⟨_, rfl, fun h => by cases h⟩, HB9.out⟩
             ·go_wp2
              go_roundw
              case rel =>
               refine ⟨i + 1, by omega, by go_num, Lib.hid (fun j y hj hy => ?_), HB9.out⟩
               rcases Nat.lt_succ_iff_lt_or_eq.1 hj with h | rfl
               ·exact HFI.out j y h hy
               ·rw [HX.out] at hy
                cases hy
                refine .mk x ⟨by rw [HOP.out]; omega, by rw [HOP.out]; omega, by rw [HSL.out, HOP.out] <;> rfl, fun h => ?_, fun h => ?_, fun h => ?_, (HNMn.out (by trivial)).2, HNMf.out⟩ (fun y hy => HFIT.out (by trivial) y hy)
                ·have e1 := HOP.out; have e2 := HNN.out; omega
                ·have e1 := HOP.out; have e2 := HNN.out; omega
                ·have e1 := HOP.out; have e2 := HNN.out; omega
              case measure => simp [intOf]; omega
            ·go_wp2
             go_ret
             exact ⟨⟨_, rfl, fun h => by cases h⟩, HBn.out⟩
          ·have hsI : ¬ (x.sub.length : Int) = 1 := by omega
           go_wp2
           go_ret
           exact ⟨⟨_, rfl, fun h => by cases h⟩, HB.out⟩
        ·as_aux_lemma =>
          by_cases hs : x.sub.length = 0
          ·have HSL := Lib.hid hs
           have hIH0 := fun w' h => HIH.out x.sub (by have := sub_lt HX.out; omega) w' As ks h
           have hsE : x.sub = [] := List.eq_nil_of_length_eq_zero hs
           simp only [hsE, List.length_nil] at hIH0
           have HI0 := Lib.hid hIH0
           clear hIH0
           go_wp2_with fail
           refine (name19_any x.name _).mono ?_
           rintro e wn ⟨⟨b, rfl, hnmn⟩, hbn⟩
           have HVn := Lib.hid (HV.out.below hbn)
           have HBn := Lib.hid (HB.out.trans (hbn.mono HB.out.size))
           have hHln : H < wn.heap.size := HVn.out.lt
           have HNMn := Lib.hid hnmn
           clear hnmn hbn d2 d3 d4
           try clear d0 d1
           have d2 : wn.cell? ⟨H, 2, none⟩ = some (.string x.name) := HVn.out.cell 2 _ rfl
           have d3 : wn.cell? ⟨H, 3, none⟩ = some (.string x.field) := HVn.out.cell 3 _ rfl
           have d4 : wn.cell? ⟨H, 4, none⟩ = some (.slice As x.sub.length ks) := HVn.out.cell 4 _ rfl
           cases b
           ·go_wp2
            go_ret
            exact ⟨⟨_, rfl, fun h => by cases h⟩, HBn.out⟩
           ·go_wp2_with fail
            refine (name19_any x.field _).mono ?_
            rintro e wf ⟨⟨b, rfl, hnmf⟩, hbf⟩
            have HVf := Lib.hid (HVn.out.below hbf)
            have HBf := Lib.hid (HBn.out.trans (hbf.mono HBn.out.size))
            have hHlf : H < wf.heap.size := HVf.out.lt
            have HNMf := Lib.hid hnmf
            clear hnmf hbf d2 d3 d4
            try clear d0 d1
            have d2 : wf.cell? ⟨H, 2, none⟩ = some (.string x.name) := HVf.out.cell 2 _ rfl
            have d3 : wf.cell? ⟨H, 3, none⟩ = some (.string x.field) := HVf.out.cell 3 _ rfl
            have d4 : wf.cell? ⟨H, 4, none⟩ = some (.slice As x.sub.length ks) := HVf.out.cell 4 _ rfl
            cases b
            ·go_wp2
             go_ret
             exact ⟨⟨_, rfl, fun h => by cases h⟩, HBf.out⟩
            ·go_wp2_with fail
             refine (HI0.out _ (by have h := HVf.out.sub; rw [hsE] at h; exact h)).mono ?_
             rintro e w9 ⟨⟨b, rfl, hfit⟩, hb9⟩
             have HFIT := Lib.hid hfit
             have HB9 := Lib.hid (HBf.out.trans (hb9.mono HBf.out.size))
             clear hfit hb9
             cases b
             ·go_wp2
              go_ret
              exact ⟨⟨_, rfl, fun h => by cases h⟩, HB9.out⟩
             ·go_wp2
              go_roundw
              case rel =>
               refine ⟨i + 1, by omega, by go_num, Lib.hid (fun j y hj hy => ?_), HB9.out⟩
               rcases Nat.lt_succ_iff_lt_or_eq.1 hj with h | rfl
               ·exact HFI.out j y h hy
               ·rw [HX.out] at hy
                cases hy
                refine .mk x ⟨by rw [HOP.out]; omega, by rw [HOP.out]; omega, by rw [HSL.out, HOP.out] <;> rfl, fun h => ?_, fun h => ?_, fun h => ?_, (HNMn.out (by trivial)).2, (HNMf.out (by trivial)).2⟩ (fun y hy => HFIT.out (by trivial) y (by rw [hsE] at hy; exact hy))
                ·have e1 := HOP.out; have e2 := HNN.out; omega
                ·have e1 := HOP.out; have e2 := HNN.out; omega
                ·have e1 := HOP.out; have e2 := HNN.out; omega
              case measure => simp [intOf]; omega
          ·have hsE : ¬ x.sub = [] := fun h => hs (by rw [h]; rfl)
           go_wp2
           go_ret
           exact ⟨⟨_, rfl, fun h => by cases h⟩, HB.out⟩
        ·as_aux_lemma =>
          by_cases hs : x.sub.length = 1
          ·have HSL := Lib.hid hs
           have hIH0 := fun w' h => HIH.out x.sub (by have := sub_lt HX.out; omega) w' As ks h
           have hsI : (x.sub.length : Int) = 1 := by omega
           simp only [hs] at hIH0
           have HI0 := Lib.hid hIH0
           clear hIH0
           by_cases hq : x.name.toList = []
           ·have HNMn := Lib.hid (empty_le hq)
            by_cases hq2 : x.field.toList = []
            ·have HNMf := Lib.hid (empty_le hq2)
             go_wp2_with fail
             refine (HI0.out _ HV.out.sub).mono ?_
             rintro e w9 ⟨⟨b, rfl, hfit⟩, hb9⟩
             have HFIT := Lib.hid hfit
             have HB9 := Lib.hid (HB.out.trans (hb9.mono HB.out.size))
             clear hfit hb9
             cases b
             ·go_wp2
              go_ret
              exact ⟨⟨_, rfl, fun h => by cases h⟩, HB9.out⟩
             ·go_wp2
              go_roundw
              case rel =>
               refine ⟨i + 1, by omega, by go_num, Lib.hid (fun j y hj hy => ?_), HB9.out⟩
               rcases Nat.lt_succ_iff_lt_or_eq.1 hj with h | rfl
               ·exact HFI.out j y h hy
               ·rw [HX.out] at hy
                cases hy
                refine .mk x ⟨by rw [HOP.out]; omega, by rw [HOP.out]; omega, by rw [HSL.out, HOP.out] <;> rfl, fun h => ?_, fun h => ?_, fun h => ?_, HNMn.out, HNMf.out⟩ (fun y hy => HFIT.out (by trivial) y hy)
                ·have e1 := HOP.out; have e2 := HNN.out; omega
                ·have e1 := HOP.out; have e2 := HNN.out; omega
                ·have e1 := HOP.out; have e2 := HNN.out; omega
              case measure => simp [intOf]; omega
            ·go_wp2
             go_ret
             exact ⟨⟨_, rfl, fun h => by cases h⟩, HB.out⟩
           ·go_wp2
            go_ret
            exact ⟨⟨_, rfl, fun h => by cases h⟩, HB.out⟩
          ·have hsI : ¬ (x.sub.length : Int) = 1 := by omega
           go_wp2
           go_ret
           exact ⟨⟨_, rfl, fun h => by cases h⟩, HB.out⟩
        ·as_aux_lemma =>
          by_cases hs : x.sub.length = 1
          ·have HSL := Lib.hid hs
           have hIH0 := fun w' h => HIH.out x.sub (by have := sub_lt HX.out; omega) w' As ks h
           have hsI : (x.sub.length : Int) = 1 := by omega
           simp only [hs] at hIH0
           have HI0 := Lib.hid hIH0
           clear hIH0
           by_cases hq : x.name.toList = []
           ·have HNMn := Lib.hid (empty_le hq)
            by_cases hq2 : x.field.toList = []
            ·have HNMf := Lib.hid (empty_le hq2)
             go_wp2_with fail
             refine (HI0.out _ HV.out.sub).mono ?_
             rintro e w9 ⟨⟨b, rfl, hfit⟩, hb9⟩
             have HFIT := Lib.hid hfit
             have HB9 := Lib.hid (HB.out.trans (hb9.mono HB.out.size))
             clear hfit hb9
             cases b
             ·go_wp2
              go_ret
              exact ⟨⟨_, rfl, fun h => by cases h⟩, HB9.out⟩
             ·go_wp2
              go_roundw
              case rel =>
               refine ⟨i + 1, by omega, by go_num, Lib.hid (fun j y hj hy => ?_), HB9.out⟩
               rcases Nat.lt_succ_iff_lt_or_eq.1 hj with h | rfl
               ·exact HFI.out j y h hy
               ·rw [HX.out] at hy
                cases hy
                refine .mk x ⟨by rw [HOP.out]; omega, by rw [HOP.out]; omega, by rw [HSL.out, HOP.out] <;> rfl, fun h => ?_, fun h => ?_, fun h => ?_, HNMn.out, HNMf.out⟩ (fun y hy => HFIT.out (by trivial) y hy)
                ·have e1 := HOP.out; have e2 := HNN.out; omega
                ·have e1 := HOP.out; have e2 := HNN.out; omega
                ·have e1 := HOP.out; have e2 := HNN.out; omega
              case measure => simp [intOf]; omega
            ·go_wp2
             go_ret
             exact ⟨⟨_, rfl, fun h => by cases h⟩, HB.out⟩
           ·go_wp2
            go_ret
            exact ⟨⟨_, rfl, fun h => by cases h⟩, HB.out⟩
          ·have hsI : ¬ (x.sub.length : Int) = 1 := by omega
           go_wp2
           go_ret
           exact ⟨⟨_, rfl, fun h => by cases h⟩, HB.out⟩
        ·as_aux_lemma =>
          have t1 : ¬ op = 1 := by omega
          have t2 : ¬ op = 2 := by omega
          have t3 : ¬ op = 3 := by omega
          have t4 : ¬ op = 4 := by omega
          have t5 : ¬ op = 5 := by omega
          have t6 : ¬ op = 6 := by omega
          have t7 : ¬ op = 7 := by omega
          have t8 : 2 < op := by omega
          have t9 : ¬ op < 1 := by omega
          have t10 : ¬ 21 < op := by omega
          have t11 : 7 < op := by omega
          have u1 : (op == 1) = false := by simp; omega
          have u2 : (op == 2) = false := by simp; omega
          have u3 : (op == 3) = false := by simp; omega
          have u4 : (op == 4) = false := by simp; omega
          have u5 : (op == 5) = false := by simp; omega
          have u6 : (op == 6) = false := by simp; omega
          have u7 : (op == 7) = false := by simp; omega
          by_cases hs : x.sub.length = 2
          ·have HSL := Lib.hid hs
           have hIH0 := fun w' h => HIH.out x.sub (by have := sub_lt HX.out; omega) w' As ks h
           have hsI : (x.sub.length : Int) = 2 := by omega
           simp only [hs] at hIH0
           have HI0 := Lib.hid hIH0
           clear hIH0
           by_cases hq : x.name.toList = []
           ·have HNMn := Lib.hid (empty_le hq)
            by_cases hq2 : x.field.toList = []
            ·have HNMf := Lib.hid (empty_le hq2)
             go_wp2_with fail
             refine (HI0.out _ HV.out.sub).mono ?_
             rintro e w9 ⟨⟨b, rfl, hfit⟩, hb9⟩
             have HFIT := Lib.hid hfit
             have HB9 := Lib.hid (HB.out.trans (hb9.mono HB.out.size))
             clear hfit hb9
             cases b
             ·go_wp2
              go_ret
              exact ⟨⟨_, rfl, fun h => by cases h⟩, HB9.out⟩
             ·go_wp2
              go_roundw
              case rel =>
               refine ⟨i + 1, by omega, by go_num, Lib.hid (fun j y hj hy => ?_), HB9.out⟩
               rcases Nat.lt_succ_iff_lt_or_eq.1 hj with h | rfl
               ·exact HFI.out j y h hy
               ·rw [HX.out] at hy
                cases hy
                refine .mk x ⟨by rw [HOP.out]; omega, by rw [HOP.out]; omega, by rw [HSL.out, HOP.out] <;> (unfold subsN; rw [if_neg (by omega), if_pos (by omega)]), fun h => ?_, fun h => ?_, fun h => ?_, HNMn.out, HNMf.out⟩ (fun y hy => HFIT.out (by trivial) y hy)
                ·have e1 := HOP.out; have e2 := HNN.out; omega
                ·have e1 := HOP.out; have e2 := HNN.out; omega
                ·have e1 := HOP.out; have e2 := HNN.out; omega
              case measure => simp [intOf]; omega
            ·go_wp2
             go_ret
             exact ⟨⟨_, rfl, fun h => by cases h⟩, HB.out⟩
           ·go_wp2
            go_ret
            exact ⟨⟨_, rfl, fun h => by cases h⟩, HB.out⟩
          ·have hsI : ¬ (x.sub.length : Int) = 2 := by omega
           go_wp2
           go_ret
           exact ⟨⟨_, rfl, fun h => by cases h⟩, HB.out⟩
       ·have hzB : (nn == 0) = false := by simp; omega
        have u1 : (op == 1) = false := by simp; omega
        have u2 : (op == 2) = false := by simp; omega
        go_wp2
        go_ret
        exact ⟨⟨_, rfl, fun h => by cases h⟩, HB.out⟩
   ·obtain rfl : i = n := by omega
    go_wp2
    go_ret
    exact ⟨⟨_, rfl, fun _ x hx => by
     obtain ⟨j, hj⟩ := List.getElem?_of_mem hx
     have := (List.getElem?_eq_some_iff.1 hj).1
     exact HFI.out j x (by rw [← HN.out]; exact this) hj⟩, hbr⟩


def shNamed (op : Int) : Bool := decide (op = 4 ∨ op = 9)
def shTo (op : Int) : Bool := decide (op = 1)
def shVal (op : Int) : Bool := decide (op = 1 ∨ op = 3 ∨ op = 5 ∨ op = 6)
set_option maxRecDepth 100000 in
theorem shape_any (op : Int) (w : World) : Calls Tryd.prog 32 #[.int .i64 op] w fun e w' => e = .returned (.tuple #[.bool (shNamed op), .bool (shTo op), .bool (shVal op)]) ∧ w = w' := by
 by_cases h1 : op = 1
 ·subst h1
  go_enter Tryd.func32, Tryd.ntmps32
  go_wp2
  refine bodyPost_ret (v := .tuple #[.bool false, .bool true, .bool true]) ?_ rfl ⟨rfl, rfl⟩
  simp [results, Tryd.results32, go_sem]
 by_cases h3 : op = 3
 ·subst h3
  go_enter Tryd.func32, Tryd.ntmps32
  go_wp2
  refine bodyPost_ret (v := .tuple #[.bool false, .bool false, .bool true]) ?_ rfl ⟨rfl, rfl⟩
  simp [results, Tryd.results32, go_sem]
 by_cases h4 : op = 4
 ·subst h4
  go_enter Tryd.func32, Tryd.ntmps32
  go_wp2
  refine bodyPost_ret (v := .tuple #[.bool true, .bool false, .bool false]) ?_ rfl ⟨rfl, rfl⟩
  simp [results, Tryd.results32, go_sem]
 by_cases h5 : op = 5
 ·subst h5
  go_enter Tryd.func32, Tryd.ntmps32
  go_wp2
  refine bodyPost_ret (v := .tuple #[.bool false, .bool false, .bool true]) ?_ rfl ⟨rfl, rfl⟩
  simp [results, Tryd.results32, go_sem]
 by_cases h6 : op = 6
 ·subst h6
  go_enter Tryd.func32, Tryd.ntmps32
  go_wp2
  refine bodyPost_ret (v := .tuple #[.bool false, .bool false, .bool true]) ?_ rfl ⟨rfl, rfl⟩
  simp [results, Tryd.results32, go_sem]
 by_cases h9 : op = 9
 ·subst h9
  go_enter Tryd.func32, Tryd.ntmps32
  go_wp2
  refine bodyPost_ret (v := .tuple #[.bool true, .bool false, .bool false]) ?_ rfl ⟨rfl, rfl⟩
  simp [results, Tryd.results32, go_sem]
 have e : shNamed op = false ∧ shTo op = false ∧ shVal op = false := by
  unfold shNamed shTo shVal
  exact ⟨decide_eq_false (by omega), decide_eq_false (by omega), decide_eq_false (by omega)⟩
 rw [e.1, e.2.1, e.2.2]
 clear e
 go_enter Tryd.func32, Tryd.ntmps32
 go_wp2
 refine bodyPost_ret (v := .tuple #[.bool false, .bool false, .bool false]) ?_ rfl ⟨rfl, rfl⟩
 simp [results, Tryd.results32, go_sem, h1, h3, h4, h5, h6, h9]


structure NoneX (x : Ex) : Prop where
 op : x.op = 0
 n : x.n = 0
 nm : x.name.size = 0
 fd : x.field.size = 0
 sub : x.sub = []
structure FitS1 (s : Stm) : Prop where
 lo : 1 ≤ s.op
 hi : s.op ≤ 9
 nm : s.name.size ≤ 16
 dst1 : s.op = 1 → (s.dst.op = 3 ∨ s.dst.op = 4) ∧ FitE s.dst
 dst0 : s.op ≠ 1 → NoneX s.dst
 src1 : s.op = 1 ∨ s.op = 3 ∨ s.op = 5 ∨ s.op = 6 → FitE s.src
 src0 : ¬ (s.op = 1 ∨ s.op = 3 ∨ s.op = 5 ∨ s.op = 6) → NoneX s.src
 conds : ∀ x ∈ s.conds, FitE x
 c2 : s.op = 2 → 1 ≤ s.conds.length ∧ s.conds.length ≤ s.blocks.length ∧ s.blocks.length ≤ s.conds.length + 1
 c3 : s.op = 3 → s.labels.length ≤ s.blocks.length ∧ s.blocks.length ≤ s.labels.length + 1
 c4 : s.op = 4 → s.conds.length = 3 ∧ s.blocks.length = 1
 c56 : s.op = 5 ∨ s.op = 6 → s.blocks.length = 1
 c9 : s.op = 9 → s.conds.length = s.fields.length
inductive FitS : Stm → Prop where
 | mk (s : Stm) (h : FitS1 s) (hf : ∀ f ∈ s.fields, f.size ≤ 16) (hl : ∀ l ∈ s.labels, l.length % 2 = 0) (hb : ∀ bl ∈ s.blocks, ∀ t ∈ bl, FitS t) : FitS s

set_option maxRecDepth 100000 in
theorem none_fit (x : Ex) (A : Option Addr) (k : Nat) (w : World) (hs : SmE x) (hl : x.sub.length * 80 ≤ 140737488355328) : Calls Tryd.prog 34 #[.agg (ExC x A k).toArray] w fun e w' => BoolIf (NoneX x) e ∧ Below w.heap.size w w' := by
 show Calls Tryd.prog 34 #[.agg #[.int .i64 x.op, .int .i64 x.n, .string x.name, .string x.field, .slice A x.sub.length k, .int .i64 x.line]] w _
 obtain ⟨op, hop⟩ : ∃ op, x.op = op := ⟨_, rfl⟩
 obtain ⟨n, hn⟩ : ∃ n, x.n = n := ⟨_, rfl⟩
 obtain ⟨a, ha⟩ : ∃ a, x.name = a := ⟨_, rfl⟩
 obtain ⟨b, hb⟩ : ∃ a, x.field = a := ⟨_, rfl⟩
 obtain ⟨c, hc⟩ : ∃ c, x.sub.length = c := ⟨_, rfl⟩
 obtain ⟨h1, h2⟩ := hs
 rw [ha] at h1
 rw [hb] at h2
 rw [hc] at hl
 rw [hop, hn, ha, hb, hc]
 have HOP := Lib.hid hop
 have HN := Lib.hid hn
 have HA := Lib.hid ha
 have HB := Lib.hid hb
 have HC := Lib.hid hc
 clear hop hn ha hb hc
 by_cases h0 : op = 0
 ·subst h0
  by_cases hn0 : n = 0
  ·subst hn0
   by_cases hz : (a.size : Int) + b.size + c = 0
   ·have hz2 : ((a.size : Int) + b.size + c == 0) = true := by simp; omega
    go_enter Tryd.func34, Tryd.ntmps34
    go_wp2
    go_ret
    refine ⟨⟨_, rfl, fun _ => ⟨HOP.out, HN.out, by rw [HA.out]; omega, by rw [HB.out]; omega, List.eq_nil_of_length_eq_zero (by rw [HC.out]; omega)⟩⟩, by exact belowBy⟩
   ·have hz2 : ((a.size : Int) + b.size + c == 0) = false := by simp; omega
    go_enter Tryd.func34, Tryd.ntmps34
    go_wp2
    go_ret
    exact ⟨⟨_, rfl, fun h => by cases h⟩, by exact belowBy⟩
  ·go_enter Tryd.func34, Tryd.ntmps34
   go_wp2
   go_ret
   exact ⟨⟨_, rfl, fun h => by cases h⟩, by exact belowBy⟩
 ·go_enter Tryd.func34, Tryd.ntmps34
  go_wp2
  go_ret
  exact ⟨⟨_, rfl, fun h => by cases h⟩, by exact belowBy⟩

end Go.Proofs.YtahjijdadifkaaaDoor

namespace Go.Proofs.YtahjijdadifkaaaDoor
open Go.RowKit

structure VarFit (v : VarS) : Prop where
 nm : v.name.size ≤ 16
 lo : 0 ≤ v.sect
 hi : v.sect ≤ 2
 ar : v.arr = true → v.type ≤ 2 ∧ 0 ≤ v.lo ∧ v.lo ≤ v.hi ∧ v.hi ≤ 255
structure FitP (p : Prg) : Prop where
 nm : p.name.size ≤ 16
 vl : p.vars.length ≤ 64
 vars : ∀ v ∈ p.vars, VarFit v
 body : ∀ s ∈ p.body, FitS s

end Go.Proofs.YtahjijdadifkaaaDoor
