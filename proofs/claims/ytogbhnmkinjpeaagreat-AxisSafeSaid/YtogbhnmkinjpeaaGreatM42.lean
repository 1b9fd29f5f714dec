/- Merged: The plain axis: what its drive is told moves by no more than it may. No program in sight. The plain axis: an error, and what is behind it; an axis at rest. No program in sight. The plain axis: a move lands at its place, and is done. No program in sight. Layer 15: an axis as it lies in memory; a cycle of it. -/
import Derived.Test.YtogbhnmkinjpeaaGreatM41
import Derived.Test.YtogbhnmkinjpeaaGreatM40
set_option linter.unusedVariables false
set_option linter.unusedSimpArgs false
namespace Go.Proofs.YtogbhnmkinjpeaaGreat

structure Kp (a b : AX) : Prop where
 g : b.g = a.g
 sm : b.sm = a.sm
 off : b.off = a.off
 win : b.win = a.win
 hat : b.hat = a.hat
 l : b.l = a.l
theorem Kp.refl (a : AX) : Kp a a := ⟨rfl, rfl, rfl, rfl, rfl, rfl⟩
theorem Kp.trans {a b c : AX} (h1 : Kp a b) (h2 : Kp b c) : Kp a c := ⟨h2.g.trans h1.g, h2.sm.trans h1.sm, h2.off.trans h1.off, h2.win.trans h1.win, h2.hat.trans h1.hat, h2.l.trans h1.l⟩
section
variable {s : WS}
theorem kp_fails (c : Int) : Kp s.a (failsX s c).a := by rw [fails_a]; exact ⟨rfl, rfl, rfl, rfl, rfl, rfl⟩
theorem kp_starts (k : CmdS) : Kp s.a (startsX s k).a := by
 unfold startsX
 dsimp only
 repeat' split
 all_goals exact ⟨rfl, rfl, rfl, rfl, rfl, rfl⟩
theorem kp_take (c : CmdS) : Kp s.a (takeX s c).a := by
 unfold takeX
 dsimp only
 split
 ·exact Kp.refl _
 ·split
  ·exact Kp.refl _
  ·split
   ·refine Kp.trans ?_ (kp_starts _)
    exact ⟨rfl, rfl, rfl, rfl, rfl, rfl⟩
   ·exact ⟨rfl, rfl, rfl, rfl, rfl, rfl⟩
theorem kp_done (e : Int) : Kp s.a (doneX s e).a := by
 unfold doneX
 dsimp only
 split
 ·refine Kp.trans ?_ (kp_starts _)
  exact ⟨rfl, rfl, rfl, rfl, rfl, rfl⟩
 ·exact ⟨rfl, rfl, rfl, rfl, rfl, rfl⟩
theorem kp_begins : Kp s.a (beginsX s).a ∨ ((beginsX s).a.st = stV s.a.st 2 ∧ s.a.st ≠ 0 ∧ s.a.st ≠ 7) ∨ (s.a.st = 0 ∧ (beginsX s).fr = true) := by
 unfold beginsX
 dsimp only
 split
 ·exact .inl (kp_fails _)
 ·split
  ·split
   ·exact .inl ⟨rfl, rfl, rfl, rfl, rfl, rfl⟩
   ·exact .inl (Kp.refl _)
  ·rename_i h7
   split
   ·rename_i h0
    exact .inr (.inl ⟨rfl, h0.2, h7⟩)
   ·split
    ·rename_i h0
     unfold onX
     dsimp only
     split
     ·exact .inl (Kp.refl _)
     ·split
      ·split
       ·exact .inr (.inr ⟨h0.2, rfl⟩)
       ·exact .inl (Kp.refl _)
      ·split
       ·exact .inl (Kp.refl _)
       ·split
        ·exact .inr (.inr ⟨h0.2, rfl⟩)
        ·exact .inl (Kp.refl _)
    ·exact .inl (Kp.refl _)
end
theorem kp_takes (cs : List CmdS) : ∀ s : WS, Kp s.a (takesX s cs).a := by
 induction cs with
 | nil => exact fun s => Kp.refl _
 | cons c l ih => exact fun s => (kp_take c).trans (ih _)

theorem rest_all {zs : List Int} {p : Int} (h : restW zs zs.length = true) (h0 : zs[0]?.getD 0 = p) : oneK zs zs.length p := by
 unfold restW at h
 simp only [Bool.and_eq_true, Bool.not_eq_true'] at h
 intro i hi
 have := anyK_no _ _ _ h.2 i hi
 rw [h0] at this
 simpa using this
theorem still_all {a : AX} (h : AxI a) (g : Good a) (hs : stillX a = true) : a.g.v = 0 ∧ oneK a.sm a.sm.length a.g.p := by
 unfold stillX at hs
 simp only [Bool.and_eq_true, decide_eq_true_eq] at hs
 exact ⟨hs.1, rest_all hs.2 (near_zero h.n1 g.near)⟩

theorem ends_out {s : WS} (h : AxI s.a) (g : Good s.a) (p : Bool) : outX (endsX s p).a = outX s.a ∧ (endsX s p).a.win = s.a.win ∧ (endsX s p).a.l = s.a.l ∧ (s.a.st ≠ 2 → Kp s.a (endsX s p).a) := by
 have hk : ∀ n : AX, Kp s.a n → outX n = outX s.a ∧ n.win = s.a.win ∧ n.l = s.a.l ∧ (s.a.st ≠ 2 → Kp s.a n) := fun n k => ⟨by unfold outX; rw [k.sm, k.win, k.off], k.win, k.l, fun _ => k⟩
 unfold endsX
 split
 ·split
  ·exact hk _ (kp_done _)
  ·exact hk _ (Kp.refl _)
 ·split
  ·split
   ·exact hk _ (Kp.refl _)
   ·split
    ·exact hk _ ⟨rfl, rfl, rfl, rfl, rfl, rfl⟩
    ·split
     ·exact hk _ ⟨rfl, rfl, rfl, rfl, rfl, rfl⟩
     ·exact hk _ (Kp.refl _)
  ·split
   ·rename_i h2
    split
    ·rename_i hq
     simp only [Bool.and_eq_true] at hq
     obtain ⟨-, hone⟩ := still_all h g hq.2
     unfold homedX
     dsimp only
     split
     ·have k := kp_done (s := { s with a := { s.a with g := ⟨s.a.hat, s.a.g.v⟩, sm := List.replicate s.a.win.toNat s.a.hat, off := s.a.off - (s.a.hat - s.a.g.p), hd := true } }) 4
      refine ⟨?_, k.win, k.l, fun h => absurd h2 h⟩
      unfold outX
      rw [k.sm, k.win, k.off]
      dsimp only
      rw [sumK_one hone, List.length_replicate, sumK_one (pos := s.a.hat) fun i hi => rep_get _ _ i hi]
      have hl := h.len
      have hw := h.win
      rw [show ((s.a.win.toNat : Nat) : Int) = s.a.win by omega, hl, ← Int.mul_add, ← Int.mul_add]
      congr 1
      omega
     ·exact hk _ (kp_fails _)
    ·split
     ·exact hk _ (kp_fails _)
     ·exact hk _ (Kp.refl _)
   ·exact hk _ (Kp.refl _)

theorem push_out {zs : List Int} {p q : Int} (hn : 1 ≤ zs.length) (h : nearK p zs zs.length = true) (hq : -1048576 ≤ q - p ∧ q - p ≤ 1048576) :
  -((zs.length : Int) * 1048576) ≤ sumK ((q :: zs).take zs.length) ((q :: zs).take zs.length).length - sumK zs zs.length ∧ sumK ((q :: zs).take zs.length) ((q :: zs).take zs.length).length - sumK zs zs.length ≤ (zs.length : Int) * 1048576 := by
 have hl : ((q :: zs).take zs.length).length = zs.length := by simp
 have hc : sumK ((q :: zs).take zs.length) zs.length = sumK (q :: zs) zs.length := sumK_congr fun i hi => by rw [List.getElem?_take, if_pos hi]
 have hs := sum_push zs zs.length q hn
 rw [hl, hc, hs]
 refine tele (fun i => (q :: zs)[i]?.getD 0) 1048576 zs.length fun i hi => ?_
 match i, hi with
 | 0, hi =>
  have h0 := near_zero hn h
  simp only [List.getElem?_cons_zero, Option.getD_some, Nat.zero_add, List.getElem?_cons_succ]
  omega
 | i + 1, hi =>
  have h2 := nearK_get h (i + 1) hi
  unfold nearF at h2
  rw [if_neg (by omega), Nat.add_sub_cancel] at h2
  have h3 := of_decide_eq_true h2
  simp only [List.getElem?_cons_succ]
  omega
theorem steps_out {a : AX} (h : AxI a) (g : Good a) (i : INS) : (-(a.win * 1048576) ≤ outX (stepsX a i).a - outX a ∧ outX (stepsX a i).a - outX a ≤ a.win * 1048576) ∧ (stepsX a i).a.win = a.win ∧ (stepsX a i).a.l = a.l ∧ (a.st = 0 → (stepsX a i).a.g = a.g) := by
 have hlen := h.len
 unfold stepsX
 split
 ·have hp := push_out (q := a.g.p) h.n1 g.near (by omega)
  rw [hlen] at hp
  refine ⟨?_, rfl, rfl, fun _ => rfl⟩
  unfold outX pushX
  dsimp only
  omega
 ·rename_i h0
  have hw := inv_want h i
  have gw := good_want g i
  obtain ⟨e1, e2, e3, e4, e5, e6, e7, e8, e9⟩ := want_same a i
  have hv := (hw.gone (wantX a i).v).vel
  have hp : (goneX (wantX a i).a (wantX a i).v).g.p = (wantX a i).a.g.p + (goneX (wantX a i).a (wantX a i).v).g.v := rfl
  have ho := push_out (p := (wantX a i).a.g.p) (q := (goneX (wantX a i).a (wantX a i).v).g.p) hw.n1 gw.near (by omega)
  have hs : (goneX (wantX a i).a (wantX a i).v).sm = ((goneX (wantX a i).a (wantX a i).v).g.p :: (wantX a i).a.sm).take (wantX a i).a.sm.length := rfl
  have hww : (goneX (wantX a i).a (wantX a i).v).win = (wantX a i).a.win := rfl
  have hof : (goneX (wantX a i).a (wantX a i).v).off = (wantX a i).a.off := rfl
  refine ⟨?_, e8, e4, fun h => absurd h h0⟩
  unfold outX
  rw [hs, hww, hof, e8, e9]
  rw [e7] at ho ⊢
  rw [hlen] at ho
  omega
theorem cyc_out {a : AX} (i : INS) (cs : List CmdS) (h : AxI (startX a i).a) (g : Good a) (hi : InW i) (hc : ∀ c ∈ cs, CmdW c) :
  ((cycX a i cs).a.st = 0 ↔ a.st = 0) → (-(a.win * 1048576) ≤ outX (cycX a i cs).a - outX a ∧ outX (cycX a i cs).a - outX a ≤ a.win * 1048576) ∧ ((cycX a i cs).a.st = 0 → (cycX a i cs).a.g = a.g) := by
 intro hsw
 obtain ⟨s1, s2, w, p, F⟩ := cyc_f i cs h g hi hc
 have hS := g.st
 have ha : (startX a i).a.st = a.st := rfl
 have k0 : Kp a (startX a i).a := ⟨rfl, rfl, rfl, rfl, rfl, rfl⟩
 have kb := kp_begins (s := startX a i)
 rw [← F.e1] at kb
 have k2 : Kp s1.a s2.a := by rw [F.e2]; exact kp_takes cs s1
 obtain ⟨o1, o2, o3, o4⟩ := steps_out F.i2 F.g2 i
 have hwa : w.a = (stepsX s2.a i).a := by rw [F.e3]
 obtain ⟨q1, q2, q3, q4⟩ := ends_out F.i3 F.g3 p
 rw [← F.e4] at q1 q2 q3 q4
 have hst : w.a.st = s2.a.st := F.st3
 have main : Kp a s1.a → (-(a.win * 1048576) ≤ outX (cycX a i cs).a - outX a ∧ outX (cycX a i cs).a - outX a ≤ a.win * 1048576) := fun k => by
  have k3 := k.trans k2
  have e1 : outX s2.a = outX a := by unfold outX; rw [k3.sm, k3.win, k3.off]
  rw [q1, hwa, ← e1, ← k3.win]
  exact o1
 have stay : Kp a s1.a → (cycX a i cs).a.st = 0 → (cycX a i cs).a.g = a.g := fun k h0 => by
  have ha0 := hsw.1 h0
  have k3 := k.trans k2
  have hs2 : s2.a.st = 0 := by
   rcases F.b1 with hb | hb | ⟨hb, h0'⟩ | ⟨hb, hf, h0'⟩
   ·rw [F.tf (.inr (.inl (by rw [hb]; exact ha0))), hb]; exact ha0
   ·have hn := F.tf (.inr (.inr hb))
    have : w.a.st = 7 := by rw [hst, hn]; exact hb
    rcases F.ed with ed | ⟨d1, d2⟩ | ⟨d1, d2, d3⟩ | ⟨d1, d2⟩
    ·omega
    ·omega
    ·omega
    ·omega
   ·exact absurd ha0 h0'
   ·have hn := F.tf (.inl hf)
    have : w.a.st = 1 := by rw [hst, hn]; exact hb
    rcases F.ed with ed | ⟨d1, d2⟩ | ⟨d1, d2, d3⟩ | ⟨d1, d2⟩
    ·omega
    ·omega
    ·omega
    ·omega
  have := (q4 (by omega)).g
  rw [this, hwa, o4 hs2]
  exact k3.g
 rcases kb with k | ⟨k1, k3, k4⟩ | ⟨k1, k3⟩
 ·exact ⟨main (k0.trans k), stay (k0.trans k)⟩
 ·have h0 : s1.a.st = 0 := by
   rw [k1]
   exact stV_off (by omega)
  have hn := F.tf (.inr (.inl h0))
  have hw0 : w.a.st = 0 := by rw [hst, hn]; exact h0
  have hc0 : (cycX a i cs).a.st = 0 := by
   rcases F.ed with ed | ⟨d1, d2⟩ | ⟨d1, d2, d3⟩ | ⟨d1, d2⟩
   ·omega
   ·omega
   ·omega
   ·omega
  exact absurd (hsw.1 hc0) (by rw [← ha]; exact k3)
 ·have h1 : s1.a.st = 1 ∨ s1.a = a := by
   rcases F.b1 with hb | hb | ⟨hb, h0'⟩ | ⟨hb, hf, h0'⟩
   ·rw [hb] at k3
    cases k3
   ·have hn := F.tf (.inl k3)
    have : w.a.st = 7 := by rw [hst, hn]; exact hb
    have hc7 : (cycX a i cs).a.st = 7 := by
     rcases F.ed with ed | ⟨d1, d2⟩ | ⟨d1, d2, d3⟩ | ⟨d1, d2⟩
     ·omega
     ·omega
     ·omega
     ·omega
    have := hsw.2 (by rw [← ha]; exact k1)
    omega
   ·exact absurd k1 h0'
   ·exact .inl hb
  have hn := F.tf (.inl k3)
  rcases h1 with h1 | h1
  ·have : w.a.st = 1 := by rw [hst, hn]; exact h1
   have hc1 : (cycX a i cs).a.st = 1 := by
    rcases F.ed with ed | ⟨d1, d2⟩ | ⟨d1, d2, d3⟩ | ⟨d1, d2⟩
    ·omega
    ·omega
    ·omega
    ·omega
   have := hsw.2 (by rw [← ha]; exact k1)
   omega
  ·have k : Kp a s1.a := by rw [h1]; exact Kp.refl _
   exact ⟨main k, stay k⟩

theorem cyc_un (a : AX) (i : INS) (cs : List CmdS) : cycX a i cs = endsX { takesX (beginsX (startX a i)) cs with a := (stepsX (takesX (beginsX (startX a i)) cs).a i).a } (stepsX (takesX (beginsX (startX a i)) cs).a i).passed := rfl
theorem ends_idle {s : WS} {p : Bool} (h : s.a.st ≠ 4 ∧ s.a.st ≠ 3 ∧ s.a.st ≠ 2) : endsX s p = s := by
 unfold endsX
 rw [if_neg h.1, if_neg h.2.1, if_neg h.2.2]
theorem steps_idle {a : AX} (i : INS) (h0 : a.st ≠ 0) (h2 : a.st ≠ 2) (hn : a.ns = []) : stepsX a i = ⟨goneX a 0, false⟩ := by
 have hw : wantX a i = ⟨a, 0, false⟩ := by
  unfold wantX
  rw [if_neg h2, if_pos (by unfold underX; rw [hn])]
 unfold stepsX
 rw [if_neg h0, hw]
 rfl

structure Goes (a : AX) (k : CmdS) (n : AX) : Prop where
 inv : AxI n
 good : Good n
 st : n.st = 4
 ns : n.ns = [k]
 ws : n.ws = []
 ov : n.ov = 100
 l : n.l = a.l
 hd : n.hd = a.hd
 win : n.win = a.win
 off : n.off = a.off
def Left (a : AX) (t : Int) (n : AX) (m : Int) : Prop :=
 (¬ landed n.g t ∧ ∃ N, landsN (bndX a) n.g t N ∧ N + 17 ≤ m) ∨ (landed n.g t ∧ ∃ j : Nat, 1 ≤ j ∧ j ≤ n.sm.length ∧ (∀ i, i < j → n.sm[i]?.getD 0 = t) ∧ 17 - (j : Int) ≤ m)
structure Stands (a : AX) (t : Int) (n : AX) : Prop where
 inv : AxI n
 good : Good n
 st : n.st = 1
 g : n.g = ⟨t, 0⟩
 win : n.win = a.win
 off : n.off = a.off
 out : outX n = n.win * (t + n.off)

theorem scaled_full {a : AX} {v : Int} (h : a.ov = 100) (hv : 1 ≤ v ∧ v ≤ 1048576) : scaledX a v = v := by
 unfold scaledX
 rw [h]
 simp only [RowKit.wrap64, IntKind.wrap_i64]
 rw [show ((v * 100 + 9223372036854775808) % 18446744073709551616 - 9223372036854775808) = v * 100 by omega, Int.mul_tdiv_cancel _ (by decide)]
 omega
theorem bnd_of_goes {a n : AX} {k : CmdS} (h : Goes a k n) : bndX n = bndX a := bnd_eq h.l h.hd
theorem landed_mk {g : GenS} {t : Int} (h : landed g t) : g = ⟨t, 0⟩ := by
 obtain ⟨h1, h2⟩ := h
 cases g
 simp only at h1 h2
 rw [h1, h2]
theorem goes_step {a n : AX} {k : CmdS} (i : INS) (h : Goes a k n) (hk : k.kind = 1) (hs : 1 ≤ k.speed ∧ k.speed ≤ 1048576) :
  stepsX n i = ⟨goneX n (toG (bndX a) n.g k.target k.speed), false⟩ := by
 have hu : underX n = ⟨k, true⟩ := by unfold underX; rw [h.ns]
 have hb : blendX n k = ⟨0, cmd0, false⟩ := by
  have hnx : nextR n.ns n.ws = ⟨cmd0, false⟩ := by
   unfold nextR
   rw [if_pos h.inv.line, h.ws]
  unfold blendX
  rw [hnx]
  rfl
 have hw : wantX n i = ⟨n, toG (bndX a) n.g k.target k.speed, false⟩ := by
  unfold wantX
  rw [if_neg (by rw [h.st]; decide), hu]
  dsimp only
  rw [if_neg (by decide), if_pos ⟨h.st, hk⟩, hb, scaled_full h.ov hs, bnd_of_goes h]
  rfl
 unfold stepsX
 rw [if_neg (by rw [h.st]; decide), hw]
 rfl
theorem goes_tail {a : AX} {k : CmdS} (s : WS) (m : Int) (h : Goes a k s.a) (hi : InW s.i) (hk : k.kind = 1) (hs : 1 ≤ k.speed ∧ k.speed ≤ 1048576) (ht : (bndX a).lo ≤ k.target ∧ k.target ≤ (bndX a).hi) (hm : Left a k.target s.a m) :
  0 ≤ m ∧ (((endsX { s with a := (stepsX s.a s.i).a } (stepsX s.a s.i).passed).rs = s.rs ∧ Goes a k (endsX { s with a := (stepsX s.a s.i).a } (stepsX s.a s.i).passed).a ∧ Left a k.target (endsX { s with a := (stepsX s.a s.i).a } (stepsX s.a s.i).passed).a (m - 1))
   ∨ ((endsX { s with a := (stepsX s.a s.i).a } (stepsX s.a s.i).passed).rs = s.rs ++ [⟨k.id, 2⟩] ∧ Stands a k.target (endsX { s with a := (stepsX s.a s.i).a } (stepsX s.a s.i).passed).a)) := by
 have hst := goes_step s.i h hk hs
 have hgs := good_steps h.inv h.good s.i
 have his := inv_steps h.inv s.i
 rw [hst] at hgs his ⊢
 obtain ⟨gs, s1, s2, s3⟩ := hgs
 dsimp only at gs s1 s2 s3 his ⊢
 have hbr : rightB (bndX a) = true := by rw [← bnd_of_goes h]; exact h.inv.br
 have hsafe : safeB (bndX a) s.a.g = true := by rw [← bnd_of_goes h]; exact h.inv.safe
 obtain ⟨w, hw⟩ : ∃ w : WS, w = { s with a := goneX s.a (toG (bndX a) s.a.g k.target k.speed) } := ⟨_, rfl⟩
 rw [← hw]
 have hwa : w.a = goneX s.a (toG (bndX a) s.a.g k.target k.speed) := by rw [hw]
 have hwg : w.a.g = stepG (bndX a) s.a.g (toG (bndX a) s.a.g k.target k.speed) := by
  rw [hwa]
  show stepG (bndX s.a) s.a.g _ = _
  rw [bnd_of_goes h]
 have hwm : w.a.sm = (w.a.g.p :: s.a.sm).take s.a.sm.length := by rw [hwa]; rfl
 have hgo : Goes a k w.a := by
  rw [hwa]
  exact ⟨his, gs, s1.trans h.st, s2.trans h.ns, s3.trans h.ws, h.ov, h.l, h.hd, h.win, h.off⟩
 have hwl : w.a.sm.length = s.a.sm.length := by rw [hwm]; simp
 have hn1 := h.inv.n1
 have hw16 := h.inv.win
 have hwlen := h.inv.len
 have hleft : 0 ≤ m ∧ (Left a k.target w.a (m - 1) ∨ (landed w.a.g k.target ∧ oneK w.a.sm w.a.sm.length k.target)) := by
  rcases hm with ⟨hn, N, hN, hNm⟩ | ⟨hl, j, j1, j2, j3, j4⟩
  ·have hp := lands_pos (bndX a) s.a.g k.target N hbr hn hN
   refine ⟨by omega, .inl ?_⟩
   have hst := lands_step (bndX a) s.a.g k.target k.speed N w.a.g.p w.a.g.v hbr ht hs.1 hn hN (by rw [hwg])
   by_cases hl : landed w.a.g k.target
   ·refine .inr ⟨hl, 1, by omega, by omega, fun i hi => ?_, by omega⟩
    obtain rfl : i = 0 := by omega
    rw [near_zero hgo.inv.n1 hgo.good.near]
    exact hl.1
   ·exact .inl ⟨hl, N - 1, hst, by omega⟩
  ·have hr : w.a.g = s.a.g := by
    rw [hwg]
    exact lands_rest (bndX a) s.a.g k.target k.speed 0 hbr ht hl ⟨hsafe, .inl ⟨hl, by omega⟩⟩
   have hall : ∀ i, i < min (j + 1) s.a.sm.length → w.a.sm[i]?.getD 0 = k.target := fun i hi => by
    rw [hwm, List.getElem?_take, if_pos (by omega)]
    match i, hi with
    | 0, _ =>
     rw [hr]
     exact hl.1
    | i + 1, hi => exact j3 i (by omega)
   by_cases hj : j + 1 ≤ s.a.sm.length
   ·rw [Nat.min_eq_left hj] at hall
    exact ⟨by omega, .inl (.inr ⟨by rw [hr]; exact hl, j + 1, by omega, by omega, hall, by omega⟩)⟩
   ·rw [Nat.min_eq_right (by omega), ← hwl] at hall
    exact ⟨by omega, .inr ⟨by rw [hr]; exact hl, hall⟩⟩
 refine ⟨hleft.1, ?_⟩
 have hu : underX w.a = ⟨k, true⟩ := by unfold underX; rw [hgo.ns]
 have he : endsX w false = if (stillX w.a && decide (k.target = w.a.g.p)) = true then doneX w 10 else w := by
  unfold endsX
  rw [if_pos hgo.st, hu, hk]
  rfl
 rw [he]
 by_cases hq : (stillX w.a && decide (k.target = w.a.g.p)) = true
 ·rw [if_pos hq]
  simp only [Bool.and_eq_true, decide_eq_true_eq] at hq
  obtain ⟨hv, hone⟩ := still_all hgo.inv hgo.good hq.1
  have hd := done_last hgo.inv.line hgo.ns hgo.ws 10
  have h10 : stV w.a.st 10 = 1 := by rw [hgo.st]; rfl
  rw [h10] at hd
  have hgd := good_done hgo.inv hgo.good hgo.st (by rw [hu])
  have hid := inv_done (s := w) hgo.inv (by rw [hw]; exact hi) 10
  refine .inr ⟨?_, hid, hgd.1, by rw [hd], ?_, by rw [hd]; exact hgo.win, by rw [hd]; exact hgo.off, ?_⟩
  ·unfold doneX
   rw [end_one hgo.inv.line hgo.ns, hgo.ws, hw]
   rfl
  ·rw [hd]
   exact landed_mk ⟨hq.2.symm, hv⟩
  ·rw [hd]
   unfold outX
   dsimp only
   rw [sumK_one hone, hgo.inv.len, ← hq.2, Int.mul_add]
 ·rw [if_neg hq]
  refine .inl ⟨by rw [hw], hgo, ?_⟩
  rcases hleft.2 with hl | ⟨hl, hone⟩
  ·exact hl
  ·refine absurd ?_ hq
   simp only [Bool.and_eq_true, decide_eq_true_eq]
   refine ⟨?_, hl.1.symm⟩
   unfold stillX
   rw [decide_eq_true hl.2, rest_one hgo.inv.smr hone]
   rfl
def moveX (id way speed : Int) : CmdS := ⟨id, 2, way, speed, 0, 0, 0⟩
theorem first_cyc {a : AX} (i : INS) (id way speed : Int) (h : AxI a) (g : Good a) (hi : InW i) (h1 : a.st = 1) (hn : a.ns = []) (hv : a.g.v = 0) (hw : -1000 ≤ way ∧ way ≤ 1000) (hid : I64 id) (hsp : I64 speed)
  (hp : i.pw = true) (ho : i.op = true) (hc : i.cau = 0) (hpl : i.plus = false) (hmi : i.minus = false) (hov : i.ov = 100) :
  ((cycX a i [moveX id way speed]).rs = [⟨id, 5⟩] ∧ (speed < 1 ∨ a.l.v < speed ∨ a.g.p + way < (bndX a).lo ∨ (bndX a).hi < a.g.p + way))
   ∨ ((1 ≤ speed ∧ speed ≤ a.l.v ∧ (bndX a).lo ≤ a.g.p + way ∧ a.g.p + way ≤ (bndX a).hi) ∧ (cycX a i [moveX id way speed]).a.g = stepG (bndX a) a.g (toG (bndX a) a.g (a.g.p + way) speed) ∧
    (((cycX a i [moveX id way speed]).rs = [⟨id, 1⟩] ∧ Goes a ⟨id, 1, a.g.p + way, speed, 0, 0, 0⟩ (cycX a i [moveX id way speed]).a ∧ Left a (a.g.p + way) (cycX a i [moveX id way speed]).a 1020)
     ∨ ((cycX a i [moveX id way speed]).rs = [⟨id, 1⟩, ⟨id, 2⟩] ∧ Stands a (a.g.p + way) (cycX a i [moveX id way speed]).a))) := by
 have hws := (g.fit.nil (.inr (.inl h1))).2
 have hpos := h.pos
 have hy := rightB_yes h.br
 have hsa : (startX a i).a = { a with ov := 100 } := by
  show ({ a with ov := max 0 (min i.ov 100) } : AX) = _
  rw [hov, show max 0 (min (100 : Int) 100) = 100 by decide]
 have hb : beginsX (startX a i) = startX a i := by
  have hce : causeX (startX a i).a (startX a i).i = 0 := by
   rw [hsa]
   show causeX { a with ov := 100 } i = 0
   unfold causeX
   dsimp only
   rw [if_neg (fun h' => by omega), if_neg (by rw [hc]; simp), if_neg (by omega), if_neg (by rw [hp, ho]; simp), if_neg (by rw [hpl, hmi]; simp)]
  unfold beginsX
  dsimp only
  rw [hce, if_neg (by simp), if_neg (by show ¬ a.st = 7; omega), if_neg (by show ¬ (i.pw = false ∧ _); rw [hp]; simp), if_neg (fun h' => by have h'' : a.st = 0 := h'.2; omega)]
 have hfb : fitB (a.g.p + way) = true := decide_eq_true (by omega)
 have hu : underX (startX a i).a = ⟨cmd0, false⟩ := by unfold underX; rw [hsa]; dsimp only; rw [hn]
 have hpx : placeX (startX a i).a (moveX id way speed) = (a.g.p + way, true) := by
  unfold placeX
  rw [if_neg (by show ¬ (2 : Int) = 1; decide)]
  unfold fromX
  rw [if_neg (by rw [hu]; simp), if_neg (by rw [hu]; simp)]
  show (fitV (a.g.p + way), fitB (a.g.p + way)) = _
  rw [hfb, fitV_yes (of_decide_eq_true hfb)]
 have hfit : fitsC (startX a i).a (moveX id way speed) = if (1 ≤ speed ∧ speed ≤ a.l.v) ∧ (bndX a).lo ≤ a.g.p + way ∧ a.g.p + way ≤ (bndX a).hi then ⟨⟨id, 1, a.g.p + way, speed, 0, 0, 0⟩, true⟩ else ⟨moveX id way speed, false⟩ := by
  unfold fitsC
  rw [if_neg (fun h' => h'.1 rfl), if_neg (fun h' => by have h2 : takesB a.st = false := h'.2.2; rw [h1] at h2; cases h2), if_pos (show moveC (moveX id way speed) = true from rfl), hpx]
  have hbb : bndX (startX a i).a = bndX a := rfl
  have hss : speedX (startX a i).a (moveX id way speed).speed = decide (1 ≤ speed ∧ speed ≤ a.l.v) := rfl
  rw [hbb, hss]
  by_cases hc : (1 ≤ speed ∧ speed ≤ a.l.v) ∧ (bndX a).lo ≤ a.g.p + way ∧ a.g.p + way ≤ (bndX a).hi
  ·rw [if_pos hc, if_pos ⟨rfl, decide_eq_true hc.1, hc.2.1, hc.2.2, fun h2 => by have h3 : (2 : Int) = 1 := h2; omega⟩]
   rfl
  ·rw [if_neg hc, if_neg (fun h2 => hc ⟨of_decide_eq_true h2.2.1, h2.2.2.1, h2.2.2.2.1⟩)]
 by_cases hok : (1 ≤ speed ∧ speed ≤ a.l.v) ∧ (bndX a).lo ≤ a.g.p + way ∧ a.g.p + way ≤ (bndX a).hi
 ·refine .inr ⟨⟨hok.1.1, hok.1.2, hok.2.1, hok.2.2⟩, ?_⟩
  rw [if_pos hok] at hfit
  have ht : takeX (startX a i) (moveX id way speed) = { (startX a i) with a := { a with ov := 100, st := 4, ns := [⟨id, 1, a.g.p + way, speed, 0, 0, 0⟩], ws := [] }, rs := [⟨id, 1⟩] } := by
   unfold takeX
   dsimp only
   rw [hfit, if_neg (fun h' => by rcases h' with h' | h' <;> cases h')]
   have hadd : addR (startX a i).a.ns (startX a i).a.ws ⟨id, 1, a.g.p + way, speed, 0, 0, 0⟩ = ⟨[⟨id, 1, a.g.p + way, speed, 0, 0, 0⟩], [], [], 0⟩ := by
    rw [hsa]
    dsimp only
    rw [hn, hws]
    rfl
   dsimp only
   rw [hadd]
   dsimp only
   rw [if_neg (by decide), if_pos (show ([] : List CmdS).length = 0 from rfl), starts_15 (.inl rfl)]
   have h5 : stV a.st 5 = 4 := by rw [h1]; rfl
   show happX (tellX (tellX (lineX (startX a i) _ _) 3 []) 1 [id]) 5 = _
   unfold happX tellX lineX startX
   dsimp only
   rw [h5, hov, show max 0 (min (100 : Int) 100) = 100 by decide]
   rfl
  obtain ⟨k, hk⟩ : ∃ k : CmdS, k = ⟨id, 1, a.g.p + way, speed, 0, 0, 0⟩ := ⟨_, rfl⟩
  rw [← hk] at ht ⊢
  have hcw : CmdW (moveX id way speed) := ⟨hid, by show I64 2; unfold I64; omega, by show I64 way; unfold I64; omega, hsp, by show I64 0; unfold I64; omega, by show I64 0; unfold I64; omega, by show I64 0; unfold I64; omega⟩
  have h0 : AxI (startX a i).a := by rw [hsa]; exact h.ov2 100 (by omega)
  have hg0 := start_good g i
  have hit := inv_take (s := startX a i) h0 hi hcw
  have hgt := (good_take (s := startX a i) h0 hg0 (moveX id way speed)).1
  have hgo : Goes a k (takeX (startX a i) (moveX id way speed)).a := ⟨hit, hgt, by rw [ht], by rw [ht], by rw [ht], by rw [ht], by rw [ht], by rw [ht], by rw [ht], by rw [ht]⟩
  have hgv : (takeX (startX a i) (moveX id way speed)).a.g = a.g := by rw [ht]
  have hleft : Left a k.target (takeX (startX a i) (moveX id way speed)).a 1021 := by
   have hsm : (takeX (startX a i) (moveX id way speed)).a.sm = a.sm := by rw [ht]
   have hkt : k.target = a.g.p + way := by rw [hk]
   unfold Left
   rw [hgv, hsm, hkt]
   by_cases hl : landed a.g (a.g.p + way)
   ·refine .inr ⟨hl, 1, by omega, h.n1, fun j hj => ?_, by omega⟩
    obtain rfl : j = 0 := by omega
    rw [near_zero h.n1 g.near]
    exact hl.1
   ·have hls := lands_start (bndX a) a.g (a.g.p + way) h.br h.safe
    rw [hv, show max (0 : Int) (-0) = 0 by decide, cyc0 _ (by omega), slw_near 0 0 _ (by omega) (by omega)] at hls
    exact .inl ⟨hl, _, hls, by omega⟩
  have htail := goes_tail (takeX (startX a i) (moveX id way speed)) 1021 hgo (by rw [take_i]; exact hi) (by rw [hk]) (by rw [hk]; dsimp only; have := rightB_yes h.lr; omega) (by rw [hk]; exact hok.2) hleft
  have hti : (takeX (startX a i) (moveX id way speed)).i = i := take_i _ _
  have e : cycX a i [moveX id way speed] = endsX { takeX (startX a i) (moveX id way speed) with a := (stepsX (takeX (startX a i) (moveX id way speed)).a (takeX (startX a i) (moveX id way speed)).i).a } (stepsX (takeX (startX a i) (moveX id way speed)).a (takeX (startX a i) (moveX id way speed)).i).passed := by
   rw [cyc_un, hb, hti]
   rfl
  have hgv2 : (cycX a i [moveX id way speed]).a.g = stepG (bndX a) a.g (toG (bndX a) a.g (a.g.p + way) speed) := by
   rw [e]
   have hst := goes_step (takeX (startX a i) (moveX id way speed)).i hgo (by rw [hk]) (by rw [hk]; dsimp only; have := rightB_yes h.lr; omega)
   have gs := good_steps hgo.inv hgo.good (takeX (startX a i) (moveX id way speed)).i
   have o := ends_out (s := { takeX (startX a i) (moveX id way speed) with a := (stepsX (takeX (startX a i) (moveX id way speed)).a (takeX (startX a i) (moveX id way speed)).i).a }) (inv_steps hgo.inv _) gs.1 (stepsX (takeX (startX a i) (moveX id way speed)).a (takeX (startX a i) (moveX id way speed)).i).passed
   rw [(o.2.2.2 (by rw [gs.2.1, hgo.st]; decide)).g]
   show (stepsX (takeX (startX a i) (moveX id way speed)).a (takeX (startX a i) (moveX id way speed)).i).a.g = _
   rw [hst]
   show stepG (bndX (takeX (startX a i) (moveX id way speed)).a) (takeX (startX a i) (moveX id way speed)).a.g _ = _
   rw [bnd_of_goes hgo, hgv, hk]
  rw [← e] at htail
  refine ⟨hgv2, ?_⟩
  have hrs : (takeX (startX a i) (moveX id way speed)).rs = [⟨id, 1⟩] := by rw [ht]
  have hkid : k.id = id := by rw [hk]
  have hkt : k.target = a.g.p + way := by rw [hk]
  rcases htail.2 with ⟨t1, t2, t3⟩ | ⟨t1, t2⟩
  ·exact .inl ⟨t1.trans hrs, t2, by rw [← hkt]; exact t3⟩
  ·exact .inr ⟨t1.trans (by rw [hrs, hkid]; rfl), by rw [← hkt]; exact t2⟩
 ·left
  rw [if_neg hok] at hfit
  have ht : takeX (startX a i) (moveX id way speed) = tellX (startX a i) 5 [id] := by
   unfold takeX
   dsimp only
   rw [hfit, if_pos (.inl rfl)]
   rfl
  have hs := steps_idle (a := (startX a i).a) i (by show a.st ≠ 0; omega) (by show a.st ≠ 2; omega) hn
  have e : cycX a i [moveX id way speed] = { tellX (startX a i) 5 [id] with a := goneX (startX a i).a 0 } := by
   rw [cyc_un, hb]
   show endsX { takeX (startX a i) (moveX id way speed) with a := (stepsX (takeX (startX a i) (moveX id way speed)).a i).a } (stepsX (takeX (startX a i) (moveX id way speed)).a i).passed = _
   rw [ht]
   show endsX { tellX (startX a i) 5 [id] with a := (stepsX (startX a i).a i).a } (stepsX (startX a i).a i).passed = _
   rw [hs]
   exact ends_idle (by show a.st ≠ 4 ∧ a.st ≠ 3 ∧ a.st ≠ 2; omega)
  rw [e]
  refine ⟨rfl, ?_⟩
  omega
end Go.Proofs.YtogbhnmkinjpeaaGreat

namespace Go.Proofs.YtogbhnmkinjpeaaGreat
open Go.RowKit

structure AxV (W : World) (a : AX) (sv nv wv : Value) : Prop where
 sm : SmV W a.sm sv
 ln : LineV W 0 a.ns a.ws (.agg #[nv, wv])
 cw : ∀ c ∈ a.ns ++ a.ws, CmdW c
 sta : I64 a.sta
 mas : I64 a.mas
 pos : I64 a.g.p
theorem AxV.below {W W' : World} {a : AX} {sv nv wv : Value} (h : AxV W a sv nv wv) (hb : Below W.heap.size W W') : AxV W' a sv nv wv := ⟨h.sm.below hb, h.ln.below hb, h.cw, h.sta, h.mas, h.pos⟩
structure AxR (W : World) (a : AX) (sv nv wv : Value) : Prop where
 v : AxV W a sv nv wv
 r : rightX a = true
theorem AxR.below {W W' : World} {a : AX} {sv nv wv : Value} (h : AxR W a sv nv wv) (hb : Below W.heap.size W W') : AxR W' a sv nv wv := ⟨h.v.below hb, h.r⟩
theorem AxR.inv {W : World} {a : AX} {sv nv wv : Value} (h : AxR W a sv nv wv) : AxI a := axI_of h.r h.v.cw h.v.sta h.v.mas
theorem AxR.inv0 {W : World} {a : AX} {sv nv wv : Value} (h : AxR W a sv nv wv) (i : INS) : AxI (startX a i).a := h.inv.ov2 (max 0 (min i.ov 100)) (by omega)
theorem AxR.one {W : World} {a : AX} {sv nv wv : Value} (h : AxV W a sv nv wv) {L : List Value} (hL : AxL a sv nv wv L) : L.toArray.all (·.oneCell') = true :=
 axC_one hL h.sm.one4 (LineV.one4 h.ln).1 (LineV.one4 h.ln).2
theorem cyc_step {a : AX} (h : rightX a = true) (i : INS) (cs : List CmdS) : stepX a i cs = ((cycX a i cs).a, (cycX a i cs).rs) := by unfold stepX; rw [h]; rfl
theorem AxR.row {W : World} {a : AX} {sv nv wv : Value} {D g : Nat} (h : AxR W a sv nv wv) (hn : NewV D sv ∧ NewV D nv ∧ NewV D wv) (hg : g < D) (cs : Array Value) : AxR (W.setRow g cs) a sv nv wv := by
 have hb : Buts (fun b => b = g) W (W.setRow g cs) := (Buts.refl _ _).setRow cs
 obtain ⟨r1, r2⟩ := LineV.parts h.v.ln
 refine ⟨⟨h.v.sm.buts hb (fun b o n c hn' e he => ?_), ⟨_, _, rfl, r1.buts hb (fun b o n c hn' e he => ?_), r2.buts hb (fun b o n c hn' e he => ?_)⟩, h.v.cw, h.v.sta, h.v.mas, h.v.pos⟩, h.r⟩
 ·have := hn.1 b o n c hn' e
  omega
 ·have := hn.2.1 b o n c hn' e
  omega
 ·have := hn.2.2 b o n c hn' e
  omega
structure InV (W : World) (i : INS) (cs : List CmdS) (cv : Value) : Prop where
 iw : InW i
 rd : ReadC W cs.length (cmdsC cs) 0 cv
 cw : ∀ c ∈ cs, CmdW c
theorem InV.below {W W' : World} {i : INS} {cs : List CmdS} {cv : Value} (h : InV W i cs cv) (hb : Below W.heap.size W W') : InV W' i cs cv := ⟨h.iw, h.rd.below hb, h.cw⟩
structure StepV (w : World) (n : AX) (rs : List RepS) (L : List Value) (rv : Value) (w' : World) : Prop where
 ax : ∃ sv nv wv, AxR w' n sv nv wv ∧ AxL n sv nv wv L ∧ NewV w.heap.size sv ∧ NewV w.heap.size nv ∧ NewV w.heap.size wv
 own : w'.ownsRow w.heap.size 48 2 rv rs.length (repC rs)
 below : Below w.heap.size w w'
def atD (i : INS) (w : World) : INS := { i with d := w.heap.size + 3 }
theorem astep_right {a : AX} {sv nv wv : Value} {w : World} {L : List Value} (h : AxR w a sv nv wv) (hL : AxL a sv nv wv L) {i : INS} {cs : List CmdS} {cv : Value} (hi : InV w i cs cv) (hn : cs.length ≤ 20) {M : List Value} (hM : InL i cv M) :
  Calls Tryz.prog 11 #[.agg L.toArray, .agg M.toArray] w fun e w' => ∃ L' rv', e = .returned (.tuple #[.agg L'.toArray, rv']) ∧ StepV w (cycX a (atD i w) cs).a (cycX a (atD i w) cs).rs L' rv' w' := by
 have hv := h.inv
 obtain ⟨l1, l2, -, -⟩ := lineB_yes hv.line
 have hl := hv.len
 have hw := hv.win
 rw [hL.eq, hM.eq]
 have hi' : InW (atD i w) := ⟨hi.iw.act, hi.iw.mas⟩
 have hst := step_right (atD i w) cs h.r h.v.cw h.v.sta h.v.mas hi' hi.cw
 have hce := cyc_step h.r (atD i w) cs
 refine (astep_at a (atD i w) cs sv nv wv cv w h.v.sm h.v.ln hi.rd hn h.v.pos (by omega) (by omega) (by omega) h.v.cw hi.cw h.v.sta h.v.mas hi' rfl).mono ?_
 rw [hce] at hst ⊢
 rintro e w' ⟨sv', nv', wv', rv', rfl, p1, p2, p3, p4, p5⟩
 obtain ⟨r1, r2, r3, r4, -⟩ := hst
 have hx := axI_of r1 r2 r3 r4
 have hp := hx.pos
 exact ⟨_, rv', rfl, ⟨sv', nv', wv', ⟨⟨p1, p2, r2, r3, r4, by unfold I64; dsimp only at hp ⊢; omega⟩, r1⟩, ⟨rfl⟩, p5⟩, p3, p4⟩

/-! the fixed answer, evaluated -/
def lim15 : LimS := ⟨5, 2, 2, -100, 100⟩
def in15 (d : Nat) : INS := ⟨true, true, 0, 0, false, false, false, false, false, 100, 0, d⟩
def cmd15 : CmdS := ⟨7, 2, 20, 5, 0, 0, 0⟩
def A15 : AX := ⟨1, lim15, 1, 0, 5, 1, ⟨0, 0⟩, [0], 0, [], [], false, ⟨0, 0, 0, false⟩, 100, 0, 0, 0, false⟩
theorem made15 : madeB lim15 1 0 5 1 = true := by kernel_rfl
theorem right15 : rightX (newX lim15 1 0 5 1) = true := by kernel_rfl
theorem rightA15 : rightX A15 = true := by kernel_rfl
theorem gone15 : goneX A15 0 = A15 := by
 have h := stop_step (bndX A15) A15.g (by kernel_rfl) (by kernel_rfl)
 have e : stepG (bndX A15) A15.g 0 = ⟨0, 0⟩ := h.trans (by kernel_rfl)
 unfold goneX
 rw [e]
 rfl
theorem step15 (d : Nat) : (cycX (newX lim15 1 0 5 1) (in15 d) []).a = A15 := by
 have hb : beginsX (startX (newX lim15 1 0 5 1) (in15 d)) = ⟨A15, in15 d, [], true⟩ := by kernel_rfl
 have hs := steps_idle (a := A15) (in15 d) (by decide) (by decide) rfl
 rw [cyc_un, hb]
 show (endsX { (⟨A15, in15 d, [], true⟩ : WS) with a := (stepsX A15 (in15 d)).a } (stepsX A15 (in15 d)).passed).a = A15
 rw [hs, gone15]
 rfl
theorem g15l (l : LimS) (hr : rightB l = true) (hs : safeB l ⟨0, 0⟩ = true) (hv : l.v = 5) (ha : l.a = 2) (hd : l.d = 2) (hlo : l.lo = -1099511627776) (hhi : l.hi = 1099511627776) : stepG l ⟨0, 0⟩ (toG l ⟨0, 0⟩ 20 5) = ⟨2, 2⟩ := by
 have e1 : toG l ⟨0, 0⟩ 20 5 = min (rch (20 - 0) l.d) (spd 5) := toG_up l ⟨0, 0⟩ 20 5 (by omega) (by decide) (by decide)
 have hm := may_up l ⟨0, 0⟩ hr (by decide)
 have h1 : 5 ≤ rch (20 - 0) l.d := (rch_iff _ _ 5 (by omega) (by omega) (by omega)).2 (by rw [hd]; decide)
 have h2 : 2 ≤ rch (l.hi - 0) l.d := (rch_iff _ _ 2 (by omega) (by omega) (by omega)).2 (by rw [hd, hhi]; decide)
 have hup : mayHi l ⟨0, 0⟩ = max (upLo l 0) (min (min (0 + l.a) l.v) (rch (l.hi - 0) l.d)) := hm.2.2
 have hlo2 : upLo l 0 = 0 := by unfold upLo; omega
 have hl2 : mayLo l ⟨0, 0⟩ ≤ upLo l 0 := hm.1
 have h5 : spd 5 = 5 := by decide
 obtain ⟨r1, hr1⟩ : ∃ x, rch (20 - 0) l.d = x := ⟨_, rfl⟩
 obtain ⟨r2, hr2⟩ : ∃ x, rch (l.hi - 0) l.d = x := ⟨_, rfl⟩
 rw [hr1] at e1 h1
 rw [hr2] at h2 hup
 have hx : max (mayLo l ⟨0, 0⟩) (min (mayHi l ⟨0, 0⟩) (toG l ⟨0, 0⟩ 20 5)) = 2 := by
  rw [e1, hup, hlo2, h5]
  omega
 unfold stepG
 simp only [hx]
 rfl
theorem bnd15 : bndX A15 = ⟨5, 2, 2, -1099511627776, 1099511627776⟩ := rfl
theorem g15 : stepG (bndX A15) A15.g (toG (bndX A15) A15.g 20 5) = ⟨2, 2⟩ := by
 rw [bnd15]
 exact g15l _ (by kernel_rfl) (by kernel_rfl) rfl rfl rfl rfl rfl
theorem step15b (d : Nat) : (cycX A15 (in15 d) [cmd15]).a.st = 4 ∧ (cycX A15 (in15 d) [cmd15]).a.g.p = 2 ∧ (cycX A15 (in15 d) [cmd15]).rs = [⟨7, 1⟩] := by
 have hA : AxI A15 := axI_of rightA15 (fun c hc => by cases hc) (by unfold I64 A15; decide) (by unfold I64 A15; decide)
 have h := first_cyc (a := A15) (in15 d) 7 20 5 hA (good_of rightA15) ⟨⟨by show (-9223372036854775808 : Int) ≤ 0; decide, by show (0 : Int) ≤ 9223372036854775807; decide⟩, ⟨by show (-9223372036854775808 : Int) ≤ 0; decide, by show (0 : Int) ≤ 9223372036854775807; decide⟩⟩ rfl rfl rfl (by decide) (by unfold I64; decide) (by unfold I64; decide) rfl rfl rfl rfl rfl rfl
 have hc : moveX 7 20 5 = cmd15 := rfl
 rw [hc] at h
 rcases h with ⟨h1, h2⟩ | ⟨-, hg, h⟩
 ·exact absurd h2 (by decide)
 ·have hp : A15.g.p + 20 = 20 := by decide
  rw [hp] at hg h
  rw [g15] at hg
  rcases h with ⟨h1, h2, h3⟩ | ⟨h1, h2⟩
  ·exact ⟨h2.st, by rw [hg], h1⟩
  ·have := h2.g
   rw [hg] at this
   injection this with this
   exact absurd this (by decide)
theorem step15c (d : Nat) (F : WS) (h : cycX A15 (in15 d) [cmd15] = F) : F.a.st = 4 ∧ F.a.g.p = 2 ∧ F.rs = [⟨7, 1⟩] := by
 subst h
 exact step15b d
theorem atD15 (w : World) : atD (in15 0) w = in15 (w.heap.size + 3) := rfl

end Go.Proofs.YtogbhnmkinjpeaaGreat
