/- Merged: The plain axis: a move lands at its place, and is done. No program in sight. Layer 15: an axis as it lies in memory; a cycle of it. Layer 15: the fixed answer. Layer 15: is a look not too long? Layer 15: are all cycles not too long for a look? Layer 15: 'n, reports := axis.Step(a, in)': the new axis in a variable of its own. -/
import Derived.Test.YthhfnageadckkaaGreatM42
import Derived.Test.YthhfnageadckkaaGreatM41
import Derived.Test.YthhfnageadckkaaGreatM19
set_option linter.unusedVariables false
set_option linter.unusedSimpArgs false
set_option maxHeartbeats 8000000
namespace Go.Proofs.YthhfnageadckkaaGreat

structure Goes (a : AX) (k : CmdS) (n : AX) : Prop where
 inv : AxI n
 good : Good n
 st : n.st = 4
 ns : n.ns = [k]
 ws : n.ws = []
 ov : n.ov = 100
 l : n.l = a.l
 hd : n.hd = a.hd
 win : n.win = a.win
 off : n.off = a.off
def Left (a : AX) (t : Int) (n : AX) (m : Int) : Prop :=
 (¬ landed n.g t ∧ ∃ N, landsN (bndX a) n.g t N ∧ N + 17 ≤ m) ∨ (landed n.g t ∧ ∃ j : Nat, 1 ≤ j ∧ j ≤ n.sm.length ∧ (∀ i, i < j → n.sm[i]?.getD 0 = t) ∧ 17 - (j : Int) ≤ m)
structure Stands (a : AX) (t : Int) (n : AX) : Prop where
 inv : AxI n
 good : Good n
 st : n.st = 1
 g : n.g = ⟨t, 0⟩
 win : n.win = a.win
 off : n.off = a.off
 out : outX n = n.win * (t + n.off)

theorem scaled_full {a : AX} {v : Int} (h : a.ov = 100) (hv : 1 ≤ v ∧ v ≤ 1048576) : scaledX a v = v := by
 unfold scaledX
 rw [h]
 simp only [RowKit.wrap64, IntKind.wrap_i64]
 rw [show ((v * 100 + 9223372036854775808) % 18446744073709551616 - 9223372036854775808) = v * 100 by omega, Int.mul_tdiv_cancel _ (by decide)]
 omega
theorem bnd_of_goes {a n : AX} {k : CmdS} (h : Goes a k n) : bndX n = bndX a := bnd_eq h.l h.hd
theorem landed_mk {g : GenS} {t : Int} (h : landed g t) : g = ⟨t, 0⟩ := by
 obtain ⟨h1, h2⟩ := h
 cases g
 simp only at h1 h2
 rw [h1, h2]
theorem goes_step {a n : AX} {k : CmdS} (i : INS) (h : Goes a k n) (hk : k.kind = 1) (hs : 1 ≤ k.speed ∧ k.speed ≤ 1048576) :
  stepsX n i = ⟨goneX n (toG (bndX a) n.g k.target k.speed), false⟩ := by
 have hu : underX n = ⟨k, true⟩ := by unfold underX; rw [h.ns]
 have hb : blendX n k = ⟨0, cmd0, false⟩ := by
  have hnx : nextR n.ns n.ws = ⟨cmd0, false⟩ := by
   unfold nextR
   rw [if_pos h.inv.line, h.ws]
  unfold blendX
  rw [hnx]
  rfl
 have hw : wantX n i = ⟨n, toG (bndX a) n.g k.target k.speed, false⟩ := by
  unfold wantX
  rw [if_neg (by rw [h.st]; decide), hu]
  dsimp only
  rw [if_neg (by decide), if_pos ⟨h.st, hk⟩, hb, scaled_full h.ov hs, bnd_of_goes h]
  rfl
 unfold stepsX
 rw [if_neg (by rw [h.st]; decide), hw]
 rfl
theorem goes_tail {a : AX} {k : CmdS} (s : WS) (m : Int) (h : Goes a k s.a) (hi : InW s.i) (hk : k.kind = 1) (hs : 1 ≤ k.speed ∧ k.speed ≤ 1048576) (ht : (bndX a).lo ≤ k.target ∧ k.target ≤ (bndX a).hi) (hm : Left a k.target s.a m) :
  0 ≤ m ∧ (((endsX { s with a := (stepsX s.a s.i).a } (stepsX s.a s.i).passed).rs = s.rs ∧ Goes a k (endsX { s with a := (stepsX s.a s.i).a } (stepsX s.a s.i).passed).a ∧ Left a k.target (endsX { s with a := (stepsX s.a s.i).a } (stepsX s.a s.i).passed).a (m - 1))
   ∨ ((endsX { s with a := (stepsX s.a s.i).a } (stepsX s.a s.i).passed).rs = s.rs ++ [⟨k.id, 2⟩] ∧ Stands a k.target (endsX { s with a := (stepsX s.a s.i).a } (stepsX s.a s.i).passed).a)) := by
 have hst := goes_step s.i h hk hs
 have hgs := good_steps h.inv h.good s.i
 have his := inv_steps h.inv s.i
 rw [hst] at hgs his ⊢
 obtain ⟨gs, s1, s2, s3⟩ := hgs
 dsimp only at gs s1 s2 s3 his ⊢
 have hbr : rightB (bndX a) = true := by rw [← bnd_of_goes h]; exact h.inv.br
 have hsafe : safeB (bndX a) s.a.g = true := by rw [← bnd_of_goes h]; exact h.inv.safe
 obtain ⟨w, hw⟩ : ∃ w : WS, w = { s with a := goneX s.a (toG (bndX a) s.a.g k.target k.speed) } := ⟨_, rfl⟩
 rw [← hw]
 have hwa : w.a = goneX s.a (toG (bndX a) s.a.g k.target k.speed) := by rw [hw]
 have hwg : w.a.g = stepG (bndX a) s.a.g (toG (bndX a) s.a.g k.target k.speed) := by
  rw [hwa]
  show stepG (bndX s.a) s.a.g _ = _
  rw [bnd_of_goes h]
 have hwm : w.a.sm = (w.a.g.p :: s.a.sm).take s.a.sm.length := by rw [hwa]; rfl
 have hgo : Goes a k w.a := by
  rw [hwa]
  exact ⟨his, gs, s1.trans h.st, s2.trans h.ns, s3.trans h.ws, h.ov, h.l, h.hd, h.win, h.off⟩
 have hwl : w.a.sm.length = s.a.sm.length := by rw [hwm]; simp
 have hn1 := h.inv.n1
 have hw16 := h.inv.win
 have hwlen := h.inv.len
 have hleft : 0 ≤ m ∧ (Left a k.target w.a (m - 1) ∨ (landed w.a.g k.target ∧ oneK w.a.sm w.a.sm.length k.target)) := by
  rcases hm with ⟨hn, N, hN, hNm⟩ | ⟨hl, j, j1, j2, j3, j4⟩
  ·have hp := lands_pos (bndX a) s.a.g k.target N hbr hn hN
   refine ⟨by omega, .inl ?_⟩
   have hst := lands_step (bndX a) s.a.g k.target k.speed N w.a.g.p w.a.g.v hbr ht hs.1 hn hN (by rw [hwg])
   by_cases hl : landed w.a.g k.target
   ·refine .inr ⟨hl, 1, by omega, by omega, fun i hi => ?_, by omega⟩
    obtain rfl : i = 0 := by omega
    rw [near_zero hgo.inv.n1 hgo.good.near]
    exact hl.1
   ·exact .inl ⟨hl, N - 1, hst, by omega⟩
  ·have hr : w.a.g = s.a.g := by
    rw [hwg]
    exact lands_rest (bndX a) s.a.g k.target k.speed 0 hbr ht hl ⟨hsafe, .inl ⟨hl, by omega⟩⟩
   have hall : ∀ i, i < min (j + 1) s.a.sm.length → w.a.sm[i]?.getD 0 = k.target := fun i hi => by
    rw [hwm, List.getElem?_take, if_pos (by omega)]
    match i, hi with
    | 0, _ =>
     rw [hr]
     exact hl.1
    | i + 1, hi => exact j3 i (by omega)
   by_cases hj : j + 1 ≤ s.a.sm.length
   ·rw [Nat.min_eq_left hj] at hall
    exact ⟨by omega, .inl (.inr ⟨by rw [hr]; exact hl, j + 1, by omega, by omega, hall, by omega⟩)⟩
   ·rw [Nat.min_eq_right (by omega), ← hwl] at hall
    exact ⟨by omega, .inr ⟨by rw [hr]; exact hl, hall⟩⟩
 refine ⟨hleft.1, ?_⟩
 have hu : underX w.a = ⟨k, true⟩ := by unfold underX; rw [hgo.ns]
 have he : endsX w false = if (stillX w.a && decide (k.target = w.a.g.p)) = true then doneX w 10 else w := by
  unfold endsX
  rw [if_pos hgo.st, hu, hk]
  rfl
 rw [he]
 by_cases hq : (stillX w.a && decide (k.target = w.a.g.p)) = true
 ·rw [if_pos hq]
  simp only [Bool.and_eq_true, decide_eq_true_eq] at hq
  obtain ⟨hv, hone⟩ := still_all hgo.inv hgo.good hq.1
  have hd := done_last hgo.inv.line hgo.ns hgo.ws 10
  have h10 : stV w.a.st 10 = 1 := by rw [hgo.st]; rfl
  rw [h10] at hd
  have hgd := good_done hgo.inv hgo.good hgo.st (by rw [hu])
  have hid := inv_done (s := w) hgo.inv (by rw [hw]; exact hi) 10
  refine .inr ⟨?_, hid, hgd.1, by rw [hd], ?_, by rw [hd]; exact hgo.win, by rw [hd]; exact hgo.off, ?_⟩
  ·unfold doneX
   rw [end_one hgo.inv.line hgo.ns, hgo.ws, hw]
   rfl
  ·rw [hd]
   exact landed_mk ⟨hq.2.symm, hv⟩
  ·rw [hd]
   unfold outX
   dsimp only
   rw [sumK_one hone, hgo.inv.len, ← hq.2, Int.mul_add]
 ·rw [if_neg hq]
  refine .inl ⟨by rw [hw], hgo, ?_⟩
  rcases hleft.2 with hl | ⟨hl, hone⟩
  ·exact hl
  ·refine absurd ?_ hq
   simp only [Bool.and_eq_true, decide_eq_true_eq]
   refine ⟨?_, hl.1.symm⟩
   unfold stillX
   rw [decide_eq_true hl.2, rest_one hgo.inv.smr hone]
   rfl
def moveX (id way speed : Int) : CmdS := ⟨id, 2, way, speed, 0, 0, 0⟩
theorem first_cyc {a : AX} (i : INS) (id way speed : Int) (h : AxI a) (g : Good a) (hi : InW i) (h1 : a.st = 1) (hn : a.ns = []) (hv : a.g.v = 0) (hw : -1000 ≤ way ∧ way ≤ 1000) (hid : I64 id) (hsp : I64 speed)
  (hp : i.pw = true) (ho : i.op = true) (hc : i.cau = 0) (hpl : i.plus = false) (hmi : i.minus = false) (hov : i.ov = 100) :
  ((cycX a i [moveX id way speed]).rs = [⟨id, 5⟩] ∧ (speed < 1 ∨ a.l.v < speed ∨ a.g.p + way < (bndX a).lo ∨ (bndX a).hi < a.g.p + way))
   ∨ ((1 ≤ speed ∧ speed ≤ a.l.v ∧ (bndX a).lo ≤ a.g.p + way ∧ a.g.p + way ≤ (bndX a).hi) ∧ (cycX a i [moveX id way speed]).a.g = stepG (bndX a) a.g (toG (bndX a) a.g (a.g.p + way) speed) ∧
    (((cycX a i [moveX id way speed]).rs = [⟨id, 1⟩] ∧ Goes a ⟨id, 1, a.g.p + way, speed, 0, 0, 0⟩ (cycX a i [moveX id way speed]).a ∧ Left a (a.g.p + way) (cycX a i [moveX id way speed]).a 1020)
     ∨ ((cycX a i [moveX id way speed]).rs = [⟨id, 1⟩, ⟨id, 2⟩] ∧ Stands a (a.g.p + way) (cycX a i [moveX id way speed]).a))) := by
 have hws := (g.fit.nil (.inr (.inl h1))).2
 have hpos := h.pos
 have hy := rightB_yes h.br
 have hsa : (startX a i).a = { a with ov := 100 } := by
  show ({ a with ov := max 0 (min i.ov 100) } : AX) = _
  rw [hov, show max 0 (min (100 : Int) 100) = 100 by decide]
 have hb : beginsX (startX a i) = startX a i := by
  have hce : causeX (startX a i).a (startX a i).i = 0 := by
   rw [hsa]
   show causeX { a with ov := 100 } i = 0
   unfold causeX
   dsimp only
   rw [if_neg (fun h' => by omega), if_neg (by rw [hc]; simp), if_neg (by omega), if_neg (by rw [hp, ho]; simp), if_neg (by rw [hpl, hmi]; simp)]
  unfold beginsX
  dsimp only
  rw [hce, if_neg (by simp), if_neg (by show ¬ a.st = 7; omega), if_neg (by show ¬ (i.pw = false ∧ _); rw [hp]; simp), if_neg (fun h' => by have h'' : a.st = 0 := h'.2; omega)]
 have hfb : fitB (a.g.p + way) = true := decide_eq_true (by omega)
 have hu : underX (startX a i).a = ⟨cmd0, false⟩ := by unfold underX; rw [hsa]; dsimp only; rw [hn]
 have hpx : placeX (startX a i).a (moveX id way speed) = (a.g.p + way, true) := by
  unfold placeX
  rw [if_neg (by show ¬ (2 : Int) = 1; decide)]
  unfold fromX
  rw [if_neg (by rw [hu]; simp), if_neg (by rw [hu]; simp)]
  show (fitV (a.g.p + way), fitB (a.g.p + way)) = _
  rw [hfb, fitV_yes (of_decide_eq_true hfb)]
 have hfit : fitsC (startX a i).a (moveX id way speed) = if (1 ≤ speed ∧ speed ≤ a.l.v) ∧ (bndX a).lo ≤ a.g.p + way ∧ a.g.p + way ≤ (bndX a).hi then ⟨⟨id, 1, a.g.p + way, speed, 0, 0, 0⟩, true⟩ else ⟨moveX id way speed, false⟩ := by
  unfold fitsC
  rw [if_neg (fun h' => h'.1 rfl), if_neg (fun h' => by have h2 : takesB a.st = false := h'.2.2; rw [h1] at h2; cases h2), if_pos (show moveC (moveX id way speed) = true from rfl), hpx]
  have hbb : bndX (startX a i).a = bndX a := rfl
  have hss : speedX (startX a i).a (moveX id way speed).speed = decide (1 ≤ speed ∧ speed ≤ a.l.v) := rfl
  rw [hbb, hss]
  by_cases hc : (1 ≤ speed ∧ speed ≤ a.l.v) ∧ (bndX a).lo ≤ a.g.p + way ∧ a.g.p + way ≤ (bndX a).hi
  ·rw [if_pos hc, if_pos ⟨rfl, decide_eq_true hc.1, hc.2.1, hc.2.2, fun h2 => by have h3 : (2 : Int) = 1 := h2; omega⟩]
   rfl
  ·rw [if_neg hc, if_neg (fun h2 => hc ⟨of_decide_eq_true h2.2.1, h2.2.2.1, h2.2.2.2.1⟩)]
 by_cases hok : (1 ≤ speed ∧ speed ≤ a.l.v) ∧ (bndX a).lo ≤ a.g.p + way ∧ a.g.p + way ≤ (bndX a).hi
 ·refine .inr ⟨⟨hok.1.1, hok.1.2, hok.2.1, hok.2.2⟩, ?_⟩
  rw [if_pos hok] at hfit
  have ht : takeX (startX a i) (moveX id way speed) = { (startX a i) with a := { a with ov := 100, st := 4, ns := [⟨id, 1, a.g.p + way, speed, 0, 0, 0⟩], ws := [] }, rs := [⟨id, 1⟩] } := by
   unfold takeX
   dsimp only
   rw [hfit, if_neg (fun h' => by rcases h' with h' | h' <;> cases h')]
   have hadd : addR (startX a i).a.ns (startX a i).a.ws ⟨id, 1, a.g.p + way, speed, 0, 0, 0⟩ = ⟨[⟨id, 1, a.g.p + way, speed, 0, 0, 0⟩], [], [], 0⟩ := by
    rw [hsa]
    dsimp only
    rw [hn, hws]
    rfl
   dsimp only
   rw [hadd]
   dsimp only
   rw [if_neg (by decide), if_pos (show ([] : List CmdS).length = 0 from rfl), starts_15 (.inl rfl)]
   have h5 : stV a.st 5 = 4 := by rw [h1]; rfl
   show happX (tellX (tellX (lineX (startX a i) _ _) 3 []) 1 [id]) 5 = _
   unfold happX tellX lineX startX
   dsimp only
   rw [h5, hov, show max 0 (min (100 : Int) 100) = 100 by decide]
   rfl
  obtain ⟨k, hk⟩ : ∃ k : CmdS, k = ⟨id, 1, a.g.p + way, speed, 0, 0, 0⟩ := ⟨_, rfl⟩
  rw [← hk] at ht ⊢
  have hcw : CmdW (moveX id way speed) := ⟨hid, by show I64 2; unfold I64; omega, by show I64 way; unfold I64; omega, hsp, by show I64 0; unfold I64; omega, by show I64 0; unfold I64; omega, by show I64 0; unfold I64; omega⟩
  have h0 : AxI (startX a i).a := by rw [hsa]; exact h.ov2 100 (by omega)
  have hg0 := start_good g i
  have hit := inv_take (s := startX a i) h0 hi hcw
  have hgt := (good_take (s := startX a i) h0 hg0 (moveX id way speed)).1
  have hgo : Goes a k (takeX (startX a i) (moveX id way speed)).a := ⟨hit, hgt, by rw [ht], by rw [ht], by rw [ht], by rw [ht], by rw [ht], by rw [ht], by rw [ht], by rw [ht]⟩
  have hgv : (takeX (startX a i) (moveX id way speed)).a.g = a.g := by rw [ht]
  have hleft : Left a k.target (takeX (startX a i) (moveX id way speed)).a 1021 := by
   have hsm : (takeX (startX a i) (moveX id way speed)).a.sm = a.sm := by rw [ht]
   have hkt : k.target = a.g.p + way := by rw [hk]
   unfold Left
   rw [hgv, hsm, hkt]
   by_cases hl : landed a.g (a.g.p + way)
   ·refine .inr ⟨hl, 1, by omega, h.n1, fun j hj => ?_, by omega⟩
    obtain rfl : j = 0 := by omega
    rw [near_zero h.n1 g.near]
    exact hl.1
   ·have hls := lands_start (bndX a) a.g (a.g.p + way) h.br h.safe
    rw [hv, show max (0 : Int) (-0) = 0 by decide, cyc0 _ (by omega), slw_near 0 0 _ (by omega) (by omega)] at hls
    exact .inl ⟨hl, _, hls, by omega⟩
  have htail := goes_tail (takeX (startX a i) (moveX id way speed)) 1021 hgo (by rw [take_i]; exact hi) (by rw [hk]) (by rw [hk]; dsimp only; have := rightB_yes h.lr; omega) (by rw [hk]; exact hok.2) hleft
  have hti : (takeX (startX a i) (moveX id way speed)).i = i := take_i _ _
  have e : cycX a i [moveX id way speed] = endsX { takeX (startX a i) (moveX id way speed) with a := (stepsX (takeX (startX a i) (moveX id way speed)).a (takeX (startX a i) (moveX id way speed)).i).a } (stepsX (takeX (startX a i) (moveX id way speed)).a (takeX (startX a i) (moveX id way speed)).i).passed := by
   rw [cyc_un, hb, hti]
   rfl
  have hgv2 : (cycX a i [moveX id way speed]).a.g = stepG (bndX a) a.g (toG (bndX a) a.g (a.g.p + way) speed) := by
   rw [e]
   have hst := goes_step (takeX (startX a i) (moveX id way speed)).i hgo (by rw [hk]) (by rw [hk]; dsimp only; have := rightB_yes h.lr; omega)
   have gs := good_steps hgo.inv hgo.good (takeX (startX a i) (moveX id way speed)).i
   have o := ends_out (s := { takeX (startX a i) (moveX id way speed) with a := (stepsX (takeX (startX a i) (moveX id way speed)).a (takeX (startX a i) (moveX id way speed)).i).a }) (inv_steps hgo.inv _) gs.1 (stepsX (takeX (startX a i) (moveX id way speed)).a (takeX (startX a i) (moveX id way speed)).i).passed
   rw [(o.2.2.2 (by rw [gs.2.1, hgo.st]; decide)).g]
   show (stepsX (takeX (startX a i) (moveX id way speed)).a (takeX (startX a i) (moveX id way speed)).i).a.g = _
   rw [hst]
   show stepG (bndX (takeX (startX a i) (moveX id way speed)).a) (takeX (startX a i) (moveX id way speed)).a.g _ = _
   rw [bnd_of_goes hgo, hgv, hk]
  rw [← e] at htail
  refine ⟨hgv2, ?_⟩
  have hrs : (takeX (startX a i) (moveX id way speed)).rs = [⟨id, 1⟩] := by rw [ht]
  have hkid : k.id = id := by rw [hk]
  have hkt : k.target = a.g.p + way := by rw [hk]
  rcases htail.2 with ⟨t1, t2, t3⟩ | ⟨t1, t2⟩
  ·exact .inl ⟨t1.trans hrs, t2, by rw [← hkt]; exact t3⟩
  ·exact .inr ⟨t1.trans (by rw [hrs, hkid]; rfl), by rw [← hkt]; exact t2⟩
 ·left
  rw [if_neg hok] at hfit
  have ht : takeX (startX a i) (moveX id way speed) = tellX (startX a i) 5 [id] := by
   unfold takeX
   dsimp only
   rw [hfit, if_pos (.inl rfl)]
   rfl
  have hs := steps_idle (a := (startX a i).a) i (by show a.st ≠ 0; omega) (by show a.st ≠ 2; omega) hn
  have e : cycX a i [moveX id way speed] = { tellX (startX a i) 5 [id] with a := goneX (startX a i).a 0 } := by
   rw [cyc_un, hb]
   show endsX { takeX (startX a i) (moveX id way speed) with a := (stepsX (takeX (startX a i) (moveX id way speed)).a i).a } (stepsX (takeX (startX a i) (moveX id way speed)).a i).passed = _
   rw [ht]
   show endsX { tellX (startX a i) 5 [id] with a := (stepsX (startX a i).a i).a } (stepsX (startX a i).a i).passed = _
   rw [hs]
   exact ends_idle (by show a.st ≠ 4 ∧ a.st ≠ 3 ∧ a.st ≠ 2; omega)
  rw [e]
  refine ⟨rfl, ?_⟩
  omega
end Go.Proofs.YthhfnageadckkaaGreat

namespace Go.Proofs.YthhfnageadckkaaGreat
open Go.RowKit

structure AxV (W : World) (a : AX) (sv nv wv : Value) : Prop where
 sm : SmV W a.sm sv
 ln : LineV W 0 a.ns a.ws (.agg #[nv, wv])
 cw : ∀ c ∈ a.ns ++ a.ws, CmdW c
 sta : I64 a.sta
 mas : I64 a.mas
 pos : I64 a.g.p
theorem AxV.below {W W' : World} {a : AX} {sv nv wv : Value} (h : AxV W a sv nv wv) (hb : Below W.heap.size W W') : AxV W' a sv nv wv := ⟨h.sm.below hb, h.ln.below hb, h.cw, h.sta, h.mas, h.pos⟩
structure AxR (W : World) (a : AX) (sv nv wv : Value) : Prop where
 v : AxV W a sv nv wv
 r : rightX a = true
theorem AxR.below {W W' : World} {a : AX} {sv nv wv : Value} (h : AxR W a sv nv wv) (hb : Below W.heap.size W W') : AxR W' a sv nv wv := ⟨h.v.below hb, h.r⟩
theorem AxR.inv {W : World} {a : AX} {sv nv wv : Value} (h : AxR W a sv nv wv) : AxI a := axI_of h.r h.v.cw h.v.sta h.v.mas
theorem AxR.one {W : World} {a : AX} {sv nv wv : Value} (h : AxV W a sv nv wv) {L : List Value} (hL : AxL a sv nv wv L) : L.toArray.all (·.oneCell') = true :=
 axC_one hL h.sm.one4 (LineV.one4 h.ln).1 (LineV.one4 h.ln).2
theorem cyc_step {a : AX} (h : rightX a = true) (i : INS) (cs : List CmdS) : stepX a i cs = ((cycX a i cs).a, (cycX a i cs).rs) := by unfold stepX; rw [h]; rfl
theorem AxR.row {W : World} {a : AX} {sv nv wv : Value} {D g : Nat} (h : AxR W a sv nv wv) (hn : NewV D sv ∧ NewV D nv ∧ NewV D wv) (hg : g < D) (cs : Array Value) : AxR (W.setRow g cs) a sv nv wv := by
 have hb : Buts (fun b => b = g) W (W.setRow g cs) := (Buts.refl _ _).setRow cs
 obtain ⟨r1, r2⟩ := LineV.parts h.v.ln
 refine ⟨⟨h.v.sm.buts hb (fun b o n c hn' e he => ?_), ⟨_, _, rfl, r1.buts hb (fun b o n c hn' e he => ?_), r2.buts hb (fun b o n c hn' e he => ?_)⟩, h.v.cw, h.v.sta, h.v.mas, h.v.pos⟩, h.r⟩
 ·have := hn.1 b o n c hn' e
  omega
 ·have := hn.2.1 b o n c hn' e
  omega
 ·have := hn.2.2 b o n c hn' e
  omega
structure InV (W : World) (i : INS) (cs : List CmdS) (cv : Value) : Prop where
 iw : InW i
 rd : ReadC W cs.length (cmdsC cs) 0 cv
 cw : ∀ c ∈ cs, CmdW c
theorem InV.below {W W' : World} {i : INS} {cs : List CmdS} {cv : Value} (h : InV W i cs cv) (hb : Below W.heap.size W W') : InV W' i cs cv := ⟨h.iw, h.rd.below hb, h.cw⟩
structure StepV (w : World) (n : AX) (rs : List RepS) (L : List Value) (rv : Value) (w' : World) : Prop where
 ax : ∃ sv nv wv, AxR w' n sv nv wv ∧ AxL n sv nv wv L ∧ NewV w.heap.size sv ∧ NewV w.heap.size nv ∧ NewV w.heap.size wv
 own : w'.ownsRow w.heap.size 48 2 rv rs.length (repC rs)
 below : Below w.heap.size w w'
def atD (i : INS) (w : World) : INS := { i with d := w.heap.size + 3 }
theorem astep_right {a : AX} {sv nv wv : Value} {w : World} {L : List Value} (h : AxR w a sv nv wv) (hL : AxL a sv nv wv L) {i : INS} {cs : List CmdS} {cv : Value} (hi : InV w i cs cv) (hn : cs.length ≤ 20) {M : List Value} (hM : InL i cv M) :
  Calls Tryz.prog 12 #[.agg L.toArray, .agg M.toArray] w fun e w' => ∃ L' rv', e = .returned (.tuple #[.agg L'.toArray, rv']) ∧ StepV w (cycX a (atD i w) cs).a (cycX a (atD i w) cs).rs L' rv' w' := by
 have hv := h.inv
 obtain ⟨l1, l2, -, -⟩ := lineB_yes hv.line
 have hl := hv.len
 have hw := hv.win
 rw [hL.eq, hM.eq]
 have hi' : InW (atD i w) := ⟨hi.iw.act, hi.iw.mas⟩
 have hst := step_right (atD i w) cs h.r h.v.cw h.v.sta h.v.mas hi' hi.cw
 have hce := cyc_step h.r (atD i w) cs
 refine (astep_at a (atD i w) cs sv nv wv cv w h.v.sm h.v.ln hi.rd hn h.v.pos (by omega) (by omega) (by omega) h.v.cw hi.cw h.v.sta h.v.mas hi' rfl).mono ?_
 rw [hce] at hst ⊢
 rintro e w' ⟨sv', nv', wv', rv', rfl, p1, p2, p3, p4, p5⟩
 obtain ⟨r1, r2, r3, r4, -⟩ := hst
 have hx := axI_of r1 r2 r3 r4
 have hp := hx.pos
 exact ⟨_, rv', rfl, ⟨sv', nv', wv', ⟨⟨p1, p2, r2, r3, r4, by unfold I64; dsimp only at hp ⊢; omega⟩, r1⟩, ⟨rfl⟩, p5⟩, p3, p4⟩

/-! the fixed answer, evaluated -/
def lim15 : LimS := ⟨5, 2, 2, -100, 100⟩
def in15 (d : Nat) : INS := ⟨true, true, 0, 0, false, false, false, false, false, 100, 0, d⟩
def cmd15 : CmdS := ⟨7, 2, 20, 5, 0, 0, 0⟩
def A15 : AX := ⟨1, lim15, 1, 0, 5, 1, ⟨0, 0⟩, [0], 0, [], [], false, ⟨0, 0, 0, false⟩, 100, 0, 0, 0, false⟩
theorem made15 : madeB lim15 1 0 5 1 = true := by kernel_rfl
theorem right15 : rightX (newX lim15 1 0 5 1) = true := by kernel_rfl
theorem rightA15 : rightX A15 = true := by kernel_rfl
theorem gone15 : goneX A15 0 = A15 := by
 have h := stop_step (bndX A15) A15.g (by kernel_rfl) (by kernel_rfl)
 have e : stepG (bndX A15) A15.g 0 = ⟨0, 0⟩ := h.trans (by kernel_rfl)
 unfold goneX
 rw [e]
 rfl
theorem step15 (d : Nat) : (cycX (newX lim15 1 0 5 1) (in15 d) []).a = A15 := by
 have hb : beginsX (startX (newX lim15 1 0 5 1) (in15 d)) = ⟨A15, in15 d, [], true⟩ := by kernel_rfl
 have hs := steps_idle (a := A15) (in15 d) (by decide) (by decide) rfl
 rw [cyc_un, hb]
 show (endsX { (⟨A15, in15 d, [], true⟩ : WS) with a := (stepsX A15 (in15 d)).a } (stepsX A15 (in15 d)).passed).a = A15
 rw [hs, gone15]
 rfl
theorem g15l (l : LimS) (hr : rightB l = true) (hs : safeB l ⟨0, 0⟩ = true) (hv : l.v = 5) (ha : l.a = 2) (hd : l.d = 2) (hlo : l.lo = -1099511627776) (hhi : l.hi = 1099511627776) : stepG l ⟨0, 0⟩ (toG l ⟨0, 0⟩ 20 5) = ⟨2, 2⟩ := by
 have e1 : toG l ⟨0, 0⟩ 20 5 = min (rch (20 - 0) l.d) (spd 5) := toG_up l ⟨0, 0⟩ 20 5 (by omega) (by decide) (by decide)
 have hm := may_up l ⟨0, 0⟩ hr (by decide)
 have h1 : 5 ≤ rch (20 - 0) l.d := (rch_iff _ _ 5 (by omega) (by omega) (by omega)).2 (by rw [hd]; decide)
 have h2 : 2 ≤ rch (l.hi - 0) l.d := (rch_iff _ _ 2 (by omega) (by omega) (by omega)).2 (by rw [hd, hhi]; decide)
 have hup : mayHi l ⟨0, 0⟩ = max (upLo l 0) (min (min (0 + l.a) l.v) (rch (l.hi - 0) l.d)) := hm.2.2
 have hlo2 : upLo l 0 = 0 := by unfold upLo; omega
 have hl2 : mayLo l ⟨0, 0⟩ ≤ upLo l 0 := hm.1
 have h5 : spd 5 = 5 := by decide
 obtain ⟨r1, hr1⟩ : ∃ x, rch (20 - 0) l.d = x := ⟨_, rfl⟩
 obtain ⟨r2, hr2⟩ : ∃ x, rch (l.hi - 0) l.d = x := ⟨_, rfl⟩
 rw [hr1] at e1 h1
 rw [hr2] at h2 hup
 have hx : max (mayLo l ⟨0, 0⟩) (min (mayHi l ⟨0, 0⟩) (toG l ⟨0, 0⟩ 20 5)) = 2 := by
  rw [e1, hup, hlo2, h5]
  omega
 unfold stepG
 simp only [hx]
 rfl
theorem bnd15 : bndX A15 = ⟨5, 2, 2, -1099511627776, 1099511627776⟩ := rfl
theorem g15 : stepG (bndX A15) A15.g (toG (bndX A15) A15.g 20 5) = ⟨2, 2⟩ := by
 rw [bnd15]
 exact g15l _ (by kernel_rfl) (by kernel_rfl) rfl rfl rfl rfl rfl
theorem step15b (d : Nat) : (cycX A15 (in15 d) [cmd15]).a.st = 4 ∧ (cycX A15 (in15 d) [cmd15]).a.g.p = 2 ∧ (cycX A15 (in15 d) [cmd15]).rs = [⟨7, 1⟩] := by
 have hA : AxI A15 := axI_of rightA15 (fun c hc => by cases hc) (by unfold I64 A15; decide) (by unfold I64 A15; decide)
 have h := first_cyc (a := A15) (in15 d) 7 20 5 hA (good_of rightA15) ⟨⟨by show (-9223372036854775808 : Int) ≤ 0; decide, by show (0 : Int) ≤ 9223372036854775807; decide⟩, ⟨by show (-9223372036854775808 : Int) ≤ 0; decide, by show (0 : Int) ≤ 9223372036854775807; decide⟩⟩ rfl rfl rfl (by decide) (by unfold I64; decide) (by unfold I64; decide) rfl rfl rfl rfl rfl rfl
 have hc : moveX 7 20 5 = cmd15 := rfl
 rw [hc] at h
 rcases h with ⟨h1, h2⟩ | ⟨-, hg, h⟩
 ·exact absurd h2 (by decide)
 ·have hp : A15.g.p + 20 = 20 := by decide
  rw [hp] at hg h
  rw [g15] at hg
  rcases h with ⟨h1, h2, h3⟩ | ⟨h1, h2⟩
  ·exact ⟨h2.st, by rw [hg], h1⟩
  ·have := h2.g
   rw [hg] at this
   injection this with this
   exact absurd this (by decide)
theorem step15c (d : Nat) (F : WS) (h : cycX A15 (in15 d) [cmd15] = F) : F.a.st = 4 ∧ F.a.g.p = 2 ∧ F.rs = [⟨7, 1⟩] := by
 subst h
 exact step15b d
theorem atD15 (w : World) : atD (in15 0) w = in15 (w.heap.size + 3) := rfl

end Go.Proofs.YthhfnageadckkaaGreat

namespace Go.Proofs.YthhfnageadckkaaGreat
open Go.RowKit
attribute [local go_sem] ite_max ite_min vite_max vite_min ext_cell ext_frozen

set_option maxRecDepth 100000 in
theorem awake15 (w : World) : Calls Tryz.prog 9 #[] w fun e w' => e = .returned (.bool true) ∧ Below w.heap.size w w' := by
 go_enter Tryz.func9, Tryz.ntmps9
 go_wp2_with fail
 refine (anew_any lim15 1 0 5 1 w).mono ?_
 rintro e w1 ⟨hn, hb1⟩
 rcases hn with ⟨-, sv, rfl, hs, hnv⟩ | ⟨h, -⟩
 case inr => rw [made15] at h; cases h
 obtain ⟨L1, hL1⟩ := axL_some (newX lim15 1 0 5 1) sv nilS nilS
 rw [← hL1.eq]
 have HL1 := Lib.hid hL1
 have HB1 := Lib.hid hb1
 have HS1 := Lib.hid hs
 clear hnv hs hb1 hL1
 have hax : AxV w1 (newX lim15 1 0 5 1) sv nilS nilS := ⟨HS1.out, nil_line, fun c hc => by simp [newX] at hc, by show I64 0; unfold I64; decide, by show I64 0; unfold I64; decide, by show I64 0; unfold I64; decide⟩
 have HO1 := Lib.hid (AxR.one hax HL1.out)
 have HN1 : Hid (L1.toArray.size = 26) := Lib.hid (by rw [HL1.out.eq]; rfl)
 have HAX := Lib.hid hax
 clear hax
 go_upto_region 2 with (refine wpList_store_row rfl 35 _ _ rfl w1.heap.size L1.toArray rfl rfl 35 _ (heap_alloc_new _ _) (by rw [List.size_toArray]; exact HL1.out.size) (by rw [HN1.out]; rfl) HO1.out ?_)
 refine wp_name fun W2 hW2 => ?_
 obtain ⟨P, hP⟩ : ∃ P, P = w1.heap.size := ⟨_, rfl⟩
 have hbx : Below w1.heap.size w1 W2 := by rw [hW2.out]; exact below_setRow (below_new (Below.refl _ _) (Nat.le_refl _) _) (Nat.le_refl _) _
 have HK2 : Hid (W2.heap[P]? = some (.cells L1.toArray 35)) := Lib.hid (by rw [hW2.out, hP]; exact setRow_heap _ _ _ _ _ _ (heap_alloc_new _ _))
 have hP2 : P < W2.heap.size := (Array.getElem?_eq_some_iff.1 HK2.out).1
 have HB2 := Lib.hid (HB1.out.trans (hbx.mono HB1.out.size))
 have HPB : Hid (w.heap.size ≤ P) := Lib.hid (by have := HB1.out.size; omega)
 have HR2 : Hid (AxR W2 (newX lim15 1 0 5 1) sv nilS nilS) := Lib.hid ⟨HAX.out.below hbx, right15⟩
 (try rw [← hP])
 clear hW2 hP hbx HB1 HS1 HAX HO1
 go_wp2_with (refine wpList_load_row rfl 35 _ rfl P rfl 35 L1.toArray (0, 0) _ HK2.out Tryz.underlying35 rfl HL1.out.size ?_)
 refine (astep_right (M := inC (in15 0) nilS) HR2.out HL1.out (i := in15 0) (cs := []) (cv := nilS) ⟨⟨by show I64 0; unfold I64; decide, by show I64 0; unfold I64; decide⟩, nil_read, fun c hc => by cases hc⟩ (by decide) ⟨rfl⟩).mono ?_
 rintro e w3 ⟨L2, rv2, rfl, hst⟩
 obtain ⟨⟨sv2, nv2, wv2, hr2, hl2, hn2⟩, -, hb3⟩ := hst
 have HNV := Lib.hid hn2
 have HP2 := Lib.hid hP2
 rw [show (cycX (newX lim15 1 0 5 1) (atD (in15 0) W2) []).a = A15 from step15 _] at hr2 hl2
 have HL2 := Lib.hid hl2
 have HR3 := Lib.hid hr2
 have HK3 := Lib.hid ((hb3.block P hP2).trans HK2.out)
 have hP3 := Nat.lt_of_lt_of_le hP2 hb3.size
 have HB3 := Lib.hid (HB2.out.trans (hb3.mono HB2.out.size))
 clear hr2 hl2 hb3 hn2 HK2 HB2 HR2 hP2
 have HO2 := Lib.hid (AxR.one HR3.out.v HL2.out)
 have HN2 : Hid (L2.toArray.size = 26) := Lib.hid (by rw [HL2.out.eq]; rfl)
 go_upto_region 3 with (refine wpList_store_row rfl 35 _ _ rfl P L2.toArray rfl rfl 35 _ HK3.out (by rw [List.size_toArray]; exact HL2.out.size) (by rw [HN1.out, HN2.out]) HO2.out ?_)
 refine wp_name fun W4 hW4 => ?_
 have HB4 : Hid (Below w.heap.size w W4) := by rw [hW4.out]; exact Lib.hid (below_setRow HB3.out HPB.out _)
 have HK4 : Hid (W4.heap[P]? = some (.cells L2.toArray 35)) := by rw [hW4.out]; exact Lib.hid (setRow_heap _ _ _ _ _ _ HK3.out)
 have HR4 : Hid (AxR W4 A15 sv2 nv2 wv2) := by
  rw [hW4.out]
  exact Lib.hid (HR3.out.row HNV.out HP2.out _)
 have hP4 : P < W4.heap.size := (Array.getElem?_eq_some_iff.1 HK4.out).1
 clear hW4 HB3 HK3 HR3 hP3 HO2
 go_wp2_with (refine wpList_load_row rfl 35 _ rfl P rfl 35 L2.toArray (0, 0) _ HK4.out Tryz.underlying35 rfl HL2.out.size ?_)
 have hbc := below_new (Below.refl W4.heap.size W4) (Nat.le_refl _) (Obj.cells #[Value.int IntKind.i64 7, Value.int IntKind.i64 2, Value.int IntKind.i64 20, Value.int IntKind.i64 5, Value.int IntKind.i64 0, Value.int IntKind.i64 0, Value.int IntKind.i64 0] 63)
 have HBC := Lib.hid hbc
 have HCR : Hid (ReadC (W4.alloc (Obj.cells #[Value.int IntKind.i64 7, Value.int IntKind.i64 2, Value.int IntKind.i64 20, Value.int IntKind.i64 5, Value.int IntKind.i64 0, Value.int IntKind.i64 0, Value.int IntKind.i64 0] 63)) [cmd15].length (cmdsC [cmd15]) 0 (.slice (some ⟨W4.heap.size, 0, none⟩) 1 1)) := Lib.hid
  ⟨_, _, rfl, by decide, by decide, ⟨rfl, fun _ => ⟨W4.heap.size, 0, rfl, by simp, fun j u hu => by
   rw [Nat.zero_add]
   exact heap_cell j u (heap_alloc_new _ _) (by rw [List.getElem?_toArray]; exact hu)⟩⟩, fun _ _ _ _ => Nat.zero_le _⟩
 clear hbc
 refine (astep_right (M := inC (in15 0) (.slice (some ⟨W4.heap.size, 0, none⟩) 1 1)) (HR4.out.below HBC.out) HL2.out (i := in15 0) (cs := [cmd15]) (cv := .slice (some ⟨W4.heap.size, 0, none⟩) 1 1) ⟨⟨by show I64 0; unfold I64; decide, by show I64 0; unfold I64; decide⟩, HCR.out, fun c hc => by rw [List.mem_singleton.1 hc]; exact ⟨by show I64 7; unfold I64; decide, by show I64 2; unfold I64; decide, by show I64 20; unfold I64; decide, by show I64 5; unfold I64; decide, by show I64 0; unfold I64; decide, by show I64 0; unfold I64; decide, by show I64 0; unfold I64; decide⟩⟩ (by decide) ⟨rfl⟩).mono ?_
 rintro e w5 ⟨L3, rv3, rfl, hst⟩
 obtain ⟨F3, hF3⟩ : ∃ x : WS, cycX A15 (atD (in15 0) (W4.alloc (Obj.cells #[Value.int IntKind.i64 7, Value.int IntKind.i64 2, Value.int IntKind.i64 20, Value.int IntKind.i64 5, Value.int IntKind.i64 0, Value.int IntKind.i64 0, Value.int IntKind.i64 0] 63))) [cmd15] = x := ⟨_, rfl⟩
 rw [hF3] at hst
 rw [atD15] at hF3
 have h15 := step15c _ F3 hF3
 obtain ⟨e1, e2, e3⟩ := h15
 clear hF3
 obtain ⟨⟨sv3, nv3, wv3, hr3, hl3, -⟩, hown, hb5⟩ := hst
 rw [e3] at hown
 obtain ⟨g, cap, rfl, -, hglt⟩ := hown.form (by decide)
 have hlie := Lies.own hown
 obtain ⟨b, off, eb, hb, hcell⟩ := hlie.2 (by decide)
 injection eb with eb
 injection eb with eb1 eb2
 subst eb1 eb2
 have r0 : w5.cell? ⟨g, 0, none⟩ = some (.int .i64 7) := hcell 0 _ rfl
 have r1 : w5.cell? ⟨g, 1, none⟩ = some (.int .i64 1) := hcell 1 _ rfl
 have HB5 := Lib.hid (HB4.out.trans ((HBC.out.trans (hb5.mono HBC.out.size)).mono HB4.out.size))
 have HK5 := Lib.hid ((hb5.block P (Nat.lt_of_lt_of_le hP4 HBC.out.size)).trans ((HBC.out.block P hP4).trans HK4.out))
 have HL3 := Lib.hid hl3
 have HO3 := Lib.hid (AxR.one hr3.v hl3)
 have HN3 : Hid (L3.toArray.size = 26) := Lib.hid (by rw [hl3.eq]; rfl)
 have HE1 := Lib.hid e1
 have HE2 := Lib.hid e2
 clear hcell hlie hown hr3 hl3 hb5 e1 e2 e3 HBC HCR HR4 HK4 HB4 hP4
 go_upto_region 4 with (refine wpList_store_row rfl 35 _ _ rfl w5.heap.size L3.toArray rfl rfl 35 _ (heap_alloc_new _ _) (by rw [List.size_toArray]; exact HL3.out.size) (by rw [HN3.out]; rfl) HO3.out ?_)
 refine wp_name fun W6 hW6 => ?_
 obtain ⟨Q, hQ⟩ : ∃ Q, Q = w5.heap.size := ⟨_, rfl⟩
 have hbx : Below w5.heap.size w5 W6 := by rw [hW6.out]; exact below_setRow (below_new (Below.refl _ _) (Nat.le_refl _) _) (Nat.le_refl _) _
 have HK6 : Hid (W6.heap[Q]? = some (.cells L3.toArray 35)) := Lib.hid (by rw [hW6.out, hQ]; exact setRow_heap _ _ _ _ _ _ (heap_alloc_new _ _))
 have hP5 : P < w5.heap.size := (Array.getElem?_eq_some_iff.1 HK5.out).1
 have k0 : W6.cell? ⟨P, 0, none⟩ = some (.int .i64 1) := heap_cell 0 _ ((hbx.block P hP5).trans HK5.out) (by rw [HL2.out.eq]; rfl)
 have q0 : W6.cell? ⟨Q, 0, none⟩ = some (.int .i64 4) := heap_cell 0 _ HK6.out (by rw [HL3.out.eq, ← HE1.out]; rfl)
 have q10 : W6.cell? ⟨Q, 10, none⟩ = some (.int .i64 2) := heap_cell 10 _ HK6.out (by rw [HL3.out.eq, ← HE2.out]; rfl)
 have s0 := (hbx.cell (p := ⟨g, 0, none⟩) hglt).trans r0
 have s1 := (hbx.cell (p := ⟨g, 1, none⟩) hglt).trans r1
 have HB6 := Lib.hid (HB5.out.trans (hbx.mono HB5.out.size))
 (try rw [← hQ])
 clear hW6 hQ hbx HK6 HB5 HK5 r0 r1 HE1 HE2 HL3 HL2
 go_wp2
 go_ret
 exact ⟨rfl, HB6.out⟩


def shortX (a : AX) (cs : List CmdS) : Bool := decide (a.ns.length ≤ 10 ∧ a.ws.length ≤ 10 ∧ a.sm.length ≤ 40 ∧ cs.length ≤ 20)
structure InX where
 i : INS
 cs : List CmdS
 cv : Value
def InX.cells (x : InX) : List Value := inC x.i x.cv
set_option maxRecDepth 100000 in
theorem short15_at (a : AX) (sv nv wv : Value) (w : World) (h : AxV w a sv nv wv) (i : INS) (cs : List CmdS) (cv : Value) (n : Nat) (hn : cs.length = n) (hc : ∃ A c, cv = .slice A n c) (r : Bool) (hr : shortX a cs = r) :
  Calls Tryz.prog 14 #[.agg (axC a sv nv wv).toArray, .agg (inC i cv).toArray] w fun e w' => e = .returned (.bool r) ∧ Below w.heap.size w w' := by
 obtain ⟨E, f, rfl, -, -, -⟩ := h.sm
 obtain ⟨⟨A, c, rfl, -, -, -, -⟩, ⟨D, d, rfl, -, -, -, -⟩⟩ := LineV.parts h.ln
 obtain ⟨C, g, rfl⟩ := hc
 obtain ⟨k, hk⟩ : ∃ k, a.sm.length = k := ⟨_, rfl⟩
 obtain ⟨p, hp⟩ : ∃ k, a.ns.length = k := ⟨_, rfl⟩
 obtain ⟨q, hq⟩ : ∃ k, a.ws.length = k := ⟨_, rfl⟩
 have HR : Hid (decide (p ≤ 10 ∧ q ≤ 10 ∧ k ≤ 40 ∧ n ≤ 20) = r) := Lib.hid (by rw [← hr]; unfold shortX; rw [hk, hp, hq, hn])
 rw [hk, hp, hq]
 clear hr h hk hp hq hn
 show Calls Tryz.prog 14 #[.agg #[.int .i64 a.st, .int .i64 a.l.v, .int .i64 a.l.a, .int .i64 a.l.d, .int .i64 a.l.lo, .int .i64 a.l.hi, .int .i64 a.win, .int .i64 a.hat, .int .i64 a.fast, .int .i64 a.creep, .int .i64 a.g.p, .int .i64 a.g.v, .slice E k f, .int .i64 a.off, .slice A p c, .slice D q d, .bool a.hd, .int .i64 a.h.p, .int .i64 a.h.f, .int .i64 a.h.c, .bool a.h.t, .int .i64 a.ov, .int .i64 a.sta, .int .i64 a.mas, .int .i64 a.cau, .bool a.ins], .agg #[.bool i.pw, .bool i.op, .int .i64 i.act, .int .i64 i.cau, .bool i.plus, .bool i.minus, .bool i.hm, .bool i.reset, .bool i.rel, .int .i64 i.ov, .int .i64 i.mas, .slice C n g]] w _
 go_enter Tryz.func14, Tryz.ntmps14
 by_cases e1 : p ≤ 10
 ·by_cases e2 : q ≤ 10
  ·by_cases e3 : k ≤ 40
   ·by_cases e4 : n ≤ 20
    ·obtain rfl : true = r := by rw [← HR.out]; exact (decide_eq_true ⟨e1, e2, e3, e4⟩).symm
     have d1 : (p : Int) ≤ 10 := by omega
     have d2 : (q : Int) ≤ 10 := by omega
     have d3 : (k : Int) ≤ 40 := by omega
     have d4 : (n : Int) ≤ 20 := by omega
     clear HR e1 e2 e3 e4
     go_wp2
     go_ret
     exact ⟨rfl, by exact belowBy⟩
    ·obtain rfl : false = r := by rw [← HR.out]; exact (decide_eq_false (fun h => e4 h.2.2.2)).symm
     have d1 : (p : Int) ≤ 10 := by omega
     have d2 : (q : Int) ≤ 10 := by omega
     have d3 : (k : Int) ≤ 40 := by omega
     have d4 : ¬ (n : Int) ≤ 20 := by omega
     clear HR e1 e2 e3 e4
     go_wp2
     go_ret
     exact ⟨rfl, by exact belowBy⟩
   ·obtain rfl : false = r := by rw [← HR.out]; exact (decide_eq_false (fun h => e3 h.2.2.1)).symm
    have d1 : (p : Int) ≤ 10 := by omega
    have d2 : (q : Int) ≤ 10 := by omega
    have d3 : ¬ (k : Int) ≤ 40 := by omega
    clear HR e1 e2 e3
    go_wp2
    go_ret
    exact ⟨rfl, by exact belowBy⟩
  ·obtain rfl : false = r := by rw [← HR.out]; exact (decide_eq_false (fun h => e2 h.2.1)).symm
   have d1 : (p : Int) ≤ 10 := by omega
   have d2 : ¬ (q : Int) ≤ 10 := by omega
   clear HR e1 e2
   go_wp2
   go_ret
   exact ⟨rfl, by exact belowBy⟩
 ·obtain rfl : false = r := by rw [← HR.out]; exact (decide_eq_false (fun h => e1 h.1)).symm
  have d1 : ¬ (p : Int) ≤ 10 := by omega
  clear HR e1
  go_wp2
  go_ret
  exact ⟨rfl, by exact belowBy⟩


end Go.Proofs.YthhfnageadckkaaGreat

namespace Go.Proofs.YthhfnageadckkaaGreat
open Go.RowKit

structure NVar (D : Nat) (n : AX) (rs : List RepS) (L : List Value) (rv : Value) (Q : Nat) (W : World) : Prop where
 blk : W.heap[Q]? = some (.cells L.toArray 35)
 ax : ∃ sv nv wv, AxR W n sv nv wv ∧ AxL n sv nv wv L ∧ NewV D sv ∧ NewV D nv ∧ NewV D wv
 own : W.ownsRow D 48 2 rv rs.length (repC rs)
 q : D ≤ Q
theorem NVar.below {D Q : Nat} {n : AX} {rs : List RepS} {L : List Value} {rv : Value} {W W' : World} (h : NVar D n rs L rv Q W) (hb : Below W.heap.size W W') : NVar D n rs L rv Q W' := by
 obtain ⟨sv, nv, wv, h1, h2, h3⟩ := h.ax
 exact ⟨(hb.block Q (Array.getElem?_eq_some_iff.1 h.blk).1).trans h.blk, ⟨sv, nv, wv, h1.below hb, h2, h3⟩, owns_below h.own hb, h.q⟩
theorem NVar.lt {D Q : Nat} {n : AX} {rs : List RepS} {L : List Value} {rv : Value} {W : World} (h : NVar D n rs L rv Q W) : Q < W.heap.size := (Array.getElem?_eq_some_iff.1 h.blk).1
theorem NewV.mono {D E : Nat} {v : Value} (h : NewV E v) (hD : D ≤ E) : NewV D v := fun b o n c hn e => Nat.le_trans hD (h b o n c hn e)
theorem NVar.move {D Q P : Nat} {n : AX} {rs : List RepS} {L : List Value} {rv : Value} {W : World} {zs : Array Value} (h : NVar D n rs L rv Q W) (hP : P < D) (hz : W.heap[P]? = some (.cells zs 35)) :
  (W.setRow P L.toArray).heap[P]? = some (.cells L.toArray 35) ∧ ∃ sv nv wv, AxR (W.setRow P L.toArray) n sv nv wv ∧ AxL n sv nv wv L := by
 obtain ⟨sv, nv, wv, h1, h2, h3⟩ := h.ax
 exact ⟨setRow_heap _ _ _ _ _ _ hz, sv, nv, wv, h1.row h3 hP _, h2⟩
theorem aright_L (a : AX) (sv nv wv : Value) (L : List Value) (r : Bool) (w : World) (h : AxV w a sv nv wv) (hL : AxL a sv nv wv L) (hr : rightX a = r) :
  Calls Tryz.prog 11 #[.agg L.toArray] w fun e w' => e = .returned (.bool r) ∧ Below w.heap.size w w' := by
 rw [hL.eq]
 exact aright_at a sv nv wv r w h.sm h.ln h.pos hr
theorem range_of {W : World} {B : Nat} {L : List Value} {T : TypeId} (h : W.heap[B]? = some (.cells L.toArray T)) : W.rangeAt B 0 L := fun j u hu => by
 rw [Nat.zero_add]
 exact heap_cell j u h (by rw [List.getElem?_toArray]; exact hu)
end Go.Proofs.YthhfnageadckkaaGreat
