/- Merged: The plain axis: what each part of a cycle does to a right axis; its state. No program in sight. The plain axis: a right axis stays right; its state goes by one edge, or stays. No program in sight. The plain axis: what its drive is told moves by no more than it may. No program in sight. The plain axis: an error, and what is behind it; an axis at rest. No program in sight. -/
import Derived.Test.YthhfnageadckkaaGreatM41
set_option linter.unusedVariables false
set_option linter.unusedSimpArgs false
namespace Go.Proofs.YthhfnageadckkaaGreat

theorem FitP.congr {a b : AX} (h : FitP a) (e1 : b.st = a.st) (e2 : b.ns = a.ns) (e3 : b.ws = a.ws) (e4 : b.l = a.l) (e5 : bndX b = bndX a) : FitP b := by
 rcases h with ⟨h, hw, hs⟩ | ⟨c, h, hw, hs, hc⟩ | ⟨c, h, hw, hs, hc⟩ | ⟨c, h, hw, hs, hc, h0, h1, h2⟩ | ⟨c, h, hw, hs, hc, hd⟩ | ⟨c, h, hw, hs, hc⟩ | ⟨c, h, hs, hm⟩
 ·exact .none (e2.trans h) (e3.trans hw) (by rw [e1]; exact hs)
 ·exact .home c (e2.trans h) (e3.trans hw) (e1.trans hs) hc
 ·exact .stop c (e2.trans h) (e3.trans hw) (e1.trans hs) hc
 ·exact .speed c (e2.trans h) (e3.trans hw) (e1.trans hs) hc h0 (by rw [e4]; exact h1) (by rw [e4]; exact h2)
 ·exact .gear c (e2.trans h) (e3.trans hw) (e1.trans hs) hc hd
 ·exact .halt c (e2.trans h) (e3.trans hw) (e1.trans hs) hc
 ·refine .moves c (e2.trans h) (e1.trans hs) fun i x hx => ?_
  rw [e2, e3] at hx
  rw [e4, e5]
  exact hm i x hx
theorem FitP.nil {a : AX} (h : FitP a) (hs : a.st = 0 ∨ a.st = 1 ∨ a.st = 7) : a.ns = [] ∧ a.ws = [] := by
 rcases h with ⟨h, hw, _⟩ | ⟨c, h, hw, hs', hc⟩ | ⟨c, h, hw, hs', hc⟩ | ⟨c, h, hw, hs', hc, h0, h1, h2⟩ | ⟨c, h, hw, hs', hc, hd⟩ | ⟨c, h, hw, hs', hc⟩ | ⟨c, h, hs', hm⟩
 ·exact ⟨h, hw⟩
 all_goals omega
section
variable {s : WS}
theorem fails_a (c : Int) : (failsX s c).a = { s.a with ns := [], ws := [], cau := c, st := stV s.a.st 11 } := by
 unfold failsX
 cases s.a.ns <;> rfl
theorem good_fails (g : Good s.a) (c : Int) : Good (failsX s c).a ∧ (failsX s c).a.st = 7 := by
 have h7 : stV s.a.st 11 = 7 := stV_err g.st
 rw [fails_a, h7]
 exact ⟨⟨⟨by show (0 : Int) ≤ 7; omega, by show (7 : Int) ≤ 7; omega⟩, g.near, .none rfl rfl (.inr (.inr (.inr rfl))), fun h => by have h' : (7 : Int) = 2 := h; omega⟩, rfl⟩
theorem good_off (g : Good s.a) (hs : s.a.st ≠ 0) : Good (offX s).a ∧ (offX s).a.st = 0 := by
 have h0 : stV s.a.st 2 = 0 := stV_off (by have := g.st; omega)
 have he : (offX s).a = { s.a with ns := [], ws := [], g := ⟨s.a.g.p, 0⟩, sm := List.replicate s.a.win.toNat s.a.g.p, st := stV s.a.st 2 } := rfl
 rw [he, h0]
 exact ⟨⟨⟨by show (0 : Int) ≤ 0; omega, by show (0 : Int) ≤ 7; omega⟩, near_same _ _, .none rfl rfl (.inl rfl), fun h => by have h' : (0 : Int) = 2 := h; omega⟩, rfl⟩
theorem good_on (g : Good s.a) (hs : s.a.st = 0) : Good (onX s).a ∧ (onX s = s ∨ ((onX s).a.st = 1 ∧ (onX s).fr = true)) := by
 have h1 : stV s.a.st 1 = 1 := by rw [hs]; rfl
 have hn := g.fit.nil (.inl hs)
 unfold onX
 dsimp only
 split
 ·exact ⟨g, .inl rfl⟩
 ·split
  ·split
   ·refine ⟨⟨?_, near_same _ _, .none hn.1 hn.2 (.inr (.inl h1)), fun h => ?_⟩, .inr ⟨h1, rfl⟩⟩
    ·show 0 ≤ stV s.a.st 1 ∧ stV s.a.st 1 ≤ 7
     rw [h1]; omega
    ·have h' : stV s.a.st 1 = 2 := h
     omega
   ·exact ⟨g, .inl rfl⟩
  ·split
   ·exact ⟨g, .inl rfl⟩
   ·split
    ·refine ⟨⟨?_, near_same _ _, .none hn.1 hn.2 (.inr (.inl h1)), fun h => ?_⟩, .inr ⟨h1, rfl⟩⟩
     ·show 0 ≤ stV s.a.st 1 ∧ stV s.a.st 1 ≤ 7
      rw [h1]; omega
     ·have h' : stV s.a.st 1 = 2 := h
      omega
    ·exact ⟨g, .inl rfl⟩
inductive Began (s n : WS) : Prop
 | same (h : n = s)
 | err (h : n.a.st = 7)
 | off (h : n.a.st = 0) (h0 : s.a.st ≠ 0)
 | fresh (h : n.a.st = 1) (hf : n.fr = true) (hs : s.a.st = 0 ∨ s.a.st = 7)
theorem good_begins (g : Good s.a) : Good (beginsX s).a ∧ Began s (beginsX s) := by
 unfold beginsX
 dsimp only
 split
 ·exact ⟨(good_fails g _).1, .err (good_fails g _).2⟩
 ·split
  ·rename_i h7
   split
   ·have h1 : stV s.a.st 12 = 1 := by rw [h7]; rfl
    have hn := g.fit.nil (.inr (.inr h7))
    refine ⟨⟨?_, g.near, .none hn.1 hn.2 (.inr (.inl h1)), fun h => ?_⟩, .fresh h1 rfl (.inr h7)⟩
    ·show 0 ≤ stV s.a.st 12 ∧ stV s.a.st 12 ≤ 7
     rw [h1]; omega
    ·have h' : stV s.a.st 12 = 2 := h
     omega
   ·exact ⟨g, .same rfl⟩
  ·split
   ·rename_i h0
    exact ⟨(good_off g h0.2).1, .off (good_off g h0.2).2 h0.2⟩
   ·split
    ·rename_i h0
     have ho := good_on g h0.2
     exact ⟨ho.1, ho.2.elim (fun h => .same h) (fun h => .fresh h.1 h.2 (.inl h0.2))⟩
    ·exact ⟨g, .same rfl⟩

inductive KeptP (a : AX) (k : CmdS) : Prop
 | move (ht : takesB a.st = true) (hk : k.kind = 1) (h1 : 1 ≤ k.speed) (h2 : k.speed ≤ a.l.v) (h3 : (bndX a).lo ≤ k.target) (h4 : k.target ≤ (bndX a).hi) (hm : k.mode ≠ 0 → (underX a).ok = true → moveC (underX a).x = true)
 | speed (ht : takesB a.st = true) (hm : k.mode = 0) (hk : k.kind = 4) (h0 : k.speed ≠ 0) (h1 : k.speed ≤ a.l.v) (h2 : -a.l.v ≤ k.speed)
 | halt (ht : takesB a.st = true) (hm : k.mode = 0) (hk : k.kind = 5)
 | stop (ht : takesB a.st = true ∨ a.st = 2) (hm : k.mode = 0) (hk : k.kind = 6)
 | home (ht : a.st = 1) (hm : k.mode = 0) (hk : k.kind = 7)
 | gear (ht : takesB a.st = true) (hm : k.mode = 0) (hk : k.kind = 8) (hd : 0 < k.den)
theorem fitsC_ok {a : AX} {c : CmdS} (hv : 1 ≤ a.l.v) (h : (fitsC a c).ok = true) : KeptP a (fitsC a c).c := by
 unfold fitsC at h ⊢
 by_cases c1 : c.mode ≠ 0 ∧ (moveC c = false ∨ (underX a).ok = true ∧ moveC (underX a).x = false)
 ·rw [if_pos c1] at h
  cases h
 rw [if_neg c1] at h ⊢
 by_cases c2 : c.kind ≠ 7 ∧ c.kind ≠ 6 ∧ takesB a.st = false
 ·rw [if_pos c2] at h
  cases h
 rw [if_neg c2] at h ⊢
 have ht : c.kind ≠ 7 → c.kind ≠ 6 → takesB a.st = true := fun h7 h6 => by
  cases h' : takesB a.st
  ·exact absurd ⟨h7, h6, h'⟩ c2
  ·rfl
 by_cases c3 : moveC c = true
 ·rw [if_pos c3] at h ⊢
  have hk := of_decide_eq_true c3
  by_cases c4 : (placeX a c).2 = true ∧ speedX a c.speed = true ∧ (bndX a).lo ≤ (placeX a c).1 ∧ (placeX a c).1 ≤ (bndX a).hi ∧ (c.kind = 1 → a.hd = true)
  ·rw [if_pos c4] at h ⊢
   have hs := of_decide_eq_true c4.2.1
   refine .move (ht (by omega) (by omega)) rfl hs.1 hs.2 c4.2.2.1 c4.2.2.2.1 fun hm ho => ?_
   cases h' : moveC (underX a).x
   ·exact absurd ⟨hm, .inr ⟨ho, h'⟩⟩ c1
   ·rfl
  ·rw [if_neg c4] at h
   cases h
 rw [if_neg c3] at h ⊢
 have hm : c.mode = 0 := by
  by_cases h0 : c.mode = 0
  ·exact h0
  ·exact absurd ⟨h0, .inl (by simpa using c3)⟩ c1
 by_cases c4 : c.kind = 4
 ·rw [if_pos c4] at h ⊢
  simp only [speedX, Bool.or_eq_true, decide_eq_true_eq] at h
  exact .speed (ht (by omega) (by omega)) hm c4 (by show c.speed ≠ 0; omega) (by show c.speed ≤ a.l.v; omega) (by show -a.l.v ≤ c.speed; omega)
 rw [if_neg c4] at h ⊢
 by_cases c5 : c.kind = 5
 ·rw [if_pos c5]
  exact .halt (ht (by omega) (by omega)) hm c5
 rw [if_neg c5] at h ⊢
 by_cases c6 : c.kind = 6
 ·rw [if_pos c6] at h ⊢
  simp only [Bool.or_eq_true, decide_eq_true_eq] at h
  exact .stop h hm c6
 rw [if_neg c6] at h ⊢
 by_cases c7 : c.kind = 7
 ·rw [if_pos c7] at h ⊢
  exact .home (of_decide_eq_true h) hm c7
 rw [if_neg c7] at h ⊢
 by_cases c8 : c.kind = 8
 ·rw [if_pos c8] at h ⊢
  have := of_decide_eq_true h
  exact .gear (ht (by omega) (by omega)) hm c8 (by show 0 < c.den; omega)
 rw [if_neg c8] at h
 cases h
theorem add_shape {ns ws : List CmdS} {x : CmdS} (h : lineB ns ws = true) (he : (addR ns ws x).e = 0) :
  ((addR ns ws x).ns = [x] ∧ (addR ns ws x).ws = []) ∨ (x.mode ≠ 0 ∧ ∃ y, ns = [y] ∧ (addR ns ws x).ns = [y] ∧ (addR ns ws x).ws = ws ++ [x]) := by
 unfold addR at he ⊢
 by_cases hm : (lineB ns ws && modeB x.mode) = false
 ·rw [if_pos hm] at he
  exact absurd he (by decide)
 rw [if_neg hm] at he ⊢
 by_cases h0 : x.mode = 0
 ·rw [if_pos h0]
  exact .inl ⟨rfl, rfl⟩
 rw [if_neg h0] at he ⊢
 by_cases h5 : ws.length = 4
 ·rw [if_pos h5] at he
  exact absurd he (by decide)
 rw [if_neg h5]
 rcases line_cases h with ⟨rfl, rfl⟩ | ⟨y, rfl⟩
 ·exact .inl ⟨rfl, rfl⟩
 ·exact .inr ⟨h0, y, rfl, rfl, rfl⟩

inductive Took (a n : AX) : Prop
 | same (h : n = a)
 | more (hs : n.st = a.st) (ht : takesB a.st = true) (hn : n.ns ≠ [])
 | lead (ht : takesB a.st = true) (h : n.st = 3 ∨ n.st = 4 ∨ n.st = 5 ∨ n.st = 6) (hn : n.ns ≠ [])
 | home (h1 : a.st = 1) (h2 : n.st = 2)
 | stop (h1 : a.st = 2) (h2 : n.st = 3) (hn : n.ns ≠ [])
theorem starts_15 {k : CmdS} (h : k.kind = 1 ∨ k.kind = 5) : startsX s k = happX (tellX s 1 [k.id]) 5 := by
 unfold startsX
 dsimp only
 rw [if_pos h]
theorem starts_4 {k : CmdS} (h : k.kind = 4) : startsX s k = happX (tellX s 1 [k.id]) 6 := by
 unfold startsX
 dsimp only
 rw [if_neg (by omega), if_pos h]
theorem starts_6 {k : CmdS} (h : k.kind = 6) : startsX s k = happX (tellX s 1 [k.id]) 8 := by
 unfold startsX
 dsimp only
 rw [if_neg (by omega), if_neg (by omega), if_pos h]
theorem starts_7 {k : CmdS} (h : k.kind = 7) : (startsX s k).a = { s.a with st := stV s.a.st 3, h := ⟨0, s.a.fast, s.a.creep, false⟩, hd := false } ∧ (startsX s k).fr = s.fr := by
 unfold startsX
 dsimp only
 rw [if_neg (by omega), if_neg (by omega), if_neg (by omega), if_pos h]
 exact ⟨rfl, rfl⟩
theorem starts_8 {k : CmdS} (h : k.kind = 8) : (startsX s k).a = { s.a with st := stV s.a.st 7, sta := s.a.g.p, mas := s.i.mas, ins := true } ∧ (startsX s k).fr = s.fr := by
 unfold startsX
 dsimp only
 rw [if_neg (by omega), if_neg (by omega), if_neg (by omega), if_neg (by omega), if_pos h]
 exact ⟨rfl, rfl⟩
theorem starts_fr (k : CmdS) : (startsX s k).fr = s.fr := by
 unfold startsX
 dsimp only
 repeat' split
 all_goals rfl
theorem good_start (h : AxI s.a) (g : Good s.a) {k : CmdS} (hk : KeptP s.a k) (t : WS) (ht : t.a = { s.a with ns := [k], ws := [] }) : Good (startsX t k).a ∧ Took s.a (startsX t k).a := by
 have near : nearK t.a.g.p t.a.sm t.a.sm.length = true := by rw [ht]; exact g.near
 rcases hk with ⟨ht', hk, h1, h2, h3, h4, hm⟩ | ⟨ht', hm, hk, h0, h1, h2⟩ | ⟨ht', hm, hk⟩ | ⟨ht', hm, hk⟩ | ⟨ht', hm, hk⟩ | ⟨ht', hm, hk, hd⟩
 ·have e := (stV_take ht').1
  rw [starts_15 (.inl hk)]
  have ea : (happX (tellX t 1 [k.id]) 5).a = { s.a with ns := [k], ws := [], st := stV s.a.st 5 } := by show { t.a with st := stV t.a.st 5 } = _; rw [ht]
  rw [ea, e]
  refine ⟨⟨⟨by show (0 : Int) ≤ 4; omega, by show (4 : Int) ≤ 7; omega⟩, g.near, .moves k rfl rfl fun i x hx => ?_, fun h => by have h' : (4 : Int) = 2 := h; omega⟩, .lead ht' (.inr (.inl rfl)) (List.cons_ne_nil _ _)⟩
  have hx' : [k][i]? = some x := hx
  match i, hx' with
  | 0, hx' =>
   simp only [List.getElem?_cons_zero, Option.some.injEq] at hx'
   subst hx'
   exact ⟨hk, h1, h2, h3, h4, fun h => absurd h (by omega)⟩
  | i + 1, hx' => simp at hx'
 ·have e := (stV_take ht').2.1
  rw [starts_4 hk]
  have ea : (happX (tellX t 1 [k.id]) 6).a = { s.a with ns := [k], ws := [], st := stV s.a.st 6 } := by show { t.a with st := stV t.a.st 6 } = _; rw [ht]
  rw [ea, e]
  exact ⟨⟨⟨by show (0 : Int) ≤ 5; omega, by show (5 : Int) ≤ 7; omega⟩, g.near, .speed k rfl rfl rfl hk h0 h1 h2, fun h => by have h' : (5 : Int) = 2 := h; omega⟩, .lead ht' (.inr (.inr (.inl rfl))) (List.cons_ne_nil _ _)⟩
 ·have e := (stV_take ht').1
  rw [starts_15 (.inr hk)]
  have ea : (happX (tellX t 1 [k.id]) 5).a = { s.a with ns := [k], ws := [], st := stV s.a.st 5 } := by show { t.a with st := stV t.a.st 5 } = _; rw [ht]
  rw [ea, e]
  exact ⟨⟨⟨by show (0 : Int) ≤ 4; omega, by show (4 : Int) ≤ 7; omega⟩, g.near, .halt k rfl rfl rfl hk, fun h => by have h' : (4 : Int) = 2 := h; omega⟩, .lead ht' (.inr (.inl rfl)) (List.cons_ne_nil _ _)⟩
 ·have e : stV s.a.st 8 = 3 := by
   rcases ht' with ht' | ht'
   ·exact (stV_take ht').2.2.2
   ·rw [ht']; rfl
  rw [starts_6 hk]
  have ea : (happX (tellX t 1 [k.id]) 8).a = { s.a with ns := [k], ws := [], st := stV s.a.st 8 } := by show { t.a with st := stV t.a.st 8 } = _; rw [ht]
  rw [ea, e]
  refine ⟨⟨⟨by show (0 : Int) ≤ 3; omega, by show (3 : Int) ≤ 7; omega⟩, g.near, .stop k rfl rfl rfl hk, fun h => by have h' : (3 : Int) = 2 := h; omega⟩, ?_⟩
  rcases ht' with ht' | ht'
  ·exact .lead ht' (.inl rfl) (List.cons_ne_nil _ _)
  ·exact .stop ht' rfl (List.cons_ne_nil _ _)
 ·have e : stV s.a.st 3 = 2 := by rw [ht']; rfl
  rw [(starts_7 hk).1, ht]
  dsimp only
  rw [e]
  exact ⟨⟨⟨by show (0 : Int) ≤ 2; omega, by show (2 : Int) ≤ 7; omega⟩, g.near, .home k rfl rfl rfl hk, fun _ => h.hom⟩, .home ht' rfl⟩
 ·have e := (stV_take ht').2.2.1
  rw [(starts_8 hk).1, ht]
  dsimp only
  rw [e]
  exact ⟨⟨⟨by show (0 : Int) ≤ 6; omega, by show (6 : Int) ≤ 7; omega⟩, g.near, .gear k rfl rfl rfl hk hd, fun h => by have h' : (6 : Int) = 2 := h; omega⟩, .lead ht' (.inr (.inr (.inr rfl))) (List.cons_ne_nil _ _)⟩
theorem good_take (h : AxI s.a) (g : Good s.a) (c : CmdS) : Good (takeX s c).a ∧ Took s.a (takeX s c).a ∧ (s.fr = true → (takeX s c).a = s.a) ∧ (takeX s c).fr = s.fr := by
 have hy := rightB_yes h.lr
 unfold takeX
 dsimp only
 by_cases c1 : (fitsC s.a c).ok = false ∨ s.fr = true
 ·rw [if_pos c1]
  exact ⟨g, .same rfl, fun _ => rfl, rfl⟩
 rw [if_neg c1]
 have hk := fitsC_ok (a := s.a) (c := c) (by omega) (by
  cases h' : (fitsC s.a c).ok
  ·exact absurd (.inl h') c1
  ·rfl)
 obtain ⟨k, hkk⟩ : ∃ k, (fitsC s.a c).c = k := ⟨_, rfl⟩
 rw [hkk] at hk ⊢
 have hf : s.fr = true → False := fun h' => c1 (.inr h')
 by_cases c2 : (addR s.a.ns s.a.ws k).e ≠ 0
 ·rw [if_pos c2]
  exact ⟨g, .same rfl, fun _ => rfl, rfl⟩
 rw [if_neg c2]
 rcases add_shape h.line (Decidable.not_not.1 c2) with ⟨e1, e2⟩ | ⟨hm, y, hn, e1, e2⟩
 ·rw [e1, e2, if_pos (show ([] : List CmdS).length = 0 from rfl)]
  have hg := good_start h g hk (tellX (lineX s [k] []) 3 (idsX (addR s.a.ns s.a.ws k).ids)) rfl
  exact ⟨hg.1, hg.2, fun h' => (hf h').elim, starts_fr k⟩
 ·rw [e1, e2, if_neg (by simp)]
  rcases hk with ⟨ht', hk, h1, h2, h3, h4, hmm⟩ | ⟨ht', hm0, hk, h0, h1, h2⟩ | ⟨ht', hm0, hk⟩ | ⟨ht', hm0, hk⟩ | ⟨ht', hm0, hk⟩ | ⟨ht', hm0, hk, hd⟩
  ·have hu : underX s.a = ⟨y, true⟩ := by unfold underX; rw [hn]
   have hy := of_decide_eq_true (hmm hm (by rw [hu]))
   rw [hu] at hy
   have hy' : 1 ≤ y.kind ∧ y.kind ≤ 3 := hy
   refine ⟨⟨g.st, g.near, ?_, g.hm⟩, .more rfl ht' (List.cons_ne_nil _ _), fun h' => (hf h').elim, rfl⟩
   have hf := g.fit
   rcases hf with ⟨h, hw, _⟩ | ⟨c, h, hw, hs', hc⟩ | ⟨c, h, hw, hs', hc⟩ | ⟨c, h, hw, hs', hc, h0, h1, h2⟩ | ⟨c, h, hw, hs', hc, hd⟩ | ⟨c, h, hw, hs', hc⟩ | ⟨c, h, hs', hmv⟩
   ·rw [h] at hn
    cases hn
   ·rw [h] at hn
    injection hn with hn _
    subst hn
    omega
   ·rw [h] at hn
    injection hn with hn _
    subst hn
    omega
   ·rw [h] at hn
    injection hn with hn _
    subst hn
    omega
   ·rw [h] at hn
    injection hn with hn _
    subst hn
    omega
   ·rw [h] at hn
    injection hn with hn _
    subst hn
    omega
   ·refine .moves y rfl hs' fun i x hx => ?_
    have hx' : ([y] ++ (s.a.ws ++ [k]))[i]? = some x := hx
    rw [← List.append_assoc, ← hn, List.getElem?_append] at hx'
    by_cases hi : i < (s.a.ns ++ s.a.ws).length
    ·rw [if_pos hi] at hx'
     exact hmv i x hx'
    ·rw [if_neg hi] at hx'
     have hi0 : 0 < i := by
      rw [List.length_append, hn, List.length_singleton] at hi
      omega
     match hj : i - (s.a.ns ++ s.a.ws).length, hx' with
     | 0, hx' =>
      simp only [List.getElem?_cons_zero, Option.some.injEq] at hx'
      subst hx'
      exact ⟨hk, h1, h2, h3, h4, fun _ => hm⟩
     | j + 1, hx' => simp at hx'
  all_goals exact absurd hm0 hm
end

theorem stepH_right (h : HomeS) (sw plus minus still : Bool) (hr : homeB h.p h.f h.c = true) : homeB (stepH h sw plus minus still).1.p (stepH h sw plus minus still).1.f (stepH h sw plus minus still).1.c = true := by
 have hy := homeB_yes hr
 unfold stepH
 repeat' split
 all_goals first
  | exact hr
  | (refine homeB_mk ?_; dsimp only; omega)
theorem want_same (a : AX) (i : INS) : (wantX a i).a.st = a.st ∧ (wantX a i).a.ns = a.ns ∧ (wantX a i).a.ws = a.ws ∧ (wantX a i).a.l = a.l ∧ (wantX a i).a.hd = a.hd ∧ (wantX a i).a.g = a.g ∧ (wantX a i).a.sm = a.sm ∧ (wantX a i).a.win = a.win ∧ (wantX a i).a.off = a.off := by
 unfold wantX
 dsimp only
 repeat' split
 all_goals exact ⟨rfl, rfl, rfl, rfl, rfl, rfl, rfl, rfl, rfl⟩
theorem want_home {a : AX} (g : Good a) (i : INS) : (wantX a i).a.st = 2 → homeB (wantX a i).a.h.p (wantX a i).a.h.f (wantX a i).a.h.c = true := by
 rw [(want_same a i).1]
 intro h2
 unfold wantX
 rw [if_pos h2]
 exact stepH_right _ _ _ _ _ (g.hm h2)
theorem bnd_eq {a b : AX} (h1 : b.l = a.l) (h2 : b.hd = a.hd) : bndX b = bndX a := by unfold bndX; rw [h1, h2]
theorem good_want {a : AX} (g : Good a) (i : INS) : Good (wantX a i).a := by
 obtain ⟨e1, e2, e3, e4, e5, e6, e7, e8, e9⟩ := want_same a i
 exact ⟨by rw [e1]; exact g.st, by rw [e6, e7]; exact g.near, g.fit.congr e1 e2 e3 e4 (bnd_eq e4 e5), want_home g i⟩
theorem good_steps {a : AX} (h : AxI a) (g : Good a) (i : INS) : Good (stepsX a i).a ∧ (stepsX a i).a.st = a.st ∧ (stepsX a i).a.ns = a.ns ∧ (stepsX a i).a.ws = a.ws := by
 unfold stepsX
 split
 ·exact ⟨⟨g.st, near_push (p := a.g.p) (q := a.g.p) h.n1 g.near (by omega), g.fit.congr rfl rfl rfl rfl rfl, g.hm⟩, rfl, rfl, rfl⟩
 ·have hw := inv_want h i
  have gw := good_want g i
  obtain ⟨e1, e2, e3, -⟩ := want_same a i
  have hv := (hw.gone (wantX a i).v).vel
  refine ⟨⟨gw.st, ?_, gw.fit.congr rfl rfl rfl rfl rfl, gw.hm⟩, e1, e2, e3⟩
  have hp : (goneX (wantX a i).a (wantX a i).v).g.p = (wantX a i).a.g.p + (goneX (wantX a i).a (wantX a i).v).g.v := rfl
  exact near_push (p := (wantX a i).a.g.p) (q := (goneX (wantX a i).a (wantX a i).v).g.p) hw.n1 gw.near (by omega)

inductive Ended (a n : AX) : Prop
 | same (h : n.st = a.st)
 | done (h : a.st = 4) (hn : n.st = 1)
 | stopped (h : a.st = 3) (h2 : a.ns = []) (hn : n.st = 1)
 | homed (h : a.st = 2) (hn : n.st = 1 ∨ n.st = 7)
theorem end_one {ns ws : List CmdS} {y : CmdS} (h : lineB ns ws = true) (hn : ns = [y]) : endR ns ws = ⟨ws.take 1, ws.drop 1, y.id⟩ := by
 unfold endR
 rw [if_pos h, hn]
section
variable {s : WS}
theorem done_last {y : CmdS} (h : lineB s.a.ns s.a.ws = true) (hn : s.a.ns = [y]) (hw : s.a.ws = []) (e : Int) : (doneX s e).a = { s.a with ns := [], ws := [], st := stV s.a.st e } := by
 unfold doneX
 rw [end_one h hn, hw]
 rfl
theorem good_done (h : AxI s.a) (g : Good s.a) (h4 : s.a.st = 4) (ho : (underX s.a).ok = true) : Good (doneX s 10).a ∧ Ended s.a (doneX s 10).a := by
 have h10 : stV s.a.st 10 = 1 := by rw [h4]; rfl
 have hnil : ∀ y, s.a.ns = [y] → s.a.ws = [] → Good (doneX s 10).a ∧ Ended s.a (doneX s 10).a := fun y hn hw => by
  rw [done_last h.line hn hw, h10]
  exact ⟨⟨⟨by show (0 : Int) ≤ 1; omega, by show (1 : Int) ≤ 7; omega⟩, g.near, .none rfl rfl (.inr (.inl rfl)), fun h => by have h' : (1 : Int) = 2 := h; omega⟩, .done h4 rfl⟩
 rcases g.fit with ⟨h, hw, _⟩ | ⟨c, h, hw, hs', hc⟩ | ⟨c, h, hw, hs', hc⟩ | ⟨c, h, hw, hs', hc, h0, h1, h2⟩ | ⟨c, h, hw, hs', hc, hd⟩ | ⟨c, hn, hw, hs', hc⟩ | ⟨c, hn, hs', hmv⟩
 ·have hu : underX s.a = ⟨cmd0, false⟩ := by unfold underX; rw [h]
  rw [hu] at ho
  cases ho
 ·omega
 ·omega
 ·omega
 ·omega
 ·exact hnil c hn hw
 ·cases hw : s.a.ws with
  | nil => exact hnil c hn hw
  | cons x l =>
   have h5 : stV s.a.st 5 = 4 := by rw [h4]; rfl
   have hx := hmv 1 x (by rw [hn, hw]; rfl)
   have e0 : doneX s 10 = startsX (tellX (lineX s [x] l) 2 [c.id]) x := by
    unfold doneX
    rw [end_one h.line hn, hw]
    rfl
   have ea : (doneX s 10).a = { s.a with ns := [x], ws := l, st := stV s.a.st 5 } := by
    rw [e0, starts_15 (.inl hx.1)]
    rfl
   rw [ea, h5]
   refine ⟨⟨⟨by show (0 : Int) ≤ 4; omega, by show (4 : Int) ≤ 7; omega⟩, g.near, .moves x rfl rfl fun i z hz => ?_, fun h => by have h' : (4 : Int) = 2 := h; omega⟩, .same h4.symm⟩
   have hz' : (x :: l)[i]? = some z := hz
   have hi := hmv (i + 1) z (by rw [hn, hw]; exact hz')
   exact ⟨hi.1, hi.2.1, hi.2.2.1, hi.2.2.2.1, hi.2.2.2.2.1, fun _ => hi.2.2.2.2.2 (by omega)⟩
theorem good_homed (h : AxI s.a) (g : Good s.a) (h2 : s.a.st = 2) : Good (homedX s).a ∧ Ended s.a (homedX s).a := by
 unfold homedX
 dsimp only
 split
 ·have hl : ∃ y, s.a.ns = [y] ∧ s.a.ws = [] := by
   rcases g.fit with ⟨h, hw, _⟩ | ⟨c, h, hw, hs', hc⟩ | ⟨c, h, hw, hs', hc⟩ | ⟨c, h, hw, hs', hc, h0, h1, h2⟩ | ⟨c, h, hw, hs', hc, hd⟩ | ⟨c, hn, hw, hs', hc⟩ | ⟨c, hn, hs', hmv⟩
   ·omega
   ·exact ⟨c, h, hw⟩
   all_goals omega
  obtain ⟨y, hn, hw⟩ := hl
  have h4 : stV s.a.st 4 = 1 := by rw [h2]; rfl
  rw [done_last (s := { s with a := { s.a with g := ⟨s.a.hat, s.a.g.v⟩, sm := List.replicate s.a.win.toNat s.a.hat, off := s.a.off - (s.a.hat - s.a.g.p), hd := true } }) h.line hn hw 4]
  dsimp only
  rw [h4]
  exact ⟨⟨⟨by show (0 : Int) ≤ 1; omega, by show (1 : Int) ≤ 7; omega⟩, near_same _ _, .none rfl rfl (.inr (.inl rfl)), fun h => by have h' : (1 : Int) = 2 := h; omega⟩, .homed h2 (.inl rfl)⟩
 ·exact ⟨(good_fails g 5).1, .homed h2 (.inr (good_fails g 5).2)⟩
theorem good_ends (h : AxI s.a) (g : Good s.a) (p : Bool) : Good (endsX s p).a ∧ Ended s.a (endsX s p).a := by
 unfold endsX
 split
 ·rename_i h4
  split
  ·rename_i hq
   simp only [Bool.and_eq_true] at hq
   exact good_done h g h4 hq.1
  ·exact ⟨g, .same rfl⟩
 ·split
  ·rename_i h3
   split
   ·exact ⟨g, .same rfl⟩
   ·split
    ·rename_i ho
     rcases g.fit with ⟨h, hw, _⟩ | ⟨c, h, hw, hs', hc⟩ | ⟨c, hn, hw, hs', hc⟩ | ⟨c, h, hw, hs', hc, h0, h1, h2⟩ | ⟨c, h, hw, hs', hc, hd⟩ | ⟨c, hn, hw, hs', hc⟩ | ⟨c, hn, hs', hmv⟩
     ·have hu : underX s.a = ⟨cmd0, false⟩ := by unfold underX; rw [h]
      rw [hu] at ho
      cases ho
     ·omega
     ·have e : (tellX (lineX s (endR s.a.ns s.a.ws).ns (endR s.a.ns s.a.ws).ws) 2 [(endR s.a.ns s.a.ws).id]).a = { s.a with ns := [], ws := [] } := by
       rw [end_one h.line hn, hw]
       rfl
      rw [e]
      exact ⟨⟨g.st, g.near, .none rfl rfl (.inr (.inr (.inl h3))), g.hm⟩, .same rfl⟩
     ·omega
     ·omega
     ·omega
     ·omega
    ·rename_i ho
     split
     ·have h9 : stV s.a.st 9 = 1 := by rw [h3]; rfl
      have hn : s.a.ns = [] := by
       cases hn : s.a.ns with
       | nil => rfl
       | cons x l => exact absurd (by unfold underX; rw [hn]) ho
      have hw : s.a.ws = [] := by
       obtain ⟨-, -, l3, -⟩ := lineB_yes h.line
       exact List.eq_nil_of_length_eq_zero (l3 (by rw [hn]; rfl))
      have e : (happX s 9).a = { s.a with st := stV s.a.st 9 } := rfl
      rw [e, h9]
      exact ⟨⟨⟨by show (0 : Int) ≤ 1; omega, by show (1 : Int) ≤ 7; omega⟩, g.near, .none hn hw (.inr (.inl rfl)), fun h => by have h' : (1 : Int) = 2 := h; omega⟩, .stopped h3 hn rfl⟩
     ·exact ⟨g, .same rfl⟩
  ·split
   ·rename_i h2
    split
    ·exact good_homed h g h2
    ·split
     ·exact ⟨(good_fails g 5).1, .homed h2 (.inr (good_fails g 5).2)⟩
     ·exact ⟨g, .same rfl⟩
   ·exact ⟨g, .same rfl⟩

def TakeR (s : Int) (a : AX) : Prop := (a.st = s ∨ (takesB s = true ∧ (a.st = 3 ∨ a.st = 4 ∨ a.st = 5 ∨ a.st = 6)) ∨ (s = 1 ∧ a.st = 2) ∨ (s = 2 ∧ a.st = 3)) ∧ (a.st = 3 → s = 3 ∨ a.ns ≠ [])
theorem TakeR.next {s : Int} {a n : AX} (h : TakeR s a) (t : Took a n) : TakeR s n := by
 obtain ⟨h1, h2⟩ := h
 rcases t with h | ⟨hs, ht, hn⟩ | ⟨ht, h, hn⟩ | ⟨h3, h4⟩ | ⟨h3, h4, hn⟩
 ·rw [h]; exact ⟨h1, h2⟩
 ·rw [TakeR, hs]
  exact ⟨h1, fun _ => .inr hn⟩
 ·refine ⟨?_, fun _ => .inr hn⟩
  have := takes_st ht
  rcases h1 with h1 | ⟨h1, h5⟩ | ⟨h1, h5⟩ | ⟨h1, h5⟩
  ·exact .inr (.inl ⟨h1 ▸ ht, h⟩)
  ·exact .inr (.inl ⟨h1, h⟩)
  ·omega
  ·omega
 ·refine ⟨.inr (.inr (.inl ⟨?_, h4⟩)), fun h => by omega⟩
  rcases h1 with h1 | ⟨h1, h5⟩ | ⟨h1, h5⟩ | ⟨h1, h5⟩
  ·omega
  ·omega
  ·omega
  ·omega
 ·refine ⟨?_, fun _ => .inr hn⟩
  rcases h1 with h1 | ⟨h1, h5⟩ | ⟨h1, h5⟩ | ⟨h1, h5⟩
  ·exact .inr (.inr (.inr ⟨by omega, h4⟩))
  ·omega
  ·exact .inr (.inl ⟨by rw [h1]; rfl, .inl h4⟩)
  ·omega
theorem good_takes (cs : List CmdS) : ∀ s : WS, AxI s.a → InW s.i → (∀ c ∈ cs, CmdW c) → Good s.a → Good (takesX s cs).a ∧ (∀ t, TakeR t s.a → TakeR t (takesX s cs).a) ∧ (s.fr = true ∨ s.a.st = 0 ∨ s.a.st = 7 → (takesX s cs).a = s.a) := by
 induction cs with
 | nil => exact fun s _ _ _ g => ⟨g, fun _ h => h, fun _ => rfl⟩
 | cons c l ih =>
  intro s h hi hc g
  obtain ⟨g1, g2, g3, g4⟩ := good_take h g c
  obtain ⟨i1, i2, i3⟩ := ih (takeX s c) (inv_take h hi (hc c (by simp))) (by rw [take_i]; exact hi) (fun x hx => hc x (by simp [hx])) g1
  refine ⟨i1, fun t ht => i2 t (ht.next g2), fun hf => ?_⟩
  have hsame : (takeX s c).a = s.a := by
   rcases hf with hf | hf
   ·exact g3 hf
   ·rcases g2 with h | ⟨hs, ht, hn⟩ | ⟨ht, h, hn⟩ | ⟨h3, h4⟩ | ⟨h3, h4, hn⟩
    ·exact h
    ·have := takes_st ht; omega
    ·have := takes_st ht; omega
    ·omega
    ·omega
  show (takesX (takeX s c) l).a = s.a
  rw [← hsame]
  exact i3 (by rw [g4, hsame]; exact hf)
end
theorem start_good {a : AX} (g : Good a) (i : INS) : Good (startX a i).a := ⟨g.st, g.near, g.fit.congr rfl rfl rfl rfl rfl, g.hm⟩
theorem edge_mk {s t : Int} (h : t = s ∨ (takesB s = true ∧ (t = 1 ∨ t = 3 ∨ t = 4 ∨ t = 5 ∨ t = 6)) ∨ (s = 1 ∧ t = 2) ∨ (s = 2 ∧ (t = 3 ∨ t = 1)) ∨ (s = 3 ∧ t = 1) ∨ (0 ≤ s ∧ s ≤ 7 ∧ t = 7) ∨ (0 < s ∧ s ≤ 7 ∧ t = 0) ∨ ((s = 0 ∨ s = 7) ∧ t = 1)) : edgeK s t 12 = true := by
 have hself : ∀ (n : Nat), edgeK s s n = true := fun n => by
  induction n with
  | zero => exact decide_eq_true rfl
  | succ n ih => rw [edgeK, ih]; rfl
 rcases h with rfl | ⟨h, ht⟩ | ⟨rfl, rfl⟩ | ⟨rfl, ht⟩ | ⟨rfl, rfl⟩ | ⟨h1, h2, rfl⟩ | ⟨h1, h2, rfl⟩ | ⟨h1, rfl⟩
 ·exact hself 12
 ·rcases takes_st h with rfl | rfl | rfl | rfl <;> rcases ht with rfl | rfl | rfl | rfl | rfl <;> decide
 ·decide
 ·rcases ht with rfl | rfl <;> decide
 ·decide
 ·obtain ⟨n, rfl⟩ : ∃ n : Nat, s = n := ⟨s.toNat, by omega⟩
  have : n ≤ 7 := by omega
  match n, this with
  | 0, _ | 1, _ | 2, _ | 3, _ | 4, _ | 5, _ | 6, _ | 7, _ => decide
 ·obtain ⟨n, rfl⟩ : ∃ n : Nat, s = n := ⟨s.toNat, by omega⟩
  have : n ≤ 7 := by omega
  match n, this with
  | 0, _ => omega
  | 1, _ | 2, _ | 3, _ | 4, _ | 5, _ | 6, _ | 7, _ => decide
 ·rcases h1 with rfl | rfl <;> decide
structure CycF (a : AX) (i : INS) (cs : List CmdS) (s1 s2 w : WS) (p : Bool) : Prop where
 e1 : s1 = beginsX (startX a i)
 e2 : s2 = takesX s1 cs
 e3 : w = { s2 with a := (stepsX s2.a i).a }
 ep : p = (stepsX s2.a i).passed
 e4 : cycX a i cs = endsX w p
 i1 : AxI s1.a
 g1 : Good s1.a
 b1 : Began (startX a i) s1
 n1 : s1.i = i
 i2 : AxI s2.a
 g2 : Good s2.a
 tr : ∀ t, TakeR t s1.a → TakeR t s2.a
 tf : s1.fr = true ∨ s1.a.st = 0 ∨ s1.a.st = 7 → s2.a = s1.a
 n2 : s2.i = i
 i3 : AxI w.a
 g3 : Good w.a
 n3 : w.i = i
 st3 : w.a.st = s2.a.st
 ns3 : w.a.ns = s2.a.ns
 ws3 : w.a.ws = s2.a.ws
 i4 : AxI (cycX a i cs).a
 g4 : Good (cycX a i cs).a
 ed : Ended w.a (cycX a i cs).a
theorem cyc_f {a : AX} (i : INS) (cs : List CmdS) (h : AxI (startX a i).a) (g : Good a) (hi : InW i) (hc : ∀ c ∈ cs, CmdW c) : ∃ s1 s2 w p, CycF a i cs s1 s2 w p := by
 have hb := inv_begins h
 obtain ⟨gb, bg⟩ := good_begins (start_good g i)
 have hbi : (beginsX (startX a i)).i = i := begins_i _
 have hbw : InW (beginsX (startX a i)).i := by rw [hbi]; exact hi
 have ht := inv_takes cs (beginsX (startX a i)) hb hbw hc
 obtain ⟨gt, tr, tf⟩ := good_takes cs (beginsX (startX a i)) hb hbw hc gb
 have hti : (takesX (beginsX (startX a i)) cs).i = i := (takes_i cs _).trans hbi
 have hs := inv_steps ht i
 obtain ⟨gs, s1, s2, s3⟩ := good_steps ht gt i
 have hwi : InW ({ takesX (beginsX (startX a i)) cs with a := (stepsX (takesX (beginsX (startX a i)) cs).a i).a } : WS).i := by show InW (takesX (beginsX (startX a i)) cs).i; rw [hti]; exact hi
 have he := inv_ends (s := { takesX (beginsX (startX a i)) cs with a := (stepsX (takesX (beginsX (startX a i)) cs).a i).a }) hs hwi (stepsX (takesX (beginsX (startX a i)) cs).a i).passed
 obtain ⟨ge, ed⟩ := good_ends (s := { takesX (beginsX (startX a i)) cs with a := (stepsX (takesX (beginsX (startX a i)) cs).a i).a }) hs gs (stepsX (takesX (beginsX (startX a i)) cs).a i).passed
 exact ⟨_, _, _, _, rfl, rfl, rfl, rfl, rfl, hb, gb, bg, hbi, ht, gt, tr, tf, hti, hs, gs, hti, s1, s2, s3, he, ge, ed⟩
theorem cyc_good {a : AX} (i : INS) (cs : List CmdS) (h : AxI (startX a i).a) (g : Good a) (hi : InW i) (hc : ∀ c ∈ cs, CmdW c) :
  AxI (cycX a i cs).a ∧ Good (cycX a i cs).a ∧ edgeK a.st (cycX a i cs).a.st 12 = true := by
 obtain ⟨s1, s2, w, p, F⟩ := cyc_f i cs h g hi hc
 refine ⟨F.i4, F.g4, edge_mk ?_⟩
 have hst := F.st3
 have hns := F.ns3
 have tr := F.tr
 have tf := F.tf
 have ed := F.ed
 have bg := F.b1
 have hS := g.st
 have ha : (startX a i).a.st = a.st := rfl
 rcases bg with hbg | hbg | ⟨hbg, h0⟩ | ⟨hbg, hf, h0⟩
 ·rw [hbg] at tr
  obtain ⟨r1, r2⟩ := tr a.st ⟨.inl rfl, fun h => .inl h⟩
  rw [← hst] at r1 r2
  rw [← hns] at r2
  rcases ed with ed | ⟨d1, d2⟩ | ⟨d1, d2, d3⟩ | ⟨d1, d2⟩
  ·rw [ed]
   rcases r1 with r | ⟨r, q⟩ | ⟨r, q⟩ | ⟨r, q⟩
   ·exact .inl r
   ·exact .inr (.inl ⟨r, .inr q⟩)
   ·exact .inr (.inr (.inl ⟨r, q⟩))
   ·exact .inr (.inr (.inr (.inl ⟨r, .inl q⟩)))
  ·rcases r1 with r | ⟨r, q⟩ | ⟨r, q⟩ | ⟨r, q⟩
   ·exact .inr (.inl ⟨by rw [← r, d1]; rfl, .inl d2⟩)
   ·exact .inr (.inl ⟨r, .inl d2⟩)
   ·omega
   ·omega
  ·rcases r2 d1 with r | r
   ·exact .inr (.inr (.inr (.inr (.inl ⟨r, d3⟩))))
   ·exact absurd d2 r
  ·rcases d2 with d2 | d2
   ·rcases r1 with r | ⟨r, q⟩ | ⟨r, q⟩ | ⟨r, q⟩
    ·exact .inr (.inr (.inr (.inl ⟨by omega, .inr d2⟩)))
    ·exact .inr (.inl ⟨r, .inl d2⟩)
    ·exact .inl (by omega)
    ·exact .inr (.inr (.inr (.inl ⟨r, .inr d2⟩)))
   ·exact .inr (.inr (.inr (.inr (.inr (.inl ⟨hS.1, hS.2, d2⟩)))))
 ·have hf := tf (.inr (.inr hbg))
  rw [hf] at hst
  rcases ed with ed | ⟨d1, d2⟩ | ⟨d1, d2, d3⟩ | ⟨d1, d2⟩
  ·exact .inr (.inr (.inr (.inr (.inr (.inl ⟨hS.1, hS.2, by omega⟩)))))
  all_goals omega
 ·have hf := tf (.inr (.inl hbg))
  rw [hf] at hst
  rcases ed with ed | ⟨d1, d2⟩ | ⟨d1, d2, d3⟩ | ⟨d1, d2⟩
  ·exact .inr (.inr (.inr (.inr (.inr (.inr (.inl ⟨by omega, hS.2, by omega⟩))))))
  all_goals omega
 ·have hf := tf (.inl hf)
  rw [hf] at hst
  rcases ed with ed | ⟨d1, d2⟩ | ⟨d1, d2, d3⟩ | ⟨d1, d2⟩
  ·exact .inr (.inr (.inr (.inr (.inr (.inr (.inr ⟨h0, by omega⟩))))))
  all_goals omega
theorem step_right {a : AX} (i : INS) (cs : List CmdS) (h : rightX a = true) (hw : ∀ c ∈ a.ns ++ a.ws, CmdW c) (h1 : I64 a.sta) (h2 : I64 a.mas) (hi : InW i) (hc : ∀ c ∈ cs, CmdW c) :
  rightX (stepX a i cs).1 = true ∧ (∀ c ∈ (stepX a i cs).1.ns ++ (stepX a i cs).1.ws, CmdW c) ∧ I64 (stepX a i cs).1.sta ∧ I64 (stepX a i cs).1.mas ∧ edgeK a.st (stepX a i cs).1.st 12 = true := by
 have g := good_of h
 have hs : AxI (startX a i).a := by
  have := axI_of h hw h1 h2
  exact this.ov2 (max 0 (min i.ov 100)) (by omega)
 obtain ⟨c1, c2, c3⟩ := cyc_good i cs hs g hi hc
 have e : (stepX a i cs).1 = (cycX a i cs).a := by unfold stepX; rw [h]; rfl
 rw [e]
 exact ⟨right_of c1 c2, c1.cw, c1.sta, c1.mas, c3⟩

structure Kp (a b : AX) : Prop where
 g : b.g = a.g
 sm : b.sm = a.sm
 off : b.off = a.off
 win : b.win = a.win
 hat : b.hat = a.hat
 l : b.l = a.l
theorem Kp.refl (a : AX) : Kp a a := ⟨rfl, rfl, rfl, rfl, rfl, rfl⟩
theorem Kp.trans {a b c : AX} (h1 : Kp a b) (h2 : Kp b c) : Kp a c := ⟨h2.g.trans h1.g, h2.sm.trans h1.sm, h2.off.trans h1.off, h2.win.trans h1.win, h2.hat.trans h1.hat, h2.l.trans h1.l⟩
section
variable {s : WS}
theorem kp_fails (c : Int) : Kp s.a (failsX s c).a := by rw [fails_a]; exact ⟨rfl, rfl, rfl, rfl, rfl, rfl⟩
theorem kp_starts (k : CmdS) : Kp s.a (startsX s k).a := by
 unfold startsX
 dsimp only
 repeat' split
 all_goals exact ⟨rfl, rfl, rfl, rfl, rfl, rfl⟩
theorem kp_done (e : Int) : Kp s.a (doneX s e).a := by
 unfold doneX
 dsimp only
 split
 ·refine Kp.trans ?_ (kp_starts _)
  exact ⟨rfl, rfl, rfl, rfl, rfl, rfl⟩
 ·exact ⟨rfl, rfl, rfl, rfl, rfl, rfl⟩
end
theorem rest_all {zs : List Int} {p : Int} (h : restW zs zs.length = true) (h0 : zs[0]?.getD 0 = p) : oneK zs zs.length p := by
 unfold restW at h
 simp only [Bool.and_eq_true, Bool.not_eq_true'] at h
 intro i hi
 have := anyK_no _ _ _ h.2 i hi
 rw [h0] at this
 simpa using this
theorem still_all {a : AX} (h : AxI a) (g : Good a) (hs : stillX a = true) : a.g.v = 0 ∧ oneK a.sm a.sm.length a.g.p := by
 unfold stillX at hs
 simp only [Bool.and_eq_true, decide_eq_true_eq] at hs
 exact ⟨hs.1, rest_all hs.2 (near_zero h.n1 g.near)⟩

theorem ends_out {s : WS} (h : AxI s.a) (g : Good s.a) (p : Bool) : outX (endsX s p).a = outX s.a ∧ (endsX s p).a.win = s.a.win ∧ (endsX s p).a.l = s.a.l ∧ (s.a.st ≠ 2 → Kp s.a (endsX s p).a) := by
 have hk : ∀ n : AX, Kp s.a n → outX n = outX s.a ∧ n.win = s.a.win ∧ n.l = s.a.l ∧ (s.a.st ≠ 2 → Kp s.a n) := fun n k => ⟨by unfold outX; rw [k.sm, k.win, k.off], k.win, k.l, fun _ => k⟩
 unfold endsX
 split
 ·split
  ·exact hk _ (kp_done _)
  ·exact hk _ (Kp.refl _)
 ·split
  ·split
   ·exact hk _ (Kp.refl _)
   ·split
    ·exact hk _ ⟨rfl, rfl, rfl, rfl, rfl, rfl⟩
    ·split
     ·exact hk _ ⟨rfl, rfl, rfl, rfl, rfl, rfl⟩
     ·exact hk _ (Kp.refl _)
  ·split
   ·rename_i h2
    split
    ·rename_i hq
     simp only [Bool.and_eq_true] at hq
     obtain ⟨-, hone⟩ := still_all h g hq.2
     unfold homedX
     dsimp only
     split
     ·have k := kp_done (s := { s with a := { s.a with g := ⟨s.a.hat, s.a.g.v⟩, sm := List.replicate s.a.win.toNat s.a.hat, off := s.a.off - (s.a.hat - s.a.g.p), hd := true } }) 4
      refine ⟨?_, k.win, k.l, fun h => absurd h2 h⟩
      unfold outX
      rw [k.sm, k.win, k.off]
      dsimp only
      rw [sumK_one hone, List.length_replicate, sumK_one (pos := s.a.hat) fun i hi => rep_get _ _ i hi]
      have hl := h.len
      have hw := h.win
      rw [show ((s.a.win.toNat : Nat) : Int) = s.a.win by omega, hl, ← Int.mul_add, ← Int.mul_add]
      congr 1
      omega
     ·exact hk _ (kp_fails _)
    ·split
     ·exact hk _ (kp_fails _)
     ·exact hk _ (Kp.refl _)
   ·exact hk _ (Kp.refl _)


theorem cyc_un (a : AX) (i : INS) (cs : List CmdS) : cycX a i cs = endsX { takesX (beginsX (startX a i)) cs with a := (stepsX (takesX (beginsX (startX a i)) cs).a i).a } (stepsX (takesX (beginsX (startX a i)) cs).a i).passed := rfl
theorem ends_idle {s : WS} {p : Bool} (h : s.a.st ≠ 4 ∧ s.a.st ≠ 3 ∧ s.a.st ≠ 2) : endsX s p = s := by
 unfold endsX
 rw [if_neg h.1, if_neg h.2.1, if_neg h.2.2]
theorem steps_idle {a : AX} (i : INS) (h0 : a.st ≠ 0) (h2 : a.st ≠ 2) (hn : a.ns = []) : stepsX a i = ⟨goneX a 0, false⟩ := by
 have hw : wantX a i = ⟨a, 0, false⟩ := by
  unfold wantX
  rw [if_neg h2, if_pos (by unfold underX; rw [hn])]
 unfold stepsX
 rw [if_neg h0, hw]
 rfl
end Go.Proofs.YthhfnageadckkaaGreat
