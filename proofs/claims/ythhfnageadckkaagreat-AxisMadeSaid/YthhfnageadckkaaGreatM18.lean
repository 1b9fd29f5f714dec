/- Merged: The plain axis: its data, and what each part of a cycle does to it. No program in sight. The plain axis: what holds throughout a cycle of a right one. No program in sight. -/
import Derived.Test.YthhfnageadckkaaGreatM08
import Derived.Test.YthhfnageadckkaaGreatM03
import Derived.Test.YthhfnageadckkaaGreatM06
import Derived.Test.YthhfnageadckkaaGreatM07
import Derived.Test.YthhfnageadckkaaGreatLineRI
import Derived.Test.YthhfnageadckkaaGreatM17
set_option linter.unusedVariables false
set_option linter.unusedSimpArgs false
namespace Go.Proofs.YthhfnageadckkaaGreat

structure AX where
  st : Int
  l : LimS
  win : Int
  hat : Int
  fast : Int
  creep : Int
  g : GenS
  sm : List Int
  off : Int
  ns : List CmdS
  ws : List CmdS
  hd : Bool
  h : HomeS
  ov : Int
  sta : Int
  mas : Int
  cau : Int
  ins : Bool
structure INS where
  pw : Bool
  op : Bool
  act : Int
  cau : Int
  plus : Bool
  minus : Bool
  hm : Bool
  reset : Bool
  rel : Bool
  ov : Int
  mas : Int
  d : Nat
structure RepS where
  id : Int
  what : Int
structure WS where
  a : AX
  i : INS
  rs : List RepS
  fr : Bool

def madeB (l : LimS) (win hat fast creep : Int) : Bool := decide (1 ≤ win ∧ win ≤ 16) && rightB l && decide (l.lo ≤ hat ∧ hat ≤ l.hi) && homeB 0 fast creep
def newX (l : LimS) (win hat fast creep : Int) : AX := ⟨0, l, win, hat, fast, creep, ⟨0, 0⟩, List.replicate win.toNat 0, 0, [], [], false, ⟨0, 0, 0, false⟩, 100, 0, 0, 0, false⟩
def zeroX : AX := ⟨0, ⟨0, 0, 0, 0, 0⟩, 0, 0, 0, 0, ⟨0, 0⟩, [], 0, [], [], false, ⟨0, 0, 0, false⟩, 0, 0, 0, 0, false⟩
def bndX (a : AX) : LimS := bif a.hd then a.l else ⟨a.l.v, a.l.a, a.l.d, -1099511627776, 1099511627776⟩
def outX (a : AX) : Int := sumK a.sm a.sm.length + a.win * a.off

def nearF (p : Int) (zs : List Int) (i : Nat) : Bool := if i = 0 then decide (zs[0]?.getD 0 = p) else decide (-1048576 ≤ zs[i]?.getD 0 - zs[i - 1]?.getD 0 ∧ zs[i]?.getD 0 - zs[i - 1]?.getD 0 ≤ 1048576)
def nearK (p : Int) (zs : List Int) : Nat → Bool
  | 0 => true
  | n + 1 => nearK p zs n && nearF p zs n
def moveF (V lo hi : Int) (i : Nat) (c : CmdS) : Bool := decide (c.kind = 1 ∧ 1 ≤ c.speed ∧ c.speed ≤ V ∧ lo ≤ c.target ∧ c.target ≤ hi ∧ (0 < i → c.mode ≠ 0))
def movesK (V lo hi : Int) (xs : List CmdS) : Nat → Bool
  | 0 => true
  | n + 1 => movesK V lo hi xs n && moveF V lo hi n (xs[n]?.getD cmd0)
def movesX (a : AX) : Bool := movesK a.l.v (bndX a).lo (bndX a).hi (a.ns ++ a.ws) (a.ns ++ a.ws).length
def fitsX (a : AX) : Bool :=
  match a.ns with
  | [] => a.ws.isEmpty && decide (a.st = 0 ∨ a.st = 1 ∨ a.st = 3 ∨ a.st = 7)
  | c :: _ =>
    if a.st = 2 then a.ws.isEmpty && decide (c.kind = 7)
    else if a.st = 3 then a.ws.isEmpty && decide (c.kind = 6)
    else if a.st = 5 then a.ws.isEmpty && decide (c.kind = 4 ∧ c.speed ≠ 0 ∧ c.speed ≤ a.l.v ∧ -a.l.v ≤ c.speed)
    else if a.st = 6 then a.ws.isEmpty && decide (c.kind = 8 ∧ 0 < c.den)
    else if a.st = 4 then (a.ws.isEmpty && decide (c.kind = 5)) || movesX a
    else false
def rightX (a : AX) : Bool :=
  madeB a.l a.win a.hat a.fast a.creep && decide (0 ≤ a.st ∧ a.st ≤ 7) && rightW a.sm a.sm.length && decide ((a.sm.length : Int) = a.win) && safeB (bndX a) a.g && nearK a.g.p a.sm a.sm.length
    && lineB a.ns a.ws && fitsX a && decide (0 ≤ a.ov ∧ a.ov ≤ 100) && decide (-288230376151711744 ≤ a.off ∧ a.off ≤ 288230376151711744) && (decide (a.st ≠ 2) || homeB a.h.p a.h.f a.h.c)

def tellX (s : WS) (what : Int) (ids : List Int) : WS := { s with rs := s.rs ++ ids.map fun i => ⟨i, what⟩ }
def happX (s : WS) (e : Int) : WS := { s with a := { s.a with st := stV s.a.st e } }
def stillX (a : AX) : Bool := decide (a.g.v = 0) && restW a.sm a.sm.length
def causeX (a : AX) (i : INS) : Int :=
  if a.st = 0 ∧ i.cau ≠ 6 then 0
  else if i.cau ≠ 0 then i.cau
  else if a.st = 7 then 0
  else if (i.pw && !i.op) = true then 2
  else if (decide (a.st ≠ 2) && ((i.plus && decide (0 < a.g.v)) || (i.minus && decide (a.g.v < 0)))) = true then 4
  else 0
def lineX (s : WS) (ns ws : List CmdS) : WS := { s with a := { s.a with ns := ns, ws := ws } }
def idsX (xs : List CmdS) : List Int := xs.map CmdS.id
def failsX (s : WS) (c : Int) : WS :=
  let s1 := lineX s [] []
  let s2 := match s.a.ns with
    | [] => tellX s1 3 (idsX s.a.ws)
    | x :: l => tellX (tellX s1 4 [x.id]) 3 (idsX (l ++ s.a.ws))
  happX { s2 with a := { s2.a with cau := c } } 11
def placedX (s : WS) (pos : Int) : WS := { s with a := { s.a with g := ⟨pos, 0⟩, sm := List.replicate s.a.win.toNat pos } }
def onX (s : WS) : WS :=
  let p := s.i.act - s.a.off
  if fitB p = false then s
  else if (bndX s.a).lo ≤ p ∧ p ≤ (bndX s.a).hi then
    (if -288230376151711744 ≤ s.a.off ∧ s.a.off ≤ 288230376151711744 then { happX (placedX s p) 1 with fr := true } else s)
  else
    let q := max (-1099511627776) (min p 1099511627776)
    let o := s.i.act - q
    if fitB o = false then s
    else if -288230376151711744 ≤ o ∧ o ≤ 288230376151711744 then { happX (placedX { s with a := { s.a with hd := false, off := o } } q) 1 with fr := true } else s
def offX (s : WS) : WS := happX (placedX (tellX (lineX s [] []) 3 (idsX (s.a.ns ++ s.a.ws))) s.a.g.p) 2
def beginsX (s : WS) : WS :=
  let c := causeX s.a s.i
  if c ≠ 0 ∧ s.a.st ≠ 7 then failsX s c
  else if s.a.st = 7 then
    (if (decide (c = 0) && s.i.reset && s.i.op && stillX s.a) = true then { (happX s 12) with a := { (happX s 12).a with cau := 0 }, fr := true } else s)
  else if s.i.pw = false ∧ s.a.st ≠ 0 then offX s
  else if (s.i.pw && s.i.op) = true ∧ s.a.st = 0 then onX s
  else s
def moveC (c : CmdS) : Bool := decide (1 ≤ c.kind ∧ c.kind ≤ 3)
def underX (a : AX) : OneR := match a.ns with | [] => ⟨cmd0, false⟩ | c :: _ => ⟨c, true⟩
def fromX (a : AX) (c : CmdS) : Int :=
  if (underX a).ok = true ∧ c.mode ≠ 0 then (lastR a.ns a.ws).x.target
  else if (underX a).ok = true ∧ c.kind = 3 ∧ moveC (underX a).x = true then (underX a).x.target
  else a.g.p
def placeX (a : AX) (c : CmdS) : Int × Bool := if c.kind = 1 then (c.target, true) else (fitV (fromX a c + c.target), fitB (fromX a c + c.target))
def speedX (a : AX) (v : Int) : Bool := decide (1 ≤ v ∧ v ≤ a.l.v)
structure KeptR where
  c : CmdS
  ok : Bool
def fitsC (a : AX) (c : CmdS) : KeptR :=
  if c.mode ≠ 0 ∧ (moveC c = false ∨ (underX a).ok = true ∧ moveC (underX a).x = false) then ⟨c, false⟩
  else if c.kind ≠ 7 ∧ c.kind ≠ 6 ∧ takesB a.st = false then ⟨c, false⟩
  else if moveC c = true then
    (if (placeX a c).2 = true ∧ speedX a c.speed = true ∧ (bndX a).lo ≤ (placeX a c).1 ∧ (placeX a c).1 ≤ (bndX a).hi ∧ (c.kind = 1 → a.hd = true) then ⟨{ c with kind := 1, target := (placeX a c).1 }, true⟩ else ⟨c, false⟩)
  else if c.kind = 4 then ⟨c, speedX a c.speed || decide (c.speed < 0 ∧ -a.l.v ≤ c.speed)⟩
  else if c.kind = 5 then ⟨c, true⟩
  else if c.kind = 6 then ⟨c, takesB a.st || decide (a.st = 2)⟩
  else if c.kind = 7 then ⟨c, decide (a.st = 1)⟩
  else if c.kind = 8 then ⟨c, decide (1 ≤ c.den)⟩
  else ⟨c, false⟩
def startsX (s : WS) (c : CmdS) : WS :=
  let s := tellX s 1 [c.id]
  if c.kind = 1 ∨ c.kind = 5 then happX s 5
  else if c.kind = 4 then happX s 6
  else if c.kind = 6 then happX s 8
  else if c.kind = 7 then { (happX s 3) with a := { (happX s 3).a with h := ⟨0, s.a.fast, s.a.creep, false⟩, hd := false } }
  else if c.kind = 8 then { (happX s 7) with a := { (happX s 7).a with sta := s.a.g.p, mas := s.i.mas, ins := true } }
  else s
def takeX (s : WS) (c : CmdS) : WS :=
  let k := fitsC s.a c
  if k.ok = false ∨ s.fr = true then tellX s 5 [c.id]
  else
    let r := addR s.a.ns s.a.ws k.c
    if r.e ≠ 0 then tellX s 5 [c.id]
    else
      let t := tellX (lineX s r.ns r.ws) 3 (idsX r.ids)
      if r.ws.length = 0 then startsX t k.c else t
def takesX (s : WS) : List CmdS → WS
  | [] => s
  | c :: l => takesX (takeX s c) l
def scaledX (a : AX) (v : Int) : Int := IntKind.i64.wrap ((IntKind.i64.wrap (v * a.ov)).tdiv 100)
def beyondB (f t s : Int) : Bool := (decide (f < t) && decide (t < s)) || (decide (t < f) && decide (s < t))
structure BlendR where
  u : Int
  x : CmdS
  ok : Bool
def blendU (c n : CmdS) : Int := if n.mode = 2 then min c.speed n.speed else if n.mode = 4 then n.speed else if n.mode = 5 then max c.speed n.speed else c.speed
def blendX (a : AX) (c : CmdS) : BlendR :=
  if ((nextR a.ns a.ws).ok && decide (2 ≤ (nextR a.ns a.ws).x.mode) && beyondB a.g.p c.target (nextR a.ns a.ws).x.target) = true then ⟨blendU c (nextR a.ns a.ws).x, (nextR a.ns a.ws).x, true⟩ else ⟨0, (nextR a.ns a.ws).x, false⟩
structure WantR where
  a : AX
  v : Int
  by_ : Bool
def wantX (a : AX) (i : INS) : WantR :=
  if a.st = 2 then ⟨{ a with h := (stepH a.h i.hm i.plus i.minus (decide (a.g.v = 0))).1 }, (stepH a.h i.hm i.plus i.minus (decide (a.g.v = 0))).2, false⟩
  else if (underX a).ok = false then ⟨a, 0, false⟩
  else
    let c := (underX a).x
    if a.st = 4 ∧ c.kind = 1 then
      let v := scaledX a c.speed
      (if (blendX a c).ok = true then ⟨a, byG (bndX a) a.g c.target (min (blendX a c).u v) (blendX a c).x.target v, true⟩ else ⟨a, toG (bndX a) a.g c.target v, false⟩)
    else if a.st = 5 then ⟨a, scaledX a c.speed, false⟩
    else if a.st = 6 then ⟨{ a with ins := wantO (bndX a) a.g (plV a.sta a.mas i.mas c.num c.den) (plO a.sta a.mas i.mas c.num c.den) }, wantV a.g (plV a.sta a.mas i.mas c.num c.den) (plO a.sta a.mas i.mas c.num c.den), false⟩
    else ⟨a, 0, false⟩
def pushX (a : AX) (pos : Int) : AX := { a with sm := (pos :: a.sm).take a.sm.length }
def goneX (a : AX) (x : Int) : AX := let g := stepG (bndX a) a.g x; pushX { a with g := g } g.p
structure StepsR where
  a : AX
  passed : Bool
def stepsX (a : AX) (i : INS) : StepsR :=
  if a.st = 0 then ⟨pushX a a.g.p, false⟩
  else
    let r := wantX a i
    let n := goneX r.a r.v
    ⟨n, r.by_ && ((decide (a.g.p < (underX a).x.target) && decide ((underX a).x.target ≤ n.g.p)) || (decide ((underX a).x.target < a.g.p) && decide (n.g.p ≤ (underX a).x.target)))⟩
def doneX (s : WS) (e : Int) : WS :=
  let r := endR s.a.ns s.a.ws
  let s := tellX (lineX s r.ns r.ws) 2 [r.id]
  if (underX s.a).ok = true then startsX s (underX s.a).x else happX s e
def homedX (s : WS) : WS :=
  let o := s.a.off - (s.a.hat - s.a.g.p)
  if -288230376151711744 ≤ o ∧ o ≤ 288230376151711744 then
    doneX { s with a := { s.a with g := ⟨s.a.hat, s.a.g.v⟩, sm := List.replicate s.a.win.toNat s.a.hat, off := o, hd := true } } 4
  else failsX s 5
def endsX (s : WS) (passed : Bool) : WS :=
  if s.a.st = 4 then
    (if ((underX s.a).ok && (passed || (stillX s.a && (decide ((underX s.a).x.kind ≠ 1) || decide ((underX s.a).x.target = s.a.g.p))))) = true then doneX s 10 else s)
  else if s.a.st = 3 then
    (if stillX s.a = false then s
     else if (underX s.a).ok = true then tellX (lineX s (endR s.a.ns s.a.ws).ns (endR s.a.ns s.a.ws).ws) 2 [(endR s.a.ns s.a.ws).id]
     else if s.i.rel = true then happX s 9 else s)
  else if s.a.st = 2 then
    (if (decide (s.a.h.p = 4) && stillX s.a) = true then homedX s else if s.a.h.p = 5 then failsX s 5 else s)
  else s
def startX (a : AX) (i : INS) : WS := ⟨{ a with ov := max 0 (min i.ov 100) }, i, [], false⟩
def cycX (a : AX) (i : INS) (cs : List CmdS) : WS :=
  let s := takesX (beginsX (startX a i)) cs
  let r := stepsX s.a i
  endsX { s with a := r.a } r.passed
def stepX (a : AX) (i : INS) (cs : List CmdS) : AX × List RepS := bif rightX a then ((cycX a i cs).a, (cycX a i cs).rs) else (a, [])


def I64 (x : Int) : Prop := -9223372036854775808 ≤ x ∧ x ≤ 9223372036854775807
structure CmdW (c : CmdS) : Prop where
  id : I64 c.id
  kind : I64 c.kind
  target : I64 c.target
  speed : I64 c.speed
  mode : I64 c.mode
  num : I64 c.num
  den : I64 c.den
structure InW (i : INS) : Prop where
  act : I64 i.act
  mas : I64 i.mas
structure AxI (a : AX) : Prop where
  lr : rightB a.l = true
  win : 1 ≤ a.win ∧ a.win ≤ 16
  hat : a.l.lo ≤ a.hat ∧ a.hat ≤ a.l.hi
  hom : homeB 0 a.fast a.creep = true
  len : (a.sm.length : Int) = a.win
  smr : rightW a.sm a.sm.length = true
  safe : safeB (bndX a) a.g = true
  line : lineB a.ns a.ws = true
  cw : ∀ c ∈ a.ns ++ a.ws, CmdW c
  ov : 0 ≤ a.ov ∧ a.ov ≤ 100
  off : -288230376151711744 ≤ a.off ∧ a.off ≤ 288230376151711744
  sta : I64 a.sta
  mas : I64 a.mas

theorem bnd_right {a : AX} (h : rightB a.l = true) : rightB (bndX a) = true := by
  have hy := rightB_yes h
  unfold bndX
  cases a.hd
  · exact decide_eq_true (by simp only [cond_false]; omega)
  · exact h
theorem safe_stand {l : LimS} {p : Int} (hr : rightB l = true) (h : l.lo ≤ p ∧ p ≤ l.hi) : safeB l ⟨p, 0⟩ = true := by
  refine decide_eq_true ?_
  show l.lo ≤ p ∧ p ≤ l.hi ∧ -1048576 ≤ (0 : Int) ∧ (0 : Int) ≤ 1048576 ∧ (0 ≤ (0 : Int) → slw 0 0 l.d ≤ l.hi - p) ∧ ((0 : Int) < 0 → slw (-0) 0 l.d ≤ p - l.lo)
  rw [slw_le 0 0 l.d (by omega)]
  omega
theorem AxI.br {a : AX} (h : AxI a) : rightB (bndX a) = true := bnd_right h.lr
theorem AxI.okb {a : AX} (h : AxI a) : okB (bndX a) a.g = true := by unfold okB; rw [h.br, h.safe]; rfl
theorem AxI.pos {a : AX} (h : AxI a) : -1099511627776 ≤ a.g.p ∧ a.g.p ≤ 1099511627776 := by
  have h1 := rightB_yes h.br
  have h2 := safeB_yes h.safe
  omega
theorem AxI.vel {a : AX} (h : AxI a) : -1048576 ≤ a.g.v ∧ a.g.v ≤ 1048576 := by
  have h2 := safeB_yes h.safe
  omega
theorem AxI.hat0 {a : AX} (h : AxI a) : -1099511627776 ≤ a.hat ∧ a.hat ≤ 1099511627776 := by
  have h1 := rightB_yes h.lr
  have h2 := h.hat
  omega
theorem plB_of {x : Int} (h : -1099511627776 ≤ x ∧ x ≤ 1099511627776) : plB x = true := decide_eq_true (by omega)
theorem rep_right {win pos : Int} (hw : 1 ≤ win ∧ win ≤ 16) (hp : -1099511627776 ≤ pos ∧ pos ≤ 1099511627776) : rightW (List.replicate win.toNat pos) (List.replicate win.toNat pos).length = true := by
  rw [List.length_replicate]
  exact rightW_same _ _ (by omega) (plB_of hp)
theorem line_none : lineB [] [] = true := rfl
theorem line_kept {ns ws : List CmdS} (h : lineB ns ws = true) : lineB (ws.take 1) (ws.drop 1) = true := by
  obtain ⟨h1, h2, h3, h4⟩ := lineB_yes h
  unfold lineB
  rw [decide_eq_true (show (ws.take 1).length ≤ 1 ∧ (ws.drop 1).length ≤ 4 ∧ ((ws.take 1).length = 0 → (ws.drop 1).length = 0) by simp only [List.length_take, List.length_drop]; omega), List.take_append_drop]
  simp only [Bool.true_and, Bool.not_eq_true', List.any_eq_false, Bool.not_eq_true, Bool.not_eq_false']
  exact fun x hx => by rw [h4 x (List.mem_append.2 (.inr hx))]; decide
theorem line_make {xs : List CmdS} (hl : xs.length ≤ 5) (h : ∀ x ∈ xs, modeB x.mode = true) : lineB (xs.take 1) (xs.drop 1) = true := by
  unfold lineB
  rw [decide_eq_true (show (xs.take 1).length ≤ 1 ∧ (xs.drop 1).length ≤ 4 ∧ ((xs.take 1).length = 0 → (xs.drop 1).length = 0) by simp only [List.length_take, List.length_drop]; omega), List.take_append_drop]
  simp only [Bool.true_and, Bool.not_eq_true', List.any_eq_false, Bool.not_eq_true, Bool.not_eq_false']
  exact fun x hx => by rw [h x hx]; decide
theorem add_kept {ns ws : List CmdS} {x : CmdS} (h : lineB ns ws = true) (he : (addR ns ws x).e = 0) : lineB (addR ns ws x).ns (addR ns ws x).ws = true ∧ ∀ c ∈ (addR ns ws x).ns ++ (addR ns ws x).ws, c ∈ ns ++ ws ∨ c = x := by
  obtain ⟨h1, h2, h3, h4⟩ := lineB_yes h
  unfold addR at he ⊢
  by_cases hm : modeB x.mode = true
  case neg =>
    rw [Bool.not_eq_true] at hm
    rw [hm, Bool.and_false, if_pos rfl] at he
    exact absurd he (by decide)
  case pos =>
    rw [h, hm, Bool.and_self, if_neg (by decide)] at he ⊢
    by_cases h0 : x.mode = 0
    · rw [if_pos h0]
      refine ⟨line_make (xs := [x]) (by simp) (fun y hy => by rw [List.mem_singleton.1 hy]; exact hm), fun c hc => ?_⟩
      simp at hc
      exact .inr hc
    · rw [if_neg h0] at he ⊢
      by_cases h5 : ws.length = 4
      · rw [if_pos h5] at he
        exact absurd he (by decide)
      · rw [if_neg h5]
        have hmem : ∀ c ∈ ns ++ ws ++ [x], c ∈ ns ++ ws ∨ c = x := fun c hc => by simpa [or_assoc] using hc
        refine ⟨line_make (by simp; omega) (fun y hy => ?_), fun c hc => ?_⟩
        · rcases hmem y hy with hy | rfl
          · exact h4 y hy
          · exact hm
        · simp only [List.take_append_drop] at hc
          exact hmem c hc

theorem AxI.st {a : AX} (h : AxI a) (s : Int) : AxI { a with st := s } := ⟨h.lr, h.win, h.hat, h.hom, h.len, h.smr, h.safe, h.line, h.cw, h.ov, h.off, h.sta, h.mas⟩
theorem AxI.cau {a : AX} (h : AxI a) (s : Int) : AxI { a with cau := s } := ⟨h.lr, h.win, h.hat, h.hom, h.len, h.smr, h.safe, h.line, h.cw, h.ov, h.off, h.sta, h.mas⟩
theorem AxI.ins {a : AX} (h : AxI a) (s : Bool) : AxI { a with ins := s } := ⟨h.lr, h.win, h.hat, h.hom, h.len, h.smr, h.safe, h.line, h.cw, h.ov, h.off, h.sta, h.mas⟩
theorem AxI.h {a : AX} (h : AxI a) (s : HomeS) : AxI { a with h := s } := ⟨h.lr, h.win, h.hat, h.hom, h.len, h.smr, h.safe, h.line, h.cw, h.ov, h.off, h.sta, h.mas⟩
theorem AxI.ov2 {a : AX} (h : AxI a) (s : Int) (hs : 0 ≤ s ∧ s ≤ 100) : AxI { a with ov := s } := ⟨h.lr, h.win, h.hat, h.hom, h.len, h.smr, h.safe, h.line, h.cw, hs, h.off, h.sta, h.mas⟩
theorem AxI.lines {a : AX} (h : AxI a) {ns ws : List CmdS} (hl : lineB ns ws = true) (hc : ∀ c ∈ ns ++ ws, CmdW c) : AxI { a with ns := ns, ws := ws } := ⟨h.lr, h.win, h.hat, h.hom, h.len, h.smr, h.safe, hl, hc, h.ov, h.off, h.sta, h.mas⟩
theorem AxI.empty {a : AX} (h : AxI a) : AxI { a with ns := [], ws := [] } := h.lines line_none (fun c hc => by simp at hc)
theorem AxI.gear {a : AX} (h : AxI a) (s m : Int) (hs : I64 s) (hm : I64 m) : AxI { a with sta := s, mas := m } := ⟨h.lr, h.win, h.hat, h.hom, h.len, h.smr, h.safe, h.line, h.cw, h.ov, h.off, hs, hm⟩
theorem AxI.placed {a : AX} (h : AxI a) {p : Int} (hp : (bndX a).lo ≤ p ∧ p ≤ (bndX a).hi) : AxI { a with g := ⟨p, 0⟩, sm := List.replicate a.win.toNat p } := by
  have h1 := rightB_yes h.br
  refine ⟨h.lr, h.win, h.hat, h.hom, ?_, rep_right h.win (by omega), safe_stand (bnd_right h.lr) hp, h.line, h.cw, h.ov, h.off, h.sta, h.mas⟩
  have := h.win
  show ((List.replicate a.win.toNat p).length : Int) = a.win
  rw [List.length_replicate]
  omega
theorem AxI.stood {a : AX} (h : AxI a) {p : Int} (hp : (bndX a).lo ≤ p ∧ p ≤ (bndX a).hi) : AxI { a with g := ⟨p, 0⟩ } :=
  ⟨h.lr, h.win, h.hat, h.hom, h.len, h.smr, safe_stand (bnd_right h.lr) hp, h.line, h.cw, h.ov, h.off, h.sta, h.mas⟩
theorem safe_wide {a : AX} (hr : rightB a.l = true) (h : safeB (bndX a) a.g = true) : safeB (bndX { a with hd := false }) a.g = true := by
  have hy := rightB_yes hr
  have hs := safeB_yes h
  refine decide_eq_true ?_
  revert hs
  unfold bndX
  cases a.hd
  · exact fun hs => hs
  · simp only [cond_true, cond_false]
    intro hs
    refine ⟨by omega, by omega, by omega, by omega, fun h => ?_, fun h => ?_⟩
    · have := hs.2.2.2.2.1 h
      omega
    · have := hs.2.2.2.2.2 h
      omega
theorem AxI.lost {a : AX} (h : AxI a) : AxI { a with hd := false } := ⟨h.lr, h.win, h.hat, h.hom, h.len, h.smr, safe_wide h.lr h.safe, h.line, h.cw, h.ov, h.off, h.sta, h.mas⟩
theorem take_right {p : Int} {zs : List Int} {n : Nat} (h : rightW zs n = true) (hn : zs.length = n) (hp : plB p = true) : rightW ((p :: zs).take n) ((p :: zs).take n).length = true ∧ ((p :: zs).take n).length = n := by
  have hl : ((p :: zs).take n).length = n := by simp only [List.length_take, List.length_cons]; omega
  refine ⟨?_, hl⟩
  rw [hl]
  have hy := rightW_yes (rightW_push zs n p h hp)
  refine rightW_mk ⟨hy.1, hy.2.1⟩ fun i hi => ?_
  rw [List.getElem?_take, if_pos hi]
  exact hy.2.2 i hi
theorem AxI.push {a : AX} (h : AxI a) {p : Int} (hp : -1099511627776 ≤ p ∧ p ≤ 1099511627776) : AxI (pushX a p) := by
  have ht := take_right h.smr rfl (plB_of hp)
  exact ⟨h.lr, h.win, h.hat, h.hom, by show (((p :: a.sm).take a.sm.length).length : Int) = a.win; rw [ht.2]; exact h.len, ht.1, h.safe, h.line, h.cw, h.ov, h.off, h.sta, h.mas⟩
theorem AxI.gone {a : AX} (h : AxI a) (x : Int) : AxI (goneX a x) := by
  have hs := step_safe (bndX a) a.g x h.br h.safe
  have h2 : AxI { a with g := stepG (bndX a) a.g x } := ⟨h.lr, h.win, h.hat, h.hom, h.len, h.smr, hs, h.line, h.cw, h.ov, h.off, h.sta, h.mas⟩
  exact h2.push h2.pos

/-! what each part keeps -/
section
variable {s : WS}
theorem inv_tell (h : AxI s.a) (k : Int) (l : List Int) : AxI (tellX s k l).a := h
theorem inv_happ (h : AxI s.a) (e : Int) : AxI (happX s e).a := h.st _
theorem inv_line (h : AxI s.a) {ns ws : List CmdS} (hl : lineB ns ws = true) (hc : ∀ c ∈ ns ++ ws, CmdW c) : AxI (lineX s ns ws).a := h.lines hl hc
theorem inv_fails (h : AxI s.a) (c : Int) : AxI (failsX s c).a := by
  unfold failsX
  cases s.a.ns with
  | nil => exact (h.empty.cau c).st _
  | cons x l => exact (h.empty.cau c).st _
theorem inv_on (h : AxI s.a) : AxI (onX s).a := by
  unfold onX
  dsimp only
  split
  · exact h
  · split
    · rename_i h2
      split
      · exact (h.placed h2).st _
      · exact h
    · split
      · exact h
      · split
        · rename_i h4
          have h5 : AxI { s.a with hd := false, off := s.i.act - max (-1099511627776) (min (s.i.act - s.a.off) 1099511627776) } :=
            ⟨h.lr, h.win, h.hat, h.hom, h.len, h.smr, safe_wide h.lr h.safe, h.line, h.cw, h.ov, h4, h.sta, h.mas⟩
          refine (h5.placed (p := max (-1099511627776) (min (s.i.act - s.a.off) 1099511627776)) ?_).st _
          unfold bndX
          simp only [cond_false]
          omega
        · exact h
theorem inv_off (h : AxI s.a) : AxI (offX s).a := by
  have h2 := safeB_yes h.safe
  exact (h.empty.placed (p := s.a.g.p) ⟨h2.1, h2.2.1⟩).st _
theorem inv_begins (h : AxI s.a) : AxI (beginsX s).a := by
  unfold beginsX
  dsimp only
  split
  · exact inv_fails h _
  · split
    · split
      · exact (h.st _).cau _
      · exact h
    · split
      · exact inv_off h
      · split
        · exact inv_on h
        · exact h
theorem inv_starts (h : AxI s.a) (hi : InW s.i) (c : CmdS) : AxI (startsX s c).a := by
  have hp := h.pos
  unfold startsX
  dsimp only
  split
  · exact h.st _
  · split
    · exact h.st _
    · split
      · exact h.st _
      · split
        · exact ((h.st (stV s.a.st 3)).h ⟨0, s.a.fast, s.a.creep, false⟩).lost
        · split
          · exact ((h.st (stV s.a.st 7)).gear s.a.g.p s.i.mas ⟨by omega, by omega⟩ hi.mas).ins true
          · exact h
theorem kept_w {a : AX} {c : CmdS} (hc : CmdW c) : CmdW (fitsC a c).c := by
  unfold fitsC
  split
  · exact hc
  · split
    · exact hc
    · split
      · split
        · refine ⟨hc.id, ⟨by show -9223372036854775808 ≤ (1 : Int); omega, by show (1 : Int) ≤ _; omega⟩, ?_, hc.speed, hc.mode, hc.num, hc.den⟩
          show I64 (placeX a c).1
          unfold placeX
          split
          · exact hc.target
          · show I64 (fitV _)
            unfold fitV I64
            split
            · rename_i h; exact of_decide_eq_true h
            · omega
        · exact hc
      · repeat' split
        all_goals exact hc
theorem inv_take (h : AxI s.a) (hi : InW s.i) {c : CmdS} (hc : CmdW c) : AxI (takeX s c).a := by
  unfold takeX
  dsimp only
  split
  · exact h
  · split
    · exact h
    · rename_i he
      have hk := add_kept h.line (Decidable.not_not.1 he)
      have h2 := inv_line (s := s) h hk.1 (fun x hx => (hk.2 x hx).elim (h.cw x) (fun e => e ▸ kept_w hc))
      split
      · exact inv_starts (inv_tell h2 3 _) hi _
      · exact h2
theorem starts_i (s : WS) (c : CmdS) : (startsX s c).i = s.i := by
  unfold startsX
  dsimp only
  repeat' split
  all_goals rfl
theorem take_i (s : WS) (c : CmdS) : (takeX s c).i = s.i := by
  unfold takeX
  dsimp only
  repeat' split
  all_goals first | rfl | exact starts_i _ _
theorem fails_i (s : WS) (c : Int) : (failsX s c).i = s.i := by
  unfold failsX
  cases s.a.ns <;> rfl
theorem on_i (s : WS) : (onX s).i = s.i := by
  unfold onX
  dsimp only
  repeat' split
  all_goals rfl
theorem begins_i (s : WS) : (beginsX s).i = s.i := by
  unfold beginsX
  dsimp only
  repeat' split
  all_goals first | rfl | exact fails_i _ _ | exact on_i _
theorem takes_i (cs : List CmdS) : ∀ s : WS, (takesX s cs).i = s.i := by
  induction cs with
  | nil => exact fun s => rfl
  | cons c l ih => exact fun s => (ih _).trans (take_i s c)
theorem inv_takes (cs : List CmdS) : ∀ s : WS, AxI s.a → InW s.i → (∀ c ∈ cs, CmdW c) → AxI (takesX s cs).a := by
  induction cs with
  | nil => exact fun s h _ _ => h
  | cons c l ih => exact fun s h hi hc => ih _ (inv_take h hi (hc c (by simp))) (by rw [take_i]; exact hi) (fun x hx => hc x (by simp [hx]))
theorem inv_want {a : AX} (h : AxI a) (i : INS) : AxI (wantX a i).a := by
  unfold wantX
  dsimp only
  split
  · exact h.h _
  · split
    · exact h
    · split
      · split <;> exact h
      · split
        · exact h
        · split
          · exact h.ins _
          · exact h
theorem inv_steps {a : AX} (h : AxI a) (i : INS) : AxI (stepsX a i).a := by
  unfold stepsX
  split
  · exact h.push h.pos
  · exact (inv_want h i).gone _
theorem end_kept {ns ws : List CmdS} (h : lineB ns ws = true) : lineB (endR ns ws).ns (endR ns ws).ws = true ∧ ∀ c ∈ (endR ns ws).ns ++ (endR ns ws).ws, c ∈ ns ++ ws := by
  unfold endR
  rw [if_pos h]
  cases ns with
  | nil => exact ⟨line_none, fun c hc => by simp at hc⟩
  | cons y l =>
    refine ⟨line_kept h, fun c hc => ?_⟩
    simp only [List.take_append_drop] at hc
    exact List.mem_append.2 (.inr hc)
theorem inv_end (h : AxI s.a) : AxI (lineX s (endR s.a.ns s.a.ws).ns (endR s.a.ns s.a.ws).ws).a :=
  h.lines (end_kept h.line).1 (fun c hc => h.cw c ((end_kept h.line).2 c hc))
theorem inv_done (h : AxI s.a) (hi : InW s.i) (e : Int) : AxI (doneX s e).a := by
  unfold doneX
  dsimp only
  split
  · exact inv_starts (inv_tell (inv_end h) _ _) hi _
  · exact (inv_end h).st _
theorem inv_homed (h : AxI s.a) (hi : InW s.i) (hv : s.a.g.v = 0) : AxI (homedX s).a := by
  unfold homedX
  dsimp only
  split
  · rename_i ho
    have hh := h.hat0
    refine inv_done (s := { s with a := { s.a with g := ⟨s.a.hat, s.a.g.v⟩, sm := List.replicate s.a.win.toNat s.a.hat, off := s.a.off - (s.a.hat - s.a.g.p), hd := true } }) ⟨h.lr, h.win, h.hat, h.hom, ?_, rep_right h.win hh, ?_, h.line, h.cw, h.ov, ho, h.sta, h.mas⟩ hi 4
    · have := h.win
      show ((List.replicate s.a.win.toNat s.a.hat).length : Int) = s.a.win
      rw [List.length_replicate]
      omega
    · show safeB s.a.l ⟨s.a.hat, s.a.g.v⟩ = true
      rw [hv]
      exact safe_stand h.lr h.hat
  · exact inv_fails h 5
theorem still_v {a : AX} (h : stillX a = true) : a.g.v = 0 := by
  unfold stillX at h
  simp only [Bool.and_eq_true, decide_eq_true_eq] at h
  exact h.1
theorem inv_ends (h : AxI s.a) (hi : InW s.i) (p : Bool) : AxI (endsX s p).a := by
  unfold endsX
  split
  · split
    · exact inv_done h hi 10
    · exact h
  · split
    · split
      · exact h
      · split
        · exact inv_end h
        · split
          · exact h.st _
          · exact h
    · split
      · split
        · rename_i hq
          simp only [Bool.and_eq_true] at hq
          exact inv_homed h hi (still_v hq.2)
        · split
          · exact inv_fails h 5
          · exact h
      · exact h
end

end Go.Proofs.YthhfnageadckkaaGreat
