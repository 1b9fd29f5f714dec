/- Merged: Readings of arguments, cell by cell: what a value of a type looks like in memory. Slices of structs (or of whatever reads cell by cell), as they lie in memory. Readings of rows of numbers, wherever they stand (in a struct's field, say). Layer 15: a worker under way, in memory. Layer 15: small functions of an axis by value. Layer 15: a worker's own cells are turned; its state goes on. Layer 15: small functions of a worker that leave it as it is. -/
import Derived.Test.YthhfnageadckkaaGreatM02
import Derived.Test.YthhfnageadckkaaGreatM18
import Derived.Test.YthhfnageadckkaaGreatM09
import Derived.Test.YthhfnageadckkaaGreatM08
set_option linter.unusedVariables false
set_option linter.unusedSimpArgs false
set_option maxHeartbeats 2000000
namespace Go.Proofs.YthhfnageadckkaaGreat
open Go.ChangeShapes Go.WideShapes Go.ChangeAt Go.RowKit

section
variable {P : Program} {H : Type} {enc : TypeId × Value → H} {w : World} {t e : TypeId} {cs : List Value}

def Rd (enc : TypeId × Value → H) (P : Program) (w : World) (t : TypeId) (cs : List Value) : Prop := ∃ fuel x, DataW.trod enc P w 0 (fun _ => true) true fuel t cs = some x

theorem rd_of {v : Value} {d : DataW H} {ps : List MemPlace} (h : DataW.Trod enc P w 0 (fun _ => true) true t v d ps) : Rd enc P w t v.cells.toList :=
 let ⟨n, hn⟩ := h
 ⟨n, _, hn⟩

theorem rd_int {k : IntKind} (ht : P.underlying t = some (.int k)) (h : Rd enc P w t cs) : ∃ n, cs = [.int k n] ∧ (Lit.int k n).wf = true := by
 obtain ⟨fuel, x, h⟩ := h
 cases fuel with
 | zero => simp [DataW.trod] at h
 | succ n =>
  unfold DataW.trod at h
  rw [ht] at h
  split at h <;> simp_all

theorem rd_bool (ht : P.underlying t = some .bool) (h : Rd enc P w t cs) : ∃ b, cs = [.bool b] := by
 obtain ⟨fuel, x, h⟩ := h
 cases fuel with
 | zero => simp [DataW.trod] at h
 | succ n =>
  unfold DataW.trod at h
  rw [ht] at h
  split at h <;> simp_all

theorem rd_struct {fs : Array Field} (ht : P.underlying t = some (.struct fs)) (h : Rd enc P w t cs) :
  cs.length = P.cellsOf t ∧ ∀ (i : Nat) (f : Field), fs[i]? = some f → Rd enc P w f.type ((cs.drop f.offset).take (P.cellsOf f.type)) := by
 obtain ⟨fuel, x, h⟩ := h
 obtain ⟨xs, n, _, _, hl, hs, hg⟩ := DataW.trod_struct ht h
 refine ⟨hl, fun i f hf => ?_⟩
 have hi : i < xs.length := by
  rw [hs]
  exact (Array.getElem?_eq_some_iff.1 hf).1
 exact ⟨n, xs[i], by rw [hg i f hf, List.getElem?_eq_getElem hi]⟩

theorem rd_slice (ht : P.underlying t = some (.slice e)) (h : Rd enc P w t cs) :
  cs = [.slice none 0 0] ∨ ∃ (a : Addr) (len cap : Nat), cs = [.slice (some a) len cap] ∧ len ≤ cap ∧ cap ≤ maxLen ∧
   ∀ i, i < len → ∃ cs', w.cells? 0 (a.add (i * P.cellsOf e)) (P.cellsOf e) = some cs' ∧ Rd enc P w e cs' := by
 obtain ⟨fuel, x, h⟩ := h
 rcases DataW.trod_slice ht h with h0 | ⟨a, len, cap, elems, rest, n, _, rfl, rfl, hb, hl, hm, hlen, hel, hsp, hns⟩
 ·exact .inl h0.1
 ·refine .inr ⟨a, len, cap, rfl, hl, hm, fun i hi => ?_⟩
  have h1 := hel i hi
  have h2 : i < elems.length := by omega
  rw [List.getElem?_eq_getElem h2] at h1
  cases hc : w.cells? 0 (a.add (i * P.cellsOf e)) (P.cellsOf e) with
  | none => rw [hc] at h1; simp at h1
  | some cs' => rw [hc] at h1; exact ⟨cs', rfl, n, _, by simpa using h1⟩

end

theorem rd_agg {P : Program} {H : Type} {enc : TypeId × Value → H} {w : World} {t : TypeId} {fs : Array Field} {base : Nat} {v : Value} {d : DataW H} {ps : List MemPlace} (hs : P.underlying t = some (.struct fs))
  (hv : Value.okWide P w .any base t v) (h : DataW.Trod enc P w 0 (fun _ => true) true t v d ps) : ∃ cs : List Value, v = .agg cs.toArray ∧ Rd enc P w t cs := by
 obtain ⟨cs, rfl, hsz⟩ := okWide_struct hs hv
 exact ⟨cs.toList, by simp, by simpa [Value.cells] using rd_of h⟩

theorem list_2 {α : Type} (l : List α) (h : l.length = 2) : ∃ a b, l = [a, b] := by match l, h with | [a, b], _ => exact ⟨a, b, rfl⟩
theorem list_4 {α : Type} (l : List α) (h : l.length = 4) : ∃ a b c d, l = [a, b, c, d] := by match l, h with | [a, b, c, d], _ => exact ⟨a, b, c, d, rfl⟩
theorem list_5 {α : Type} (l : List α) (h : l.length = 5) : ∃ a b c d e, l = [a, b, c, d, e] := by match l, h with | [a, b, c, d, e], _ => exact ⟨a, b, c, d, e, rfl⟩
theorem list_7 {α : Type} (l : List α) (h : l.length = 7) : ∃ a b c d e f g, l = [a, b, c, d, e, f, g] := by match l, h with | [a, b, c, d, e, f, g], _ => exact ⟨a, b, c, d, e, f, g, rfl⟩


def SliceAt {α : Type} (n : Nat) (f : α → List Value) (good : α → Prop) (w : World) (v : Value) (xs : List α) : Prop :=
 ∃ (a : Option Addr) (cap : Nat), v = .slice a xs.length cap ∧ xs.length ≤ cap ∧ cap ≤ 9223372036854775807 ∧ (∀ x ∈ xs, good x) ∧
  (xs ≠ [] → ∃ b off, a = some ⟨b, off, none⟩ ∧ b < w.heap.size ∧ ∀ (i : Nat) (x : α), xs[i]? = some x → ∀ j, j < n → w.cell? ⟨b, off + i * n + j, none⟩ = (f x)[j]?)

theorem slice_pick {α : Type} (Q : Nat → α → Prop) (len : Nat) (h : ∀ i, i < len → ∃ x, Q i x) : ∃ xs : List α, xs.length = len ∧ ∀ i x, xs[i]? = some x → Q i x := by
 induction len with
 | zero => exact ⟨[], rfl, fun i x hx => by simp at hx⟩
 | succ m ih =>
  obtain ⟨xs, hl, hx⟩ := ih (fun i hi => h i (by omega))
  obtain ⟨y, hy⟩ := h m (by omega)
  refine ⟨xs ++ [y], by simp [hl], fun i x hi => ?_⟩
  by_cases c : i < xs.length
  ·rw [List.getElem?_append_left c] at hi
   exact hx i x hi
  ·rw [List.getElem?_append_right (by omega)] at hi
   have hi0 : i - xs.length = 0 := by
    by_cases z : i - xs.length = 0
    ·exact z
    ·rw [List.getElem?_eq_none (by simp; omega)] at hi
     cases hi
   rw [hi0] at hi
   simp at hi
   subst hi
   have : i = m := by omega
   subst this
   exact hy

theorem rd_slice_at {α : Type} {P : Program} {H : Type} {enc : TypeId × Value → H} {w : World} {t e : TypeId} {n : Nat} (f : α → List Value) (good : α → Prop) {v : Value}
  (ht : P.underlying t = some (.slice e)) (hn : P.cellsOf e = n) (h0 : 0 < n) (hr : ∀ cs, Rd enc P w e cs → ∃ x, cs = f x ∧ good x) (h : Rd enc P w t [v]) : ∃ xs, SliceAt n f good w v xs := by
 rcases rd_slice ht h with h1 | ⟨a, len, cap, h1, hl, hm, hc⟩
 ·simp only [List.cons.injEq, and_true] at h1
  subst h1
  exact ⟨[], none, 0, rfl, by simp, by simp, by simp, fun h => absurd rfl h⟩
 ·simp only [List.cons.injEq, and_true] at h1
  subst h1
  rw [hn] at hc
  obtain ⟨xs, hlen, hx⟩ := slice_pick (fun i x => good x ∧ w.cells? 0 (a.add (i * n)) n = some (f x)) len (fun i hi => by
   obtain ⟨cs, h2, h3⟩ := hc i hi
   obtain ⟨x, rfl, hg⟩ := hr cs h3
   exact ⟨x, hg, h2⟩)
  unfold maxLen at hm
  refine ⟨xs, some a, cap, by rw [hlen], by omega, by omega, fun x hm => ?_, fun hne => ?_⟩
  ·obtain ⟨i, hi⟩ := List.getElem?_of_mem hm
   exact (hx i x hi).1
  ·obtain ⟨x0, hx0⟩ : ∃ x, xs[0]? = some x := by
    cases xs with
    | nil => exact absurd rfl hne
    | cons y _ => exact ⟨y, rfl⟩
   have hcell := fun (i : Nat) (x : α) (hi : xs[i]? = some x) => (World.cells?_some (hx i x hi).2).2
   obtain ⟨b, off, spot⟩ := a
   have h00 := (hcell 0 x0 hx0).2 0 h0
   have hl0 := (hcell 0 x0 hx0).1
   rw [List.getElem?_eq_getElem (by omega)] at h00
   have hspot : spot = none := by simpa [Addr.add] using World.cell?_spot h00
   subst hspot
   refine ⟨b, off, rfl, by simpa [Addr.add] using World.block_lt_of_cell? _ _ h00, fun i x hi j hj => ?_⟩
   have := (hcell i x hi).2 j hj
   rw [add_plain, add_plain] at this
   exact this


theorem cells_smooth : Tryz.prog.cellsOf 28 = 1 := by kernel_rfl

end Go.Proofs.YthhfnageadckkaaGreat

namespace Go.Proofs.YthhfnageadckkaaGreat
open Go.RowKit

def repC (rs : List RepS) : List Value := rs.flatMap fun r => [.int .i64 r.id, .int .i64 r.what]
def axC (a : AX) (sv nv wv : Value) : List Value := [.int .i64 a.st, .int .i64 a.l.v, .int .i64 a.l.a, .int .i64 a.l.d, .int .i64 a.l.lo, .int .i64 a.l.hi, .int .i64 a.win, .int .i64 a.hat, .int .i64 a.fast, .int .i64 a.creep, .int .i64 a.g.p, .int .i64 a.g.v, sv, .int .i64 a.off, nv, wv, .bool a.hd, .int .i64 a.h.p, .int .i64 a.h.f, .int .i64 a.h.c, .bool a.h.t, .int .i64 a.ov, .int .i64 a.sta, .int .i64 a.mas, .int .i64 a.cau, .bool a.ins]
def inC (i : INS) (cv : Value) : List Value := [.bool i.pw, .bool i.op, .int .i64 i.act, .int .i64 i.cau, .bool i.plus, .bool i.minus, .bool i.hm, .bool i.reset, .bool i.rel, .int .i64 i.ov, .int .i64 i.mas, cv]
def wkC (s : WS) (sv nv wv cv rv : Value) : List Value := axC s.a sv nv wv ++ inC s.i cv ++ [rv, .bool s.fr]
theorem repC_app (rs qs : List RepS) : repC (rs ++ qs) = repC rs ++ repC qs := by simp [repC]

structure Buts (P : Nat → Prop) (w w' : World) : Prop where
 size : w.heap.size ≤ w'.heap.size
 blk : ∀ b, b < w.heap.size → ¬ P b → w'.heap[b]? = w.heap[b]?
 below : ∀ B, (∀ b, P b → B ≤ b) → B ≤ w.heap.size → Below B w w'
theorem Buts.cell {P : Nat → Prop} {w w' : World} (h : Buts P w w') : ∀ b o, b < w.heap.size → ¬ P b → w'.cell? ⟨b, o, none⟩ = w.cell? ⟨b, o, none⟩ := fun b o hb hn => World.cell?_of_block (a := ⟨b, o, none⟩) (h.blk b hb hn)
theorem Buts.of_below {P : Nat → Prop} {w w' : World} (h : Below w.heap.size w w') : Buts P w w' :=
 ⟨h.size, fun b hb _ => h.block b hb, fun _ _ h2 => h.mono h2⟩
theorem Buts.refl (P : Nat → Prop) (w : World) : Buts P w w := Buts.of_below (Below.refl _ _)
theorem Buts.trans {P : Nat → Prop} {a b c : World} (h1 : Buts P a b) (h2 : Buts P b c) : Buts P a c :=
 ⟨Nat.le_trans h1.size h2.size, fun x hx hn => (h2.blk x (Nat.lt_of_lt_of_le hx h1.size) hn).trans (h1.blk x hx hn),
  fun B hB hs => (h1.below B hB hs).trans (h2.below B hB (Nat.le_trans hs h1.size))⟩
theorem Buts.wide {P Q : Nat → Prop} {a b : World} (h : Buts P a b) (hq : ∀ x, P x → Q x) : Buts Q a b :=
 ⟨h.size, fun x hx hn => h.blk x hx (fun hp => hn (hq x hp)), fun B hB hs => h.below B (fun x hx => hB x (hq x hx)) hs⟩
theorem Buts.set {P : Nat → Prop} {w w' : World} (h : Buts P w w') {g : Nat} (hg : P g) (o : Nat) (v : Value) : Buts P w (w'.setCell ⟨g, o, none⟩ v) := by
 refine ⟨by simpa [World.setCell] using h.size, fun b hb hn => ?_, fun B hB hs => ?_⟩
 ·exact (Below.heap_setCell w' ⟨g, o, none⟩ v b (fun e => hn (by rw [e]; exact hg))).trans (h.blk b hb hn)
 ·exact Below.setCell (h.below B hB hs) (by show B ≤ g; exact hB g hg) _
theorem Buts.alloc {P : Nat → Prop} {w w' : World} (h : Buts P w w') (o : Obj) : Buts P w (w'.alloc o) := h.trans (Buts.of_below ((Below.refl _ _).alloc (Nat.le_refl _) o))
theorem Buts.drew {P : Nat → Prop} {w w' : World} (h : Buts P w w') : Buts P w w'.drew := h.trans (Buts.of_below (Below.refl _ _).drew)
theorem Buts.drewN {P : Nat → Prop} {w w' : World} (h : Buts P w w') (n : Nat) : Buts P w (w'.drewN n) := h.trans (Buts.of_below (below_drewN (Below.refl _ _) n))
theorem owns_buts {P : Nat → Prop} {w w' : World} {base size : Nat} {e : TypeId} {v : Value} {n : Nat} {xs : List Value} (h : w.ownsRow base e size v n xs) (hb : Buts P w w') (hn : ∀ b, v.ownBlock = some b → ¬ P b) : w'.ownsRow base e size v n xs := by
 obtain ⟨h1, h2⟩ := h
 refine ⟨h1, ?_⟩
 rcases h2 with h2 | ⟨g, cap, cur, hv, hg, hh, r⟩
 ·exact Or.inl h2
 ·exact Or.inr ⟨g, cap, cur, hv, hg, by rw [hb.blk g (Array.getElem?_eq_some_iff.1 hh).1 (hn g (by rw [hv]; rfl))]; exact hh, r⟩
theorem Buts.of_grown {a w w' : World} {row : Option Nat} (h : Below a.heap.size a w) (hg : w.grownBy w' row) : Buts (fun b => row = some b) a w' :=
 ⟨Nat.le_trans h.size hg.size, fun b hb hn => (hg.block b (Nat.lt_of_lt_of_le hb h.size) (fun e => hn e.symm)).trans (h.block b hb), fun B hB hs => (h.mono hs).grown hg (Nat.le_trans hs h.size) fun k hk => hB k hk⟩

def SmV (w : World) (zs : List Int) (v : Value) : Prop := ∃ A c, v = .slice A zs.length c ∧ zs.length ≤ c ∧ c ≤ 9223372036854775807 ∧ Lies w w.heap.size 1 A zs.length (intsC zs)
def ApV (K : Nat) (rv v : Value) : Prop := ∀ b o n c, 0 < n → v = .slice (some ⟨b, o, none⟩) n c → b ≠ K ∧ rv.ownBlock ≠ some b
theorem Lies.buts {P : Nat → Prop} {w w' : World} {size n : Nat} {A : Option Addr} {xs : List Value} (h : Lies w w.heap.size size A n xs) (hb : Buts P w w') (hp : ∀ b o, 0 < n → A = Option.some ⟨b, o, none⟩ → ¬ P b) : Lies w' w'.heap.size size A n xs :=
 ⟨h.1, fun hn => by
  obtain ⟨b, off, e, hlt, hc⟩ := h.2 hn
  exact ⟨b, off, e, Nat.lt_of_lt_of_le hlt hb.size, fun j u hu => (hb.cell _ _ hlt (hp b off hn e)).trans (hc j u hu)⟩⟩
theorem SmV.buts {P : Nat → Prop} {w w' : World} {zs : List Int} {v : Value} (h : SmV w zs v) (hb : Buts P w w') (hp : ∀ b o n c, 0 < n → v = .slice (some ⟨b, o, none⟩) n c → ¬ P b) : SmV w' zs v := by
 obtain ⟨A, c, rfl, h1, h2, h3⟩ := h
 exact ⟨A, c, rfl, h1, h2, Lies.buts h3 hb (fun b o hn e => hp b o _ _ hn (by rw [e]))⟩
theorem ReadC.buts {P : Nat → Prop} {w w' : World} {n base : Nat} {xs : List Value} {v : Value} (h : ReadC w n xs base v) (hb : Buts P w w') (hp : ∀ b o n c, 0 < n → v = .slice (some ⟨b, o, none⟩) n c → ¬ P b) : ReadC w' n xs base v := by
 obtain ⟨A, c, rfl, h1, h2, h3, h4⟩ := h
 exact ⟨A, c, rfl, h1, h2, Lies.buts h3 hb (fun b o hn e => hp b o _ _ hn (by rw [e])), h4⟩
theorem SmV.below {w w' : World} {zs : List Int} {v : Value} (h : SmV w zs v) (hb : Below w.heap.size w w') : SmV w' zs v := h.buts (P := fun _ => False) (Buts.of_below hb) (fun _ _ _ _ _ _ h => h)

def ApW (d K : Nat) (rv v : Value) : Prop := ApV K rv v ∧ ∀ b o n c, 0 < n → v = .slice (some ⟨b, o, none⟩) n c → d ≤ b
structure WKp (W : World) (K : Nat) (s : WS) (rv sv nv wv cv : Value) : Prop where
 blk : W.heap[K]? = some (.cells (wkC s sv nv wv cv rv).toArray 72)
 sm : SmV W s.a.sm sv
 ln : LineV W 0 s.a.ns s.a.ws (.agg #[nv, wv])
 a1 : ApW s.i.d K rv sv
 dk : s.i.d ≤ K
 a2 : ApW s.i.d K rv nv
 a3 : ApW s.i.d K rv wv
 own : W.ownsRow 0 48 2 rv s.rs.length (repC s.rs)
 ne : rv.ownBlock ≠ some K
 inv : AxI s.a
 iw : InW s.i
 o4 : cv.oneCell' = true
def WK (W : World) (K : Nat) (s : WS) (rv : Value) : Prop := ∃ sv nv wv cv, WKp W K s rv sv nv wv cv
structure Turn (K : Nat) (rv rv' : Value) (W W' : World) : Prop where
 buts : Buts (fun b => b = K ∨ rv.ownBlock = some b) W W'
 own : ∀ b, rv'.ownBlock = some b → rv.ownBlock = some b ∨ W.heap.size ≤ b
theorem Turn.refl (K : Nat) (rv : Value) (W : World) : Turn K rv rv W W := ⟨Buts.refl _ _, fun _ h => .inl h⟩
theorem Turn.trans {K : Nat} {r1 r2 r3 : Value} {a b c : World} (h1 : Turn K r1 r2 a b) (h2 : Turn K r2 r3 b c) : Turn K r1 r3 a c := by
 refine ⟨⟨Nat.le_trans h1.buts.size h2.buts.size, fun x hx hn => ?_, fun B hB hs => ?_⟩, fun x hx => ?_⟩
 ·refine (h2.buts.blk x (Nat.lt_of_lt_of_le hx h1.buts.size) (fun h => ?_)).trans (h1.buts.blk x hx hn)
  rcases h with h | h
  ·exact hn (.inl h)
  ·rcases h1.own x h with h | h
   ·exact hn (.inr h)
   ·omega
 ·refine (h1.buts.below B hB hs).trans (h2.buts.below B (fun x hx => ?_) (Nat.le_trans hs h1.buts.size))
  rcases hx with h | h
  ·exact hB x (.inl h)
  ·rcases h1.own x h with h | h
   ·exact hB x (.inr h)
   ·omega
 ·rcases h2.own x hx with h | h
  ·exact h1.own x h
  ·exact .inr (Nat.le_trans h1.buts.size h)
theorem Turn.of_below {K : Nat} {rv : Value} {a b : World} (h : Below a.heap.size a b) : Turn K rv rv a b := ⟨Buts.of_below h, fun _ h => .inl h⟩
theorem Turn.of_k {K : Nat} {rv : Value} {a b : World} (h : Buts (fun x => x = K) a b) : Turn K rv rv a b := ⟨h.wide fun _ => .inl, fun _ h => .inl h⟩

section
variable {W W' : World} {K : Nat} {s s' : WS} {rv sv nv wv cv sv' nv' wv' : Value}
theorem WKp.lt (h : WKp W K s rv sv nv wv cv) : K < W.heap.size := (Array.getElem?_eq_some_iff.1 h.blk).1
theorem WKp.cell (h : WKp W K s rv sv nv wv cv) (j : Nat) (v : Value) (hv : (wkC s sv nv wv cv rv)[j]? = some v) : W.cell? ⟨K, j, none⟩ = some v := heap_cell j v h.blk (by rw [List.getElem?_toArray]; exact hv)
theorem WKp.froz (h : WKp W K s rv sv nv wv cv) (j : Nat) : W.frozen? ⟨K, j, none⟩ = false := frozen_of_row W K j _ _ h.blk
theorem WKp.below (h : WKp W K s rv sv nv wv cv) (hb : Below W.heap.size W W') : WKp W' K s rv sv nv wv cv :=
 ⟨(hb.block K h.lt).trans h.blk, h.sm.below hb, h.ln.below hb, h.a1, h.dk, h.a2, h.a3, owns_below h.own hb, h.ne, h.inv, h.iw, h.o4⟩
theorem WKp.turn (h : WKp W K s rv sv nv wv cv) (hb : Buts (fun b => b = K) W W') (hK : W'.heap[K]? = some (.cells (wkC s' sv' nv' wv' cv rv).toArray 72))
  (hs : SmV W s'.a.sm sv') (hl : LineV W 0 s'.a.ns s'.a.ws (.agg #[nv', wv'])) (h1 : ApW s'.i.d K rv sv') (h2 : ApW s'.i.d K rv nv') (h3 : ApW s'.i.d K rv wv') (hr : s'.rs = s.rs) (hi : AxI s'.a) (hw : s'.i = s.i) : WKp W' K s' rv sv' nv' wv' cv := by
 refine ⟨hK, hs.buts hb (fun b o n c hn e => (h1.1 b o n c hn e).1), ?_, h1, by rw [hw]; exact h.dk, h2, h3, ?_, h.ne, hi, by rw [hw]; exact h.iw, h.o4⟩
 ·obtain ⟨a, b, e, ha, hb'⟩ := hl
  simp only [Value.agg.injEq, Array.mk.injEq, List.cons.injEq, and_true] at e
  obtain ⟨rfl, rfl⟩ := e
  exact ⟨_, _, rfl, ha.buts hb (fun b o n c hn e => (h2.1 b o n c hn e).1), hb'.buts hb (fun b o n c hn e => (h3.1 b o n c hn e).1)⟩
 ·rw [hr]
  exact owns_buts h.own hb (fun b hb' e => h.ne (by rw [hb', e]))
theorem ApV.new_line {base : Nat} {ns ws : List CmdS} (h : WKp W K s rv sv nv wv cv) (hl : LineV W' base ns ws (.agg #[nv', wv'])) (hb : W.heap.size ≤ base) : ApV K rv nv' ∧ ApV K rv wv' := by
 have hk := h.lt
 obtain ⟨a, b, e, ⟨A1, c1, e1, -, -, -, h1⟩, ⟨A2, c2, e2, -, -, -, h2⟩⟩ := hl
 simp only [Value.agg.injEq, Array.mk.injEq, List.cons.injEq, and_true] at e
 obtain ⟨rfl, rfl⟩ := e
 refine ⟨fun b o n c hn e => ?_, fun b o n c hn e => ?_⟩
 ·rw [e1] at e
  injection e with e1' e2' e3'
  have := h1 b o (by omega) e1'
  exact ⟨by omega, fun hr => by have := (h.own.lt b hr).2; omega⟩
 ·rw [e2] at e
  injection e with e1' e2' e3'
  have := h2 b o (by omega) e1'
  exact ⟨by omega, fun hr => by have := (h.own.lt b hr).2; omega⟩
theorem ApV.new_row (h : WKp W K s rv sv nv wv cv) {g : Nat} (hg : W.heap.size ≤ g) (n k : Nat) : ApV K rv (.slice (some ⟨g, 0, none⟩) n k) := by
 have hk := h.lt
 intro b o n' c _ e
 injection e with e
 injection e with e
 injection e with e
 subst e
 exact ⟨by omega, fun hr => by have := (h.own.lt g hr).2; omega⟩
theorem ApW.new_line {base : Nat} {ns ws : List CmdS} (h : WKp W K s rv sv nv wv cv) (hl : LineV W' base ns ws (.agg #[nv', wv'])) (hb : W.heap.size ≤ base) : ApW s.i.d K rv nv' ∧ ApW s.i.d K rv wv' := by
 obtain ⟨p1, p2⟩ := ApV.new_line h hl hb
 have hk := h.lt
 have hd := h.dk
 obtain ⟨a, b, e, ⟨A1, c1, e1, -, -, -, h1⟩, ⟨A2, c2, e2, -, -, -, h2⟩⟩ := hl
 simp only [Value.agg.injEq, Array.mk.injEq, List.cons.injEq, and_true] at e
 obtain ⟨rfl, rfl⟩ := e
 refine ⟨⟨p1, fun b o n c hn e => ?_⟩, ⟨p2, fun b o n c hn e => ?_⟩⟩
 ·rw [e1] at e
  injection e with e1' e2' e3'
  have := h1 b o (by omega) e1'
  omega
 ·rw [e2] at e
  injection e with e1' e2' e3'
  have := h2 b o (by omega) e1'
  omega
theorem ApW.new_row (h : WKp W K s rv sv nv wv cv) {g : Nat} (hg : W.heap.size ≤ g) (n k : Nat) : ApW s.i.d K rv (.slice (some ⟨g, 0, none⟩) n k) := by
 refine ⟨ApV.new_row h hg n k, fun b o n' c _ e => ?_⟩
 have hk := h.lt
 have hd := h.dk
 injection e with e
 injection e with e
 injection e with e
 omega
end
theorem SmV.of_on {w : World} {zs : List Int} {n g k : Nat} (h : OnW w zs n g k) (hn : zs.length = n) : SmV w zs (.slice (some ⟨g, 0, none⟩) n k) := by
 subst hn
 refine ⟨_, k, rfl, h.nk, h.km, by simp [intsC], fun hn => ⟨g, 0, rfl, h.gl, fun j u hu => ?_⟩⟩
 simp only [intsC, List.getElem?_map, Option.map_eq_some_iff] at hu
 obtain ⟨z, hz, rfl⟩ := hu
 have hj := (List.getElem?_eq_some_iff.1 hz).1
 rw [Nat.zero_add, h.cs j hj, hz]
 rfl
theorem SmV.at {w : World} {zs : List Int} {v : Value} (h : SmV w zs v) (hn : 0 < zs.length) : ∃ b off c, v = .slice (some ⟨b, off, none⟩) zs.length c ∧ zs.length ≤ c ∧ c ≤ 9223372036854775807 ∧ b < w.heap.size ∧ ∀ i, i < zs.length → w.cell? ⟨b, off + i, none⟩ = some (.int .i64 (zs[i]?.getD 0)) := by
 obtain ⟨A, c, rfl, h1, h2, h3⟩ := h
 obtain ⟨b, off, rfl, hb, hc⟩ := h3.2 hn
 refine ⟨b, off, c, rfl, h1, h2, hb, fun i hi => hc i _ ?_⟩
 simp [intsC, hi]

end Go.Proofs.YthhfnageadckkaaGreat

namespace Go.Proofs.YthhfnageadckkaaGreat
open Go.RowKit
attribute [local go_sem] ite_max ite_min vite_max vite_min ext_cell ext_frozen

set_option maxRecDepth 100000 in
theorem astill_at (a : AX) (sv nv wv : Value) (r : Bool) (w : World) (hs : SmV w a.sm sv) (hn : 0 < a.sm.length) (hr : stillX a = r) :
  Calls Tryz.prog 60 #[.agg #[.int .i64 a.st, .int .i64 a.l.v, .int .i64 a.l.a, .int .i64 a.l.d, .int .i64 a.l.lo, .int .i64 a.l.hi, .int .i64 a.win, .int .i64 a.hat, .int .i64 a.fast, .int .i64 a.creep, .int .i64 a.g.p, .int .i64 a.g.v, sv, .int .i64 a.off, nv, wv, .bool a.hd, .int .i64 a.h.p, .int .i64 a.h.f, .int .i64 a.h.c, .bool a.h.t, .int .i64 a.ov, .int .i64 a.sta, .int .i64 a.mas, .int .i64 a.cau, .bool a.ins]] w fun e w' => e = .returned (.bool r) ∧ Below w.heap.size w w' := by
 obtain ⟨b, off, c, rfl, h1, h2, h3, h4⟩ := hs.at hn
 obtain ⟨n, hnn⟩ : ∃ n, a.sm.length = n := ⟨_, rfl⟩
 unfold stillX at hr
 obtain ⟨q, hq⟩ : ∃ q, restW a.sm a.sm.length = q := ⟨_, rfl⟩
 rw [hq] at hr
 rw [hnn] at h1 h4 hq ⊢
 have HR : Hid (∀ W, Below w.heap.size w W → Calls Tryz.prog 85 #[.agg #[.slice (some ⟨b, off, none⟩) n c]] W fun e w' => e = .returned (.bool q) ∧ Below W.heap.size W w') := Lib.hid (fun W hW =>
  sm_rest_at a.sm b off n c q W h1 h2 (Nat.lt_of_lt_of_le h3 hW.size) (fun i hi => (hW.cell (p := ⟨b, off + i, none⟩) h3).trans (h4 i hi)) hq)
 clear hs hn h1 h2 h3 h4 hq hnn
 subst hr
 obtain ⟨gv, hgv⟩ : ∃ x, a.g.v = x := ⟨_, rfl⟩
 rw [hgv]
 clear hgv
 by_cases hv : gv = 0
 ·have hd : decide (gv = 0) = true := decide_eq_true hv
  rw [hd]
  clear hd
  subst hv
  go_enter Tryz.func60, Tryz.ntmps60
  go_upto_region 1 with (fail)
  refine wp_name fun W hW => ?_
  obtain ⟨B, hB⟩ : ∃ B, B = w.heap.size := ⟨_, rfl⟩
  have hbel : Below w.heap.size w W := by rw [hW.out]; exact belowBy
  have hlt : B < W.heap.size := by rw [hW.out, hB]; simp
  have c11 : W.cell? ⟨B, 11, none⟩ = some (.int .i64 0) := by rw [hW.out, hB]; go_simp
  have c12 : W.cell? ⟨B, 12, none⟩ = some (.slice (some ⟨b, off, none⟩) n c) := by rw [hW.out, hB]; go_simp
  have HB := Lib.hid hbel
  (try rw [← hB])
  clear hW hbel hB
  go_wp2_with fail
  refine (HR.out _ HB.out).mono ?_
  rintro e w1 ⟨rfl, hb1⟩
  have HB1 := Lib.hid (HB.out.trans (hb1.mono HB.out.size))
  clear hb1
  go_wp2
  go_ret
  exact ⟨rfl, HB1.out⟩
 ·have hd : decide (gv = 0) = false := decide_eq_false hv
  rw [hd]
  clear hd
  go_enter Tryz.func60, Tryz.ntmps60
  go_upto_region 1 with (fail)
  refine wp_name fun W hW => ?_
  obtain ⟨B, hB⟩ : ∃ B, B = w.heap.size := ⟨_, rfl⟩
  have hbel : Below w.heap.size w W := by rw [hW.out]; exact belowBy
  have hlt : B < W.heap.size := by rw [hW.out, hB]; simp
  have c11 : W.cell? ⟨B, 11, none⟩ = some (.int .i64 gv) := by rw [hW.out, hB]; go_simp
  have HB := Lib.hid hbel
  (try rw [← hB])
  clear hW hbel hB
  go_wp2
  go_ret
  exact ⟨rfl, HB.out⟩


section
variable {W W' : World} {K : Nat} {s : WS} {rv sv nv wv cv : Value}
theorem WKp.puts (h : WKp W K s rv sv nv wv cv) (j : Nat) (v : Value) : (W.setCell ⟨K, j, none⟩ v).heap[K]? = some (.cells ((wkC s sv nv wv cv rv).set j v).toArray 72) := by
 rw [heap_setCell_same W K j _ _ v h.blk, List.setIfInBounds_toArray]
theorem WKp.put (h : WKp W K s rv sv nv wv cv) (j : Nat) (v : Value) (s' : WS) (hv : (wkC s sv nv wv cv rv).set j v = wkC s' sv nv wv cv rv) (e1 : s'.a.sm = s.a.sm) (e2 : s'.a.ns = s.a.ns) (e3 : s'.a.ws = s.a.ws) (e4 : s'.rs = s.rs) (hi : AxI s'.a) (hw : s'.i = s.i) :
  WKp (W.setCell ⟨K, j, none⟩ v) K s' rv sv nv wv cv ∧ Turn K rv rv W (W.setCell ⟨K, j, none⟩ v) := by
 have hb : Buts (fun b => b = K) W (W.setCell ⟨K, j, none⟩ v) := Buts.set (P := fun b => b = K) (Buts.refl _ _) (g := K) rfl _ _
 exact ⟨h.turn hb (by rw [h.puts j v, hv]) (by rw [e1]; exact h.sm) (by rw [e2, e3]; exact h.ln) (by rw [hw]; exact h.a1) (by rw [hw]; exact h.a2) (by rw [hw]; exact h.a3) e4 hi hw, Turn.of_k hb⟩
end
def putW (K : Nat) : List (Nat × Value) → World → World
 | [], w => w
 | p :: l, w => putW K l (w.setCell ⟨K, p.1, none⟩ p.2)
def putC : List (Nat × Value) → List Value → List Value
 | [], c => c
 | p :: l, c => putC l (c.set p.1 p.2)
theorem putW_buts (K : Nat) : ∀ (l : List (Nat × Value)) {W W' : World}, Buts (fun b => b = K) W W' → Buts (fun b => b = K) W (putW K l W')
 | [], _, _, h => h
 | p :: l, _, _, h => putW_buts K l (Buts.set (P := fun b => b = K) h (g := K) rfl _ _)
theorem putW_heap (K : Nat) (T : TypeId) : ∀ (l : List (Nat × Value)) (W : World) (c : List Value), W.heap[K]? = some (.cells c.toArray T) → (putW K l W).heap[K]? = some (.cells (putC l c).toArray T)
 | [], _, _, h => h
 | p :: l, W, c, h => by
  rw [putW, putC]
  refine putW_heap K T l _ _ ?_
  rw [heap_setCell_same W K p.1 _ _ p.2 h, List.setIfInBounds_toArray]
section
variable {W W' : World} {K : Nat} {s : WS} {rv sv nv wv cv sv' nv' wv' : Value}
theorem WKp.putN (h : WKp W K s rv sv nv wv cv) (l : List (Nat × Value)) (s' : WS) (hv : putC l (wkC s sv nv wv cv rv) = wkC s' sv' nv' wv' cv rv) (hs : SmV W s'.a.sm sv') (hl : LineV W 0 s'.a.ns s'.a.ws (.agg #[nv', wv'])) (h1 : ApW s.i.d K rv sv') (h2 : ApW s.i.d K rv nv') (h3 : ApW s.i.d K rv wv') (hr : s'.rs = s.rs) (hi : AxI s'.a) (hw : s'.i = s.i) :
  WKp (putW K l W) K s' rv sv' nv' wv' cv ∧ Turn K rv rv W (putW K l W) := by
 have hb := putW_buts K l (Buts.refl (fun b => b = K) W)
 exact ⟨h.turn hb (by rw [putW_heap K _ l W _ h.blk, hv]) hs hl (by rw [hw]; exact h1) (by rw [hw]; exact h2) (by rw [hw]; exact h3) hr hi hw, Turn.of_k hb⟩
theorem WKp.put0 (h : WKp W K s rv sv nv wv cv) (l : List (Nat × Value)) (s' : WS) (hv : putC l (wkC s sv nv wv cv rv) = wkC s' sv nv wv cv rv) (e1 : s'.a.sm = s.a.sm) (e2 : s'.a.ns = s.a.ns) (e3 : s'.a.ws = s.a.ws) (e4 : s'.rs = s.rs) (hi : AxI s'.a) (hw : s'.i = s.i) :
  WKp (putW K l W) K s' rv sv nv wv cv ∧ Turn K rv rv W (putW K l W) :=
 h.putN l s' hv (by rw [e1]; exact h.sm) (by rw [e2, e3]; exact h.ln) h.a1 h.a2 h.a3 e4 hi hw
end

set_option maxRecDepth 100000 in
theorem ahapp_at (s : WS) (e : Int) (K : Nat) (rv : Value) (W : World) (h : WK W K s rv) :
  Calls Tryz.prog 61 #[.pointer (some ⟨K, 0, none⟩), .int .i64 e] W fun x w' => x = .returned (.tuple #[]) ∧ WK w' K (happX s e) rv ∧ Turn K rv rv W w' := by
 obtain ⟨sv, nv, wv, cv, hp⟩ := h
 have HP := Lib.hid hp
 have c_st := hp.cell 0 _ rfl
 have lK := hp.lt
 have fK := hp.froz
 clear hp
 go_enter Tryz.func61, Tryz.ntmps61
 go_wp2_with (first | (go_at_call 13; refine (next_any _ _ _).mono ?_; rintro e w' ⟨rfl, rfl⟩))
 have hf := HP.out.put 0 (.int .i64 (stV s.a.st e)) (happX s e) rfl rfl rfl rfl rfl (inv_happ HP.out.inv e) rfl
 refine bodyPost_end (results_none rfl _ _ _) rfl ⟨rfl, ⟨sv, nv, wv, cv, ?_⟩, ?_⟩
 ·exact hf.1
 ·exact hf.2


theorem amove_at (c : CmdS) (r : Bool) (w : World) (hr : moveC c = r) : Calls Tryz.prog 89 #[c.val] w fun e w' => e = .returned (.bool r) ∧ Below w.heap.size w w' := by
 subst hr
 unfold moveC
 show Calls Tryz.prog 89 #[.agg #[.int .i64 c.id, .int .i64 c.kind, .int .i64 c.target, .int .i64 c.speed, .int .i64 c.mode, .int .i64 c.num, .int .i64 c.den]] w _
 obtain ⟨k, hk⟩ : ∃ k, c.kind = k := ⟨_, rfl⟩
 rw [hk]
 clear hk
 by_cases h1 : 1 ≤ k
 ·rw [show decide (1 ≤ k ∧ k ≤ 3) = decide (k ≤ 3) by simp [h1]]
  go_enter Tryz.func89, Tryz.ntmps89
  go_wp2
  go_ret
  exact ⟨rfl, by exact belowBy⟩
 ·rw [decide_eq_false (show ¬ (1 ≤ k ∧ k ≤ 3) by omega)]
  go_enter Tryz.func89, Tryz.ntmps89
  go_wp2
  go_ret
  exact ⟨rfl, by exact belowBy⟩

theorem abeyond_at (f t u : Int) (r : Bool) (w : World) (hr : beyondB f t u = r) : Calls Tryz.prog 115 #[.int .i64 f, .int .i64 t, .int .i64 u] w fun e w' => e = .returned (.bool r) ∧ w = w' := by
 subst hr
 unfold beyondB
 by_cases h1 : f < t
 ·have h2 : ¬ t < f := by omega
  by_cases h3 : t < u
  ·rw [decide_eq_true h1, decide_eq_true h3, Bool.true_and, Bool.true_or]
   go_enter Tryz.func115, Tryz.ntmps115
   go_wp2
   go_ret
   exact ⟨rfl, rfl⟩
  ·rw [decide_eq_true h1, decide_eq_false h3, decide_eq_false h2, Bool.and_false, Bool.false_and, Bool.false_or]
   go_enter Tryz.func115, Tryz.ntmps115
   go_wp2
   go_ret
   exact ⟨rfl, rfl⟩
 ·rw [decide_eq_false h1, Bool.false_and, Bool.false_or]
  by_cases h2 : t < f
  ·rw [decide_eq_true h2, Bool.true_and]
   go_enter Tryz.func115, Tryz.ntmps115
   go_wp2
   go_ret
   exact ⟨rfl, rfl⟩
  ·rw [decide_eq_false h2, Bool.false_and]
   go_enter Tryz.func115, Tryz.ntmps115
   go_wp2
   go_ret
   exact ⟨rfl, rfl⟩

section
variable {W : World} {K : Nat} {s : WS} {rv sv nv wv cv : Value}
theorem WKp.now (h : WKp W K s rv sv nv wv cv) : (s.a.ns = [] ∧ s.a.ws = [] ∧ ∃ A c, nv = .slice A 0 c ∧ c ≤ 9223372036854775807) ∨
  ∃ y b o c, s.a.ns = [y] ∧ nv = .slice (some ⟨b, o, none⟩) 1 c ∧ 1 ≤ c ∧ c ≤ 9223372036854775807 ∧ b < W.heap.size ∧ ∀ j, j < 7 → W.cell? ⟨b, o + j, none⟩ = y.cells[j]? := by
 obtain ⟨a, b, e, ⟨A, c, e1, h1, h2, h3, -⟩, -⟩ := h.ln
 simp only [Value.agg.injEq, Array.mk.injEq, List.cons.injEq, and_true] at e
 obtain ⟨rfl, rfl⟩ := e
 rcases line_cases h.inv.line with ⟨hn, hw⟩ | ⟨y, hn⟩
 ·rw [hn] at e1
  exact .inl ⟨hn, hw, A, c, e1, h2⟩
 ·rw [hn] at e1 h1 h3
  obtain ⟨b, o, rfl⟩ := Lies.some h3 (by simp)
  have := Lies.at_cmd h3 0 y rfl
  refine .inr ⟨y, b, o, c, hn, e1, h1, h2, this.1, fun j hj => ?_⟩
  have := this.2 j hj
  rwa [Nat.zero_mul, Nat.add_zero] at this
end

theorem aspeed_at (s : WS) (v : Int) (r : Bool) (K : Nat) (rv : Value) (W : World) (h : WK W K s rv) (hr : speedX s.a v = r) :
  Calls Tryz.prog 91 #[.pointer (some ⟨K, 0, none⟩), .int .i64 v] W fun x w' => x = .returned (.bool r) ∧ W = w' := by
 obtain ⟨sv, nv, wv, cv, hp⟩ := h
 subst hr
 unfold speedX
 have c_V := hp.cell 1 _ rfl
 have lK := hp.lt
 have fK := hp.froz
 by_cases h1 : 1 ≤ v
 ·rw [show decide (1 ≤ v ∧ v ≤ s.a.l.v) = decide (v ≤ s.a.l.v) by simp [h1]]
  clear hp
  go_enter Tryz.func91, Tryz.ntmps91
  go_wp2
  go_ret
  exact ⟨rfl, rfl⟩
 ·rw [decide_eq_false (show ¬ (1 ≤ v ∧ v ≤ s.a.l.v) by omega)]
  clear hp
  go_enter Tryz.func91, Tryz.ntmps91
  go_wp2
  go_ret
  exact ⟨rfl, rfl⟩

theorem ascaled_at (s : WS) (v r : Int) (K : Nat) (rv : Value) (W : World) (h : WK W K s rv) (hr : scaledX s.a v = r) :
  Calls Tryz.prog 97 #[.pointer (some ⟨K, 0, none⟩), .int .i64 v] W fun x w' => x = .returned (.int .i64 r) ∧ W = w' := by
 obtain ⟨sv, nv, wv, cv, hp⟩ := h
 subst hr
 unfold scaledX
 have c_ov := hp.cell 21 _ rfl
 have lK := hp.lt
 have fK := hp.froz
 clear hp
 go_enter Tryz.func97, Tryz.ntmps97
 go_wp2
 go_ret
 exact ⟨by simp only [RowKit.wrap64, IntKind.wrap_i64]; rfl, rfl⟩

theorem aunder_at (s : WS) (r : OneR) (K : Nat) (rv : Value) (W : World) (h : WK W K s rv) (hr : underX s.a = r) :
  Calls Tryz.prog 68 #[.pointer (some ⟨K, 0, none⟩)] W fun x w' => x = .returned (.tuple #[r.x.val, .bool r.ok]) ∧ Below W.heap.size W w' := by
 obtain ⟨sv, nv, wv, cv, hp⟩ := h
 subst hr
 unfold underX
 have hn := hp.now
 have c_nv := hp.cell 14 _ rfl
 have lK := hp.lt
 have fK := hp.froz
 clear hp
 rcases hn with ⟨hn, -, A, c, rfl, hc⟩ | ⟨y, b, o, c, hn, rfl, hc1, hc2, hb, hy⟩
 ·rw [hn]
  clear hn
  go_enter Tryz.func68, Tryz.ntmps68
  go_wp2
  refine bodyPost_ret (v := .tuple #[cmd0.val, .bool false]) (by simp [results, Tryz.results68, go_sem, CmdS.val, cmd0]) rfl ⟨rfl, by exact belowBy⟩
 ·rw [hn]
  clear hn
  have y0 := hy 0 (by decide)
  have y1 := hy 1 (by decide)
  have y2 := hy 2 (by decide)
  have y3 := hy 3 (by decide)
  have y4 := hy 4 (by decide)
  have y5 := hy 5 (by decide)
  have y6 := hy 6 (by decide)
  simp only [CmdS.cells, List.getElem?_cons_zero, List.getElem?_cons_succ, Nat.add_zero] at y0 y1 y2 y3 y4 y5 y6
  clear hy
  go_enter Tryz.func68, Tryz.ntmps68
  go_wp2
  refine bodyPost_ret (v := .tuple #[y.val, .bool true]) (by simp [results, Tryz.results68, go_sem, CmdS.val]) rfl ⟨rfl, by exact belowBy⟩

end Go.Proofs.YthhfnageadckkaaGreat
