/- Merged: Small lemmas for appends to a row of the call's own: what stays beside it. Rows of cells as they lie behind a slice value, whatever its address; appends of such a row to a row of the call's own. Contracts of layer 12: rows of commands: room, one row behind the other, a copy. Contracts of layer 12: is it a mode; is it a line; all commands. -/
import Derived.Test.YthhfnageadckkaaGreatM01
import Derived.Deep.AppendLies
import Derived.Deep.DeepCutAuto
import Derived.OneCell
import Derived.Maps.AppendAt
import Derived.Lib.AppendZeros
import Derived.Test.YthhfnageadckkaaGreatM04
set_option linter.unusedVariables false
set_option linter.unusedSimpArgs false
set_option maxHeartbeats 4000000
namespace Go.Proofs.YthhfnageadckkaaGreat
open Go.RowKit

def Apart (v : Value) (l : List Nat) : Prop := ∀ b ∈ l, v.ownBlock ≠ some b
theorem Apart.nil (l : List Nat) : Apart (.slice none 0 0) l := fun b _ h => by cases h
theorem Apart.at {v : Value} {l : List Nat} (h : Apart v l) {b : Nat} (hb : b ∈ l) : some b ≠ v.ownBlock := fun e => h b hb e.symm
theorem Apart.next {v : Value} {l : List Nat} {g H n c : Nat} (h : Apart v l) (hat : v.ownBlock = some g ∨ g = H) (hl : ∀ b ∈ l, b < H) : Apart (.slice (some ⟨g, 0, none⟩) n c) l := by
 intro b hb he
 have hg : g = b := by simpa [Value.ownBlock] using he
 rcases hat with h1 | h1
 ·exact h b hb (by rw [h1, hg])
 ·have := hl b hb
  omega
theorem Apart.cons {v : Value} {l : List Nat} {b : Nat} (h1 : Apart v [b]) (h : Apart v l) : Apart v (b :: l) := by
 intro c hc
 rcases List.mem_cons.1 hc with rfl | hc
 ·exact h1 c (by simp)
 ·exact h c hc
theorem owns_below {w w' : World} {base : Nat} {e : TypeId} {size : Nat} {v : Value} {n : Nat} {xs : List Value} (h : w.ownsRow base e size v n xs) (hb : Below w.heap.size w w') : w'.ownsRow base e size v n xs := by
 obtain ⟨h1, h2⟩ := h
 refine ⟨h1, ?_⟩
 rcases h2 with h2 | ⟨g, cap, cur, hv, hg, hh, r⟩
 ·exact Or.inl h2
 ·exact Or.inr ⟨g, cap, cur, hv, hg, by rw [hb.block g (Array.getElem?_eq_some_iff.1 hh).1]; exact hh, r⟩
theorem below_grown {B : Nat} {a w w' : World} {base : Nat} {e : TypeId} {size : Nat} {v : Value} {n : Nat} {xs : List Value} (h : Below B a w) (hg : w.grownBy w' v.ownBlock) (ho : w.ownsRow base e size v n xs) (hB : B ≤ base) (hs : B ≤ w.heap.size) : Below B a w' :=
 h.grown hg hs fun k hk => Nat.le_trans hB (ho.lt k hk).1
theorem one_cell (v : Value) (h : v.oneCell' = true) : ∀ u ∈ [v], u.oneCell' = true := fun u hu => by rw [List.mem_singleton.1 hu]; exact h


def Lies (w : World) (B size : Nat) (A : Option Addr) (n : Nat) (xs : List Value) : Prop :=
 xs.length = n * size ∧ (0 < n → ∃ b off, A = some ⟨b, off, none⟩ ∧ b < B ∧ ∀ j u, xs[j]? = some u → w.cell? ⟨b, off + j, none⟩ = some u)

section
variable {w w' : World} {B B' size n : Nat} {A : Option Addr} {xs : List Value}
theorem Lies.empty : Lies w B size A 0 [] := ⟨by simp, fun h => absurd h (by omega)⟩
theorem Lies.turn (h : Lies w B size A n xs) (hk : ∀ b o, b < B → w'.cell? ⟨b, o, none⟩ = w.cell? ⟨b, o, none⟩) : Lies w' B size A n xs :=
 ⟨h.1, fun hn => by
  obtain ⟨b, off, e, hb, hc⟩ := h.2 hn
  exact ⟨b, off, e, hb, fun j u hu => (hk _ _ hb).trans (hc j u hu)⟩⟩
theorem Lies.wide (h : Lies w B size A n xs) (hB : B ≤ B') : Lies w B' size A n xs :=
 ⟨h.1, fun hn => by
  obtain ⟨b, off, e, hb, hc⟩ := h.2 hn
  exact ⟨b, off, e, by omega, hc⟩⟩
theorem Lies.below (h : Lies w B size A n xs) (hb : Below B w w') : Lies w' B size A n xs := h.turn fun b o hlt => hb.cell (p := ⟨b, o, none⟩) hlt
theorem Lies.on (h : Lies w w.heap.size size A n xs) (hb : Below w.heap.size w w') : Lies w' w'.heap.size size A n xs := (h.below hb).wide hb.size
theorem Lies.own {base c : Nat} {e : TypeId} (h : w.ownsRow base e size (.slice A n c) n xs) : Lies w w.heap.size size A n xs := by
 refine ⟨h.1, fun hn => ?_⟩
 obtain ⟨g, cap, hv, _, hlt⟩ := h.form hn
 injection hv with hA
 subst hA
 refine ⟨g, 0, rfl, hlt, fun j u hu => ?_⟩
 have := h.cells (g := g) rfl j u hu
 have hadd : (⟨g, 0, none⟩ : Addr).add j = ⟨g, 0 + j, none⟩ := by cases j <;> simp [Addr.add]
 rwa [hadd] at this
end

section
variable {P : Program} (w : World)
theorem run_app_none (base : Nat) (t ty e : TypeId) (i : TypeInfo) (size : Nat) (ht : P.underlying t = some (.slice e)) (hi : P.info? e = some i)
  (v : Value) (n : Nat) (xs : List Value) (hown : w.ownsRow base e size v n xs) (c : Nat) : (Builtin.append_ #[t, t] ty #[v, .slice none 0 c]).run P w = .ok v w := by
 obtain ⟨_, h⟩ := hown
 rcases h with ⟨rfl, rfl⟩ | ⟨g, cap, cur, rfl, _, _, hnc, _⟩
 ·simp [Builtin.append_, run_underlying ht, sizeOf, typeInfo, hi, Builtin.lenOf, Builtin.firstCells]
 ·simp [Builtin.append_, run_underlying ht, sizeOf, typeInfo, hi, Builtin.lenOf, Builtin.firstCells, hnc, storeCells]
theorem run_app (base : Nat) (t ty e : TypeId) (i : TypeInfo) (z : Value) (size bytes : Nat) (ht : P.underlying t = some (.slice e)) (hi : P.info? e = some i) (hz : i.zero = some z)
  (hsize : i.size = size) (hby : i.bytes = bytes) (hzs : z.cells.size = size) (hsz : 0 < size)
  (v : Value) (n : Nat) (xs : List Value) (hown : w.ownsRow base e size v n xs)
  (B : Nat) (A : Option Addr) (m c : Nat) (ys : List Value) (hr : Lies w B size A m ys) (h1 : ∀ u ∈ ys, u.oneCell' = true)
  (h63 : n + m ≤ maxLen) (hbytes : (n + m) * bytes ≤ 140737488355328) (hbase : base ≤ w.heap.size) :
  ∃ v' w', (Builtin.append_ #[t, t] ty #[v, .slice A m c]).run P w = .ok v' w' ∧ w'.ownsRow base e size v' (n + m) (xs ++ ys) ∧ w.grownBy w' v.ownBlock ∧ (v'.ownBlock = v.ownBlock ∨ v'.ownBlock = some w.heap.size) := by
 by_cases hm : m = 0
 ·subst hm
  have hy : ys = [] := List.eq_nil_of_length_eq_zero (by simpa using hr.1)
  subst hy
  cases A with
  | none => exact ⟨v, w, run_app_none w base t ty e i size ht hi v n xs hown c, by simpa using hown, ⟨rfl, rfl, rfl, Nat.le_refl _, fun _ _ _ => rfl⟩, .inl rfl⟩
  | some ad =>
   obtain ⟨v', w', q1, q2, q3, _, q5⟩ := run_append_own_at (P := P) w base t ty e i z size bytes ht hi hz hsize hby hzs hsz v n xs hown ad 0 c [] (by simp) (by simp) (by simp) h63 hbytes hbase
   exact ⟨v', w', q1, q2, q3, q5⟩
 ·obtain ⟨b, off, rfl, _, hc⟩ := hr.2 (by omega)
  obtain ⟨v', w', q1, q2, q3, _, q5⟩ := run_append_own_at (P := P) w base t ty e i z size bytes ht hi hz hsize hby hzs hsz v n xs hown ⟨b, off, none⟩ m c ys hr.1 (fun j u hu => by
   have hadd : (⟨b, off, none⟩ : Addr).add j = ⟨b, off + j, none⟩ := by cases j <;> simp [Addr.add]
   rw [hadd]
   exact hc j u hu) h1 h63 hbytes hbase
  exact ⟨v', w', q1, q2, q3, q5⟩
theorem wpList_app {ops : Array Oper} {rest : List Oper} {o : Oper} {a : Act} {Q : Exit → Act → World → Prop} (hgd : o.guard = none) (s x : Operand) (t : TypeId)
  (ho : o.op = .call { callee := .builtin .append, args := #[s, x], argTypes := #[t, t] })
  (base : Nat) (e : TypeId) (i : TypeInfo) (z : Value) (size bytes : Nat) (ht : P.underlying t = some (.slice e)) (hi : P.info? e = some i) (hz : i.zero = some z)
  (hsize : i.size = size) (hby : i.bytes = bytes) (hzs : z.cells.size = size) (hsz : 0 < size)
  (v : Value) (n : Nat) (xs : List Value) (hs : a.eval s = v) (hown : w.ownsRow base e size v n xs)
  (B : Nat) (A : Option Addr) (m c : Nat) (ys : List Value) (hx : a.eval x = .slice A m c) (hr : Lies w B size A m ys) (h1 : ∀ u ∈ ys, u.oneCell' = true)
  (h63 : n + m ≤ maxLen) (hbytes : (n + m) * bytes ≤ 140737488355328) (hbase : base ≤ w.heap.size)
  (h : ∀ v' w', w'.ownsRow base e size v' (n + m) (xs ++ ys) → w.grownBy w' v.ownBlock → (v'.ownBlock = v.ownBlock ∨ v'.ownBlock = some w.heap.size) → wpList P ops Q rest (a.put o.dst v') w') : wpList P ops Q (o :: rest) a w := by
 obtain ⟨v', w', q1, q2, q3, q4⟩ := run_app (P := P) w base t o.type e i z size bytes ht hi hz hsize hby hzs hsz v n xs hown B A m c ys hr h1 h63 hbytes hbase
 exact Lib.wpList_append_run w hgd s x t t ho v (.slice A m c) hs hx v' w' q1 (h v' w' q2 q3 q4)
end

theorem own_form {w : World} {base : Nat} {e : TypeId} {size : Nat} {v : Value} {n : Nat} {xs : List Value} (h : w.ownsRow base e size v n xs) : ∃ A c, v = .slice A n c ∧ n ≤ c ∧ c ≤ maxLen ∧ (∀ b o s, A = some ⟨b, o, s⟩ → base ≤ b) := by
 rcases h.2 with ⟨rfl, rfl⟩ | ⟨g, cap, cur, rfl, hb, _, hn, hc, _⟩
 ·exact ⟨none, 0, rfl, Nat.le_refl _, by unfold maxLen; omega, fun _ _ _ h => by cases h⟩
 ·refine ⟨some ⟨g, 0, none⟩, cap, rfl, hn, hc, fun b o s h => ?_⟩
  injection h with h
  injection h with h1
  omega

end Go.Proofs.YthhfnageadckkaaGreat

namespace Go.Proofs.YthhfnageadckkaaGreat
open Go.RowKit
attribute [local go_sem] ite_max ite_min vite_max vite_min ext_cell ext_frozen

structure CmdS where
 id : Int
 kind : Int
 target : Int
 speed : Int
 mode : Int
 num : Int
 den : Int
def CmdS.cells (x : CmdS) : List Value := [.int .i64 x.id, .int .i64 x.kind, .int .i64 x.target, .int .i64 x.speed, .int .i64 x.mode, .int .i64 x.num, .int .i64 x.den]
def CmdS.val (x : CmdS) : Value := .agg #[.int .i64 x.id, .int .i64 x.kind, .int .i64 x.target, .int .i64 x.speed, .int .i64 x.mode, .int .i64 x.num, .int .i64 x.den]
def cmdsC (xs : List CmdS) : List Value := xs.flatMap CmdS.cells
theorem cmdsC_len (xs : List CmdS) : (cmdsC xs).length = xs.length * 7 := by
 induction xs with
 | nil => rfl
 | cons x xs ih =>
  show (x.cells ++ cmdsC xs).length = _
  rw [List.length_append, ih, List.length_cons]
  show 7 + _ = _
  omega
theorem cmdsC_append (xs ys : List CmdS) : cmdsC (xs ++ ys) = cmdsC xs ++ cmdsC ys := by simp [cmdsC]
theorem cmdsC_one (xs : List CmdS) : ∀ u ∈ cmdsC xs, u.oneCell' = true := by
 intro u hu
 obtain ⟨x, _, hx⟩ := List.mem_flatMap.1 hu
 simp only [CmdS.cells, List.mem_cons, List.not_mem_nil, or_false] at hx
 rcases hx with rfl | rfl | rfl | rfl | rfl | rfl | rfl <;> rfl
theorem cmdsC_get (xs : List CmdS) (k j : Nat) (x : CmdS) (h : xs[k]? = some x) (hj : j < 7) : (cmdsC xs)[k * 7 + j]? = x.cells[j]? := by
 induction xs generalizing k with
 | nil => simp at h
 | cons y ys ih =>
  show (y.cells ++ cmdsC ys)[_]? = _
  cases k with
  | zero =>
   simp at h
   subst h
   rw [List.getElem?_append_left (by show 0 * 7 + j < 7; omega), Nat.zero_mul, Nat.zero_add]
  | succ k =>
   have h7 : y.cells.length = 7 := rfl
   rw [List.getElem?_append_right (by rw [h7]; omega), h7, show (k + 1) * 7 + j - 7 = k * 7 + j by omega]
   exact ih k (by simpa using h)

theorem cmd_info : (Tryz.prog.info? 63).map (fun i => (i.zero, i.size, i.bytes)) = some (some (.agg #[.int .i64 0, .int .i64 0, .int .i64 0, .int .i64 0, .int .i64 0, .int .i64 0, .int .i64 0]), 7, 56) := by kernel_rfl

def RowC (w w' : World) (n : Nat) (xs : List Value) (e : Ending) : Prop := ∃ v, e = .returned v ∧ w'.ownsRow w.heap.size 63 7 v n xs

set_option maxRecDepth 100000 in
theorem grow_cmd (n : Nat) (w : World) (hn : n ≤ 1000) :
  Calls Tryz.prog 83 #[.slice none 0 0, .int .i64 (n : Int)] w fun e w' => RowC w w' 0 [] e ∧ Below w.heap.size w w' := by
 obtain ⟨i0, hi0, hz0, hz1, hz2⟩ := info_parts cmd_info
 by_cases h : n = 0
 ·subst h
  clear hi0 hz0 hz1 hz2
  go_enter Tryz.func83, Tryz.ntmps83
  go_wp2
  go_ret
  exact ⟨⟨_, rfl, World.ownsRow_nil _ _ _ _⟩, by exact belowBy⟩
 ·have hnI : (0 : Int) < (n : Int) := by omega
  have hn2 : (n : Int) ≤ 1000 := by omega
  have happ := fun (w : World) => Lib.run_append_nil_zeros (P := Tryz.prog) w 29 3 29 63 i0 _ .i64 .i64 Tryz.underlying29 Tryz.underlying3 hi0 hz0 n (by omega) (by rw [hz1]; omega) (by omega) (by rw [hz2]; omega)
  have HAPP := Lib.hid happ
  clear happ hi0 hz0
  go_enter Tryz.func83, Tryz.ntmps83
  go_wp2_with (at_builtin; refine Lib.wpList_append_run _ rfl _ _ _ _ rfl _ _ rfl rfl _ _ (HAPP.out _) ?_)
  go_wp2
  go_ret
  refine ⟨⟨_, rfl, ?_⟩, by exact belowBy⟩
  have hge := grownCap_ge w n 0 63
  have hle := grownCap_le_maxLen w n 0 63 (by unfold maxLen; omega)
  refine World.ownsRow_made (w := w.drew) (base := w.heap.size) (e := 63) (size := 7) _ _ (Nat.le_refl _) hle ?_
  simp only [Array.size_append, size_zeroCells, Value.cells, List.size_toArray, List.length_cons, List.length_nil]
  omega

def cat1 (n m : Nat) (k : Nat) : Nat := match k with | 0 => 0 | 1 => n | _ => n + m
def cat2 (xs ys : List Value) (k : Nat) : List Value := match k with | 0 => [] | 1 => xs | _ => xs ++ ys

set_option maxRecDepth 100000 in
theorem concat_cmd (A D : Option Addr) (n m c d S : Nat) (xs ys : List Value) (w : World) (hn : n ≤ 400) (hm : m ≤ 400) (hS : S < w.heap.size) (h0 : w.cell? ⟨S, 0, none⟩ = some (.slice A n c)) (h1 : w.cell? ⟨S, 1, none⟩ = some (.slice D m d))
  (hx : Lies w w.heap.size 7 A n xs) (hy : Lies w w.heap.size 7 D m ys) (o1 : ∀ u ∈ xs, u.oneCell' = true) (o2 : ∀ u ∈ ys, u.oneCell' = true) :
  Calls Tryz.prog 54 #[.slice (some ⟨S, 0, none⟩) 2 2] w fun e w' => RowC w w' (n + m) (xs ++ ys) e ∧ Below w.heap.size w w' := by
 obtain ⟨i0, hi0, hz0, hz1, hz2⟩ := info_parts cmd_info
 have HI := Lib.hid hi0
 have HZ0 := Lib.hid hz0
 have HX := Lib.hid hx
 have HY := Lib.hid hy
 have O1 := Lib.hid o1
 have O2 := Lib.hid o2
 have HZ1 := Lib.hid hz1
 have HZ2 := Lib.hid hz2
 clear hi0 hz0 hx hy o1 o2 hz1 hz2
 go_enter Tryz.func54, Tryz.ntmps54
 go_wp2_with fail
 go_loop [3, 11] (fun s i => ∃ k : Nat, k ≤ 2 ∧ i = .int .i64 (k : Int) ∧ s = .int .i64 (cat1 n m k : Int)) (fun _ i => 2 - (intOf i).toNat)
 case atStart => exact ⟨0, by omega, rfl, rfl⟩
 case round =>
  obtain ⟨k, hk, rfl, rfl⟩ := hrel
  rcases (by omega : k = 0 ∨ k = 1 ∨ k = 2) with rfl | rfl | rfl
  ·simp only [cat1, show ((0 : Nat) : Int) = 0 from rfl]
   go_wp2
   go_round
   case rel => exact ⟨1, by omega, rfl, by simp [cat1]⟩
   case measure => simp [intOf]
  ·simp only [cat1, show ((1 : Nat) : Int) = 1 from rfl]
   go_wp2
   go_round
   case rel => exact ⟨2, by omega, rfl, by simp [cat1]⟩
   case measure => simp [intOf]
  ·simp only [cat1, show ((2 : Nat) : Int) = 2 from rfl]
   go_wp2_with fail
   refine (grow_cmd (n + m) _ (by omega)).mono ?_
   rintro e w1 ⟨⟨v, rfl, hown⟩, hb1⟩
   have HO := Lib.hid hown
   clear hown
   have g0 := (hb1.cell (p := ⟨S, 0, none⟩) hS).trans h0
   have g1 := (hb1.cell (p := ⟨S, 1, none⟩) hS).trans h1
   clear h0 h1
   go_wp2_with fail
   go_loopw [6, 27] (fun v i wr => ∃ (k : Nat) (v' : Value), v' = v ∧ k ≤ 2 ∧ i = .int .i64 (k : Int) ∧ Hid (wr.ownsRow w.heap.size 63 7 v' (cat1 n m k) (cat2 xs ys k)) ∧ Below w.heap.size w wr ∧ wr.cell? ⟨S, 0, none⟩ = some (.slice A n c) ∧ wr.cell? ⟨S, 1, none⟩ = some (.slice D m d)) (fun _ i _ => 2 - (intOf i).toNat)
   case atStart => exact ⟨0, v, rfl, by omega, rfl, HO, hb1, g0, g1⟩
   case round =>
    clear HO hb1 g0 g1
    obtain ⟨k, v', rfl, hk, rfl, HO, hbr, g0, g1⟩ := hrel
    rcases (by omega : k = 0 ∨ k = 1 ∨ k = 2) with rfl | rfl | rfl
    ·simp only [cat1, cat2, show ((0 : Nat) : Int) = 0 from rfl] at HO ⊢
     have hsz := hbr.size
     go_wp2_with (at_builtin; refine wpList_app _ rfl _ _ 29 rfl w.heap.size 63 i0 _ 7 56 Tryz.underlying29 HI.out HZ0.out HZ1.out HZ2.out rfl (by decide) _ 0 [] rfl HO.out w.heap.size A n c xs rfl (HX.out.below hbr) O1.out ?c1 ?c2 ?c3 ?_)
     case c1 => unfold maxLen; omega
     case c2 => omega
     case c3 => exact hsz
     intro v2 w2 hown2 hgrow hat
     have HO2 : Hid (w2.ownsRow w.heap.size 63 7 v2 (cat1 n m 1) (cat2 xs ys 1)) := Lib.hid (by simpa [cat1, cat2] using hown2)
     have hb2 : Below w.heap.size w w2 := below_grown hbr hgrow HO.out (Nat.le_refl _) hsz
     have q0 := (below_grown (Below.refl _ _) hgrow HO.out (B := w.heap.size) (Nat.le_refl _) hsz).cell (p := ⟨S, 0, none⟩) hS
     have q1 := (below_grown (Below.refl _ _) hgrow HO.out (B := w.heap.size) (Nat.le_refl _) hsz).cell (p := ⟨S, 1, none⟩) hS
     have p0 := q0.trans g0
     have p1 := q1.trans g1
     clear q0 q1 hown2 hgrow hat HO g0 g1
     go_wp2
     go_roundw
     case rel => exact ⟨1, _, rfl, by omega, rfl, HO2, hb2, p0, p1⟩
     case measure => simp [intOf]
    ·simp only [cat1, cat2, show ((1 : Nat) : Int) = 1 from rfl] at HO ⊢
     have hsz := hbr.size
     go_wp2_with (at_builtin; refine wpList_app _ rfl _ _ 29 rfl w.heap.size 63 i0 _ 7 56 Tryz.underlying29 HI.out HZ0.out HZ1.out HZ2.out rfl (by decide) _ n xs rfl HO.out w.heap.size D m d ys rfl (HY.out.below hbr) O2.out ?c1 ?c2 ?c3 ?_)
     case c1 => unfold maxLen; omega
     case c2 => omega
     case c3 => exact hsz
     intro v2 w2 hown2 hgrow hat
     have HO2 : Hid (w2.ownsRow w.heap.size 63 7 v2 (cat1 n m 2) (cat2 xs ys 2)) := Lib.hid hown2
     have hb2 : Below w.heap.size w w2 := below_grown hbr hgrow HO.out (Nat.le_refl _) hsz
     have q0 := (below_grown (Below.refl _ _) hgrow HO.out (B := w.heap.size) (Nat.le_refl _) hsz).cell (p := ⟨S, 0, none⟩) hS
     have q1 := (below_grown (Below.refl _ _) hgrow HO.out (B := w.heap.size) (Nat.le_refl _) hsz).cell (p := ⟨S, 1, none⟩) hS
     have p0 := q0.trans g0
     have p1 := q1.trans g1
     clear q0 q1 hown2 hgrow hat HO g0 g1
     go_wp2
     go_roundw
     case rel => exact ⟨2, _, rfl, by omega, rfl, HO2, hb2, p0, p1⟩
     case measure => simp [intOf]
    ·simp only [cat1, cat2, show ((2 : Nat) : Int) = 2 from rfl] at HO ⊢
     go_wp2
     go_ret
     exact ⟨⟨_, rfl, HO.out⟩, hbr⟩

def ReadC (w' : World) (n : Nat) (xs : List Value) (base : Nat) (v : Value) : Prop := ∃ A c, v = .slice A n c ∧ n ≤ c ∧ c ≤ 9223372036854775807 ∧ Lies w' w'.heap.size 7 A n xs ∧ (∀ b o, 0 < n → A = some ⟨b, o, none⟩ → base ≤ b)
theorem ReadC.of_own {w' : World} {n base : Nat} {xs : List Value} {v : Value} (h : w'.ownsRow base 63 7 v n xs) : ReadC w' n xs base v := by
 obtain ⟨A, c, rfl, h1, h2, h3⟩ := own_form h
 unfold maxLen at h2
 exact ⟨A, c, rfl, h1, by omega, Lies.own h, fun b o _ e => h3 b o none e⟩
def RetC (w w' : World) (n : Nat) (xs : List Value) (e : Ending) : Prop := ∃ v, e = .returned v ∧ ReadC w' n xs w.heap.size v

set_option maxRecDepth 100000 in
theorem clone_cmd (A : Option Addr) (n c : Nat) (xs : List Value) (w : World) (hn : n ≤ 400) (hx : Lies w w.heap.size 7 A n xs) (o1 : ∀ u ∈ xs, u.oneCell' = true) :
  Calls Tryz.prog 111 #[.slice A n c] w fun e w' => RetC w w' n xs e ∧ Below w.heap.size w w' := by
 obtain ⟨i0, hi0, hz0, hz1, hz2⟩ := info_parts cmd_info
 have hnil := fun (w : World) => Lib.run_eql_slice_nil (P := Tryz.prog) w 29 63 A n c 0 0 Tryz.underlying29
 cases A with
 | none =>
  have h0 : n = 0 := by
   rcases Nat.eq_zero_or_pos n with h | h
   ·exact h
   ·obtain ⟨b, off, e, _⟩ := hx.2 h
    cases e
  subst h0
  have hxs : xs = [] := List.eq_nil_of_length_eq_zero (by simpa using hx.1)
  subst hxs
  clear hi0 hz0 hz1 hz2 hx o1
  go_enter Tryz.func111, Tryz.ntmps111
  go_wp2
  go_ret
  exact ⟨⟨_, rfl, none, 0, rfl, Nat.le_refl _, by omega, Lies.empty, fun b o h => absurd h (by omega)⟩, by exact belowBy⟩
 | some ad =>
  have HI := Lib.hid hi0
  have HZ0 := Lib.hid hz0
  have HX := Lib.hid hx
  have O1 := Lib.hid o1
  have HZ1 := Lib.hid hz1
  have HZ2 := Lib.hid hz2
  clear hi0 hz0 hx o1 hz1 hz2
  go_enter Tryz.func111, Tryz.ntmps111
  go_wp2_with (at_builtin; refine wpList_app _ rfl _ _ 29 rfl w.heap.size 63 i0 _ 7 56 Tryz.underlying29 HI.out HZ0.out HZ1.out HZ2.out rfl (by decide) _ 0 [] rfl ?c0 w.heap.size (some ad) n c xs rfl (HX.out.below ?c4) O1.out ?c1 ?c2 ?c3 ?_)
  case c0 => exact World.ownsRow_made (base := w.heap.size) (e := 63) (size := 7) w #[] 0 (Nat.le_refl _) (by unfold maxLen; omega) rfl
  case c4 => exact (Below.refl _ _).alloc (Nat.le_refl _) _
  case c1 => unfold maxLen; omega
  case c2 => omega
  case c3 => simp
  intro v2 w2 hown2 hgrow hat
  have hbA : Below w.heap.size w (w.alloc (.cells #[] 63)) := (Below.refl _ _).alloc (Nat.le_refl _) _
  have hb2 : Below w.heap.size w w2 := hbA.grown hgrow (by simp) (fun k hk => by simp [Value.ownBlock] at hk; omega)
  have HO2 : Hid (w2.ownsRow w.heap.size 63 7 v2 n xs) := Lib.hid (by simpa using hown2)
  clear hown2 hgrow hat hbA
  go_wp2
  go_ret
  exact ⟨⟨_, rfl, ReadC.of_own HO2.out⟩, hb2⟩


def modeB (m : Int) : Bool := decide (0 ≤ m ∧ m ≤ 5)

theorem lmode_any (x : CmdS) (w : World) : Calls Tryz.prog 56 #[x.val] w fun e w' => e = .returned (.bool (modeB x.mode)) ∧ Below w.heap.size w w' := by
 obtain ⟨a, b, c, d, m, f, g⟩ := x
 simp only [CmdS.val]
 by_cases h1 : 0 ≤ m
 ·by_cases h2 : m ≤ 5
  ·rw [show modeB m = true from decide_eq_true ⟨h1, h2⟩]
   go_enter Tryz.func56, Tryz.ntmps56
   go_wp2
   go_ret
   exact ⟨rfl, by exact belowBy⟩
  ·rw [show modeB m = false from decide_eq_false (fun h => h2 h.2)]
   go_enter Tryz.func56, Tryz.ntmps56
   go_wp2
   go_ret
   exact ⟨rfl, by exact belowBy⟩
 ·rw [show modeB m = false from decide_eq_false (fun h => h1 h.1)]
  go_enter Tryz.func56, Tryz.ntmps56
  go_wp2
  go_ret
  exact ⟨rfl, by exact belowBy⟩

theorem lright1_any (x : CmdS) (w : World) : Calls Tryz.prog 55 #[x.val] w fun e w' => e = .returned (.bool (!modeB x.mode)) ∧ Below w.heap.size w w' := by
 have H := Lib.hid (fun w => lmode_any x w)
 obtain ⟨a, b, c, d, m, f, g⟩ := x
 simp only [CmdS.val] at H ⊢
 generalize modeB m = q at *
 go_enter Tryz.func55, Tryz.ntmps55
 go_wp2_with fail
 refine (H.out _).mono ?_
 rintro e w1 ⟨rfl, hb1⟩
 go_wp2
 go_ret
 exact ⟨rfl, by exact belowBy⟩

theorem cf_lright1 (args : Array Value) (w : World) : Sem.run Tryz.prog (callFunc 55 args) w = .ok (.enter 55 args) w := by
 go_simp

theorem Lies.cmd {w : World} {B : Nat} {A : Option Addr} {xs : List CmdS} (h : Lies w B 7 A xs.length (cmdsC xs)) (k : Nat) (hk : k < xs.length) :
  ∃ b off x, A = some ⟨b, off, none⟩ ∧ b < B ∧ xs[k]? = some x ∧ ∀ j, j < 7 → w.cell? ⟨b, off + k * 7 + j, none⟩ = x.cells[j]? := by
 obtain ⟨b, off, e, hb, hc⟩ := h.2 (by omega)
 refine ⟨b, off, xs[k], e, hb, List.getElem?_eq_getElem hk, fun j hj => ?_⟩
 have h1 := cmdsC_get xs k j _ (List.getElem?_eq_getElem hk) hj
 obtain ⟨u, hu⟩ : ∃ u, xs[k].cells[j]? = some u := ⟨xs[k].cells[j]'(by simpa [CmdS.cells] using hj), List.getElem?_eq_getElem _⟩
 rw [hu] at h1 ⊢
 rw [Nat.add_assoc]
 exact hc _ _ h1
theorem any_take (p : CmdS → Bool) (xs : List CmdS) (k : Nat) (x : CmdS) (h : xs[k]? = some x) : (xs.take (k + 1)).any p = ((xs.take k).any p || p x) := by
 have hk : k < xs.length := (List.getElem?_eq_some_iff.1 h).1
 rw [List.take_succ_eq_append_getElem hk, List.any_append]
 have : xs[k] = x := by
  rw [List.getElem?_eq_getElem hk] at h
  exact Option.some.inj h
 rw [this]
 simp
def IdxC (b : Bool) (w : World) (e : Ending) (w' : World) : Prop := ∃ j : Int, (b = decide (0 ≤ j)) ∧ e = .returned (.int .i64 j) ∧ Below w.heap.size w w'

set_option maxRecDepth 100000 in
theorem index_cmd (F : FuncId) (p : CmdS → Bool) (xs : List CmdS) (A : Option Addr) (c : Nat) (w : World)
  (hcf : ∀ (args : Array Value) (w : World), Sem.run Tryz.prog (callFunc F args) w = .ok (.enter F args) w)
  (hF : ∀ x w, Calls Tryz.prog F #[CmdS.val x] w fun e w' => e = .returned (.bool (p x)) ∧ Below w.heap.size w w')
  (hn : xs.length ≤ c) (hc : c ≤ 9223372036854775807) (hx : Lies w w.heap.size 7 A xs.length (cmdsC xs)) :
  Calls Tryz.prog 82 #[.slice A xs.length c, .func (.func F) #[] #[]] w (IdxC (xs.any p) w) := by
 have HF := Lib.hid hF
 have HX := Lib.hid hx
 obtain ⟨n, hlen⟩ : ∃ n, xs.length = n := ⟨_, rfl⟩
 rw [hlen] at hn ⊢
 have HL := Lib.hid hlen
 clear hF hx hlen
 go_enter Tryz.func82, Tryz.ntmps82
 go_wp2_with fail
 go_loopw [8] (fun u wr => ∃ k : Nat, k ≤ n ∧ u = .int .i64 k ∧ Hid ((xs.take k).any p = false) ∧ Below w.heap.size w wr) (fun u _ => n - (intOf u).toNat)
 case atStart => exact ⟨0, by omega, rfl, Lib.hid (by simp), Below.refl _ _⟩
 case round =>
  obtain ⟨k, hk, rfl, HK, hbr⟩ := hrel
  by_cases hlt : k < n
  ·obtain ⟨b, off, x, rfl, hb, hxk, hcell⟩ := HX.out.cmd k (by rw [HL.out]; exact hlt)
   have hsucc := any_take p xs k x hxk
   rw [HK.out, Bool.false_or] at hsucc
   have h0 := (hbr.cell (p := ⟨b, off + k * 7 + 0, none⟩) hb).trans (hcell 0 (by omega))
   have h1 := (hbr.cell (p := ⟨b, off + k * 7 + 1, none⟩) hb).trans (hcell 1 (by omega))
   have h2 := (hbr.cell (p := ⟨b, off + k * 7 + 2, none⟩) hb).trans (hcell 2 (by omega))
   have h3 := (hbr.cell (p := ⟨b, off + k * 7 + 3, none⟩) hb).trans (hcell 3 (by omega))
   have h4 := (hbr.cell (p := ⟨b, off + k * 7 + 4, none⟩) hb).trans (hcell 4 (by omega))
   have h5 := (hbr.cell (p := ⟨b, off + k * 7 + 5, none⟩) hb).trans (hcell 5 (by omega))
   have h6 := (hbr.cell (p := ⟨b, off + k * 7 + 6, none⟩) hb).trans (hcell 6 (by omega))
   have HFX := Lib.hid (fun w => HF.out x w)
   have hall : p x = true → xs.any p = true := fun hp => by
    refine List.any_eq_true.2 ⟨x, List.mem_of_getElem? hxk, hp⟩
   obtain ⟨x0, x1, x2, x3, x4, x5, x6⟩ := x
   simp only [CmdS.cells, CmdS.val, List.getElem?_cons_zero, List.getElem?_cons_succ, Nat.add_zero] at h0 h1 h2 h3 h4 h5 h6 HFX
   have hk0 : (0 : Int) ≤ (k : Int) := by omega
   have hkn : (k : Int) < (n : Int) := by omega
   have HS := Lib.hid hsucc
   have HALL := Lib.hid hall
   clear hcell hxk hsucc hall HF HX
   cases hp : p ⟨x0, x1, x2, x3, x4, x5, x6⟩
   ·rw [hp] at HFX HS
    clear hp HALL
    go_wp2_with fail
    refine (HFX.out _).mono ?_
    rintro e w1 ⟨rfl, hb1⟩
    go_wp2
    go_roundw
    case rel => exact ⟨k + 1, by omega, by go_num, HS, hbr.trans (hb1.mono hbr.size)⟩
    case measure => simp [intOf]; omega
   ·have HT := Lib.hid (HALL.out hp)
    rw [hp] at HFX
    clear hp HALL HS
    go_wp2_with fail
    refine (HFX.out _).mono ?_
    rintro e w1 ⟨rfl, hb1⟩
    go_wp2
    go_ret
    exact ⟨(k : Int), by rw [HT.out]; exact (decide_eq_true hk0).symm, rfl, hbr.trans (hb1.mono hbr.size)⟩
  ·obtain rfl : k = n := by omega
   go_wp2
   go_ret
   exact ⟨-1, by have := HK.out; rw [List.take_of_length_le (by rw [HL.out]; exact Nat.le_refl _)] at this; rw [this]; rfl, rfl, hbr⟩

theorem contains_cmd (F : FuncId) (p : CmdS → Bool) (xs : List CmdS) (A : Option Addr) (c : Nat) (w : World) (r : Bool)
  (hcf : ∀ (args : Array Value) (w : World), Sem.run Tryz.prog (callFunc F args) w = .ok (.enter F args) w)
  (hF : ∀ x w, Calls Tryz.prog F #[CmdS.val x] w fun e w' => e = .returned (.bool (p x)) ∧ Below w.heap.size w w')
  (hn : xs.length ≤ c) (hc : c ≤ 9223372036854775807) (hx : Lies w w.heap.size 7 A xs.length (cmdsC xs)) (hr : xs.any p = r) :
  Calls Tryz.prog 53 #[.slice A xs.length c, .func (.func F) #[] #[]] w fun e w' => e = .returned (.bool r) ∧ Below w.heap.size w w' := by
 have hi := index_cmd F p xs A c w hcf hF hn hc hx
 rw [hr] at hi
 have HI := Lib.hid hi
 clear hi hF hcf hr hx
 generalize xs.length = n at *
 go_enter Tryz.func53, Tryz.ntmps53
 go_wp2_with fail
 refine HI.out.mono ?_
 rintro e w' ⟨j, hj, rfl, hb⟩
 have HJ := Lib.hid hj
 clear hj
 go_wp2
 go_ret
 rw [HJ.out]
 exact ⟨rfl, hb⟩

theorem contains_at (F : FuncId) (p : CmdS → Bool) (xs : List CmdS) (A : Option Addr) (n c : Nat) (w : World) (r : Bool)
  (hcf : ∀ (args : Array Value) (w : World), Sem.run Tryz.prog (callFunc F args) w = .ok (.enter F args) w)
  (hF : ∀ x w, Calls Tryz.prog F #[CmdS.val x] w fun e w' => e = .returned (.bool (p x)) ∧ Below w.heap.size w w')
  (hl : xs.length = n) (hn : n ≤ c) (hc : c ≤ 9223372036854775807) (hx : Lies w w.heap.size 7 A n (cmdsC xs)) (hr : xs.any p = r) :
  Calls Tryz.prog 53 #[.slice A n c, .func (.func F) #[] #[]] w fun e w' => e = .returned (.bool r) ∧ Below w.heap.size w w' := by
 subst hl
 exact contains_cmd F p xs A c w r hcf hF hn hc hx hr

def lineB (ns ws : List CmdS) : Bool := decide (ns.length ≤ 1 ∧ ws.length ≤ 4 ∧ (ns.length = 0 → ws.length = 0)) && !((ns ++ ws).any fun x => !modeB x.mode)
theorem lineB_yes {ns ws : List CmdS} (h : lineB ns ws = true) : ns.length ≤ 1 ∧ ws.length ≤ 4 ∧ (ns.length = 0 → ws.length = 0) ∧ ∀ x ∈ ns ++ ws, modeB x.mode = true := by
 simp only [lineB, Bool.and_eq_true, decide_eq_true_eq, Bool.not_eq_true', List.any_eq_false, Bool.not_eq_true, Bool.not_eq_false'] at h
 exact ⟨h.1.1, h.1.2.1, h.1.2.2, fun x hx => by simpa using h.2 x hx⟩
theorem lineB_no {ns ws : List CmdS} (h : ¬ (ns.length ≤ 1 ∧ ws.length ≤ 4 ∧ (ns.length = 0 → ws.length = 0))) : lineB ns ws = false := by
 unfold lineB
 rw [decide_eq_false h]
 rfl

set_option maxRecDepth 100000 in
theorem line_right (A D : Option Addr) (c d : Nat) (ns ws : List CmdS) (r : Bool) (w : World) (hc : ns.length ≤ c ∧ c ≤ 9223372036854775807) (hd : ws.length ≤ d ∧ d ≤ 9223372036854775807)
  (hx : Lies w w.heap.size 7 A ns.length (cmdsC ns)) (hy : Lies w w.heap.size 7 D ws.length (cmdsC ws)) (hr : lineB ns ws = r) :
  Calls Tryz.prog 27 #[.agg #[.slice A ns.length c, .slice D ws.length d]] w fun e w' => e = .returned (.bool r) ∧ Below w.heap.size w w' := by
 obtain ⟨n, hn⟩ : ∃ n, ns.length = n := ⟨_, rfl⟩
 obtain ⟨m, hm⟩ : ∃ m, ws.length = m := ⟨_, rfl⟩
 by_cases hok : ns.length ≤ 1 ∧ ws.length ≤ 4 ∧ (ns.length = 0 → ws.length = 0)
 ·have HX := Lib.hid hx
  have HY := Lib.hid hy
  have hr2 : (!((ns ++ ws).any fun x => !modeB x.mode)) = r := by rw [← hr]; unfold lineB; rw [decide_eq_true hok]; rfl
  obtain ⟨q, hq⟩ : ∃ q, ((ns ++ ws).any fun x => !modeB x.mode) = q := ⟨_, rfl⟩
  rw [hq] at hr2
  have HQ := Lib.hid hq
  subst hr2
  rw [hn] at hok HX hc ⊢
  rw [hm] at hok HY hd ⊢
  have HN := Lib.hid hn
  have HM := Lib.hid hm
  clear hx hy hr hq hn hm
  have hn1 : n ≤ 1 := hok.1
  have hm4 : m ≤ 4 := hok.2.1
  have hcase : (n = 0 ∧ m = 0) ∨ n = 1 := by omega
  clear hok
  have hn1I : (n : Int) ≤ 1 := by omega
  have hm4I : (m : Int) ≤ 4 := by omega
  rcases hcase with ⟨rfl, rfl⟩ | rfl
  all_goals
   go_enter Tryz.func27, Tryz.ntmps27
   go_wp2_with fail
   refine (concat_cmd A D _ _ c d _ (cmdsC ns) (cmdsC ws) _ (by omega) (by omega) ?a1 ?a2 ?a3 (HX.out.on ?a4) (HY.out.on ?a5) (cmdsC_one _) (cmdsC_one _)).mono ?_
   case a1 => simp
   case a2 => go_simp
   case a3 => go_simp
   case a4 => exact ((Below.refl _ _).alloc (Nat.le_refl _) _).alloc (by simp) _
   case a5 => exact ((Below.refl _ _).alloc (Nat.le_refl _) _).alloc (by simp) _
   rintro e w1 ⟨⟨v, rfl, hown⟩, hb1⟩
   obtain ⟨A1, c1, rfl, k1, k2, hl1, -⟩ := ReadC.of_own hown
   have HL := Lib.hid hl1
   have HLEN := Lib.hid (show (ns ++ ws).length = _ by rw [List.length_append, HN.out, HM.out])
   clear hl1 hown
   go_wp2_with fail
   refine (contains_at 55 (fun x => !modeB x.mode) (ns ++ ws) A1 _ c1 _ q cf_lright1 lright1_any HLEN.out k1 k2 (by rw [cmdsC_append]; exact HL.out) HQ.out).mono ?_
   rintro e w2 ⟨rfl, hb2⟩
   go_wp2
   go_ret
   exact ⟨rfl, by exact belowBy⟩
 ·rw [lineB_no hok] at hr
  subst hr
  rw [hn] at hok hc ⊢
  rw [hm] at hok hd ⊢
  clear hx hy hn hm
  have hcase : 1 < n ∨ (n ≤ 1 ∧ 4 < m) ∨ (n = 0 ∧ 0 < m ∧ m ≤ 4) := by omega
  clear hok
  rcases hcase with h1 | ⟨h1, h2⟩ | ⟨rfl, h1, h2⟩
  ·have h1I : (1 : Int) < (n : Int) := by omega
   go_enter Tryz.func27, Tryz.ntmps27
   go_wp2
   go_ret
   exact ⟨rfl, by exact belowBy⟩
  ·have h1I : (n : Int) ≤ 1 := by omega
   have h2I : (4 : Int) < (m : Int) := by omega
   go_enter Tryz.func27, Tryz.ntmps27
   go_wp2
   go_ret
   exact ⟨rfl, by exact belowBy⟩
  ·have h1I : (0 : Int) < (m : Int) := by omega
   have h2I : (m : Int) ≤ 4 := by omega
   go_enter Tryz.func27, Tryz.ntmps27
   go_wp2
   go_ret
   exact ⟨rfl, by exact belowBy⟩

end Go.Proofs.YthhfnageadckkaaGreat
