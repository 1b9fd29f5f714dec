/- Layer 12, the reference: append of a row that lies anywhere as a step of a drawn region; all commands of a line. -/
import Derived.Test.YtddakmlnkffgiaaLineJ0
import Derived.Deep.RegionHeld3
namespace Go.Proofs.Ytddakmlnkffgiaa
open Go.RowKit
set_option linter.unusedVariables false
set_option linter.unusedSimpArgs false
attribute [local go_sem] ite_max ite_min vite_max vite_min ext_cell ext_frozen extS_cell extS_frozen

/-- append of a row that lies anywhere, at a step of a region that draws -/
theorem step_app {P : Program} {w : World} {ops : Array Oper} {o : Oper} {a : Act} {K : Act → World → Prop} {Q : Exit → Act → World → Prop} {E : Prop} (hgd : o.guard = none) (s x : Operand) (t : TypeId)
    (ho : o.op = .call { callee := .builtin .append, args := #[s, x], argTypes := #[t, t] })
    (base : Nat) (e : TypeId) (i : TypeInfo) (z : Value) (size bytes : Nat) (ht : P.underlying t = some (.slice e)) (hi : P.info? e = some i) (hz : i.zero = some z)
    (hsize : i.size = size) (hby : i.bytes = bytes) (hzs : z.cells.size = size) (hsz : 0 < size)
    (v : Value) (n : Nat) (xs : List Value) (hs : a.eval s = v) (hown : w.ownsRow base e size v n xs)
    (B : Nat) (A : Option Addr) (m c : Nat) (ys : List Value) (hx : a.eval x = .slice A m c) (hr : Lies w B size A m ys) (h1 : ∀ u ∈ ys, u.oneCell' = true)
    (h63 : n + m ≤ maxLen) (hbytes : (n + m) * bytes ≤ 140737488355328) (hbase : base ≤ w.heap.size)
    (h : ∀ A' c' w', w'.ownsRow base e size (.slice A' (n + m) c') (n + m) (xs ++ ys) → w.grownBy w' v.ownBlock → K (a.put o.dst (.slice A' (n + m) c')) w') :
    if Region.wanted o (yielded ops a.tmps) = true then Oper.wp P o a w K Q else E := by
  have hw : Region.wanted o (yielded ops a.tmps) = true := by simp [Region.wanted, hgd]
  rw [if_pos hw]
  obtain ⟨v', w', q1, q2, q3, q4⟩ := run_app (P := P) w base t o.type e i z size bytes ht hi hz hsize hby hzs hsz v n xs hown B A m c ys hr h1 h63 hbytes hbase
  obtain ⟨A', c', rfl, -⟩ := own_form q2
  exact Lib.wp_append_run w s x t t ho v (.slice A m c) hs hx _ w' q1 (h _ _ w' q2 q3)
/-- what stays beside a row that grows -/
theorem grown_cell {w w' : World} {base : Nat} {e : TypeId} {size : Nat} {v : Value} {n : Nat} {xs : List Value} (ho : w.ownsRow base e size v n xs) (hg : w.grownBy w' v.ownBlock) {p : Addr} (hp : p.block < base) (hb : base ≤ w.heap.size) : w'.cell? p = w.cell? p :=
  hg.cell_far p (Nat.lt_of_lt_of_le hp hb) (fun h => by have := (ho.lt _ h.symm).1; omega)
theorem grown_frozen {w w' : World} {base : Nat} {e : TypeId} {size : Nat} {v : Value} {n : Nat} {xs : List Value} (ho : w.ownsRow base e size v n xs) (hg : w.grownBy w' v.ownBlock) {p : Addr} (hp : p.block < base) (hb : base ≤ w.heap.size) : w'.frozen? p = w.frozen? p :=
  hg.frozen_far p (Nat.lt_of_lt_of_le hp hb) (fun h => by have := (ho.lt _ h.symm).1; omega)
theorem own_none (w : World) (base H : Nat) (T : TypeId) (size : Nat) (hH : w.heap.size = H) (hb : base ≤ H) : (w.alloc (.cells #[] T)).ownsRow base T size (.slice (some ⟨H, 0, none⟩) 0 0) 0 [] := by
  subst hH
  exact World.ownsRow_made w #[] 0 hb (by unfold maxLen; omega) (by simp)

set_option maxRecDepth 100000 in
set_option maxHeartbeats 2000000 in
theorem rlist_at (ns ws : List CmdS) (v : Value) (base : Nat) (w : World) (h : LineV w base ns ws v) (hn : ns.length ≤ 400) (hm : ws.length ≤ 400) :
    Calls Try.prog 37 #[v] w fun e w' => RowC w w' (ns ++ ws).length (cmdsC (ns ++ ws)) e ∧ Below w.heap.size w w' := by
  obtain ⟨a, b, rfl, ⟨A, c, rfl, h1, h2, h3, _⟩, ⟨D, d, rfl, k1, k2, k3, _⟩⟩ := h
  obtain ⟨i0, hi0, hz0, hz1, hz2⟩ := info_parts cmd_info
  have HI := Lib.hid hi0
  have HZ0 := Lib.hid hz0
  have HZ1 := Lib.hid hz1
  have HZ2 := Lib.hid hz2
  have HX := Lib.hid h3
  have HY := Lib.hid k3
  rw [List.length_append, cmdsC_append]
  obtain ⟨n, hn'⟩ : ∃ n, ns.length = n := ⟨_, rfl⟩
  obtain ⟨m, hm'⟩ : ∃ m, ws.length = m := ⟨_, rfl⟩
  rw [hn'] at HX hn h1 ⊢
  rw [hm'] at HY hm k1 ⊢
  clear h3 k3 hn' hm' hi0 hz0 hz1 hz2
  go_enter Try.func37, Try.ntmps37
  go_wp2_with fail
  go_region_held3? (fun w' => w'.cell? ⟨w.heap.size, 0, none⟩ = some (.slice A n c) ∧ w'.cell? ⟨w.heap.size, 1, none⟩ = some (.slice D m d)) (go_keep)
    (first
      | (have o0 := (own_none (w.alloc (.cells #[.slice A n c, .slice D m d] 45)) (w.heap.size + 1) (w.heap.size + 1) 51 7 (by simp) (Nat.le_refl _)).drew; refine step_app rfl (.tmp 3) (.tmp 5) 43 rfl (w.heap.size + 1) 51 i0 (.agg #[.int .i64 0, .int .i64 0, .int .i64 0, .int .i64 0, .int .i64 0, .int .i64 0, .int .i64 0]) 7 56 Try.underlying43 HI.out HZ0.out HZ1.out HZ2.out rfl (by decide) (.slice (some ⟨w.heap.size + 1, 0, none⟩) 0 0) 0 [] rfl o0 w.heap.size A n c (cmdsC ns) rfl (HX.out.below (by (repeat' (first | (with_reducible exact Below.refl _ _) | (with_reducible assumption) | (with_reducible refine below_drewN ?_ _) | (with_reducible refine Below.drew ?_) | (with_reducible refine below_new ?_ (Nat.le_refl _) _) | (with_reducible refine Below.setCell ?_ ?_ _) | (with_reducible refine below_go ?_ (by assumption) (Nat.le_refl _)) | (simp; done) | (simp; omega) | omega)))) (cmdsC_one _) (by unfold maxLen; omega) (by omega) (by simp) ?_; intro A1 c1 w1 ho1 hg1; simp only [Nat.zero_add, List.nil_append] at ho1 ⊢; (have z1 : w.heap.size + 2 ≤ w1.heap.size := (by have := hg1.size; simp at this; omega)); (have k0 : w1.cell? ⟨w.heap.size, 0, none⟩ = some (.slice A n c) := (grown_cell (p := ⟨w.heap.size, 0, none⟩) o0 hg1 (Nat.lt_succ_self _) (by simp)).trans (by go_simp)); (have k1 : w1.cell? ⟨w.heap.size, 1, none⟩ = some (.slice D m d) := (grown_cell (p := ⟨w.heap.size, 1, none⟩) o0 hg1 (Nat.lt_succ_self _) (by simp)).trans (by go_simp)); (have HB1 : Below w.heap.size w w1 := below_grown (by (repeat' (first | (with_reducible exact Below.refl _ _) | (with_reducible assumption) | (with_reducible refine below_drewN ?_ _) | (with_reducible refine Below.drew ?_) | (with_reducible refine below_new ?_ (Nat.le_refl _) _) | (with_reducible refine Below.setCell ?_ ?_ _) | (with_reducible refine below_go ?_ (by assumption) (Nat.le_refl _)) | (simp; done) | (simp; omega) | omega))) hg1 o0 (Nat.le_succ _) (by simp; omega)); clear o0 hg1)
      | (refine step_app rfl (.tmp 6) (.tmp 8) 43 rfl (w.heap.size + 1) 51 i0 (.agg #[.int .i64 0, .int .i64 0, .int .i64 0, .int .i64 0, .int .i64 0, .int .i64 0, .int .i64 0]) 7 56 Try.underlying43 HI.out HZ0.out HZ1.out HZ2.out rfl (by decide) (.slice A1 n c1) n (cmdsC ns) rfl ho1 w.heap.size D m d (cmdsC ws) rfl (HY.out.below HB1) (cmdsC_one _) (by unfold maxLen; omega) (by omega) (by omega) ?_; intro A2 c2 w2 ho2 hg2; (have HB2 : Below w.heap.size w w2 := below_grown HB1 hg2 ho1 (Nat.le_succ _) (by omega)); (have k2 : w2.cell? ⟨w.heap.size, 0, none⟩ = some (.slice A n c) := (grown_cell (p := ⟨w.heap.size, 0, none⟩) ho1 hg2 (Nat.lt_succ_self _) (by omega)).trans k0); (have k3 : w2.cell? ⟨w.heap.size, 1, none⟩ = some (.slice D m d) := (grown_cell (p := ⟨w.heap.size, 1, none⟩) ho1 hg2 (Nat.lt_succ_self _) (by omega)).trans k1)))
  have HO := Lib.hid (own_base ho2 (Nat.le_succ w.heap.size))
  go_wp2
  go_ret
  exact ⟨⟨_, rfl, HO.out⟩, HB2⟩

end Go.Proofs.Ytddakmlnkffgiaa
