/- Merged: Layer 15: is a look not too long? Layer 15: are all cycles not too long for a look? Layer 15: 'n, reports := axis.Step(a, in)': the new axis in a variable of its own. Layer 15: an axis, and what comes to it, as they are read out of the arguments. Layer 15: the reports of a cycle, one by one; a cycle with its data given by hand. -/
import Derived.Test.YtogbhnmkinjpeaaGreatM42
import Derived.Test.YtogbhnmkinjpeaaGreatM18
set_option linter.unusedVariables false
set_option linter.unusedSimpArgs false
namespace Go.Proofs.YtogbhnmkinjpeaaGreat
open Go.RowKit
attribute [local go_sem] ite_max ite_min vite_max vite_min ext_cell ext_frozen

def shortX (a : AX) (cs : List CmdS) : Bool := decide (a.ns.length ≤ 10 ∧ a.ws.length ≤ 10 ∧ a.sm.length ≤ 40 ∧ cs.length ≤ 20)
structure InX where
 i : INS
 cs : List CmdS
 cv : Value
def InX.cells (x : InX) : List Value := inC x.i x.cv
def InG (W : World) (x : InX) : Prop := InV W x.i x.cs x.cv

set_option maxRecDepth 100000 in
set_option maxHeartbeats 4000000 in
theorem short15_at (a : AX) (sv nv wv : Value) (w : World) (h : AxV w a sv nv wv) (i : INS) (cs : List CmdS) (cv : Value) (n : Nat) (hn : cs.length = n) (hc : ∃ A c, cv = .slice A n c) (r : Bool) (hr : shortX a cs = r) :
  Calls Tryz.prog 13 #[.agg (axC a sv nv wv).toArray, .agg (inC i cv).toArray] w fun e w' => e = .returned (.bool r) ∧ Below w.heap.size w w' := by
 obtain ⟨E, f, rfl, -, -, -⟩ := h.sm
 obtain ⟨⟨A, c, rfl, -, -, -, -⟩, ⟨D, d, rfl, -, -, -, -⟩⟩ := LineV.parts h.ln
 obtain ⟨C, g, rfl⟩ := hc
 obtain ⟨k, hk⟩ : ∃ k, a.sm.length = k := ⟨_, rfl⟩
 obtain ⟨p, hp⟩ : ∃ k, a.ns.length = k := ⟨_, rfl⟩
 obtain ⟨q, hq⟩ : ∃ k, a.ws.length = k := ⟨_, rfl⟩
 have HR : Hid (decide (p ≤ 10 ∧ q ≤ 10 ∧ k ≤ 40 ∧ n ≤ 20) = r) := Lib.hid (by rw [← hr]; unfold shortX; rw [hk, hp, hq, hn])
 rw [hk, hp, hq]
 clear hr h hk hp hq hn
 show Calls Tryz.prog 13 #[.agg #[.int .i64 a.st, .int .i64 a.l.v, .int .i64 a.l.a, .int .i64 a.l.d, .int .i64 a.l.lo, .int .i64 a.l.hi, .int .i64 a.win, .int .i64 a.hat, .int .i64 a.fast, .int .i64 a.creep, .int .i64 a.g.p, .int .i64 a.g.v, .slice E k f, .int .i64 a.off, .slice A p c, .slice D q d, .bool a.hd, .int .i64 a.h.p, .int .i64 a.h.f, .int .i64 a.h.c, .bool a.h.t, .int .i64 a.ov, .int .i64 a.sta, .int .i64 a.mas, .int .i64 a.cau, .bool a.ins], .agg #[.bool i.pw, .bool i.op, .int .i64 i.act, .int .i64 i.cau, .bool i.plus, .bool i.minus, .bool i.hm, .bool i.reset, .bool i.rel, .int .i64 i.ov, .int .i64 i.mas, .slice C n g]] w _
 go_enter Tryz.func13, Tryz.ntmps13
 by_cases e1 : p ≤ 10
 ·by_cases e2 : q ≤ 10
  ·by_cases e3 : k ≤ 40
   ·by_cases e4 : n ≤ 20
    ·obtain rfl : true = r := by rw [← HR.out]; exact (decide_eq_true ⟨e1, e2, e3, e4⟩).symm
     have d1 : (p : Int) ≤ 10 := by omega
     have d2 : (q : Int) ≤ 10 := by omega
     have d3 : (k : Int) ≤ 40 := by omega
     have d4 : (n : Int) ≤ 20 := by omega
     clear HR e1 e2 e3 e4
     go_wp2
     go_ret
     exact ⟨rfl, by exact belowBy⟩
    ·obtain rfl : false = r := by rw [← HR.out]; exact (decide_eq_false (fun h => e4 h.2.2.2)).symm
     have d1 : (p : Int) ≤ 10 := by omega
     have d2 : (q : Int) ≤ 10 := by omega
     have d3 : (k : Int) ≤ 40 := by omega
     have d4 : ¬ (n : Int) ≤ 20 := by omega
     clear HR e1 e2 e3 e4
     go_wp2
     go_ret
     exact ⟨rfl, by exact belowBy⟩
   ·obtain rfl : false = r := by rw [← HR.out]; exact (decide_eq_false (fun h => e3 h.2.2.1)).symm
    have d1 : (p : Int) ≤ 10 := by omega
    have d2 : (q : Int) ≤ 10 := by omega
    have d3 : ¬ (k : Int) ≤ 40 := by omega
    clear HR e1 e2 e3
    go_wp2
    go_ret
    exact ⟨rfl, by exact belowBy⟩
  ·obtain rfl : false = r := by rw [← HR.out]; exact (decide_eq_false (fun h => e2 h.2.1)).symm
   have d1 : (p : Int) ≤ 10 := by omega
   have d2 : ¬ (q : Int) ≤ 10 := by omega
   clear HR e1 e2
   go_wp2
   go_ret
   exact ⟨rfl, by exact belowBy⟩
 ·obtain rfl : false = r := by rw [← HR.out]; exact (decide_eq_false (fun h => e1 h.1)).symm
  have d1 : ¬ (p : Int) ≤ 10 := by omega
  clear HR e1
  go_wp2
  go_ret
  exact ⟨rfl, by exact belowBy⟩


def shortL (a : AX) (l : List InX) : Bool := decide (l.length ≤ 300) && l.all fun x => shortX a x.cs
theorem ins_at {w : World} {A : Option Addr} {cap n : Nat} {ins : List InX} (h : SliceAt 12 InX.cells (InG w) w (.slice A n cap) ins) (k : Nat) (hk : k < ins.length) :
  ∃ b off x, A = some ⟨b, off, none⟩ ∧ b < w.heap.size ∧ ins[k]? = some x ∧ InG w x ∧ ∀ W, Below w.heap.size w W → W.rangeAt b (off + k * 12) x.cells := by
 obtain ⟨A', cap', e, -, -, hg, hm⟩ := h
 injection e with e1 e2 e3
 subst e1
 obtain ⟨b, off, hA, hb, hc⟩ := hm (List.ne_nil_of_length_pos (by omega))
 have hx := List.getElem?_eq_getElem hk
 refine ⟨b, off, _, hA, hb, hx, hg _ (List.mem_of_getElem? hx), fun W hW j u hu => ?_⟩
 have h1 := hc k _ hx j (by
  have := (List.getElem?_eq_some_iff.1 hu).1
  exact this)
 rw [hu] at h1
 exact (hW.cell (p := ⟨b, off + k * 12 + j, none⟩) hb).trans h1
theorem inL_of (x : InX) : InL x.i x.cv x.cells := ⟨rfl⟩

set_option maxRecDepth 100000 in
set_option maxHeartbeats 4000000 in
theorem shorts_at (a : AX) (sv nv wv : Value) (w : World) (h : AxV w a sv nv wv) (L : List Value) (hL : AxL a sv nv wv L) (ins : List InX) (lv : Value) (hl : SliceAt 12 InX.cells (InG w) w lv ins) (r : Bool) (hr : shortL a ins = r) :
  Calls Tryz.prog 9 #[.agg L.toArray, lv] w fun e w' => e = .returned (.bool r) ∧ Below w.heap.size w w' := by
 obtain ⟨A, cap, e, h1, h2, -, -⟩ := id hl
 subst e
 have HI := Lib.hid hl
 have HA := Lib.hid h
 have HL := Lib.hid hL
 obtain ⟨n, hn⟩ : ∃ n, ins.length = n := ⟨_, rfl⟩
 rw [hn] at h1 hl ⊢
 have HN := Lib.hid hn
 have HX : Hid (∀ k, k < n → ∃ b off x, A = some ⟨b, off, none⟩ ∧ b < w.heap.size ∧ ins[k]? = some x ∧ InG w x ∧ ∀ W, Below w.heap.size w W → W.rangeAt b (off + k * 12) x.cells) := Lib.hid (fun k hk => ins_at hl k (by omega))
 have HBAD : Hid (∀ (k : Nat) (x : InX), ins[k]? = some x → shortX a x.cs = false → r = false) := Lib.hid (fun k x hx hb => by
  rw [← hr]
  unfold shortL
  rw [Bool.and_eq_false_iff]
  right
  rw [List.all_eq_false]
  exact ⟨x, List.mem_of_getElem? hx, by rw [hb]; decide⟩)
 have HBIG : Hid (300 < n → r = false) := Lib.hid (fun hb => by
  rw [← hr]
  unfold shortL
  rw [decide_eq_false (by omega)]
  rfl)
 have HALL : Hid (n ≤ 300 → (∀ (k : Nat) (x : InX), ins[k]? = some x → shortX a x.cs = true) → r = true) := Lib.hid (fun hb hx => by
  rw [← hr]
  unfold shortL
  rw [decide_eq_true (by omega), Bool.true_and, List.all_eq_true]
  intro x hm
  obtain ⟨k, hk⟩ := List.getElem?_of_mem hm
  exact hx k x hk)
 have HSH : Hid (∀ (x : InX) W, Below w.heap.size w W → InG w x → Calls Tryz.prog 13 #[.agg L.toArray, .agg x.cells.toArray] W fun e w' => e = .returned (.bool (shortX a x.cs)) ∧ Below W.heap.size W w') := Lib.hid (fun x W hb hx => by
  rw [hL.eq]
  obtain ⟨C, g, hc, -⟩ := hx.rd
  exact short15_at a sv nv wv W (h.below hb) x.i x.cs x.cv _ rfl ⟨C, g, hc⟩ _ rfl)
 clear hl h hL hn hr HI
 go_enter Tryz.func9, Tryz.ntmps9
 go_upto_region 1 with (fail)
 refine wp_name fun W hW => ?_
 obtain ⟨B, hB⟩ : ∃ B, B = w.heap.size := ⟨_, rfl⟩
 have HB : Hid (Below w.heap.size w W) := by rw [hW.out]; exact Lib.hid (by exact belowBy)
 have hlt : B < W.heap.size := by rw [hW.out, hB]; simp
 have HK : Hid (W.heap[B]? = some (.cells L.toArray 35)) := by
  rw [hW.out, hB]
  exact Lib.hid (heap_alloc_new _ _)
 have HW0 : Hid (w.heap.size ≤ W.heap.size) := Lib.hid HB.out.size
 (try rw [← hB])
 clear hW hB
 have HRA : Hid (∀ W', Below W.heap.size W W' → W'.rangeAt B 0 L) := Lib.hid (fun W' hb j u hu => by
  rw [Nat.zero_add]
  exact heap_cell j u ((hb.block B hlt).trans HK.out) (by rw [List.getElem?_toArray]; exact hu))
 by_cases hbig : 300 < n
 ·obtain rfl := HBIG.out hbig
  have hb2 : (300 : Int) < (n : Int) := by omega
  go_wp2
  go_ret
  exact ⟨rfl, HB.out⟩
 have hb2 : ¬ (300 : Int) < (n : Int) := by omega
 have HBN : Hid (n ≤ 300) := Lib.hid (by omega)
 clear hbig HBIG
 go_wp2_with fail
 go_loopw [5] (fun u wr => ∃ k : Nat, k ≤ n ∧ u = .int .i64 k ∧ Hid (∀ (j : Nat) (x : InX), j < k → ins[j]? = some x → shortX a x.cs = true) ∧ Hid (Below W.heap.size W wr)) (fun u _ => n - (intOf u).toNat)
 case atStart => exact ⟨0, by omega, rfl, Lib.hid (fun j x hj => by omega), Lib.hid (Below.refl _ _)⟩
 case round =>
  obtain ⟨k, hk, rfl, HK, HR⟩ := hrel
  by_cases hlk : k < n
  ·obtain ⟨b, off, x, rfl, hb, hxk, hg, hrg⟩ := HX.out k hlk
   have hk0 : (0 : Int) ≤ (k : Int) := by omega
   have hkn : (k : Int) < (n : Int) := by omega
   have HRG : Hid (∀ W', Below wr.heap.size wr W' → W'.rangeAt b (off + k * 12) x.cells ∧ W'.rangeAt B 0 L) := Lib.hid (fun W' hb' => by
    have h3 : Below W.heap.size W W' := HR.out.trans (hb'.mono HR.out.size)
    exact ⟨hrg W' (HB.out.trans (h3.mono HB.out.size)), HRA.out W' h3⟩)
   have HSX : Hid (∀ W', Below wr.heap.size wr W' → Calls Tryz.prog 13 #[.agg L.toArray, .agg x.cells.toArray] W' fun e w' => e = .returned (.bool (shortX a x.cs)) ∧ Below W'.heap.size W' w') := Lib.hid (fun W' hb' => by
    have h3 : Below W.heap.size W W' := HR.out.trans (hb'.mono HR.out.size)
    exact HSH.out x W' (HB.out.trans (h3.mono HB.out.size)) hg)
   have HXK := Lib.hid hxk
   have HIX := Lib.hid (inL_of x)
   clear hb hxk hg hrg
   obtain ⟨M, hM⟩ : ∃ M, x.cells = M := ⟨_, rfl⟩
   rw [hM] at HRG HSX HIX
   clear hM
   obtain ⟨q, hq⟩ : ∃ q, shortX a x.cs = q := ⟨_, rfl⟩
   rw [hq] at HSX
   have HQ := Lib.hid hq
   clear hq
   have hcap0 : n ≤ cap := h1
   go_wp2_with fail
   refine wp_region_held_drew (S := fun w' => Below wr.heap.size wr w') (by kernel_rfl) ?_ (fun hHeld => ?_)
   ·exact (Below.refl _ _).drew
   (refine takeH (i := 0) (v := .agg L.toArray) rfl (by kernel_rfl) (by kernel_rfl) (by kernel_rfl) (fun _ _ _ h => h) (yieldsIf_load_mid (by kernel_rfl) 35 _ rfl B 0 rfl L _ (fun _ hb => (HRG.out _ hb).2) Tryz.underlying35 rfl HL.out.size) (by assumption) ?_)
   (refine takeT (i := 1) (v := ?_) rfl ?_ ?_; rotate_left; (focus (intro w' hSw; (try dsimp only at hSw); go_simp; try (with_reducible rfl))))
   (refine takeT (i := 2) (v := ?_) rfl ?_ ?_; rotate_left; (focus (intro w' hSw; (try dsimp only at hSw); go_simp; try (with_reducible rfl))); (try simp only [Act.put, List.setIfInBounds_toArray, List.set_cons_zero, List.set_cons_succ]))
   (refine takeT (i := 3) (v := ?_) rfl ?_ ?_; rotate_left; (focus (intro w' hSw; (try dsimp only at hSw); go_simp; try (with_reducible rfl))))
   (refine takeH (i := 4) (v := .agg M.toArray) rfl (by kernel_rfl) (by kernel_rfl) (by kernel_rfl) (fun _ _ _ h => h) (yieldsIf_load_mid (by kernel_rfl) 44 _ rfl b (off + k * 12) rfl M _ (fun _ hb => (HRG.out _ hb).1) Tryz.underlying44 rfl HIX.out.size) (by assumption) ?_; (try simp only [Act.put, List.setIfInBounds_toArray, List.set_cons_zero, List.set_cons_succ]))
   refine oneH (i := 5) (by kernel_rfl) rfl (fun Kc hK => ?_)
   go_simp
   go_at_call 13; refine (HSX.out _ hHeld).mono ?_; rintro e w7 ⟨rfl, hb7⟩; (have HB7 := Lib.hid (hHeld.trans (hb7.mono hHeld.size))); clear hb7 hHeld
   go_wp2_with fail
   refine hK.out _ _ (HB7.out) (fun hHeld => ?_)
   clear hK Kc
   (try simp only [Act.put, List.setIfInBounds_toArray, List.set_cons_zero, List.set_cons_succ])
   (refine takeT (i := 6) (v := ?_) rfl ?_ ?_; rotate_left; (focus (intro w' hSw; (try dsimp only at hSw); go_simp; try (with_reducible rfl))); (try simp only [Act.put, List.setIfInBounds_toArray, List.set_cons_zero, List.set_cons_succ]))
   refine wpAnyH_done (by kernel_rfl) ?_ _
   (try simp only [Act.put, List.setIfInBounds_toArray, List.set_cons_zero, List.set_cons_succ])
   have HR7 : Hid (Below W.heap.size W w7) := Lib.hid (HR.out.trans (hHeld.mono HR.out.size))
   clear hHeld HB7 HR
   cases q
   ·obtain rfl := HBAD.out k x HXK.out HQ.out
    go_wp2
    go_ret
    exact ⟨rfl, HB.out.trans (HR7.out.mono HW0.out)⟩
   ·go_wp2
    go_roundw
    case rel =>
     refine ⟨k + 1, by omega, by go_num, Lib.hid (fun j y hj hy => ?_), HR7⟩
     by_cases he : j = k
     ·subst he
      rw [HXK.out] at hy
      injection hy with hy
      rw [← hy]
      exact HQ.out
     ·exact HK.out j y (by omega) hy
    case measure => simp [intOf]; omega
  ·obtain rfl : n = k := by omega
   have hrt := HALL.out HBN.out (fun j x hx => HK.out j x (by rw [← HN.out]; exact (List.getElem?_eq_some_iff.1 hx).1) hx)
   subst hrt
   go_wp2
   go_ret
   exact ⟨rfl, HB.out.trans (HR.out.mono HW0.out)⟩

end Go.Proofs.YtogbhnmkinjpeaaGreat

namespace Go.Proofs.YtogbhnmkinjpeaaGreat
open Go.RowKit

structure NVar (D : Nat) (n : AX) (rs : List RepS) (L : List Value) (rv : Value) (Q : Nat) (W : World) : Prop where
 blk : W.heap[Q]? = some (.cells L.toArray 35)
 ax : ∃ sv nv wv, AxR W n sv nv wv ∧ AxL n sv nv wv L ∧ NewV D sv ∧ NewV D nv ∧ NewV D wv
 own : W.ownsRow D 48 2 rv rs.length (repC rs)
 q : D ≤ Q
theorem NVar.below {D Q : Nat} {n : AX} {rs : List RepS} {L : List Value} {rv : Value} {W W' : World} (h : NVar D n rs L rv Q W) (hb : Below W.heap.size W W') : NVar D n rs L rv Q W' := by
 obtain ⟨sv, nv, wv, h1, h2, h3⟩ := h.ax
 exact ⟨(hb.block Q (Array.getElem?_eq_some_iff.1 h.blk).1).trans h.blk, ⟨sv, nv, wv, h1.below hb, h2, h3⟩, owns_below h.own hb, h.q⟩
theorem NVar.lt {D Q : Nat} {n : AX} {rs : List RepS} {L : List Value} {rv : Value} {W : World} (h : NVar D n rs L rv Q W) : Q < W.heap.size := (Array.getElem?_eq_some_iff.1 h.blk).1
theorem AxR.row2 {W : World} {a : AX} {sv nv wv : Value} {g : Nat} (h : AxR W a sv nv wv) (hn : ∀ v, v = sv ∨ v = nv ∨ v = wv → ∀ b o n c, 0 < n → v = .slice (some ⟨b, o, none⟩) n c → ¬ b = g) (cs : Array Value) : AxR (W.setRow g cs) a sv nv wv := by
 have hb : Buts (fun b => b = g) W (W.setRow g cs) := (Buts.refl _ _).setRow cs
 obtain ⟨r1, r2⟩ := LineV.parts h.v.ln
 exact ⟨⟨h.v.sm.buts hb (hn _ (.inl rfl)), ⟨_, _, rfl, r1.buts hb (hn _ (.inr (.inl rfl))), r2.buts hb (hn _ (.inr (.inr rfl)))⟩, h.v.cw, h.v.sta, h.v.mas, h.v.pos⟩, h.r⟩
theorem nvar_mk {D Q : Nat} {n : AX} {rs : List RepS} {L : List Value} {rv sv nv wv : Value} {W : World} {zs : Array Value} (hz : W.heap[Q]? = some (.cells zs 35)) (h : AxR W n sv nv wv) (hL : AxL n sv nv wv L) (hv : NewV D sv ∧ NewV D nv ∧ NewV D wv)
  (hn : ∀ v, v = sv ∨ v = nv ∨ v = wv → ∀ b o n c, 0 < n → v = .slice (some ⟨b, o, none⟩) n c → ¬ b = Q) (ho : W.ownsRow D 48 2 rv rs.length (repC rs)) (hr : ∀ b, rv.ownBlock = some b → ¬ b = Q) (hD : D ≤ Q) : NVar D n rs L rv Q (W.setRow Q L.toArray) :=
 ⟨setRow_heap _ _ _ _ _ _ hz, ⟨sv, nv, wv, h.row2 hn _, hL, hv⟩, owns_buts ho ((Buts.refl _ _).setRow _) hr, hD⟩
theorem NewV.mono {D E : Nat} {v : Value} (h : NewV E v) (hD : D ≤ E) : NewV D v := fun b o n c hn e => Nat.le_trans hD (h b o n c hn e)
theorem own_mono {w : World} {D E size n : Nat} {e : TypeId} {v : Value} {xs : List Value} (h : w.ownsRow E e size v n xs) (hD : D ≤ E) : w.ownsRow D e size v n xs := by
 obtain ⟨h1, h2⟩ := h
 refine ⟨h1, ?_⟩
 rcases h2 with h2 | ⟨g, cap, cur, hv, hg, r⟩
 ·exact .inl h2
 ·exact .inr ⟨g, cap, cur, hv, Nat.le_trans hD hg, r⟩
theorem nvar_pa {D : Nat} {n : AX} {rs : List RepS} {L : List Value} {rv : Value} {w6 w7 : World} {zs : Array Value} (h : StepV w6 n rs L rv w7) (hD : D ≤ w6.heap.size) : NVar D n rs L rv w7.heap.size ((w7.alloc (.cells zs 35)).setRow w7.heap.size L.toArray) := by
 obtain ⟨⟨sv, nv, wv, h1, h2, h3, h4, h5⟩, ho, hb⟩ := h
 have hbn := below_new (Below.refl w7.heap.size w7) (Nat.le_refl _) (.cells zs 35)
 obtain ⟨r1, r2⟩ := LineV.parts h1.v.ln
 refine nvar_mk (heap_alloc_new _ _) (h1.below hbn) h2 ⟨h3.mono hD, h4.mono hD, h5.mono hD⟩ (fun v hv b o n c hn e => ?_) (own_mono (owns_below ho hbn) hD) (fun b hb' => ?_) (Nat.le_trans hD hb.size)
 ·rcases hv with rfl | rfl | rfl
  ·have := h1.v.sm.blk b o n c hn e; omega
  ·have := ReadC.blk r1 b o n c hn e; omega
  ·have := ReadC.blk r2 b o n c hn e; omega
 ·have := (ho.lt b hb').2
  omega
theorem nvar_pb {D Q : Nat} {n : AX} {rs : List RepS} {L : List Value} {rv : Value} {w6 w7 : World} {zs : Array Value} (h : StepV w6 n rs L rv w7) (hD : D ≤ Q) (hz : w6.heap[Q]? = some (.cells zs 35)) : NVar D n rs L rv Q (w7.setRow Q L.toArray) := by
 obtain ⟨⟨sv, nv, wv, h1, h2, h3, h4, h5⟩, ho, hb⟩ := h
 have hq := (Array.getElem?_eq_some_iff.1 hz).1
 refine nvar_mk ((hb.block Q hq).trans hz) h1 h2 ⟨h3.mono (by omega), h4.mono (by omega), h5.mono (by omega)⟩ (fun v hv b o n c hn e => ?_) (own_mono ho (by omega)) (fun b hb' => ?_) hD
 ·rcases hv with rfl | rfl | rfl
  ·have := h3 b o n c hn e; omega
  ·have := h4 b o n c hn e; omega
  ·have := h5 b o n c hn e; omega
 ·have := (ho.lt b hb').1
  omega
theorem NVar.move {D Q P : Nat} {n : AX} {rs : List RepS} {L : List Value} {rv : Value} {W : World} {zs : Array Value} (h : NVar D n rs L rv Q W) (hP : P < D) (hz : W.heap[P]? = some (.cells zs 35)) :
  (W.setRow P L.toArray).heap[P]? = some (.cells L.toArray 35) ∧ ∃ sv nv wv, AxR (W.setRow P L.toArray) n sv nv wv ∧ AxL n sv nv wv L := by
 obtain ⟨sv, nv, wv, h1, h2, h3⟩ := h.ax
 exact ⟨setRow_heap _ _ _ _ _ _ hz, sv, nv, wv, h1.row h3 hP _, h2⟩
theorem aright_L (a : AX) (sv nv wv : Value) (L : List Value) (r : Bool) (w : World) (h : AxV w a sv nv wv) (hL : AxL a sv nv wv L) (hr : rightX a = r) :
  Calls Tryz.prog 10 #[.agg L.toArray] w fun e w' => e = .returned (.bool r) ∧ Below w.heap.size w w' := by
 rw [hL.eq]
 exact aright_at a sv nv wv r w h.sm h.ln h.pos hr
theorem range_of {W : World} {B : Nat} {L : List Value} {T : TypeId} (h : W.heap[B]? = some (.cells L.toArray T)) : W.rangeAt B 0 L := fun j u hu => by
 rw [Nat.zero_add]
 exact heap_cell j u h (by rw [List.getElem?_toArray]; exact hu)
theorem ins_below {w W : World} {v : Value} {ins : List InX} (h : SliceAt 12 InX.cells (InG w) w v ins) (hb : Below w.heap.size w W) : SliceAt 12 InX.cells (InG W) W v ins := by
 obtain ⟨a, cap, hv, h1, h2, hg, hm⟩ := h
 refine ⟨a, cap, hv, h1, h2, fun x hx => (hg x hx).below hb, fun hne => ?_⟩
 obtain ⟨b, off, ha, hlt, hc⟩ := hm hne
 exact ⟨b, off, ha, Nat.lt_of_lt_of_le hlt hb.size, fun i x hi j hj => (hb.cell (p := ⟨b, off + i * 12 + j, none⟩) hlt).trans (hc i x hi j hj)⟩

end Go.Proofs.YtogbhnmkinjpeaaGreat

namespace Go.Proofs.YtogbhnmkinjpeaaGreat
open Go.ChangeShapes Go.WideShapes Go.ChangeAt Go.RowKit

theorem cells_limits : Tryz.prog.cellsOf 23 = 5 := by kernel_rfl
theorem rd_limits {H : Type} {enc : TypeId × Value → H} {w : World} {cs : List Value} (h : Rd enc Tryz.prog w 23 cs) : ∃ (x0 : Int) (x1 : Int) (x2 : Int) (x3 : Int) (x4 : Int), cs = [.int .i64 x0, .int .i64 x1, .int .i64 x2, .int .i64 x3, .int .i64 x4] ∧ (Lit.int .i64 x0).wf = true ∧ (Lit.int .i64 x1).wf = true ∧ (Lit.int .i64 x2).wf = true ∧ (Lit.int .i64 x3).wf = true ∧ (Lit.int .i64 x4).wf = true := by
 obtain ⟨hl, hf⟩ := rd_struct Tryz.underlying23 h
 rw [cells_limits] at hl
 obtain ⟨c0, c1, c2, c3, c4, rfl⟩ := list_5 cs hl
 have h0 : Rd enc Tryz.prog w 2 [c0] := by simpa [show Tryz.prog.cellsOf 2 = 1 by kernel_rfl] using hf 0 _ rfl
 obtain ⟨x0, e0, w0⟩ := rd_int Tryz.underlying2 h0
 simp only [List.cons.injEq, and_true] at e0
 have h1 : Rd enc Tryz.prog w 2 [c1] := by simpa [show Tryz.prog.cellsOf 2 = 1 by kernel_rfl] using hf 1 _ rfl
 obtain ⟨x1, e1, w1⟩ := rd_int Tryz.underlying2 h1
 simp only [List.cons.injEq, and_true] at e1
 have h2 : Rd enc Tryz.prog w 2 [c2] := by simpa [show Tryz.prog.cellsOf 2 = 1 by kernel_rfl] using hf 2 _ rfl
 obtain ⟨x2, e2, w2⟩ := rd_int Tryz.underlying2 h2
 simp only [List.cons.injEq, and_true] at e2
 have h3 : Rd enc Tryz.prog w 2 [c3] := by simpa [show Tryz.prog.cellsOf 2 = 1 by kernel_rfl] using hf 3 _ rfl
 obtain ⟨x3, e3, w3⟩ := rd_int Tryz.underlying2 h3
 simp only [List.cons.injEq, and_true] at e3
 have h4 : Rd enc Tryz.prog w 2 [c4] := by simpa [show Tryz.prog.cellsOf 2 = 1 by kernel_rfl] using hf 4 _ rfl
 obtain ⟨x4, e4, w4⟩ := rd_int Tryz.underlying2 h4
 simp only [List.cons.injEq, and_true] at e4
 subst e0 e1 e2 e3 e4
 exact ⟨x0, x1, x2, x3, x4, rfl, w0, w1, w2, w3, w4⟩
theorem cells_gen : Tryz.prog.cellsOf 25 = 2 := by kernel_rfl
theorem rd_gen {H : Type} {enc : TypeId × Value → H} {w : World} {cs : List Value} (h : Rd enc Tryz.prog w 25 cs) : ∃ (x0 : Int) (x1 : Int), cs = [.int .i64 x0, .int .i64 x1] ∧ (Lit.int .i64 x0).wf = true ∧ (Lit.int .i64 x1).wf = true := by
 obtain ⟨hl, hf⟩ := rd_struct Tryz.underlying25 h
 rw [cells_gen] at hl
 obtain ⟨c0, c1, rfl⟩ := list_2 cs hl
 have h0 : Rd enc Tryz.prog w 2 [c0] := by simpa [show Tryz.prog.cellsOf 2 = 1 by kernel_rfl] using hf 0 _ rfl
 obtain ⟨x0, e0, w0⟩ := rd_int Tryz.underlying2 h0
 simp only [List.cons.injEq, and_true] at e0
 have h1 : Rd enc Tryz.prog w 2 [c1] := by simpa [show Tryz.prog.cellsOf 2 = 1 by kernel_rfl] using hf 1 _ rfl
 obtain ⟨x1, e1, w1⟩ := rd_int Tryz.underlying2 h1
 simp only [List.cons.injEq, and_true] at e1
 subst e0 e1
 exact ⟨x0, x1, rfl, w0, w1⟩
theorem cells_home : Tryz.prog.cellsOf 33 = 4 := by kernel_rfl
theorem rd_home {H : Type} {enc : TypeId × Value → H} {w : World} {cs : List Value} (h : Rd enc Tryz.prog w 33 cs) : ∃ (x0 : Int) (x1 : Int) (x2 : Int) (x3 : Bool), cs = [.int .i64 x0, .int .i64 x1, .int .i64 x2, .bool x3] ∧ (Lit.int .i64 x0).wf = true ∧ (Lit.int .i64 x1).wf = true ∧ (Lit.int .i64 x2).wf = true := by
 obtain ⟨hl, hf⟩ := rd_struct Tryz.underlying33 h
 rw [cells_home] at hl
 obtain ⟨c0, c1, c2, c3, rfl⟩ := list_4 cs hl
 have h0 : Rd enc Tryz.prog w 3 [c0] := by simpa [show Tryz.prog.cellsOf 3 = 1 by kernel_rfl] using hf 0 _ rfl
 obtain ⟨x0, e0, w0⟩ := rd_int Tryz.underlying3 h0
 simp only [List.cons.injEq, and_true] at e0
 have h1 : Rd enc Tryz.prog w 2 [c1] := by simpa [show Tryz.prog.cellsOf 2 = 1 by kernel_rfl] using hf 1 _ rfl
 obtain ⟨x1, e1, w1⟩ := rd_int Tryz.underlying2 h1
 simp only [List.cons.injEq, and_true] at e1
 have h2 : Rd enc Tryz.prog w 2 [c2] := by simpa [show Tryz.prog.cellsOf 2 = 1 by kernel_rfl] using hf 2 _ rfl
 obtain ⟨x2, e2, w2⟩ := rd_int Tryz.underlying2 h2
 simp only [List.cons.injEq, and_true] at e2
 have h3 : Rd enc Tryz.prog w 4 [c3] := by simpa [show Tryz.prog.cellsOf 4 = 1 by kernel_rfl] using hf 3 _ rfl
 obtain ⟨x3, e3⟩ := rd_bool Tryz.underlying4 h3
 simp only [List.cons.injEq, and_true] at e3
 subst e0 e1 e2 e3
 exact ⟨x0, x1, x2, x3, rfl, w0, w1, w2⟩
theorem cells_command : Tryz.prog.cellsOf 56 = 7 := by kernel_rfl
theorem rd_command {H : Type} {enc : TypeId × Value → H} {w : World} {cs : List Value} (h : Rd enc Tryz.prog w 56 cs) : ∃ (x0 : Int) (x1 : Int) (x2 : Int) (x3 : Int) (x4 : Int) (x5 : Int) (x6 : Int), cs = [.int .i64 x0, .int .i64 x1, .int .i64 x2, .int .i64 x3, .int .i64 x4, .int .i64 x5, .int .i64 x6] ∧ (Lit.int .i64 x0).wf = true ∧ (Lit.int .i64 x1).wf = true ∧ (Lit.int .i64 x2).wf = true ∧ (Lit.int .i64 x3).wf = true ∧ (Lit.int .i64 x4).wf = true ∧ (Lit.int .i64 x5).wf = true ∧ (Lit.int .i64 x6).wf = true := by
 obtain ⟨hl, hf⟩ := rd_struct Tryz.underlying56 h
 rw [cells_command] at hl
 obtain ⟨c0, c1, c2, c3, c4, c5, c6, rfl⟩ := list_7 cs hl
 have h0 : Rd enc Tryz.prog w 3 [c0] := by simpa [show Tryz.prog.cellsOf 3 = 1 by kernel_rfl] using hf 0 _ rfl
 obtain ⟨x0, e0, w0⟩ := rd_int Tryz.underlying3 h0
 simp only [List.cons.injEq, and_true] at e0
 have h1 : Rd enc Tryz.prog w 3 [c1] := by simpa [show Tryz.prog.cellsOf 3 = 1 by kernel_rfl] using hf 1 _ rfl
 obtain ⟨x1, e1, w1⟩ := rd_int Tryz.underlying3 h1
 simp only [List.cons.injEq, and_true] at e1
 have h2 : Rd enc Tryz.prog w 2 [c2] := by simpa [show Tryz.prog.cellsOf 2 = 1 by kernel_rfl] using hf 2 _ rfl
 obtain ⟨x2, e2, w2⟩ := rd_int Tryz.underlying2 h2
 simp only [List.cons.injEq, and_true] at e2
 have h3 : Rd enc Tryz.prog w 2 [c3] := by simpa [show Tryz.prog.cellsOf 2 = 1 by kernel_rfl] using hf 3 _ rfl
 obtain ⟨x3, e3, w3⟩ := rd_int Tryz.underlying2 h3
 simp only [List.cons.injEq, and_true] at e3
 have h4 : Rd enc Tryz.prog w 3 [c4] := by simpa [show Tryz.prog.cellsOf 3 = 1 by kernel_rfl] using hf 4 _ rfl
 obtain ⟨x4, e4, w4⟩ := rd_int Tryz.underlying3 h4
 simp only [List.cons.injEq, and_true] at e4
 have h5 : Rd enc Tryz.prog w 2 [c5] := by simpa [show Tryz.prog.cellsOf 2 = 1 by kernel_rfl] using hf 5 _ rfl
 obtain ⟨x5, e5, w5⟩ := rd_int Tryz.underlying2 h5
 simp only [List.cons.injEq, and_true] at e5
 have h6 : Rd enc Tryz.prog w 2 [c6] := by simpa [show Tryz.prog.cellsOf 2 = 1 by kernel_rfl] using hf 6 _ rfl
 obtain ⟨x6, e6, w6⟩ := rd_int Tryz.underlying2 h6
 simp only [List.cons.injEq, and_true] at e6
 subst e0 e1 e2 e3 e4 e5 e6
 exact ⟨x0, x1, x2, x3, x4, x5, x6, rfl, w0, w1, w2, w3, w4, w5, w6⟩

theorem i64_wf {x : Int} (h : (Lit.int .i64 x).wf = true) : I64 x := by
 have := bounds_i64 h
 unfold I64
 omega
theorem command_w {H : Type} {enc : TypeId × Value → H} {w : World} {cs : List Value} (h : Rd enc Tryz.prog w 56 cs) : ∃ x : CmdS, cs = x.cells ∧ CmdW x := by
 obtain ⟨x0, x1, x2, x3, x4, x5, x6, rfl, h0, h1, h2, h3, h4, h5, h6⟩ := rd_command h
 exact ⟨⟨x0, x1, x2, x3, x4, x5, x6⟩, rfl, ⟨i64_wf h0, i64_wf h1, i64_wf h2, i64_wf h3, i64_wf h4, i64_wf h5, i64_wf h6⟩⟩
theorem cmds_of {w : World} {v : Value} {xs : List CmdS} (h : SliceAt 7 CmdS.cells CmdW w v xs) : ReadC w xs.length (cmdsC xs) 0 v ∧ ∀ x ∈ xs, CmdW x := by
 obtain ⟨a, cap, rfl, hl, hc, hg, hm⟩ := h
 refine ⟨⟨a, cap, rfl, hl, hc, ⟨cmdsC_len xs, fun hn => ?_⟩, fun _ _ _ _ => Nat.zero_le _⟩, hg⟩
 obtain ⟨b, off, e, hb, hx⟩ := hm (List.ne_nil_of_length_pos hn)
 refine ⟨b, off, e, hb, fun j u hu => ?_⟩
 have hj : j < xs.length * 7 := by
  have := (List.getElem?_eq_some_iff.1 hu).1
  rwa [cmdsC_len] at this
 have hk : j / 7 < xs.length := by omega
 have hd : j = j / 7 * 7 + j % 7 := by omega
 have h1 := hx (j / 7) _ (List.getElem?_eq_getElem hk) (j % 7) (Nat.mod_lt _ (by decide))
 have h2 := cmdsC_get xs (j / 7) (j % 7) _ (List.getElem?_eq_getElem hk) (Nat.mod_lt _ (by decide))
 rw [← hd] at h2
 rw [hu] at h2
 rw [Nat.add_assoc, ← hd] at h1
 rw [h1, ← h2]
theorem rd_cmds {H : Type} {enc : TypeId × Value → H} {w : World} {v : Value} (h : Rd enc Tryz.prog w 29 [v]) : ∃ xs, ReadC w xs.length (cmdsC xs) 0 v ∧ ∀ x ∈ xs, CmdW x := by
 obtain ⟨xs, hx⟩ := rd_slice_at CmdS.cells CmdW Tryz.underlying29 cells_command (by decide) (fun cs h => command_w h) h
 exact ⟨xs, cmds_of hx⟩
theorem rd_nums {H : Type} {enc : TypeId × Value → H} {w : World} {v : Value} (h : Rd enc Tryz.prog w 26 [v]) : ∃ zs, SmV w zs v := by
 obtain ⟨zs, a, cap, hv, h1, h2, -, hm⟩ := rd_slice_at (fun z : Int => [.int .i64 z]) (fun _ => True) Tryz.underlying26 (show Tryz.prog.cellsOf 2 = 1 by kernel_rfl) (by decide) (fun cs hcs => by
  obtain ⟨z, hz, -⟩ := rd_int Tryz.underlying2 hcs
  exact ⟨z, hz, trivial⟩) h
 refine ⟨zs, a, cap, hv, h1, h2, by simp [intsC], fun hn => ?_⟩
 obtain ⟨b, off, ha, hb, hx⟩ := hm (List.ne_nil_of_length_pos hn)
 refine ⟨b, off, ha, hb, fun j u hu => ?_⟩
 simp only [intsC, List.getElem?_map, Option.map_eq_some_iff] at hu
 obtain ⟨z, hz, rfl⟩ := hu
 have := hx j z hz 0 (by decide)
 simpa using this
theorem list_26 {α : Type} (l : List α) (h : l.length = 26) : ∃ a0 a1 a2 a3 a4 a5 a6 a7 a8 a9 a10 a11 a12 a13 a14 a15 a16 a17 a18 a19 a20 a21 a22 a23 a24 a25, l = [a0, a1, a2, a3, a4, a5, a6, a7, a8, a9, a10, a11, a12, a13, a14, a15, a16, a17, a18, a19, a20, a21, a22, a23, a24, a25] := by
 match l, h with | [a0, a1, a2, a3, a4, a5, a6, a7, a8, a9, a10, a11, a12, a13, a14, a15, a16, a17, a18, a19, a20, a21, a22, a23, a24, a25], _ => exact ⟨a0, a1, a2, a3, a4, a5, a6, a7, a8, a9, a10, a11, a12, a13, a14, a15, a16, a17, a18, a19, a20, a21, a22, a23, a24, a25, rfl⟩
theorem list_12 {α : Type} (l : List α) (h : l.length = 12) : ∃ a0 a1 a2 a3 a4 a5 a6 a7 a8 a9 a10 a11, l = [a0, a1, a2, a3, a4, a5, a6, a7, a8, a9, a10, a11] := by
 match l, h with | [a0, a1, a2, a3, a4, a5, a6, a7, a8, a9, a10, a11], _ => exact ⟨a0, a1, a2, a3, a4, a5, a6, a7, a8, a9, a10, a11, rfl⟩
theorem one_i {H : Type} {enc : TypeId × Value → H} {w : World} {t : TypeId} {v : Value} (hc : Tryz.prog.underlying t = some (.int .i64)) (h : Rd enc Tryz.prog w t [v]) : ∃ x, v = .int .i64 x ∧ I64 x := by
 obtain ⟨x, hx, hw⟩ := rd_int hc h
 simp only [List.cons.injEq, and_true] at hx
 exact ⟨x, hx, i64_wf hw⟩
theorem one_b {H : Type} {enc : TypeId × Value → H} {w : World} {v : Value} (h : Rd enc Tryz.prog w 4 [v]) : ∃ x, v = .bool x := by
 obtain ⟨x, hx⟩ := rd_bool Tryz.underlying4 h
 simp only [List.cons.injEq, and_true] at hx
 exact ⟨x, hx⟩
theorem cells_axis : Tryz.prog.cellsOf 35 = 26 := by kernel_rfl
theorem cells_in : Tryz.prog.cellsOf 44 = 12 := by kernel_rfl
theorem c1_int : Tryz.prog.cellsOf 3 = 1 := by kernel_rfl
theorem c1_i64 : Tryz.prog.cellsOf 2 = 1 := by kernel_rfl
theorem c1_bool : Tryz.prog.cellsOf 4 = 1 := by kernel_rfl
theorem c1_cmds : Tryz.prog.cellsOf 29 = 1 := by kernel_rfl
theorem c1_nums : Tryz.prog.cellsOf 26 = 1 := by kernel_rfl
theorem c2_line : Tryz.prog.cellsOf 31 = 2 := by kernel_rfl

theorem rd_line2 {H : Type} {enc : TypeId × Value → H} {w : World} {s r : Value} (h : Rd enc Tryz.prog w 31 [s, r]) :
  ∃ ns ws, (ReadC w ns.length (cmdsC ns) 0 s ∧ ∀ x ∈ ns, CmdW x) ∧ (ReadC w ws.length (cmdsC ws) 0 r ∧ ∀ x ∈ ws, CmdW x) := by
 obtain ⟨-, hf⟩ := rd_struct Tryz.underlying31 h
 have h0 : Rd enc Tryz.prog w 29 [s] := by simpa [c1_cmds] using hf 0 _ rfl
 have h1 : Rd enc Tryz.prog w 29 [r] := by simpa [c1_cmds] using hf 1 _ rfl
 obtain ⟨ns, hn⟩ := rd_cmds h0
 obtain ⟨ws, hw⟩ := rd_cmds h1
 exact ⟨ns, ws, hn, hw⟩
theorem rd_sm1 {H : Type} {enc : TypeId × Value → H} {w : World} {s : Value} (h : Rd enc Tryz.prog w 28 [s]) : ∃ zs, SmV w zs s := by
 obtain ⟨-, hf⟩ := rd_struct Tryz.underlying28 h
 have h0 : Rd enc Tryz.prog w 26 [s] := by simpa [c1_nums] using hf 0 _ rfl
 exact rd_nums h0

theorem rd_axis {H : Type} {enc : TypeId × Value → H} {w : World} {cs : List Value} (h : Rd enc Tryz.prog w 35 cs) : ∃ a sv nv wv, cs = axC a sv nv wv ∧ AxV w a sv nv wv := by
 obtain ⟨hl, hf⟩ := rd_struct Tryz.underlying35 h
 rw [cells_axis] at hl
 obtain ⟨c0, c1, c2, c3, c4, c5, c6, c7, c8, c9, c10, c11, c12, c13, c14, c15, c16, c17, c18, c19, c20, c21, c22, c23, c24, c25, rfl⟩ := list_26 cs hl
 have f0 : Rd enc Tryz.prog w 3 [c0] := by simpa [c1_int] using hf 0 _ rfl
 have f1 : Rd enc Tryz.prog w 23 [c1, c2, c3, c4, c5] := by simpa [cells_limits] using hf 1 _ rfl
 have f2 : Rd enc Tryz.prog w 3 [c6] := by simpa [c1_int] using hf 2 _ rfl
 have f3 : Rd enc Tryz.prog w 2 [c7] := by simpa [c1_i64] using hf 3 _ rfl
 have f4 : Rd enc Tryz.prog w 2 [c8] := by simpa [c1_i64] using hf 4 _ rfl
 have f5 : Rd enc Tryz.prog w 2 [c9] := by simpa [c1_i64] using hf 5 _ rfl
 have f6 : Rd enc Tryz.prog w 25 [c10, c11] := by simpa [cells_gen] using hf 6 _ rfl
 have f7 : Rd enc Tryz.prog w 28 [c12] := by simpa [cells_smooth] using hf 7 _ rfl
 have f8 : Rd enc Tryz.prog w 2 [c13] := by simpa [c1_i64] using hf 8 _ rfl
 have f9 : Rd enc Tryz.prog w 31 [c14, c15] := by simpa [c2_line] using hf 9 _ rfl
 have f10 : Rd enc Tryz.prog w 4 [c16] := by simpa [c1_bool] using hf 10 _ rfl
 have f11 : Rd enc Tryz.prog w 33 [c17, c18, c19, c20] := by simpa [cells_home] using hf 11 _ rfl
 have f12 : Rd enc Tryz.prog w 3 [c21] := by simpa [c1_int] using hf 12 _ rfl
 have f13 : Rd enc Tryz.prog w 2 [c22] := by simpa [c1_i64] using hf 13 _ rfl
 have f14 : Rd enc Tryz.prog w 2 [c23] := by simpa [c1_i64] using hf 14 _ rfl
 have f15 : Rd enc Tryz.prog w 3 [c24] := by simpa [c1_int] using hf 15 _ rfl
 have f16 : Rd enc Tryz.prog w 4 [c25] := by simpa [c1_bool] using hf 16 _ rfl
 obtain ⟨st, rfl, -⟩ := one_i Tryz.underlying3 f0
 obtain ⟨l0, l1, l2, l3, l4, el, -⟩ := rd_limits f1
 obtain ⟨win, rfl, -⟩ := one_i Tryz.underlying3 f2
 obtain ⟨hat, rfl, -⟩ := one_i Tryz.underlying2 f3
 obtain ⟨fast, rfl, -⟩ := one_i Tryz.underlying2 f4
 obtain ⟨creep, rfl, -⟩ := one_i Tryz.underlying2 f5
 obtain ⟨g0, g1, eg, wg, -⟩ := rd_gen f6
 obtain ⟨zs, hz⟩ := rd_sm1 f7
 obtain ⟨off, rfl, -⟩ := one_i Tryz.underlying2 f8
 obtain ⟨ns, ws, ⟨n1, n2⟩, ⟨w1, w2⟩⟩ := rd_line2 f9
 obtain ⟨hd, rfl⟩ := one_b f10
 obtain ⟨h0, h1, h2, h3, eh, -⟩ := rd_home f11
 obtain ⟨ov, rfl, -⟩ := one_i Tryz.underlying3 f12
 obtain ⟨sta, rfl, hsta⟩ := one_i Tryz.underlying2 f13
 obtain ⟨mas, rfl, hmas⟩ := one_i Tryz.underlying2 f14
 obtain ⟨cau, rfl, -⟩ := one_i Tryz.underlying3 f15
 obtain ⟨ins, rfl⟩ := one_b f16
 simp only [List.cons.injEq, and_true] at el eg eh
 obtain ⟨rfl, rfl, rfl, rfl, rfl⟩ := el
 obtain ⟨rfl, rfl⟩ := eg
 obtain ⟨rfl, rfl, rfl, rfl⟩ := eh
 exact ⟨⟨st, ⟨l0, l1, l2, l3, l4⟩, win, hat, fast, creep, ⟨g0, g1⟩, zs, off, ns, ws, hd, ⟨h0, h1, h2, h3⟩, ov, sta, mas, cau, ins⟩, c12, c14, c15, rfl, ⟨hz, ⟨_, _, rfl, n1, w1⟩, fun c hc => (List.mem_append.1 hc).elim (n2 c) (w2 c), hsta, hmas, i64_wf wg⟩⟩

theorem in_of {H : Type} {enc : TypeId × Value → H} {w : World} {cs : List Value} (h : Rd enc Tryz.prog w 44 cs) : ∃ x : InX, cs = x.cells ∧ InG w x := by
 obtain ⟨hl, hf⟩ := rd_struct Tryz.underlying44 h
 rw [cells_in] at hl
 obtain ⟨c0, c1, c2, c3, c4, c5, c6, c7, c8, c9, c10, c11, rfl⟩ := list_12 cs hl
 have f0 : Rd enc Tryz.prog w 4 [c0] := by simpa [c1_bool] using hf 0 _ rfl
 have f1 : Rd enc Tryz.prog w 4 [c1] := by simpa [c1_bool] using hf 1 _ rfl
 have f2 : Rd enc Tryz.prog w 2 [c2] := by simpa [c1_i64] using hf 2 _ rfl
 have f3 : Rd enc Tryz.prog w 3 [c3] := by simpa [c1_int] using hf 3 _ rfl
 have f4 : Rd enc Tryz.prog w 4 [c4] := by simpa [c1_bool] using hf 4 _ rfl
 have f5 : Rd enc Tryz.prog w 4 [c5] := by simpa [c1_bool] using hf 5 _ rfl
 have f6 : Rd enc Tryz.prog w 4 [c6] := by simpa [c1_bool] using hf 6 _ rfl
 have f7 : Rd enc Tryz.prog w 4 [c7] := by simpa [c1_bool] using hf 7 _ rfl
 have f8 : Rd enc Tryz.prog w 4 [c8] := by simpa [c1_bool] using hf 8 _ rfl
 have f9 : Rd enc Tryz.prog w 3 [c9] := by simpa [c1_int] using hf 9 _ rfl
 have f10 : Rd enc Tryz.prog w 2 [c10] := by simpa [c1_i64] using hf 10 _ rfl
 have f11 : Rd enc Tryz.prog w 29 [c11] := by simpa [c1_cmds] using hf 11 _ rfl
 obtain ⟨pw, rfl⟩ := one_b f0
 obtain ⟨op, rfl⟩ := one_b f1
 obtain ⟨act, rfl, hact⟩ := one_i Tryz.underlying2 f2
 obtain ⟨cau, rfl, -⟩ := one_i Tryz.underlying3 f3
 obtain ⟨plus, rfl⟩ := one_b f4
 obtain ⟨minus, rfl⟩ := one_b f5
 obtain ⟨hm, rfl⟩ := one_b f6
 obtain ⟨reset, rfl⟩ := one_b f7
 obtain ⟨rel, rfl⟩ := one_b f8
 obtain ⟨ov, rfl, -⟩ := one_i Tryz.underlying3 f9
 obtain ⟨mas, rfl, hmas⟩ := one_i Tryz.underlying2 f10
 obtain ⟨xs, hx1, hx2⟩ := rd_cmds f11
 exact ⟨⟨⟨pw, op, act, cau, plus, minus, hm, reset, rel, ov, mas, 0⟩, xs, c11⟩, rfl, ⟨⟨hact, hmas⟩, hx1, hx2⟩⟩

end Go.Proofs.YtogbhnmkinjpeaaGreat

namespace Go.Proofs.YtogbhnmkinjpeaaGreat
open Go.RowKit

theorem repC_get : ∀ (rs : List RepS) (k : Nat) (r : RepS), rs[k]? = some r → (repC rs)[k * 2]? = some (.int .i64 r.id) ∧ (repC rs)[k * 2 + 1]? = some (.int .i64 r.what)
 | [], k, r, h => by simp at h
 | x :: l, 0, r, h => by
  simp only [List.getElem?_cons_zero, Option.some.injEq] at h
  subst h
  exact ⟨rfl, rfl⟩
 | x :: l, k + 1, r, h => by
  rw [List.getElem?_cons_succ] at h
  have := repC_get l k r h
  have e : repC (x :: l) = .int .i64 x.id :: .int .i64 x.what :: repC l := rfl
  rw [e, show (k + 1) * 2 = k * 2 + 1 + 1 by omega, show k * 2 + 1 + 1 + 1 = (k * 2 + 1) + 1 + 1 by omega]
  simp only [List.getElem?_cons_succ]
  exact this
theorem reps_at {w : World} {D : Nat} {rv : Value} {rs : List RepS} (h : w.ownsRow D 48 2 rv rs.length (repC rs)) :
  ∃ R c, rv = .slice R rs.length c ∧ rs.length ≤ c ∧ c ≤ 9223372036854775807 ∧ ∀ k r, rs[k]? = some r → ∃ g, R = some ⟨g, 0, none⟩ ∧ g < w.heap.size ∧ w.cell? ⟨g, k * 2, none⟩ = some (.int .i64 r.id) ∧ w.cell? ⟨g, k * 2 + 1, none⟩ = some (.int .i64 r.what) := by
 have hh := h
 obtain ⟨h1, h2⟩ := hh
 rcases h2 with ⟨rfl, h0⟩ | ⟨g, cap, cur, rfl, hg, hh, hc1, hc2, r⟩
 ·refine ⟨none, 0, by rw [h0], by omega, by omega, fun k r hk => ?_⟩
  have := (List.getElem?_eq_some_iff.1 hk).1
  omega
 ·refine ⟨_, cap, rfl, hc1, by unfold maxLen at hc2; omega, fun k r' hk => ⟨g, rfl, (Array.getElem?_eq_some_iff.1 hh).1, ?_⟩⟩
  have hl := Lies.own h
  obtain ⟨b, off, e, hb, hcell⟩ := hl.2 (by have := (List.getElem?_eq_some_iff.1 hk).1; omega)
  injection e with e
  injection e with e1 e2
  subst e1 e2
  obtain ⟨q1, q2⟩ := repC_get rs k r' hk
  have a1 := hcell _ _ q1
  have a2 := hcell _ _ q2
  rw [Nat.zero_add] at a1 a2
  exact ⟨a1, a2⟩
def inE (cause gp : Int) : INS := ⟨true, true, gp, cause, false, false, false, false, false, 100, 0, 0⟩

end Go.Proofs.YtogbhnmkinjpeaaGreat
