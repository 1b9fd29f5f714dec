/- Merged: Layer 15: what is told. Layer 15: bounds; the axis stands at a place. Layer 15: a command is under way; the axis is switched off, fails; a command has ended. Layer 15: the axis is switched off, fails. Layer 15: the axis fails. PRINTED by wip/tool/mkfails.py -/
import Derived.Test.YthhfnageadckkaaGreatM19
import Derived.Deep.DeepMust
import Derived.Laws.AppendOwn
import Derived.Test.YthhfnageadckkaaGreatM06
import Derived.Test.YthhfnageadckkaaGreatM07
import Derived.Test.YthhfnageadckkaaGreatM05
import Derived.Deep.RegionHeld3
set_option linter.unusedVariables false
set_option linter.unusedSimpArgs false
set_option maxHeartbeats 4000000
namespace Go.Proofs.YthhfnageadckkaaGreat
open Go.RowKit
attribute [local go_sem] ite_max ite_min vite_max vite_min ext_cell ext_frozen

theorem rep_info : (Tryz.prog.info? 48).map (fun i => (i.zero, i.size, i.bytes)) = some (some (.agg #[.int .i64 0, .int .i64 0]), 2, 16) := by kernel_rfl
theorem ApV.next {W : World} {K : Nat} {rv rv2 v : Value} (h : ApV K rv v) (hlt : ∀ b o n c, 0 < n → v = .slice (some ⟨b, o, none⟩) n c → b < W.heap.size) (hat : ∀ b, rv2.ownBlock = some b → rv.ownBlock = some b ∨ W.heap.size ≤ b) : ApV K rv2 v := by
 intro b o n c hn e
 obtain ⟨h1, h2⟩ := h b o n c hn e
 refine ⟨h1, fun hr => ?_⟩
 have := hlt b o n c hn e
 rcases hat b hr with h3 | h3
 ·exact h2 h3
 ·omega
theorem SmV.blk {W : World} {zs : List Int} {v : Value} (h : SmV W zs v) : ∀ b o n c, 0 < n → v = .slice (some ⟨b, o, none⟩) n c → b < W.heap.size := by
 obtain ⟨A, c, rfl, -, -, h3⟩ := h
 intro b o n c' hn e
 injection e with e1 e2 e3
 subst e1 e2
 obtain ⟨b', o', e, hb, -⟩ := h3.2 hn
 injection e with e
 injection e with e
 omega
theorem ReadC.blk {W : World} {n0 base : Nat} {xs : List Value} {v : Value} (h : ReadC W n0 xs base v) : ∀ b o n c, 0 < n → v = .slice (some ⟨b, o, none⟩) n c → b < W.heap.size := by
 obtain ⟨A, c, rfl, -, -, h3, -⟩ := h
 intro b o n c' hn e
 injection e with e1 e2 e3
 subst e1 e2
 obtain ⟨b', o', e, hb, -⟩ := h3.2 hn
 injection e with e
 injection e with e
 omega
theorem LineV.parts {W : World} {base : Nat} {ns ws : List CmdS} {nv wv : Value} (h : LineV W base ns ws (.agg #[nv, wv])) : ReadC W ns.length (cmdsC ns) base nv ∧ ReadC W ws.length (cmdsC ws) base wv := by
 obtain ⟨a, b, e, ha, hb⟩ := h
 simp only [Value.agg.injEq, Array.mk.injEq, List.cons.injEq, and_true] at e
 obtain ⟨rfl, rfl⟩ := e
 exact ⟨ha, hb⟩
section
variable {W W2 : World} {K : Nat} {s : WS} {rv rv2 sv nv wv cv : Value}
theorem WKp.told (h : WKp W K s rv sv nv wv cv) (what id : Int) (hb : Buts (fun b => rv.ownBlock = some b) W W2) (ho : W2.ownsRow 0 48 2 rv2 (s.rs.length + 1) (repC s.rs ++ [.int .i64 id, .int .i64 what]))
  (hat : ∀ b, rv2.ownBlock = some b → rv.ownBlock = some b ∨ W.heap.size ≤ b) : WKp (W2.setCell ⟨K, 38, none⟩ rv2) K (tellX s what [id]) rv2 sv nv wv cv ∧ Turn K rv rv2 W (W2.setCell ⟨K, 38, none⟩ rv2) := by
 have hk2 : W2.heap[K]? = some (.cells (wkC s sv nv wv cv rv).toArray 72) := (hb.blk K h.lt h.ne).trans h.blk
 have hset : Buts (fun b => b = K) W2 (W2.setCell ⟨K, 38, none⟩ rv2) := Buts.set (P := fun b => b = K) (Buts.refl _ _) (g := K) rfl _ _
 have hall : Buts (fun b => b = K ∨ rv.ownBlock = some b) W (W2.setCell ⟨K, 38, none⟩ rv2) := (hb.wide fun _ => .inr).trans (hset.wide fun _ => .inl)
 have hne2 : rv2.ownBlock ≠ some K := fun e => by
  rcases hat K e with h1 | h1
  ·exact h.ne h1
  ·have := h.lt
   omega
 obtain ⟨l1, l2⟩ := LineV.parts h.ln
 refine ⟨⟨?_, ?_, ?_, ⟨h.a1.1.next h.sm.blk hat, h.a1.2⟩, h.dk, ⟨h.a2.1.next l1.blk hat, h.a2.2⟩, ⟨h.a3.1.next l2.blk hat, h.a3.2⟩, ?_, hne2, h.inv, h.iw, h.o4⟩, hall, hat⟩
 ·rw [heap_setCell_same W2 K 38 _ _ rv2 hk2, List.setIfInBounds_toArray]
  rfl
 ·exact h.sm.buts hall (fun b o n c hn e => by
   have := h.a1.1 b o n c hn e
   exact fun hp => hp.elim this.1 this.2)
 ·exact ⟨_, _, rfl, l1.buts hall (fun b o n c hn e => by
   have := h.a2.1 b o n c hn e
   exact fun hp => hp.elim this.1 this.2), l2.buts hall (fun b o n c hn e => by
   have := h.a3.1 b o n c hn e
   exact fun hp => hp.elim this.1 this.2)⟩
 ·have := owns_buts ho hset (fun b hb' e => hne2 (by rw [hb', e]))
  have hr : (tellX s what [id]).rs = s.rs ++ [⟨id, what⟩] := rfl
  rw [hr, List.length_append, repC_app]
  exact this
end
theorem tell_tell (s : WS) (what : Int) (xs ys : List Int) : tellX (tellX s what xs) what ys = tellX s what (xs ++ ys) := by
 unfold tellX
 simp
theorem tell_none (s : WS) (what : Int) : tellX s what [] = s := by
 unfold tellX
 simp

set_option maxRecDepth 100000 in
theorem atell_at (s : WS) (what : Int) (ids : List Int) (v : Value) (K : Nat) (rv : Value) (W : World) (h : WK W K s rv) (hv : SmV W ids v) (ha : ApV K rv v) (hl : s.rs.length + ids.length ≤ 2000) :
  Calls Tryz.prog 65 #[.pointer (some ⟨K, 0, none⟩), .int .i64 what, v] W fun x w' => x = .returned (.tuple #[]) ∧ ∃ rv', WK w' K (tellX s what ids) rv' ∧ Turn K rv rv' W w' := by
 obtain ⟨sv, nv, wv, cv, hp⟩ := h
 have HP := Lib.hid hp
 obtain ⟨i0, hi0, hz0, hz1, hz2⟩ := info_parts rep_info
 have HI := Lib.hid hi0
 have HZ0 := Lib.hid hz0
 have HZ1 := Lib.hid hz1
 have HZ2 := Lib.hid hz2
 have HAV := Lib.hid ha
 obtain ⟨A, c, rfl, h1, h2, h3⟩ := hv
 obtain ⟨n, hn⟩ : ∃ n, ids.length = n := ⟨_, rfl⟩
 have HX : Hid (∀ k, k < n → ∃ b off z, A = some ⟨b, off, none⟩ ∧ b < W.heap.size ∧ b ≠ K ∧ rv.ownBlock ≠ some b ∧ ids[k]? = some z ∧ W.cell? ⟨b, off + k, none⟩ = some (.int .i64 z)) := Lib.hid (fun k hk => by
  rw [hn] at h3 ha
  obtain ⟨b, off, e, hb, hc⟩ := h3.2 (by omega)
  have hz : ids[k]? = some (ids[k]'(by omega)) := List.getElem?_eq_getElem _
  have := ha b off n c (by omega) (by rw [e])
  exact ⟨b, off, _, e, hb, this.1, this.2, hz, hc k _ (by simp [intsC, hz])⟩)
 have HL : Hid (ids.length = n) := Lib.hid hn
 have HLEN : Hid (s.rs.length + n ≤ 2000) := Lib.hid (by omega)
 rw [hn] at h1 ⊢
 clear h3 hn hi0 hz0 hz1 hz2 hp ha hl HAV
 go_enter Tryz.func65, Tryz.ntmps65
 go_wp2_with fail
 go_loopw [7, 10] (fun v u wr => ∃ (k : Nat) (rv' : Value), k ≤ n ∧ u = .int .i64 k ∧ Hid (WKp wr K (tellX s what (ids.take k)) rv' sv nv wv cv) ∧ Hid (Turn K rv rv' W wr)) (fun _ u _ => n - (intOf u).toNat)
 case atStart => exact ⟨0, rv, by omega, rfl, Lib.hid (by rw [List.take_zero, tell_none]; exact HP.out), Lib.hid (Turn.refl _ _ _)⟩
 case round =>
  obtain ⟨k, rv', hk, rfl, HW, HT⟩ := hrel
  by_cases hlt : k < n
  ·obtain ⟨b, off, z, rfl, hb, hbK, hbr, hzk, hcell⟩ := HX.out k hlt
   have g0 := (HT.out.buts.cell b (off + k) hb (fun hp => hp.elim hbK hbr)).trans hcell
   have hk0 : (0 : Int) ≤ (k : Int) := by omega
   have hkn : (k : Int) < (n : Int) := by omega
   have hcw := HW.out
   have c_rv := hcw.cell 38 _ rfl
   have lK := hcw.lt
   have fK := hcw.froz
   have HZK := Lib.hid hzk
   have HLB := HLEN.out
   clear hcell hzk hcw hb hbK hbr
   have hrl : (tellX s what (ids.take k)).rs.length = s.rs.length + k := by
    unfold tellX
    simp [HL.out]
    omega
   have HRL := Lib.hid hrl
   clear hrl
   go_wp2_with (at_builtin; refine wpList_append_lies _ rfl _ _ 40 rfl 0 48 i0 (.agg #[.int .i64 0, .int .i64 0]) 2 16 Tryz.underlying40 HI.out HZ0.out HZ1.out HZ2.out rfl (by decide) _ (tellX s what (ids.take k)).rs.length _ rfl (HW.out.own.alloc _) ⟨wr.heap.size, 0, none⟩ 1 1 [.int .i64 z, .int .i64 what] rfl rfl (World.news_of_block (heap_alloc_new _ _)) ?ch5 ?ch1 ?ch2 ?ch3 ?ch4 _ rfl ?_)
   case ch5 => intro u hu; simp only [List.mem_cons, List.not_mem_nil, or_false] at hu; rcases hu with rfl | rfl <;> rfl
   case ch1 => decide
   case ch2 => rw [HRL.out]; unfold maxLen; omega
   case ch3 => rw [HRL.out]; omega
   case ch4 => omega
   intro g cap w2 hown hgrow hat hlt2
   have hbu : Buts (fun b => rv'.ownBlock = some b) wr w2 := Buts.of_grown (below_new (Below.refl _ _) (Nat.le_refl _) _) hgrow
   have hst := HW.out.told what z hbu hown (fun b hb' => by
    have hg : g = b := by simpa [Value.ownBlock] using hb'
    rcases hat with h | h
    ·exact .inl (by rw [h, hg])
    ·have : (wr.alloc (Obj.cells #[Value.int IntKind.i64 z, Value.int IntKind.i64 what] 48)).heap.size = wr.heap.size + 1 := by simp
     exact .inr (by omega))
   have hk2 : w2.heap[K]? = some (.cells (wkC (tellX s what (ids.take k)) sv nv wv cv rv').toArray 72) := (hbu.blk K HW.out.lt HW.out.ne).trans HW.out.blk
   have fK2 := fun j => frozen_of_row w2 K j _ _ hk2
   have lK2 : K < w2.heap.size := (Array.getElem?_eq_some_iff.1 hk2).1
   have c38 : w2.cell? ⟨K, 38, none⟩ = some rv' := heap_cell 38 _ hk2 rfl
   have HST := Lib.hid hst
   clear hst hk2 hbu hown hgrow hat hlt2 c_rv lK fK g0
   go_wp2
   go_roundw
   case rel =>
    refine ⟨k + 1, .slice (some ⟨g, 0, none⟩) ((tellX s what (ids.take k)).rs.length + 1) cap, by omega, by go_num, Lib.hid ?_, Lib.hid (HT.out.trans HST.out.2)⟩
    have := HST.out.1
    rw [tell_tell] at this
    rw [List.take_add_one, HZK.out]
    exact this
   case measure => simp [intOf]; omega
  ·obtain rfl : k = n := by omega
   go_wp2
   refine bodyPost_end (results_none rfl _ _ _) rfl ⟨rfl, rv', ⟨sv, nv, wv, cv, ?_⟩, HT.out⟩
   have := HW.out
   rwa [List.take_of_length_le (by rw [HL.out]; omega)] at this


set_option maxRecDepth 100000 in
theorem abounds_at (a : AX) (sv nv wv : Value) (b : LimS) (w : World) (hb : bndX a = b) :
  Calls Tryz.prog 20 #[.agg #[.int .i64 a.st, .int .i64 a.l.v, .int .i64 a.l.a, .int .i64 a.l.d, .int .i64 a.l.lo, .int .i64 a.l.hi, .int .i64 a.win, .int .i64 a.hat, .int .i64 a.fast, .int .i64 a.creep, .int .i64 a.g.p, .int .i64 a.g.v, sv, .int .i64 a.off, nv, wv, .bool a.hd, .int .i64 a.h.p, .int .i64 a.h.f, .int .i64 a.h.c, .bool a.h.t, .int .i64 a.ov, .int .i64 a.sta, .int .i64 a.mas, .int .i64 a.cau, .bool a.ins]] w fun e w' => e = .returned (.agg #[.int .i64 b.v, .int .i64 b.a, .int .i64 b.d, .int .i64 b.lo, .int .i64 b.hi]) ∧ Below w.heap.size w w' := by
 subst hb
 unfold bndX
 obtain ⟨q, hq⟩ : ∃ q, a.hd = q := ⟨_, rfl⟩
 rw [hq]
 clear hq
 go_enter Tryz.func20, Tryz.ntmps20
 go_upto_region 1 with (fail)
 refine wp_name fun W hW => ?_
 obtain ⟨B, hB⟩ : ∃ B, B = w.heap.size := ⟨_, rfl⟩
 have hbel : Below w.heap.size w W := by rw [hW.out]; exact belowBy
 have hsz : W.heap.size = B + 2 := by rw [hW.out, hB]; simp
 have c1 : W.cell? ⟨B, 1, none⟩ = some (.int .i64 a.l.v) := by rw [hW.out, hB]; go_simp
 have c2 : W.cell? ⟨B, 2, none⟩ = some (.int .i64 a.l.a) := by rw [hW.out, hB]; go_simp
 have c3 : W.cell? ⟨B, 3, none⟩ = some (.int .i64 a.l.d) := by rw [hW.out, hB]; go_simp
 have c4 : W.cell? ⟨B, 4, none⟩ = some (.int .i64 a.l.lo) := by rw [hW.out, hB]; go_simp
 have c5 : W.cell? ⟨B, 5, none⟩ = some (.int .i64 a.l.hi) := by rw [hW.out, hB]; go_simp
 have c16 : W.cell? ⟨B, 16, none⟩ = some (.bool q) := by rw [hW.out, hB]; go_simp
 have r0 : W.cell? ⟨B + 1, 0, none⟩ = some (.int .i64 0) := by rw [hW.out, hB]; go_simp
 have r1 : W.cell? ⟨B + 1, 1, none⟩ = some (.int .i64 0) := by rw [hW.out, hB]; go_simp
 have r2 : W.cell? ⟨B + 1, 2, none⟩ = some (.int .i64 0) := by rw [hW.out, hB]; go_simp
 have r3 : W.cell? ⟨B + 1, 3, none⟩ = some (.int .i64 0) := by rw [hW.out, hB]; go_simp
 have r4 : W.cell? ⟨B + 1, 4, none⟩ = some (.int .i64 0) := by rw [hW.out, hB]; go_simp
 have rf : ∀ o, W.frozen? ⟨B + 1, o, none⟩ = false := fun o => by rw [hW.out, hB]; go_simp
 have HB := Lib.hid hbel
 have hlB : w.heap.size ≤ B := by omega
 (try rw [← hB])
 clear hW hbel hB
 cases q
 ·go_wp2
  refine bodyPost_ret (v := .agg #[.int .i64 a.l.v, .int .i64 a.l.a, .int .i64 a.l.d, .int .i64 (-1099511627776), .int .i64 1099511627776]) (by simp [results, Tryz.results20, go_sem, r0, r1, r2, r3, r4, rf, hsz]) rfl ⟨rfl, ?_⟩
  have hlw := HB.out.size
  have := HB.out
  exact belowBy
 ·go_wp2
  refine bodyPost_ret (v := .agg #[.int .i64 a.l.v, .int .i64 a.l.a, .int .i64 a.l.d, .int .i64 a.l.lo, .int .i64 a.l.hi]) (by simp [results, Tryz.results20, go_sem, r0, r1, r2, r3, r4, rf, hsz]) rfl ⟨rfl, ?_⟩
  have hlw := HB.out.size
  have := HB.out
  exact belowBy

set_option maxRecDepth 100000 in
theorem aplaced_at (s : WS) (pos : Int) (K : Nat) (rv : Value) (W : World) (h : WK W K s rv) (hpos : (bndX s.a).lo ≤ pos ∧ pos ≤ (bndX s.a).hi) :
  Calls Tryz.prog 86 #[.pointer (some ⟨K, 0, none⟩), .int .i64 pos] W fun x w' => x = .returned (.tuple #[]) ∧ WK w' K (placedX s pos) rv ∧ Turn K rv rv W w' := by
 obtain ⟨sv, nv, wv, cv, hp⟩ := h
 obtain ⟨m, hm⟩ : ∃ m : Nat, s.a.win = m := ⟨s.a.win.toNat, by have := hp.inv.win; omega⟩
 have hm16 : 1 ≤ m ∧ m ≤ 16 := by have := hp.inv.win; omega
 have HP := Lib.hid hp
 have HM := Lib.hid hm
 have c_gp := hp.cell 10 _ rfl
 have c_gv := hp.cell 11 _ rfl
 have lK := hp.lt
 have fK := hp.froz
 clear hp hm
 go_enter Tryz.func86, Tryz.ntmps86
 go_upto_region 1 with (fail)
 refine wp_name fun W1 hW1 => ?_
 have hs1 : { s.a with g := ⟨pos, 0⟩ } = { s.a with g := ⟨pos, 0⟩ } := rfl
 have hf := HP.out.put0 [(10, .int .i64 pos), (11, .int .i64 0)] { s with a := { s.a with g := ⟨pos, 0⟩ } } rfl rfl rfl rfl rfl (HP.out.inv.stood hpos) rfl
 have HP1 : Hid (WKp W1 K { s with a := { s.a with g := ⟨pos, 0⟩ } } rv sv nv wv cv ∧ Turn K rv rv W W1) := Lib.hid (by rw [hW1.out]; exact hf)
 clear hf hW1 hs1 c_gp c_gv lK fK
 have hp1 := HP1.out.1
 have cw : W1.cell? ⟨K, 6, none⟩ = some (.int .i64 (m : Int)) := hp1.cell 6 _ (by rw [← HM.out]; rfl)
 have c_sv := hp1.cell 12 _ rfl
 have lK := hp1.lt
 have fK := hp1.froz
 clear hp1
 go_wp2_with fail
 refine (sm_new_w pos m _ hm16 (plB_of (by have := rightB_yes HP.out.inv.br; omega))).mono ?_
 rintro e w2 ⟨g, rfl, hg, hb2, hon⟩
 have HP2 := Lib.hid (HP1.out.1.below hb2)
 have HT2 := Lib.hid (HP1.out.2.trans (Turn.of_below hb2))
 have HON := Lib.hid hon
 have HG := Lib.hid hg
 have HS1 := HP1
 clear hb2 cw c_sv lK fK hon hg HP1
 have hp2 := HP2.out
 have c_sv := hp2.cell 12 _ rfl
 have lK := hp2.lt
 have fK := hp2.froz
 clear hp2
 go_wp2
 have hsm : (placedX s pos).a.sm = List.replicate m pos := by
  show List.replicate s.a.win.toNat pos = _
  rw [HM.out, Int.toNat_natCast]
 have hf := HP2.out.putN [(12, .slice (some ⟨g, 0, none⟩) m m)] (placedX s pos) rfl (by rw [hsm]; exact SmV.of_on HON.out (by simp)) HP2.out.ln (ApW.new_row HS1.out.1 HG.out _ _) HP2.out.a2 HP2.out.a3 rfl (HP.out.inv.placed hpos) rfl
 exact bodyPost_end (results_none rfl _ _ _) rfl ⟨rfl, ⟨.slice (some ⟨g, 0, none⟩) m m, nv, wv, cv, hf.1⟩, HT2.out.trans hf.2⟩


theorem ApV.new_own {W w' : World} {K : Nat} {s : WS} {rv sv nv wv cv v : Value} {base size n : Nat} {T : TypeId} {xs : List Value} (h : WKp W K s rv sv nv wv cv) (ho : w'.ownsRow base T size v n xs) (hb : W.heap.size ≤ base) : ApV K rv v := by
 have hk := h.lt
 intro b o n' c _ e
 have hob : v.ownBlock = some b := by
  rcases ho.2 with ⟨hv, -⟩ | ⟨g, cap, cur, hv, -⟩
  ·rw [hv] at e
   cases e
  ·rw [hv] at e ⊢
   injection e with e
   injection e with e
   injection e with e
   rw [e]
   rfl
 have := (ho.lt b hob).1
 exact ⟨by omega, fun hr => by have := (h.own.lt b hr).2; omega⟩
theorem IdsV.sm {w : World} {xs : List CmdS} {b : Nat} {v : Value} (h : IdsV w xs b v) : SmV w (idsX xs) v := by
 obtain ⟨I, c, rfl, h1, h2, h3⟩ := h.form
 refine ⟨I, c, by simp [idsX], by simpa [idsX] using h1, h2, ?_⟩
 simpa [idsX] using h3
theorem SmV.one {w : World} {z : Int} {T : TypeId} : SmV (w.alloc (.cells #[.int .i64 z] T)) [z] (.slice (some ⟨w.heap.size, 0, none⟩) 1 1) := by
 refine ⟨_, 1, rfl, by simp, by omega, by simp [intsC], fun _ => ⟨_, 0, rfl, by simp, fun j u hu => ?_⟩⟩
 have hj : j = 0 := by
  have := (List.getElem?_eq_some_iff.1 hu).1
  simp [intsC] at this
  exact this
 subst hj
 exact heap_cell 0 _ (heap_alloc_new _ _) (by simpa [intsC] using hu)

def startsK (s1 : WS) (k : Int) : WS :=
 if k = 1 ∨ k = 5 then happX s1 5
 else if k = 4 then happX s1 6
 else if k = 6 then happX s1 8
 else if k = 7 then { (happX s1 3) with a := { (happX s1 3).a with h := ⟨0, s1.a.fast, s1.a.creep, false⟩, hd := false } }
 else if k = 8 then { (happX s1 7) with a := { (happX s1 7).a with sta := s1.a.g.p, mas := s1.i.mas, ins := true } }
 else s1


theorem LineV.slices {w : World} {base : Nat} {ns ws : List CmdS} {v : Value} (h : LineV w base ns ws v) : ∃ A1 c1 A2 c2, v = .agg #[.slice A1 ns.length c1, .slice A2 ws.length c2] := by
 obtain ⟨a, b, rfl, ⟨A1, c1, rfl, -⟩, ⟨A2, c2, rfl, -⟩⟩ := h
 exact ⟨A1, c1, A2, c2, rfl⟩
theorem clearR_all {ns ws : List CmdS} (h : lineB ns ws = true) : clearR ns ws = ns ++ ws := by
 unfold clearR
 rw [if_pos h]
theorem SmV.turn {K : Nat} {rv rv' v : Value} {W W' : World} {zs : List Int} (h : SmV W zs v) (ht : Turn K rv rv' W W') (ha : ApV K rv v) : SmV W' zs v := h.buts ht.buts (fun b o n c hn e => by
 have := ha b o n c hn e
 exact fun hp => hp.elim this.1 this.2)
set_option maxRecDepth 100000 in
theorem aoff_at (s : WS) (K : Nat) (rv : Value) (W : World) (h : WK W K s rv) (hl : s.rs.length + 5 ≤ 2000) :
  Calls Tryz.prog 62 #[.pointer (some ⟨K, 0, none⟩)] W fun x w' => x = .returned (.tuple #[]) ∧ ∃ rv', WK w' K (offX s) rv' ∧ Turn K rv rv' W w' := by
 obtain ⟨sv, nv, wv, cv, hp⟩ := h
 have HP := Lib.hid hp
 have HL := Lib.hid hl
 have c_nv := hp.cell 14 _ rfl
 have c_wv := hp.cell 15 _ rfl
 have lK := hp.lt
 have fK := hp.froz
 clear hp hl
 go_enter Tryz.func62, Tryz.ntmps62
 go_wp2_with fail
 refine (lclear_at s.a.ns s.a.ws _ 0 _ HP.out.ln).mono ?_
 rintro e w1 ⟨v, i, rfl, hl1, hi1, hb1⟩
 obtain ⟨A1, d1, A2, d2, rfl⟩ := hl1.slices
 have HP1 := Lib.hid (HP.out.below hb1)
 have HB1 := Lib.hid hb1
 have HL1 := Lib.hid hl1
 have HI1 := Lib.hid hi1
 clear c_nv c_wv lK fK hl1 hi1 hb1
 simp only [List.length_nil]
 go_upto_region 1 with (fail)
 refine wp_name fun W2 hW2 => ?_
 obtain ⟨B, hB⟩ : ∃ B, B = w1.heap.size := ⟨_, rfl⟩
 have hbel : Below w1.heap.size w1 W2 := by rw [hW2.out]; exact belowBy
 have hlB : B < W2.heap.size := by rw [hW2.out, hB]; simp
 have c0 : W2.cell? ⟨B, 0, none⟩ = some (.slice A1 0 d1) := by rw [hW2.out, hB]; go_simp
 have c1 : W2.cell? ⟨B, 1, none⟩ = some (.slice A2 0 d2) := by rw [hW2.out, hB]; go_simp
 have HB2 := Lib.hid hbel
 have HP2 := Lib.hid (HP1.out.below hbel)
 have HT2 : Hid (Turn K rv rv W W2) := Lib.hid ((Turn.of_below HB1.out).trans (Turn.of_below hbel))
 have hp2 := HP2.out
 have c_nv := hp2.cell 14 _ rfl
 have c_wv := hp2.cell 15 _ rfl
 have lK := hp2.lt
 have fK := hp2.froz
 (try rw [← hB])
 (try simp only [Act.put])
 clear hW2 hbel hB hp2
 go_upto_region 2 with (fail)
 refine wp_name fun W3 hW3 => ?_
 have hln : LineV W2 0 [] [] (.agg #[.slice A1 0 d1, .slice A2 0 d2]) := (HL1.out.below HB2.out).base0 (Nat.zero_le _)
 have han := ApW.new_line HP.out HL1.out (Nat.le_refl _)
 have hf := HP2.out.putN [(14, .slice A1 0 d1), (15, .slice A2 0 d2)] (lineX s [] []) rfl HP2.out.sm hln HP2.out.a1 han.1 han.2 rfl HP.out.inv.empty rfl
 have HP3 : Hid (WKp W3 K (lineX s [] []) rv sv (.slice A1 0 d1) (.slice A2 0 d2) cv ∧ Turn K rv rv W2 W3) := Lib.hid (by rw [hW3.out]; exact hf)
 have HAI : Hid (ApV K rv i) := Lib.hid (ApV.new_own HP.out HI1.out (Nat.le_refl _))
 have HIS : Hid (SmV W3 (idsX (s.a.ns ++ s.a.ws)) i) := Lib.hid (by
  have h1 := HI1.out.sm
  rw [clearR_all HP.out.inv.line] at h1
  exact (h1.below HB2.out).turn HP3.out.2 HAI.out)
 have HT3 := Lib.hid (HT2.out.trans HP3.out.2)
 have hlen : s.rs.length + (idsX (s.a.ns ++ s.a.ws)).length ≤ 2000 := by
  have h1 := lineB_yes HP.out.inv.line
  have h2 := HL.out
  simp only [idsX, List.length_map, List.length_append]
  omega
 have HLEN := Lib.hid hlen
 clear hf hW3 hln han hlen c0 c1 hlB c_nv c_wv lK fK
 go_wp2_with fail
 refine (atell_at (lineX s [] []) 3 (idsX (s.a.ns ++ s.a.ws)) i K rv _ ⟨_, _, _, _, HP3.out.1⟩ HIS.out HAI.out HLEN.out).mono ?_
 rintro e w4 ⟨rfl, rv4, ⟨sv4, nv4, wv4, cv4, hp4⟩, ht4⟩
 have HP4 := Lib.hid hp4
 have HT4 := Lib.hid (HT3.out.trans ht4)
 have cg : w4.cell? ⟨K, 10, none⟩ = some (.int .i64 s.a.g.p) := hp4.cell 10 _ rfl
 have lK := hp4.lt
 clear hp4 ht4
 go_wp2_with fail
 refine (aplaced_at (tellX (lineX s [] []) 3 (idsX (s.a.ns ++ s.a.ws))) s.a.g.p K rv4 _ ⟨_, _, _, _, HP4.out⟩ (by have := safeB_yes HP.out.inv.safe; exact ⟨this.1, this.2.1⟩)).mono ?_
 rintro e w5 ⟨rfl, hw5, ht5⟩
 have HW5 := Lib.hid hw5
 have HT5 := Lib.hid (HT4.out.trans ht5)
 clear hw5 ht5 cg lK
 go_wp2_with fail
 refine (ahapp_at _ 2 K rv4 _ HW5.out).mono ?_
 rintro e w6 ⟨rfl, hw6, ht6⟩
 have HW6 := Lib.hid hw6
 have HT6 := Lib.hid (HT5.out.trans ht6)
 clear hw6 ht6
 go_wp2
 exact bodyPost_end (results_none rfl _ _ _) rfl ⟨rfl, rv4, HW6.out, HT6.out⟩


set_option maxRecDepth 100000 in
theorem afails_none (s : WS) (c : Int) (K : Nat) (rv sv nv wv cv : Value) (W : World) (hp : WKp W K s rv sv nv wv cv) (hl : s.rs.length + 5 ≤ 2000) (hns : s.a.ns = []) (hws : s.a.ws = []) (A : Option Addr) (cc : Nat) (hnv : nv = .slice A 0 cc) :
  Calls Tryz.prog 59 #[.pointer (some ⟨K, 0, none⟩), .int .i64 c] W fun x w' => x = .returned (.tuple #[]) ∧ ∃ rv', WK w' K (failsX s c) rv' ∧ Turn K rv rv' W w' := by
 subst hnv
 have HEQ : Hid (failsX s c = happX { tellX (lineX s [] []) 3 [] with a := { (tellX (lineX s [] []) 3 []).a with cau := c } } 11) := Lib.hid (by unfold failsX; rw [hns, hws]; rfl)
 have HNS := Lib.hid hns
 have HWS := Lib.hid hws
 clear hns hws
 have HP := Lib.hid hp
 have HL := Lib.hid hl
 have HC := Lib.hid (hp.inv)
 have c_nv := hp.cell 14 _ rfl
 have c_wv := hp.cell 15 _ rfl
 have lK := hp.lt
 have fK := hp.froz
 clear hp hl
 go_enter Tryz.func59, Tryz.ntmps59
 go_wp2_with fail
 refine (lclear_at s.a.ns s.a.ws _ 0 _ HP.out.ln).mono ?_
 rintro e w1 ⟨v, i, rfl, hl1, hi1, hb1⟩
 obtain ⟨A1, d1, A2, d2, rfl⟩ := hl1.slices
 rw [clearR_all HC.out.line, HNS.out, HWS.out] at hi1
 have HP1 := Lib.hid (HP.out.below hb1)
 have HB1 := Lib.hid hb1
 have HL1 := Lib.hid hl1
 obtain ⟨I, ci, rfl, hci1, hci2, hci3⟩ := hi1.form
 have HI1 := Lib.hid hi1
 have HI3 := Lib.hid hci3
 clear c_nv c_wv lK fK hl1 hi1 hb1 hci3
 simp only [List.length_nil]
 go_upto_region 2 with (fail)
 refine wp_name fun W2 hW2 => ?_
 obtain ⟨B, hB⟩ : ∃ B, B = w1.heap.size := ⟨_, rfl⟩
 have hbel : Below w1.heap.size w1 W2 := by rw [hW2.out]; exact belowBy
 have hlB : B < W2.heap.size := by rw [hW2.out, hB]; simp
 have c0 : W2.cell? ⟨B, 0, none⟩ = some (.slice A1 0 d1) := by rw [hW2.out, hB]; go_simp
 have c1 : W2.cell? ⟨B, 1, none⟩ = some (.slice A2 0 d2) := by rw [hW2.out, hB]; go_simp
 have HB2 := Lib.hid hbel
 have HP2 := Lib.hid (HP1.out.below hbel)
 have HT2 : Hid (Turn K rv rv W W2) := Lib.hid ((Turn.of_below HB1.out).trans (Turn.of_below hbel))
 have hp2 := HP2.out
 have c_nv := hp2.cell 14 _ rfl
 have c_wv := hp2.cell 15 _ rfl
 have lK := hp2.lt
 have fK := hp2.froz
 (try rw [← hB])
 (try simp only [Act.put])
 clear hW2 hbel hB hp2
 go_upto_region 3 with (fail)
 refine wp_name fun W3 hW3 => ?_
 have hln : LineV W2 0 [] [] (.agg #[.slice A1 0 d1, .slice A2 0 d2]) := (HL1.out.below HB2.out).base0 (Nat.zero_le _)
 have han := ApW.new_line HP.out HL1.out (Nat.le_refl _)
 have hf := HP2.out.putN [(14, .slice A1 0 d1), (15, .slice A2 0 d2)] (lineX s [] []) rfl HP2.out.sm hln HP2.out.a1 han.1 han.2 rfl HP.out.inv.empty rfl
 have HP3 : Hid (WKp W3 K (lineX s [] []) rv sv (.slice A1 0 d1) (.slice A2 0 d2) cv ∧ Turn K rv rv W2 W3) := Lib.hid (by rw [hW3.out]; exact hf)
 have HT3 := Lib.hid (HT2.out.trans HP3.out.2)
 have HAI : Hid (ApV K rv (.slice I 0 ci)) := Lib.hid (ApV.new_own HP.out HI1.out (Nat.le_refl _))
 have HIS : Hid (SmV W3 [] (.slice I 0 ci)) := Lib.hid ((HI1.out.sm.below HB2.out).turn HP3.out.2 HAI.out)
 clear hf hW3 hln han c0 c1 hlB c_nv c_wv lK fK hci1
 go_wp2_with fail
 refine (atell_at (lineX s [] []) 3 [] (.slice I 0 ci) K rv _ ⟨_, _, _, _, HP3.out.1⟩ HIS.out HAI.out (by have := HL.out; show s.rs.length + 0 ≤ 2000; omega)).mono ?_
 rintro e w5 ⟨rfl, rv5, ⟨sv5, nv5, wv5, cv5, hp5⟩, ht5⟩
 have HP5 := Lib.hid hp5
 have HT5 := Lib.hid (HT3.out.trans ht5)
 have c_cau := hp5.cell 24 _ rfl
 have lK := hp5.lt
 have fK := hp5.froz
 clear hp5 ht5
 go_upto_region 8 with (fail)
 refine wp_name fun W6 hW6 => ?_
 have hf := HP5.out.put0 [(24, .int .i64 c)] { tellX (lineX s [] []) 3 [] with a := { (tellX (lineX s [] []) 3 []).a with cau := c } } rfl rfl rfl rfl rfl (HP5.out.inv.cau c) rfl
 have HP6 : Hid (WKp W6 K { tellX (lineX s [] []) 3 [] with a := { (tellX (lineX s [] []) 3 []).a with cau := c } } rv5 sv5 nv5 wv5 cv5 ∧ Turn K rv5 rv5 w5 W6) := Lib.hid (by rw [hW6.out]; exact hf)
 have HT6 := Lib.hid (HT5.out.trans HP6.out.2)
 clear hf hW6 c_cau lK fK
 go_wp2_with fail
 refine (ahapp_at _ 11 K rv5 _ ⟨_, _, _, _, HP6.out.1⟩).mono ?_
 rintro e w6 ⟨rfl, hw6, ht6⟩
 have HW6 := Lib.hid hw6
 have HT7 := Lib.hid (HT6.out.trans ht6)
 clear hw6 ht6
 go_wp2
 exact bodyPost_end (results_none rfl _ _ _) rfl ⟨rfl, rv5, by rw [HEQ.out]; exact HW6.out, HT7.out⟩

set_option maxRecDepth 100000 in
theorem afails_one (s : WS) (c : Int) (K : Nat) (rv sv nv wv cv : Value) (W : World) (hp : WKp W K s rv sv nv wv cv) (hl : s.rs.length + 5 ≤ 2000) (y : CmdS) (hns : s.a.ns = [y]) (b0 o0 cc : Nat) (hnv : nv = .slice (some ⟨b0, o0, none⟩) 1 cc) :
  Calls Tryz.prog 59 #[.pointer (some ⟨K, 0, none⟩), .int .i64 c] W fun x w' => x = .returned (.tuple #[]) ∧ ∃ rv', WK w' K (failsX s c) rv' ∧ Turn K rv rv' W w' := by
 subst hnv
 have HEQ : Hid (failsX s c = happX { tellX (tellX (lineX s [] []) 4 [y.id]) 3 (idsX s.a.ws) with a := { (tellX (tellX (lineX s [] []) 4 [y.id]) 3 (idsX s.a.ws)).a with cau := c } } 11) := Lib.hid (by unfold failsX; rw [hns]; rfl)
 have HNS := Lib.hid hns
 obtain ⟨m, hm⟩ : ∃ m, s.a.ws.length = m := ⟨_, rfl⟩
 have HM := Lib.hid hm
 have hm4 : m ≤ 4 := by have := lineB_yes hp.inv.line; omega
 clear hns hm
 have HP := Lib.hid hp
 have HL := Lib.hid hl
 have HC := Lib.hid (hp.inv)
 have c_nv := hp.cell 14 _ rfl
 have c_wv := hp.cell 15 _ rfl
 have lK := hp.lt
 have fK := hp.froz
 clear hp hl
 go_enter Tryz.func59, Tryz.ntmps59
 go_wp2_with fail
 refine (lclear_at s.a.ns s.a.ws _ 0 _ HP.out.ln).mono ?_
 rintro e w1 ⟨v, i, rfl, hl1, hi1, hb1⟩
 obtain ⟨A1, d1, A2, d2, rfl⟩ := hl1.slices
 rw [clearR_all HC.out.line, HNS.out] at hi1
 have HP1 := Lib.hid (HP.out.below hb1)
 have HB1 := Lib.hid hb1
 have HL1 := Lib.hid hl1
 obtain ⟨I, ci, rfl, hci1, hci2, hci3⟩ := hi1.form
 have HI1 := Lib.hid hi1
 have hle : ([y] ++ s.a.ws).length = m + 1 := by simp [HM.out]; try omega
 rw [hle] at hci1 hci3
 rw [hle]
 clear hle
 have HI3 := Lib.hid hci3
 clear c_nv c_wv lK fK hl1 hi1 hb1 hci3
 simp only [List.length_nil]
 go_upto_region 2 with (fail)
 refine wp_name fun W2 hW2 => ?_
 obtain ⟨B, hB⟩ : ∃ B, B = w1.heap.size := ⟨_, rfl⟩
 have hbel : Below w1.heap.size w1 W2 := by rw [hW2.out]; exact belowBy
 have hlB : B < W2.heap.size := by rw [hW2.out, hB]; simp
 have c0 : W2.cell? ⟨B, 0, none⟩ = some (.slice A1 0 d1) := by rw [hW2.out, hB]; go_simp
 have c1 : W2.cell? ⟨B, 1, none⟩ = some (.slice A2 0 d2) := by rw [hW2.out, hB]; go_simp
 have HB2 := Lib.hid hbel
 have HP2 := Lib.hid (HP1.out.below hbel)
 have HT2 : Hid (Turn K rv rv W W2) := Lib.hid ((Turn.of_below HB1.out).trans (Turn.of_below hbel))
 have hp2 := HP2.out
 have c_nv := hp2.cell 14 _ rfl
 have c_wv := hp2.cell 15 _ rfl
 have lK := hp2.lt
 have fK := hp2.froz
 (try rw [← hB])
 (try simp only [Act.put])
 clear hW2 hbel hB hp2
 go_upto_region 3 with (fail)
 refine wp_name fun W3 hW3 => ?_
 have hln : LineV W2 0 [] [] (.agg #[.slice A1 0 d1, .slice A2 0 d2]) := (HL1.out.below HB2.out).base0 (Nat.zero_le _)
 have han := ApW.new_line HP.out HL1.out (Nat.le_refl _)
 have hf := HP2.out.putN [(14, .slice A1 0 d1), (15, .slice A2 0 d2)] (lineX s [] []) rfl HP2.out.sm hln HP2.out.a1 han.1 han.2 rfl HP.out.inv.empty rfl
 have HP3 : Hid (WKp W3 K (lineX s [] []) rv sv (.slice A1 0 d1) (.slice A2 0 d2) cv ∧ Turn K rv rv W2 W3) := Lib.hid (by rw [hW3.out]; exact hf)
 have HT3 := Lib.hid (HT2.out.trans HP3.out.2)
 have HAI : Hid (ApV K rv (.slice I (m + 1) ci)) := Lib.hid (by
  have h1 := ApV.new_own HP.out HI1.out (Nat.le_refl _)
  rwa [show ([y] ++ s.a.ws).length = m + 1 by simp [HM.out]; try omega] at h1)
 have HIS : Hid (SmV W3 (y.id :: idsX s.a.ws) (.slice I (m + 1) ci)) := Lib.hid (by
  have h1 := HI1.out.sm
  rw [show ([y] ++ s.a.ws).length = m + 1 by simp [HM.out]; try omega] at h1
  exact (h1.below HB2.out).turn HP3.out.2 HAI.out)
 obtain ⟨bi, oi, ci', ei, -, -, hbi, hcell⟩ := HIS.out.at (by simp)
 injection ei with ei1 ei2 ei3
 subst ei1 ei3
 have HCE := Lib.hid hcell
 have g0 := hcell 0 (by simp)
 simp only [List.getElem?_cons_zero, Option.getD_some, Nat.add_zero] at g0
 have hm1 : (0 : Int) < (m : Int) + 1 := by omega
 have HAB : Hid (bi ≠ K ∧ rv.ownBlock ≠ some bi) := Lib.hid (HAI.out bi oi (m + 1) ci (by omega) rfl)
 have HBI : Hid (bi < W3.heap.size) := Lib.hid hbi
 have lK3 := HP3.out.1.lt
 clear hf hW3 hln han c0 c1 hlB c_nv c_wv lK fK ei2 hcell hbi
 by_cases hc1 : ci = 1
 ·subst hc1
  have HM0 : Hid (m = 0) := Lib.hid (by omega)
  go_wp2_with fail
  refine (atell_at (lineX s [] []) 4 [y.id] _ K rv _ ⟨_, _, _, _, HP3.out.1.below (below_new (Below.refl _ _) (Nat.le_refl _) _)⟩ SmV.one (ApV.new_row HP3.out.1 (Nat.le_refl _) _ _) (by have := HL.out; show s.rs.length + 1 ≤ 2000; omega)).mono ?_
  rintro e w4 ⟨rfl, rv4, ⟨sv4, nv4, wv4, cv4, hp4⟩, ht4⟩
  have HP4 := Lib.hid hp4
  have HT4 : Hid (Turn K rv rv4 W3 w4) := Lib.hid ((Turn.of_below (below_new (Below.refl _ _) (Nat.le_refl _) _)).trans ht4)
  have HAB4 : Hid (bi ≠ K ∧ rv4.ownBlock ≠ some bi) := Lib.hid ⟨HAB.out.1, fun e => by
   rcases HT4.out.own bi e with h1 | h1
   ·exact HAB.out.2 h1
   ·have := HBI.out
    omega⟩
  clear hp4 ht4
  go_wp2_with fail
  refine (atell_at (tellX (lineX s [] []) 4 [y.id]) 3 (idsX s.a.ws) _ K rv4 _ ⟨_, _, _, _, HP4.out⟩ (by
   have hw0 : s.a.ws = [] := List.eq_nil_of_length_eq_zero (by rw [HM.out, HM0.out])
   rw [hw0]
   exact ⟨_, _, rfl, Nat.zero_le _, by omega, Lies.empty⟩) (by
   intro b o n c' hn e
   injection e with e1 e2 e3
   omega) (by have := HL.out; simp [tellX, lineX, idsX, HM.out]; omega)).mono ?_
  rintro e w5 ⟨rfl, rv5, ⟨sv5, nv5, wv5, cv5, hp5⟩, ht5⟩
  have HP5 := Lib.hid hp5
  have HT5 := Lib.hid ((HT3.out.trans HT4.out).trans ht5)
  have c_cau := hp5.cell 24 _ rfl
  have lK := hp5.lt
  have fK := hp5.froz
  clear hp5 ht5
  go_upto_region 8 with (fail)
  refine wp_name fun W6 hW6 => ?_
  have hf := HP5.out.put0 [(24, .int .i64 c)] { tellX (tellX (lineX s [] []) 4 [y.id]) 3 (idsX s.a.ws) with a := { (tellX (tellX (lineX s [] []) 4 [y.id]) 3 (idsX s.a.ws)).a with cau := c } } rfl rfl rfl rfl rfl (HP5.out.inv.cau c) rfl
  have HP6 : Hid (WKp W6 K { tellX (tellX (lineX s [] []) 4 [y.id]) 3 (idsX s.a.ws) with a := { (tellX (tellX (lineX s [] []) 4 [y.id]) 3 (idsX s.a.ws)).a with cau := c } } rv5 sv5 nv5 wv5 cv5 ∧ Turn K rv5 rv5 w5 W6) := Lib.hid (by rw [hW6.out]; exact hf)
  have HT6 := Lib.hid (HT5.out.trans HP6.out.2)
  clear hf hW6 c_cau lK fK
  go_wp2_with fail
  refine (ahapp_at _ 11 K rv5 _ ⟨_, _, _, _, HP6.out.1⟩).mono ?_
  rintro e w6 ⟨rfl, hw6, ht6⟩
  have HW6 := Lib.hid hw6
  have HT7 := Lib.hid (HT6.out.trans ht6)
  clear hw6 ht6
  go_wp2
  exact bodyPost_end (results_none rfl _ _ _) rfl ⟨rfl, rv5, by rw [HEQ.out]; exact HW6.out, HT7.out⟩
 ·have hm1' : (1 : Int) ≤ (m : Int) + 1 := by omega
  go_wp2_with fail
  refine (atell_at (lineX s [] []) 4 [y.id] _ K rv _ ⟨_, _, _, _, HP3.out.1.below (below_new (Below.refl _ _) (Nat.le_refl _) _)⟩ SmV.one (ApV.new_row HP3.out.1 (Nat.le_refl _) _ _) (by have := HL.out; show s.rs.length + 1 ≤ 2000; omega)).mono ?_
  rintro e w4 ⟨rfl, rv4, ⟨sv4, nv4, wv4, cv4, hp4⟩, ht4⟩
  have HP4 := Lib.hid hp4
  have HT4 : Hid (Turn K rv rv4 W3 w4) := Lib.hid ((Turn.of_below (below_new (Below.refl _ _) (Nat.le_refl _) _)).trans ht4)
  have HAB4 : Hid (bi ≠ K ∧ rv4.ownBlock ≠ some bi) := Lib.hid ⟨HAB.out.1, fun e => by
   rcases HT4.out.own bi e with h1 | h1
   ·exact HAB.out.2 h1
   ·have := HBI.out
    omega⟩
  clear hp4 ht4
  go_wp2_with fail
  refine (atell_at (tellX (lineX s [] []) 4 [y.id]) 3 (idsX s.a.ws) _ K rv4 _ ⟨_, _, _, _, HP4.out⟩ (by
   refine ⟨some ⟨bi, oi + 1, none⟩, ci - 1, by simp [idsX, HM.out], by simp [idsX, HM.out]; omega, by omega, by simp [intsC], fun hn => ⟨bi, oi + 1, rfl, Nat.lt_of_lt_of_le HBI.out HT4.out.buts.size, fun j u hu => ?_⟩⟩
   have hj : j < m := by
    have := (List.getElem?_eq_some_iff.1 hu).1
    simpa [intsC, idsX, HM.out] using this
   have h1 := HCE.out (j + 1) (by simp [idsX, HM.out]; omega)
   rw [show oi + 1 + j = oi + (j + 1) by omega]
   refine ((HT4.out.buts.cell bi _ HBI.out (fun hq => hq.elim HAB.out.1 HAB.out.2)).trans h1).trans ?_
   rw [← hu]
   simp only [List.getElem?_cons_succ, intsC, List.getElem?_map, idsX]
   have hj2 : j < s.a.ws.length := by rw [HM.out]; exact hj
   rw [List.getElem?_eq_getElem hj2]
   rfl) (by
   intro b o n c' hn e
   injection e with e
   injection e with e
   injection e with e
   subst e
   exact HAB4.out) (by have := HL.out; simp [tellX, lineX, idsX, HM.out]; omega)).mono ?_
  rintro e w5 ⟨rfl, rv5, ⟨sv5, nv5, wv5, cv5, hp5⟩, ht5⟩
  have HP5 := Lib.hid hp5
  have HT5 := Lib.hid ((HT3.out.trans HT4.out).trans ht5)
  have c_cau := hp5.cell 24 _ rfl
  have lK := hp5.lt
  have fK := hp5.froz
  clear hp5 ht5
  go_upto_region 8 with (fail)
  refine wp_name fun W6 hW6 => ?_
  have hf := HP5.out.put0 [(24, .int .i64 c)] { tellX (tellX (lineX s [] []) 4 [y.id]) 3 (idsX s.a.ws) with a := { (tellX (tellX (lineX s [] []) 4 [y.id]) 3 (idsX s.a.ws)).a with cau := c } } rfl rfl rfl rfl rfl (HP5.out.inv.cau c) rfl
  have HP6 : Hid (WKp W6 K { tellX (tellX (lineX s [] []) 4 [y.id]) 3 (idsX s.a.ws) with a := { (tellX (tellX (lineX s [] []) 4 [y.id]) 3 (idsX s.a.ws)).a with cau := c } } rv5 sv5 nv5 wv5 cv5 ∧ Turn K rv5 rv5 w5 W6) := Lib.hid (by rw [hW6.out]; exact hf)
  have HT6 := Lib.hid (HT5.out.trans HP6.out.2)
  clear hf hW6 c_cau lK fK
  go_wp2_with fail
  refine (ahapp_at _ 11 K rv5 _ ⟨_, _, _, _, HP6.out.1⟩).mono ?_
  rintro e w6 ⟨rfl, hw6, ht6⟩
  have HW6 := Lib.hid hw6
  have HT7 := Lib.hid (HT6.out.trans ht6)
  clear hw6 ht6
  go_wp2
  exact bodyPost_end (results_none rfl _ _ _) rfl ⟨rfl, rv5, by rw [HEQ.out]; exact HW6.out, HT7.out⟩

theorem afails_at (s : WS) (c : Int) (K : Nat) (rv : Value) (W : World) (h : WK W K s rv) (hl : s.rs.length + 5 ≤ 2000) :
  Calls Tryz.prog 59 #[.pointer (some ⟨K, 0, none⟩), .int .i64 c] W fun x w' => x = .returned (.tuple #[]) ∧ ∃ rv', WK w' K (failsX s c) rv' ∧ Turn K rv rv' W w' := by
 obtain ⟨sv, nv, wv, cv, hp⟩ := h
 rcases hp.now with ⟨hn, hw, A, cc, hnv, -⟩ | ⟨y, b, o, cc, hn, hnv, -⟩
 ·exact afails_none s c K rv sv nv wv cv W hp hl hn hw A cc hnv
 ·exact afails_one s c K rv sv nv wv cv W hp hl y hn b o cc hnv

end Go.Proofs.YthhfnageadckkaaGreat
