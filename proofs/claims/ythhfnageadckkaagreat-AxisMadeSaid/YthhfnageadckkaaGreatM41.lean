/- Merged: Layer 15: a cycle of an axis: how many reports there are; what a part leaves as it was. Layer 15: a cycle of an axis, by the walk. The plain axis: a right axis stays right; its state goes by one edge, or stays. No program in sight. -/
import Derived.Test.YthhfnageadckkaaGreatM25
import Derived.Test.YthhfnageadckkaaGreatM27
import Derived.Test.YthhfnageadckkaaGreatAxO1
import Derived.Test.YthhfnageadckkaaGreatAxQ3
import Derived.Test.YthhfnageadckkaaGreatM40
import Derived.Test.YthhfnageadckkaaGreatM18
import Derived.Test.YthhfnageadckkaaGreatM06
set_option linter.unusedVariables false
set_option linter.unusedSimpArgs false
namespace Go.Proofs.YthhfnageadckkaaGreat
open Go.RowKit

theorem takes_append (l : List CmdS) (c : CmdS) : ∀ s : WS, takesX s (l ++ [c]) = takeX (takesX s l) c := by
 induction l with
 | nil => exact fun s => rfl
 | cons x l ih => exact fun s => ih (takeX s x)
section
variable {s : WS}
theorem starts_len (c : CmdS) : (startsX s c).rs.length = s.rs.length + 1 := by
 unfold startsX
 dsimp only
 repeat' split
 all_goals simp [happX, tellX]
theorem take_len (h : AxI s.a) (c : CmdS) : (takeX s c).rs.length ≤ s.rs.length + 7 := by
 unfold takeX
 dsimp only
 split
 ·simp [tellX]
 ·split
  ·simp [tellX]
  ·have hi := add_ids_len h.line (fitsC s.a c).c
   split
   ·rw [starts_len]
    simp [tellX, lineX, idsX]
    omega
   ·simp [tellX, lineX, idsX]
    omega
theorem begins_len (h : AxI s.a) : (beginsX s).rs.length ≤ s.rs.length + 5 := by
 obtain ⟨l1, l2, -, -⟩ := lineB_yes h.line
 unfold beginsX
 dsimp only
 split
 ·unfold failsX
  cases hn : s.a.ns with
  | nil =>
   simp [happX, tellX, lineX, idsX]
   omega
  | cons x l =>
   rw [hn] at l1
   simp at l1
   simp [happX, tellX, lineX, idsX, l1]
   omega
 ·split
  ·split
   ·simp [happX]
   ·omega
  ·split
   ·simp [offX, happX, placedX, tellX, lineX, idsX]
    omega
   ·split
    ·unfold onX
     dsimp only
     split
     ·omega
     ·split
      ·split
       ·simp [happX, placedX]
       ·omega
      ·split
       ·omega
       ·split
        ·simp [happX, placedX]
        ·omega
    ·omega
end
theorem takes_len (cs : List CmdS) : ∀ s : WS, AxI s.a → InW s.i → (∀ c ∈ cs, CmdW c) → (takesX s cs).rs.length ≤ s.rs.length + 7 * cs.length := by
 induction cs with
 | nil => exact fun s _ _ _ => by simp [takesX]
 | cons c l ih =>
  intro s h hi hc
  have h1 := take_len h c
  have h2 := ih (takeX s c) (inv_take h hi (hc c (by simp))) (by rw [take_i]; exact hi) (fun x hx => hc x (by simp [hx]))
  show (takesX (takeX s c) l).rs.length ≤ _
  rw [List.length_cons]
  omega
theorem done_i (s : WS) (e : Int) : (doneX s e).i = s.i := by
 unfold doneX
 dsimp only
 split
 ·exact starts_i _ _
 ·rfl
theorem ends_i (s : WS) (p : Bool) : (endsX s p).i = s.i := by
 unfold endsX homedX
 dsimp only
 repeat' split
 all_goals first | rfl | exact done_i _ _ | exact fails_i _ _
theorem Turn.down {K D : Nat} {rv rv' : Value} {W W' : World} (h : Turn K rv rv' W W') (hK : D ≤ K) (hr : ∀ b, rv.ownBlock = some b → D ≤ b) (hs : D ≤ W.heap.size) : Below D W W' ∧ (∀ b, rv'.ownBlock = some b → D ≤ b) := by
 refine ⟨h.buts.below D (fun b hb => ?_) hs, fun b hb => ?_⟩
 ·rcases hb with hb | hb
  ·omega
  ·exact hr b hb
 ·rcases h.own b hb with hb | hb
  ·exact hr b hb
  ·omega
theorem own_up {w : World} {D size n : Nat} {e : TypeId} {v : Value} {xs : List Value} (h : w.ownsRow 0 e size v n xs) (hb : ∀ b, v.ownBlock = some b → D ≤ b) : w.ownsRow D e size v n xs := by
 obtain ⟨h1, h2⟩ := h
 refine ⟨h1, ?_⟩
 rcases h2 with h2 | ⟨g, cap, cur, hv, hg, hh, r⟩
 ·exact .inl h2
 ·exact .inr ⟨g, cap, cur, hv, hb g (by rw [hv]; rfl), hh, r⟩
theorem Buts.setRow {g : Nat} {w w' : World} (h : Buts (fun b => b = g) w w') (cs : Array Value) : Buts (fun b => b = g) w (w'.setRow g cs) :=
 ⟨by rw [size_setRow]; exact h.size, fun b hb hn => (setRow_other w' g b cs hn).trans (h.blk b hb hn), fun B hB hs => below_setRow (h.below B hB hs) (hB g rfl) cs⟩

end Go.Proofs.YthhfnageadckkaaGreat

namespace Go.Proofs.YthhfnageadckkaaGreat
open Go.RowKit
attribute [local go_sem] ite_max ite_min vite_max vite_min ext_cell ext_frozen

theorem heap_alloc3 (w : World) (x y z : Obj) : (((w.alloc x).alloc y).alloc z).heap[w.heap.size]? = some x ∧ (((w.alloc x).alloc y).alloc z).heap[w.heap.size + 1]? = some y := by
 have h1 : ((w.alloc x).alloc y).heap.size = w.heap.size + 2 := by simp
 have b := below_new (Below.refl ((w.alloc x).alloc y).heap.size ((w.alloc x).alloc y)) (Nat.le_refl _) z
 exact ⟨(b.block _ (by omega)).trans (heap_alloc2_old w x y), (b.block _ (by omega)).trans (heap_alloc_atX (by simp))⟩

set_option maxRecDepth 100000 in
set_option maxHeartbeats 16000000 in
theorem astep_at (a : AX) (i : INS) (cs : List CmdS) (sv nv wv cv : Value) (w : World) (hs : SmV w a.sm sv) (hl : LineV w 0 a.ns a.ws (.agg #[nv, wv])) (hc : ReadC w cs.length (cmdsC cs) 0 cv) (hn : cs.length ≤ 20)
  (hp : -9223372036854775808 ≤ a.g.p ∧ a.g.p ≤ 9223372036854775807) (h1 : a.sm.length ≤ 400) (h2 : a.ns.length ≤ 400) (h3 : a.ws.length ≤ 400) (hcw : ∀ c ∈ a.ns ++ a.ws, CmdW c) (hcc : ∀ c ∈ cs, CmdW c) (hst : I64 a.sta) (hm : I64 a.mas) (hi : InW i) (hd : i.d = w.heap.size + 3) :
  Calls Tryz.prog 12 #[.agg #[.int .i64 a.st, .int .i64 a.l.v, .int .i64 a.l.a, .int .i64 a.l.d, .int .i64 a.l.lo, .int .i64 a.l.hi, .int .i64 a.win, .int .i64 a.hat, .int .i64 a.fast, .int .i64 a.creep, .int .i64 a.g.p, .int .i64 a.g.v, sv, .int .i64 a.off, nv, wv, .bool a.hd, .int .i64 a.h.p, .int .i64 a.h.f, .int .i64 a.h.c, .bool a.h.t, .int .i64 a.ov, .int .i64 a.sta, .int .i64 a.mas, .int .i64 a.cau, .bool a.ins], .agg (inC i cv).toArray] w fun e w' => ∃ sv' nv' wv' rv', e = .returned (.tuple #[.agg (axC (stepX a i cs).1 sv' nv' wv').toArray, rv']) ∧ SmV w' (stepX a i cs).1.sm sv' ∧ LineV w' 0 (stepX a i cs).1.ns (stepX a i cs).1.ws (.agg #[nv', wv']) ∧ w'.ownsRow w.heap.size 48 2 rv' (stepX a i cs).2.length (repC (stepX a i cs).2) ∧ Below w.heap.size w w' ∧ NewV w.heap.size sv' ∧ NewV w.heap.size nv' ∧ NewV w.heap.size wv' := by
 have HCO : Hid (∀ W, Below w.heap.size w W → Calls Tryz.prog 30 #[.agg (axC a sv nv wv).toArray] W fun e w' => ∃ sv' nv' wv', e = .returned (.agg (axC a sv' nv' wv').toArray) ∧ SmV w' a.sm sv' ∧ LineV w' W.heap.size a.ns a.ws (.agg #[nv', wv']) ∧ NewV W.heap.size sv' ∧ Below W.heap.size W w') := Lib.hid (fun W hb => acopied_at a sv nv wv W (hs.below hb) (hl.below hb) h1 h2 h3)
 obtain ⟨r, hr⟩ : ∃ r, rightX a = r := ⟨_, rfl⟩
 have HRI : Hid (∀ W, Below w.heap.size w W → Calls Tryz.prog 11 #[.agg (axC a sv nv wv).toArray] W fun e w' => e = .returned (.bool r) ∧ Below W.heap.size W w') := Lib.hid (fun W hb => aright_at a sv nv wv r W (hs.below hb) (hl.below hb) hp hr)
 clear h1 h2 h3
 go_enter Tryz.func12, Tryz.ntmps12
 go_upto_region 1 with (fail)
 refine wp_name fun W hW => ?_
 obtain ⟨B, hB⟩ : ∃ B, B = w.heap.size := ⟨_, rfl⟩
 obtain ⟨L, hL⟩ := axL_some a sv nv wv
 obtain ⟨M, hM⟩ := inL_some i cv
 have HL := Lib.hid hL
 have HM := Lib.hid hM
 rw [← hL.eq] at HCO HRI
 have HB : Hid (Below w.heap.size w W) := by rw [hW.out]; exact Lib.hid (by exact belowBy)
 have hsz : W.heap.size = B + 3 := by rw [hW.out, hB]; simp
 have HKA : Hid (W.heap[B]? = some (.cells L.toArray 35)) := by
  rw [hW.out, hB, hL.eq]
  exact Lib.hid (heap_alloc3 w _ _ _).1
 have HKI : Hid (W.heap[B + 1]? = some (.cells M.toArray 44)) := by
  rw [hW.out, hB, hM.eq]
  exact Lib.hid (heap_alloc3 w _ _ _).2
 have HKR : Hid (∃ zs : Array Value, W.heap[B + 2]? = some (.cells zs 35) ∧ zs.size = 26) := by
  rw [hW.out, hB]
  exact Lib.hid ⟨_, heap_alloc_atX (by simp), rfl⟩
 have HBw := Lib.hid hB
 (try rw [← hB])
 clear hW hB hL hM
 have HRA : Hid (∀ W', Below W.heap.size W W' → W'.rangeAt B 0 L) := Lib.hid (fun W' hb j u hu => by
  rw [Nat.zero_add]
  exact heap_cell j u ((hb.block B (by omega)).trans HKA.out) (by rw [List.getElem?_toArray]; exact hu))
 have HRM : Hid (∀ W', Below W.heap.size W W' → W'.rangeAt (B + 1) 0 M) := Lib.hid (fun W' hb j u hu => by
  rw [Nat.zero_add]
  exact heap_cell j u ((hb.block (B + 1) (by omega)).trans HKI.out) (by rw [List.getElem?_toArray]; exact hu))
 refine wp_region_held_drew (S := fun w' => Below W.heap.size W w') (by kernel_rfl) ?_ (fun hHeld => ?_)
 ·exact (Below.refl _ _).drew
 (refine takeH (i := 0) (v := .agg L.toArray) rfl (by kernel_rfl) (by kernel_rfl) (by kernel_rfl) (fun _ _ _ h => h) (yieldsIf_load_mid (by kernel_rfl) 35 _ rfl B 0 rfl L _ (fun _ hb => HRA.out _ hb) Tryz.underlying35 rfl HL.out.size) (by assumption) ?_)
 (refine takeH (i := 2) (v := .agg M.toArray) rfl (by kernel_rfl) (by kernel_rfl) (by kernel_rfl) (fun _ _ _ h => h) (yieldsIf_load_mid (by kernel_rfl) 44 _ rfl (B + 1) 0 rfl M _ (fun _ hb => HRM.out _ hb) Tryz.underlying44 rfl HM.out.size) (by assumption) ?_; (try simp only [ly]))
 refine oneH (i := 1) (by kernel_rfl) rfl (fun Kc hK => ?_)
 go_simp
 go_at_call 30; refine (HCO.out _ (HB.out.trans (hHeld.mono HB.out.size))).mono ?_; rintro e w7 ⟨sv', nv', wv', rfl, hsm, hln, hnv, hb7⟩; (have HB7 := Lib.hid (hHeld.trans (hb7.mono hHeld.size))); clear hb7 hHeld
 go_wp2_with fail
 refine hK.out _ _ (HB7.out) (fun hHeld => ?_)
 clear hK Kc
 (try simp only [ly])
 (refine takeH (i := 3) (v := .agg (wkC ⟨a, i, [], false⟩ sv' nv' wv' cv (.slice none 0 0)).toArray) rfl (by kernel_rfl) (by kernel_rfl) (by kernel_rfl) (fun _ _ _ h => h) (Or.inl ⟨by first | kernel_rfl | rfl, ?_⟩) (by assumption) ?_; (focus (intro w' hSw; rw [HM.out.eq]; (show Sem.run _ _ w' = _); simp only [axC, inC, wkC]; go_simp; try rfl)); (try simp only [ly]))
 refine oneH (i := 4) (by kernel_rfl) rfl (fun Kc hK => ?_)
 go_simp
 refine hK.out _ _ ?_ (fun hHeld => ?_)
 ·exact below_new hHeld (Nat.le_refl _) _
 clear hK Kc
 (try simp only [ly])
 refine tT 5 ?_ rfl ?_ ?_; rotate_left; (focus intros; go_simp; try rfl); (try simp only [ly])
 refine wpAnyH_done (by kernel_rfl) ?_ _
 (try simp only [ly])
 obtain ⟨K, hK⟩ : ∃ K, K = w7.heap.size := ⟨_, rfl⟩
 obtain ⟨W8, hW8⟩ : ∃ X, X = w7.alloc (.cells (wkC ⟨a, i, [], false⟩ sv' nv' wv' cv (.slice none 0 0)).toArray 72) := ⟨_, rfl⟩
 rw [← hW8] at hHeld ⊢
 rw [← hK]
 have hb8 : Below w7.heap.size w7 W8 := by rw [hW8]; exact below_new (Below.refl _ _) (Nat.le_refl _) _
 have HK8 : Hid (W8.heap[K]? = some (.cells (wkC ⟨a, i, [], false⟩ sv' nv' wv' cv (.slice none 0 0)).toArray 72)) := by
  rw [hW8, hK]; exact Lib.hid (heap_alloc_new _ _)
 have HSM := Lib.hid (hsm.below hb8)
 have HLN := Lib.hid (hln.below hb8)
 have HNV := Lib.hid hnv
 have HB8 := Lib.hid (HB.out.trans (hHeld.mono HB.out.size))
 have HKA8 := Lib.hid ((hHeld.block B (by omega)).trans HKA.out)
 have HKI8 := Lib.hid ((hHeld.block (B + 1) (by omega)).trans HKI.out)
 have HKR8 : Hid (∃ zs : Array Value, W8.heap[B + 2]? = some (.cells zs 35) ∧ zs.size = 26) := by
  obtain ⟨zs, z1, z2⟩ := HKR.out
  exact Lib.hid ⟨zs, (hHeld.block (B + 2) (by omega)).trans z1, z2⟩
 have hKB : B + 3 ≤ K := by
  have := HB7.out.size
  omega
 have HHH := Lib.hid hHeld
 have HDD : Hid (i.d = B + 3) := by rw [HBw.out]; exact Lib.hid hd
 clear hd
 have HAP : Hid (ApW (B + 3) K (.slice none 0 0) sv' ∧ ApW (B + 3) K (.slice none 0 0) nv' ∧ ApW (B + 3) K (.slice none 0 0) wv') := by
  have hWd : W.drew.heap.size = B + 3 := hsz
  obtain ⟨r1, r2⟩ := LineV.parts hln
  refine Lib.hid ⟨⟨fun b o n c h e => ⟨?_, by simp [Value.ownBlock]⟩, fun b o n c h e => by have := hnv b o n c h e; omega⟩, ⟨fun b o n c h e => ⟨?_, by simp [Value.ownBlock]⟩, fun b o n c h e => ?_⟩, ⟨fun b o n c h e => ⟨?_, by simp [Value.ownBlock]⟩, fun b o n c h e => ?_⟩⟩
  ·have := hsm.blk b o n c h e
   omega
  ·have := ReadC.blk r1 b o n c h e
   omega
  ·obtain ⟨A1, c1, e1, -, -, -, q⟩ := r1
   rw [e1] at e
   injection e with e1' e2' e3'
   have := q b o (by omega) e1'
   omega
  ·have := ReadC.blk r2 b o n c h e
   omega
  ·obtain ⟨A1, c1, e1, -, -, -, q⟩ := r2
   rw [e1] at e
   injection e with e1' e2' e3'
   have := q b o (by omega) e1'
   omega
 clear hW8 hK hb8 hsm hln hnv hHeld
 go_wp2_with (first
  | refine wpList_load_row rfl 35 _ rfl B rfl 35 L.toArray (0, 0) _ HKA8.out Tryz.underlying35 rfl HL.out.size ?_)
 refine (HRI.out _ HB8.out).mono ?_
 rintro e w9 ⟨rfl, hb9⟩
 obtain ⟨L2, hL2⟩ := axL_some a sv' nv' wv'
 have HL2 := Lib.hid hL2
 have HB9 := Lib.hid (HB8.out.trans (hb9.mono HB8.out.size))
 have hK8 : K < W8.heap.size := (Array.getElem?_eq_some_iff.1 HK8.out).1
 have HK9 := Lib.hid ((hb9.block K hK8).trans HK8.out)
 have HSM9 := Lib.hid (HSM.out.below hb9)
 have HLN9 := Lib.hid (HLN.out.below hb9)
 have HKI9 := Lib.hid ((hb9.block (B + 1) (by omega)).trans HKI8.out)
 have HKR9 : Hid (∃ zs : Array Value, w9.heap[B + 2]? = some (.cells zs 35) ∧ zs.size = 26) := by
  obtain ⟨zs, z1, z2⟩ := HKR8.out
  exact Lib.hid ⟨zs, (hb9.block (B + 2) (by omega)).trans z1, z2⟩
 clear hb9 hL2 HKA HKI HKR HRA HRM HKA8 HKI8 HKR8 HSM HLN HK8 HCO HRI
 cases r
 ·have HST : Hid (stepX a i cs = (a, [])) := Lib.hid (by unfold stepX; rw [hr]; rfl)
  have HRG : Hid (w9.rangeAt K 0 L2) := Lib.hid (fun j u hu => by
   rw [Nat.zero_add]
   refine heap_cell j u HK9.out ?_
   rw [List.getElem?_toArray]
   rw [HL2.out.eq] at hu
   have hj : j < (axC a sv' nv' wv').length := (List.getElem?_eq_some_iff.1 hu).1
   unfold wkC
   rw [List.append_assoc, List.getElem?_append_left hj]
   exact hu)
  obtain ⟨zs, z1, z2⟩ := HKR9.out
  have HZ1 := Lib.hid z1
  have HZ2 := Lib.hid z2
  have HONE : Hid (L2.toArray.all (·.oneCell') = true) := Lib.hid (axC_one HL2.out HSM9.out.one4 (LineV.one4 HLN9.out).1 (LineV.one4 HLN9.out).2)
  have HSZ : Hid (L2.toArray.size = 26) := Lib.hid (by rw [HL2.out.eq]; rfl)
  clear z1 z2 HKR9
  go_wp2_with (first
   | refine wpList_load_mid rfl 35 _ rfl K 0 rfl L2 _ HRG.out Tryz.underlying35 rfl HL2.out.size ?_
   | refine wpList_store_row rfl 35 _ _ rfl (B + 2) L2.toArray rfl rfl 35 _ HZ1.out (by rw [HSZ.out]; exact axis_size) (by rw [HSZ.out, HZ2.out]) HONE.out ?_)
  refine post_rowT rfl rfl (setRow_heap _ _ _ _ _ _ HZ1.out) Tryz.underlying35 rfl (by rw [HSZ.out]; exact axis_size) rfl ?_
  rw [HST.out]
  have hWd : W.drew.heap.size = B + 3 := hsz
  obtain ⟨r1, r2⟩ := LineV.parts HLN9.out
  rw [hWd] at r1 r2
  have hsr : SmR w9 a.sm (B + 3) sv' := ⟨HSM9.out, by rw [← hWd]; exact HNV.out⟩
  refine ⟨sv', nv', wv', _, by rw [HL2.out.eq]; rfl, hsr.row (by omega), ⟨_, _, rfl, (r1.row (by omega)).base0 (Nat.zero_le _), (r2.row (by omega)).base0 (Nat.zero_le _)⟩, World.ownsRow_nil _ _ _ _, ?_, ?_, ?_, ?_⟩
  ·exact below_setRow HB9.out (by have := HBw.out; omega) _
  ·intro b o n c h e
   have := HNV.out b o n c h e
   have := HBw.out
   omega
  ·intro b o n c h e
   obtain ⟨A1, c1, e1, -, -, -, q⟩ := r1
   rw [e1] at e
   injection e with e1' e2' e3'
   have := q b o (by omega) e1'
   have := HBw.out
   omega
  ·intro b o n c h e
   obtain ⟨A1, c1, e1, -, -, -, q⟩ := r2
   rw [e1] at e
   injection e with e1' e2' e3'
   have := q b o (by omega) e1'
   have := HBw.out
   omega
 ·have hA := rightX_axI hr hcw hst hm i
  have HST : Hid (stepX a i cs = ((cycX a i cs).a, (cycX a i cs).rs)) := Lib.hid (by unfold stepX; rw [hr]; rfl)
  have HAI := Lib.hid hA
  have HII := Lib.hid hi
  have c9 := heap_cell 9 (.int .i64 i.ov) HKI9.out (by rw [HM.out.eq]; rfl)
  have k21 := heap_cell 21 (.int .i64 a.ov) HK9.out rfl
  have fr := fun j => frozen_of_row w9 K j _ _ HK9.out
  clear hA hst hm hi hr hcw
  go_upto_region 5 with (fail)
  refine wp_name fun W10 hW10 => ?_
  have hWd : W.drew.heap.size = B + 3 := hsz
  have HBK : Hid (Buts (fun b => b = K) w9 W10) := by
   rw [hW10.out]
   exact Lib.hid (Buts.set (P := fun b => b = K) (Buts.refl _ _) (g := K) rfl _ _)
  have HWK : Hid (WK W10 K (startX a i) (.slice none 0 0)) := by
   obtain ⟨p1, p2, p3⟩ := HAP.out
   obtain ⟨r1, r2⟩ := LineV.parts HLN9.out
   refine Lib.hid ⟨sv', nv', wv', cv, ?_, HSM9.out.buts HBK.out (fun b o n c h e => (p1.1 b o n c h e).1), ⟨nv', wv', rfl, ?_, ?_⟩, by show ApW i.d K _ _; rw [HDD.out]; exact p1, by show i.d ≤ K; rw [HDD.out]; exact hKB, by show ApW i.d K _ _; rw [HDD.out]; exact p2, by show ApW i.d K _ _; rw [HDD.out]; exact p3, World.ownsRow_nil _ _ _ _, by simp [Value.ownBlock], HAI.out, HII.out, ?_⟩
   ·rw [hW10.out, heap_setCell_same w9 K 21 _ _ _ HK9.out, List.setIfInBounds_toArray]
    rfl
   ·exact (r1.buts HBK.out (fun b o n c h e => (p2.1 b o n c h e).1)).base0 (Nat.zero_le _)
   ·exact (r2.buts HBK.out (fun b o n c h e => (p3.1 b o n c h e).1)).base0 (Nat.zero_le _)
   ·obtain ⟨A, c, rfl, -⟩ := hc
    rfl
  have h9 : B + 3 ≤ w9.heap.size := by
   have h1 := (Array.getElem?_eq_some_iff.1 HK9.out).1
   omega
  have HDN : Hid (Below (B + 3) w9 W10 ∧ ∀ b, (Value.slice none 0 0).ownBlock = some b → B + 3 ≤ b) := Lib.hid ⟨HBK.out.below (B + 3) (fun b hb => by rw [hb]; exact hKB) h9, fun b hb => by simp [Value.ownBlock] at hb⟩
  obtain ⟨A, cap, hcv, hc1, hc2, hc3, -⟩ := hc
  obtain ⟨n, hnl⟩ : ∃ n, cs.length = n := ⟨_, rfl⟩
  have HNL := Lib.hid hnl
  have HCS : Hid (∀ w', Below (B + 3) w9 w' → Lies w' w'.heap.size 7 A cs.length (cmdsC cs)) := Lib.hid (fun w' hb => hc3.on (HB9.out.trans (hb.mono (by have := HBw.out; omega))))
  rw [hnl] at hcv hc1 hn
  have HCI : Hid (∀ w', Below (B + 3) w9 w' → w'.cell? ⟨B + 1, 11, none⟩ = some (.slice A n cap)) := Lib.hid (fun w' hb => by
   rw [← hcv]
   exact heap_cell 11 _ ((hb.block (B + 1) (by omega)).trans HKI9.out) (by rw [HM.out.eq]; rfl))
  have HKR : Hid (∀ w', Below (B + 3) w9 w' → ∃ zs : Array Value, w'.heap[B + 2]? = some (.cells zs 35) ∧ zs.size = 26) := Lib.hid (fun w' hb => by
   obtain ⟨zs, z1, z2⟩ := HKR9.out
   exact ⟨zs, (hb.block (B + 2) (by omega)).trans z1, z2⟩)
  have HCW := Lib.hid hcc
  clear hc3 hnl hcv hcc hW10 c9 k21 fr HKI9 HKR9 HK9 HSM9 HLN9 HAP HBK HM
  go_wp2_with fail
  refine (abegins_at (startX a i) K _ _ HWK.out (by show 0 + 5 ≤ 2000; omega)).mono ?_
  rintro e w11 ⟨rfl, rv1, hw11, ht11⟩
  obtain ⟨s1, hs1⟩ : ∃ x, beginsX (startX a i) = x := ⟨_, rfl⟩
  rw [hs1] at hw11
  have HS1 := Lib.hid hs1
  have HW11 := Lib.hid hw11
  have hdn := Turn.down (D := B + 3) ht11 hKB HDN.out.2 (by have := HDN.out.1.size; omega)
  have HDN11 : Hid (Below (B + 3) w9 w11 ∧ ∀ b, rv1.ownBlock = some b → B + 3 ≤ b) := Lib.hid ⟨HDN.out.1.trans hdn.1, hdn.2⟩
  have h11 : B + 3 ≤ w11.heap.size := by have := HDN11.out.1.size; omega
  have HLN : Hid (∀ k, (takesX s1 (cs.take k)).rs.length ≤ 5 + 7 * 20 ∧ AxI (takesX s1 (cs.take k)).a ∧ InW (takesX s1 (cs.take k)).i) := Lib.hid (fun k => by
   rw [← HS1.out]
   have hb := inv_begins HAI.out
   have hbi : InW (beginsX (startX a i)).i := by rw [begins_i]; exact HII.out
   have hcc : ∀ c ∈ cs.take k, CmdW c := fun c hc => HCW.out c (List.mem_of_mem_take hc)
   have h1 := begins_len HAI.out
   have h0 : (startX a i).rs.length = 0 := rfl
   have h2 := takes_len (cs.take k) _ hb hbi hcc
   have h3 : (cs.take k).length ≤ 20 := by rw [List.length_take, HNL.out]; omega
   exact ⟨by omega, inv_takes _ _ hb hbi hcc, by rw [takes_i]; exact hbi⟩)
  have c11 := HCI.out w11 HDN11.out.1
  clear ht11 hdn hw11 hs1 HWK HDN HAI HII
  go_wp2_with fail
  go_loopw [34] (fun u wr => ∃ (k : Nat) (rv' : Value), k ≤ n ∧ u = .int .i64 k ∧ Hid (WK wr K (takesX s1 (cs.take k)) rv') ∧ Hid (Below (B + 3) w9 wr ∧ ∀ b, rv'.ownBlock = some b → B + 3 ≤ b)) (fun u _ => n - (intOf u).toNat)
  case atStart => exact ⟨0, rv1, by omega, rfl, HW11, HDN11⟩
  case round =>
   obtain ⟨k, rv', hk, rfl, HW, HD⟩ := hrel
   by_cases hlt : k < n
   ·have hx := HCS.out wr HD.out.1
    obtain ⟨b, off, x, e, hb, hxk, hcell⟩ := hx.cmd k (by rw [HNL.out]; exact hlt)
    subst e
    have g0 := hcell 0 (by omega)
    have g1 := hcell 1 (by omega)
    have g2 := hcell 2 (by omega)
    have g3 := hcell 3 (by omega)
    have g4 := hcell 4 (by omega)
    have g5 := hcell 5 (by omega)
    have g6 := hcell 6 (by omega)
    have HX : Hid (takesX s1 (cs.take (k + 1)) = takeX (takesX s1 (cs.take k)) x ∧ CmdW x) := Lib.hid (by
     refine ⟨?_, HCW.out x (List.mem_of_getElem? hxk)⟩
     rw [List.take_add_one, hxk]
     exact takes_append _ _ _)
    obtain ⟨x0, x1, x2, x3, x4, x5, x6⟩ := x
    simp only [CmdS.cells, List.getElem?_cons_zero, List.getElem?_cons_succ, Nat.add_zero] at g0 g1 g2 g3 g4 g5 g6
    have hk0 : (0 : Int) ≤ (k : Int) := by omega
    have hkn : (k : Int) < (n : Int) := by omega
    have hll := (HLN.out k).1
    have HLL := Lib.hid hll
    clear hcell hxk hx hb hll
    go_wp2_with fail
    have hbn := below_new (Below.refl wr.heap.size wr) (Nat.le_refl _) (Obj.cells #[Value.int IntKind.i64 x0, Value.int IntKind.i64 x1, Value.int IntKind.i64 x2, Value.int IntKind.i64 x3, Value.int IntKind.i64 x4, Value.int IntKind.i64 x5, Value.int IntKind.i64 x6] 63)
    obtain ⟨wv8, nv8, sv8, cv8, hwb⟩ := HW.out
    refine (atake_at (takesX s1 (cs.take k)) ⟨x0, x1, x2, x3, x4, x5, x6⟩ K rv' _ ⟨_, _, _, _, hwb.below hbn⟩ HX.out.2 (by have := HLL.out; omega)).mono ?_
    rintro e w8 ⟨rfl, rv8, hw8, ht8⟩
    have hT : Turn K rv' rv8 wr w8 := (Turn.of_below hbn).trans ht8
    have hdn := Turn.down (D := B + 3) hT hKB HD.out.2 (by have := HD.out.1.size; omega)
    have HR : Hid (WK w8 K (takesX s1 (cs.take (k + 1))) rv8) := Lib.hid (by rw [HX.out.1]; exact hw8)
    have HDR : Hid (Below (B + 3) w9 w8 ∧ ∀ b, rv8.ownBlock = some b → B + 3 ≤ b) := Lib.hid ⟨HD.out.1.trans hdn.1, hdn.2⟩
    clear hw8 ht8 hT hdn hbn hwb g0 g1 g2 g3 g4 g5 g6
    go_wp2
    go_roundw
    case rel => exact ⟨k + 1, rv8, by omega, by go_num, HR, HDR⟩
    case measure => simp [intOf]; omega
   ·obtain rfl : n = k := by omega
    have htk : cs.take n = cs := List.take_of_length_le (by rw [HNL.out]; omega)
    have hl2 := HLN.out n
    rw [htk] at HW hl2
    obtain ⟨s2, hs2⟩ : ∃ x, takesX s1 cs = x := ⟨_, rfl⟩
    rw [hs2] at HW hl2
    have hEQ : cycX a i cs = endsX { s2 with a := (stepsX s2.a s2.i).a } (stepsX s2.a s2.i).passed := by
     have hi2 : s2.i = i := by rw [← hs2, takes_i, ← HS1.out, begins_i]; rfl
     have h0 : cycX a i cs = endsX { s2 with a := (stepsX s2.a i).a } (stepsX s2.a i).passed := by rw [← hs2, ← HS1.out]; rfl
     rw [h0, ← hi2]
    have HI2 : Hid (s2.i = i) := Lib.hid (by rw [← hs2, takes_i, ← HS1.out, begins_i]; rfl)
    have HEQ := Lib.hid hEQ
    have HL2 := Lib.hid hl2.1
    clear hEQ hl2 htk hs2 HS1 HLN HCS HCI HCW
    go_wp2_with fail
    refine (asteps_at s2 K rv' _ HW.out).mono ?_
    rintro e w12 ⟨rfl, hw12, ht12⟩
    have hdn := Turn.down (D := B + 3) ht12 hKB HD.out.2 (by have := HD.out.1.size; omega)
    have HD12 : Hid (Below (B + 3) w9 w12 ∧ ∀ b, rv'.ownBlock = some b → B + 3 ≤ b) := Lib.hid ⟨HD.out.1.trans hdn.1, hdn.2⟩
    obtain ⟨s3, hs3⟩ : ∃ x : WS, { s2 with a := (stepsX s2.a s2.i).a } = x := ⟨_, rfl⟩
    obtain ⟨pp, hpp⟩ : ∃ x, (stepsX s2.a s2.i).passed = x := ⟨_, rfl⟩
    rw [hs3] at hw12 HEQ
    rw [hpp] at HEQ ⊢
    have HL3 : Hid (s3.rs.length + 5 ≤ 2000) := Lib.hid (by rw [← hs3]; have := HL2.out; show s2.rs.length + 5 ≤ 2000; omega)
    have HI3 : Hid (s3.i = i) := Lib.hid (by rw [← hs3]; exact HI2.out)
    have HW12 := Lib.hid hw12
    clear hw12 ht12 hdn hs3 hpp HL2 HW HD
    go_wp2_with fail
    refine (aends_at s3 pp K rv' _ HW12.out HL3.out).mono ?_
    rintro e w13 ⟨rfl, rv9, hw13, ht13⟩
    have hdn := Turn.down (D := B + 3) ht13 hKB HD12.out.2 (by have := HD12.out.1.size; omega)
    have HD13 : Hid (Below (B + 3) w9 w13) := Lib.hid (HD12.out.1.trans hdn.1)
    obtain ⟨s4, hs4⟩ : ∃ x, endsX s3 pp = x := ⟨_, rfl⟩
    rw [hs4] at hw13 HEQ
    have HI4 : Hid (s4.i.d = B + 3) := Lib.hid (by rw [← hs4, ends_i, HI3.out, HDD.out])
    have HR9 := Lib.hid hdn.2
    have hst := HST.out
    rw [HEQ.out] at hst
    have HST4 := Lib.hid hst
    obtain ⟨sv9, nv9, wv9, cv9, hp9⟩ := hw13
    have HP9 := Lib.hid hp9
    obtain ⟨L9, hL9⟩ := axL_some s4.a sv9 nv9 wv9
    have HL9 := Lib.hid hL9
    have HRG : Hid (∀ w', Buts (fun b => b = B + 1 + 1) w13 w' → w'.rangeAt K 0 L9 ∧ w'.cell? ⟨K, 38, none⟩ = some rv9) := Lib.hid (fun w' hb => by
     have hk := hp9.lt
     refine ⟨fun j u hu => ?_, ?_⟩
     ·have h1 := hp9.range hL9 j u hu
      rw [Nat.zero_add] at h1 ⊢
      exact (hb.cell K j hk (by omega)).trans h1
     ·exact (hb.cell K 38 hk (by omega)).trans (hp9.cell 38 _ rfl))
    obtain ⟨zs, z1, z2⟩ := HKR.out w13 HD13.out
    have HZ1 := Lib.hid z1
    have HZ2 := Lib.hid z2
    have HONE : Hid (L9.toArray.all (·.oneCell') = true) := Lib.hid (hp9.one hL9)
    have HSZ : Hid (L9.toArray.size = 26) := Lib.hid (by rw [hL9.eq]; rfl)
    clear hp9 hL9 z1 z2 hst hs4 hdn ht13 HW12 HD12 HEQ HST HKR HL3
    go_wp2_with fail
    refine wp_region_held_drew (S := fun w' => Buts (fun b => b = B + 1 + 1) w13 w') (by kernel_rfl) ?_ (fun hHeld => ?_)
    ·exact (Buts.refl _ _).drew
    refine tT 0 ?_ rfl ?_ ?_; rotate_left; (focus intros; go_simp; try rfl)
    refine tT 1 ?_ rfl ?_ ?_; rotate_left; (focus intros; go_simp; try rfl)
    refine tT 2 ?_ rfl ?_ ?_; rotate_left; (focus intros; go_simp; try rfl); (try simp only [ly])
    (refine takeH (i := 3) (v := .agg L9.toArray) rfl (by kernel_rfl) (by kernel_rfl) (by kernel_rfl) (fun _ _ _ h => h) (yieldsIf_load_mid (by kernel_rfl) 35 _ rfl K 0 rfl L9 _ (fun _ hb => (HRG.out _ hb).1) Tryz.underlying35 rfl HL9.out.size) (by assumption) ?_)
    refine tT 4 ?_ rfl ?_ ?_; rotate_left; (focus intros; go_simp; try rfl)
    refine tT 5 ?_ rfl ?_ ?_; rotate_left; (focus intros; go_simp; try rfl); (try simp only [ly])
    refine tT 6 ?_ rfl ?_ ?_; rotate_left; (focus intros; go_simp; try rfl)
    (refine tT 7 ?_ rfl ?_ ?_; rotate_left; (focus (intro w' hSw; (try dsimp only at hSw); have g := (HRG.out _ hSw).2; go_simp; try (with_reducible rfl))); (try simp only [ly]))
    refine oneRow (i := 8) (by kernel_rfl) rfl (by kernel_rfl) 35 _ _ rfl (B + 1 + 1) L9.toArray rfl rfl _ _ HZ1.out (by rw [List.size_toArray]; exact HL9.out.size) (by rw [HSZ.out, HZ2.out]) HONE.out ?_ ?_
    ·exact hHeld.setRow _
    (try simp only [ly])
    have HBF := Lib.hid (hHeld.setRow L9.toArray)
    have hHeld : Buts (fun b => b = B + 1 + 1) w13 (w13.drew.setRow (B + 1 + 1) L9.toArray) := HBF.out
    refine tT 9 ?_ rfl ?_ ?_; rotate_left; (focus intros; go_simp; try rfl); (try simp only [ly])
    refine wpAnyH_done (by kernel_rfl) ?_ _
    (try simp only [ly])
    go_wp2
    refine post_rowT rfl rfl (setRow_heap _ _ _ _ _ _ HZ1.out) Tryz.underlying35 rfl (by rw [HSZ.out]; exact axis_size) rfl ?_
    rw [HST4.out]
    have hlow : ∀ v, ApW s4.i.d K rv9 v → ∀ b o n c, 0 < n → v = .slice (some ⟨b, o, none⟩) n c → ¬ b = B + 1 + 1 := fun v h b o n c hn e => by
     have h2 := h.2 b o n c hn e
     rw [HI4.out] at h2
     omega
    have hlo : ∀ v, ApW s4.i.d K rv9 v → NewV w.heap.size v := fun v h b o n c hn e => by
     have h2 := h.2 b o n c hn e
     have := HBw.out
     rw [HI4.out] at h2
     omega
    have hp := HP9.out
    obtain ⟨r1, r2⟩ := LineV.parts hp.ln
    refine ⟨sv9, nv9, wv9, rv9, by rw [HL9.out.eq]; rfl, hp.sm.buts HBF.out (hlow _ hp.a1), ⟨_, _, rfl, r1.buts HBF.out (hlow _ hp.a2), r2.buts HBF.out (hlow _ hp.a3)⟩, owns_buts (own_up hp.own (fun b hb => by have := HR9.out b hb; have := HBw.out; omega)) HBF.out ?_, ?_, hlo _ hp.a1, hlo _ hp.a2, hlo _ hp.a3⟩
    ·intro b hb e
     have := HR9.out b hb
     omega
    ·have h1 : Below w.heap.size w w13 := HB9.out.trans (HD13.out.mono (by have := HBw.out; omega))
     exact below_setRow (Below.drew h1) (by have := HBw.out; omega) _

end Go.Proofs.YthhfnageadckkaaGreat

namespace Go.Proofs.YthhfnageadckkaaGreat

/-! the window's places are near to one another -/
theorem nearK_get {p : Int} {zs : List Int} : ∀ {n : Nat}, nearK p zs n = true → ∀ i, i < n → nearF p zs i = true
 | 0, _, i, hi => by omega
 | n + 1, h, i, hi => by
  rw [nearK, Bool.and_eq_true] at h
  by_cases he : i = n
  ·rw [he]; exact h.2
  ·exact nearK_get h.1 i (by omega)
theorem nearK_mk {p : Int} {zs : List Int} : ∀ {n : Nat}, (∀ i, i < n → nearF p zs i = true) → nearK p zs n = true
 | 0, _ => rfl
 | n + 1, h => by rw [nearK, nearK_mk fun i hi => h i (by omega), h n (by omega)]; rfl
theorem near_same (n : Nat) (p : Int) : nearK p (List.replicate n p) (List.replicate n p).length = true := by
 rw [List.length_replicate]
 refine nearK_mk fun i hi => ?_
 unfold nearF
 have hg : ∀ j, j < n → (List.replicate n p)[j]?.getD 0 = p := fun j hj => rep_get n p j hj
 by_cases h0 : i = 0
 ·rw [if_pos h0]
  exact decide_eq_true (hg 0 (by omega))
 ·rw [if_neg h0]
  refine decide_eq_true ?_
  rw [hg i hi, hg (i - 1) (by omega)]
  omega
theorem near_push {p q : Int} {zs : List Int} (hn : 1 ≤ zs.length) (h : nearK p zs zs.length = true) (hq : -1048576 ≤ q - p ∧ q - p ≤ 1048576) : nearK q ((q :: zs).take zs.length) ((q :: zs).take zs.length).length = true := by
 have hl : ((q :: zs).take zs.length).length = zs.length := by simp
 rw [hl]
 refine nearK_mk fun i hi => ?_
 have hg : ∀ j, j < zs.length → ((q :: zs).take zs.length)[j]?.getD 0 = (q :: zs)[j]?.getD 0 := fun j hj => by rw [List.getElem?_take, if_pos hj]
 unfold nearF
 by_cases h0 : i = 0
 ·rw [if_pos h0]
  refine decide_eq_true ?_
  rw [hg 0 (by omega)]
  rfl
 ·rw [if_neg h0, hg i hi, hg (i - 1) (by omega)]
  obtain ⟨j, rfl⟩ : ∃ j, i = j + 1 := ⟨i - 1, by omega⟩
  refine decide_eq_true ?_
  rw [Nat.add_sub_cancel, List.getElem?_cons_succ]
  by_cases h1 : j = 0
  ·subst h1
   have h2 := nearK_get h 0 (by omega)
   unfold nearF at h2
   rw [if_pos rfl] at h2
   have h3 := of_decide_eq_true h2
   rw [h3]
   simp only [List.getElem?_cons_zero, Option.getD_some]
   omega
  ·obtain ⟨m, rfl⟩ : ∃ m, j = m + 1 := ⟨j - 1, by omega⟩
   have h2 := nearK_get h (m + 1) (by omega)
   unfold nearF at h2
   rw [if_neg (by omega), Nat.add_sub_cancel] at h2
   have h3 := of_decide_eq_true h2
   rw [List.getElem?_cons_succ]
   omega
theorem near_zero {p : Int} {zs : List Int} (hn : 1 ≤ zs.length) (h : nearK p zs zs.length = true) : zs[0]?.getD 0 = p := by
 have h2 := nearK_get h 0 (by omega)
 unfold nearF at h2
 rw [if_pos rfl] at h2
 exact of_decide_eq_true h2

/-! the line that a state has -/
def MovesP (a : AX) : Prop := ∀ (i : Nat) (x : CmdS), (a.ns ++ a.ws)[i]? = some x → x.kind = 1 ∧ 1 ≤ x.speed ∧ x.speed ≤ a.l.v ∧ (bndX a).lo ≤ x.target ∧ x.target ≤ (bndX a).hi ∧ (0 < i → x.mode ≠ 0)
theorem movesK_iff {V lo hi : Int} {xs : List CmdS} : ∀ {n : Nat}, movesK V lo hi xs n = true ↔ ∀ i, i < n → moveF V lo hi i (xs[i]?.getD cmd0) = true
 | 0 => ⟨fun _ i hi => by omega, fun _ => rfl⟩
 | n + 1 => by
  rw [movesK, Bool.and_eq_true, movesK_iff]
  exact ⟨fun h i hi => (by by_cases he : i = n; exact he ▸ h.2; exact h.1 i (by omega)), fun h => ⟨fun i hi => h i (by omega), h n (by omega)⟩⟩
theorem movesX_iff {a : AX} : movesX a = true ↔ MovesP a := by
 unfold movesX
 rw [movesK_iff]
 constructor
 ·intro h i x hx
  have h2 := h i (List.getElem?_eq_some_iff.1 hx).1
  rw [hx] at h2
  exact of_decide_eq_true h2
 ·intro h i hi
  have hx := List.getElem?_eq_getElem hi
  rw [hx]
  exact decide_eq_true (h i _ hx)
inductive FitP (a : AX) : Prop
 | none (h : a.ns = []) (hw : a.ws = []) (hs : a.st = 0 ∨ a.st = 1 ∨ a.st = 3 ∨ a.st = 7)
 | home (c : CmdS) (h : a.ns = [c]) (hw : a.ws = []) (hs : a.st = 2) (hc : c.kind = 7)
 | stop (c : CmdS) (h : a.ns = [c]) (hw : a.ws = []) (hs : a.st = 3) (hc : c.kind = 6)
 | speed (c : CmdS) (h : a.ns = [c]) (hw : a.ws = []) (hs : a.st = 5) (hc : c.kind = 4) (h0 : c.speed ≠ 0) (h1 : c.speed ≤ a.l.v) (h2 : -a.l.v ≤ c.speed)
 | gear (c : CmdS) (h : a.ns = [c]) (hw : a.ws = []) (hs : a.st = 6) (hc : c.kind = 8) (hd : 0 < c.den)
 | halt (c : CmdS) (h : a.ns = [c]) (hw : a.ws = []) (hs : a.st = 4) (hc : c.kind = 5)
 | moves (c : CmdS) (h : a.ns = [c]) (hs : a.st = 4) (hm : MovesP a)
theorem fit_of {a : AX} (hl : lineB a.ns a.ws = true) (h : fitsX a = true) : FitP a := by
 obtain ⟨l1, -, -, -⟩ := lineB_yes hl
 unfold fitsX at h
 cases hn : a.ns with
 | nil =>
  rw [hn] at h
  simp only [Bool.and_eq_true, List.isEmpty_iff, decide_eq_true_eq] at h
  exact .none hn h.1 h.2
 | cons c l =>
  rw [hn] at h l1
  obtain rfl : l = [] := by
   cases l with
   | nil => rfl
   | cons _ _ => simp at l1
  dsimp only at h
  by_cases h2 : a.st = 2
  ·rw [if_pos h2] at h
   simp only [Bool.and_eq_true, List.isEmpty_iff, decide_eq_true_eq] at h
   exact .home c hn h.1 h2 h.2
  rw [if_neg h2] at h
  by_cases h3 : a.st = 3
  ·rw [if_pos h3] at h
   simp only [Bool.and_eq_true, List.isEmpty_iff, decide_eq_true_eq] at h
   exact .stop c hn h.1 h3 h.2
  rw [if_neg h3] at h
  by_cases h5 : a.st = 5
  ·rw [if_pos h5] at h
   simp only [Bool.and_eq_true, List.isEmpty_iff, decide_eq_true_eq] at h
   exact .speed c hn h.1 h5 h.2.1 h.2.2.1 h.2.2.2.1 h.2.2.2.2
  rw [if_neg h5] at h
  by_cases h6 : a.st = 6
  ·rw [if_pos h6] at h
   simp only [Bool.and_eq_true, List.isEmpty_iff, decide_eq_true_eq] at h
   exact .gear c hn h.1 h6 h.2.1 h.2.2
  rw [if_neg h6] at h
  by_cases h4 : a.st = 4
  ·rw [if_pos h4] at h
   simp only [Bool.or_eq_true, Bool.and_eq_true, List.isEmpty_iff, decide_eq_true_eq] at h
   rcases h with h | h
   ·exact .halt c hn h.1 h4 h.2
   ·exact .moves c hn h4 (movesX_iff.1 h)
  rw [if_neg h4] at h
  cases h
theorem of_fit {a : AX} (h : FitP a) : fitsX a = true := by
 unfold fitsX
 rcases h with ⟨h, hw, hs⟩ | ⟨c, h, hw, hs, hc⟩ | ⟨c, h, hw, hs, hc⟩ | ⟨c, h, hw, hs, hc, h0, h1, h2⟩ | ⟨c, h, hw, hs, hc, hd⟩ | ⟨c, h, hw, hs, hc⟩ | ⟨c, h, hs, hm⟩
 ·rw [h]
  simp only [Bool.and_eq_true, List.isEmpty_iff, decide_eq_true_eq]
  exact ⟨hw, hs⟩
 ·rw [h]
  dsimp only
  rw [if_pos hs]
  simp only [Bool.and_eq_true, List.isEmpty_iff, decide_eq_true_eq]
  exact ⟨hw, hc⟩
 ·rw [h]
  dsimp only
  rw [if_neg (by omega), if_pos hs]
  simp only [Bool.and_eq_true, List.isEmpty_iff, decide_eq_true_eq]
  exact ⟨hw, hc⟩
 ·rw [h]
  dsimp only
  rw [if_neg (by omega), if_neg (by omega), if_pos hs]
  simp only [Bool.and_eq_true, List.isEmpty_iff, decide_eq_true_eq]
  exact ⟨hw, hc, h0, h1, h2⟩
 ·rw [h]
  dsimp only
  rw [if_neg (by omega), if_neg (by omega), if_neg (by omega), if_pos hs]
  simp only [Bool.and_eq_true, List.isEmpty_iff, decide_eq_true_eq]
  exact ⟨hw, hc, hd⟩
 ·rw [h]
  dsimp only
  rw [if_neg (by omega), if_neg (by omega), if_neg (by omega), if_neg (by omega), if_pos hs]
  simp only [Bool.or_eq_true, Bool.and_eq_true, List.isEmpty_iff, decide_eq_true_eq]
  exact .inl ⟨hw, hc⟩
 ·rw [h]
  dsimp only
  rw [if_neg (by omega), if_neg (by omega), if_neg (by omega), if_neg (by omega), if_pos hs]
  simp only [Bool.or_eq_true]
  exact .inr (movesX_iff.2 hm)

structure Good (a : AX) : Prop where
 st : 0 ≤ a.st ∧ a.st ≤ 7
 near : nearK a.g.p a.sm a.sm.length = true
 fit : FitP a
 hm : a.st = 2 → homeB a.h.p a.h.f a.h.c = true
theorem right_of {a : AX} (h : AxI a) (g : Good a) : rightX a = true := by
 unfold rightX madeB
 simp only [Bool.and_eq_true, decide_eq_true_eq, Bool.or_eq_true]
 exact ⟨⟨⟨⟨⟨⟨⟨⟨⟨⟨⟨⟨⟨h.win, h.lr⟩, h.hat⟩, h.hom⟩, g.st⟩, h.smr⟩, h.len⟩, h.safe⟩, g.near⟩, h.line⟩, of_fit g.fit⟩, h.ov⟩, h.off⟩, by
  by_cases h2 : a.st = 2
  ·exact .inr (g.hm h2)
  ·exact .inl h2⟩
theorem good_of {a : AX} (h : rightX a = true) : Good a := by
 unfold rightX madeB at h
 simp only [Bool.and_eq_true, decide_eq_true_eq, Bool.or_eq_true] at h
 obtain ⟨⟨⟨⟨⟨⟨⟨⟨⟨⟨⟨⟨⟨m1, m2⟩, m3⟩, m4⟩, m5⟩, m6⟩, m7⟩, m8⟩, m9⟩, m10⟩, m11⟩, m12⟩, m13⟩, m14⟩ := h
 exact ⟨m5, m9, fit_of m10 m11, fun h2 => m14.elim (fun h => absurd h2 h) id⟩
theorem axI_of {a : AX} (h : rightX a = true) (hc : ∀ c ∈ a.ns ++ a.ws, CmdW c) (h1 : I64 a.sta) (h2 : I64 a.mas) : AxI a := by
 unfold rightX madeB at h
 simp only [Bool.and_eq_true, decide_eq_true_eq] at h
 obtain ⟨⟨⟨⟨⟨⟨⟨⟨⟨⟨⟨⟨⟨m1, m2⟩, m3⟩, m4⟩, m5⟩, m6⟩, m7⟩, m8⟩, m9⟩, m10⟩, m11⟩, m12⟩, m13⟩, m14⟩ := h
 exact ⟨m2, m1, m3, m4, m7, m6, m8, m10, hc, m12, m13, h1, h2⟩
theorem AxI.n1 {a : AX} (h : AxI a) : 1 ≤ a.sm.length := by
 have := h.win
 have := h.len
 omega

/-! the edges -/
theorem takes_st {s : Int} (h : takesB s = true) : s = 1 ∨ s = 4 ∨ s = 5 ∨ s = 6 := by
 unfold takesB at h
 simp only [Bool.or_eq_true, beq_iff_eq] at h
 omega
theorem stV_err {s : Int} (h : 0 ≤ s ∧ s ≤ 7) : stV s 11 = 7 := by
 refine st_all (fun s _ => stV s 11 = 7) (fun s _ hs _ _ => ?_) s 1 h (by omega)
 match s, hs with
 | 0, _ | 1, _ | 2, _ | 3, _ | 4, _ | 5, _ | 6, _ | 7, _ => rfl
theorem stV_off {s : Int} (h : 0 < s ∧ s ≤ 7) : stV s 2 = 0 := by
 obtain ⟨n, rfl⟩ : ∃ n : Nat, s = n := ⟨s.toNat, by omega⟩
 have : n ≤ 7 := by omega
 match n, this with
 | 0, _ => omega
 | 1, _ | 2, _ | 3, _ | 4, _ | 5, _ | 6, _ | 7, _ => rfl
theorem stV_take {s : Int} (h : takesB s = true) : stV s 5 = 4 ∧ stV s 6 = 5 ∧ stV s 7 = 6 ∧ stV s 8 = 3 := by
 rcases takes_st h with rfl | rfl | rfl | rfl <;> exact ⟨rfl, rfl, rfl, rfl⟩
def edgeK (s t : Int) : Nat → Bool
 | 0 => decide (t = s)
 | n + 1 => edgeK s t n || (stB s ((n : Int) + 1) && decide (stV s ((n : Int) + 1) = t))
end Go.Proofs.YthhfnageadckkaaGreat
