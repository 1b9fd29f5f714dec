/- Layer 15: a command is taken, or refused. PRINTED by wip/tool/mktake.py -/
import Derived.Test.YthhfnageadckkaaGreatM32
import Derived.Test.YthhfnageadckkaaGreatM21
set_option maxHeartbeats 4000000
namespace Go.Proofs.YthhfnageadckkaaGreat
open Go.RowKit
set_option linter.unusedVariables false
set_option linter.unusedSimpArgs false
attribute [local go_sem] ite_max ite_min vite_max vite_min ext_cell ext_frozen

theorem add_ids_len {ns ws : List CmdS} (h : lineB ns ws = true) (x : CmdS) : (addR ns ws x).ids.length ≤ 5 := by
 obtain ⟨h1, h2, -, -⟩ := lineB_yes h
 unfold addR
 split
 ·simp
 ·split
  ·simp
   omega
  ·split <;> simp

set_option maxRecDepth 100000 in
theorem atake_a (s : WS) (c : CmdS) (K : Nat) (rv : Value) (W : World) (h : WK W K s rv) (hc : CmdW c) (hl : s.rs.length + 12 ≤ 2000) (kc : CmdS) (ok : Bool) (hk : fitsC s.a c = ⟨kc, ok⟩) (ho : ok = false) :
  Calls Tryz.prog 32 #[.pointer (some ⟨K, 0, none⟩), c.val] W fun x w' => x = .returned (.tuple #[]) ∧ ∃ rv', WK w' K (takeX s c) rv' ∧ Turn K rv rv' W w' := by
 subst ho
 have HEQ : Hid (takeX s c = tellX s 5 [c.id]) := Lib.hid (by unfold takeX; dsimp only; rw [hk, if_pos (.inl rfl)])
 have HW := Lib.hid h
 have HL := Lib.hid hl
 have HK := Lib.hid hk
 have HCW := Lib.hid hc
 have lK := h.lt
 show Calls Tryz.prog 32 #[.pointer (some ⟨K, 0, none⟩), .agg #[.int .i64 c.id, .int .i64 c.kind, .int .i64 c.target, .int .i64 c.speed, .int .i64 c.mode, .int .i64 c.num, .int .i64 c.den]] W _
 clear h hl hk hc
 go_enter Tryz.func32, Tryz.ntmps32
 go_upto_region 1 with (fail)
 refine wp_name fun W1 hW => ?_
 obtain ⟨B, hB⟩ : ∃ B, B = W.heap.size := ⟨_, rfl⟩
 have hbel : Below W.heap.size W W1 := by rw [hW.out]; exact belowBy
 have hlB : B < W1.heap.size := by rw [hW.out, hB]; simp
 have b0 : W1.cell? ⟨B, 0, none⟩ = some (.int .i64 c.id) := by rw [hW.out, hB]; go_simp
 have b1 : W1.cell? ⟨B, 1, none⟩ = some (.int .i64 c.kind) := by rw [hW.out, hB]; go_simp
 have b2 : W1.cell? ⟨B, 2, none⟩ = some (.int .i64 c.target) := by rw [hW.out, hB]; go_simp
 have b3 : W1.cell? ⟨B, 3, none⟩ = some (.int .i64 c.speed) := by rw [hW.out, hB]; go_simp
 have b4 : W1.cell? ⟨B, 4, none⟩ = some (.int .i64 c.mode) := by rw [hW.out, hB]; go_simp
 have b5 : W1.cell? ⟨B, 5, none⟩ = some (.int .i64 c.num) := by rw [hW.out, hB]; go_simp
 have b6 : W1.cell? ⟨B, 6, none⟩ = some (.int .i64 c.den) := by rw [hW.out, hB]; go_simp
 have HB := Lib.hid hbel
 have HBW : Hid (W.heap.size ≤ B) := Lib.hid (by omega)
 have HW1 := Lib.hid (HW.out.below hbel)
 (try rw [← hB])
 clear hW hB hbel lK
 go_wp2_with fail
 refine (afitsw_at s c K rv W1 HW1.out HCW.out).mono ?_
 rw [HK.out]
 simp only [CmdS.val]
 rintro e w2 ⟨rfl, hb2⟩
 have HB2 := Lib.hid hb2
 clear hb2 b1 b2 b3 b4 b5 b6
 go_upto_region 2 with (fail)
 refine wp_name fun W3 hW => ?_
 obtain ⟨B4, hB⟩ : ∃ B, B = w2.heap.size := ⟨_, rfl⟩
 have hbel : Below w2.heap.size w2 W3 := by rw [hW.out]; exact belowBy
 have hl4 : B4 < W3.heap.size := by rw [hW.out, hB]; simp
 have k0 : W3.cell? ⟨B4, 0, none⟩ = some (.int .i64 kc.id) := by rw [hW.out, hB]; go_simp
 have k1 : W3.cell? ⟨B4, 1, none⟩ = some (.int .i64 kc.kind) := by rw [hW.out, hB]; go_simp
 have k2 : W3.cell? ⟨B4, 2, none⟩ = some (.int .i64 kc.target) := by rw [hW.out, hB]; go_simp
 have k3 : W3.cell? ⟨B4, 3, none⟩ = some (.int .i64 kc.speed) := by rw [hW.out, hB]; go_simp
 have k4 : W3.cell? ⟨B4, 4, none⟩ = some (.int .i64 kc.mode) := by rw [hW.out, hB]; go_simp
 have k5 : W3.cell? ⟨B4, 5, none⟩ = some (.int .i64 kc.num) := by rw [hW.out, hB]; go_simp
 have k6 : W3.cell? ⟨B4, 6, none⟩ = some (.int .i64 kc.den) := by rw [hW.out, hB]; go_simp
 have hba : Below W1.heap.size W1 W3 := HB2.out.trans (hbel.mono HB2.out.size)
 have b0 := (hba.cell (p := ⟨B, 0, none⟩) hlB).trans b0
 have lB := Nat.lt_of_lt_of_le hlB hba.size
 obtain ⟨sv, nv, wv, cv, hp⟩ := HW1.out.below hba
 have HP3 := Lib.hid hp
 have HBW4 : Hid (W.heap.size ≤ B4) := Lib.hid (by have := HB2.out.size; have := HB.out.size; omega)
 have HT3 : Hid (Turn K rv rv W W3) := Lib.hid (Turn.of_below (HB.out.trans (hba.mono HB.out.size)))
 (try rw [← hB])
 (try simp only [Act.put])
 clear hW hB hbel hba hlB HB HB2 HW1
 have lK := hp.lt
 clear hp
 go_wp2_with fail
 refine (atell_at s 5 [c.id] _ K rv _ ⟨_, _, _, _, HP3.out.below (below_new (Below.refl _ _) (Nat.le_refl _) _)⟩ SmV.one (ApV.new_row HP3.out (Nat.le_refl _) _ _) (by have := HL.out; show s.rs.length + 1 ≤ 2000; omega)).mono ?_
 rintro e w8 ⟨rfl, rv8, hw8, ht8⟩
 have HW8 := Lib.hid hw8
 have HT8 : Hid (Turn K rv rv8 W w8) := Lib.hid (HT3.out.trans ((Turn.of_below (below_new (Below.refl _ _) (Nat.le_refl _) _)).trans ht8))
 clear hw8 ht8
 go_wp2
 first
  | exact bodyPost_ret (results_none rfl _ _ _) rfl ⟨rfl, rv8, by rw [HEQ.out]; exact HW8.out, HT8.out⟩
  | exact bodyPost_end (results_none rfl _ _ _) rfl ⟨rfl, rv8, by rw [HEQ.out]; exact HW8.out, HT8.out⟩

set_option maxRecDepth 100000 in
theorem atake_b (s : WS) (c : CmdS) (K : Nat) (rv : Value) (W : World) (h : WK W K s rv) (hc : CmdW c) (hl : s.rs.length + 12 ≤ 2000) (kc : CmdS) (ok : Bool) (hk : fitsC s.a c = ⟨kc, ok⟩) (ho : ok = true) (hf : s.fr = true) :
  Calls Tryz.prog 32 #[.pointer (some ⟨K, 0, none⟩), c.val] W fun x w' => x = .returned (.tuple #[]) ∧ ∃ rv', WK w' K (takeX s c) rv' ∧ Turn K rv rv' W w' := by
 subst ho
 have HEQ : Hid (takeX s c = tellX s 5 [c.id]) := Lib.hid (by unfold takeX; dsimp only; rw [if_pos (.inr hf)])
 have HF := Lib.hid hf
 clear hf
 have HW := Lib.hid h
 have HL := Lib.hid hl
 have HK := Lib.hid hk
 have HCW := Lib.hid hc
 have lK := h.lt
 show Calls Tryz.prog 32 #[.pointer (some ⟨K, 0, none⟩), .agg #[.int .i64 c.id, .int .i64 c.kind, .int .i64 c.target, .int .i64 c.speed, .int .i64 c.mode, .int .i64 c.num, .int .i64 c.den]] W _
 clear h hl hk hc
 go_enter Tryz.func32, Tryz.ntmps32
 go_upto_region 1 with (fail)
 refine wp_name fun W1 hW => ?_
 obtain ⟨B, hB⟩ : ∃ B, B = W.heap.size := ⟨_, rfl⟩
 have hbel : Below W.heap.size W W1 := by rw [hW.out]; exact belowBy
 have hlB : B < W1.heap.size := by rw [hW.out, hB]; simp
 have b0 : W1.cell? ⟨B, 0, none⟩ = some (.int .i64 c.id) := by rw [hW.out, hB]; go_simp
 have b1 : W1.cell? ⟨B, 1, none⟩ = some (.int .i64 c.kind) := by rw [hW.out, hB]; go_simp
 have b2 : W1.cell? ⟨B, 2, none⟩ = some (.int .i64 c.target) := by rw [hW.out, hB]; go_simp
 have b3 : W1.cell? ⟨B, 3, none⟩ = some (.int .i64 c.speed) := by rw [hW.out, hB]; go_simp
 have b4 : W1.cell? ⟨B, 4, none⟩ = some (.int .i64 c.mode) := by rw [hW.out, hB]; go_simp
 have b5 : W1.cell? ⟨B, 5, none⟩ = some (.int .i64 c.num) := by rw [hW.out, hB]; go_simp
 have b6 : W1.cell? ⟨B, 6, none⟩ = some (.int .i64 c.den) := by rw [hW.out, hB]; go_simp
 have HB := Lib.hid hbel
 have HBW : Hid (W.heap.size ≤ B) := Lib.hid (by omega)
 have HW1 := Lib.hid (HW.out.below hbel)
 (try rw [← hB])
 clear hW hB hbel lK
 go_wp2_with fail
 refine (afitsw_at s c K rv W1 HW1.out HCW.out).mono ?_
 rw [HK.out]
 simp only [CmdS.val]
 rintro e w2 ⟨rfl, hb2⟩
 have HB2 := Lib.hid hb2
 clear hb2 b1 b2 b3 b4 b5 b6
 go_upto_region 2 with (fail)
 refine wp_name fun W3 hW => ?_
 obtain ⟨B4, hB⟩ : ∃ B, B = w2.heap.size := ⟨_, rfl⟩
 have hbel : Below w2.heap.size w2 W3 := by rw [hW.out]; exact belowBy
 have hl4 : B4 < W3.heap.size := by rw [hW.out, hB]; simp
 have k0 : W3.cell? ⟨B4, 0, none⟩ = some (.int .i64 kc.id) := by rw [hW.out, hB]; go_simp
 have k1 : W3.cell? ⟨B4, 1, none⟩ = some (.int .i64 kc.kind) := by rw [hW.out, hB]; go_simp
 have k2 : W3.cell? ⟨B4, 2, none⟩ = some (.int .i64 kc.target) := by rw [hW.out, hB]; go_simp
 have k3 : W3.cell? ⟨B4, 3, none⟩ = some (.int .i64 kc.speed) := by rw [hW.out, hB]; go_simp
 have k4 : W3.cell? ⟨B4, 4, none⟩ = some (.int .i64 kc.mode) := by rw [hW.out, hB]; go_simp
 have k5 : W3.cell? ⟨B4, 5, none⟩ = some (.int .i64 kc.num) := by rw [hW.out, hB]; go_simp
 have k6 : W3.cell? ⟨B4, 6, none⟩ = some (.int .i64 kc.den) := by rw [hW.out, hB]; go_simp
 have hba : Below W1.heap.size W1 W3 := HB2.out.trans (hbel.mono HB2.out.size)
 have b0 := (hba.cell (p := ⟨B, 0, none⟩) hlB).trans b0
 have lB := Nat.lt_of_lt_of_le hlB hba.size
 obtain ⟨sv, nv, wv, cv, hp⟩ := HW1.out.below hba
 have HP3 := Lib.hid hp
 have HBW4 : Hid (W.heap.size ≤ B4) := Lib.hid (by have := HB2.out.size; have := HB.out.size; omega)
 have HT3 : Hid (Turn K rv rv W W3) := Lib.hid (Turn.of_below (HB.out.trans (hba.mono HB.out.size)))
 (try rw [← hB])
 (try simp only [Act.put])
 clear hW hB hbel hba hlB HB HB2 HW1
 have lK := hp.lt
 have c_fr : W3.cell? ⟨K, 39, none⟩ = some (.bool true) := hp.cell 39 _ (by rw [← HF.out]; rfl)
 clear hp
 go_wp2_with fail
 refine (atell_at s 5 [c.id] _ K rv _ ⟨_, _, _, _, HP3.out.below (below_new (Below.refl _ _) (Nat.le_refl _) _)⟩ SmV.one (ApV.new_row HP3.out (Nat.le_refl _) _ _) (by have := HL.out; show s.rs.length + 1 ≤ 2000; omega)).mono ?_
 rintro e w8 ⟨rfl, rv8, hw8, ht8⟩
 have HW8 := Lib.hid hw8
 have HT8 : Hid (Turn K rv rv8 W w8) := Lib.hid (HT3.out.trans ((Turn.of_below (below_new (Below.refl _ _) (Nat.le_refl _) _)).trans ht8))
 clear hw8 ht8
 go_wp2
 first
  | exact bodyPost_ret (results_none rfl _ _ _) rfl ⟨rfl, rv8, by rw [HEQ.out]; exact HW8.out, HT8.out⟩
  | exact bodyPost_end (results_none rfl _ _ _) rfl ⟨rfl, rv8, by rw [HEQ.out]; exact HW8.out, HT8.out⟩

set_option maxRecDepth 100000 in
theorem atake_c (s : WS) (c : CmdS) (K : Nat) (rv : Value) (W : World) (h : WK W K s rv) (hc : CmdW c) (hl : s.rs.length + 12 ≤ 2000) (kc : CmdS) (ok : Bool) (hk : fitsC s.a c = ⟨kc, ok⟩) (ho : ok = true) (hf : s.fr = false) :
  Calls Tryz.prog 32 #[.pointer (some ⟨K, 0, none⟩), c.val] W fun x w' => x = .returned (.tuple #[]) ∧ ∃ rv', WK w' K (takeX s c) rv' ∧ Turn K rv rv' W w' := by
 subst ho
 have HF := Lib.hid hf
 clear hf
 have HW := Lib.hid h
 have HL := Lib.hid hl
 have HK := Lib.hid hk
 have HCW := Lib.hid hc
 have lK := h.lt
 show Calls Tryz.prog 32 #[.pointer (some ⟨K, 0, none⟩), .agg #[.int .i64 c.id, .int .i64 c.kind, .int .i64 c.target, .int .i64 c.speed, .int .i64 c.mode, .int .i64 c.num, .int .i64 c.den]] W _
 clear h hl hk hc
 go_enter Tryz.func32, Tryz.ntmps32
 go_upto_region 1 with (fail)
 refine wp_name fun W1 hW => ?_
 obtain ⟨B, hB⟩ : ∃ B, B = W.heap.size := ⟨_, rfl⟩
 have hbel : Below W.heap.size W W1 := by rw [hW.out]; exact belowBy
 have hlB : B < W1.heap.size := by rw [hW.out, hB]; simp
 have b0 : W1.cell? ⟨B, 0, none⟩ = some (.int .i64 c.id) := by rw [hW.out, hB]; go_simp
 have b1 : W1.cell? ⟨B, 1, none⟩ = some (.int .i64 c.kind) := by rw [hW.out, hB]; go_simp
 have b2 : W1.cell? ⟨B, 2, none⟩ = some (.int .i64 c.target) := by rw [hW.out, hB]; go_simp
 have b3 : W1.cell? ⟨B, 3, none⟩ = some (.int .i64 c.speed) := by rw [hW.out, hB]; go_simp
 have b4 : W1.cell? ⟨B, 4, none⟩ = some (.int .i64 c.mode) := by rw [hW.out, hB]; go_simp
 have b5 : W1.cell? ⟨B, 5, none⟩ = some (.int .i64 c.num) := by rw [hW.out, hB]; go_simp
 have b6 : W1.cell? ⟨B, 6, none⟩ = some (.int .i64 c.den) := by rw [hW.out, hB]; go_simp
 have HB := Lib.hid hbel
 have HBW : Hid (W.heap.size ≤ B) := Lib.hid (by omega)
 have HW1 := Lib.hid (HW.out.below hbel)
 (try rw [← hB])
 clear hW hB hbel lK
 go_wp2_with fail
 refine (afitsw_at s c K rv W1 HW1.out HCW.out).mono ?_
 rw [HK.out]
 simp only [CmdS.val]
 rintro e w2 ⟨rfl, hb2⟩
 have HB2 := Lib.hid hb2
 clear hb2 b1 b2 b3 b4 b5 b6
 go_upto_region 2 with (fail)
 refine wp_name fun W3 hW => ?_
 obtain ⟨B4, hB⟩ : ∃ B, B = w2.heap.size := ⟨_, rfl⟩
 have hbel : Below w2.heap.size w2 W3 := by rw [hW.out]; exact belowBy
 have hl4 : B4 < W3.heap.size := by rw [hW.out, hB]; simp
 have k0 : W3.cell? ⟨B4, 0, none⟩ = some (.int .i64 kc.id) := by rw [hW.out, hB]; go_simp
 have k1 : W3.cell? ⟨B4, 1, none⟩ = some (.int .i64 kc.kind) := by rw [hW.out, hB]; go_simp
 have k2 : W3.cell? ⟨B4, 2, none⟩ = some (.int .i64 kc.target) := by rw [hW.out, hB]; go_simp
 have k3 : W3.cell? ⟨B4, 3, none⟩ = some (.int .i64 kc.speed) := by rw [hW.out, hB]; go_simp
 have k4 : W3.cell? ⟨B4, 4, none⟩ = some (.int .i64 kc.mode) := by rw [hW.out, hB]; go_simp
 have k5 : W3.cell? ⟨B4, 5, none⟩ = some (.int .i64 kc.num) := by rw [hW.out, hB]; go_simp
 have k6 : W3.cell? ⟨B4, 6, none⟩ = some (.int .i64 kc.den) := by rw [hW.out, hB]; go_simp
 have hba : Below W1.heap.size W1 W3 := HB2.out.trans (hbel.mono HB2.out.size)
 have b0 := (hba.cell (p := ⟨B, 0, none⟩) hlB).trans b0
 have lB := Nat.lt_of_lt_of_le hlB hba.size
 obtain ⟨sv, nv, wv, cv, hp⟩ := HW1.out.below hba
 have HP3 := Lib.hid hp
 have HBW4 : Hid (W.heap.size ≤ B4) := Lib.hid (by have := HB2.out.size; have := HB.out.size; omega)
 have HT3 : Hid (Turn K rv rv W W3) := Lib.hid (Turn.of_below (HB.out.trans (hba.mono HB.out.size)))
 (try rw [← hB])
 (try simp only [Act.put])
 clear hW hB hbel hba hlB HB HB2 HW1
 obtain ⟨r, hr⟩ : ∃ r, addR s.a.ns s.a.ws kc = r := ⟨_, rfl⟩
 have HR := Lib.hid hr
 have HE0 : Hid (takeX s c = if r.e ≠ 0 then tellX s 5 [c.id] else if r.ws.length = 0 then startsX (tellX (lineX s r.ns r.ws) 3 (idsX r.ids)) kc else tellX (lineX s r.ns r.ws) 3 (idsX r.ids)) := Lib.hid (by
  unfold takeX
  dsimp only
  rw [HK.out]
  dsimp only
  rw [if_neg (by rw [HF.out]; simp), hr])
 have HIL : Hid (r.ids.length ≤ 5) := Lib.hid (by rw [← hr]; exact add_ids_len hp.inv.line kc)
 have HAK : Hid (r.e = 0 → AxI (lineX s r.ns r.ws).a) := Lib.hid (fun he => by
  have hkc : CmdW kc := by have := kept_w (a := s.a) HCW.out; rw [HK.out] at this; exact this
  rw [← hr] at he ⊢
  have hk := add_kept hp.inv.line he
  exact inv_line (s := s) hp.inv hk.1 (fun x hx => (hk.2 x hx).elim (hp.inv.cw x) (fun e => e ▸ hkc)))
 obtain ⟨n1, hn1⟩ : ∃ n, r.ns.length = n := ⟨_, rfl⟩
 obtain ⟨n2, hn2⟩ : ∃ n, r.ws.length = n := ⟨_, rfl⟩
 have HN1 := Lib.hid hn1
 have HN2 := Lib.hid hn2
 have lK := hp.lt
 have c_fr : W3.cell? ⟨K, 39, none⟩ = some (.bool false) := hp.cell 39 _ (by rw [← HF.out]; rfl)
 obtain ⟨N, hN⟩ : ∃ N, N = W3.heap.size := ⟨_, rfl⟩
 clear hp hr hn1 hn2
 go_upto_region 4 with (fail)
 refine wp_region_held_drew (S := fun w' => Below N W3 w') (by kernel_rfl) ?_ (fun hHeld => ?_)
 ·exact (Below.refl _ _).drew
 refine tT 0 ?_ rfl ?_ ?_; rotate_left; (focus intros; go_simp; try rfl)
 refine tT 1 ?_ rfl ?_ ?_; rotate_left; (focus intros; go_simp; try rfl)
 refine tT 2 ?_ rfl ?_ ?_; rotate_left; (focus intros; go_simp; try rfl); (try simp only [ly])
 refine tT 3 ?_ rfl ?_ ?_; rotate_left; (focus intros; go_simp; try rfl)
 (refine tT 4 ?_ rfl ?_ ?_; rotate_left; (focus (intro w' hSw; (try dsimp only at hSw); (have hh := HP3.out.below (by rw [← hN]; exact hSw)); (have f14 := hh.cell 14 _ rfl); (have f15 := hh.cell 15 _ rfl); (have hlk := hh.lt); go_simp; try (with_reducible rfl))))
 (refine tT 5 ?_ rfl ?_ ?_; rotate_left; (focus (intro w' hSw; (try dsimp only at hSw); (have f0 := (hSw.cell (p := ⟨B4, 0, none⟩) (by rw [hN]; exact hl4)).trans k0); (have f1 := (hSw.cell (p := ⟨B4, 1, none⟩) (by rw [hN]; exact hl4)).trans k1); (have f2 := (hSw.cell (p := ⟨B4, 2, none⟩) (by rw [hN]; exact hl4)).trans k2); (have f3 := (hSw.cell (p := ⟨B4, 3, none⟩) (by rw [hN]; exact hl4)).trans k3); (have f4 := (hSw.cell (p := ⟨B4, 4, none⟩) (by rw [hN]; exact hl4)).trans k4); (have f5 := (hSw.cell (p := ⟨B4, 5, none⟩) (by rw [hN]; exact hl4)).trans k5); (have f6 := (hSw.cell (p := ⟨B4, 6, none⟩) (by rw [hN]; exact hl4)).trans k6); (have hl5 := Nat.lt_of_lt_of_le hl4 hSw.size); go_simp; try (with_reducible rfl))); (try simp only [ly]))
 refine twoX (i := 6) (j := 11) (by kernel_rfl) rfl rfl (fun Kc hK => ?o1) (fun Kc hK => ?o2)
 case' o1 =>
  go_simp
  go_at_call 66
  refine (ladd_at s.a.ns s.a.ws _ 0 kc r _ (HP3.out.ln.below (by rw [← hN]; exact hHeld)) HR.out).mono ?_
  rintro e w5 ⟨v, i, rfl, hl5, hi5, hb5⟩
  obtain ⟨A1, d1, A2, d2, rfl⟩ := hl5.slices
  have hbc : Below N W3 w5 := hHeld.trans (hb5.mono (by rw [hN]; exact hHeld.size))
  go_wp2_with fail
  refine hK.out _ _ hbc (fun hHeld => ?_)
  clear hK Kc
  (try simp only [ly])
  refine tT 7 ?_ rfl ?_ ?_; rotate_left; (focus intros; go_simp; try rfl)
  refine tT 8 ?_ rfl ?_ ?_; rotate_left; (focus intros; go_simp; try rfl)
  refine tT 9 ?_ rfl ?_ ?_; rotate_left; (focus intros; go_simp; try rfl); (try simp only [ly])
  refine tT 10 ?_ rfl ?_ ?_; rotate_left; (focus intros; go_simp; try rfl); (try simp only [ly])
  refine oneH (i := 11) (by kernel_rfl) rfl (fun Kc hK => ?_)
  go_simp
  have hba : Below N W3 (w5.alloc (.cells #[.slice none 0 0, .slice none 0 0] 31)) := below_new hbc (by have := hbc.size; omega) _
  refine hK.out _ (w5.alloc (.cells #[.slice none 0 0, .slice none 0 0] 31)) hba (fun hHeld => ?_)
  clear hK Kc
  (try simp only [ly])
  obtain ⟨BL, hBL⟩ : ∃ x, x = w5.heap.size := ⟨_, rfl⟩
  obtain ⟨WX, hWX⟩ : ∃ x, x = (w5.alloc (.cells #[.slice none 0 0, .slice none 0 0] 31)) := ⟨_, rfl⟩
  have gL : WX.heap[BL]? = some (.cells #[.slice none 0 0, .slice none 0 0] 31) := by rw [hWX, hBL]; exact heap_alloc_new _ _
  have HRO : Hid (∀ u v, LineV ((WX.setCell ⟨BL, 0, none⟩ u).setCell ⟨BL, 1, none⟩ v) N r.ns r.ws (.agg #[.slice A1 r.ns.length d1, .slice A2 r.ws.length d2]) ∧ IdsV ((WX.setCell ⟨BL, 0, none⟩ u).setCell ⟨BL, 1, none⟩ v) r.ids N i) := Lib.hid (fun u v => by
   have hbb : Below w5.heap.size w5 ((WX.setCell ⟨BL, 0, none⟩ u).setCell ⟨BL, 1, none⟩ v) := by
    rw [hWX, hBL]
    exact Below.setCell (Below.setCell (below_new (Below.refl _ _) (Nat.le_refl _) _) (Nat.le_refl _) _) (Nat.le_refl _) _
   exact ⟨(hl5.base0 (by rw [hN]; exact Nat.le_refl _)).below hbb, owns_below (own_base hi5 (by rw [hN]; exact Nat.le_refl _)) hbb⟩)
  have hNB : N ≤ BL := by have := hbc.size; omega
  rw [← hWX] at hHeld hba ⊢
  (try rw [← hBL])
  clear hl5 hi5 hb5 hbc hWX hBL
 case' o2 =>
  go_simp
  have hba : Below N W3 (W3.drew.alloc (.cells #[.slice none 0 0, .slice none 0 0] 31)) := below_new hHeld (by rw [hN]; exact Nat.le_refl _) _
  refine hK.out _ (W3.drew.alloc (.cells #[.slice none 0 0, .slice none 0 0] 31)) hba (fun hHeld => ?_)
  clear hK Kc
  (try simp only [ly])
  refine oneH (i := 6) (by kernel_rfl) rfl (fun Kc hK => ?_)
  go_simp
  go_at_call 66
  refine (ladd_at s.a.ns s.a.ws _ 0 kc r _ (HP3.out.ln.below (by rw [← hN]; exact hba)) HR.out).mono ?_
  rintro e w5 ⟨v, i, rfl, hl5, hi5, hb5⟩
  obtain ⟨A1, d1, A2, d2, rfl⟩ := hl5.slices
  have hbc : Below N W3 w5 := hba.trans (hb5.mono (by rw [hN]; exact hba.size))
  go_wp2_with fail
  refine hK.out _ _ hbc (fun hHeld => ?_)
  clear hK Kc
  (try simp only [ly])
  refine tT 7 ?_ rfl ?_ ?_; rotate_left; (focus intros; go_simp; try rfl)
  refine tT 8 ?_ rfl ?_ ?_; rotate_left; (focus intros; go_simp; try rfl)
  refine tT 9 ?_ rfl ?_ ?_; rotate_left; (focus intros; go_simp; try rfl); (try simp only [ly])
  refine tT 10 ?_ rfl ?_ ?_; rotate_left; (focus intros; go_simp; try rfl); (try simp only [ly])
  obtain ⟨BL, hBL⟩ : ∃ x, x = W3.heap.size := ⟨_, rfl⟩
  have gL : w5.heap[BL]? = some (.cells #[.slice none 0 0, .slice none 0 0] 31) := by rw [hBL]; exact (hb5.block _ (by simp)).trans (heap_alloc_new W3.drew _)
  obtain ⟨WX, hWX⟩ : ∃ x, x = w5 := ⟨_, rfl⟩
  have HRO : Hid (∀ u v, LineV ((WX.setCell ⟨BL, 0, none⟩ u).setCell ⟨BL, 1, none⟩ v) N r.ns r.ws (.agg #[.slice A1 r.ns.length d1, .slice A2 r.ws.length d2]) ∧ IdsV ((WX.setCell ⟨BL, 0, none⟩ u).setCell ⟨BL, 1, none⟩ v) r.ids N i) := Lib.hid (fun u v => by
   have hlt : BL < (W3.drew.alloc (.cells #[.slice none 0 0, .slice none 0 0] 31)).heap.size := by rw [hBL]; simp
   rw [hWX]
   exact ⟨((hl5.store (p := ⟨BL, 0, none⟩) hlt u).store (p := ⟨BL, 1, none⟩) hlt v).base0 (by simp; omega), own_base ((IdsV.store hi5 (p := ⟨BL, 0, none⟩) hlt u).store (p := ⟨BL, 1, none⟩) hlt v) (by simp; omega)⟩)
  have hNB : N ≤ BL := by omega
  rw [← hWX] at gL hHeld hbc ⊢
  (try rw [← hBL])
  have hba := hbc
  clear hl5 hi5 hb5 hbc hWX hBL
 all_goals
  have hro := HRO.out
  rw [HN1.out, HN2.out] at hro
  simp only [HN1.out, HN2.out]
  replace HRO := Lib.hid hro
  clear hro
  have hlL : BL < WX.heap.size := (Array.getElem?_eq_some_iff.1 gL).1
  have g0 : WX.cell? ⟨BL, 0, none⟩ = some (.slice none 0 0) := heap_cell 0 _ gL rfl
  have g1 : WX.cell? ⟨BL, 1, none⟩ = some (.slice none 0 0) := heap_cell 1 _ gL rfl
  have gf := fun o => frozen_of_row WX BL o _ _ gL
  refine oneH (i := 12) (by kernel_rfl) rfl (fun Kc hK => ?_)
  go_simp
  have hbs : Below N W3 ((WX.setCell ⟨BL, 0, none⟩ (.slice A1 n1 d1)).setCell ⟨BL, 1, none⟩ (.slice A2 n2 d2)) := Below.setCell (Below.setCell hba (by exact hNB) _) (by exact hNB) _
  refine hK.out _ _ hbs (fun hHeld => ?_)
  clear hK Kc
  (try simp only [ly])
  refine tT 13 ?_ rfl ?_ ?_; rotate_left; (focus intros; go_simp; try rfl)
  refine tT 14 ?_ rfl ?_ ?_; rotate_left; (focus intros; go_simp; try rfl); (try simp only [ly])
  refine wpAnyH_done (by kernel_rfl) ?_ _
  (try simp only [ly])
  obtain ⟨W7, hW7⟩ : ∃ x, x = ((WX.setCell ⟨BL, 0, none⟩ (.slice A1 n1 d1)).setCell ⟨BL, 1, none⟩ (.slice A2 n2 d2)) := ⟨_, rfl⟩
  have c0 : W7.cell? ⟨BL, 0, none⟩ = some (.slice A1 n1 d1) := by rw [hW7]; go_simp
  have c1 : W7.cell? ⟨BL, 1, none⟩ = some (.slice A2 n2 d2) := by rw [hW7]; go_simp
  have hl7 : BL < W7.heap.size := by rw [hW7]; simp; exact hlL
  rw [← hW7] at hbs ⊢
  have hro2 := HRO.out (.slice A1 n1 d1) (.slice A2 n2 d2)
  rw [← hW7] at hro2
  have HLX := Lib.hid hro2.1
  have HIX := Lib.hid hro2.2
  have HB7 := Lib.hid hbs
  clear hro2 HRO hbs hba gL g0 g1 gf hlL hHeld hW7
  have hb7 : Below W3.heap.size W3 W7 := by rw [← hN]; exact HB7.out
  have HP7 := Lib.hid (HP3.out.below hb7)
  have HT7 : Hid (Turn K rv rv W W7) := Lib.hid (HT3.out.trans (Turn.of_below hb7))
  have k0 := (hb7.cell (p := ⟨B4, 0, none⟩) hl4).trans k0
  have k1 := (hb7.cell (p := ⟨B4, 1, none⟩) hl4).trans k1
  have k2 := (hb7.cell (p := ⟨B4, 2, none⟩) hl4).trans k2
  have k3 := (hb7.cell (p := ⟨B4, 3, none⟩) hl4).trans k3
  have k4 := (hb7.cell (p := ⟨B4, 4, none⟩) hl4).trans k4
  have k5 := (hb7.cell (p := ⟨B4, 5, none⟩) hl4).trans k5
  have k6 := (hb7.cell (p := ⟨B4, 6, none⟩) hl4).trans k6
  have b0 := (hb7.cell (p := ⟨B, 0, none⟩) lB).trans b0
  have l47 := Nat.lt_of_lt_of_le hl4 hb7.size
  have lB7 := Nat.lt_of_lt_of_le lB hb7.size
  have HNP : Hid (∀ b, W.heap.size ≤ b → ¬ (b = K ∨ rv.ownBlock = some b)) := Lib.hid (fun b hb hq => by
   obtain ⟨sv', nv', wv', cv', hp'⟩ := HW.out
   rcases hq with hq | hq
   ·have := hp'.lt
    omega
   ·have := (hp'.own.lt b hq).2
    omega)
  have HBLW : Hid (W.heap.size ≤ BL) := Lib.hid (by have := HT3.out.buts.size; omega)
  have HW3N : Hid (W3.heap.size ≤ N) := Lib.hid (by omega)
  clear hb7 hl4 lB c_fr lK hN hNB
  have hp7 := HP7.out
  have c_nv := hp7.cell 14 _ rfl
  have c_wv := hp7.cell 15 _ rfl
  have lK := hp7.lt
  have fK := hp7.froz
  clear hp7
  by_cases he : r.e = 0
  ·have ue : (r.e != 0) = false := by simp [he]
   have HE1 : Hid (takeX s c = if r.ws.length = 0 then startsX (tellX (lineX s r.ns r.ws) 3 (idsX r.ids)) kc else tellX (lineX s r.ns r.ws) 3 (idsX r.ids)) := Lib.hid (by rw [HE0.out, if_neg (fun h => h he)])
   have HIE := Lib.hid (HAK.out he)
   clear he
   go_upto_region 8 with (fail)
   refine wp_name fun W8 hW8 => ?_
   have hln : LineV W7 0 r.ns r.ws (.agg #[.slice A1 n1 d1, .slice A2 n2 d2]) := HLX.out.base0 (Nat.zero_le _)
   have han := ApW.new_line HP3.out HLX.out HW3N.out
   have hf := HP7.out.putN [(14, .slice A1 n1 d1), (15, .slice A2 n2 d2)] (lineX s r.ns r.ws) rfl HP7.out.sm hln HP7.out.a1 han.1 han.2 rfl HIE.out rfl
   have HP8 : Hid (WKp W8 K (lineX s r.ns r.ws) rv sv (.slice A1 n1 d1) (.slice A2 n2 d2) cv ∧ Turn K rv rv W7 W8) := Lib.hid (by rw [hW8.out]; exact hf)
   have HT8 := Lib.hid (HT7.out.trans HP8.out.2)
   have HAI : Hid (ApV K rv i) := Lib.hid (ApV.new_own HP3.out HIX.out HW3N.out)
   have HIS : Hid (SmV W8 (idsX r.ids) i) := Lib.hid (HIX.out.sm.turn HP8.out.2 HAI.out)
   have c1 := (HP8.out.2.buts.cell BL 1 hl7 (HNP.out BL HBLW.out)).trans c1
   have l78 := Nat.lt_of_lt_of_le hl7 HP8.out.2.buts.size
   have k0 := (HP8.out.2.buts.cell B4 0 l47 (HNP.out B4 HBW4.out)).trans k0
   have k1 := (HP8.out.2.buts.cell B4 1 l47 (HNP.out B4 HBW4.out)).trans k1
   have k2 := (HP8.out.2.buts.cell B4 2 l47 (HNP.out B4 HBW4.out)).trans k2
   have k3 := (HP8.out.2.buts.cell B4 3 l47 (HNP.out B4 HBW4.out)).trans k3
   have k4 := (HP8.out.2.buts.cell B4 4 l47 (HNP.out B4 HBW4.out)).trans k4
   have k5 := (HP8.out.2.buts.cell B4 5 l47 (HNP.out B4 HBW4.out)).trans k5
   have k6 := (HP8.out.2.buts.cell B4 6 l47 (HNP.out B4 HBW4.out)).trans k6
   have l48 := Nat.lt_of_lt_of_le l47 HP8.out.2.buts.size
   clear hf hW8 hln han c_nv c_wv lK fK c0 hl7 l47 lB7 b0
   go_wp2_with fail
   refine (atell_at (lineX s r.ns r.ws) 3 (idsX r.ids) i K rv _ ⟨_, _, _, _, HP8.out.1⟩ HIS.out HAI.out (by have h1 := HL.out; have h2 := HIL.out; simp only [idsX, List.length_map]; show s.rs.length + _ ≤ 2000; omega)).mono ?_
   rintro e w9 ⟨rfl, rv9, hw9, ht9⟩
   have c1 := (ht9.buts.cell BL 1 l78 (HNP.out BL HBLW.out)).trans c1
   have l79 := Nat.lt_of_lt_of_le l78 ht9.buts.size
   have k0 := (ht9.buts.cell B4 0 l48 (HNP.out B4 HBW4.out)).trans k0
   have k1 := (ht9.buts.cell B4 1 l48 (HNP.out B4 HBW4.out)).trans k1
   have k2 := (ht9.buts.cell B4 2 l48 (HNP.out B4 HBW4.out)).trans k2
   have k3 := (ht9.buts.cell B4 3 l48 (HNP.out B4 HBW4.out)).trans k3
   have k4 := (ht9.buts.cell B4 4 l48 (HNP.out B4 HBW4.out)).trans k4
   have k5 := (ht9.buts.cell B4 5 l48 (HNP.out B4 HBW4.out)).trans k5
   have k6 := (ht9.buts.cell B4 6 l48 (HNP.out B4 HBW4.out)).trans k6
   have l49 := Nat.lt_of_lt_of_le l48 ht9.buts.size
   have HW9 := Lib.hid hw9
   have HT9 := Lib.hid (HT8.out.trans ht9)
   clear hw9 ht9 l78 l48
   by_cases h0 : n2 = 0
   ·have HEQ : Hid (takeX s c = startsX (tellX (lineX s r.ns r.ws) 3 (idsX r.ids)) kc) := Lib.hid (by rw [HE1.out, if_pos (by rw [HN2.out]; exact h0)])
    subst h0
    go_wp2_with fail
    refine (astarts_at (tellX (lineX s r.ns r.ws) 3 (idsX r.ids)) kc K rv9 _ HW9.out (by have h1 := HL.out; have h2 := HIL.out; simp [tellX, lineX, idsX]; omega)).mono ?_
    rintro e w10 ⟨rfl, rv10, hw10, ht10⟩
    go_wp2
    exact bodyPost_end (results_none rfl _ _ _) rfl ⟨rfl, rv10, by rw [HEQ.out]; exact hw10, HT9.out.trans ht10⟩
   ·have HEQ : Hid (takeX s c = tellX (lineX s r.ns r.ws) 3 (idsX r.ids)) := Lib.hid (by rw [HE1.out, if_neg (by rw [HN2.out]; exact h0)])
    have hn2 : ¬ ((n2 : Int) = 0) := by omega
    go_wp2
    exact bodyPost_end (results_none rfl _ _ _) rfl ⟨rfl, rv9, by rw [HEQ.out]; exact HW9.out, HT9.out⟩
  ·have ue : (r.e != 0) = true := by simp [he]
   have HEQ : Hid (takeX s c = tellX s 5 [c.id]) := Lib.hid (by rw [HE0.out, if_pos he])
   clear he
   go_wp2_with fail
   refine (atell_at s 5 [c.id] _ K rv _ ⟨_, _, _, _, HP7.out.below (below_new (Below.refl _ _) (Nat.le_refl _) _)⟩ SmV.one (ApV.new_row HP7.out (Nat.le_refl _) _ _) (by have := HL.out; show s.rs.length + 1 ≤ 2000; omega)).mono ?_
   rintro e w8 ⟨rfl, rv8, hw8, ht8⟩
   have HW8 := Lib.hid hw8
   have HT8 : Hid (Turn K rv rv8 W w8) := Lib.hid (HT7.out.trans ((Turn.of_below (below_new (Below.refl _ _) (Nat.le_refl _) _)).trans ht8))
   clear hw8 ht8
   go_wp2
   exact bodyPost_ret (results_none rfl _ _ _) rfl ⟨rfl, rv8, by rw [HEQ.out]; exact HW8.out, HT8.out⟩

theorem atake_at (s : WS) (c : CmdS) (K : Nat) (rv : Value) (W : World) (h : WK W K s rv) (hc : CmdW c) (hl : s.rs.length + 12 ≤ 2000) :
  Calls Tryz.prog 32 #[.pointer (some ⟨K, 0, none⟩), c.val] W fun x w' => x = .returned (.tuple #[]) ∧ ∃ rv', WK w' K (takeX s c) rv' ∧ Turn K rv rv' W w' := by
 rcases hk : fitsC s.a c with ⟨kc, ok⟩
 cases hok : ok
 ·exact atake_a s c K rv W h hc hl kc ok hk hok
 ·cases hf : s.fr
  ·exact atake_c s c K rv W h hc hl kc ok hk hok hf
  ·exact atake_b s c K rv W h hc hl kc ok hk hok hf

end Go.Proofs.YthhfnageadckkaaGreat
