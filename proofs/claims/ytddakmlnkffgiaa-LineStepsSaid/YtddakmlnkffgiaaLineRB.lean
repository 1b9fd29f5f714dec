/- Layer 12, the reference: the IDs of a list; are two lists, two lines the same. -/
import Derived.Test.YtddakmlnkffgiaaLineRA
import Derived.BigQuiet
namespace Go.Proofs.Ytddakmlnkffgiaa
open Go.RowKit
set_option linter.unusedVariables false
set_option linter.unusedSimpArgs false
attribute [local go_sem] ite_max ite_min vite_max vite_min ext_cell ext_frozen extS_cell extS_frozen

set_option maxRecDepth 100000 in
set_option maxHeartbeats 2000000 in
theorem rids_at (xs : List CmdS) (v : Value) (base : Nat) (w : World) (h : ReadC w xs.length (cmdsC xs) base v) (hn : xs.length ≤ 800) :
    Calls Try.prog 40 #[v] w fun e w' => RowI w w' xs e ∧ Below w.heap.size w w' := by
  obtain ⟨A, c, rfl, h1, h2, h3, -⟩ := h
  have hinf : (Try.prog.info? 3).map (fun i => (i.zero, i.size, i.bytes)) = some (some (.int .i64 0), 1, 8) := by kernel_rfl
  obtain ⟨i0, hi0, hz0, hz1, hz2⟩ := info_parts hinf
  have HI := Lib.hid hi0
  have HZ0 := Lib.hid hz0
  have HZ1 := Lib.hid hz1
  have HZ2 := Lib.hid hz2
  have HX := Lib.hid h3
  obtain ⟨n, hlen⟩ : ∃ n, xs.length = n := ⟨_, rfl⟩
  have hfin : Hid (∀ w' v, w'.ownsRow w.heap.size 3 1 v n (idsC (xs.take n)) → RowI w w' xs (.returned v)) := Lib.hid (fun w' v ho => by
    rw [List.take_of_length_le (by omega)] at ho
    exact ⟨v, rfl, by rw [hlen]; exact ho⟩)
  rw [hlen] at hn h1 ⊢
  have HL := Lib.hid hlen
  clear h3 hlen hinf hi0 hz0 hz1 hz2
  go_enter Try.func40, Try.ntmps40
  go_wp2_with fail
  go_loopw [3, 4] (fun v u wr => ∃ (k : Nat) (v' : Value), v' = v ∧ k ≤ n ∧ u = .int .i64 k ∧ Hid (wr.ownsRow w.heap.size 3 1 v' k (idsC (xs.take k))) ∧ Below w.heap.size w wr) (fun _ u _ => n - (intOf u).toNat)
  case atStart => exact ⟨0, _, rfl, by omega, rfl, Lib.hid (World.ownsRow_nil _ _ _ _), Below.refl _ _⟩
  case round =>
    obtain ⟨k, v', rfl, hk, rfl, HO, hbr⟩ := hrel
    by_cases hlt : k < n
    · obtain ⟨b, off, x, rfl, hb, hxk, hcell⟩ := HX.out.cmd k (by rw [HL.out]; exact hlt)
      have hsucc := idsC_take xs k x hxk
      have g0 := (hbr.cell (p := ⟨b, off + k * 7 + 0, none⟩) hb).trans (hcell 0 (by omega))
      obtain ⟨x0, x1, x2, x3, x4, x5, x6⟩ := x
      simp only [CmdS.cells, List.getElem?_cons_zero, List.getElem?_cons_succ, Nat.add_zero] at g0
      have hk0 : (0 : Int) ≤ (k : Int) := by omega
      have hkn : (k : Int) < (n : Int) := by omega
      have HS := Lib.hid hsucc
      have hbs := hbr.size
      clear hcell hxk hsucc
      go_wp2_with (at_builtin; refine wpList_append_own _ rfl _ _ 27 rfl w.heap.size 3 i0 (.int .i64 0) 1 8 Try.underlying27 HI.out HZ0.out HZ1.out HZ2.out rfl (by decide) _ k _ rfl (HO.out.alloc _) ⟨wr.heap.size, 0, none⟩ 1 1 [.int .i64 x0] rfl rfl ?c4 (one_cell _ rfl) ?c1 ?c2 ?c3 ?_)
      case c1 => unfold maxLen; omega
      case c2 => omega
      case c3 => omega
      intro v2 w2 hown2 hgrow _
      have HO2 : Hid (w2.ownsRow w.heap.size 3 1 v2 (k + 1) (idsC (xs.take (k + 1)))) := Lib.hid (by rw [HS.out]; exact hown2)
      have hb2 : Below w.heap.size w w2 := below_grown (below_new hbr (Nat.le_refl _) _) hgrow (HO.out.alloc _) (Nat.le_refl _) (by simp; omega)
      clear hown2 hgrow HO g0
      go_wp2
      go_roundw
      case rel => exact ⟨k + 1, _, rfl, by omega, by go_num, HO2, hb2⟩
      case measure => simp [intOf]; omega
    · obtain rfl : k = n := by omega
      go_wp2
      go_ret
      exact ⟨hfin.out _ _ HO.out, hbr⟩

set_option maxRecDepth 100000 in
set_option maxHeartbeats 1000000 in
theorem samelist_at (xs : List CmdS) (v u : Value) (b1 b2 : Nat) (w : World) (h : ReadC w xs.length (cmdsC xs) b1 v) (h' : ReadC w xs.length (cmdsC xs) b2 u) :
    Calls Try.prog 61 #[v, u] w fun e w' => e = .returned (.bool true) ∧ Below w.heap.size w w' := by
  obtain ⟨A, c, rfl, q1, q2, q3, -⟩ := h
  obtain ⟨D, d, rfl, p1, p2, p3, -⟩ := h'
  have HX := Lib.hid q3
  have HY := Lib.hid p3
  obtain ⟨n, hlen⟩ : ∃ n, xs.length = n := ⟨_, rfl⟩
  rw [hlen] at q1 p1 ⊢
  have HL := Lib.hid hlen
  clear q3 p3 hlen
  go_enter Try.func61, Try.ntmps61
  go_wp2_with fail
  go_loopw [5] (fun u wr => ∃ k : Nat, k ≤ n ∧ u = .int .i64 k ∧ Below w.heap.size w wr) (fun u _ => n - (intOf u).toNat)
  case atStart => exact ⟨0, by omega, rfl, Below.refl _ _⟩
  case round =>
    obtain ⟨k, hk, rfl, hbr⟩ := hrel
    by_cases hlt : k < n
    · obtain ⟨b, off, x, rfl, hb, hxk, hcell⟩ := HX.out.cmd k (by rw [HL.out]; exact hlt)
      obtain ⟨b', off', y, rfl, hb', hyk, hcell'⟩ := HY.out.cmd k (by rw [HL.out]; exact hlt)
      obtain rfl : x = y := by rw [hxk] at hyk; exact Option.some.inj hyk
      have g0 := (hbr.cell (p := ⟨b, off + k * 7 + 0, none⟩) hb).trans (hcell 0 (by omega))
      have g1 := (hbr.cell (p := ⟨b, off + k * 7 + 1, none⟩) hb).trans (hcell 1 (by omega))
      have g2 := (hbr.cell (p := ⟨b, off + k * 7 + 2, none⟩) hb).trans (hcell 2 (by omega))
      have g3 := (hbr.cell (p := ⟨b, off + k * 7 + 3, none⟩) hb).trans (hcell 3 (by omega))
      have g4 := (hbr.cell (p := ⟨b, off + k * 7 + 4, none⟩) hb).trans (hcell 4 (by omega))
      have g5 := (hbr.cell (p := ⟨b, off + k * 7 + 5, none⟩) hb).trans (hcell 5 (by omega))
      have g6 := (hbr.cell (p := ⟨b, off + k * 7 + 6, none⟩) hb).trans (hcell 6 (by omega))
      have f0 := (hbr.cell (p := ⟨b', off' + k * 7 + 0, none⟩) hb').trans (hcell' 0 (by omega))
      have f1 := (hbr.cell (p := ⟨b', off' + k * 7 + 1, none⟩) hb').trans (hcell' 1 (by omega))
      have f2 := (hbr.cell (p := ⟨b', off' + k * 7 + 2, none⟩) hb').trans (hcell' 2 (by omega))
      have f3 := (hbr.cell (p := ⟨b', off' + k * 7 + 3, none⟩) hb').trans (hcell' 3 (by omega))
      have f4 := (hbr.cell (p := ⟨b', off' + k * 7 + 4, none⟩) hb').trans (hcell' 4 (by omega))
      have f5 := (hbr.cell (p := ⟨b', off' + k * 7 + 5, none⟩) hb').trans (hcell' 5 (by omega))
      have f6 := (hbr.cell (p := ⟨b', off' + k * 7 + 6, none⟩) hb').trans (hcell' 6 (by omega))
      obtain ⟨x0, x1, x2, x3, x4, x5, x6⟩ := x
      simp only [CmdS.cells, List.getElem?_cons_zero, List.getElem?_cons_succ, Nat.add_zero] at g0 g1 g2 g3 g4 g5 g6 f0 f1 f2 f3 f4 f5 f6
      have hk0 : (0 : Int) ≤ (k : Int) := by omega
      have hkn : (k : Int) < (n : Int) := by omega
      clear hcell hcell' hxk hyk
      go_wp2_with fail
      go_quiet (fail)
      go_wp2
      go_roundw
      case rel => exact ⟨k + 1, by omega, by go_num, by (repeat' (first | (with_reducible exact Below.refl _ _) | (with_reducible assumption) | (with_reducible refine below_drewN ?_ _) | (with_reducible refine Below.drew ?_) | (with_reducible refine below_new ?_ (Nat.le_refl _) _) | (with_reducible refine Below.setCell ?_ ?_ _) | (with_reducible refine below_go ?_ (by assumption) (Nat.le_refl _)) | (simp; done) | (simp; omega) | omega))⟩
      case measure => simp [intOf]; omega
    · obtain rfl : k = n := by omega
      go_wp2
      go_ret
      exact ⟨rfl, hbr⟩

set_option maxRecDepth 100000 in
set_option maxHeartbeats 1000000 in
theorem same_at (ns ws : List CmdS) (v u : Value) (b1 b2 : Nat) (w : World) (h : LineV w b1 ns ws v) (h' : LineV w b2 ns ws u) :
    Calls Try.prog 35 #[v, u] w fun e w' => e = .returned (.bool true) ∧ Below w.heap.size w w' := by
  obtain ⟨a1, a2, rfl, r1, r2⟩ := h
  obtain ⟨a3, a4, rfl, r3, r4⟩ := h'
  have H1 := Lib.hid r1
  have H2 := Lib.hid r2
  have H3 := Lib.hid r3
  have H4 := Lib.hid r4
  obtain ⟨A1, c1, rfl, -⟩ := r1
  obtain ⟨A2, c2, rfl, -⟩ := r2
  obtain ⟨A3, c3, rfl, -⟩ := r3
  obtain ⟨A4, c4, rfl, -⟩ := r4
  have HC1 := Lib.hid (fun (W : World) (hb : Below w.heap.size w W) => samelist_at ns _ _ _ _ W (H1.out.below hb) (H3.out.below hb))
  have HC2 := Lib.hid (fun (W : World) (hb : Below w.heap.size w W) => samelist_at ws _ _ _ _ W (H2.out.below hb) (H4.out.below hb))
  clear H1 H2 H3 H4
  generalize ns.length = n at *
  generalize ws.length = m at *
  go_enter Try.func35, Try.ntmps35
  go_wp2_with fail
  (with_reducible refine (HC1.out _ ?b1).mono ?_)
  case b1 => (repeat' (first | (with_reducible exact Below.refl _ _) | (with_reducible assumption) | (with_reducible refine below_drewN ?_ _) | (with_reducible refine Below.drew ?_) | (with_reducible refine below_new ?_ (Nat.le_refl _) _) | (with_reducible refine Below.setCell ?_ ?_ _) | (with_reducible refine below_go ?_ (by assumption) (Nat.le_refl _)) | (simp; done) | (simp; omega) | omega))
  rintro e w1 ⟨rfl, hb1⟩
  obtain ⟨hb1c, hb1f⟩ := bcell hb1
  have hb1z := hb1.size
  have hb1c0 := fun o => hb1c (w.heap.size) o (by first | (simp; done) | (simp; omega) | (simp at *; omega) | omega)
  have hb1f0 := fun o => hb1f (w.heap.size) o (by first | (simp; done) | (simp; omega) | (simp at *; omega) | omega)
  have hb1l0 := below_lt (b := w.heap.size) hb1 (by first | (simp; done) | (simp; omega) | (simp at *; omega) | omega)
  have hb1c1 := fun o => hb1c (w.heap.size + 1) o (by first | (simp; done) | (simp; omega) | (simp at *; omega) | omega)
  have hb1f1 := fun o => hb1f (w.heap.size + 1) o (by first | (simp; done) | (simp; omega) | (simp at *; omega) | omega)
  have hb1l1 := below_lt (b := w.heap.size + 1) hb1 (by first | (simp; done) | (simp; omega) | (simp at *; omega) | omega)
  have hB1 : Below w.heap.size w w1 := by (repeat' (first | (with_reducible exact Below.refl _ _) | (with_reducible assumption) | (with_reducible refine below_drewN ?_ _) | (with_reducible refine Below.drew ?_) | (with_reducible refine below_new ?_ (Nat.le_refl _) _) | (with_reducible refine Below.setCell ?_ ?_ _) | (with_reducible refine below_go ?_ (by assumption) (Nat.le_refl _)) | (simp; done) | (simp; omega) | omega))
  clear hb1
  go_wp2_with fail
  (with_reducible refine (HC2.out _ hB1).mono ?_)
  rintro e w2 ⟨rfl, hb2⟩
  go_wp2
  go_ret
  exact ⟨rfl, by (repeat' (first | (with_reducible exact Below.refl _ _) | (with_reducible assumption) | (with_reducible refine below_drewN ?_ _) | (with_reducible refine Below.drew ?_) | (with_reducible refine below_new ?_ (Nat.le_refl _) _) | (with_reducible refine Below.setCell ?_ ?_ _) | (with_reducible refine below_go ?_ (by assumption) (Nat.le_refl _)) | (simp; done) | (simp; omega) | omega))⟩
end Go.Proofs.Ytddakmlnkffgiaa
