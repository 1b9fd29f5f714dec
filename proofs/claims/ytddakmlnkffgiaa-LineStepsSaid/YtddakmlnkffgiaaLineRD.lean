/- Layer 12: is it a line, by the reference. -/
import Derived.Test.YtddakmlnkffgiaaLineRC
namespace Go.Proofs.Ytddakmlnkffgiaa
open Go.RowKit
set_option linter.unusedVariables false
set_option linter.unusedSimpArgs false
attribute [local go_sem] ite_max ite_min vite_max vite_min ext_cell ext_frozen extS_cell extS_frozen

theorem lineB_bad {ns ws : List CmdS} {k : Nat} {x : CmdS} (h : (ns ++ ws)[k]? = some x) (hm : modeB x.mode = false) : lineB ns ws = false := by
  unfold lineB
  rw [Bool.and_eq_false_iff]
  right
  simp only [Bool.not_eq_false', List.any_eq_true]
  exact ⟨x, List.mem_of_getElem? h, by simp [hm]⟩
theorem lineB_all {ns ws : List CmdS} (h : (ns ++ ws).any (fun x : CmdS => !modeB x.mode) = false) : lineB ns ws = decide (ns.length ≤ 1 ∧ ws.length ≤ 4 ∧ (ns.length = 0 → ws.length = 0)) := by
  unfold lineB
  rw [h]
  simp

set_option maxRecDepth 100000 in
set_option maxHeartbeats 4000000 in
theorem rright_at (ns ws : List CmdS) (v : Value) (base : Nat) (r : Bool) (w : World) (h : LineV w base ns ws v) (hn : ns.length ≤ 400) (hm : ws.length ≤ 400) (hr : lineB ns ws = r) :
    Calls Try.prog 33 #[v] w fun e w' => e = .returned (.bool r) ∧ Below w.heap.size w w' := by
  obtain ⟨a, b, rfl, ⟨A, c, rfl, h1, h2, h3, _⟩, ⟨D, d, rfl, k1, k2, k3, _⟩⟩ := h
  obtain ⟨i0, hi0, hz0, hz1, hz2⟩ := info_parts cmd_info
  have HI := Lib.hid hi0
  have HZ0 := Lib.hid hz0
  have HZ1 := Lib.hid hz1
  have HZ2 := Lib.hid hz2
  have HX := Lib.hid h3
  have HY := Lib.hid k3
  have HBAD : Hid (∀ (k : Nat) (x : CmdS), (ns ++ ws)[k]? = some x → modeB x.mode = false → r = false) := Lib.hid (fun k x hx hb => by rw [← hr]; exact lineB_bad hx hb)
  have HALL : Hid ((ns ++ ws).any (fun x : CmdS => !modeB x.mode) = false → r = decide (ns.length ≤ 1 ∧ ws.length ≤ 4 ∧ (ns.length = 0 → ws.length = 0))) := Lib.hid (fun hb => by rw [← hr]; exact lineB_all hb)
  have HNM := Lib.hid (show (ns ++ ws).length = ns.length + ws.length from List.length_append)
  have HCC := Lib.hid (cmdsC_append ns ws)
  obtain ⟨n, hn'⟩ : ∃ n, ns.length = n := ⟨_, rfl⟩
  obtain ⟨m, hm'⟩ : ∃ m, ws.length = m := ⟨_, rfl⟩
  rw [hn'] at HX hn h1 HALL HNM ⊢
  rw [hm'] at HY hm k1 HALL HNM ⊢
  clear h3 k3 hn' hm' hi0 hz0 hz1 hz2 hr
  go_enter Try.func33, Try.ntmps33
  go_wp2_with fail
  go_region_held3 (fun w' => w'.cell? ⟨w.heap.size, 0, none⟩ = some (.slice A n c) ∧ w'.cell? ⟨w.heap.size, 1, none⟩ = some (.slice D m d)) (go_keep)
    (first
      | (have o0 := (own_none (w.alloc (.cells #[.slice A n c, .slice D m d] 45)) (w.heap.size + 1) (w.heap.size + 1) 51 7 (by simp) (Nat.le_refl _)).drew; refine step_app rfl (.tmp 5) (.tmp 7) 43 rfl (w.heap.size + 1) 51 i0 (.agg #[.int .i64 0, .int .i64 0, .int .i64 0, .int .i64 0, .int .i64 0, .int .i64 0, .int .i64 0]) 7 56 Try.underlying43 HI.out HZ0.out HZ1.out HZ2.out rfl (by decide) (.slice (some ⟨w.heap.size + 1, 0, none⟩) 0 0) 0 [] rfl o0 w.heap.size A n c (cmdsC ns) rfl (HX.out.below (by (repeat' (first | (with_reducible exact Below.refl _ _) | (with_reducible assumption) | (with_reducible refine below_drewN ?_ _) | (with_reducible refine Below.drew ?_) | (with_reducible refine below_new ?_ (Nat.le_refl _) _) | (with_reducible refine Below.setCell ?_ ?_ _) | (with_reducible refine below_go ?_ (by assumption) (Nat.le_refl _)) | (simp; done) | (simp; omega) | omega)))) (cmdsC_one _) (by unfold maxLen; omega) (by omega) (by simp) ?_; intro A1 c1 w1 ho1 hg1; simp only [Nat.zero_add, List.nil_append] at ho1 ⊢; (have z1 : w.heap.size + 2 ≤ w1.heap.size := (by have := hg1.size; simp at this; omega)); (have k0 : w1.cell? ⟨w.heap.size, 0, none⟩ = some (.slice A n c) := (grown_cell (p := ⟨w.heap.size, 0, none⟩) o0 hg1 (Nat.lt_succ_self _) (by simp)).trans (by go_simp)); (have k1 : w1.cell? ⟨w.heap.size, 1, none⟩ = some (.slice D m d) := (grown_cell (p := ⟨w.heap.size, 1, none⟩) o0 hg1 (Nat.lt_succ_self _) (by simp)).trans (by go_simp)); (have HB1 : Below w.heap.size w w1 := below_grown (by (repeat' (first | (with_reducible exact Below.refl _ _) | (with_reducible assumption) | (with_reducible refine below_drewN ?_ _) | (with_reducible refine Below.drew ?_) | (with_reducible refine below_new ?_ (Nat.le_refl _) _) | (with_reducible refine Below.setCell ?_ ?_ _) | (with_reducible refine below_go ?_ (by assumption) (Nat.le_refl _)) | (simp; done) | (simp; omega) | omega))) hg1 o0 (Nat.le_succ _) (by simp; omega)); clear o0 hg1)
      | (refine step_app rfl (.tmp 8) (.tmp 10) 43 rfl (w.heap.size + 1) 51 i0 (.agg #[.int .i64 0, .int .i64 0, .int .i64 0, .int .i64 0, .int .i64 0, .int .i64 0, .int .i64 0]) 7 56 Try.underlying43 HI.out HZ0.out HZ1.out HZ2.out rfl (by decide) (.slice A1 n c1) n (cmdsC ns) rfl ho1 w.heap.size D m d (cmdsC ws) rfl (HY.out.below HB1) (cmdsC_one _) (by unfold maxLen; omega) (by omega) (by omega) ?_; intro A2 c2 w2 ho2 hg2; (have HB2 : Below w.heap.size w w2 := below_grown HB1 hg2 ho1 (Nat.le_succ _) (by omega)); (have k2 : w2.cell? ⟨w.heap.size, 0, none⟩ = some (.slice A n c) := (grown_cell (p := ⟨w.heap.size, 0, none⟩) ho1 hg2 (Nat.lt_succ_self _) (by omega)).trans k0); (have k3 : w2.cell? ⟨w.heap.size, 1, none⟩ = some (.slice D m d) := (grown_cell (p := ⟨w.heap.size, 1, none⟩) ho1 hg2 (Nat.lt_succ_self _) (by omega)).trans k1)))
  have HR2 : Hid (ReadC w2 (ns ++ ws).length (cmdsC (ns ++ ws)) 0 (.slice A2 (n + m) c2)) := Lib.hid (by
    rw [HCC.out, HNM.out]
    exact (ReadC.of_own ho2).base0 (Nat.zero_le _))
  have hz2 : w.heap.size < w2.heap.size := by
    have := hg2.size
    omega
  clear ho1 ho2 hg2 HX HY k0 k1 HB1
  go_wp2_with fail
  go_loopw [13] (fun u wr => ∃ k : Nat, k ≤ n + m ∧ u = .int .i64 k ∧ Hid (((ns ++ ws).take k).any (fun x : CmdS => !modeB x.mode) = false) ∧ Below w2.heap.size w2 wr) (fun u _ => n + m - (intOf u).toNat)
  case atStart => exact ⟨0, by omega, rfl, Lib.hid (by simp), Below.refl _ _⟩
  case round =>
    obtain ⟨k, hk, rfl, HK, hbr⟩ := hrel
    by_cases hlt : k < n + m
    · obtain ⟨A', c', e, q1, q2, q3, -⟩ := HR2.out
      injection e with e1 e2 e3
      subst e1 e3
      clear e2
      obtain ⟨b, off, x, e, hb, hxk, hcell⟩ := q3.cmd k (by rw [HNM.out]; exact hlt)
      subst e
      have hsucc := any_take (fun x : CmdS => !modeB x.mode) (ns ++ ws) k x hxk
      rw [HK.out, Bool.false_or] at hsucc
      have g0 := (hbr.cell (p := ⟨b, off + k * 7 + 0, none⟩) hb).trans (hcell 0 (by omega))
      have g1 := (hbr.cell (p := ⟨b, off + k * 7 + 1, none⟩) hb).trans (hcell 1 (by omega))
      have g2 := (hbr.cell (p := ⟨b, off + k * 7 + 2, none⟩) hb).trans (hcell 2 (by omega))
      have g3 := (hbr.cell (p := ⟨b, off + k * 7 + 3, none⟩) hb).trans (hcell 3 (by omega))
      have g4 := (hbr.cell (p := ⟨b, off + k * 7 + 4, none⟩) hb).trans (hcell 4 (by omega))
      have g5 := (hbr.cell (p := ⟨b, off + k * 7 + 5, none⟩) hb).trans (hcell 5 (by omega))
      have g6 := (hbr.cell (p := ⟨b, off + k * 7 + 6, none⟩) hb).trans (hcell 6 (by omega))
      have hbad := HBAD.out k x hxk
      obtain ⟨x0, x1, x2, x3, x4, x5, x6⟩ := x
      simp only [CmdS.cells, List.getElem?_cons_zero, List.getElem?_cons_succ, Nat.add_zero] at g0 g1 g2 g3 g4 g5 g6
      simp only at hsucc hbad
      have hk0 : (0 : Int) ≤ (k : Int) := by omega
      have hkn : (k : Int) < (n : Int) + (m : Int) := by omega
      have HS := Lib.hid hsucc
      have HBD := Lib.hid hbad
      have hz2' := Nat.le_of_lt hz2
      clear hcell hxk hsucc hbad HBAD HALL q1 q3
      cases hmd : modeB x4
      · rw [hmd] at HBD
        obtain rfl := HBD.out rfl
        clear HBD HS
        rcases modeB_no hmd with hx | ⟨hx, hx2⟩
        · clear hmd
          go_wp2
          go_ret
          exact ⟨rfl, HB2.trans (Below.mono (by (repeat' (first | (with_reducible exact Below.refl _ _) | (with_reducible assumption) | (with_reducible refine below_drewN ?_ _) | (with_reducible refine Below.drew ?_) | (with_reducible refine below_new ?_ (Nat.le_refl _) _) | (with_reducible refine Below.setCell ?_ ?_ _) | (with_reducible refine below_go ?_ (by assumption) (Nat.le_refl _)) | (simp; done) | (simp; omega) | omega))) hz2')⟩
        · clear hmd
          go_wp2
          go_ret
          exact ⟨rfl, HB2.trans (Below.mono (by (repeat' (first | (with_reducible exact Below.refl _ _) | (with_reducible assumption) | (with_reducible refine below_drewN ?_ _) | (with_reducible refine Below.drew ?_) | (with_reducible refine below_new ?_ (Nat.le_refl _) _) | (with_reducible refine Below.setCell ?_ ?_ _) | (with_reducible refine below_go ?_ (by assumption) (Nat.le_refl _)) | (simp; done) | (simp; omega) | omega))) hz2')⟩
      · rw [hmd] at HS
        have hx : 0 ≤ x4 ∧ x4 ≤ 5 := by
          unfold modeB at hmd
          simpa using hmd
        obtain ⟨hx1, hx2⟩ := hx
        clear hmd HBD
        go_wp2
        go_roundw
        case rel => exact ⟨k + 1, by omega, by go_num, HS, by (repeat' (first | (with_reducible exact Below.refl _ _) | (with_reducible assumption) | (with_reducible refine below_drewN ?_ _) | (with_reducible refine Below.drew ?_) | (with_reducible refine below_new ?_ (Nat.le_refl _) _) | (with_reducible refine Below.setCell ?_ ?_ _) | (with_reducible refine below_go ?_ (by assumption) (Nat.le_refl _)) | (simp; done) | (simp; omega) | omega))⟩
        case measure => simp [intOf]; omega
    · obtain rfl : k = n + m := by omega
      have hr := HALL.out (by have := HK.out; rwa [List.take_of_length_le (by rw [HNM.out]; exact Nat.le_refl _)] at this)
      have j0 := (hbr.cell (p := ⟨w.heap.size, 0, none⟩) hz2).trans k2
      have j1 := (hbr.cell (p := ⟨w.heap.size, 1, none⟩) hz2).trans k3
      have HEND : Hid (Below w.heap.size w wr) := Lib.hid (HB2.trans (hbr.mono (Nat.le_of_lt hz2)))
      clear HR2 HBAD HALL HK
      have hcase : 1 < n ∨ (n ≤ 1 ∧ 4 < m) ∨ (n = 0 ∧ 0 < m ∧ m ≤ 4) ∨ (n = 1 ∧ m ≤ 4) ∨ (n = 0 ∧ m = 0) := by omega
      rcases hcase with hc | ⟨hc, hc2⟩ | ⟨rfl, hc, hc2⟩ | ⟨rfl, hc⟩ | ⟨rfl, rfl⟩
      · obtain rfl : r = false := by rw [hr]; exact decide_eq_false (by omega)
        have i1 : ¬ n ≤ 1 := by omega
        clear hr
        go_wp2
        go_ret
        exact ⟨rfl, HEND.out⟩
      · obtain rfl : r = false := by rw [hr]; exact decide_eq_false (by omega)
        have i2 : ¬ m ≤ 4 := by omega
        clear hr
        go_wp2
        go_ret
        exact ⟨rfl, HEND.out⟩
      · obtain rfl : r = false := by rw [hr]; exact decide_eq_false (by omega)
        have i3 : ((m : Int) == 0) = false := by simp; omega
        clear hr
        go_wp2
        go_ret
        exact ⟨rfl, HEND.out⟩
      · obtain rfl : r = true := by rw [hr]; exact decide_eq_true (by omega)
        clear hr
        go_wp2
        go_ret
        exact ⟨rfl, HEND.out⟩
      · obtain rfl : r = true := by rw [hr]; exact decide_eq_true (by omega)
        clear hr
        go_wp2
        go_ret
        exact ⟨rfl, HEND.out⟩

end Go.Proofs.Ytddakmlnkffgiaa
