/- Layer 12, the reference: the line of a list. -/
import Derived.Test.YtddakmlnkffgiaaLineRB
import Derived.Deep.RegionLaw
namespace Go.Proofs.Ytddakmlnkffgiaa
open Go.RowKit
set_option linter.unusedVariables false
set_option linter.unusedSimpArgs false
attribute [local go_sem] ite_max ite_min vite_max vite_min ext_cell ext_frozen extS_cell extS_frozen

/-- one command that was just laid -/
theorem one_new (x0 x1 x2 x3 x4 x5 x6 : Int) (w : World) (T : TypeId) (H : Nat) (hH : w.heap.size = H) :
    Lies (w.alloc (.cells #[.int .i64 x0, .int .i64 x1, .int .i64 x2, .int .i64 x3, .int .i64 x4, .int .i64 x5, .int .i64 x6] T)) (H + 1) 7 (some ⟨H, 0, none⟩) 1 (cmdsC [⟨x0, x1, x2, x3, x4, x5, x6⟩]) := by
  subst hH
  refine ⟨rfl, fun _ => ⟨w.heap.size, 0, rfl, Nat.lt_succ_self _, fun j u hu => ?_⟩⟩
  rw [Nat.zero_add]
  refine heap_cell j _ (heap_alloc_new w _) ?_
  rw [List.getElem?_toArray]
  exact hu
/-- the memory of 'Of' in its loop: the line's two cells (block B), what is laid of the list -/
structure OfS (w wr : World) (B k : Nat) (xs : List CmdS) (a b : Value) : Prop where
  bel : Below w.heap.size w wr
  lt : B < wr.heap.size
  c0 : wr.cell? ⟨B, 0, none⟩ = some a
  c1 : wr.cell? ⟨B, 1, none⟩ = some b
  fr : ∀ o, wr.frozen? ⟨B, o, none⟩ = false
def OfNow (wr : World) (B H : Nat) (xs : List CmdS) (a : Value) : Prop := ∃ A c, a = .slice A 1 c ∧ 1 ≤ c ∧ c ≤ 9223372036854775807 ∧ Lies wr H 7 A 1 (cmdsC (xs.take 1)) ∧ (∀ b o, A = some ⟨b, o, none⟩ → B ≤ b) ∧ B ≤ H ∧ H ≤ wr.heap.size
theorem OfNow.step {wr w' : World} {B H : Nat} {xs : List CmdS} {a : Value} (h : OfNow wr B H xs a) (hk : ∀ p : Addr, B ≤ p.block → p.block < H → w'.cell? p = wr.cell? p) (hs : H ≤ w'.heap.size) : OfNow w' B H xs a := by
  obtain ⟨A, c, rfl, h1, h2, h3, h4, h5, h6⟩ := h
  refine ⟨A, c, rfl, h1, h2, ⟨h3.1, fun hn => ?_⟩, h4, h5, hs⟩
  obtain ⟨b, off, e, hb, hc⟩ := h3.2 hn
  exact ⟨b, off, e, hb, fun j u hu => (hk ⟨b, off + j, none⟩ (h4 b off e) hb).trans (hc j u hu)⟩
theorem take_one {xs : List CmdS} {x : CmdS} (h : xs[0]? = some x) : xs.take 1 = [x] := by
  cases xs with
  | nil => simp at h
  | cons y ys => simp at h; subst h; rfl
theorem cmdsC_snoc (xs : List CmdS) (k : Nat) (x : CmdS) (h : xs[k]? = some x) : cmdsC (xs.take (k + 1)) = cmdsC (xs.take k) ++ cmdsC [x] := by
  have hk : k < xs.length := (List.getElem?_eq_some_iff.1 h).1
  rw [List.take_succ_eq_append_getElem hk, cmdsC_append]
  have : xs[k] = x := by
    rw [List.getElem?_eq_getElem hk] at h
    exact Option.some.inj h
  rw [this]
theorem cmdsC_drop (xs : List CmdS) (k : Nat) (x : CmdS) (h : xs[k + 1]? = some x) : cmdsC ((xs.drop 1).take (k + 1)) = cmdsC ((xs.drop 1).take k) ++ cmdsC [x] := cmdsC_snoc (xs.drop 1) k x (by rw [List.getElem?_drop, Nat.add_comm]; exact h)

set_option maxRecDepth 100000 in
set_option maxHeartbeats 4000000 in
theorem rof_at (xs t1 t2 : List CmdS) (v : Value) (base : Nat) (w : World) (h : ReadC w xs.length (cmdsC xs) base v) (hn : xs.length ≤ 400) (ht1 : xs.take 1 = t1) (ht2 : xs.drop 1 = t2) :
    Calls Try.prog 41 #[v] w fun e w' => RetL w w' t1 t2 e ∧ Below w.heap.size w w' := by
  obtain ⟨A, c, rfl, h1, h2, h3, -⟩ := h
  obtain ⟨i0, hi0, hz0, hz1, hz2⟩ := info_parts cmd_info
  have HI := Lib.hid hi0
  have HZ0 := Lib.hid hz0
  have HZ1 := Lib.hid hz1
  have HZ2 := Lib.hid hz2
  have HX := Lib.hid h3
  have HT1 := Lib.hid ht1
  have HT2 := Lib.hid ht2
  obtain ⟨n, hlen⟩ : ∃ n, xs.length = n := ⟨_, rfl⟩
  rw [hlen] at hn h1 ⊢
  have HL := Lib.hid hlen
  clear h3 hlen hi0 hz0 hz1 hz2 ht1 ht2
  go_enter Try.func41, Try.ntmps41
  go_wp2_with fail
  go_loopw [4] (fun u wr => ∃ (k : Nat) (a b : Value), k ≤ n ∧ u = .int .i64 k ∧ Hid (OfS w wr (w.heap.size + 1) k xs a b) ∧ Hid ((∀ o, wr.frozen? ⟨w.heap.size, o, none⟩ = false) ∧ wr.cell? ⟨w.heap.size, 0, none⟩ = some (.slice none 0 0) ∧ wr.cell? ⟨w.heap.size, 1, none⟩ = some (.slice none 0 0)) ∧ ((k = 0 ∧ a = .slice none 0 0 ∧ b = .slice none 0 0) ∨ ∃ H q, k = q + 1 ∧ Hid (OfNow wr (w.heap.size + 2) H xs a) ∧ Hid (wr.ownsRow H 51 7 b q (cmdsC ((xs.drop 1).take q))))) (fun u _ => n - (intOf u).toNat)
  case atStart => exact ⟨0, _, _, by omega, rfl, Lib.hid ⟨by (repeat' (first | (with_reducible exact Below.refl _ _) | (with_reducible assumption) | (with_reducible refine below_drewN ?_ _) | (with_reducible refine Below.drew ?_) | (with_reducible refine below_new ?_ (Nat.le_refl _) _) | (with_reducible refine Below.setCell ?_ ?_ _) | (with_reducible refine below_go ?_ (by assumption) (Nat.le_refl _)) | (simp; done) | (simp; omega) | omega)), by simp, by go_simp, by go_simp, fun o => by go_simp⟩, Lib.hid ⟨fun o => by go_simp, by go_simp, by go_simp⟩, Or.inl ⟨rfl, rfl, rfl⟩⟩
  case round =>
    obtain ⟨k, a, b, hk, rfl, HS, HF, hcase⟩ := hrel
    have l0 := HS.out.c0
    have l1 := HS.out.c1
    have lf := HS.out.fr
    have hbr := HS.out.bel
    have hlB := HS.out.lt
    have rf := HF.out.1
    have r0 := HF.out.2.1
    have r1 := HF.out.2.2
    have hz : w.heap.size < wr.heap.size := by omega
    by_cases hlt : k < n
    · obtain ⟨b1, off, x, rfl, hb, hxk, hcell⟩ := HX.out.cmd k (by rw [HL.out]; exact hlt)
      have g0 := (hbr.cell (p := ⟨b1, off + k * 7 + 0, none⟩) hb).trans (hcell 0 (by omega))
      have g1 := (hbr.cell (p := ⟨b1, off + k * 7 + 1, none⟩) hb).trans (hcell 1 (by omega))
      have g2 := (hbr.cell (p := ⟨b1, off + k * 7 + 2, none⟩) hb).trans (hcell 2 (by omega))
      have g3 := (hbr.cell (p := ⟨b1, off + k * 7 + 3, none⟩) hb).trans (hcell 3 (by omega))
      have g4 := (hbr.cell (p := ⟨b1, off + k * 7 + 4, none⟩) hb).trans (hcell 4 (by omega))
      have g5 := (hbr.cell (p := ⟨b1, off + k * 7 + 5, none⟩) hb).trans (hcell 5 (by omega))
      have g6 := (hbr.cell (p := ⟨b1, off + k * 7 + 6, none⟩) hb).trans (hcell 6 (by omega))
      have hk0 : (0 : Int) ≤ (k : Int) := by omega
      have hkn : (k : Int) < (n : Int) := by omega
      have HXK := Lib.hid hxk
      clear hcell hxk
      obtain ⟨x0, x1, x2, x3, x4, x5, x6⟩ := x
      simp only [CmdS.cells, List.getElem?_cons_zero, List.getElem?_cons_succ, Nat.add_zero] at g0 g1 g2 g3 g4 g5 g6
      have hbz : b1 < wr.heap.size := Nat.lt_of_lt_of_le hb hbr.size
      have hnb : ¬ b1 = w.heap.size + 1 := by omega
      have hnb2 : ¬ w.heap.size + 1 = b1 := by omega
      rcases hcase with ⟨rfl, rfl, rfl⟩ | ⟨H, q, rfl, HN, HO⟩
      · simp only [Nat.zero_mul, Nat.add_zero] at g0 g1 g2 g3 g4 g5 g6
        go_wp2_with fail
        go_region_law (first
            | (have o0 := (World.ownsRow_nil (wr.alloc (.cells #[.int .i64 x0, .int .i64 x1, .int .i64 x2, .int .i64 x3, .int .i64 x4, .int .i64 x5, .int .i64 x6] 51)).drew wr.heap.size 51 7); refine step_app rfl (.tmp 14) (.tmp 19) 43 rfl wr.heap.size 51 i0 (.agg #[.int .i64 0, .int .i64 0, .int .i64 0, .int .i64 0, .int .i64 0, .int .i64 0, .int .i64 0]) 7 56 Try.underlying43 HI.out HZ0.out HZ1.out HZ2.out rfl (by decide) (.slice none 0 0) 0 [] rfl o0 (wr.heap.size + 1) (some ⟨wr.heap.size, 0, none⟩) 1 1 (cmdsC [⟨x0, x1, x2, x3, x4, x5, x6⟩]) rfl ((one_new x0 x1 x2 x3 x4 x5 x6 wr 51 wr.heap.size rfl).turn (fun _ _ _ => rfl)) (cmdsC_one _) (by unfold maxLen; omega) (by omega) (by simp) ?_; intro A1 c1 w1 ho1 hg1; simp only [Nat.zero_add, List.nil_append] at ho1 ⊢; (have kk : ∀ p : Addr, p.block < wr.heap.size → w1.cell? p = wr.cell? p := fun p hp => (grown_cell o0 hg1 hp (by first | (simp; done) | (simp; omega))).trans ((Below.refl wr.heap.size wr).alloc (Nat.le_refl _) _ |>.cell (Nat.lt_of_lt_of_le hp (by omega)))); (have kf : ∀ p : Addr, p.block < wr.heap.size → w1.frozen? p = wr.frozen? p := fun p hp => (grown_frozen o0 hg1 hp (by first | (simp; done) | (simp; omega))).trans ((Below.refl wr.heap.size wr).alloc (Nat.le_refl _) _ |>.frozen (Nat.lt_of_lt_of_le hp (by omega)))); (have z1 : wr.heap.size + 1 ≤ w1.heap.size := (by have := hg1.size; simp at this; omega)); (have m0 : w1.cell? ⟨b1, off, none⟩ = some (.int .i64 x0) := (kk ⟨b1, off, none⟩ (by first | (simp; done) | (simp; omega))).trans (g0)); (have m1 : w1.cell? ⟨b1, off + 1, none⟩ = some (.int .i64 x1) := (kk ⟨b1, off + 1, none⟩ (by first | (simp; done) | (simp; omega))).trans (g1)); (have m2 : w1.cell? ⟨b1, off + 2, none⟩ = some (.int .i64 x2) := (kk ⟨b1, off + 2, none⟩ (by first | (simp; done) | (simp; omega))).trans (g2)); (have m3 : w1.cell? ⟨b1, off + 3, none⟩ = some (.int .i64 x3) := (kk ⟨b1, off + 3, none⟩ (by first | (simp; done) | (simp; omega))).trans (g3)); (have m4 : w1.cell? ⟨b1, off + 4, none⟩ = some (.int .i64 x4) := (kk ⟨b1, off + 4, none⟩ (by first | (simp; done) | (simp; omega))).trans (g4)); (have m5 : w1.cell? ⟨b1, off + 5, none⟩ = some (.int .i64 x5) := (kk ⟨b1, off + 5, none⟩ (by first | (simp; done) | (simp; omega))).trans (g5)); (have m6 : w1.cell? ⟨b1, off + 6, none⟩ = some (.int .i64 x6) := (kk ⟨b1, off + 6, none⟩ (by first | (simp; done) | (simp; omega))).trans (g6)); (have j0 : w1.cell? ⟨w.heap.size + 1, 0, none⟩ = some (.slice none 0 0) := (kk ⟨w.heap.size + 1, 0, none⟩ (by first | (simp; done) | (simp; omega))).trans (l0)); (have j1 : w1.cell? ⟨w.heap.size + 1, 1, none⟩ = some (.slice none 0 0) := (kk ⟨w.heap.size + 1, 1, none⟩ (by first | (simp; done) | (simp; omega))).trans (l1)); (have q0 : w1.cell? ⟨w.heap.size, 0, none⟩ = some (.slice none 0 0) := (kk ⟨w.heap.size, 0, none⟩ (by first | (simp; done) | (simp; omega))).trans (r0)); (have q1 : w1.cell? ⟨w.heap.size, 1, none⟩ = some (.slice none 0 0) := (kk ⟨w.heap.size, 1, none⟩ (by first | (simp; done) | (simp; omega))).trans (r1)); (have jf : ∀ o, w1.frozen? ⟨w.heap.size + 1, o, none⟩ = false := fun o => (kf ⟨w.heap.size + 1, o, none⟩ (by first | (simp; done) | (simp; omega))).trans (lf o)); (have qf : ∀ o, w1.frozen? ⟨w.heap.size, o, none⟩ = false := fun o => (kf ⟨w.heap.size, o, none⟩ (by first | (simp; done) | (simp; omega))).trans (rf o)); (have HB1 : Below w.heap.size w w1 := below_grown (by (repeat' (first | (with_reducible exact Below.refl _ _) | (with_reducible assumption) | (with_reducible refine below_drewN ?_ _) | (with_reducible refine Below.drew ?_) | (with_reducible refine below_new ?_ (Nat.le_refl _) _) | (with_reducible refine Below.setCell ?_ ?_ _) | (with_reducible refine below_go ?_ (by assumption) (Nat.le_refl _)) | (simp; done) | (simp; omega) | omega))) hg1 o0 (by omega) (by first | (simp; done) | (simp; omega))); clear o0 hg1))
        all_goals
          have HOWN := Lib.hid ho1
          have HKK := Lib.hid kk
          clear kk kf ho1
          go_wp2_with fail
          go_roundw
          (case rel =>
            have hb1 := HB1
            refine ⟨1, .slice A1 1 c1, .slice none 0 0, by omega, by go_num, Lib.hid ⟨?_, ?_, ?_, ?_, ?_⟩, Lib.hid ⟨?_, ?_, ?_⟩, Or.inr ⟨w1.heap.size, 0, rfl, Lib.hid ?_, Lib.hid (World.ownsRow_nil _ _ _ _)⟩⟩
            · (repeat' (first | (with_reducible exact Below.refl _ _) | (with_reducible assumption) | (with_reducible refine below_drewN ?_ _) | (with_reducible refine Below.drew ?_) | (with_reducible refine below_new ?_ (Nat.le_refl _) _) | (with_reducible refine Below.setCell ?_ ?_ _) | (with_reducible refine below_go ?_ (by assumption) (Nat.le_refl _)) | (simp; done) | (simp; omega) | omega))
            · simp; omega
            · go_simp
            · go_simp
            · intro o; go_simp
            · intro o; go_simp
            · go_simp
            · go_simp
            · have hset := ownsRow_setCell_below HOWN.out (a := ⟨w.heap.size + 1, 0, none⟩) (by first | (simp; done) | (simp; omega)) (.slice A1 1 c1)
              obtain ⟨_, _, e, y1, y2, y3⟩ := own_form HOWN.out
              cases e
              unfold maxLen at y2
              have hlies := Lies.own hset
              exact ⟨_, _, rfl, y1, by omega, by rw [take_one HXK.out]; simpa using hlies, fun b o he => Nat.le_trans (by omega) (y3 b o none he), by omega, by simp⟩)
          (case measure => simp [intOf]; omega)
      · obtain ⟨D, d, rfl, y1, y2, -⟩ := own_form HO.out
        obtain ⟨A, c1, rfl, z1, z2, z3, z4, z5, z6⟩ := HN.out
        unfold maxLen at y2
        have hqI : ((q + 1 : Nat) : Int) = (q : Int) + 1 := by omega
        have hk1 : ¬ ((q : Int) + 1 = 0) := by omega
        simp only [hqI] at hk0 hkn ⊢
        obtain ⟨OF, hOF⟩ : ∃ O, off + (q + 1) * 7 = O := ⟨_, rfl⟩
        simp only [hOF] at g0 g1 g2 g3 g4 g5 g6
        have HOF := Lib.hid hOF
        go_wp2_with fail
        go_region_law (first
            | (have o0 := (HO.out.alloc (.cells #[.int .i64 x0, .int .i64 x1, .int .i64 x2, .int .i64 x3, .int .i64 x4, .int .i64 x5, .int .i64 x6] 51)).drew; refine step_app rfl (.tmp 23) (.tmp 28) 43 rfl H 51 i0 (.agg #[.int .i64 0, .int .i64 0, .int .i64 0, .int .i64 0, .int .i64 0, .int .i64 0, .int .i64 0]) 7 56 Try.underlying43 HI.out HZ0.out HZ1.out HZ2.out rfl (by decide) (.slice D q d) q (cmdsC ((xs.drop 1).take q)) rfl o0 (wr.heap.size + 1) (some ⟨wr.heap.size, 0, none⟩) 1 1 (cmdsC [⟨x0, x1, x2, x3, x4, x5, x6⟩]) rfl ((one_new x0 x1 x2 x3 x4 x5 x6 wr 51 wr.heap.size rfl).turn (fun _ _ _ => rfl)) (cmdsC_one _) (by unfold maxLen; omega) (by omega) (by first | (simp; done) | (simp; omega)) ?_; intro D1 d1 w1 ho1 hg1; (have kk : ∀ p : Addr, p.block < H → w1.cell? p = wr.cell? p := fun p hp => (grown_cell o0 hg1 hp (by first | (simp; done) | (simp; omega))).trans ((Below.refl wr.heap.size wr).alloc (Nat.le_refl _) _ |>.cell (Nat.lt_of_lt_of_le hp (by omega)))); (have kf : ∀ p : Addr, p.block < H → w1.frozen? p = wr.frozen? p := fun p hp => (grown_frozen o0 hg1 hp (by first | (simp; done) | (simp; omega))).trans ((Below.refl wr.heap.size wr).alloc (Nat.le_refl _) _ |>.frozen (Nat.lt_of_lt_of_le hp (by omega)))); (have z1 : wr.heap.size + 1 ≤ w1.heap.size := (by have := hg1.size; simp at this; omega)); (have m0 : w1.cell? ⟨b1, OF, none⟩ = some (.int .i64 x0) := (kk ⟨b1, OF, none⟩ (by first | (simp; done) | (simp; omega))).trans (g0)); (have m1 : w1.cell? ⟨b1, OF + 1, none⟩ = some (.int .i64 x1) := (kk ⟨b1, OF + 1, none⟩ (by first | (simp; done) | (simp; omega))).trans (g1)); (have m2 : w1.cell? ⟨b1, OF + 2, none⟩ = some (.int .i64 x2) := (kk ⟨b1, OF + 2, none⟩ (by first | (simp; done) | (simp; omega))).trans (g2)); (have m3 : w1.cell? ⟨b1, OF + 3, none⟩ = some (.int .i64 x3) := (kk ⟨b1, OF + 3, none⟩ (by first | (simp; done) | (simp; omega))).trans (g3)); (have m4 : w1.cell? ⟨b1, OF + 4, none⟩ = some (.int .i64 x4) := (kk ⟨b1, OF + 4, none⟩ (by first | (simp; done) | (simp; omega))).trans (g4)); (have m5 : w1.cell? ⟨b1, OF + 5, none⟩ = some (.int .i64 x5) := (kk ⟨b1, OF + 5, none⟩ (by first | (simp; done) | (simp; omega))).trans (g5)); (have m6 : w1.cell? ⟨b1, OF + 6, none⟩ = some (.int .i64 x6) := (kk ⟨b1, OF + 6, none⟩ (by first | (simp; done) | (simp; omega))).trans (g6)); (have j0 : w1.cell? ⟨w.heap.size + 1, 0, none⟩ = some (.slice A 1 c1) := (kk ⟨w.heap.size + 1, 0, none⟩ (by first | (simp; done) | (simp; omega))).trans (l0)); (have j1 : w1.cell? ⟨w.heap.size + 1, 1, none⟩ = some (.slice D q d) := (kk ⟨w.heap.size + 1, 1, none⟩ (by first | (simp; done) | (simp; omega))).trans (l1)); (have q0 : w1.cell? ⟨w.heap.size, 0, none⟩ = some (.slice none 0 0) := (kk ⟨w.heap.size, 0, none⟩ (by first | (simp; done) | (simp; omega))).trans (r0)); (have q1 : w1.cell? ⟨w.heap.size, 1, none⟩ = some (.slice none 0 0) := (kk ⟨w.heap.size, 1, none⟩ (by first | (simp; done) | (simp; omega))).trans (r1)); (have jf : ∀ o, w1.frozen? ⟨w.heap.size + 1, o, none⟩ = false := fun o => (kf ⟨w.heap.size + 1, o, none⟩ (by first | (simp; done) | (simp; omega))).trans (lf o)); (have qf : ∀ o, w1.frozen? ⟨w.heap.size, o, none⟩ = false := fun o => (kf ⟨w.heap.size, o, none⟩ (by first | (simp; done) | (simp; omega))).trans (rf o)); (have HB1 : Below w.heap.size w w1 := below_grown (by (repeat' (first | (with_reducible exact Below.refl _ _) | (with_reducible assumption) | (with_reducible refine below_drewN ?_ _) | (with_reducible refine Below.drew ?_) | (with_reducible refine below_new ?_ (Nat.le_refl _) _) | (with_reducible refine Below.setCell ?_ ?_ _) | (with_reducible refine below_go ?_ (by assumption) (Nat.le_refl _)) | (simp; done) | (simp; omega) | omega))) hg1 o0 (by omega) (by first | (simp; done) | (simp; omega))); (have hkk : ∀ p : Addr, p.block < H → w1.cell? p = wr.cell? p := kk); clear o0 hg1))
        all_goals
          have HOWN := Lib.hid ho1
          have HKK := Lib.hid kk
          clear kk kf ho1 hkk
          go_wp2_with fail
          go_roundw
          (case rel =>
            refine ⟨q + 2, .slice A 1 c1, .slice D1 (q + 1) d1, by omega, by go_num, Lib.hid ⟨?_, ?_, ?_, ?_, ?_⟩, Lib.hid ⟨?_, ?_, ?_⟩, Or.inr ⟨H, q + 1, rfl, Lib.hid ?_, Lib.hid ?_⟩⟩
            · have hb1 := HB1
              (repeat' (first | (with_reducible exact Below.refl _ _) | (with_reducible assumption) | (with_reducible refine below_drewN ?_ _) | (with_reducible refine Below.drew ?_) | (with_reducible refine below_new ?_ (Nat.le_refl _) _) | (with_reducible refine Below.setCell ?_ ?_ _) | (with_reducible refine below_go ?_ (by assumption) (Nat.le_refl _)) | (simp; done) | (simp; omega) | omega))
            · simp; omega
            · go_simp
            · go_simp
            · intro o; go_simp
            · intro o; go_simp
            · go_simp
            · go_simp
            · refine HN.out.step (fun p hp hp2 => ?_) (by simp; omega)
              rw [World.cell?_setCell_other _ _ _ _ (fun he => by subst he; simp only at hp; omega)]
              exact HKK.out p hp2
            · rw [cmdsC_drop xs q _ HXK.out]
              exact ownsRow_setCell_below HOWN.out (a := ⟨w.heap.size + 1, 1, none⟩) (by simp; omega) _)
          (case measure => simp [intOf]; omega)
    · obtain rfl : k = n := by omega
      rcases hcase with ⟨rfl, rfl, rfl⟩ | ⟨H, q, rfl, HN, HO⟩
      · have hnil : xs = [] := List.eq_nil_of_length_eq_zero HL.out
        go_wp2
        refine bodyPost_ret (v := .agg #[.slice none 0 0, .slice none 0 0]) (by simp [results, Try.results41, go_sem, r0, r1, rf]) rfl ⟨⟨_, rfl, ?_⟩, by (repeat' (first | (with_reducible exact Below.refl _ _) | (with_reducible assumption) | (with_reducible refine below_drewN ?_ _) | (with_reducible refine Below.drew ?_) | (with_reducible refine below_new ?_ (Nat.le_refl _) _) | (with_reducible refine Below.setCell ?_ ?_ _) | (with_reducible refine below_go ?_ (by assumption) (Nat.le_refl _)) | (simp; done) | (simp; omega) | omega))⟩
        have e1 := HT1.out
        have e2 := HT2.out
        rw [hnil] at e1 e2
        subst e1 e2
        exact nil_line
      · obtain ⟨D, d, rfl, y1, y2, y3⟩ := own_form HO.out
        obtain ⟨A, c1, rfl, z1, z2, z3, z4, z5, z6⟩ := HN.out
        unfold maxLen at y2
        go_wp2
        refine bodyPost_ret (v := .agg #[.slice A 1 c1, .slice D q d]) (by simp [results, Try.results41, go_sem, r0, r1, rf]) rfl ⟨⟨_, rfl, ?_⟩, by (repeat' (first | (with_reducible exact Below.refl _ _) | (with_reducible assumption) | (with_reducible refine below_drewN ?_ _) | (with_reducible refine Below.drew ?_) | (with_reducible refine below_new ?_ (Nat.le_refl _) _) | (with_reducible refine Below.setCell ?_ ?_ _) | (with_reducible refine below_go ?_ (by assumption) (Nat.le_refl _)) | (simp; done) | (simp; omega) | omega))⟩
        have hl1 : t1.length = 1 := by
          rw [← HT1.out, List.length_take, HL.out]
          omega
        have hl2 : t2.length = q := by
          rw [← HT2.out, List.length_drop, HL.out]
          omega
        have hd : (xs.drop 1).take q = t2 := by
          rw [HT2.out]
          exact List.take_of_length_le (by omega)
        have ho := HO.out
        rw [hd] at ho
        have g1 : ReadC wr t1.length (cmdsC t1) (w.heap.size + 2) (.slice A 1 c1) := ⟨A, c1, by rw [hl1], by omega, z2, by rw [hl1, ← HT1.out]; exact z3.wide z6, fun b o _ e => z4 b o e⟩
        have g2 : ReadC wr t2.length (cmdsC t2) (w.heap.size + 2) (.slice D q d) := by
          rw [hl2]
          exact (ReadC.of_own ho).base0 z5
        have hlv : LineV wr (w.heap.size + 2) t1 t2 (.agg #[.slice A 1 c1, .slice D q d]) := ⟨_, _, rfl, g1, g2⟩
        exact ((hlv.store (p := ⟨w.heap.size, 0, none⟩) (by simp) _).store (p := ⟨w.heap.size, 1, none⟩) (by simp) _).base0 (by omega)

end Go.Proofs.Ytddakmlnkffgiaa
