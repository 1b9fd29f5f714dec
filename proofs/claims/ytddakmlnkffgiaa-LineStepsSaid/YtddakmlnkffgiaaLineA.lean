/- Contracts of layer 12: rows of commands: room, one row behind the other, a copy. -/
import Derived.Test.YtddakmlnkffgiaaLie
import Derived.Test.YtddakmlnkffgiaaExt
import Derived.Deep.DeepCutAuto
namespace Go.Proofs.Ytddakmlnkffgiaa
open Go.RowKit
set_option linter.unusedVariables false
set_option linter.unusedSimpArgs false
attribute [local go_sem] ite_max ite_min vite_max vite_min ext_cell ext_frozen

structure CmdS where
  id : Int
  kind : Int
  target : Int
  speed : Int
  mode : Int
  num : Int
  den : Int
def CmdS.cells (x : CmdS) : List Value := [.int .i64 x.id, .int .i64 x.kind, .int .i64 x.target, .int .i64 x.speed, .int .i64 x.mode, .int .i64 x.num, .int .i64 x.den]
def CmdS.val (x : CmdS) : Value := .agg #[.int .i64 x.id, .int .i64 x.kind, .int .i64 x.target, .int .i64 x.speed, .int .i64 x.mode, .int .i64 x.num, .int .i64 x.den]
def cmdsC (xs : List CmdS) : List Value := xs.flatMap CmdS.cells
theorem cmdsC_len (xs : List CmdS) : (cmdsC xs).length = xs.length * 7 := by
  induction xs with
  | nil => rfl
  | cons x xs ih =>
    show (x.cells ++ cmdsC xs).length = _
    rw [List.length_append, ih, List.length_cons]
    show 7 + _ = _
    omega
theorem cmdsC_append (xs ys : List CmdS) : cmdsC (xs ++ ys) = cmdsC xs ++ cmdsC ys := by simp [cmdsC]
theorem cmdsC_one (xs : List CmdS) : ∀ u ∈ cmdsC xs, u.oneCell' = true := by
  intro u hu
  obtain ⟨x, _, hx⟩ := List.mem_flatMap.1 hu
  simp only [CmdS.cells, List.mem_cons, List.not_mem_nil, or_false] at hx
  rcases hx with rfl | rfl | rfl | rfl | rfl | rfl | rfl <;> rfl
theorem cmdsC_get (xs : List CmdS) (k j : Nat) (x : CmdS) (h : xs[k]? = some x) (hj : j < 7) : (cmdsC xs)[k * 7 + j]? = x.cells[j]? := by
  induction xs generalizing k with
  | nil => simp at h
  | cons y ys ih =>
    show (y.cells ++ cmdsC ys)[_]? = _
    cases k with
    | zero =>
      simp at h
      subst h
      rw [List.getElem?_append_left (by show 0 * 7 + j < 7; omega), Nat.zero_mul, Nat.zero_add]
    | succ k =>
      have h7 : y.cells.length = 7 := rfl
      rw [List.getElem?_append_right (by rw [h7]; omega), h7, show (k + 1) * 7 + j - 7 = k * 7 + j by omega]
      exact ih k (by simpa using h)

theorem cmd_info : (Try.prog.info? 51).map (fun i => (i.zero, i.size, i.bytes)) = some (some (.agg #[.int .i64 0, .int .i64 0, .int .i64 0, .int .i64 0, .int .i64 0, .int .i64 0, .int .i64 0]), 7, 56) := by kernel_rfl

/-- a fresh row, or none: behind a call -/
def RowC (w w' : World) (n : Nat) (xs : List Value) (e : Ending) : Prop := ∃ v, e = .returned v ∧ w'.ownsRow w.heap.size 51 7 v n xs

theorem zeros_len (n : Nat) : (Builtin.zeroCells (Value.agg #[.int .i64 0, .int .i64 0, .int .i64 0, .int .i64 0, .int .i64 0, .int .i64 0, .int .i64 0]).cells n).size = n * 7 := by
  rw [size_zeroCells]
  rfl

set_option maxRecDepth 100000 in
set_option maxHeartbeats 1000000 in
theorem grow_cmd (n : Nat) (w : World) (hn : n ≤ 1000) :
    Calls Try.prog 70 #[.slice none 0 0, .int .i64 (n : Int)] w fun e w' => RowC w w' 0 [] e ∧ Below w.heap.size w w' := by
  obtain ⟨i0, hi0, hz0, hz1, hz2⟩ := info_parts cmd_info
  by_cases h : n = 0
  · subst h
    clear hi0 hz0 hz1 hz2
    go_enter Try.func70, Try.ntmps70
    go_wp2
    go_ret
    exact ⟨⟨_, rfl, World.ownsRow_nil _ _ _ _⟩, by (repeat' (first | (with_reducible exact Below.refl _ _) | (with_reducible assumption) | (with_reducible refine below_drewN ?_ _) | (with_reducible refine Below.drew ?_) | (with_reducible refine below_new ?_ (Nat.le_refl _) _) | (with_reducible refine Below.setCell ?_ ?_ _) | (with_reducible refine below_go ?_ (by assumption) (Nat.le_refl _)) | (simp; done) | (simp; omega) | omega))⟩
  · have hnI : (0 : Int) < (n : Int) := by omega
    have hn2 : (n : Int) ≤ 1000 := by omega
    have happ := fun (w : World) => Lib.run_append_nil_zeros (P := Try.prog) w 43 3 43 51 i0 _ .i64 .i64 Try.underlying43 Try.underlying3 hi0 hz0 n (by omega) (by rw [hz1]; omega) (by omega) (by rw [hz2]; omega)
    have HAPP := Lib.hid happ
    clear happ hi0 hz0
    go_enter Try.func70, Try.ntmps70
    go_wp2_with (at_builtin; refine Lib.wpList_append_run _ rfl _ _ _ _ rfl _ _ rfl rfl _ _ (HAPP.out _) ?_)
    go_wp2
    go_ret
    refine ⟨⟨_, rfl, ?_⟩, by (repeat' (first | (with_reducible exact Below.refl _ _) | (with_reducible assumption) | (with_reducible refine below_drewN ?_ _) | (with_reducible refine Below.drew ?_) | (with_reducible refine below_new ?_ (Nat.le_refl _) _) | (with_reducible refine Below.setCell ?_ ?_ _) | (with_reducible refine below_go ?_ (by assumption) (Nat.le_refl _)) | (simp; done) | (simp; omega) | omega))⟩
    have hge := grownCap_ge w n 0 51
    have hle := grownCap_le_maxLen w n 0 51 (by unfold maxLen; omega)
    refine World.ownsRow_made (w := w.drew) (base := w.heap.size) (e := 51) (size := 7) _ _ (Nat.le_refl _) hle ?_
    simp only [Array.size_append, size_zeroCells, Value.cells, List.size_toArray, List.length_cons, List.length_nil]
    omega

/-- how many, and which, behind k of two rows -/
def cat1 (n m : Nat) (k : Nat) : Nat := match k with | 0 => 0 | 1 => n | _ => n + m
def cat2 (xs ys : List Value) (k : Nat) : List Value := match k with | 0 => [] | 1 => xs | _ => xs ++ ys

set_option maxRecDepth 100000 in
set_option maxHeartbeats 2000000 in
theorem concat_cmd (A D : Option Addr) (n m c d S : Nat) (xs ys : List Value) (w : World) (hn : n ≤ 400) (hm : m ≤ 400) (hS : S < w.heap.size) (h0 : w.cell? ⟨S, 0, none⟩ = some (.slice A n c)) (h1 : w.cell? ⟨S, 1, none⟩ = some (.slice D m d))
    (hx : Lies w w.heap.size 7 A n xs) (hy : Lies w w.heap.size 7 D m ys) (o1 : ∀ u ∈ xs, u.oneCell' = true) (o2 : ∀ u ∈ ys, u.oneCell' = true) :
    Calls Try.prog 59 #[.slice (some ⟨S, 0, none⟩) 2 2] w fun e w' => RowC w w' (n + m) (xs ++ ys) e ∧ Below w.heap.size w w' := by
  obtain ⟨i0, hi0, hz0, hz1, hz2⟩ := info_parts cmd_info
  have HI := Lib.hid hi0
  have HZ0 := Lib.hid hz0
  have HX := Lib.hid hx
  have HY := Lib.hid hy
  have O1 := Lib.hid o1
  have O2 := Lib.hid o2
  have HZ1 := Lib.hid hz1
  have HZ2 := Lib.hid hz2
  clear hi0 hz0 hx hy o1 o2 hz1 hz2
  go_enter Try.func59, Try.ntmps59
  go_wp2_with fail
  go_loop [3, 11] (fun s i => ∃ k : Nat, k ≤ 2 ∧ i = .int .i64 (k : Int) ∧ s = .int .i64 (cat1 n m k : Int)) (fun _ i => 2 - (intOf i).toNat)
  case atStart => exact ⟨0, by omega, rfl, rfl⟩
  case round =>
    obtain ⟨k, hk, rfl, rfl⟩ := hrel
    rcases (by omega : k = 0 ∨ k = 1 ∨ k = 2) with rfl | rfl | rfl
    · simp only [cat1, show ((0 : Nat) : Int) = 0 from rfl]
      go_wp2
      go_round
      case rel => exact ⟨1, by omega, rfl, by simp [cat1]⟩
      case measure => simp [intOf]
    · simp only [cat1, show ((1 : Nat) : Int) = 1 from rfl]
      go_wp2
      go_round
      case rel => exact ⟨2, by omega, rfl, by simp [cat1]⟩
      case measure => simp [intOf]
    · simp only [cat1, show ((2 : Nat) : Int) = 2 from rfl]
      go_wp2_with fail
      refine (grow_cmd (n + m) _ (by omega)).mono ?_
      rintro e w1 ⟨⟨v, rfl, hown⟩, hb1⟩
      have HO := Lib.hid hown
      clear hown
      have g0 := (hb1.cell (p := ⟨S, 0, none⟩) hS).trans h0
      have g1 := (hb1.cell (p := ⟨S, 1, none⟩) hS).trans h1
      clear h0 h1
      go_wp2_with fail
      go_loopw [6, 27] (fun v i wr => ∃ (k : Nat) (v' : Value), v' = v ∧ k ≤ 2 ∧ i = .int .i64 (k : Int) ∧ Hid (wr.ownsRow w.heap.size 51 7 v' (cat1 n m k) (cat2 xs ys k)) ∧ Below w.heap.size w wr ∧ wr.cell? ⟨S, 0, none⟩ = some (.slice A n c) ∧ wr.cell? ⟨S, 1, none⟩ = some (.slice D m d)) (fun _ i _ => 2 - (intOf i).toNat)
      case atStart => exact ⟨0, v, rfl, by omega, rfl, HO, hb1, g0, g1⟩
      case round =>
        clear HO hb1 g0 g1
        obtain ⟨k, v', rfl, hk, rfl, HO, hbr, g0, g1⟩ := hrel
        rcases (by omega : k = 0 ∨ k = 1 ∨ k = 2) with rfl | rfl | rfl
        · simp only [cat1, cat2, show ((0 : Nat) : Int) = 0 from rfl] at HO ⊢
          have hsz := hbr.size
          go_wp2_with (at_builtin; refine wpList_app _ rfl _ _ 43 rfl w.heap.size 51 i0 _ 7 56 Try.underlying43 HI.out HZ0.out HZ1.out HZ2.out rfl (by decide) _ 0 [] rfl HO.out w.heap.size A n c xs rfl (HX.out.below hbr) O1.out ?c1 ?c2 ?c3 ?_)
          case c1 => unfold maxLen; omega
          case c2 => omega
          case c3 => exact hsz
          intro v2 w2 hown2 hgrow hat
          have HO2 : Hid (w2.ownsRow w.heap.size 51 7 v2 (cat1 n m 1) (cat2 xs ys 1)) := Lib.hid (by simpa [cat1, cat2] using hown2)
          have hb2 : Below w.heap.size w w2 := below_grown hbr hgrow HO.out (Nat.le_refl _) hsz
          have q0 := (below_grown (Below.refl _ _) hgrow HO.out (B := w.heap.size) (Nat.le_refl _) hsz).cell (p := ⟨S, 0, none⟩) hS
          have q1 := (below_grown (Below.refl _ _) hgrow HO.out (B := w.heap.size) (Nat.le_refl _) hsz).cell (p := ⟨S, 1, none⟩) hS
          have p0 := q0.trans g0
          have p1 := q1.trans g1
          clear q0 q1 hown2 hgrow hat HO g0 g1
          go_wp2
          go_roundw
          case rel => exact ⟨1, _, rfl, by omega, rfl, HO2, hb2, p0, p1⟩
          case measure => simp [intOf]
        · simp only [cat1, cat2, show ((1 : Nat) : Int) = 1 from rfl] at HO ⊢
          have hsz := hbr.size
          go_wp2_with (at_builtin; refine wpList_app _ rfl _ _ 43 rfl w.heap.size 51 i0 _ 7 56 Try.underlying43 HI.out HZ0.out HZ1.out HZ2.out rfl (by decide) _ n xs rfl HO.out w.heap.size D m d ys rfl (HY.out.below hbr) O2.out ?c1 ?c2 ?c3 ?_)
          case c1 => unfold maxLen; omega
          case c2 => omega
          case c3 => exact hsz
          intro v2 w2 hown2 hgrow hat
          have HO2 : Hid (w2.ownsRow w.heap.size 51 7 v2 (cat1 n m 2) (cat2 xs ys 2)) := Lib.hid hown2
          have hb2 : Below w.heap.size w w2 := below_grown hbr hgrow HO.out (Nat.le_refl _) hsz
          have q0 := (below_grown (Below.refl _ _) hgrow HO.out (B := w.heap.size) (Nat.le_refl _) hsz).cell (p := ⟨S, 0, none⟩) hS
          have q1 := (below_grown (Below.refl _ _) hgrow HO.out (B := w.heap.size) (Nat.le_refl _) hsz).cell (p := ⟨S, 1, none⟩) hS
          have p0 := q0.trans g0
          have p1 := q1.trans g1
          clear q0 q1 hown2 hgrow hat HO g0 g1
          go_wp2
          go_roundw
          case rel => exact ⟨2, _, rfl, by omega, rfl, HO2, hb2, p0, p1⟩
          case measure => simp [intOf]
        · simp only [cat1, cat2, show ((2 : Nat) : Int) = 2 from rfl] at HO ⊢
          go_wp2
          go_ret
          exact ⟨⟨_, rfl, HO.out⟩, hbr⟩

/-- a slice value that reads as a row -/
def ReadC (w' : World) (n : Nat) (xs : List Value) (base : Nat) (v : Value) : Prop := ∃ A c, v = .slice A n c ∧ n ≤ c ∧ c ≤ 9223372036854775807 ∧ Lies w' w'.heap.size 7 A n xs ∧ (∀ b o, 0 < n → A = some ⟨b, o, none⟩ → base ≤ b)
theorem ReadC.of_own {w' : World} {n base : Nat} {xs : List Value} {v : Value} (h : w'.ownsRow base 51 7 v n xs) : ReadC w' n xs base v := by
  obtain ⟨A, c, rfl, h1, h2, h3⟩ := own_form h
  unfold maxLen at h2
  exact ⟨A, c, rfl, h1, by omega, Lies.own h, fun b o _ e => h3 b o none e⟩
def RetC (w w' : World) (n : Nat) (xs : List Value) (e : Ending) : Prop := ∃ v, e = .returned v ∧ ReadC w' n xs w.heap.size v

set_option maxRecDepth 100000 in
set_option maxHeartbeats 2000000 in
theorem clone_cmd (A : Option Addr) (n c : Nat) (xs : List Value) (w : World) (hn : n ≤ 400) (hx : Lies w w.heap.size 7 A n xs) (o1 : ∀ u ∈ xs, u.oneCell' = true) :
    Calls Try.prog 68 #[.slice A n c] w fun e w' => RetC w w' n xs e ∧ Below w.heap.size w w' := by
  obtain ⟨i0, hi0, hz0, hz1, hz2⟩ := info_parts cmd_info
  have hnil := fun (w : World) => Lib.run_eql_slice_nil (P := Try.prog) w 43 51 A n c 0 0 Try.underlying43
  cases A with
  | none =>
    have h0 : n = 0 := by
      rcases Nat.eq_zero_or_pos n with h | h
      · exact h
      · obtain ⟨b, off, e, _⟩ := hx.2 h
        cases e
    subst h0
    have hxs : xs = [] := List.eq_nil_of_length_eq_zero (by simpa using hx.1)
    subst hxs
    clear hi0 hz0 hz1 hz2 hx o1
    go_enter Try.func68, Try.ntmps68
    go_wp2
    go_ret
    exact ⟨⟨_, rfl, none, 0, rfl, Nat.le_refl _, by omega, Lies.empty, fun b o h => absurd h (by omega)⟩, by (repeat' (first | (with_reducible exact Below.refl _ _) | (with_reducible assumption) | (with_reducible refine below_drewN ?_ _) | (with_reducible refine Below.drew ?_) | (with_reducible refine below_new ?_ (Nat.le_refl _) _) | (with_reducible refine Below.setCell ?_ ?_ _) | (with_reducible refine below_go ?_ (by assumption) (Nat.le_refl _)) | (simp; done) | (simp; omega) | omega))⟩
  | some ad =>
    have HI := Lib.hid hi0
    have HZ0 := Lib.hid hz0
    have HX := Lib.hid hx
    have O1 := Lib.hid o1
    have HZ1 := Lib.hid hz1
    have HZ2 := Lib.hid hz2
    clear hi0 hz0 hx o1 hz1 hz2
    go_enter Try.func68, Try.ntmps68
    go_wp2_with (at_builtin; refine wpList_app _ rfl _ _ 43 rfl w.heap.size 51 i0 _ 7 56 Try.underlying43 HI.out HZ0.out HZ1.out HZ2.out rfl (by decide) _ 0 [] rfl ?c0 w.heap.size (some ad) n c xs rfl (HX.out.below ?c4) O1.out ?c1 ?c2 ?c3 ?_)
    case c0 => exact World.ownsRow_made (base := w.heap.size) (e := 51) (size := 7) w #[] 0 (Nat.le_refl _) (by unfold maxLen; omega) rfl
    case c4 => exact (Below.refl _ _).alloc (Nat.le_refl _) _
    case c1 => unfold maxLen; omega
    case c2 => omega
    case c3 => simp
    intro v2 w2 hown2 hgrow hat
    have hbA : Below w.heap.size w (w.alloc (.cells #[] 51)) := (Below.refl _ _).alloc (Nat.le_refl _) _
    have hb2 : Below w.heap.size w w2 := hbA.grown hgrow (by simp) (fun k hk => by simp [Value.ownBlock] at hk; omega)
    have HO2 : Hid (w2.ownsRow w.heap.size 51 7 v2 n xs) := Lib.hid (by simpa using hown2)
    clear hown2 hgrow hat hbA
    go_wp2
    go_ret
    exact ⟨⟨_, rfl, ReadC.of_own HO2.out⟩, hb2⟩

end Go.Proofs.Ytddakmlnkffgiaa
