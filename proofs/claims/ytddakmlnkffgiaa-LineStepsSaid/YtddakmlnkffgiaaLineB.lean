/- Contracts of layer 12: is it a mode; is it a line; all commands. -/
import Derived.Test.YtddakmlnkffgiaaLineA
namespace Go.Proofs.Ytddakmlnkffgiaa
open Go.RowKit
set_option linter.unusedVariables false
set_option linter.unusedSimpArgs false
attribute [local go_sem] ite_max ite_min vite_max vite_min ext_cell ext_frozen

def modeB (m : Int) : Bool := decide (0 ≤ m ∧ m ≤ 5)

set_option maxHeartbeats 1000000 in
theorem lmode_any (x : CmdS) (w : World) : Calls Try.prog 54 #[x.val] w fun e w' => e = .returned (.bool (modeB x.mode)) ∧ Below w.heap.size w w' := by
  obtain ⟨a, b, c, d, m, f, g⟩ := x
  simp only [CmdS.val]
  by_cases h1 : 0 ≤ m
  · by_cases h2 : m ≤ 5
    · rw [show modeB m = true from decide_eq_true ⟨h1, h2⟩]
      go_enter Try.func54, Try.ntmps54
      go_wp2
      go_ret
      exact ⟨rfl, by (repeat' (first | (with_reducible exact Below.refl _ _) | (with_reducible assumption) | (with_reducible refine below_drewN ?_ _) | (with_reducible refine Below.drew ?_) | (with_reducible refine below_new ?_ (Nat.le_refl _) _) | (with_reducible refine Below.setCell ?_ ?_ _) | (with_reducible refine below_go ?_ (by assumption) (Nat.le_refl _)) | (simp; done) | (simp; omega) | omega))⟩
    · rw [show modeB m = false from decide_eq_false (fun h => h2 h.2)]
      go_enter Try.func54, Try.ntmps54
      go_wp2
      go_ret
      exact ⟨rfl, by (repeat' (first | (with_reducible exact Below.refl _ _) | (with_reducible assumption) | (with_reducible refine below_drewN ?_ _) | (with_reducible refine Below.drew ?_) | (with_reducible refine below_new ?_ (Nat.le_refl _) _) | (with_reducible refine Below.setCell ?_ ?_ _) | (with_reducible refine below_go ?_ (by assumption) (Nat.le_refl _)) | (simp; done) | (simp; omega) | omega))⟩
  · rw [show modeB m = false from decide_eq_false (fun h => h1 h.1)]
    go_enter Try.func54, Try.ntmps54
    go_wp2
    go_ret
    exact ⟨rfl, by (repeat' (first | (with_reducible exact Below.refl _ _) | (with_reducible assumption) | (with_reducible refine below_drewN ?_ _) | (with_reducible refine Below.drew ?_) | (with_reducible refine below_new ?_ (Nat.le_refl _) _) | (with_reducible refine Below.setCell ?_ ?_ _) | (with_reducible refine below_go ?_ (by assumption) (Nat.le_refl _)) | (simp; done) | (simp; omega) | omega))⟩

set_option maxHeartbeats 1000000 in
theorem lright1_any (x : CmdS) (w : World) : Calls Try.prog 60 #[x.val] w fun e w' => e = .returned (.bool (!modeB x.mode)) ∧ Below w.heap.size w w' := by
  have H := Lib.hid (fun w => lmode_any x w)
  obtain ⟨a, b, c, d, m, f, g⟩ := x
  simp only [CmdS.val] at H ⊢
  generalize modeB m = q at *
  go_enter Try.func60, Try.ntmps60
  go_wp2_with fail
  refine (H.out _).mono ?_
  rintro e w1 ⟨rfl, hb1⟩
  go_wp2
  go_ret
  exact ⟨rfl, by (repeat' (first | (with_reducible exact Below.refl _ _) | (with_reducible assumption) | (with_reducible refine below_drewN ?_ _) | (with_reducible refine Below.drew ?_) | (with_reducible refine below_new ?_ (Nat.le_refl _) _) | (with_reducible refine Below.setCell ?_ ?_ _) | (with_reducible refine below_go ?_ (by assumption) (Nat.le_refl _)) | (simp; done) | (simp; omega) | omega))⟩

theorem cf_lright1 (args : Array Value) (w : World) : Sem.run Try.prog (callFunc 60 args) w = .ok (.enter 60 args) w := by
  go_simp

theorem Lies.cmd {w : World} {B : Nat} {A : Option Addr} {xs : List CmdS} (h : Lies w B 7 A xs.length (cmdsC xs)) (k : Nat) (hk : k < xs.length) :
    ∃ b off x, A = some ⟨b, off, none⟩ ∧ b < B ∧ xs[k]? = some x ∧ ∀ j, j < 7 → w.cell? ⟨b, off + k * 7 + j, none⟩ = x.cells[j]? := by
  obtain ⟨b, off, e, hb, hc⟩ := h.2 (by omega)
  refine ⟨b, off, xs[k], e, hb, List.getElem?_eq_getElem hk, fun j hj => ?_⟩
  have h1 := cmdsC_get xs k j _ (List.getElem?_eq_getElem hk) hj
  obtain ⟨u, hu⟩ : ∃ u, xs[k].cells[j]? = some u := ⟨xs[k].cells[j]'(by simpa [CmdS.cells] using hj), List.getElem?_eq_getElem _⟩
  rw [hu] at h1 ⊢
  rw [Nat.add_assoc]
  exact hc _ _ h1
theorem any_take (p : CmdS → Bool) (xs : List CmdS) (k : Nat) (x : CmdS) (h : xs[k]? = some x) : (xs.take (k + 1)).any p = ((xs.take k).any p || p x) := by
  have hk : k < xs.length := (List.getElem?_eq_some_iff.1 h).1
  rw [List.take_succ_eq_append_getElem hk, List.any_append]
  have : xs[k] = x := by
    rw [List.getElem?_eq_getElem hk] at h
    exact Option.some.inj h
  rw [this]
  simp
/-- an index, or -1 -/
def IdxC (b : Bool) (w : World) (e : Ending) (w' : World) : Prop := ∃ j : Int, (b = decide (0 ≤ j)) ∧ e = .returned (.int .i64 j) ∧ Below w.heap.size w w'

set_option maxRecDepth 100000 in
set_option maxHeartbeats 2000000 in
theorem index_cmd (F : FuncId) (p : CmdS → Bool) (xs : List CmdS) (A : Option Addr) (c : Nat) (w : World)
    (hcf : ∀ (args : Array Value) (w : World), Sem.run Try.prog (callFunc F args) w = .ok (.enter F args) w)
    (hF : ∀ x w, Calls Try.prog F #[CmdS.val x] w fun e w' => e = .returned (.bool (p x)) ∧ Below w.heap.size w w')
    (hn : xs.length ≤ c) (hc : c ≤ 9223372036854775807) (hx : Lies w w.heap.size 7 A xs.length (cmdsC xs)) :
    Calls Try.prog 69 #[.slice A xs.length c, .func (.func F) #[] #[]] w (IdxC (xs.any p) w) := by
  have HF := Lib.hid hF
  have HX := Lib.hid hx
  obtain ⟨n, hlen⟩ : ∃ n, xs.length = n := ⟨_, rfl⟩
  rw [hlen] at hn ⊢
  have HL := Lib.hid hlen
  clear hF hx hlen
  go_enter Try.func69, Try.ntmps69
  go_wp2_with fail
  go_loopw [8] (fun u wr => ∃ k : Nat, k ≤ n ∧ u = .int .i64 k ∧ Hid ((xs.take k).any p = false) ∧ Below w.heap.size w wr) (fun u _ => n - (intOf u).toNat)
  case atStart => exact ⟨0, by omega, rfl, Lib.hid (by simp), Below.refl _ _⟩
  case round =>
    obtain ⟨k, hk, rfl, HK, hbr⟩ := hrel
    by_cases hlt : k < n
    · obtain ⟨b, off, x, rfl, hb, hxk, hcell⟩ := HX.out.cmd k (by rw [HL.out]; exact hlt)
      have hsucc := any_take p xs k x hxk
      rw [HK.out, Bool.false_or] at hsucc
      have h0 := (hbr.cell (p := ⟨b, off + k * 7 + 0, none⟩) hb).trans (hcell 0 (by omega))
      have h1 := (hbr.cell (p := ⟨b, off + k * 7 + 1, none⟩) hb).trans (hcell 1 (by omega))
      have h2 := (hbr.cell (p := ⟨b, off + k * 7 + 2, none⟩) hb).trans (hcell 2 (by omega))
      have h3 := (hbr.cell (p := ⟨b, off + k * 7 + 3, none⟩) hb).trans (hcell 3 (by omega))
      have h4 := (hbr.cell (p := ⟨b, off + k * 7 + 4, none⟩) hb).trans (hcell 4 (by omega))
      have h5 := (hbr.cell (p := ⟨b, off + k * 7 + 5, none⟩) hb).trans (hcell 5 (by omega))
      have h6 := (hbr.cell (p := ⟨b, off + k * 7 + 6, none⟩) hb).trans (hcell 6 (by omega))
      have HFX := Lib.hid (fun w => HF.out x w)
      have hall : p x = true → xs.any p = true := fun hp => by
        refine List.any_eq_true.2 ⟨x, List.mem_of_getElem? hxk, hp⟩
      obtain ⟨x0, x1, x2, x3, x4, x5, x6⟩ := x
      simp only [CmdS.cells, CmdS.val, List.getElem?_cons_zero, List.getElem?_cons_succ, Nat.add_zero] at h0 h1 h2 h3 h4 h5 h6 HFX
      have hk0 : (0 : Int) ≤ (k : Int) := by omega
      have hkn : (k : Int) < (n : Int) := by omega
      have HS := Lib.hid hsucc
      have HALL := Lib.hid hall
      clear hcell hxk hsucc hall HF HX
      cases hp : p ⟨x0, x1, x2, x3, x4, x5, x6⟩
      · rw [hp] at HFX HS
        clear hp HALL
        go_wp2_with fail
        refine (HFX.out _).mono ?_
        rintro e w1 ⟨rfl, hb1⟩
        go_wp2
        go_roundw
        case rel => exact ⟨k + 1, by omega, by go_num, HS, hbr.trans (hb1.mono hbr.size)⟩
        case measure => simp [intOf]; omega
      · have HT := Lib.hid (HALL.out hp)
        rw [hp] at HFX
        clear hp HALL HS
        go_wp2_with fail
        refine (HFX.out _).mono ?_
        rintro e w1 ⟨rfl, hb1⟩
        go_wp2
        go_ret
        exact ⟨(k : Int), by rw [HT.out]; exact (decide_eq_true hk0).symm, rfl, hbr.trans (hb1.mono hbr.size)⟩
    · obtain rfl : k = n := by omega
      go_wp2
      go_ret
      exact ⟨-1, by have := HK.out; rw [List.take_of_length_le (by rw [HL.out]; exact Nat.le_refl _)] at this; rw [this]; rfl, rfl, hbr⟩

set_option maxHeartbeats 1000000 in
theorem contains_cmd (F : FuncId) (p : CmdS → Bool) (xs : List CmdS) (A : Option Addr) (c : Nat) (w : World) (r : Bool)
    (hcf : ∀ (args : Array Value) (w : World), Sem.run Try.prog (callFunc F args) w = .ok (.enter F args) w)
    (hF : ∀ x w, Calls Try.prog F #[CmdS.val x] w fun e w' => e = .returned (.bool (p x)) ∧ Below w.heap.size w w')
    (hn : xs.length ≤ c) (hc : c ≤ 9223372036854775807) (hx : Lies w w.heap.size 7 A xs.length (cmdsC xs)) (hr : xs.any p = r) :
    Calls Try.prog 58 #[.slice A xs.length c, .func (.func F) #[] #[]] w fun e w' => e = .returned (.bool r) ∧ Below w.heap.size w w' := by
  have hi := index_cmd F p xs A c w hcf hF hn hc hx
  rw [hr] at hi
  have HI := Lib.hid hi
  clear hi hF hcf hr hx
  generalize xs.length = n at *
  go_enter Try.func58, Try.ntmps58
  go_wp2_with fail
  refine HI.out.mono ?_
  rintro e w' ⟨j, hj, rfl, hb⟩
  have HJ := Lib.hid hj
  clear hj
  go_wp2
  go_ret
  rw [HJ.out]
  exact ⟨rfl, hb⟩

theorem contains_at (F : FuncId) (p : CmdS → Bool) (xs : List CmdS) (A : Option Addr) (n c : Nat) (w : World) (r : Bool)
    (hcf : ∀ (args : Array Value) (w : World), Sem.run Try.prog (callFunc F args) w = .ok (.enter F args) w)
    (hF : ∀ x w, Calls Try.prog F #[CmdS.val x] w fun e w' => e = .returned (.bool (p x)) ∧ Below w.heap.size w w')
    (hl : xs.length = n) (hn : n ≤ c) (hc : c ≤ 9223372036854775807) (hx : Lies w w.heap.size 7 A n (cmdsC xs)) (hr : xs.any p = r) :
    Calls Try.prog 58 #[.slice A n c, .func (.func F) #[] #[]] w fun e w' => e = .returned (.bool r) ∧ Below w.heap.size w w' := by
  subst hl
  exact contains_cmd F p xs A c w r hcf hF hn hc hx hr

/-- is it a line? -/
def lineB (ns ws : List CmdS) : Bool := decide (ns.length ≤ 1 ∧ ws.length ≤ 4 ∧ (ns.length = 0 → ws.length = 0)) && !((ns ++ ws).any fun x => !modeB x.mode)
theorem lineB_yes {ns ws : List CmdS} (h : lineB ns ws = true) : ns.length ≤ 1 ∧ ws.length ≤ 4 ∧ (ns.length = 0 → ws.length = 0) ∧ ∀ x ∈ ns ++ ws, modeB x.mode = true := by
  simp only [lineB, Bool.and_eq_true, decide_eq_true_eq, Bool.not_eq_true', List.any_eq_false, Bool.not_eq_true, Bool.not_eq_false'] at h
  exact ⟨h.1.1, h.1.2.1, h.1.2.2, fun x hx => by simpa using h.2 x hx⟩
theorem lineB_no {ns ws : List CmdS} (h : ¬ (ns.length ≤ 1 ∧ ws.length ≤ 4 ∧ (ns.length = 0 → ws.length = 0))) : lineB ns ws = false := by
  unfold lineB
  rw [decide_eq_false h]
  rfl

set_option maxRecDepth 100000 in
set_option maxHeartbeats 4000000 in
theorem line_right (A D : Option Addr) (c d : Nat) (ns ws : List CmdS) (r : Bool) (w : World) (hc : ns.length ≤ c ∧ c ≤ 9223372036854775807) (hd : ws.length ≤ d ∧ d ≤ 9223372036854775807)
    (hx : Lies w w.heap.size 7 A ns.length (cmdsC ns)) (hy : Lies w w.heap.size 7 D ws.length (cmdsC ws)) (hr : lineB ns ws = r) :
    Calls Try.prog 31 #[.agg #[.slice A ns.length c, .slice D ws.length d]] w fun e w' => e = .returned (.bool r) ∧ Below w.heap.size w w' := by
  obtain ⟨n, hn⟩ : ∃ n, ns.length = n := ⟨_, rfl⟩
  obtain ⟨m, hm⟩ : ∃ m, ws.length = m := ⟨_, rfl⟩
  by_cases hok : ns.length ≤ 1 ∧ ws.length ≤ 4 ∧ (ns.length = 0 → ws.length = 0)
  · have HX := Lib.hid hx
    have HY := Lib.hid hy
    have hr2 : (!((ns ++ ws).any fun x => !modeB x.mode)) = r := by rw [← hr]; unfold lineB; rw [decide_eq_true hok]; rfl
    obtain ⟨q, hq⟩ : ∃ q, ((ns ++ ws).any fun x => !modeB x.mode) = q := ⟨_, rfl⟩
    rw [hq] at hr2
    have HQ := Lib.hid hq
    subst hr2
    rw [hn] at hok HX hc ⊢
    rw [hm] at hok HY hd ⊢
    have HN := Lib.hid hn
    have HM := Lib.hid hm
    clear hx hy hr hq hn hm
    have hn1 : n ≤ 1 := hok.1
    have hm4 : m ≤ 4 := hok.2.1
    have hcase : (n = 0 ∧ m = 0) ∨ n = 1 := by omega
    clear hok
    have hn1I : (n : Int) ≤ 1 := by omega
    have hm4I : (m : Int) ≤ 4 := by omega
    rcases hcase with ⟨rfl, rfl⟩ | rfl
    all_goals
      go_enter Try.func31, Try.ntmps31
      go_wp2_with fail
      refine (concat_cmd A D _ _ c d _ (cmdsC ns) (cmdsC ws) _ (by omega) (by omega) ?a1 ?a2 ?a3 (HX.out.on ?a4) (HY.out.on ?a5) (cmdsC_one _) (cmdsC_one _)).mono ?_
      case a1 => simp
      case a2 => go_simp
      case a3 => go_simp
      case a4 => exact ((Below.refl _ _).alloc (Nat.le_refl _) _).alloc (by simp) _
      case a5 => exact ((Below.refl _ _).alloc (Nat.le_refl _) _).alloc (by simp) _
      rintro e w1 ⟨⟨v, rfl, hown⟩, hb1⟩
      obtain ⟨A1, c1, rfl, k1, k2, hl1, -⟩ := ReadC.of_own hown
      have HL := Lib.hid hl1
      have HLEN := Lib.hid (show (ns ++ ws).length = _ by rw [List.length_append, HN.out, HM.out])
      clear hl1 hown
      go_wp2_with fail
      refine (contains_at 60 (fun x => !modeB x.mode) (ns ++ ws) A1 _ c1 _ q cf_lright1 lright1_any HLEN.out k1 k2 (by rw [cmdsC_append]; exact HL.out) HQ.out).mono ?_
      rintro e w2 ⟨rfl, hb2⟩
      go_wp2
      go_ret
      exact ⟨rfl, by (repeat' (first | (with_reducible exact Below.refl _ _) | (with_reducible assumption) | (with_reducible refine below_drewN ?_ _) | (with_reducible refine Below.drew ?_) | (with_reducible refine below_new ?_ (Nat.le_refl _) _) | (with_reducible refine Below.setCell ?_ ?_ _) | (with_reducible refine below_go ?_ (by assumption) (Nat.le_refl _)) | (simp; done) | (simp; omega) | omega))⟩
  · rw [lineB_no hok] at hr
    subst hr
    rw [hn] at hok hc ⊢
    rw [hm] at hok hd ⊢
    clear hx hy hn hm
    have hcase : 1 < n ∨ (n ≤ 1 ∧ 4 < m) ∨ (n = 0 ∧ 0 < m ∧ m ≤ 4) := by omega
    clear hok
    rcases hcase with h1 | ⟨h1, h2⟩ | ⟨rfl, h1, h2⟩
    · have h1I : (1 : Int) < (n : Int) := by omega
      go_enter Try.func31, Try.ntmps31
      go_wp2
      go_ret
      exact ⟨rfl, by (repeat' (first | (with_reducible exact Below.refl _ _) | (with_reducible assumption) | (with_reducible refine below_drewN ?_ _) | (with_reducible refine Below.drew ?_) | (with_reducible refine below_new ?_ (Nat.le_refl _) _) | (with_reducible refine Below.setCell ?_ ?_ _) | (with_reducible refine below_go ?_ (by assumption) (Nat.le_refl _)) | (simp; done) | (simp; omega) | omega))⟩
    · have h1I : (n : Int) ≤ 1 := by omega
      have h2I : (4 : Int) < (m : Int) := by omega
      go_enter Try.func31, Try.ntmps31
      go_wp2
      go_ret
      exact ⟨rfl, by (repeat' (first | (with_reducible exact Below.refl _ _) | (with_reducible assumption) | (with_reducible refine below_drewN ?_ _) | (with_reducible refine Below.drew ?_) | (with_reducible refine below_new ?_ (Nat.le_refl _) _) | (with_reducible refine Below.setCell ?_ ?_ _) | (with_reducible refine below_go ?_ (by assumption) (Nat.le_refl _)) | (simp; done) | (simp; omega) | omega))⟩
    · have h1I : (0 : Int) < (m : Int) := by omega
      have h2I : (m : Int) ≤ 4 := by omega
      go_enter Try.func31, Try.ntmps31
      go_wp2
      go_ret
      exact ⟨rfl, by (repeat' (first | (with_reducible exact Below.refl _ _) | (with_reducible assumption) | (with_reducible refine below_drewN ?_ _) | (with_reducible refine Below.drew ?_) | (with_reducible refine below_new ?_ (Nat.le_refl _) _) | (with_reducible refine Below.setCell ?_ ?_ _) | (with_reducible refine below_go ?_ (by assumption) (Nat.le_refl _)) | (simp; done) | (simp; omega) | omega))⟩

end Go.Proofs.Ytddakmlnkffgiaa
