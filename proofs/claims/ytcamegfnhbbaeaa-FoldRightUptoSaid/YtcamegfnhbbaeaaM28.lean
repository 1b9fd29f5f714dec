/- Merged: Layer 19, the reference: variables' texts, in plain Lean. Layer 19, the reference: a program's text. -/
import Derived.Test.YtcamegfnhbbaeaaM19
import Derived.Test.YtcamegfnhbbaeaaM21
import Derived.Test.YtcamegfnhbbaeaaTreeM
import Derived.Test.YtcamegfnhbbaeaaM26
namespace Go.Proofs.Ytcamegfnhbbaeaa
open Go.RowKit
set_option linter.unusedVariables false
set_option linter.unusedSimpArgs false

def sectS (k : Int) : ByteArray := if k = 0 then ⟨#[86, 65, 82, 10]⟩ else if k = 1 then ⟨#[86, 65, 82, 95, 73, 78, 80, 85, 84, 10]⟩ else ⟨#[86, 65, 82, 95, 79, 85, 84, 80, 85, 84, 10]⟩
def plainS (t : Int) : ByteArray := if t = 2 then ⟨#[66, 79, 79, 76]⟩ else ⟨#[73, 78, 84]⟩
/-- the text so far, one variable more; nk: a kind's name -/
def varS (nk : Int → ByteArray) (s : ByteArray) (v : VarS) : ByteArray :=
  let a := s ++ ((sectS v.sect ++ v.name) ++ ⟨#[32, 58, 32]⟩)
  let b := if v.arr = true then a ++ ((((((⟨#[65, 82, 82, 65, 89, 91]⟩ : ByteArray) ++ numS v.lo) ++ ⟨#[46, 46]⟩) ++ numS v.hi) ++ ⟨#[93, 32, 79, 70, 32]⟩) ++ plainS v.type)
    else if 2 < v.type then a ++ nk v.type
    else if v.type = 2 then a ++ ((⟨#[66, 79, 79, 76, 32, 58, 61, 32]⟩ : ByteArray) ++ truthS v.init)
    else a ++ ((⟨#[73, 78, 84, 32, 58, 61, 32]⟩ : ByteArray) ++ numS v.init)
  b ++ ⟨#[59, 10, 69, 78, 68, 95, 86, 65, 82, 10]⟩
def varsS (nk : Int → ByteArray) (s : ByteArray) : List VarS → ByteArray
  | [] => s
  | v :: l => varsS nk (varS nk s v) l
theorem varsS_snoc (nk : Int → ByteArray) (v : VarS) : ∀ (l : List VarS) (s : ByteArray), varsS nk s (l ++ [v]) = varS nk (varsS nk s l) v
  | [], s => rfl
  | x :: l, s => varsS_snoc nk v l (varS nk s x)
theorem varsS_take {nk : Int → ByteArray} {l : List VarS} {s : ByteArray} {i : Nat} {v : VarS} (h : l[i]? = some v) : varsS nk s (l.take (i + 1)) = varS nk (varsS nk s (l.take i)) v := by
  rw [List.take_add_one, h]
  exact varsS_snoc nk v _ s
theorem varS_size (nk : Int → ByteArray) (hk : ∀ k, (nk k).size ≤ 64) (s : ByteArray) (v : VarS) (hn : v.name.size ≤ 16) : (varS nk s v).size ≤ s.size + 200 := by
  have h1 := numS_size v.lo
  have h2 := numS_size v.hi
  have h3 := numS_size v.init
  have h4 := truthS_size v.init
  have h5 := hk v.type
  have h6 : (sectS v.sect).size ≤ 11 := by unfold sectS; split; decide; split; decide; decide
  have h7 : (plainS v.type).size ≤ 4 := by unfold plainS; split <;> decide
  have m1 : (⟨#[32, 58, 32]⟩ : ByteArray).size = 3 := by decide
  have m2 : (⟨#[65, 82, 82, 65, 89, 91]⟩ : ByteArray).size = 6 := by decide
  have m3 : (⟨#[46, 46]⟩ : ByteArray).size = 2 := by decide
  have m4 : (⟨#[93, 32, 79, 70, 32]⟩ : ByteArray).size = 5 := by decide
  have m5 : (⟨#[66, 79, 79, 76, 32, 58, 61, 32]⟩ : ByteArray).size = 8 := by decide
  have m6 : (⟨#[73, 78, 84, 32, 58, 61, 32]⟩ : ByteArray).size = 7 := by decide
  have m7 : (⟨#[59, 10, 69, 78, 68, 95, 86, 65, 82, 10]⟩ : ByteArray).size = 10 := by decide
  unfold varS
  simp only []
  split
  · simp only [ByteArray.size_append]; omega
  split
  · simp only [ByteArray.size_append]; omega
  split
  · simp only [ByteArray.size_append]; omega
  · simp only [ByteArray.size_append]; omega

end Go.Proofs.Ytcamegfnhbbaeaa

namespace Go.Proofs.Ytcamegfnhbbaeaa
open Go.RowKit
set_option linter.unusedVariables false
set_option linter.unusedSimpArgs false
attribute [local go_sem] ite_max ite_min vite_max vite_min ext_cell ext_frozen

def textS (p : Prg) : ByteArray := varsS rnameOf (((⟨#[80, 82, 79, 71, 82, 65, 77, 32]⟩ : ByteArray) ++ p.name) ++ ⟨#[10]⟩) p.vars ++ (rowsS p.body ++ ⟨#[69, 78, 68, 95, 80, 82, 79, 71, 82, 65, 77, 10]⟩)
def showV (p : Prg) (b : Bool) : Value := if b = true then (if 16384 < (textS p).size then .tuple #[.string ⟨#[]⟩, .int .i64 13] else .tuple #[.string (textS p), .int .i64 0]) else .tuple #[.string ⟨#[]⟩, .int .i64 5]
theorem RowV.at9 {w : World} {A : Option Addr} {xs : List VarS} {cap : Nat} (h : RowV w A xs cap) {i : Nat} (hi : i < xs.length) : ∃ b off v, A = some ⟨b, off, none⟩ ∧ b < w.heap.size ∧ xs[i]? = some v ∧ v.Ok ∧ w.rangeAt b (off + i * 8) v.cells := by
  obtain ⟨b, off, v, cs, hA, hb, hv, ⟨rfl, hok⟩, hcell⟩ := RowOf.at h hi
  refine ⟨b, off, v, hA, hb, hv, hok, fun j u hu => ?_⟩
  have hj : j < 8 := (List.getElem?_eq_some_iff.1 hu).1
  rw [hcell j hj]
  exact hu
theorem idx3 (k : Int) (h : 0 ≤ k ∧ k ≤ 2) (w : World) : (Instr.index 56 (.agg #[.string ⟨#[86, 65, 82, 10]⟩, .string ⟨#[86, 65, 82, 95, 73, 78, 80, 85, 84, 10]⟩, .string ⟨#[86, 65, 82, 95, 79, 85, 84, 80, 85, 84, 10]⟩]) (.int .i64 k)).run Try.prog w = .ok (.string (sectS k)) w := by
  rcases (show k = 0 ∨ k = 1 ∨ k = 2 by omega) with rfl | rfl | rfl
  all_goals kernel_rfl

set_option maxRecDepth 100000 in
set_option maxHeartbeats 4000000 in
theorem show_of (p : Prg) (cs : List Value) (w : World) (h : PrgAt w p cs) (b : Bool) (hF : ∀ W, Below w.heap.size w W → Calls Try.prog 10 #[.agg cs.toArray] W fun e w' => e = .returned (.bool b) ∧ Below W.heap.size W w') (hfit : b = true → FitP p) (hnd : nodesSs p.body ≤ 16777216) :
    Calls Try.prog 11 #[.agg cs.toArray] w fun e w' => e = .returned (showV p b) ∧ Below w.heap.size w w' := by
  obtain ⟨Av, kv, Ab, kb, rfl, hv, hbd⟩ := h
  have HRV := Lib.hid hv
  have HFI := Lib.hid hF
  have HND := Lib.hid hnd
  have hv1 := hv.1
  have hv2 := hv.2.1
  show Calls Try.prog 11 #[.agg #[.string p.name, .slice Av p.vars.length kv, .slice Ab p.body.length kb]] w _
  have HRB := Lib.hid hbd
  clear hv hbd hF hnd
  go_enter Try.func11, Try.ntmps11
  go_upto_region 1 with (fail)
  refine wp_name fun W hW => ?_
  obtain ⟨B, hB⟩ : ∃ B, B = w.heap.size := ⟨_, rfl⟩
  have HP : Hid (∀ W', Below W.heap.size W W' → W'.cell? ⟨B, 0, none⟩ = some (.string p.name) ∧ W'.cell? ⟨B, 1, none⟩ = some (.slice Av p.vars.length kv) ∧ W'.cell? ⟨B, 2, none⟩ = some (.slice Ab p.body.length kb) ∧ B < W'.heap.size) := Lib.hid (fun W' hW' => by
    have hl : B < W.heap.size := by rw [hW.out, hB]; simp
    exact ⟨(hW'.cell (p := ⟨B, 0, none⟩) hl).trans (by rw [hW.out, hB]; go_simp), (hW'.cell (p := ⟨B, 1, none⟩) hl).trans (by rw [hW.out, hB]; go_simp), (hW'.cell (p := ⟨B, 2, none⟩) hl).trans (by rw [hW.out, hB]; go_simp), Nat.lt_of_lt_of_le hl hW'.size⟩)
  have hbel : Below w.heap.size w W := by rw [hW.out]; (repeat' (first | (with_reducible exact Below.refl _ _) | (with_reducible assumption) | (with_reducible refine below_drewN ?_ _) | (with_reducible refine Below.drew ?_) | (with_reducible refine below_new ?_ (Nat.le_refl _) _) | (with_reducible refine Below.setCell ?_ ?_ _) | (with_reducible refine below_go ?_ (by assumption) (Nat.le_refl _)) | (simp; done) | (simp; omega) | omega))
  rw [← hB]
  have HB := Lib.hid hbel
  obtain ⟨p0, p1, p2, lB⟩ := HP.out W (Below.refl _ _)
  clear hW hbel hB
  go_wp2_with fail
  refine (HFI.out _ HB.out).mono ?_
  rintro e w1 ⟨rfl, hb1⟩
  have HS1 := Lib.hid hb1
  have HB1 := Lib.hid (HB.out.trans (hb1.mono HB.out.size))
  clear p0 p1 p2 lB hb1
  obtain ⟨p0, p1, p2, lB⟩ := HP.out w1 HS1.out
  cases b
  · go_wp2
    go_ret2
    exact ⟨rfl, HB1.out⟩
  have hfp := hfit rfl
  have HFP := Lib.hid hfp
  have hnm := hfp.nm
  have hn64 := hfp.vl
  obtain ⟨n, hn⟩ : ∃ n, p.vars.length = n := ⟨_, rfl⟩
  rw [hn] at hv1 hn64 p1
  have HN := Lib.hid hn
  obtain ⟨s0, hs0⟩ : ∃ s, ((⟨#[80, 82, 79, 71, 82, 65, 77, 32]⟩ : ByteArray) ++ p.name) ++ ⟨#[10]⟩ = s := ⟨_, rfl⟩
  have hs0z : s0.size ≤ 40 := by
    rw [← hs0]
    simp only [ByteArray.size_append, show (⟨#[80, 82, 79, 71, 82, 65, 77, 32]⟩ : ByteArray).size = 8 by decide, show (⟨#[10]⟩ : ByteArray).size = 1 by decide]
    omega
  have HS0 := Lib.hid hs0
  clear hfp hfit hs0
  go_upto_region 5 with (fail)
  clear p0 p1 p2 lB
  rw [show (⟨#[80, 82, 79, 71, 82, 65, 77, 32]⟩ : ByteArray) ++ p.name ++ ⟨#[10]⟩ = s0 from HS0.out]
  go_loopw [4, 5] (fun vs vi wr => ∃ (i : Nat) (a : ByteArray), i ≤ n ∧ vi = .int .i64 i ∧ vs = .string a ∧ a.size ≤ 40 + 200 * i ∧ Hid (a = varsS rnameOf s0 (p.vars.take i)) ∧ Below w1.heap.size w1 wr) (fun _ vi _ => n - (intOf vi).toNat)
  case atStart => exact ⟨0, s0, by omega, rfl, rfl, by omega, Lib.hid rfl, Below.refl _ _⟩
  case round =>
    obtain ⟨i, a, hi, rfl, rfl, ha, HA, hbr⟩ := hrel
    have HSr := Lib.hid (HS1.out.trans (hbr.mono HS1.out.size))
    have HBr := Lib.hid (HB1.out.trans (hbr.mono HB1.out.size))
    obtain ⟨p0, p1, p2, lB⟩ := HP.out wr HSr.out
    rw [HN.out] at p1
    have HR := Lib.hid hbr
    clear hbr
    by_cases hlt : i < n
    · have hi0 : (0 : Int) ≤ (i : Int) ∧ (i : Int) < (n : Int) := by omega
      obtain ⟨bb, off, v, rfl, hbl, hx, hok, hrg⟩ := RowV.at9 (HRV.out.below HBr.out) (i := i) (by rw [HN.out]; exact hlt)
      have HOK := Lib.hid hok
      clear hok
      have hvm := List.mem_of_getElem? hx
      have hvf := HFP.out.vars v hvm
      have hvn := hvf.nm
      have HRG := Lib.hid hrg
      have hst := varsS_take (nk := rnameOf) (s := s0) hx
      rw [← HA.out] at hst
      have HST := Lib.hid hst
      have hvsz := varS_size rnameOf (fun k => Nat.le_trans (rname_size k) (by omega)) a v hvn
      have HVZ := Lib.hid hvsz
      have ix := idx3 v.sect ⟨hvf.lo, hvf.hi⟩
      clear hx hrg hst hvsz hvm hvf
      go_upto_region 8 with (first | refine wpList_load_mid rfl 53 _ rfl bb (off + i * 8) rfl v.cells _ HRG.out Try.underlying53 rfl var_size8 ?_ | refine wpList_store_new rfl 53 _ _ rfl wr _ v.cells.toArray rfl rfl rfl var_size8 rfl (var_one8 v) ?_)
      refine wp_name fun W2 hW2 => ?_
      obtain ⟨V, hV⟩ : ∃ V, V = wr.heap.size := ⟨_, rfl⟩
      have hh : W2.heap[V]? = some (.cells v.cells.toArray 53) := by rw [hW2.out, hV]; exact heap_alloc_new _ _
      have hb2 : Below wr.heap.size wr W2 := by rw [hW2.out]; (repeat' (first | (with_reducible exact Below.refl _ _) | (with_reducible assumption) | (with_reducible refine below_drewN ?_ _) | (with_reducible refine Below.drew ?_) | (with_reducible refine below_new ?_ (Nat.le_refl _) _) | (with_reducible refine Below.setCell ?_ ?_ _) | (with_reducible refine below_go ?_ (by assumption) (Nat.le_refl _)) | (simp; done) | (simp; omega) | omega))
      rw [← hV]
      have d0 : W2.cell? ⟨V, 0, none⟩ = some (.string v.name) := heap_cell 0 _ hh rfl
      have d2 : W2.cell? ⟨V, 2, none⟩ = some (.int .i64 v.sect) := heap_cell 2 _ hh rfl
      have lV : V < W2.heap.size := (Array.getElem?_eq_some_iff.1 hh).1
      have HH := Lib.hid hh
      have HR2 := Lib.hid (HR.out.trans (hb2.mono HR.out.size))
      have hss : (sectS v.sect).size ≤ 11 := by unfold sectS; split; decide; split; decide; decide
      obtain ⟨sc, hsc⟩ : ∃ x, sectS v.sect = x := ⟨_, rfl⟩
      rw [hsc] at hss ix
      have HSC := Lib.hid hsc
      clear hW2 hV hh hb2 p0 p1 p2 HR hsc
      simp only [Act.put]
      refine wp_region_ext (by kernel_rfl) (by kernel_rfl) ?_
      repeat (go_big_quiet_step (fail))
      refine wpQuiet_nil ?_
      intro w7 hb7
      replace hb7 := ext_below hb7
      have hh7 := (hb7.block V lV).trans HH.out
      have HR7 := Lib.hid (HR2.out.trans (hb7.mono HR2.out.size))
      have d1 : w7.cell? ⟨V, 1, none⟩ = some (.int .i64 v.type) := heap_cell 1 _ hh7 rfl
      have d3 : w7.cell? ⟨V, 3, none⟩ = some (.bool v.arr) := heap_cell 3 _ hh7 rfl
      have d4 : w7.cell? ⟨V, 4, none⟩ = some (.int .i64 v.lo) := heap_cell 4 _ hh7 rfl
      have d5 : w7.cell? ⟨V, 5, none⟩ = some (.int .i64 v.hi) := heap_cell 5 _ hh7 rfl
      have d6 : w7.cell? ⟨V, 6, none⟩ = some (.int .i64 v.init) := heap_cell 6 _ hh7 rfl
      have lV7 : V < w7.heap.size := (Array.getElem?_eq_some_iff.1 hh7).1
      clear hh7 hb7 d0 d2 lV ix
      obtain ⟨a8, ha8⟩ : ∃ s, a ++ ((sc ++ v.name) ++ (⟨#[32, 58, 32]⟩ : ByteArray)) = s := ⟨_, rfl⟩
      have hz8 : a8.size ≤ a.size + 30 := by
        rw [← ha8]
        simp only [ByteArray.size_append, show (⟨#[32, 58, 32]⟩ : ByteArray).size = 3 by decide]
        omega
      simp only [ha8]
      have HA8 := Lib.hid ha8
      clear ha8
      obtain ⟨ty, hty⟩ : ∃ x, v.type = x := ⟨_, rfl⟩
      obtain ⟨lo, hlo⟩ : ∃ x, v.lo = x := ⟨_, rfl⟩
      obtain ⟨hi, hhi⟩ : ∃ x, v.hi = x := ⟨_, rfl⟩
      obtain ⟨it, hit⟩ : ∃ x, v.init = x := ⟨_, rfl⟩
      obtain ⟨ar, har⟩ : ∃ x, v.arr = x := ⟨_, rfl⟩
      rw [hty] at d1
      rw [har] at d3
      rw [hlo] at d4
      rw [hhi] at d5
      rw [hit] at d6
      have HLO : Hid (-9223372036854775808 ≤ lo ∧ lo ≤ 9223372036854775807) := Lib.hid (by rw [← hlo]; exact HOK.out.lo)
      have HHI : Hid (-9223372036854775808 ≤ hi ∧ hi ≤ 9223372036854775807) := Lib.hid (by rw [← hhi]; exact HOK.out.hi)
      have HIT : Hid (-9223372036854775808 ≤ it ∧ it ≤ 9223372036854775807) := Lib.hid (by rw [← hit]; exact HOK.out.init)
      have zlo := numS_size lo
      have zhi := numS_size hi
      have zit := numS_size it
      have ztr := truthS_size it
      have zrn := rname_size ty
      have HEQ : Hid (∀ t : ByteArray, (if ar = true then a8 ++ ((((((⟨#[65, 82, 82, 65, 89, 91]⟩ : ByteArray) ++ numS lo) ++ ⟨#[46, 46]⟩) ++ numS hi) ++ ⟨#[93, 32, 79, 70, 32]⟩) ++ plainS ty)
          else if 2 < ty then a8 ++ rnameOf ty
          else if ty = 2 then a8 ++ ((⟨#[66, 79, 79, 76, 32, 58, 61, 32]⟩ : ByteArray) ++ truthS it)
          else a8 ++ ((⟨#[73, 78, 84, 32, 58, 61, 32]⟩ : ByteArray) ++ numS it)) = t → varS rnameOf a v = t ++ ⟨#[59, 10, 69, 78, 68, 95, 86, 65, 82, 10]⟩) := Lib.hid (fun t ht => by
        unfold varS
        rw [HSC.out, HA8.out, hty, hlo, hhi, hit, har]
        simp only []
        rw [ht])
      clear hty hlo hhi hit har
      have m1 : (⟨#[65, 82, 82, 65, 89, 91]⟩ : ByteArray).size = 6 := by decide
      have m2 : (⟨#[46, 46]⟩ : ByteArray).size = 2 := by decide
      have m3 : (⟨#[93, 32, 79, 70, 32]⟩ : ByteArray).size = 5 := by decide
      have m4 : (⟨#[66, 79, 79, 76, 32, 58, 61, 32]⟩ : ByteArray).size = 8 := by decide
      have m5 : (⟨#[73, 78, 84, 32, 58, 61, 32]⟩ : ByteArray).size = 7 := by decide
      have m6 : (⟨#[59, 10, 69, 78, 68, 95, 86, 65, 82, 10]⟩ : ByteArray).size = 10 := by decide
      have m7 : (⟨#[66, 79, 79, 76]⟩ : ByteArray).size = 4 := by decide
      have m8 : (⟨#[73, 78, 84]⟩ : ByteArray).size = 3 := by decide
      by_cases h2 : ty = 2
      · have u2 : (ty == 2) = true := by simp [h2]
        have u3 : ¬ (2 < ty) := by omega
        have K2 := Lib.hid h2
        clear h2
        cases ar
        · have he := HEQ.out _ (by rw [if_neg (by decide), if_neg u3, if_pos K2.out])
          obtain ⟨nx, hnx⟩ : ∃ x, varS rnameOf a v = x := ⟨_, rfl⟩
          rw [hnx] at he
          have hvz := HVZ.out
          rw [hnx] at hvz
          have HST2 : Hid (varsS rnameOf s0 (p.vars.take (i + 1)) = nx) := Lib.hid (HST.out.trans hnx)
          have HE := Lib.hid he
          clear he hnx
          go_wp2_with ((go_at_call 31; refine (truth19 it _).mono ?_; rintro e w' ⟨rfl, rfl⟩))
          go_wp2
          go_roundw
          case rel => exact ⟨i + 1, nx, by omega, by go_num, by rw [HE.out], by omega, Lib.hid HST2.out.symm, HR7.out⟩
          case measure => simp [intOf]; omega
        · have he := HEQ.out _ (by rw [if_pos rfl, show plainS ty = ⟨#[66, 79, 79, 76]⟩ by unfold plainS; rw [if_pos K2.out]])
          obtain ⟨nx, hnx⟩ : ∃ x, varS rnameOf a v = x := ⟨_, rfl⟩
          rw [hnx] at he
          have hvz := HVZ.out
          rw [hnx] at hvz
          have HST2 : Hid (varsS rnameOf s0 (p.vars.take (i + 1)) = nx) := Lib.hid (HST.out.trans hnx)
          have HE := Lib.hid he
          clear he hnx
          go_wp2_with fail
          refine wp_region_ext (by kernel_rfl) (by kernel_rfl) ?_
          repeat (go_big_quiet_step (first | (go_at_call 30; with_reducible exact ext_same (num19 lo HLO.out _)) | (go_at_call 30; with_reducible exact ext_same (num19 hi HHI.out _))))
          refine wpQuiet_nil ?_
          intro w9 hb9
          replace hb9 := ext_below hb9
          have HR9 := Lib.hid (HR7.out.trans (hb9.mono HR7.out.size))
          clear d1 d3 d4 d5 d6 hb9
          go_wp2
          go_roundw
          case rel => exact ⟨i + 1, nx, by omega, by go_num, by rw [HE.out], by omega, Lib.hid HST2.out.symm, HR9.out⟩
          case measure => simp [intOf]; omega
      · have u2 : (ty == 2) = false := by simp [h2]
        cases ar
        · by_cases h3 : 2 < ty
          · have he := HEQ.out _ (by rw [if_neg (by decide), if_pos h3])
            obtain ⟨nx, hnx⟩ : ∃ x, varS rnameOf a v = x := ⟨_, rfl⟩
            rw [hnx] at he
            have hvz := HVZ.out
            rw [hnx] at hvz
            have HST2 : Hid (varsS rnameOf s0 (p.vars.take (i + 1)) = nx) := Lib.hid (HST.out.trans hnx)
            have HE := Lib.hid he
            clear he hnx
            go_wp2_with fail
            refine (rname_any ty _).mono ?_
            rintro e w9 ⟨rfl, hb9⟩
            have HR9 := Lib.hid (HR7.out.trans (hb9.mono HR7.out.size))
            clear d1 d3 d4 d5 d6 hb9
            go_wp2
            go_roundw
            case rel => exact ⟨i + 1, nx, by omega, by go_num, by rw [HE.out], by omega, Lib.hid HST2.out.symm, HR9.out⟩
            case measure => simp [intOf]; omega
          · have he := HEQ.out _ (by rw [if_neg (by decide), if_neg h3, if_neg h2])
            obtain ⟨nx, hnx⟩ : ∃ x, varS rnameOf a v = x := ⟨_, rfl⟩
            rw [hnx] at he
            have hvz := HVZ.out
            rw [hnx] at hvz
            have HST2 : Hid (varsS rnameOf s0 (p.vars.take (i + 1)) = nx) := Lib.hid (HST.out.trans hnx)
            have HE := Lib.hid he
            clear he hnx
            go_wp2_with ((go_at_call 30; refine (num19 it HIT.out _).mono ?_; rintro e w' ⟨rfl, rfl⟩))
            go_wp2
            go_roundw
            case rel => exact ⟨i + 1, nx, by omega, by go_num, by rw [HE.out], by omega, Lib.hid HST2.out.symm, HR7.out⟩
            case measure => simp [intOf]; omega
        · have he := HEQ.out _ (by rw [if_pos rfl, show plainS ty = ⟨#[73, 78, 84]⟩ by unfold plainS; rw [if_neg h2]])
          obtain ⟨nx, hnx⟩ : ∃ x, varS rnameOf a v = x := ⟨_, rfl⟩
          rw [hnx] at he
          have hvz := HVZ.out
          rw [hnx] at hvz
          have HST2 : Hid (varsS rnameOf s0 (p.vars.take (i + 1)) = nx) := Lib.hid (HST.out.trans hnx)
          have HE := Lib.hid he
          clear he hnx
          go_wp2_with fail
          refine wp_region_ext (by kernel_rfl) (by kernel_rfl) ?_
          repeat (go_big_quiet_step (first | (go_at_call 30; with_reducible exact ext_same (num19 lo HLO.out _)) | (go_at_call 30; with_reducible exact ext_same (num19 hi HHI.out _))))
          refine wpQuiet_nil ?_
          intro w9 hb9
          replace hb9 := ext_below hb9
          have HR9 := Lib.hid (HR7.out.trans (hb9.mono HR7.out.size))
          clear d1 d3 d4 d5 d6 hb9
          go_wp2
          go_roundw
          case rel => exact ⟨i + 1, nx, by omega, by go_num, by rw [HE.out], by omega, Lib.hid HST2.out.symm, HR9.out⟩
          case measure => simp [intOf]; omega
    · obtain rfl : i = n := by omega
      have hra := rowsS_size p.body HFP.out.body
      obtain ⟨rt, hrt⟩ : ∃ x, rowsS p.body = x := ⟨_, rfl⟩
      rw [hrt] at hra
      have HRW := Lib.hid (fun W A c h => rows19_any p.body HFP.out.body HND.out W A c h)
      rw [hrt] at HRW
      have hnd2 := HND.out
      have hnrt : rt.size ≤ 1073741824 := by omega
      clear hra hnd2
      have m9 : (⟨#[69, 78, 68, 95, 80, 82, 79, 71, 82, 65, 77, 10]⟩ : ByteArray).size = 12 := by decide
      have HTX : Hid (textS p = a ++ (rt ++ ⟨#[69, 78, 68, 95, 80, 82, 79, 71, 82, 65, 77, 10]⟩)) := Lib.hid (by
        unfold textS
        rw [HS0.out, hrt, HA.out, List.take_of_length_le (by rw [HN.out]; exact Nat.le_refl _)])
      have HRT := Lib.hid hrt
      clear hrt
      go_wp2_with fail
      refine (HRW.out wr Ab kb (HRB.out.below HBr.out)).mono ?_
      rintro e w9 ⟨rfl, hb9⟩
      have HB9 := Lib.hid (HBr.out.trans (hb9.mono HBr.out.size))
      clear p0 p1 p2 hb9
      go_upto_region 21 with (fail)
      obtain ⟨tx, htx⟩ : ∃ x, a ++ (rt ++ (⟨#[69, 78, 68, 95, 80, 82, 79, 71, 82, 65, 77, 10]⟩ : ByteArray)) = x := ⟨_, rfl⟩
      have htz : tx.size ≤ 1073860000 := by
        rw [← htx]
        simp only [ByteArray.size_append]
        omega
      simp only [htx]
      have HTX2 : Hid (textS p = tx) := Lib.hid (HTX.out.trans htx)
      clear htx
      by_cases hbig : 16384 < tx.size
      · have HBG := Lib.hid hbig
        go_wp2
        go_ret2
        exact ⟨by unfold showV; rw [if_pos rfl, HTX2.out, if_pos HBG.out]; rfl, HB9.out⟩
      · have HBG := Lib.hid hbig
        go_wp2
        go_ret2
        exact ⟨by unfold showV; rw [if_pos rfl, HTX2.out, if_neg HBG.out]; rfl, HB9.out⟩

end Go.Proofs.Ytcamegfnhbbaeaa
