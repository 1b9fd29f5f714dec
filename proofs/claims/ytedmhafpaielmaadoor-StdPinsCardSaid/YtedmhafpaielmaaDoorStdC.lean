/- Layer 16: the pins that a row of names tells. -/
import Derived.Test.YtedmhafpaielmaaDoorStdB
import Derived.Test.YtedmhafpaielmaaDoorApp
import Derived.Test.YtedmhafpaielmaaDoorLie
import Derived.Test.YtedmhafpaielmaaDoorShelf
namespace Go.Proofs.YtedmhafpaielmaaDoor
open Go.RowKit
set_option linter.unusedVariables false
set_option linter.unusedSimpArgs false
attribute [local go_sem] ite_max ite_min vite_max vite_min ext_cell ext_frozen

def hashB (l : List UInt8) : Bool := Lib.hasSuffix l [35]
/-- the cells of a pin -/
def pinOf (inn : Bool) (l : List UInt8) : List Value := bif hashB l then [.string ⟨(Lib.trimSuffix l [35]).toArray⟩, .int .i64 1, .bool inn] else [.string ⟨l.toArray⟩, .int .i64 2, .bool inn]
theorem pinOf_len (inn : Bool) (l : List UInt8) : (pinOf inn l).length = 3 := by unfold pinOf; cases hashB l <;> rfl
theorem pinOf_one (inn : Bool) (l : List UInt8) : ∀ u ∈ pinOf inn l, u.oneCell' = true := by
  intro u hu
  unfold pinOf at hu
  cases h : hashB l <;> rw [h] at hu <;> simp only [cond_true, cond_false, List.mem_cons, List.not_mem_nil, or_false] at hu <;> rcases hu with rfl | rfl | rfl <;> rfl
def pinsK (inn : Bool) (fs : List (List UInt8)) (k : Nat) : List Value := (fs.take k).flatMap (pinOf inn)
theorem pinsK_succ (inn : Bool) (fs : List (List UInt8)) (k : Nat) (l : List UInt8) (h : fs[k]? = some l) : pinsK inn fs (k + 1) = pinsK inn fs k ++ pinOf inn l := by
  unfold pinsK
  obtain ⟨hk, rfl⟩ := List.getElem?_eq_some_iff.1 h
  rw [List.take_succ_eq_append_getElem hk, List.flatMap_append]
  simp
theorem owns_mono {w : World} {base base' : Nat} {e : TypeId} {size : Nat} {v : Value} {n : Nat} {xs : List Value} (h : w.ownsRow base e size v n xs) (hb : base' ≤ base) : w.ownsRow base' e size v n xs :=
  ⟨h.1, h.2.imp id fun ⟨g, cap, cur, h1, h2, h3⟩ => ⟨g, cap, cur, h1, Nat.le_trans hb h2, h3⟩⟩
theorem heap_new_at (w : World) (o : Obj) {n : Nat} (h : n = w.heap.size) : (w.alloc o).heap[n]? = some o := by
  subst h
  exact heap_alloc_new w o
/-- the cells of all pins -/
def pinsC (inn : Bool) (names : ByteArray) : List Value := (Lib.fields names.data.toList).flatMap (pinOf inn)
def pinsN (names : ByteArray) : Nat := (Lib.fields names.data.toList).length
theorem pinsK_all (inn : Bool) (names : ByteArray) : pinsK inn (Lib.fields names.data.toList) (pinsN names) = pinsC inn names := by
  unfold pinsK pinsN pinsC
  rw [List.take_length]

theorem pin_info : (Tryd.prog.info? 35).map (fun i => (i.zero, i.size, i.bytes)) = some (some (.agg #[.string ⟨#[]⟩, .int .i64 0, .bool false]), 3, 32) := by kernel_rfl

/-- the table of the library's that tells blanks -/
def Blanks (w : World) : Prop := ∀ w', Below w.heap.size w w' → Lib.TabIs Tryd.prog w' "strings.asciiSpace" .u8 Lib.asciiSpaceTab
/-- names that are short, and plain letters -/
def okN (names : ByteArray) : Bool := decide (names.size < 4294967281) && names.data.toList.all (fun b => decide (b.toNat < 128)) && decide (pinsN names ≤ 100) && (Lib.fields names.data.toList).all (fun l => decide (l.length ≤ 1000))
theorem Blanks.on {w w' : World} (h : Blanks w) (hb : Below w.heap.size w w') : Blanks w' := fun x hx => h x (hb.trans (hx.mono hb.size))
theorem Blanks.tab {w : World} (h : Blanks w) : Lib.TabIs Tryd.prog w "strings.asciiSpace" .u8 Lib.asciiSpaceTab := h w (Below.refl _ _)

set_option maxRecDepth 100000 in
set_option maxHeartbeats 2000000 in
theorem pins1_any (names : ByteArray) (inn : Bool) (w : World) (hok : okN names = true) (htab : Blanks w) :
    Calls Tryd.prog 20 #[.string names, .bool inn] w fun e w' => ∃ v, e = .returned v ∧ w'.ownsRow w.heap.size 35 3 v (pinsN names) (pinsC inn names) ∧ Below w.heap.size w w' := by
  unfold okN at hok
  simp only [Bool.and_eq_true, decide_eq_true_eq, List.all_eq_true] at hok
  obtain ⟨⟨⟨hs, hasc⟩, hn⟩, hln⟩ := hok
  have hascii : ∀ (j : Nat) b, names.data.toList[j]? = some b → b.toNat < 128 := fun j b hb => hasc b (List.mem_of_getElem? hb)
  obtain ⟨i0, hi0, hz0, hz1, hz2⟩ := info_parts pin_info
  have HI := Lib.hid hi0
  have HZ0 := Lib.hid hz0
  have HZ1 := Lib.hid hz1
  have HZ2 := Lib.hid hz2
  have HT := Lib.hid htab
  clear hi0 hz0 hz1 hz2 htab
  have HF := Tryd.strings_Fields names w hs hascii HT.out.tab
  have HALL := Lib.hid (pinsK_all inn names)
  obtain ⟨fs, hfs⟩ : ∃ fs, Lib.fields names.data.toList = fs := ⟨_, rfl⟩
  obtain ⟨n, hnn⟩ : ∃ n, pinsN names = n := ⟨_, rfl⟩
  have hfn : fs.length = n := by rw [← hfs, ← hnn]; rfl
  have hlen : ∀ (j : Nat) l, fs[j]? = some l → l.length ≤ 1000 := fun j l hl => hln l (by rw [hfs]; exact List.mem_of_getElem? hl)
  rw [hfs] at HF HALL
  rw [hnn] at HALL hn ⊢
  rw [hfn] at HF
  have HFL := Lib.hid hfn
  have HLEN := Lib.hid hlen
  have HF' := Lib.hid HF
  clear hfs hnn hfn HF hlen hs hascii hasc hln
  go_enter Tryd.func20, Tryd.ntmps20
  go_wp2_with fail
  refine HF'.out.mono ?_
  rintro e w1 ⟨rfl, hw1⟩
  have hcell : ∀ (k : Nat) l, fs[k]? = some l → w1.cell? ⟨w.heap.size, k, none⟩ = some (.string ⟨l.toArray⟩) := by
    intro k l hl
    subst hw1
    refine heap_cell k _ (heap_alloc_new w _) ?_
    simp [hl]
  have hb1 : Below w.heap.size w w1 := by
    subst hw1
    (repeat' (first | (with_reducible exact Below.refl _ _) | (with_reducible assumption) | (with_reducible refine below_drewN ?_ _) | (with_reducible refine Below.drew ?_) | (with_reducible refine below_new ?_ (Nat.le_refl _) _) | (with_reducible refine Below.setCell ?_ ?_ _) | (with_reducible refine below_go ?_ (by assumption) (Nat.le_refl _)) | (simp; done) | (simp; omega) | omega))
  have hz1 : w.heap.size + 1 ≤ w1.heap.size := by
    subst hw1
    simp
  have HC := Lib.hid hcell
  clear hw1 hcell HF'
  go_wp2_with fail
  go_loopw [5, 14] (fun v u wr => ∃ (k : Nat) (v' : Value), v' = v ∧ k ≤ n ∧ u = .int .i64 k ∧ Hid (wr.ownsRow w1.heap.size 35 3 v' k (pinsK inn fs k)) ∧ Below w1.heap.size w1 wr) (fun _ u _ => n - (intOf u).toNat)
  case atStart => exact ⟨0, _, rfl, by omega, rfl, Lib.hid (World.ownsRow_nil _ _ _ _), Below.refl _ _⟩
  case round =>
    obtain ⟨k, v', rfl, hk, rfl, HO, hbr⟩ := hrel
    have hbs := hbr.size
    by_cases hlt : k < n
    · obtain ⟨l, hl⟩ : ∃ l, fs[k]? = some l := ⟨fs[k]'(by rw [HFL.out]; exact hlt), List.getElem?_eq_getElem _⟩
      have c0 : wr.cell? ⟨w.heap.size, k, none⟩ = some (.string ⟨l.toArray⟩) := (hbr.cell (p := ⟨w.heap.size, k, none⟩) (by show w.heap.size < w1.heap.size; omega)).trans (HC.out k l hl)
      have hkn : (k : Int) < (n : Int) := by omega
      have hk0 : (0 : Int) ≤ (k : Int) := by omega
      have hls := HLEN.out k l hl
      have HK := Lib.hid (pinsK_succ inn fs k l hl)
      have HCS : ∀ w', Calls Tryd.prog 28 #[.string ⟨l.toArray⟩, .string ⟨#[35]⟩] w' fun e w'' => e = .returned (.tuple #[.string ⟨(Lib.trimSuffix l [35]).toArray⟩, .bool (hashB l)]) ∧ w'' = w' := fun w' => Tryd.strings_CutSuffix ⟨l.toArray⟩ ⟨#[35]⟩ w' (by show l.toArray.size ≤ 9223372036854775807; simp; omega)
      have HCS' := Lib.hid HCS
      clear HCS hl
      go_wp2_with fail
      refine (HCS'.out _).mono ?_
      rintro e w2 ⟨rfl, rfl⟩
      cases hh : hashB l
      · have hpin : pinOf inn l = [.string ⟨l.toArray⟩, .int .i64 2, .bool inn] := by unfold pinOf; rw [hh]; rfl
        have HP := Lib.hid hpin
        clear hh hpin
        go_upto_region 9 with (fail)
        refine wp_name fun W9 hW9 => ?_
        have p0 : W9.cell? ⟨wr.heap.size, 0, none⟩ = some (.string ⟨l.toArray⟩) := by rw [hW9.out]; go_simp
        have p1 : W9.cell? ⟨wr.heap.size, 1, none⟩ = some (.int .i64 2) := by rw [hW9.out]; go_simp
        have p2 : W9.cell? ⟨wr.heap.size, 2, none⟩ = some (.bool inn) := by rw [hW9.out]; go_simp
        have HB9 : Hid (Below wr.heap.size wr W9) := Lib.hid (by rw [hW9.out]; (repeat' (first | (with_reducible exact Below.refl _ _) | (with_reducible assumption) | (with_reducible refine below_drewN ?_ _) | (with_reducible refine Below.drew ?_) | (with_reducible refine below_new ?_ (Nat.le_refl _) _) | (with_reducible refine Below.setCell ?_ ?_ _) | (with_reducible refine below_go ?_ (by assumption) (Nat.le_refl _)) | (simp; done) | (simp; omega) | omega)))
        have hs9 : wr.heap.size < W9.heap.size := by rw [hW9.out]; simp [World.setCell]
        have HO9 := Lib.hid (owns_below HO.out HB9.out)
        clear hW9
        go_wp2_with (at_builtin; refine wpList_append_own _ rfl _ _ 30 rfl w1.heap.size 35 i0 (.agg #[.string ⟨#[]⟩, .int .i64 0, .bool false]) 3 32 Tryd.underlying30 HI.out HZ0.out HZ1.out HZ2.out rfl (by decide) _ k _ rfl (HO9.out.alloc _) ⟨W9.heap.size, 0, none⟩ 1 1 (pinOf inn l) rfl ?xlen ?xnews (pinOf_one _ _) ?xmax ?xby ?xbase ?_)
        case xlen => rw [pinOf_len]
        case xnews =>
          rw [HP.out]
          intro j u hu
          have had : (⟨W9.heap.size, 0, none⟩ : Addr).add j = ⟨W9.heap.size, j, none⟩ := by cases j <;> simp [Addr.add]
          rw [had]
          exact heap_cell j _ (heap_alloc_new _ _) (by rw [List.getElem?_toArray]; exact hu)
        case xmax => unfold maxLen; omega
        case xby => omega
        case xbase => first | omega | (simp; omega)
        intro v2 w2 hown2 hgrow _
        rw [← HK.out] at hown2
        have HO2 := Lib.hid hown2
        have hb2 : Below w1.heap.size w1 w2 := below_grown (below_new (hbr.trans (HB9.out.mono hbr.size)) (Nat.le_refl _) _) hgrow (HO9.out.alloc _) (Nat.le_refl _) (by simp; omega)
        clear hown2 hgrow HO HO9
        go_wp2
        go_roundw
        case rel => exact ⟨k + 1, _, rfl, by omega, by go_num, HO2, hb2⟩
        case measure => simp [intOf]; omega
      · have hpin : pinOf inn l = [.string ⟨(Lib.trimSuffix l [35]).toArray⟩, .int .i64 1, .bool inn] := by unfold pinOf; rw [hh]; rfl
        have HP := Lib.hid hpin
        clear hh hpin
        go_upto_region 9 with (fail)
        refine wp_name fun W9 hW9 => ?_
        have p0 : W9.cell? ⟨wr.heap.size, 0, none⟩ = some (.string ⟨(Lib.trimSuffix l [35]).toArray⟩) := by rw [hW9.out]; go_simp
        have p1 : W9.cell? ⟨wr.heap.size, 1, none⟩ = some (.int .i64 1) := by rw [hW9.out]; go_simp
        have p2 : W9.cell? ⟨wr.heap.size, 2, none⟩ = some (.bool inn) := by rw [hW9.out]; go_simp
        have HB9 : Hid (Below wr.heap.size wr W9) := Lib.hid (by rw [hW9.out]; (repeat' (first | (with_reducible exact Below.refl _ _) | (with_reducible assumption) | (with_reducible refine below_drewN ?_ _) | (with_reducible refine Below.drew ?_) | (with_reducible refine below_new ?_ (Nat.le_refl _) _) | (with_reducible refine Below.setCell ?_ ?_ _) | (with_reducible refine below_go ?_ (by assumption) (Nat.le_refl _)) | (simp; done) | (simp; omega) | omega)))
        have hs9 : wr.heap.size < W9.heap.size := by rw [hW9.out]; simp [World.setCell]
        have HO9 := Lib.hid (owns_below HO.out HB9.out)
        clear hW9
        go_wp2_with (at_builtin; refine wpList_append_own _ rfl _ _ 30 rfl w1.heap.size 35 i0 (.agg #[.string ⟨#[]⟩, .int .i64 0, .bool false]) 3 32 Tryd.underlying30 HI.out HZ0.out HZ1.out HZ2.out rfl (by decide) _ k _ rfl (HO9.out.alloc _) ⟨W9.heap.size, 0, none⟩ 1 1 (pinOf inn l) rfl ?xlen ?xnews (pinOf_one _ _) ?xmax ?xby ?xbase ?_)
        case xlen => rw [pinOf_len]
        case xnews =>
          rw [HP.out]
          intro j u hu
          have had : (⟨W9.heap.size, 0, none⟩ : Addr).add j = ⟨W9.heap.size, j, none⟩ := by cases j <;> simp [Addr.add]
          rw [had]
          exact heap_cell j _ (heap_alloc_new _ _) (by rw [List.getElem?_toArray]; exact hu)
        case xmax => unfold maxLen; omega
        case xby => omega
        case xbase => first | omega | (simp; omega)
        intro v2 w2 hown2 hgrow _
        rw [← HK.out] at hown2
        have HO2 := Lib.hid hown2
        have hb2 : Below w1.heap.size w1 w2 := below_grown (below_new (hbr.trans (HB9.out.mono hbr.size)) (Nat.le_refl _) _) hgrow (HO9.out.alloc _) (Nat.le_refl _) (by simp; omega)
        clear hown2 hgrow HO HO9
        go_wp2
        go_roundw
        case rel => exact ⟨k + 1, _, rfl, by omega, by go_num, HO2, hb2⟩
        case measure => simp [intOf]; omega
    · obtain rfl : k = n := by omega
      have HO3 := HO.out
      rw [HALL.out] at HO3
      obtain ⟨A, c, hv, hc1, hc2, hbk⟩ := own_form HO3
      have HO4 := Lib.hid HO3
      clear HO3
      go_wp2
      go_ret
      exact ⟨_, rfl, owns_mono HO4.out (by omega), by (repeat' (first | (with_reducible exact Below.refl _ _) | (with_reducible assumption) | (with_reducible refine below_drewN ?_ _) | (with_reducible refine Below.drew ?_) | (with_reducible refine below_new ?_ (Nat.le_refl _) _) | (with_reducible refine Below.setCell ?_ ?_ _) | (with_reducible refine below_go ?_ (by assumption) (Nat.le_refl _)) | (simp; done) | (simp; omega) | omega))⟩

end Go.Proofs.YtedmhafpaielmaaDoor
