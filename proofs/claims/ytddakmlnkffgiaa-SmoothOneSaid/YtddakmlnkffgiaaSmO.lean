/- Layer 10: SmoothOne, the main walk. -/
import Derived.Test.YtddakmlnkffgiaaSmN
namespace Go.Proofs.Ytddakmlnkffgiaa
open Go.RowKit
set_option linter.unusedVariables false
set_option linter.unusedSimpArgs false
attribute [local go_sem] ite_max ite_min vite_max vite_min ext_cell ext_frozen

theorem rev_get (zs : List Int) (j : Nat) (h : j < zs.length) : (zs.reverse)[zs.length - 1 - j]?.getD 0 = zs[j]?.getD 0 := by
  rw [List.getElem?_reverse (by omega)]
  congr 2
  omega
theorem told_cell {w w' : World} {A B : Nat} {zs : List Int} {m ga ka gb kb gt L c : Nat} (s : OneS w w' A B zs m ga ka gb kb (.slice (some ⟨gt, 0, none⟩) L c) zs.reverse) (j : Nat) (h : j < zs.length) : w'.cell? ⟨gt, zs.length - 1 - j, none⟩ = some (.int .i64 (zs[j]?.getD 0)) := by
  have := owns_cell s.own rfl (j := zs.length - 1 - j) (u := .int .i64 (zs[j]?.getD 0)) (by rw [intsV_get _ _ _ (by rw [List.length_reverse]; omega), rev_get zs j h])
  exact this

set_option maxRecDepth 100000 in
set_option maxHeartbeats 8000000 in
theorem one_yes (m : Nat) (f : Int) (sa : Option Addr) (n cap : Nat) (xs : List Int) (w : World) (hf : -1099511627776 ≤ f ∧ f ≤ 1099511627776) (hm : 1 ≤ m ∧ m ≤ 16) (hn : n ≤ 9223372036854775807)
    (hx : ∀ i, i < n → -32768 ≤ xs[i]?.getD 0 ∧ xs[i]?.getD 0 ≤ 32767) (hc : n = 0 ∨ ∃ b off, sa = some ⟨b, off, none⟩ ∧ b < w.heap.size ∧ ∀ i, i < n → w.cell? ⟨b, off + i, none⟩ = some (.int .i16 (xs[i]?.getD 0))) :
    Calls Try.prog 12 #[.int .i64 (m : Int), .int .i64 f, .slice sa n cap] w fun e w' => e = .returned (.bool true) ∧ Below w.heap.size w w' := by
  have hinf : (Try.prog.info? 2).map (fun i => (i.zero, i.size, i.bytes)) = some (some (.int .i64 0), 1, 8) := by kernel_rfl
  obtain ⟨i0, hi0, hz0, hz1, hz2⟩ := info_parts hinf
  have HI := Lib.hid hi0
  have HZ0 := Lib.hid hz0
  have HZ1 := Lib.hid hz1
  have HZ2 := Lib.hid hz2
  have HX := Lib.hid hx
  have HC := Lib.hid hc
  have HF : Hid (plB f = true) := Lib.hid (decide_eq_true (by omega))
  clear hx hc hinf hi0 hz0 hz1 hz2
  go_enter Try.func12, Try.ntmps12
  go_wp2_with fail
  refine (awake10_at _).mono ?_
  rintro e w1 ⟨rfl, hb1⟩
  go_wp2_with fail
  refine (sm_new_w f m _ hm HF.out).mono ?_
  rintro e w3 ⟨g0, rfl, hg0, hb3, o3⟩
  have z3 := hb1.size
  have z4 := hb3.size
  have hg3 := o3.gl
  have hB3 : Below w.heap.size w w3 := by (repeat' (first | (with_reducible exact Below.refl _ _) | (with_reducible assumption) | (with_reducible refine below_drewN ?_ _) | (with_reducible refine Below.drew ?_) | (with_reducible refine below_new ?_ (Nat.le_refl _) _) | (with_reducible refine Below.setCell ?_ ?_ _) | (with_reducible refine below_go ?_ (by assumption) (Nat.le_refl _)) | (simp; done) | (simp; omega) | omega))
  go_wp2_with fail
  refine (sm_new_w f 1 _ (by omega) HF.out).mono ?_
  rintro e w4 ⟨g1, rfl, hg1, hb4, o4⟩
  have o3' : OnW w4 (List.replicate m f) m g0 m := o3.below (by (repeat' (first | (with_reducible exact Below.refl _ _) | (with_reducible assumption) | (with_reducible refine below_drewN ?_ _) | (with_reducible refine Below.drew ?_) | (with_reducible refine below_new ?_ (Nat.le_refl _) _) | (with_reducible refine Below.setCell ?_ ?_ _) | (with_reducible refine below_go ?_ (by assumption) (Nat.le_refl _)) | (simp; done) | (simp; omega) | omega)))
  have hg1' : w3.heap.size + 1 ≤ g1 := by simpa using hg1
  have hg1l := o4.gl
  have hz34 : w3.heap.size + 1 ≤ w4.heap.size := by have := hb4.size; simpa using this
  have hB4 : Below w.heap.size w w4 := by (repeat' (first | (with_reducible exact Below.refl _ _) | (with_reducible assumption) | (with_reducible refine below_drewN ?_ _) | (with_reducible refine Below.drew ?_) | (with_reducible refine below_new ?_ (Nat.le_refl _) _) | (with_reducible refine Below.setCell ?_ ?_ _) | (with_reducible refine below_go ?_ (by assumption) (Nat.le_refl _)) | (simp; done) | (simp; omega) | omega))
  replace o4 := o4.congr (ys := List.replicate m f) (fun i hi => by rw [rep_get _ f i (by omega), rep_get _ f i hi])
  have hmI : (1 : Int) ≤ (m : Int) := by omega
  obtain ⟨hb4c, hb4f⟩ := bcell hb4
  have hb4z := hb4.size
  have hb4c0 := fun o => hb4c (w3.heap.size) o (by first | (simp; done) | (simp; omega) | (simp at *; omega) | omega)
  have hb4f0 := fun o => hb4f (w3.heap.size) o (by first | (simp; done) | (simp; omega) | (simp at *; omega) | omega)
  have hb4l0 := below_lt (b := w3.heap.size) hb4 (by first | (simp; done) | (simp; omega) | (simp at *; omega) | omega)
  go_wp2_with fail
  go_loopw [11, 12] (fun v i w' => ∃ (j : Nat), j ≤ m ∧ i = .int .i64 (j : Int) ∧ Hid (OneS w w' w3.heap.size w4.heap.size (List.replicate m f) m g0 m g1 1 v (List.replicate j f))) (fun _ i _ => m - (intOf i).toNat)
  case atStart =>
    have hown := World.ownsRow_made (base := w.heap.size) (e := 2) (size := 1) (w4.alloc (.cells #[.slice (some ⟨g1, 0, none⟩) 1 1] 71)) #[] 0 (by simp; omega) (by unfold maxLen; omega) rfl
    have hb5 : Below w4.heap.size w4 ((w4.alloc (.cells #[.slice (some ⟨g1, 0, none⟩) 1 1] 71)).alloc (.cells #[] 2)) := ((Below.refl _ _).alloc (Nat.le_refl _) _).alloc (by simp) _
    refine ⟨0, by omega, rfl, Lib.hid ⟨by (repeat' (first | (with_reducible exact Below.refl _ _) | (with_reducible assumption) | (with_reducible refine below_drewN ?_ _) | (with_reducible refine Below.drew ?_) | (with_reducible refine below_new ?_ (Nat.le_refl _) _) | (with_reducible refine Below.setCell ?_ ?_ _) | (with_reducible refine below_go ?_ (by assumption) (Nat.le_refl _)) | (simp; done) | (simp; omega) | omega)), by omega, by omega, by omega, by simp; omega, by simp; omega, by go_simp, by go_simp, by go_simp, by go_simp, o3'.below hb5, o4.below hb5, by simpa [intsV] using hown, ?_⟩⟩
    intro b hb he
    simp only [List.mem_cons, List.not_mem_nil, or_false] at hb
    simp only [Value.ownBlock, Option.some.injEq] at he
    rcases hb with rfl | rfl | rfl | rfl <;> omega
  case round =>
    obtain ⟨j, hj, rfl, HS⟩ := hrel
    by_cases hjm : j < m
    · have hjI : (j : Int) < (m : Int) := by omega
      have hbs := HS.out.be.size
      have how := HS.out.own
      rw [List.length_replicate] at how
      have HOW := Lib.hid how
      clear how
      go_wp2_with (at_builtin; refine wpList_append_lies _ rfl _ _ 69 rfl w.heap.size 2 i0 (.int .i64 0) 1 8 Try.underlying69 HI.out HZ0.out HZ1.out HZ2.out rfl (by decide) _ j _ rfl (HOW.out.alloc _) ⟨wr.heap.size, 0, none⟩ 1 1 [.int .i64 f] rfl rfl (World.news_of_block (heap_alloc_new _ _)) (one_cell _ rfl) ?c1 ?c2 ?c3 ?c4 _ rfl ?_)
      case c1 => omega
      case c2 => unfold maxLen; omega
      case c3 => omega
      case c4 => simp; omega
      intro g c w5 hown5 hgrow hat hlt
      have hS5 := HS.out.append hgrow (g := g) (c := c) (x := f) (by rw [List.length_replicate]; exact hown5) hat
      rw [List.length_replicate, ← List.replicate_succ'] at hS5
      have HS5 := Lib.hid hS5
      clear hS5 hown5 hgrow hat
      go_wp2
      go_roundw
      case rel => exact ⟨j + 1, by omega, by go_num, HS5⟩
      case measure => simp [intOf]; omega
    · obtain rfl : j = m := by omega
      have HS1 : Hid (∃ v' : Value, True) := Lib.hid ⟨.bool true, trivial⟩
      clear hb4c hb4f hb4z hb4c0 hb4f0 hb4l0 hb4 o3' o4 o3 HS1
      go_wp2_with fail
      go_loopw [11, 13] (fun v i w' => ∃ (tv : Value) (k : Nat) (zs : List Int) (ga ka gb kb : Nat), tv = v ∧ k ≤ n ∧ k ≤ 300 ∧ i = .int .i64 (k : Int) ∧ zs.length = j + k ∧ Hid (rightW zs j = true) ∧ Hid (rightW zs 1 = true) ∧ Hid (OneS w w' w3.heap.size w4.heap.size zs j ga ka gb kb v zs.reverse)) (fun _ i _ => n - (intOf i).toNat)
      case atStart =>
        refine ⟨_, 0, List.replicate j f, g0, j, g1, 1, rfl, by omega, by omega, rfl, by simp, Lib.hid (rightW_rep j j f hm (by omega) HF.out), Lib.hid (rightW_rep j 1 f (by omega) hm.1 HF.out), ?_⟩
        rw [List.reverse_replicate]
        exact HS
      case round =>
        obtain ⟨wo, rfl⟩ : ∃ wo : World, wo = wr := ⟨_, rfl⟩
        clear HS
        obtain ⟨tv, k, zs, ga, ka, gb, kb, rfl, hk, hk3, rfl, hzl, HR, HR1, HS⟩ := hrel
        by_cases hlt : k < n
        · by_cases h300 : k < 300
          · obtain ⟨x, hxe⟩ : ∃ x, xs[k]?.getD 0 = x := ⟨_, rfl⟩
            obtain ⟨b, off, rfl, hb, hcs⟩ : ∃ b off, sa = some ⟨b, off, none⟩ ∧ b < w.heap.size ∧ ∀ i, i < n → w.cell? ⟨b, off + i, none⟩ = some (.int .i16 (xs[i]?.getD 0)) := by
              rcases HC.out with h | h
              · omega
              · exact h
            have hxb := HX.out k hlt
            rw [hxe] at hxb
            have hxc : wo.cell? ⟨b, off + k, none⟩ = some (.int .i16 x) := by rw [HS.out.be.cell (p := ⟨b, off + k, none⟩) hb, hcs k hlt, hxe]
            have HPP : Hid (plB (f + x) = true) := Lib.hid (decide_eq_true (by omega))
            obtain ⟨zs', hz'⟩ : ∃ zs', (f + x) :: zs = zs' := ⟨_, rfl⟩
            have HZ := Lib.hid hz'
            have HZL := Lib.hid hzl
            have hcA := HS.out.ca
            have hcB := HS.out.cb
            have hfA := HS.out.fa
            have hfB := HS.out.fb
            have hAl := HS.out.al
            have hBl := HS.out.bl
            have hbs := HS.out.be.size
            have hkI : (0 : Int) ≤ (k : Int) ∧ (k : Int) < (n : Int) ∧ (k : Int) < 300 := by omega
            have hABI : w3.heap.size < w4.heap.size := by omega
            clear hxe hcs hz' hzl
            go_wp2_with fail
            go_cut [] (fun wx => ∃ ga' ka' gb' kb', Hid (OneS w wx w3.heap.size w4.heap.size zs' j ga' ka' gb' kb' tv zs.reverse))
            case first =>
              go_region_with (first
                | (go_at_call 45; (with_reducible refine (sm_push_w zs ga j ka (f + x) _ (HS.out.oa.below ?b5) HR.out HPP.out).mono ?_); (case b5 => (repeat' (first | (with_reducible exact Below.refl _ _) | (with_reducible assumption) | (with_reducible refine below_drewN ?_ _) | (with_reducible refine Below.drew ?_) | (with_reducible refine below_new ?_ (Nat.le_refl _) _) | (with_reducible refine Below.setCell ?_ ?_ _) | (with_reducible refine below_go ?_ (by assumption) (Nat.le_refl _)) | (simp; done) | (simp; omega) | omega))); rw [HZ.out]; rintro e w5 ⟨g5, k5, rfl, hg5, hb5, o5⟩; have hX5 : Below wo.heap.size wo w5 := (by (repeat' (first | (with_reducible exact Below.refl _ _) | (with_reducible assumption) | (with_reducible refine below_drewN ?_ _) | (with_reducible refine Below.drew ?_) | (with_reducible refine below_new ?_ (Nat.le_refl _) _) | (with_reducible refine Below.setCell ?_ ?_ _) | (with_reducible refine below_go ?_ (by assumption) (Nat.le_refl _)) | (simp; done) | (simp; omega) | omega))); have hcA5 := (hX5.cell (p := ⟨w3.heap.size, 0, none⟩) hAl).trans hcA; have hfA5 := (hX5.frozen (p := ⟨w3.heap.size, 0, none⟩) hAl).trans hfA; have hcB5 := (hX5.cell (p := ⟨w4.heap.size, 0, none⟩) hBl).trans hcB; have hfB5 := (hX5.frozen (p := ⟨w4.heap.size, 0, none⟩) hBl).trans hfB; have hAl5 : w3.heap.size < w5.heap.size := Nat.lt_of_lt_of_le hAl hX5.size; have hBl5 : w4.heap.size < w5.heap.size := Nat.lt_of_lt_of_le hBl hX5.size)
                | (go_at_call 45; (with_reducible refine (sm_push_w zs gb 1 kb (f + x) _ (HS.out.ob.below ?b6) HR1.out HPP.out).mono ?_); (case b6 => (repeat' (first | (with_reducible exact Below.refl _ _) | (with_reducible assumption) | (with_reducible refine below_drewN ?_ _) | (with_reducible refine Below.drew ?_) | (with_reducible refine below_new ?_ (Nat.le_refl _) _) | (with_reducible refine Below.setCell ?_ ?_ _) | (with_reducible refine below_go ?_ (by assumption) (Nat.le_refl _)) | (simp; done) | (simp; omega) | omega))); rw [HZ.out]; rintro e w6 ⟨g6, k6, rfl, hg6, hb6, o6⟩; have hX6 : Below wo.heap.size wo w6 := (by (repeat' (first | (with_reducible exact Below.refl _ _) | (with_reducible assumption) | (with_reducible refine below_drewN ?_ _) | (with_reducible refine Below.drew ?_) | (with_reducible refine below_new ?_ (Nat.le_refl _) _) | (with_reducible refine Below.setCell ?_ ?_ _) | (with_reducible refine below_go ?_ (by assumption) (Nat.le_refl _)) | (simp; done) | (simp; omega) | omega))); have hcA6 := (hX6.cell (p := ⟨w3.heap.size, 0, none⟩) hAl).trans hcA; have hfA6 := (hX6.frozen (p := ⟨w3.heap.size, 0, none⟩) hAl).trans hfA; have hcB6 := (hX6.cell (p := ⟨w4.heap.size, 0, none⟩) hBl).trans hcB; have hfB6 := (hX6.frozen (p := ⟨w4.heap.size, 0, none⟩) hBl).trans hfB; have hAl6 : w3.heap.size < w6.heap.size := Nat.lt_of_lt_of_le hAl hX6.size; have hBl6 : w4.heap.size < w6.heap.size := Nat.lt_of_lt_of_le hBl hX6.size))
              all_goals go_wp2_with fail
              all_goals go_meet
              all_goals refine ⟨g5, k5, g6, k6, Lib.hid (HS.out.push ?_ (o5.below ?_) (o6.below ?_) ?_ ?_)⟩
              all_goals first | (have h5 := hX5.size; have h6 := hX6.size; first | omega | (simp at hg5; omega) | (simp at hg6; omega)) | (repeat' (first | (with_reducible exact Below.refl _ _) | (with_reducible assumption) | (with_reducible refine below_drewN ?_ _) | (with_reducible refine Below.drew ?_) | (with_reducible refine below_new ?_ (Nat.le_refl _) _) | (with_reducible refine Below.setCell ?_ ?_ _) | (with_reducible refine below_go ?_ (by assumption) (Nat.le_refl _)) | (simp; done) | (simp; omega) | omega))
            case rest =>
              obtain ⟨ga', ka', gb', kb', HS'⟩ := hcut
              clear HS hcA hcB hfA hfB hAl hBl hxc
              have hcA := HS'.out.ca
              have hcB := HS'.out.cb
              have hfA := HS'.out.fa
              have hfB := HS'.out.fb
              have hAl := HS'.out.al
              have hBl := HS'.out.bl
              have hbs := HS'.out.be.size
              have hR' := rightW_push zs j (f + x) HR.out HPP.out
              have hR1' := rightW_push zs 1 (f + x) HR1.out HPP.out
              rw [HZ.out] at hR' hR1'
              have h0 : zs'[0]?.getD 0 = f + x := by rw [← HZ.out]; rfl
              have hone : oneK zs' 1 (f + x) := fun i hi => by
                obtain rfl : i = 0 := by omega
                exact h0
              have hs1 := sumK_one hone
              have hr1 := rest_one hR1' hone
              have hs1' : sumK zs' 1 = f + x := by rw [hs1]; simp
              have hlen : zs'.length = j + (k + 1) := by rw [← HZ.out, List.length_cons, HZL.out]; omega
              have hrv : zs.reverse ++ [f + x] = zs'.reverse := by rw [← HZ.out, List.reverse_cons]
              have hlr : zs.reverse.length = j + k := by rw [List.length_reverse, HZL.out]
              have HR' := Lib.hid hR'
              have HR1' := Lib.hid hR1'
              have HS1 := Lib.hid hs1'
              have HRE := Lib.hid hr1
              have HLEN := Lib.hid hlen
              have HRV := Lib.hid hrv
              have HLR := Lib.hid hlr
              clear hR' hR1' h0 hone hs1 hs1' hr1 hlen hrv hlr HR HR1
              go_wp2_with fail
              refine (sm_out_w zs' gb' 1 kb' (f + x) _ HS'.out.ob HR1'.out HS1.out).mono ?_
              rintro e w7 ⟨rfl, hb7⟩
              have HS7 := Lib.hid (HS'.out.below hb7)
              clear HS' hcA hcB hfA hfB hAl hBl hbs hb7
              have hbs := HS7.out.be.size
              have how := HS7.out.own
              rw [HLR.out] at how
              have HOW := Lib.hid how
              clear how
              go_wp2_with (at_builtin; refine wpList_append_lies _ rfl _ _ 69 rfl w.heap.size 2 i0 (.int .i64 0) 1 8 Try.underlying69 HI.out HZ0.out HZ1.out HZ2.out rfl (by decide) _ (j + k) _ rfl (HOW.out.alloc _) ⟨w7.heap.size, 0, none⟩ 1 1 [.int .i64 (f + x)] rfl rfl (World.news_of_block (heap_alloc_new _ _)) (one_cell _ rfl) ?c1 ?c2 ?c3 ?c4 _ rfl ?_)
              case c1 => omega
              case c2 => unfold maxLen; omega
              case c3 => omega
              case c4 => simp; omega
              intro g c w8 hown8 hgrow hat hlt
              have hS8 := HS7.out.append hgrow (g := g) (c := c) (x := f + x) (by rw [HLR.out]; exact hown8) hat
              rw [HRV.out, HLR.out] at hS8
              have HS8 := Lib.hid hS8
              clear hS8 hown8 hgrow hat HOW HS7 hbs
              go_wp2_with fail
              go_loopw [15, 16] (fun u i w' => ∃ l : Nat, l ≤ j ∧ i = .int .i64 (l : Int) ∧ u = .int .i64 (sumK zs' l) ∧ Hid (OneS w w' w3.heap.size w4.heap.size zs' j ga' ka' gb' kb' (.slice (some ⟨g, 0, none⟩) (j + k + 1) c) zs'.reverse)) (fun _ i _ => j - (intOf i).toNat)
              case atStart => exact ⟨0, by omega, rfl, rfl, HS8⟩
              case round =>
                clear HS8
                obtain ⟨l, hl, rfl, rfl, HS8⟩ := hrel
                by_cases hlj : l < j
                · have hljI : (0 : Int) ≤ (l : Int) ∧ (l : Int) < (j : Int) := by omega
                  obtain ⟨z, hz⟩ : ∃ z, zs'[l]?.getD 0 = z := ⟨_, rfl⟩
                  have hcz := told_cell HS8.out l (by rw [HLEN.out]; omega)
                  have hi : zs'.length - 1 - l = j + k - l := by rw [HLEN.out]; omega
                  have hzb := (rightW_yes HR'.out).2.2 l hlj
                  have hsb := sumK_bd zs' j l (rightW_yes HR'.out).2.2 (by omega)
                  have hsn : sumK zs' (l + 1) = sumK zs' l + z := by rw [← hz]; rfl
                  rw [hi, hz] at hcz
                  rw [hz] at hzb
                  have HSN := Lib.hid hsn
                  clear hz hsn hi
                  go_wp2
                  go_roundw
                  case rel => exact ⟨l + 1, by omega, by go_num, by rw [HSN.out], HS8⟩
                  case measure => simp [intOf]; omega
                · obtain rfl : l = j := by omega
                  have hcA := HS8.out.ca
                  have hcB := HS8.out.cb
                  have hAl := HS8.out.al
                  have hBl := HS8.out.bl
                  obtain ⟨u, hu⟩ : ∃ u, sumK zs' l = u := ⟨_, rfl⟩
                  have HU := Lib.hid hu
                  rw [hu]
                  clear hu
                  go_wp2_with fail
                  refine (sm_out_w zs' gb' 1 kb' (f + x) _ HS8.out.ob HR1'.out HS1.out).mono ?_
                  rintro e w9 ⟨rfl, hb9⟩
                  have hcA9 := (hb9.cell (p := ⟨w3.heap.size, 0, none⟩) hAl).trans hcA
                  have hcB9 := (hb9.cell (p := ⟨w4.heap.size, 0, none⟩) hBl).trans hcB
                  have HS9 := Lib.hid (HS8.out.below hb9)
                  have hAl9 := HS9.out.al
                  have hBl9 := HS9.out.bl
                  clear hb9
                  go_wp2_with fail
                  refine (sm_out_w zs' ga' l ka' u _ HS9.out.oa HR'.out HU.out).mono ?_
                  rintro e w10 ⟨rfl, hb10⟩
                  have hcA10 := (hb10.cell (p := ⟨w3.heap.size, 0, none⟩) hAl9).trans hcA9
                  have hcB10 := (hb10.cell (p := ⟨w4.heap.size, 0, none⟩) hBl9).trans hcB9
                  have HS10 := Lib.hid (HS9.out.below hb10)
                  clear hb10
                  go_wp2_with fail
                  refine (sm_rest_w zs' gb' 1 kb' true _ HS10.out.ob HRE.out).mono ?_
                  rintro e w11 ⟨rfl, hb11⟩
                  have HS11 := Lib.hid (HS10.out.below hb11)
                  clear hb11
                  go_wp2
                  go_roundw
                  case rel => exact ⟨_, k + 1, zs', ga', ka', gb', kb', rfl, by omega, by omega, by go_num, HLEN.out, HR', HR1', HS11⟩
                  case measure => simp [intOf]; omega
          · have hkI : (k : Int) < (n : Int) ∧ ¬ (k : Int) < 300 := by omega
            go_wp2
            go_ret
            exact ⟨rfl, HS.out.be⟩
        · have hkI : ¬ (k : Int) < (n : Int) := by omega
          go_wp2
          go_ret
          exact ⟨rfl, HS.out.be⟩

end Go.Proofs.Ytddakmlnkffgiaa
