/- Merged: Layer 15: the fixed answer. Layer 15: is a look not too long? Layer 15: are all cycles not too long for a look? Layer 15: 'n, reports := axis.Step(a, in)': the new axis in a variable of its own. -/
import Derived.Test.YtogbhnmkinjpeaaGreatM42
import Derived.Test.YtogbhnmkinjpeaaGreatM18
set_option linter.unusedVariables false
set_option linter.unusedSimpArgs false
namespace Go.Proofs.YtogbhnmkinjpeaaGreat
open Go.RowKit
attribute [local go_sem] ite_max ite_min vite_max vite_min ext_cell ext_frozen

set_option maxRecDepth 100000 in
set_option maxHeartbeats 8000000 in
theorem awake15 (w : World) : Calls Tryz.prog 8 #[] w fun e w' => e = .returned (.bool true) ∧ Below w.heap.size w w' := by
 go_enter Tryz.func8, Tryz.ntmps8
 go_wp2_with fail
 refine (anew_any lim15 1 0 5 1 w).mono ?_
 rintro e w1 ⟨hn, hb1⟩
 rcases hn with ⟨-, sv, rfl, hs, hnv⟩ | ⟨h, -⟩
 case inr => rw [made15] at h; cases h
 obtain ⟨L1, hL1⟩ := axL_some (newX lim15 1 0 5 1) sv nilS nilS
 rw [← hL1.eq]
 have HL1 := Lib.hid hL1
 have HB1 := Lib.hid hb1
 have HS1 := Lib.hid hs
 clear hnv hs hb1 hL1
 have hax : AxV w1 (newX lim15 1 0 5 1) sv nilS nilS := ⟨HS1.out, nil_line, fun c hc => by simp [newX] at hc, by show I64 0; unfold I64; decide, by show I64 0; unfold I64; decide, by show I64 0; unfold I64; decide⟩
 have HO1 := Lib.hid (AxR.one hax HL1.out)
 have HN1 : Hid (L1.toArray.size = 26) := Lib.hid (by rw [HL1.out.eq]; rfl)
 have HAX := Lib.hid hax
 clear hax
 go_upto_region 2 with (refine wpList_store_row rfl 35 _ _ rfl w1.heap.size L1.toArray rfl rfl 35 _ (heap_alloc_new _ _) (by rw [List.size_toArray]; exact HL1.out.size) (by rw [HN1.out]; rfl) HO1.out ?_)
 refine wp_name fun W2 hW2 => ?_
 obtain ⟨P, hP⟩ : ∃ P, P = w1.heap.size := ⟨_, rfl⟩
 have hbx : Below w1.heap.size w1 W2 := by rw [hW2.out]; exact below_setRow (below_new (Below.refl _ _) (Nat.le_refl _) _) (Nat.le_refl _) _
 have HK2 : Hid (W2.heap[P]? = some (.cells L1.toArray 35)) := Lib.hid (by rw [hW2.out, hP]; exact setRow_heap _ _ _ _ _ _ (heap_alloc_new _ _))
 have hP2 : P < W2.heap.size := (Array.getElem?_eq_some_iff.1 HK2.out).1
 have HB2 := Lib.hid (HB1.out.trans (hbx.mono HB1.out.size))
 have HPB : Hid (w.heap.size ≤ P) := Lib.hid (by have := HB1.out.size; omega)
 have HR2 : Hid (AxR W2 (newX lim15 1 0 5 1) sv nilS nilS) := Lib.hid ⟨HAX.out.below hbx, right15⟩
 (try rw [← hP])
 clear hW2 hP hbx HB1 HS1 HAX HO1
 go_wp2_with (refine wpList_load_row rfl 35 _ rfl P rfl 35 L1.toArray (0, 0) _ HK2.out Tryz.underlying35 rfl HL1.out.size ?_)
 refine (astep_right (M := inC (in15 0) nilS) HR2.out HL1.out (i := in15 0) (cs := []) (cv := nilS) ⟨⟨by show I64 0; unfold I64; decide, by show I64 0; unfold I64; decide⟩, nil_read, fun c hc => by cases hc⟩ (by decide) ⟨rfl⟩).mono ?_
 rintro e w3 ⟨L2, rv2, rfl, hst⟩
 obtain ⟨⟨sv2, nv2, wv2, hr2, hl2, hn2⟩, -, hb3⟩ := hst
 have HNV := Lib.hid hn2
 have HP2 := Lib.hid hP2
 rw [show (cycX (newX lim15 1 0 5 1) (atD (in15 0) W2) []).a = A15 from step15 _] at hr2 hl2
 have HL2 := Lib.hid hl2
 have HR3 := Lib.hid hr2
 have HK3 := Lib.hid ((hb3.block P hP2).trans HK2.out)
 have hP3 := Nat.lt_of_lt_of_le hP2 hb3.size
 have HB3 := Lib.hid (HB2.out.trans (hb3.mono HB2.out.size))
 clear hr2 hl2 hb3 hn2 HK2 HB2 HR2 hP2
 have HO2 := Lib.hid (AxR.one HR3.out.v HL2.out)
 have HN2 : Hid (L2.toArray.size = 26) := Lib.hid (by rw [HL2.out.eq]; rfl)
 go_upto_region 3 with (refine wpList_store_row rfl 35 _ _ rfl P L2.toArray rfl rfl 35 _ HK3.out (by rw [List.size_toArray]; exact HL2.out.size) (by rw [HN1.out, HN2.out]) HO2.out ?_)
 refine wp_name fun W4 hW4 => ?_
 have HB4 : Hid (Below w.heap.size w W4) := by rw [hW4.out]; exact Lib.hid (below_setRow HB3.out HPB.out _)
 have HK4 : Hid (W4.heap[P]? = some (.cells L2.toArray 35)) := by rw [hW4.out]; exact Lib.hid (setRow_heap _ _ _ _ _ _ HK3.out)
 have HR4 : Hid (AxR W4 A15 sv2 nv2 wv2) := by
  rw [hW4.out]
  exact Lib.hid (HR3.out.row HNV.out HP2.out _)
 have hP4 : P < W4.heap.size := (Array.getElem?_eq_some_iff.1 HK4.out).1
 clear hW4 HB3 HK3 HR3 hP3 HO2
 go_wp2_with (refine wpList_load_row rfl 35 _ rfl P rfl 35 L2.toArray (0, 0) _ HK4.out Tryz.underlying35 rfl HL2.out.size ?_)
 have hbc := below_new (Below.refl W4.heap.size W4) (Nat.le_refl _) (Obj.cells #[Value.int IntKind.i64 7, Value.int IntKind.i64 2, Value.int IntKind.i64 20, Value.int IntKind.i64 5, Value.int IntKind.i64 0, Value.int IntKind.i64 0, Value.int IntKind.i64 0] 56)
 have HBC := Lib.hid hbc
 have HCR : Hid (ReadC (W4.alloc (Obj.cells #[Value.int IntKind.i64 7, Value.int IntKind.i64 2, Value.int IntKind.i64 20, Value.int IntKind.i64 5, Value.int IntKind.i64 0, Value.int IntKind.i64 0, Value.int IntKind.i64 0] 56)) [cmd15].length (cmdsC [cmd15]) 0 (.slice (some ⟨W4.heap.size, 0, none⟩) 1 1)) := Lib.hid
  ⟨_, _, rfl, by decide, by decide, ⟨rfl, fun _ => ⟨W4.heap.size, 0, rfl, by simp, fun j u hu => by
   rw [Nat.zero_add]
   exact heap_cell j u (heap_alloc_new _ _) (by rw [List.getElem?_toArray]; exact hu)⟩⟩, fun _ _ _ _ => Nat.zero_le _⟩
 clear hbc
 refine (astep_right (M := inC (in15 0) (.slice (some ⟨W4.heap.size, 0, none⟩) 1 1)) (HR4.out.below HBC.out) HL2.out (i := in15 0) (cs := [cmd15]) (cv := .slice (some ⟨W4.heap.size, 0, none⟩) 1 1) ⟨⟨by show I64 0; unfold I64; decide, by show I64 0; unfold I64; decide⟩, HCR.out, fun c hc => by rw [List.mem_singleton.1 hc]; exact ⟨by show I64 7; unfold I64; decide, by show I64 2; unfold I64; decide, by show I64 20; unfold I64; decide, by show I64 5; unfold I64; decide, by show I64 0; unfold I64; decide, by show I64 0; unfold I64; decide, by show I64 0; unfold I64; decide⟩⟩ (by decide) ⟨rfl⟩).mono ?_
 rintro e w5 ⟨L3, rv3, rfl, hst⟩
 obtain ⟨F3, hF3⟩ : ∃ x : WS, cycX A15 (atD (in15 0) (W4.alloc (Obj.cells #[Value.int IntKind.i64 7, Value.int IntKind.i64 2, Value.int IntKind.i64 20, Value.int IntKind.i64 5, Value.int IntKind.i64 0, Value.int IntKind.i64 0, Value.int IntKind.i64 0] 56))) [cmd15] = x := ⟨_, rfl⟩
 rw [hF3] at hst
 rw [atD15] at hF3
 have h15 := step15c _ F3 hF3
 obtain ⟨e1, e2, e3⟩ := h15
 clear hF3
 obtain ⟨⟨sv3, nv3, wv3, hr3, hl3, -⟩, hown, hb5⟩ := hst
 rw [e3] at hown
 obtain ⟨g, cap, rfl, -, hglt⟩ := hown.form (by decide)
 have hlie := Lies.own hown
 obtain ⟨b, off, eb, hb, hcell⟩ := hlie.2 (by decide)
 injection eb with eb
 injection eb with eb1 eb2
 subst eb1 eb2
 have r0 : w5.cell? ⟨g, 0, none⟩ = some (.int .i64 7) := hcell 0 _ rfl
 have r1 : w5.cell? ⟨g, 1, none⟩ = some (.int .i64 1) := hcell 1 _ rfl
 have HB5 := Lib.hid (HB4.out.trans ((HBC.out.trans (hb5.mono HBC.out.size)).mono HB4.out.size))
 have HK5 := Lib.hid ((hb5.block P (Nat.lt_of_lt_of_le hP4 HBC.out.size)).trans ((HBC.out.block P hP4).trans HK4.out))
 have HL3 := Lib.hid hl3
 have HO3 := Lib.hid (AxR.one hr3.v hl3)
 have HN3 : Hid (L3.toArray.size = 26) := Lib.hid (by rw [hl3.eq]; rfl)
 have HE1 := Lib.hid e1
 have HE2 := Lib.hid e2
 clear hcell hlie hown hr3 hl3 hb5 e1 e2 e3 HBC HCR HR4 HK4 HB4 hP4
 go_upto_region 4 with (refine wpList_store_row rfl 35 _ _ rfl w5.heap.size L3.toArray rfl rfl 35 _ (heap_alloc_new _ _) (by rw [List.size_toArray]; exact HL3.out.size) (by rw [HN3.out]; rfl) HO3.out ?_)
 refine wp_name fun W6 hW6 => ?_
 obtain ⟨Q, hQ⟩ : ∃ Q, Q = w5.heap.size := ⟨_, rfl⟩
 have hbx : Below w5.heap.size w5 W6 := by rw [hW6.out]; exact below_setRow (below_new (Below.refl _ _) (Nat.le_refl _) _) (Nat.le_refl _) _
 have HK6 : Hid (W6.heap[Q]? = some (.cells L3.toArray 35)) := Lib.hid (by rw [hW6.out, hQ]; exact setRow_heap _ _ _ _ _ _ (heap_alloc_new _ _))
 have hP5 : P < w5.heap.size := (Array.getElem?_eq_some_iff.1 HK5.out).1
 have k0 : W6.cell? ⟨P, 0, none⟩ = some (.int .i64 1) := heap_cell 0 _ ((hbx.block P hP5).trans HK5.out) (by rw [HL2.out.eq]; rfl)
 have q0 : W6.cell? ⟨Q, 0, none⟩ = some (.int .i64 4) := heap_cell 0 _ HK6.out (by rw [HL3.out.eq, ← HE1.out]; rfl)
 have q10 : W6.cell? ⟨Q, 10, none⟩ = some (.int .i64 2) := heap_cell 10 _ HK6.out (by rw [HL3.out.eq, ← HE2.out]; rfl)
 have s0 := (hbx.cell (p := ⟨g, 0, none⟩) hglt).trans r0
 have s1 := (hbx.cell (p := ⟨g, 1, none⟩) hglt).trans r1
 have HB6 := Lib.hid (HB5.out.trans (hbx.mono HB5.out.size))
 (try rw [← hQ])
 clear hW6 hQ hbx HK6 HB5 HK5 r0 r1 HE1 HE2 HL3 HL2
 go_wp2
 go_ret
 exact ⟨rfl, HB6.out⟩


def shortX (a : AX) (cs : List CmdS) : Bool := decide (a.ns.length ≤ 10 ∧ a.ws.length ≤ 10 ∧ a.sm.length ≤ 40 ∧ cs.length ≤ 20)
structure InX where
 i : INS
 cs : List CmdS
 cv : Value
def InX.cells (x : InX) : List Value := inC x.i x.cv
def InG (W : World) (x : InX) : Prop := InV W x.i x.cs x.cv

set_option maxRecDepth 100000 in
set_option maxHeartbeats 4000000 in
theorem short15_at (a : AX) (sv nv wv : Value) (w : World) (h : AxV w a sv nv wv) (i : INS) (cs : List CmdS) (cv : Value) (n : Nat) (hn : cs.length = n) (hc : ∃ A c, cv = .slice A n c) (r : Bool) (hr : shortX a cs = r) :
  Calls Tryz.prog 13 #[.agg (axC a sv nv wv).toArray, .agg (inC i cv).toArray] w fun e w' => e = .returned (.bool r) ∧ Below w.heap.size w w' := by
 obtain ⟨E, f, rfl, -, -, -⟩ := h.sm
 obtain ⟨⟨A, c, rfl, -, -, -, -⟩, ⟨D, d, rfl, -, -, -, -⟩⟩ := LineV.parts h.ln
 obtain ⟨C, g, rfl⟩ := hc
 obtain ⟨k, hk⟩ : ∃ k, a.sm.length = k := ⟨_, rfl⟩
 obtain ⟨p, hp⟩ : ∃ k, a.ns.length = k := ⟨_, rfl⟩
 obtain ⟨q, hq⟩ : ∃ k, a.ws.length = k := ⟨_, rfl⟩
 have HR : Hid (decide (p ≤ 10 ∧ q ≤ 10 ∧ k ≤ 40 ∧ n ≤ 20) = r) := Lib.hid (by rw [← hr]; unfold shortX; rw [hk, hp, hq, hn])
 rw [hk, hp, hq]
 clear hr h hk hp hq hn
 show Calls Tryz.prog 13 #[.agg #[.int .i64 a.st, .int .i64 a.l.v, .int .i64 a.l.a, .int .i64 a.l.d, .int .i64 a.l.lo, .int .i64 a.l.hi, .int .i64 a.win, .int .i64 a.hat, .int .i64 a.fast, .int .i64 a.creep, .int .i64 a.g.p, .int .i64 a.g.v, .slice E k f, .int .i64 a.off, .slice A p c, .slice D q d, .bool a.hd, .int .i64 a.h.p, .int .i64 a.h.f, .int .i64 a.h.c, .bool a.h.t, .int .i64 a.ov, .int .i64 a.sta, .int .i64 a.mas, .int .i64 a.cau, .bool a.ins], .agg #[.bool i.pw, .bool i.op, .int .i64 i.act, .int .i64 i.cau, .bool i.plus, .bool i.minus, .bool i.hm, .bool i.reset, .bool i.rel, .int .i64 i.ov, .int .i64 i.mas, .slice C n g]] w _
 go_enter Tryz.func13, Tryz.ntmps13
 by_cases e1 : p ≤ 10
 ·by_cases e2 : q ≤ 10
  ·by_cases e3 : k ≤ 40
   ·by_cases e4 : n ≤ 20
    ·obtain rfl : true = r := by rw [← HR.out]; exact (decide_eq_true ⟨e1, e2, e3, e4⟩).symm
     have d1 : (p : Int) ≤ 10 := by omega
     have d2 : (q : Int) ≤ 10 := by omega
     have d3 : (k : Int) ≤ 40 := by omega
     have d4 : (n : Int) ≤ 20 := by omega
     clear HR e1 e2 e3 e4
     go_wp2
     go_ret
     exact ⟨rfl, by exact belowBy⟩
    ·obtain rfl : false = r := by rw [← HR.out]; exact (decide_eq_false (fun h => e4 h.2.2.2)).symm
     have d1 : (p : Int) ≤ 10 := by omega
     have d2 : (q : Int) ≤ 10 := by omega
     have d3 : (k : Int) ≤ 40 := by omega
     have d4 : ¬ (n : Int) ≤ 20 := by omega
     clear HR e1 e2 e3 e4
     go_wp2
     go_ret
     exact ⟨rfl, by exact belowBy⟩
   ·obtain rfl : false = r := by rw [← HR.out]; exact (decide_eq_false (fun h => e3 h.2.2.1)).symm
    have d1 : (p : Int) ≤ 10 := by omega
    have d2 : (q : Int) ≤ 10 := by omega
    have d3 : ¬ (k : Int) ≤ 40 := by omega
    clear HR e1 e2 e3
    go_wp2
    go_ret
    exact ⟨rfl, by exact belowBy⟩
  ·obtain rfl : false = r := by rw [← HR.out]; exact (decide_eq_false (fun h => e2 h.2.1)).symm
   have d1 : (p : Int) ≤ 10 := by omega
   have d2 : ¬ (q : Int) ≤ 10 := by omega
   clear HR e1 e2
   go_wp2
   go_ret
   exact ⟨rfl, by exact belowBy⟩
 ·obtain rfl : false = r := by rw [← HR.out]; exact (decide_eq_false (fun h => e1 h.1)).symm
  have d1 : ¬ (p : Int) ≤ 10 := by omega
  clear HR e1
  go_wp2
  go_ret
  exact ⟨rfl, by exact belowBy⟩


def shortL (a : AX) (l : List InX) : Bool := decide (l.length ≤ 300) && l.all fun x => shortX a x.cs
theorem ins_at {w : World} {A : Option Addr} {cap n : Nat} {ins : List InX} (h : SliceAt 12 InX.cells (InG w) w (.slice A n cap) ins) (k : Nat) (hk : k < ins.length) :
  ∃ b off x, A = some ⟨b, off, none⟩ ∧ b < w.heap.size ∧ ins[k]? = some x ∧ InG w x ∧ ∀ W, Below w.heap.size w W → W.rangeAt b (off + k * 12) x.cells := by
 obtain ⟨A', cap', e, -, -, hg, hm⟩ := h
 injection e with e1 e2 e3
 subst e1
 obtain ⟨b, off, hA, hb, hc⟩ := hm (List.ne_nil_of_length_pos (by omega))
 have hx := List.getElem?_eq_getElem hk
 refine ⟨b, off, _, hA, hb, hx, hg _ (List.mem_of_getElem? hx), fun W hW j u hu => ?_⟩
 have h1 := hc k _ hx j (by
  have := (List.getElem?_eq_some_iff.1 hu).1
  exact this)
 rw [hu] at h1
 exact (hW.cell (p := ⟨b, off + k * 12 + j, none⟩) hb).trans h1
theorem inL_of (x : InX) : InL x.i x.cv x.cells := ⟨rfl⟩

set_option maxRecDepth 100000 in
set_option maxHeartbeats 4000000 in
theorem shorts_at (a : AX) (sv nv wv : Value) (w : World) (h : AxV w a sv nv wv) (L : List Value) (hL : AxL a sv nv wv L) (ins : List InX) (lv : Value) (hl : SliceAt 12 InX.cells (InG w) w lv ins) (r : Bool) (hr : shortL a ins = r) :
  Calls Tryz.prog 9 #[.agg L.toArray, lv] w fun e w' => e = .returned (.bool r) ∧ Below w.heap.size w w' := by
 obtain ⟨A, cap, e, h1, h2, -, -⟩ := id hl
 subst e
 have HI := Lib.hid hl
 have HA := Lib.hid h
 have HL := Lib.hid hL
 obtain ⟨n, hn⟩ : ∃ n, ins.length = n := ⟨_, rfl⟩
 rw [hn] at h1 hl ⊢
 have HN := Lib.hid hn
 have HX : Hid (∀ k, k < n → ∃ b off x, A = some ⟨b, off, none⟩ ∧ b < w.heap.size ∧ ins[k]? = some x ∧ InG w x ∧ ∀ W, Below w.heap.size w W → W.rangeAt b (off + k * 12) x.cells) := Lib.hid (fun k hk => ins_at hl k (by omega))
 have HBAD : Hid (∀ (k : Nat) (x : InX), ins[k]? = some x → shortX a x.cs = false → r = false) := Lib.hid (fun k x hx hb => by
  rw [← hr]
  unfold shortL
  rw [Bool.and_eq_false_iff]
  right
  rw [List.all_eq_false]
  exact ⟨x, List.mem_of_getElem? hx, by rw [hb]; decide⟩)
 have HBIG : Hid (300 < n → r = false) := Lib.hid (fun hb => by
  rw [← hr]
  unfold shortL
  rw [decide_eq_false (by omega)]
  rfl)
 have HALL : Hid (n ≤ 300 → (∀ (k : Nat) (x : InX), ins[k]? = some x → shortX a x.cs = true) → r = true) := Lib.hid (fun hb hx => by
  rw [← hr]
  unfold shortL
  rw [decide_eq_true (by omega), Bool.true_and, List.all_eq_true]
  intro x hm
  obtain ⟨k, hk⟩ := List.getElem?_of_mem hm
  exact hx k x hk)
 have HSH : Hid (∀ (x : InX) W, Below w.heap.size w W → InG w x → Calls Tryz.prog 13 #[.agg L.toArray, .agg x.cells.toArray] W fun e w' => e = .returned (.bool (shortX a x.cs)) ∧ Below W.heap.size W w') := Lib.hid (fun x W hb hx => by
  rw [hL.eq]
  obtain ⟨C, g, hc, -⟩ := hx.rd
  exact short15_at a sv nv wv W (h.below hb) x.i x.cs x.cv _ rfl ⟨C, g, hc⟩ _ rfl)
 clear hl h hL hn hr HI
 go_enter Tryz.func9, Tryz.ntmps9
 go_upto_region 1 with (fail)
 refine wp_name fun W hW => ?_
 obtain ⟨B, hB⟩ : ∃ B, B = w.heap.size := ⟨_, rfl⟩
 have HB : Hid (Below w.heap.size w W) := by rw [hW.out]; exact Lib.hid (by exact belowBy)
 have hlt : B < W.heap.size := by rw [hW.out, hB]; simp
 have HK : Hid (W.heap[B]? = some (.cells L.toArray 35)) := by
  rw [hW.out, hB]
  exact Lib.hid (heap_alloc_new _ _)
 have HW0 : Hid (w.heap.size ≤ W.heap.size) := Lib.hid HB.out.size
 (try rw [← hB])
 clear hW hB
 have HRA : Hid (∀ W', Below W.heap.size W W' → W'.rangeAt B 0 L) := Lib.hid (fun W' hb j u hu => by
  rw [Nat.zero_add]
  exact heap_cell j u ((hb.block B hlt).trans HK.out) (by rw [List.getElem?_toArray]; exact hu))
 by_cases hbig : 300 < n
 ·obtain rfl := HBIG.out hbig
  have hb2 : (300 : Int) < (n : Int) := by omega
  go_wp2
  go_ret
  exact ⟨rfl, HB.out⟩
 have hb2 : ¬ (300 : Int) < (n : Int) := by omega
 have HBN : Hid (n ≤ 300) := Lib.hid (by omega)
 clear hbig HBIG
 go_wp2_with fail
 go_loopw [5] (fun u wr => ∃ k : Nat, k ≤ n ∧ u = .int .i64 k ∧ Hid (∀ (j : Nat) (x : InX), j < k → ins[j]? = some x → shortX a x.cs = true) ∧ Hid (Below W.heap.size W wr)) (fun u _ => n - (intOf u).toNat)
 case atStart => exact ⟨0, by omega, rfl, Lib.hid (fun j x hj => by omega), Lib.hid (Below.refl _ _)⟩
 case round =>
  obtain ⟨k, hk, rfl, HK, HR⟩ := hrel
  by_cases hlk : k < n
  ·obtain ⟨b, off, x, rfl, hb, hxk, hg, hrg⟩ := HX.out k hlk
   have hk0 : (0 : Int) ≤ (k : Int) := by omega
   have hkn : (k : Int) < (n : Int) := by omega
   have HRG : Hid (∀ W', Below wr.heap.size wr W' → W'.rangeAt b (off + k * 12) x.cells ∧ W'.rangeAt B 0 L) := Lib.hid (fun W' hb' => by
    have h3 : Below W.heap.size W W' := HR.out.trans (hb'.mono HR.out.size)
    exact ⟨hrg W' (HB.out.trans (h3.mono HB.out.size)), HRA.out W' h3⟩)
   have HSX : Hid (∀ W', Below wr.heap.size wr W' → Calls Tryz.prog 13 #[.agg L.toArray, .agg x.cells.toArray] W' fun e w' => e = .returned (.bool (shortX a x.cs)) ∧ Below W'.heap.size W' w') := Lib.hid (fun W' hb' => by
    have h3 : Below W.heap.size W W' := HR.out.trans (hb'.mono HR.out.size)
    exact HSH.out x W' (HB.out.trans (h3.mono HB.out.size)) hg)
   have HXK := Lib.hid hxk
   have HIX := Lib.hid (inL_of x)
   clear hb hxk hg hrg
   obtain ⟨M, hM⟩ : ∃ M, x.cells = M := ⟨_, rfl⟩
   rw [hM] at HRG HSX HIX
   clear hM
   obtain ⟨q, hq⟩ : ∃ q, shortX a x.cs = q := ⟨_, rfl⟩
   rw [hq] at HSX
   have HQ := Lib.hid hq
   clear hq
   have hcap0 : n ≤ cap := h1
   go_wp2_with fail
   refine wp_region_held_drew (S := fun w' => Below wr.heap.size wr w') (by kernel_rfl) ?_ (fun hHeld => ?_)
   ·exact (Below.refl _ _).drew
   (refine takeH (i := 0) (v := .agg L.toArray) rfl (by kernel_rfl) (by kernel_rfl) (by kernel_rfl) (fun _ _ _ h => h) (yieldsIf_load_mid (by kernel_rfl) 35 _ rfl B 0 rfl L _ (fun _ hb => (HRG.out _ hb).2) Tryz.underlying35 rfl HL.out.size) (by assumption) ?_)
   (refine takeT (i := 1) (v := ?_) rfl ?_ ?_; rotate_left; (focus (intro w' hSw; (try dsimp only at hSw); go_simp; try (with_reducible rfl))))
   (refine takeT (i := 2) (v := ?_) rfl ?_ ?_; rotate_left; (focus (intro w' hSw; (try dsimp only at hSw); go_simp; try (with_reducible rfl))); (try simp only [Act.put, List.setIfInBounds_toArray, List.set_cons_zero, List.set_cons_succ]))
   (refine takeT (i := 3) (v := ?_) rfl ?_ ?_; rotate_left; (focus (intro w' hSw; (try dsimp only at hSw); go_simp; try (with_reducible rfl))))
   (refine takeH (i := 4) (v := .agg M.toArray) rfl (by kernel_rfl) (by kernel_rfl) (by kernel_rfl) (fun _ _ _ h => h) (yieldsIf_load_mid (by kernel_rfl) 44 _ rfl b (off + k * 12) rfl M _ (fun _ hb => (HRG.out _ hb).1) Tryz.underlying44 rfl HIX.out.size) (by assumption) ?_; (try simp only [Act.put, List.setIfInBounds_toArray, List.set_cons_zero, List.set_cons_succ]))
   refine oneH (i := 5) (by kernel_rfl) rfl (fun Kc hK => ?_)
   go_simp
   go_at_call 13; refine (HSX.out _ hHeld).mono ?_; rintro e w7 ⟨rfl, hb7⟩; (have HB7 := Lib.hid (hHeld.trans (hb7.mono hHeld.size))); clear hb7 hHeld
   go_wp2_with fail
   refine hK.out _ _ (HB7.out) (fun hHeld => ?_)
   clear hK Kc
   (try simp only [Act.put, List.setIfInBounds_toArray, List.set_cons_zero, List.set_cons_succ])
   (refine takeT (i := 6) (v := ?_) rfl ?_ ?_; rotate_left; (focus (intro w' hSw; (try dsimp only at hSw); go_simp; try (with_reducible rfl))); (try simp only [Act.put, List.setIfInBounds_toArray, List.set_cons_zero, List.set_cons_succ]))
   refine wpAnyH_done (by kernel_rfl) ?_ _
   (try simp only [Act.put, List.setIfInBounds_toArray, List.set_cons_zero, List.set_cons_succ])
   have HR7 : Hid (Below W.heap.size W w7) := Lib.hid (HR.out.trans (hHeld.mono HR.out.size))
   clear hHeld HB7 HR
   cases q
   ·obtain rfl := HBAD.out k x HXK.out HQ.out
    go_wp2
    go_ret
    exact ⟨rfl, HB.out.trans (HR7.out.mono HW0.out)⟩
   ·go_wp2
    go_roundw
    case rel =>
     refine ⟨k + 1, by omega, by go_num, Lib.hid (fun j y hj hy => ?_), HR7⟩
     by_cases he : j = k
     ·subst he
      rw [HXK.out] at hy
      injection hy with hy
      rw [← hy]
      exact HQ.out
     ·exact HK.out j y (by omega) hy
    case measure => simp [intOf]; omega
  ·obtain rfl : n = k := by omega
   have hrt := HALL.out HBN.out (fun j x hx => HK.out j x (by rw [← HN.out]; exact (List.getElem?_eq_some_iff.1 hx).1) hx)
   subst hrt
   go_wp2
   go_ret
   exact ⟨rfl, HB.out.trans (HR.out.mono HW0.out)⟩

end Go.Proofs.YtogbhnmkinjpeaaGreat

namespace Go.Proofs.YtogbhnmkinjpeaaGreat
open Go.RowKit

structure NVar (D : Nat) (n : AX) (rs : List RepS) (L : List Value) (rv : Value) (Q : Nat) (W : World) : Prop where
 blk : W.heap[Q]? = some (.cells L.toArray 35)
 ax : ∃ sv nv wv, AxR W n sv nv wv ∧ AxL n sv nv wv L ∧ NewV D sv ∧ NewV D nv ∧ NewV D wv
 own : W.ownsRow D 48 2 rv rs.length (repC rs)
 q : D ≤ Q
theorem NVar.below {D Q : Nat} {n : AX} {rs : List RepS} {L : List Value} {rv : Value} {W W' : World} (h : NVar D n rs L rv Q W) (hb : Below W.heap.size W W') : NVar D n rs L rv Q W' := by
 obtain ⟨sv, nv, wv, h1, h2, h3⟩ := h.ax
 exact ⟨(hb.block Q (Array.getElem?_eq_some_iff.1 h.blk).1).trans h.blk, ⟨sv, nv, wv, h1.below hb, h2, h3⟩, owns_below h.own hb, h.q⟩
theorem NVar.lt {D Q : Nat} {n : AX} {rs : List RepS} {L : List Value} {rv : Value} {W : World} (h : NVar D n rs L rv Q W) : Q < W.heap.size := (Array.getElem?_eq_some_iff.1 h.blk).1
theorem AxR.row2 {W : World} {a : AX} {sv nv wv : Value} {g : Nat} (h : AxR W a sv nv wv) (hn : ∀ v, v = sv ∨ v = nv ∨ v = wv → ∀ b o n c, 0 < n → v = .slice (some ⟨b, o, none⟩) n c → ¬ b = g) (cs : Array Value) : AxR (W.setRow g cs) a sv nv wv := by
 have hb : Buts (fun b => b = g) W (W.setRow g cs) := (Buts.refl _ _).setRow cs
 obtain ⟨r1, r2⟩ := LineV.parts h.v.ln
 exact ⟨⟨h.v.sm.buts hb (hn _ (.inl rfl)), ⟨_, _, rfl, r1.buts hb (hn _ (.inr (.inl rfl))), r2.buts hb (hn _ (.inr (.inr rfl)))⟩, h.v.cw, h.v.sta, h.v.mas, h.v.pos⟩, h.r⟩
theorem nvar_mk {D Q : Nat} {n : AX} {rs : List RepS} {L : List Value} {rv sv nv wv : Value} {W : World} {zs : Array Value} (hz : W.heap[Q]? = some (.cells zs 35)) (h : AxR W n sv nv wv) (hL : AxL n sv nv wv L) (hv : NewV D sv ∧ NewV D nv ∧ NewV D wv)
  (hn : ∀ v, v = sv ∨ v = nv ∨ v = wv → ∀ b o n c, 0 < n → v = .slice (some ⟨b, o, none⟩) n c → ¬ b = Q) (ho : W.ownsRow D 48 2 rv rs.length (repC rs)) (hr : ∀ b, rv.ownBlock = some b → ¬ b = Q) (hD : D ≤ Q) : NVar D n rs L rv Q (W.setRow Q L.toArray) :=
 ⟨setRow_heap _ _ _ _ _ _ hz, ⟨sv, nv, wv, h.row2 hn _, hL, hv⟩, owns_buts ho ((Buts.refl _ _).setRow _) hr, hD⟩
theorem NewV.mono {D E : Nat} {v : Value} (h : NewV E v) (hD : D ≤ E) : NewV D v := fun b o n c hn e => Nat.le_trans hD (h b o n c hn e)
theorem own_mono {w : World} {D E size n : Nat} {e : TypeId} {v : Value} {xs : List Value} (h : w.ownsRow E e size v n xs) (hD : D ≤ E) : w.ownsRow D e size v n xs := by
 obtain ⟨h1, h2⟩ := h
 refine ⟨h1, ?_⟩
 rcases h2 with h2 | ⟨g, cap, cur, hv, hg, r⟩
 ·exact .inl h2
 ·exact .inr ⟨g, cap, cur, hv, Nat.le_trans hD hg, r⟩
theorem nvar_pa {D : Nat} {n : AX} {rs : List RepS} {L : List Value} {rv : Value} {w6 w7 : World} {zs : Array Value} (h : StepV w6 n rs L rv w7) (hD : D ≤ w6.heap.size) : NVar D n rs L rv w7.heap.size ((w7.alloc (.cells zs 35)).setRow w7.heap.size L.toArray) := by
 obtain ⟨⟨sv, nv, wv, h1, h2, h3, h4, h5⟩, ho, hb⟩ := h
 have hbn := below_new (Below.refl w7.heap.size w7) (Nat.le_refl _) (.cells zs 35)
 obtain ⟨r1, r2⟩ := LineV.parts h1.v.ln
 refine nvar_mk (heap_alloc_new _ _) (h1.below hbn) h2 ⟨h3.mono hD, h4.mono hD, h5.mono hD⟩ (fun v hv b o n c hn e => ?_) (own_mono (owns_below ho hbn) hD) (fun b hb' => ?_) (Nat.le_trans hD hb.size)
 ·rcases hv with rfl | rfl | rfl
  ·have := h1.v.sm.blk b o n c hn e; omega
  ·have := ReadC.blk r1 b o n c hn e; omega
  ·have := ReadC.blk r2 b o n c hn e; omega
 ·have := (ho.lt b hb').2
  omega
theorem nvar_pb {D Q : Nat} {n : AX} {rs : List RepS} {L : List Value} {rv : Value} {w6 w7 : World} {zs : Array Value} (h : StepV w6 n rs L rv w7) (hD : D ≤ Q) (hz : w6.heap[Q]? = some (.cells zs 35)) : NVar D n rs L rv Q (w7.setRow Q L.toArray) := by
 obtain ⟨⟨sv, nv, wv, h1, h2, h3, h4, h5⟩, ho, hb⟩ := h
 have hq := (Array.getElem?_eq_some_iff.1 hz).1
 refine nvar_mk ((hb.block Q hq).trans hz) h1 h2 ⟨h3.mono (by omega), h4.mono (by omega), h5.mono (by omega)⟩ (fun v hv b o n c hn e => ?_) (own_mono ho (by omega)) (fun b hb' => ?_) hD
 ·rcases hv with rfl | rfl | rfl
  ·have := h3 b o n c hn e; omega
  ·have := h4 b o n c hn e; omega
  ·have := h5 b o n c hn e; omega
 ·have := (ho.lt b hb').1
  omega
theorem NVar.move {D Q P : Nat} {n : AX} {rs : List RepS} {L : List Value} {rv : Value} {W : World} {zs : Array Value} (h : NVar D n rs L rv Q W) (hP : P < D) (hz : W.heap[P]? = some (.cells zs 35)) :
  (W.setRow P L.toArray).heap[P]? = some (.cells L.toArray 35) ∧ ∃ sv nv wv, AxR (W.setRow P L.toArray) n sv nv wv ∧ AxL n sv nv wv L := by
 obtain ⟨sv, nv, wv, h1, h2, h3⟩ := h.ax
 exact ⟨setRow_heap _ _ _ _ _ _ hz, sv, nv, wv, h1.row h3 hP _, h2⟩
theorem aright_L (a : AX) (sv nv wv : Value) (L : List Value) (r : Bool) (w : World) (h : AxV w a sv nv wv) (hL : AxL a sv nv wv L) (hr : rightX a = r) :
  Calls Tryz.prog 10 #[.agg L.toArray] w fun e w' => e = .returned (.bool r) ∧ Below w.heap.size w w' := by
 rw [hL.eq]
 exact aright_at a sv nv wv r w h.sm h.ln h.pos hr
theorem range_of {W : World} {B : Nat} {L : List Value} {T : TypeId} (h : W.heap[B]? = some (.cells L.toArray T)) : W.rangeAt B 0 L := fun j u hu => by
 rw [Nat.zero_add]
 exact heap_cell j u h (by rw [List.getElem?_toArray]; exact hu)
theorem ins_below {w W : World} {v : Value} {ins : List InX} (h : SliceAt 12 InX.cells (InG w) w v ins) (hb : Below w.heap.size w W) : SliceAt 12 InX.cells (InG W) W v ins := by
 obtain ⟨a, cap, hv, h1, h2, hg, hm⟩ := h
 refine ⟨a, cap, hv, h1, h2, fun x hx => (hg x hx).below hb, fun hne => ?_⟩
 obtain ⟨b, off, ha, hlt, hc⟩ := hm hne
 exact ⟨b, off, ha, Nat.lt_of_lt_of_le hlt hb.size, fun i x hi j hj => (hb.cell (p := ⟨b, off + i * 12 + j, none⟩) hlt).trans (hc i x hi j hj)⟩

end Go.Proofs.YtogbhnmkinjpeaaGreat
