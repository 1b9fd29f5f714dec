/- Layer 27: what a block's cells are behind an asking, in plain Lean: only its own are turned; at most one of its three is true. -/
import Derived.Test.YtknnhnefbbjcdaaDoorM35
import Derived.Test.YtknnhnefbbjcdaaDoorM33
namespace Go.Proofs.YtknnhnefbbjcdaaDoor
open Go.RowKit
set_option linter.unusedVariables false
set_option linter.unusedSimpArgs false

def OneAt (kind : Int) (off : Nat) (zs : List Int) : Prop :=
 (kind < 27 → zs[off + outsN kind]?.getD 0 ≠ 0 → zs[off + (outsN kind + 3)]?.getD 0 = 0 ∧ zs[off + (outsN kind + 4)]?.getD 0 = 0) ∧
 (zs[off + (outsN kind + 3)]?.getD 0 ≠ 0 → zs[off + (outsN kind + 4)]?.getD 0 = 0) ∧
 ((kind < 27 ∧ zs[off + outsN kind]?.getD 0 ≠ 0) ∨ zs[off + (outsN kind + 3)]?.getD 0 ≠ 0 ∨ zs[off + (outsN kind + 4)]?.getD 0 ≠ 0 → zs[off + (outsN kind + 6)]?.getD 0 = 0)
def OnlyAt (off n : Nat) (zs zs' : List Int) : Prop := zs'.length = zs.length ∧ ∀ j, (j < off ∨ off + n ≤ j) → zs'[j]? = zs[j]?
theorem OnlyAt.refl (off n : Nat) (zs : List Int) : OnlyAt off n zs zs := ⟨rfl, fun _ _ => rfl⟩
theorem OnlyAt.trans {off n : Nat} {a b c : List Int} (h1 : OnlyAt off n a b) (h2 : OnlyAt off n b c) : OnlyAt off n a c := ⟨h2.1.trans h1.1, fun j hj => (h2.2 j hj).trans (h1.2 j hj)⟩
theorem OnlyAt.set {off n k : Nat} {a b : List Int} (h : OnlyAt off n a b) (hk : k < n) (v : Int) : OnlyAt off n a (b.set (off + k) v) := by
 refine ⟨by rw [List.length_set]; exact h.1, fun j hj => ?_⟩
 rw [List.getElem?_set, if_neg (by omega)]
 exact h.2 j hj
structure StepR (kind : Int) (off : Nat) (zs zs' : List Int) : Prop where
 only : OnlyAt off (rcount kind) zs zs'
 one : cmdB kind = true → OneAt kind off zs → OneAt kind off zs'
theorem StepR.refl (kind : Int) (off : Nat) (zs : List Int) : StepR kind off zs zs := ⟨OnlyAt.refl _ _ _, fun _ h => h⟩
theorem StepR.other {kind : Int} {off : Nat} {zs zs' : List Int} (h : OnlyAt off (rcount kind) zs zs') (hk : cmdB kind = false) : StepR kind off zs zs' := ⟨h, fun h1 => by rw [hk] at h1; cases h1⟩
theorem StepR.cmd {kind : Int} {off : Nat} {zs zs' : List Int} (h : OnlyAt off (rcount kind) zs zs') (d a e i : Int) (hd : zs'[off + outsN kind]? = some d) (ha : zs'[off + (outsN kind + 3)]? = some a) (he : zs'[off + (outsN kind + 4)]? = some e) (hi : zs'[off + (outsN kind + 6)]? = some i)
  (hone : (d ≠ 0 → a = 0 ∧ e = 0) ∧ (a ≠ 0 → e = 0) ∧ (d ≠ 0 ∨ a ≠ 0 ∨ e ≠ 0 → i = 0)) : StepR kind off zs zs' := by
 refine ⟨h, fun _ _ => ?_⟩
 unfold OneAt
 rw [hd, ha, he, hi]
 simp only [Option.getD_some]
 exact ⟨fun _ h => hone.1 h, hone.2.1, fun h => hone.2.2 (h.imp (·.2) id)⟩
theorem StepR.same {kind : Int} {off : Nat} {zs zs' : List Int} (h : OnlyAt off (rcount kind) zs zs') (hd : zs'[off + outsN kind]? = zs[off + outsN kind]?) (ha : zs'[off + (outsN kind + 3)]? = zs[off + (outsN kind + 3)]?) (he : zs'[off + (outsN kind + 4)]? = zs[off + (outsN kind + 4)]?) (hi : zs'[off + (outsN kind + 6)]? = zs[off + (outsN kind + 6)]?) : StepR kind off zs zs' := by
 refine ⟨h, fun _ h1 => ?_⟩
 unfold OneAt at h1 ⊢
 rw [hd, ha, he, hi]
 exact h1
theorem clrI_only {kind : Int} (off : Nat) (zs : List Int) (h : CmdK kind) : ∀ i, i ≤ 5 → OnlyAt off (rcount kind) zs (clrI kind off i zs)
 | 0, _ => OnlyAt.refl _ _ _
 | i + 1, hi => by
  rw [clrI]
  exact (clrI_only off zs h i (by omega)).set (by rw [h.cnt]; omega) 0
theorem clrP_only {kind : Int} (off : Nat) (zs : List Int) (h : CmdK kind) : OnlyAt off (rcount kind) zs (clrP kind off zs) := clrI_only off zs h 5 (Nat.le_refl _)
theorem clrP_len (kind : Int) (off : Nat) (zs : List Int) : (clrP kind off zs).length = zs.length := clrI_len kind off zs 5
theorem clrI_get {kind : Int} (off : Nat) (zs : List Int) (hl : off + (outsN kind + 5) ≤ zs.length) : ∀ i j, j < i → i ≤ 5 → (clrI kind off i zs)[off + (outsN kind + j)]? = some 0
 | 0, j, h, _ => by omega
 | i + 1, j, h, hi => by
  rw [clrI, List.getElem?_set]
  by_cases he : j = i
  ·subst he
   rw [if_pos rfl, if_pos (by rw [clrI_len]; omega)]
  ·rw [if_neg (by omega)]
   exact clrI_get off zs hl i j (by omega) (by omega)
theorem clrP_get {kind : Int} (off : Nat) (zs : List Int) (hl : off + (outsN kind + 5) ≤ zs.length) {j : Nat} (hj : j < 5) : (clrP kind off zs)[off + (outsN kind + j)]? = some 0 := clrI_get off zs hl 5 j hj (Nat.le_refl _)
def BlApart (bl : List BlK) : Prop := ∀ (i j : Nat) (a b : BlK), bl[i]? = some a → bl[j]? = some b → i ≠ j → a.off + rcount a.kind ≤ b.off ∨ b.off + rcount b.kind ≤ a.off
def OneAll (bl : List BlK) (zs : List Int) : Prop := ∀ b ∈ bl, cmdB b.kind = true → OneAt b.kind b.off zs
theorem OneAt.only {kind : Int} {off o n : Nat} {zs zs' : List Int} (hk : CmdK kind) (h : OnlyAt o n zs zs') (hd : off + rcount kind ≤ o ∨ o + n ≤ off) (h1 : OneAt kind off zs) : OneAt kind off zs' := by
 have hc := hk.cnt
 have hg : ∀ k, k ≤ outsN kind + 6 → zs'[off + k]? = zs[off + k]? := fun k hk => h.2 _ (by omega)
 unfold OneAt at h1 ⊢
 rw [hg _ (by omega), hg _ (by omega), hg _ (by omega), hg _ (by omega)]
 exact h1
theorem cmdB_K {kind : Int} (h : cmdB kind = true) : CmdK kind := by
 unfold cmdB at h
 simp only [Bool.and_eq_true, decide_eq_true_eq] at h
 exact cmdK h
theorem OneAll.step {bl : List BlK} {zs zs' : List Int} {i : Nat} {b : BlK} (hap : BlApart bl) (hb : bl[i]? = some b) (hs : StepR b.kind b.off zs zs') (h : OneAll bl zs) : OneAll bl zs' := by
 intro a ha hc
 obtain ⟨j, hj⟩ := List.getElem?_of_mem ha
 by_cases he : j = i
 ·subst he
  rw [hb] at hj
  cases hj
  exact hs.one hc (h b ha hc)
 ·exact OneAt.only (cmdB_K hc) hs.only (hap j i a b hj hb he) (h a ha hc)

theorem blksT_apart {vs : List VarS} (hmot : ∀ v ∈ vs, v.arr = true → v.type ≤ 2) : ∀ i, i ≤ vs.length → (∀ b ∈ blksT vs i, b.off + rcount b.kind ≤ sumN (vs.take i)) ∧ BlApart (blksT vs i)
 | 0, _ => ⟨fun b hb => (by cases hb), fun i j a b hi => by simp [blksT] at hi⟩
 | i + 1, hi => by
  obtain ⟨ih1, ih2⟩ := blksT_apart hmot i (by omega)
  have hx : vs[i]? = some vs[i] := List.getElem?_eq_getElem (by omega)
  have h1 := sumN_take hx
  have hm' : ∀ b ∈ blksT vs i, b.off + rcount b.kind ≤ sumN (vs.take (i + 1)) := fun b hb => by have := ih1 b hb; omega
  cases hm : motB (vs[i]).type
  ·rw [blksT_no hx hm]
   exact ⟨hm', ih2⟩
  ·have hc : cellsN vs[i] = rcount (vs[i]).type := by
    have hm2 := hm
    unfold motB at hm2
    simp only [Bool.and_eq_true, decide_eq_true_eq] at hm2
    have hna : ¬ (vs[i]).arr = true := fun ha => by
     have := hmot _ (List.getElem_mem (by omega)) ha
     omega
    unfold cellsN
    rw [if_neg hna, if_pos (by omega)]
   rw [blksT_yes hx hm]
   refine ⟨fun b hb => ?_, fun p q a b hp hq hne => ?_⟩
   ·rcases List.mem_append.1 hb with hb | hb
    ·exact hm' b hb
    ·rw [List.mem_singleton.1 hb]
     show sumN (vs.take i) + rcount (vs[i]).type ≤ _
     omega
   ·rw [List.getElem?_append] at hp hq
    split at hp <;> split at hq
    ·exact ih2 p q a b hp hq hne
    ·have hb : b = ⟨i, (vs[i]).type, sumN (vs.take i)⟩ := by
      rw [List.getElem?_singleton] at hq
      split at hq
      ·exact (Option.some.inj hq).symm
      ·cases hq
     have := ih1 a (List.mem_of_getElem? hp)
     subst hb
     exact .inl this
    ·have ha : a = ⟨i, (vs[i]).type, sumN (vs.take i)⟩ := by
      rw [List.getElem?_singleton] at hp
      split at hp
      ·exact (Option.some.inj hp).symm
      ·cases hp
     have := ih1 b (List.mem_of_getElem? hq)
     subst ha
     exact .inr this
    ·rename_i hnp hnq
     rw [List.getElem?_singleton] at hp hq
     split at hp
     ·split at hq
      ·omega
      ·cases hq
     ·cases hp
theorem blks_apart {vs : List VarS} (hmot : ∀ v ∈ vs, v.arr = true → v.type ≤ 2) : BlApart (blks vs) := (blksT_apart hmot vs.length (Nat.le_refl _)).2

theorem told_step {kind : Int} (off : Nat) (what : Int) (zs : List Int) (hc : cmdB kind = true) (hl : off + rcount kind ≤ zs.length) (hi : ∃ id, id ≠ 0 ∧ zs[off + (outsN kind + 5 + 1)]? = some id) : StepR kind off zs (toldP kind off what zs) := by
 have hk := cmdB_K hc
 have hcnt := hk.cnt
 obtain ⟨id, hid, hii⟩ := hi
 have hO : ∀ {a b : List Int}, OnlyAt off (rcount kind) a b → ∀ {k : Nat} (v : Int), k < outsN kind + 7 → OnlyAt off (rcount kind) a (b.set (off + k) v) := fun h k v hk' => h.set (by omega) v
 have h0 := OnlyAt.refl off (rcount kind) zs
 have hii' : zs[off + (outsN kind + 6)]? = some id := by rw [show outsN kind + 6 = outsN kind + 5 + 1 by omega]; exact hii
 unfold toldP
 by_cases h1 : what = 1
 ·rw [if_pos h1]
  refine StepR.same (hO h0 1 (by omega)) ?_ ?_ ?_ ?_
  all_goals (rw [List.getElem?_set, if_neg (by omega)])
 rw [if_neg h1]
 by_cases h25' : ¬ (2 ≤ what ∧ what ≤ 5)
 ·rw [if_neg h25']
  exact StepR.refl _ _ _
 have h25 : 2 ≤ what ∧ what ≤ 5 := Decidable.not_not.1 h25'
 rw [if_pos h25]
 have hbase : OnlyAt off (rcount kind) zs (((zs.set (off + (outsN kind + 1)) 0).set (off + (outsN kind + 2)) 0).set (off + (outsN kind + 5 + 1)) 0) := hO (hO (hO h0 0 (by omega)) 0 (by omega)) 0 (by omega)
 refine ⟨?_, fun _ h1 => ?_⟩
 ·split
  ·split
   ·exact hO hbase 1 (by omega)
   ·exact hbase
  ·split
   ·exact hO hbase 1 (by omega)
   ·exact hO hbase 1 (by omega)
 ·-- before: nothing told, for its command is under way
  have hg : ∀ k, k < outsN kind + 7 → zs[off + k]? = some (zs[off + k]?.getD 0) := fun k hk' => by
   rw [List.getElem?_eq_getElem (by omega), Option.getD_some]
  have hz : (kind < 27 → zs[off + outsN kind]?.getD 0 = 0) ∧ zs[off + (outsN kind + 3)]?.getD 0 = 0 ∧ zs[off + (outsN kind + 4)]?.getD 0 = 0 := by
   obtain ⟨-, -, h3⟩ := h1
   rw [hii', Option.getD_some] at h3
   refine ⟨fun hk27 => ?_, ?_, ?_⟩
   ·exact Decidable.byContradiction fun h => hid (h3 (.inl ⟨hk27, h⟩))
   ·exact Decidable.byContradiction fun h => hid (h3 (.inr (.inl h)))
   ·exact Decidable.byContradiction fun h => hid (h3 (.inr (.inr h)))
  obtain ⟨z0, z3, z4⟩ := hz
  have gd : ∀ (l : List Int) (a k : Nat) (v : Int), l.length = zs.length → k < outsN kind + 7 → a < outsN kind + 7 → ((l.set (off + k) v)[off + a]?.getD 0) = if k = a then v else l[off + a]?.getD 0 := fun l a k v hll hk' ha => by
   rw [List.getElem?_set]
   by_cases he : k = a
   ·rw [if_pos (by omega), if_pos (by omega), if_pos he, Option.getD_some]
   ·rw [if_neg (by omega), if_neg he]
  unfold OneAt
  have hl1 : (zs.set (off + (outsN kind + 1)) 0).length = zs.length := by simp
  have hl2 : ((zs.set (off + (outsN kind + 1)) 0).set (off + (outsN kind + 2)) 0).length = zs.length := by simp
  have hl3 : (((zs.set (off + (outsN kind + 1)) 0).set (off + (outsN kind + 2)) 0).set (off + (outsN kind + 5 + 1)) 0).length = zs.length := by simp
  have b0 : (((zs.set (off + (outsN kind + 1)) 0).set (off + (outsN kind + 2)) 0).set (off + (outsN kind + 5 + 1)) 0)[off + outsN kind]?.getD 0 = zs[off + outsN kind]?.getD 0 := by
   rw [gd _ _ _ _ hl2 (by omega) (by omega), if_neg (by omega), gd _ _ _ _ hl1 (by omega) (by omega), if_neg (by omega), gd _ _ _ _ rfl (by omega) (by omega), if_neg (by omega)]
  have b3 : (((zs.set (off + (outsN kind + 1)) 0).set (off + (outsN kind + 2)) 0).set (off + (outsN kind + 5 + 1)) 0)[off + (outsN kind + 3)]?.getD 0 = 0 := by
   rw [gd _ _ _ _ hl2 (by omega) (by omega), if_neg (by omega), gd _ _ _ _ hl1 (by omega) (by omega), if_neg (by omega), gd _ _ _ _ rfl (by omega) (by omega), if_neg (by omega), z3]
  have b4 : (((zs.set (off + (outsN kind + 1)) 0).set (off + (outsN kind + 2)) 0).set (off + (outsN kind + 5 + 1)) 0)[off + (outsN kind + 4)]?.getD 0 = 0 := by
   rw [gd _ _ _ _ hl2 (by omega) (by omega), if_neg (by omega), gd _ _ _ _ hl1 (by omega) (by omega), if_neg (by omega), gd _ _ _ _ rfl (by omega) (by omega), if_neg (by omega), z4]
  have b6 : (((zs.set (off + (outsN kind + 1)) 0).set (off + (outsN kind + 2)) 0).set (off + (outsN kind + 5 + 1)) 0)[off + (outsN kind + 6)]?.getD 0 = 0 := by
   rw [gd _ _ _ _ hl2 (by omega) (by omega), if_pos (by omega)]
  generalize (((zs.set (off + (outsN kind + 1)) 0).set (off + (outsN kind + 2)) 0).set (off + (outsN kind + 5 + 1)) 0) = zb at hl3 b0 b3 b4 b6 ⊢
  split
  ·split
   ·rename_i hk27
    have q0 : (zb.set (off + outsN kind) 1)[off + outsN kind]?.getD 0 = 1 := by rw [gd _ _ _ _ hl3 (by omega) (by omega), if_pos rfl]
    rw [q0, gd _ _ _ _ hl3 (by omega) (by omega), if_neg (by omega), gd _ _ _ _ hl3 (by omega) (by omega), if_neg (by omega), gd _ _ _ _ hl3 (by omega) (by omega), if_neg (by omega), b3, b4, b6]
    simp
   ·rename_i hk27
    rw [b3, b4, b6]
    simp
  ·split
   ·rw [gd _ _ _ _ hl3 (by omega) (by omega), if_neg (by omega), gd _ _ _ _ hl3 (by omega) (by omega), if_pos rfl, gd _ _ _ _ hl3 (by omega) (by omega), if_neg (by omega), gd _ _ _ _ hl3 (by omega) (by omega), if_neg (by omega), b0, b4, b6]
    refine ⟨fun hk h => absurd (z0 hk) h, fun _ => rfl, fun _ => rfl⟩
   ·rw [gd _ _ _ _ hl3 (by omega) (by omega), if_neg (by omega), gd _ _ _ _ hl3 (by omega) (by omega), if_neg (by omega), gd _ _ _ _ hl3 (by omega) (by omega), if_pos rfl, gd _ _ _ _ hl3 (by omega) (by omega), if_neg (by omega), b0, b3, b6]
    refine ⟨fun hk h => absurd (z0 hk) h, fun h => absurd rfl h, fun _ => rfl⟩
theorem looks_step {kind : Int} (off : Nat) (a : Option AxS) (zs : List Int) (hm : motB kind = true) : StepR kind off zs (looksP kind off a zs) := by
 have h0 := OnlyAt.refl off (rcount kind) zs
 unfold looksP
 by_cases h20 : kind = 20
 ·subst h20
  rw [if_pos rfl]
  exact StepR.other ((h0.set (by rw [othK.c20]; decide) _).set (by rw [othK.c20]; decide) _) rfl
 rw [if_neg h20]
 by_cases h27 : kind = 27
 ·subst h27
  rw [if_pos rfl]
  have hk := cmdK (kind := 27) (by decide)
  refine ⟨h0.set (by have := hk.cnt; omega) _, fun _ h1 => ?_⟩
  obtain ⟨-, h2, h3⟩ := h1
  unfold OneAt
  have hg : ∀ j v, j ≠ outsN 27 → (zs.set (off + outsN 27) v)[off + j]? = zs[off + j]? := fun j v hj => by rw [List.getElem?_set, if_neg (by omega)]
  rw [hg (outsN 27 + 3) _ (by omega), hg (outsN 27 + 4) _ (by omega), hg (outsN 27 + 6) _ (by omega)]
  exact ⟨fun h => absurd h (by decide), h2, fun h => h3 (h.elim (fun h => absurd h.1 (by decide)) .inr)⟩
 rw [if_neg h27]
 by_cases h28 : kind = 28
 ·subst h28
  rw [if_pos rfl]
  have hk := cmdK (kind := 28) (by decide)
  refine ⟨h0.set (by have := hk.cnt; omega) _, fun _ h1 => ?_⟩
  obtain ⟨-, h2, h3⟩ := h1
  unfold OneAt
  have hg : ∀ j v, j ≠ outsN 28 → (zs.set (off + outsN 28) v)[off + j]? = zs[off + j]? := fun j v hj => by rw [List.getElem?_set, if_neg (by omega)]
  rw [hg (outsN 28 + 3) _ (by omega), hg (outsN 28 + 4) _ (by omega), hg (outsN 28 + 6) _ (by omega)]
  exact ⟨fun h => absurd h (by decide), h2, fun h => h3 (h.elim (fun h => absurd h.1 (by decide)) .inr)⟩
 rw [if_neg h28]
 by_cases h29 : kind = 29
 ·subst h29
  rw [if_pos rfl]
  split
  ·exact StepR.other (((h0.set (by rw [othK.c29]; decide) _).set (by rw [othK.c29]; decide) _).set (by rw [othK.c29]; decide) _) rfl
  ·exact StepR.refl _ _ _
 rw [if_neg h29]
 exact StepR.refl _ _ _

theorem fold_step {bl : List BlK} {n : Nat} (hap : BlApart bl) (f : List Int → BlK → List Int) (hf : ∀ z b, b ∈ bl → z.length = n → StepR b.kind b.off z (f z b)) : ∀ (l : List BlK), (∀ b ∈ l, b ∈ bl) → ∀ z, z.length = n → OneAll bl z → (l.foldl f z).length = n ∧ OneAll bl (l.foldl f z)
 | [], _, z, hz, h => ⟨hz, h⟩
 | b :: l, hm, z, hz, h => by
  have hb := hm b (List.mem_cons_self ..)
  obtain ⟨i, hi⟩ := List.getElem?_of_mem hb
  have hs := hf z b hb hz
  rw [List.foldl_cons]
  exact fold_step hap f hf l (fun x hx => hm x (List.mem_cons_of_mem _ hx)) _ (hs.only.1.trans hz) (h.step hap hi hs)
theorem tell_one {bl : List BlK} {n : Nat} (hap : BlApart bl) (hok : BlOk bl n) (xs : List AxS) (ll : List (List (Int × Int))) (zs : List Int) (hz : zs.length = n) (h : OneAll bl zs) : OneAll bl (tellP bl xs ll zs) := by
 have hrep : ∀ (r : Int × Int) z, z.length = n → OneAll bl z → (repP bl r.1 r.2 z).length = n ∧ OneAll bl (repP bl r.1 r.2 z) := fun r z hz h => by
  refine fold_step hap (rep1 r.1 r.2) (fun z b hb hz => ?_) bl (fun _ h => h) z hz h
  unfold rep1
  split
  ·rename_i hc
   simp only [Bool.and_eq_true, decide_eq_true_eq] at hc
   obtain ⟨⟨hc, hid⟩, hi⟩ := hc
   have hl := hok.len b hb
   have hcnt := (cmdB_K hc).cnt
   refine told_step b.off r.2 z hc (by omega) ⟨r.1, hid, ?_⟩
   rw [← hi, List.getElem?_eq_getElem (by omega), Option.getD_some]
  ·exact StepR.refl _ _ _
 have hreps : ∀ (l : List (Int × Int)) z, z.length = n → OneAll bl z → (repsP bl l z).length = n ∧ OneAll bl (repsP bl l z) := fun l => by
  induction l with
  | nil => exact fun z hz h => ⟨hz, h⟩
  | cons r l ih =>
   intro z hz h
   obtain ⟨h1, h2⟩ := hrep r z hz h
   exact ih _ h1 h2
 have hrepss : ∀ (ll : List (List (Int × Int))) z, z.length = n → OneAll bl z → (repssP bl ll z).length = n ∧ OneAll bl (repssP bl ll z) := fun ll => by
  induction ll with
  | nil => exact fun z hz h => ⟨hz, h⟩
  | cons l ll ih =>
   intro z hz h
   obtain ⟨h1, h2⟩ := hreps l z hz h
   exact ih _ h1 h2
 obtain ⟨h1, h2⟩ := hrepss ll zs hz h
 unfold tellP lookP
 exact (fold_step hap (look1 xs) (fun z b hb hz => looks_step b.off _ z (hok.mot b hb)) bl (fun _ h => h) _ h1 h2).2

end Go.Proofs.YtknnhnefbbjcdaaDoor
