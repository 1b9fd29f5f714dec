/- Contracts of layer 13: a new search, and a cycle of a search. -/
import Derived.Test.YtmlndgmkjdkcfaaHomeA
namespace Go.Proofs.Ytmlndgmkjdkcfaa
open Go.RowKit
set_option linter.unusedVariables false
set_option linter.unusedSimpArgs false

structure HomeS where
  p : Int
  f : Int
  c : Int
  t : Bool

/-- a cycle of a search -/
def stepH (h : HomeS) (sw plus minus still : Bool) : HomeS × Int :=
  if overB h.p h.f h.c then (h, 0)
  else if h.p = 0 then (if sw then ({ h with p := 1 }, 0) else if !aheadB h.f plus minus then (h, h.f) else if h.t then ({ h with p := 5 }, 0) else (⟨h.p, -h.f, -h.c, true⟩, 0))
  else if h.p = 1 then (if still then ({ h with p := 2 }, 0) else (h, 0))
  else if h.p = 2 then (if !sw then ({ h with p := 3 }, 0) else if aheadB (-h.c) plus minus then ({ h with p := 5 }, 0) else (h, -h.c))
  else (if still then ({ h with p := 4 }, 0) else (h, 0))

set_option maxRecDepth 100000 in
set_option maxHeartbeats 1000000 in
theorem hnew_any (f c : Int) (w : World) :
    Calls Try.prog 41 #[.int .i64 f, .int .i64 c] w fun e w' => (e = if homeB 0 f c then .returned (.tuple #[.agg #[.int .i64 0, .int .i64 f, .int .i64 c, .bool false], .int .i64 0]) else .returned (.tuple #[.agg #[.int .i64 0, .int .i64 0, .int .i64 0, .bool false], .int .i64 1])) ∧ Below w.heap.size w w' := by
  obtain ⟨r, hr⟩ : ∃ r, homeB 0 f c = r := ⟨_, rfl⟩
  have HR := Lib.hid hr
  clear hr
  cases r
  · rw [HR.out]
    go_enter Try.func41, Try.ntmps41
    go_wp2_with fail
    refine (hright_any _ _ _ _ _).mono ?_
    rw [HR.out]
    rintro e w1 ⟨rfl, hb⟩
    obtain ⟨hbc, hbf⟩ := bcell hb
    have hbz := hb.size
    have hbc0 := fun o => hbc (w.heap.size) o (by first | (simp; done) | (simp; omega) | omega)
    have hbf0 := fun o => hbf (w.heap.size) o (by first | (simp; done) | (simp; omega) | omega)
    have hbc1 := fun o => hbc (w.heap.size + 1) o (by first | (simp; done) | (simp; omega) | omega)
    have hbf1 := fun o => hbf (w.heap.size + 1) o (by first | (simp; done) | (simp; omega) | omega)
    go_wp2

    exact bodyPost_ret (v := .tuple #[.agg #[.int .i64 0, .int .i64 0, .int .i64 0, .bool false], .int .i64 1]) (by simp [results, Try.results41, go_sem, hbc0]) rfl ⟨rfl, by (repeat' (first | (with_reducible exact Below.refl _ _) | (with_reducible assumption) | (with_reducible refine below_drewN ?_ _) | (with_reducible refine Below.drew ?_) | (with_reducible refine below_new ?_ (Nat.le_refl _) _) | (with_reducible refine Below.setCell ?_ ?_ _) | (with_reducible refine below_go ?_ (by assumption) (Nat.le_refl _)) | (simp; done) | (simp; omega) | omega))⟩
  · rw [HR.out]
    go_enter Try.func41, Try.ntmps41
    go_wp2_with fail
    refine (hright_any _ _ _ _ _).mono ?_
    rw [HR.out]
    rintro e w1 ⟨rfl, hb⟩
    obtain ⟨hbc, hbf⟩ := bcell hb
    have hbz := hb.size
    have hbc0 := fun o => hbc (w.heap.size) o (by first | (simp; done) | (simp; omega) | omega)
    have hbf0 := fun o => hbf (w.heap.size) o (by first | (simp; done) | (simp; omega) | omega)
    have hbc1 := fun o => hbc (w.heap.size + 1) o (by first | (simp; done) | (simp; omega) | omega)
    have hbf1 := fun o => hbf (w.heap.size + 1) o (by first | (simp; done) | (simp; omega) | omega)
    go_wp2

    exact bodyPost_ret (v := .tuple #[.agg #[.int .i64 0, .int .i64 f, .int .i64 c, .bool false], .int .i64 0]) (by simp [results, Try.results41, go_sem, hbc0]) rfl ⟨rfl, by (repeat' (first | (with_reducible exact Below.refl _ _) | (with_reducible assumption) | (with_reducible refine below_drewN ?_ _) | (with_reducible refine Below.drew ?_) | (with_reducible refine below_new ?_ (Nat.le_refl _) _) | (with_reducible refine Below.setCell ?_ ?_ _) | (with_reducible refine below_go ?_ (by assumption) (Nat.le_refl _)) | (simp; done) | (simp; omega) | omega))⟩

end Go.Proofs.Ytmlndgmkjdkcfaa
