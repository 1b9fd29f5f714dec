/- Merged: Layer 19, the reference: what is known as an expression's text begins; the operators' row. Layer 19, the reference: an expression's text, at kinds 1,2,3,5. PRINTED by wip/tool/mkexpr19.py Layer 19, the reference: an expression's text, at kinds 4. PRINTED by wip/tool/mkexpr19.py Layer 19, the reference: an expression's text, at kinds 6,7. PRINTED by wip/tool/mkexpr19.py Layer 19, the reference: an expression's text, at kinds 8,9,10,11,12,13,14. PRINTED by wip/tool/mkexpr19.py Layer 19, the reference: an expression's text, at kinds 15,16,17,18,19,20,21. PRINTED by wip/tool/mkexpr19.py Layer 19, the reference: an expression's text, any that fits. -/
import Derived.Test.YtcamegfnhbbaeaaM24
namespace Go.Proofs.Ytcamegfnhbbaeaa
open Go.RowKit
set_option linter.unusedVariables false
set_option linter.unusedSimpArgs false

theorem idx14_0 (x0 x1 x2 x3 x4 x5 x6 x7 x8 x9 x10 x11 x12 x13 : Value) (w : World) : (Instr.index 106 (.agg #[x0, x1, x2, x3, x4, x5, x6, x7, x8, x9, x10, x11, x12, x13]) (.int .i64 0)).run Try.prog w = .ok x0 w := by kernel_rfl
theorem idx14_1 (x0 x1 x2 x3 x4 x5 x6 x7 x8 x9 x10 x11 x12 x13 : Value) (w : World) : (Instr.index 106 (.agg #[x0, x1, x2, x3, x4, x5, x6, x7, x8, x9, x10, x11, x12, x13]) (.int .i64 1)).run Try.prog w = .ok x1 w := by kernel_rfl
theorem idx14_2 (x0 x1 x2 x3 x4 x5 x6 x7 x8 x9 x10 x11 x12 x13 : Value) (w : World) : (Instr.index 106 (.agg #[x0, x1, x2, x3, x4, x5, x6, x7, x8, x9, x10, x11, x12, x13]) (.int .i64 2)).run Try.prog w = .ok x2 w := by kernel_rfl
theorem idx14_3 (x0 x1 x2 x3 x4 x5 x6 x7 x8 x9 x10 x11 x12 x13 : Value) (w : World) : (Instr.index 106 (.agg #[x0, x1, x2, x3, x4, x5, x6, x7, x8, x9, x10, x11, x12, x13]) (.int .i64 3)).run Try.prog w = .ok x3 w := by kernel_rfl
theorem idx14_4 (x0 x1 x2 x3 x4 x5 x6 x7 x8 x9 x10 x11 x12 x13 : Value) (w : World) : (Instr.index 106 (.agg #[x0, x1, x2, x3, x4, x5, x6, x7, x8, x9, x10, x11, x12, x13]) (.int .i64 4)).run Try.prog w = .ok x4 w := by kernel_rfl
theorem idx14_5 (x0 x1 x2 x3 x4 x5 x6 x7 x8 x9 x10 x11 x12 x13 : Value) (w : World) : (Instr.index 106 (.agg #[x0, x1, x2, x3, x4, x5, x6, x7, x8, x9, x10, x11, x12, x13]) (.int .i64 5)).run Try.prog w = .ok x5 w := by kernel_rfl
theorem idx14_6 (x0 x1 x2 x3 x4 x5 x6 x7 x8 x9 x10 x11 x12 x13 : Value) (w : World) : (Instr.index 106 (.agg #[x0, x1, x2, x3, x4, x5, x6, x7, x8, x9, x10, x11, x12, x13]) (.int .i64 6)).run Try.prog w = .ok x6 w := by kernel_rfl
theorem idx14_7 (x0 x1 x2 x3 x4 x5 x6 x7 x8 x9 x10 x11 x12 x13 : Value) (w : World) : (Instr.index 106 (.agg #[x0, x1, x2, x3, x4, x5, x6, x7, x8, x9, x10, x11, x12, x13]) (.int .i64 7)).run Try.prog w = .ok x7 w := by kernel_rfl
theorem idx14_8 (x0 x1 x2 x3 x4 x5 x6 x7 x8 x9 x10 x11 x12 x13 : Value) (w : World) : (Instr.index 106 (.agg #[x0, x1, x2, x3, x4, x5, x6, x7, x8, x9, x10, x11, x12, x13]) (.int .i64 8)).run Try.prog w = .ok x8 w := by kernel_rfl
theorem idx14_9 (x0 x1 x2 x3 x4 x5 x6 x7 x8 x9 x10 x11 x12 x13 : Value) (w : World) : (Instr.index 106 (.agg #[x0, x1, x2, x3, x4, x5, x6, x7, x8, x9, x10, x11, x12, x13]) (.int .i64 9)).run Try.prog w = .ok x9 w := by kernel_rfl
theorem idx14_10 (x0 x1 x2 x3 x4 x5 x6 x7 x8 x9 x10 x11 x12 x13 : Value) (w : World) : (Instr.index 106 (.agg #[x0, x1, x2, x3, x4, x5, x6, x7, x8, x9, x10, x11, x12, x13]) (.int .i64 10)).run Try.prog w = .ok x10 w := by kernel_rfl
theorem idx14_11 (x0 x1 x2 x3 x4 x5 x6 x7 x8 x9 x10 x11 x12 x13 : Value) (w : World) : (Instr.index 106 (.agg #[x0, x1, x2, x3, x4, x5, x6, x7, x8, x9, x10, x11, x12, x13]) (.int .i64 11)).run Try.prog w = .ok x11 w := by kernel_rfl
theorem idx14_12 (x0 x1 x2 x3 x4 x5 x6 x7 x8 x9 x10 x11 x12 x13 : Value) (w : World) : (Instr.index 106 (.agg #[x0, x1, x2, x3, x4, x5, x6, x7, x8, x9, x10, x11, x12, x13]) (.int .i64 12)).run Try.prog w = .ok x12 w := by kernel_rfl
theorem idx14_13 (x0 x1 x2 x3 x4 x5 x6 x7 x8 x9 x10 x11 x12 x13 : Value) (w : World) : (Instr.index 106 (.agg #[x0, x1, x2, x3, x4, x5, x6, x7, x8, x9, x10, x11, x12, x13]) (.int .i64 13)).run Try.prog w = .ok x13 w := by kernel_rfl
/-- what is known as an expression's text begins -/
structure ExIn19 (x : Ex) (w : World) (A : Option Addr) (cap : Nat) : Prop where
  subs : ∀ y ∈ x.sub, ∀ W, Below w.heap.size w W → ∀ As ks, ExAt W y (ExC y As ks) → Calls Try.prog 69 #[.agg (ExC y As ks).toArray] W fun e w' => e = .returned (.string (exprS y)) ∧ Below W.heap.size W w'
  sub : RowE w A x.sub cap
  small : ∀ y ∈ x.sub, (exprS y).size ≤ 1152921504606846976
  nm : x.name.size ≤ 16
  fd : x.field.size ≤ 16
  n : I64 x.n

end Go.Proofs.Ytcamegfnhbbaeaa

namespace Go.Proofs.Ytcamegfnhbbaeaa
open Go.RowKit
set_option linter.unusedVariables false
set_option linter.unusedSimpArgs false
attribute [local go_sem] ite_max ite_min vite_max vite_min ext_cell ext_frozen

set_option maxRecDepth 100000 in
set_option maxHeartbeats 4000000 in
theorem expr19_k1 (x : Ex) (w : World) (A : Option Addr) (cap : Nat) (hin : ExIn19 x w A cap) (hop : x.op = 1) (hns : x.sub.length = 0) : Calls Try.prog 69 #[.agg (ExC x A cap).toArray] w fun e w' => e = .returned (.string (exprS x)) ∧ Below w.heap.size w w' := by
  have HTY := Lib.hid hin.subs
  have HSUB := Lib.hid hin.sub
  have HOP := Lib.hid hop
  have HNS := Lib.hid hns
  have HSZ := Lib.hid hin.small
  have hnm := hin.nm
  have hfd := hin.fd
  have hn := hin.n
  have hres := exprS_top x
  obtain ⟨res, hr⟩ : ∃ r, exprS x = r := ⟨_, rfl⟩
  rw [hr] at hres ⊢
  obtain ⟨nm, hnm2⟩ : ∃ s, x.name = s := ⟨_, rfl⟩
  obtain ⟨fd, hfd2⟩ : ∃ s, x.field = s := ⟨_, rfl⟩
  obtain ⟨nn, hn2⟩ : ∃ s, x.n = s := ⟨_, rfl⟩
  rw [hop, hnm2, hfd2, hn2] at hres
  rw [hnm2] at hnm
  rw [hfd2] at hfd
  rw [hn2] at hn
  have HRES := Lib.hid hres
  have e0 : (ExC x A cap).toArray = #[.int .i64 1, .int .i64 nn, .string nm, .string fd, .slice A 0 cap, .int .i64 x.line] := by rw [← HOP.out, ← HNS.out, ← hnm2, ← hfd2, ← hn2]; rfl
  rw [e0]
  clear hin e0 hres hr hop hns hnm2 hfd2 hn2
  go_enter Try.func69, Try.ntmps69
  go_upto_region 1 with (fail)
  refine wp_name fun W hW => ?_
  obtain ⟨B, hB⟩ : ∃ B, B = w.heap.size := ⟨_, rfl⟩
  have c0 : W.cell? ⟨B, 0, none⟩ = some (.int .i64 1) := by rw [hW.out, hB]; go_simp
  have c1 : W.cell? ⟨B, 1, none⟩ = some (.int .i64 nn) := by rw [hW.out, hB]; go_simp
  have c2 : W.cell? ⟨B, 2, none⟩ = some (.string nm) := by rw [hW.out, hB]; go_simp
  have c3 : W.cell? ⟨B, 3, none⟩ = some (.string fd) := by rw [hW.out, hB]; go_simp
  have c4 : W.cell? ⟨B, 4, none⟩ = some (.slice A 0 cap) := by rw [hW.out, hB]; go_simp
  have hbel : Below w.heap.size w W := by rw [hW.out]; (repeat' (first | (with_reducible exact Below.refl _ _) | (with_reducible assumption) | (with_reducible refine below_drewN ?_ _) | (with_reducible refine Below.drew ?_) | (with_reducible refine below_new ?_ (Nat.le_refl _) _) | (with_reducible refine Below.setCell ?_ ?_ _) | (with_reducible refine below_go ?_ (by assumption) (Nat.le_refl _)) | (simp; done) | (simp; omega) | omega))
  have lB : B < W.heap.size := by rw [hW.out, hB]; simp
  rw [← hB]
  have HB := Lib.hid hbel
  clear hW hbel hB
  go_wp2_with fail
  refine (num19 nn hn _).mono ?_
  rintro e w' ⟨rfl, rfl⟩
  go_wp2
  go_ret
  exact ⟨by rw [HRES.out]; rfl, by have hq := HB.out; (repeat' (first | (with_reducible exact Below.refl _ _) | (with_reducible assumption) | (with_reducible refine below_drewN ?_ _) | (with_reducible refine Below.drew ?_) | (with_reducible refine below_new ?_ (Nat.le_refl _) _) | (with_reducible refine Below.setCell ?_ ?_ _) | (with_reducible refine below_go ?_ (by assumption) (Nat.le_refl _)) | (simp; done) | (simp; omega) | omega))⟩

set_option maxRecDepth 100000 in
set_option maxHeartbeats 4000000 in
theorem expr19_k2 (x : Ex) (w : World) (A : Option Addr) (cap : Nat) (hin : ExIn19 x w A cap) (hop : x.op = 2) (hns : x.sub.length = 0) : Calls Try.prog 69 #[.agg (ExC x A cap).toArray] w fun e w' => e = .returned (.string (exprS x)) ∧ Below w.heap.size w w' := by
  have HTY := Lib.hid hin.subs
  have HSUB := Lib.hid hin.sub
  have HOP := Lib.hid hop
  have HNS := Lib.hid hns
  have HSZ := Lib.hid hin.small
  have hnm := hin.nm
  have hfd := hin.fd
  have hn := hin.n
  have hres := exprS_top x
  obtain ⟨res, hr⟩ : ∃ r, exprS x = r := ⟨_, rfl⟩
  rw [hr] at hres ⊢
  obtain ⟨nm, hnm2⟩ : ∃ s, x.name = s := ⟨_, rfl⟩
  obtain ⟨fd, hfd2⟩ : ∃ s, x.field = s := ⟨_, rfl⟩
  obtain ⟨nn, hn2⟩ : ∃ s, x.n = s := ⟨_, rfl⟩
  rw [hop, hnm2, hfd2, hn2] at hres
  rw [hnm2] at hnm
  rw [hfd2] at hfd
  rw [hn2] at hn
  have HRES := Lib.hid hres
  have e0 : (ExC x A cap).toArray = #[.int .i64 2, .int .i64 nn, .string nm, .string fd, .slice A 0 cap, .int .i64 x.line] := by rw [← HOP.out, ← HNS.out, ← hnm2, ← hfd2, ← hn2]; rfl
  rw [e0]
  clear hin e0 hres hr hop hns hnm2 hfd2 hn2
  go_enter Try.func69, Try.ntmps69
  go_upto_region 1 with (fail)
  refine wp_name fun W hW => ?_
  obtain ⟨B, hB⟩ : ∃ B, B = w.heap.size := ⟨_, rfl⟩
  have c0 : W.cell? ⟨B, 0, none⟩ = some (.int .i64 2) := by rw [hW.out, hB]; go_simp
  have c1 : W.cell? ⟨B, 1, none⟩ = some (.int .i64 nn) := by rw [hW.out, hB]; go_simp
  have c2 : W.cell? ⟨B, 2, none⟩ = some (.string nm) := by rw [hW.out, hB]; go_simp
  have c3 : W.cell? ⟨B, 3, none⟩ = some (.string fd) := by rw [hW.out, hB]; go_simp
  have c4 : W.cell? ⟨B, 4, none⟩ = some (.slice A 0 cap) := by rw [hW.out, hB]; go_simp
  have hbel : Below w.heap.size w W := by rw [hW.out]; (repeat' (first | (with_reducible exact Below.refl _ _) | (with_reducible assumption) | (with_reducible refine below_drewN ?_ _) | (with_reducible refine Below.drew ?_) | (with_reducible refine below_new ?_ (Nat.le_refl _) _) | (with_reducible refine Below.setCell ?_ ?_ _) | (with_reducible refine below_go ?_ (by assumption) (Nat.le_refl _)) | (simp; done) | (simp; omega) | omega))
  have lB : B < W.heap.size := by rw [hW.out, hB]; simp
  rw [← hB]
  have HB := Lib.hid hbel
  clear hW hbel hB
  go_wp2_with fail
  refine (truth19 nn _).mono ?_
  rintro e w' ⟨rfl, rfl⟩
  go_wp2
  go_ret
  exact ⟨by rw [HRES.out]; rfl, by have hq := HB.out; (repeat' (first | (with_reducible exact Below.refl _ _) | (with_reducible assumption) | (with_reducible refine below_drewN ?_ _) | (with_reducible refine Below.drew ?_) | (with_reducible refine below_new ?_ (Nat.le_refl _) _) | (with_reducible refine Below.setCell ?_ ?_ _) | (with_reducible refine below_go ?_ (by assumption) (Nat.le_refl _)) | (simp; done) | (simp; omega) | omega))⟩

set_option maxRecDepth 100000 in
set_option maxHeartbeats 4000000 in
theorem expr19_k3 (x : Ex) (w : World) (A : Option Addr) (cap : Nat) (hin : ExIn19 x w A cap) (hop : x.op = 3) (hns : x.sub.length = 0) : Calls Try.prog 69 #[.agg (ExC x A cap).toArray] w fun e w' => e = .returned (.string (exprS x)) ∧ Below w.heap.size w w' := by
  have HTY := Lib.hid hin.subs
  have HSUB := Lib.hid hin.sub
  have HOP := Lib.hid hop
  have HNS := Lib.hid hns
  have HSZ := Lib.hid hin.small
  have hnm := hin.nm
  have hfd := hin.fd
  have hn := hin.n
  have hres := exprS_top x
  obtain ⟨res, hr⟩ : ∃ r, exprS x = r := ⟨_, rfl⟩
  rw [hr] at hres ⊢
  obtain ⟨nm, hnm2⟩ : ∃ s, x.name = s := ⟨_, rfl⟩
  obtain ⟨fd, hfd2⟩ : ∃ s, x.field = s := ⟨_, rfl⟩
  obtain ⟨nn, hn2⟩ : ∃ s, x.n = s := ⟨_, rfl⟩
  rw [hop, hnm2, hfd2, hn2] at hres
  rw [hnm2] at hnm
  rw [hfd2] at hfd
  rw [hn2] at hn
  have HRES := Lib.hid hres
  have e0 : (ExC x A cap).toArray = #[.int .i64 3, .int .i64 nn, .string nm, .string fd, .slice A 0 cap, .int .i64 x.line] := by rw [← HOP.out, ← HNS.out, ← hnm2, ← hfd2, ← hn2]; rfl
  rw [e0]
  clear hin e0 hres hr hop hns hnm2 hfd2 hn2
  go_enter Try.func69, Try.ntmps69
  go_upto_region 1 with (fail)
  refine wp_name fun W hW => ?_
  obtain ⟨B, hB⟩ : ∃ B, B = w.heap.size := ⟨_, rfl⟩
  have c0 : W.cell? ⟨B, 0, none⟩ = some (.int .i64 3) := by rw [hW.out, hB]; go_simp
  have c1 : W.cell? ⟨B, 1, none⟩ = some (.int .i64 nn) := by rw [hW.out, hB]; go_simp
  have c2 : W.cell? ⟨B, 2, none⟩ = some (.string nm) := by rw [hW.out, hB]; go_simp
  have c3 : W.cell? ⟨B, 3, none⟩ = some (.string fd) := by rw [hW.out, hB]; go_simp
  have c4 : W.cell? ⟨B, 4, none⟩ = some (.slice A 0 cap) := by rw [hW.out, hB]; go_simp
  have hbel : Below w.heap.size w W := by rw [hW.out]; (repeat' (first | (with_reducible exact Below.refl _ _) | (with_reducible assumption) | (with_reducible refine below_drewN ?_ _) | (with_reducible refine Below.drew ?_) | (with_reducible refine below_new ?_ (Nat.le_refl _) _) | (with_reducible refine Below.setCell ?_ ?_ _) | (with_reducible refine below_go ?_ (by assumption) (Nat.le_refl _)) | (simp; done) | (simp; omega) | omega))
  have lB : B < W.heap.size := by rw [hW.out, hB]; simp
  rw [← hB]
  have HB := Lib.hid hbel
  clear hW hbel hB
  go_wp2
  go_ret
  exact ⟨by rw [HRES.out]; rfl, by have hq := HB.out; (repeat' (first | (with_reducible exact Below.refl _ _) | (with_reducible assumption) | (with_reducible refine below_drewN ?_ _) | (with_reducible refine Below.drew ?_) | (with_reducible refine below_new ?_ (Nat.le_refl _) _) | (with_reducible refine Below.setCell ?_ ?_ _) | (with_reducible refine below_go ?_ (by assumption) (Nat.le_refl _)) | (simp; done) | (simp; omega) | omega))⟩

set_option maxRecDepth 100000 in
set_option maxHeartbeats 4000000 in
theorem expr19_k5 (x : Ex) (w : World) (A : Option Addr) (cap : Nat) (hin : ExIn19 x w A cap) (hop : x.op = 5) (hns : x.sub.length = 0) : Calls Try.prog 69 #[.agg (ExC x A cap).toArray] w fun e w' => e = .returned (.string (exprS x)) ∧ Below w.heap.size w w' := by
  have HTY := Lib.hid hin.subs
  have HSUB := Lib.hid hin.sub
  have HOP := Lib.hid hop
  have HNS := Lib.hid hns
  have HSZ := Lib.hid hin.small
  have hnm := hin.nm
  have hfd := hin.fd
  have hn := hin.n
  have hres := exprS_top x
  obtain ⟨res, hr⟩ : ∃ r, exprS x = r := ⟨_, rfl⟩
  rw [hr] at hres ⊢
  obtain ⟨nm, hnm2⟩ : ∃ s, x.name = s := ⟨_, rfl⟩
  obtain ⟨fd, hfd2⟩ : ∃ s, x.field = s := ⟨_, rfl⟩
  obtain ⟨nn, hn2⟩ : ∃ s, x.n = s := ⟨_, rfl⟩
  rw [hop, hnm2, hfd2, hn2] at hres
  rw [hnm2] at hnm
  rw [hfd2] at hfd
  rw [hn2] at hn
  have HRES := Lib.hid hres
  have e0 : (ExC x A cap).toArray = #[.int .i64 5, .int .i64 nn, .string nm, .string fd, .slice A 0 cap, .int .i64 x.line] := by rw [← HOP.out, ← HNS.out, ← hnm2, ← hfd2, ← hn2]; rfl
  rw [e0]
  clear hin e0 hres hr hop hns hnm2 hfd2 hn2
  go_enter Try.func69, Try.ntmps69
  go_upto_region 1 with (fail)
  refine wp_name fun W hW => ?_
  obtain ⟨B, hB⟩ : ∃ B, B = w.heap.size := ⟨_, rfl⟩
  have c0 : W.cell? ⟨B, 0, none⟩ = some (.int .i64 5) := by rw [hW.out, hB]; go_simp
  have c1 : W.cell? ⟨B, 1, none⟩ = some (.int .i64 nn) := by rw [hW.out, hB]; go_simp
  have c2 : W.cell? ⟨B, 2, none⟩ = some (.string nm) := by rw [hW.out, hB]; go_simp
  have c3 : W.cell? ⟨B, 3, none⟩ = some (.string fd) := by rw [hW.out, hB]; go_simp
  have c4 : W.cell? ⟨B, 4, none⟩ = some (.slice A 0 cap) := by rw [hW.out, hB]; go_simp
  have hbel : Below w.heap.size w W := by rw [hW.out]; (repeat' (first | (with_reducible exact Below.refl _ _) | (with_reducible assumption) | (with_reducible refine below_drewN ?_ _) | (with_reducible refine Below.drew ?_) | (with_reducible refine below_new ?_ (Nat.le_refl _) _) | (with_reducible refine Below.setCell ?_ ?_ _) | (with_reducible refine below_go ?_ (by assumption) (Nat.le_refl _)) | (simp; done) | (simp; omega) | omega))
  have lB : B < W.heap.size := by rw [hW.out, hB]; simp
  rw [← hB]
  have HB := Lib.hid hbel
  clear hW hbel hB
  go_wp2
  go_ret
  exact ⟨by rw [HRES.out]; rfl, by have hq := HB.out; (repeat' (first | (with_reducible exact Below.refl _ _) | (with_reducible assumption) | (with_reducible refine below_drewN ?_ _) | (with_reducible refine Below.drew ?_) | (with_reducible refine below_new ?_ (Nat.le_refl _) _) | (with_reducible refine Below.setCell ?_ ?_ _) | (with_reducible refine below_go ?_ (by assumption) (Nat.le_refl _)) | (simp; done) | (simp; omega) | omega))⟩

end Go.Proofs.Ytcamegfnhbbaeaa

namespace Go.Proofs.Ytcamegfnhbbaeaa
open Go.RowKit
set_option linter.unusedVariables false
set_option linter.unusedSimpArgs false
attribute [local go_sem] ite_max ite_min vite_max vite_min ext_cell ext_frozen

set_option maxRecDepth 100000 in
set_option maxHeartbeats 4000000 in
theorem expr19_k4 (x : Ex) (w : World) (A : Option Addr) (cap : Nat) (hin : ExIn19 x w A cap) (hop : x.op = 4) (hns : x.sub.length = 1) : Calls Try.prog 69 #[.agg (ExC x A cap).toArray] w fun e w' => e = .returned (.string (exprS x)) ∧ Below w.heap.size w w' := by
  have HTY := Lib.hid hin.subs
  have HSUB := Lib.hid hin.sub
  have HOP := Lib.hid hop
  have HNS := Lib.hid hns
  have HSZ := Lib.hid hin.small
  have hnm := hin.nm
  have hfd := hin.fd
  have hn := hin.n
  have hres := exprS_top x
  obtain ⟨res, hr⟩ : ∃ r, exprS x = r := ⟨_, rfl⟩
  rw [hr] at hres ⊢
  obtain ⟨nm, hnm2⟩ : ∃ s, x.name = s := ⟨_, rfl⟩
  obtain ⟨fd, hfd2⟩ : ∃ s, x.field = s := ⟨_, rfl⟩
  obtain ⟨nn, hn2⟩ : ∃ s, x.n = s := ⟨_, rfl⟩
  rw [hop, hnm2, hfd2, hn2] at hres
  rw [hnm2] at hnm
  rw [hfd2] at hfd
  rw [hn2] at hn
  have HRES := Lib.hid hres
  have e0 : (ExC x A cap).toArray = #[.int .i64 4, .int .i64 nn, .string nm, .string fd, .slice A 1 cap, .int .i64 x.line] := by rw [← HOP.out, ← HNS.out, ← hnm2, ← hfd2, ← hn2]; rfl
  rw [e0]
  clear hin e0 hres hr hop hns hnm2 hfd2 hn2
  go_enter Try.func69, Try.ntmps69
  go_upto_region 1 with (fail)
  refine wp_name fun W hW => ?_
  obtain ⟨B, hB⟩ : ∃ B, B = w.heap.size := ⟨_, rfl⟩
  have c0 : W.cell? ⟨B, 0, none⟩ = some (.int .i64 4) := by rw [hW.out, hB]; go_simp
  have c1 : W.cell? ⟨B, 1, none⟩ = some (.int .i64 nn) := by rw [hW.out, hB]; go_simp
  have c2 : W.cell? ⟨B, 2, none⟩ = some (.string nm) := by rw [hW.out, hB]; go_simp
  have c3 : W.cell? ⟨B, 3, none⟩ = some (.string fd) := by rw [hW.out, hB]; go_simp
  have c4 : W.cell? ⟨B, 4, none⟩ = some (.slice A 1 cap) := by rw [hW.out, hB]; go_simp
  have hbel : Below w.heap.size w W := by rw [hW.out]; (repeat' (first | (with_reducible exact Below.refl _ _) | (with_reducible assumption) | (with_reducible refine below_drewN ?_ _) | (with_reducible refine Below.drew ?_) | (with_reducible refine below_new ?_ (Nat.le_refl _) _) | (with_reducible refine Below.setCell ?_ ?_ _) | (with_reducible refine below_go ?_ (by assumption) (Nat.le_refl _)) | (simp; done) | (simp; omega) | omega))
  have lB : B < W.heap.size := by rw [hW.out, hB]; simp
  rw [← hB]
  have HB := Lib.hid hbel
  clear hW hbel hB
  obtain ⟨b0, off0, y0, As0, ks0, hA0, hbl0, hy0, hya0, hys0, hrg0⟩ := RowE.at (HSUB.out.below HB.out) (i := 0) (by rw [HNS.out]; decide)
  obtain ⟨s0, hs0⟩ : ∃ s, exprS y0 = s := ⟨_, rfl⟩
  have hsz0 := HSZ.out y0 (List.mem_of_getElem? hy0)
  rw [hs0] at hsz0
  have HT0 : Hid (∀ W', Below W.heap.size W W' → Calls Try.prog 69 #[.agg #[.int .i64 y0.op, .int .i64 y0.n, .string y0.name, .string y0.field, .slice As0 y0.sub.length ks0, .int .i64 y0.line]] W' fun e w' => e = .returned (.string s0) ∧ Below W'.heap.size W' w') := Lib.hid (fun W' hW' => by have := HTY.out y0 (List.mem_of_getElem? hy0) W' (HB.out.trans (hW'.mono HB.out.size)) As0 ks0 (hya0.keep hW'); rw [hs0] at this; exact this)
  rw [hA0] at c4
  have z00 : W.cell? ⟨b0, off0, none⟩ = some (.int .i64 y0.op) := by have := hrg0 0 _ rfl; simpa using this
  have z01 : W.cell? ⟨b0, off0 + 1, none⟩ = some (.int .i64 y0.n) := by have := hrg0 1 _ rfl; simpa using this
  have z02 : W.cell? ⟨b0, off0 + 2, none⟩ = some (.string y0.name) := by have := hrg0 2 _ rfl; simpa using this
  have z03 : W.cell? ⟨b0, off0 + 3, none⟩ = some (.string y0.field) := by have := hrg0 3 _ rfl; simpa using this
  have z04 : W.cell? ⟨b0, off0 + 4, none⟩ = some (.slice As0 y0.sub.length ks0) := by have := hrg0 4 _ rfl; simpa using this
  have z05 : W.cell? ⟨b0, off0 + 5, none⟩ = some (.int .i64 y0.line) := by have := hrg0 5 _ rfl; simpa using this
  have hrs : res = topS 4 nn nm fd s0 ((x.sub[1]?.map exprS).getD ⟨#[]⟩) := by rw [HRES.out, hy0, ← hs0]; rfl
  replace HRES := Lib.hid hrs
  clear hrs hA0 hya0 hys0 hrg0 hs0 hy0
  go_upto_region 8 with (fail)
  refine wp_region_ext (by kernel_rfl) (by kernel_rfl) ?_
  repeat (go_big_quiet_step ((go_at_call 69; exact ext_call (HT0.out _ (ext_below ⟨_, rfl⟩)))))
  refine wpQuiet_nil ?_
  intro w7 hb7
  replace hb7 := ext_below hb7
  have HB1 := Lib.hid (HB.out.trans (hb7.mono HB.out.size))
  clear c0 c1 c2 c3 c4 lB hb7 z00 z01 z02 z03 z04 z05
  go_wp2
  go_ret
  exact ⟨by rw [HRES.out]; rfl, by have hq := HB1.out; (repeat' (first | (with_reducible exact Below.refl _ _) | (with_reducible assumption) | (with_reducible refine below_drewN ?_ _) | (with_reducible refine Below.drew ?_) | (with_reducible refine below_new ?_ (Nat.le_refl _) _) | (with_reducible refine Below.setCell ?_ ?_ _) | (with_reducible refine below_go ?_ (by assumption) (Nat.le_refl _)) | (simp; done) | (simp; omega) | omega))⟩

end Go.Proofs.Ytcamegfnhbbaeaa

namespace Go.Proofs.Ytcamegfnhbbaeaa
open Go.RowKit
set_option linter.unusedVariables false
set_option linter.unusedSimpArgs false
attribute [local go_sem] ite_max ite_min vite_max vite_min ext_cell ext_frozen

set_option maxRecDepth 100000 in
set_option maxHeartbeats 4000000 in
theorem expr19_k6 (x : Ex) (w : World) (A : Option Addr) (cap : Nat) (hin : ExIn19 x w A cap) (hop : x.op = 6) (hns : x.sub.length = 1) : Calls Try.prog 69 #[.agg (ExC x A cap).toArray] w fun e w' => e = .returned (.string (exprS x)) ∧ Below w.heap.size w w' := by
  have HTY := Lib.hid hin.subs
  have HSUB := Lib.hid hin.sub
  have HOP := Lib.hid hop
  have HNS := Lib.hid hns
  have HSZ := Lib.hid hin.small
  have hnm := hin.nm
  have hfd := hin.fd
  have hn := hin.n
  have hres := exprS_top x
  obtain ⟨res, hr⟩ : ∃ r, exprS x = r := ⟨_, rfl⟩
  rw [hr] at hres ⊢
  obtain ⟨nm, hnm2⟩ : ∃ s, x.name = s := ⟨_, rfl⟩
  obtain ⟨fd, hfd2⟩ : ∃ s, x.field = s := ⟨_, rfl⟩
  obtain ⟨nn, hn2⟩ : ∃ s, x.n = s := ⟨_, rfl⟩
  rw [hop, hnm2, hfd2, hn2] at hres
  rw [hnm2] at hnm
  rw [hfd2] at hfd
  rw [hn2] at hn
  have HRES := Lib.hid hres
  have e0 : (ExC x A cap).toArray = #[.int .i64 6, .int .i64 nn, .string nm, .string fd, .slice A 1 cap, .int .i64 x.line] := by rw [← HOP.out, ← HNS.out, ← hnm2, ← hfd2, ← hn2]; rfl
  rw [e0]
  clear hin e0 hres hr hop hns hnm2 hfd2 hn2
  go_enter Try.func69, Try.ntmps69
  go_upto_region 1 with (fail)
  refine wp_name fun W hW => ?_
  obtain ⟨B, hB⟩ : ∃ B, B = w.heap.size := ⟨_, rfl⟩
  have c0 : W.cell? ⟨B, 0, none⟩ = some (.int .i64 6) := by rw [hW.out, hB]; go_simp
  have c1 : W.cell? ⟨B, 1, none⟩ = some (.int .i64 nn) := by rw [hW.out, hB]; go_simp
  have c2 : W.cell? ⟨B, 2, none⟩ = some (.string nm) := by rw [hW.out, hB]; go_simp
  have c3 : W.cell? ⟨B, 3, none⟩ = some (.string fd) := by rw [hW.out, hB]; go_simp
  have c4 : W.cell? ⟨B, 4, none⟩ = some (.slice A 1 cap) := by rw [hW.out, hB]; go_simp
  have hbel : Below w.heap.size w W := by rw [hW.out]; (repeat' (first | (with_reducible exact Below.refl _ _) | (with_reducible assumption) | (with_reducible refine below_drewN ?_ _) | (with_reducible refine Below.drew ?_) | (with_reducible refine below_new ?_ (Nat.le_refl _) _) | (with_reducible refine Below.setCell ?_ ?_ _) | (with_reducible refine below_go ?_ (by assumption) (Nat.le_refl _)) | (simp; done) | (simp; omega) | omega))
  have lB : B < W.heap.size := by rw [hW.out, hB]; simp
  rw [← hB]
  have HB := Lib.hid hbel
  clear hW hbel hB
  obtain ⟨b0, off0, y0, As0, ks0, hA0, hbl0, hy0, hya0, hys0, hrg0⟩ := RowE.at (HSUB.out.below HB.out) (i := 0) (by rw [HNS.out]; decide)
  obtain ⟨s0, hs0⟩ : ∃ s, exprS y0 = s := ⟨_, rfl⟩
  have hsz0 := HSZ.out y0 (List.mem_of_getElem? hy0)
  rw [hs0] at hsz0
  have HT0 : Hid (∀ W', Below W.heap.size W W' → Calls Try.prog 69 #[.agg #[.int .i64 y0.op, .int .i64 y0.n, .string y0.name, .string y0.field, .slice As0 y0.sub.length ks0, .int .i64 y0.line]] W' fun e w' => e = .returned (.string s0) ∧ Below W'.heap.size W' w') := Lib.hid (fun W' hW' => by have := HTY.out y0 (List.mem_of_getElem? hy0) W' (HB.out.trans (hW'.mono HB.out.size)) As0 ks0 (hya0.keep hW'); rw [hs0] at this; exact this)
  rw [hA0] at c4
  have HRG := Lib.hid hrg0
  have hrs : res = topS 6 nn nm fd s0 ((x.sub[1]?.map exprS).getD ⟨#[]⟩) := by rw [HRES.out, hy0, ← hs0]; rfl
  replace HRES := Lib.hid hrs
  clear hrs hA0 hya0 hys0 hrg0 hs0 hy0
  simp only [Nat.zero_mul, Nat.add_zero] at HRG
  go_wp2_with (refine wpList_load_mid rfl 39 _ rfl b0 off0 rfl (ExC y0 As0 ks0) _ HRG.out Try.underlying39 rfl expr_size ?_)
  refine (HT0.out _ (Below.refl _ _)).mono ?_
  rintro e w1 ⟨rfl, hb1⟩
  have HB1 := Lib.hid (HB.out.trans (hb1.mono HB.out.size))
  clear c0 c1 c2 c3 c4 lB hb1
  go_wp2
  go_ret
  exact ⟨by rw [HRES.out]; rfl, by have hq := HB1.out; (repeat' (first | (with_reducible exact Below.refl _ _) | (with_reducible assumption) | (with_reducible refine below_drewN ?_ _) | (with_reducible refine Below.drew ?_) | (with_reducible refine below_new ?_ (Nat.le_refl _) _) | (with_reducible refine Below.setCell ?_ ?_ _) | (with_reducible refine below_go ?_ (by assumption) (Nat.le_refl _)) | (simp; done) | (simp; omega) | omega))⟩

set_option maxRecDepth 100000 in
set_option maxHeartbeats 4000000 in
theorem expr19_k7 (x : Ex) (w : World) (A : Option Addr) (cap : Nat) (hin : ExIn19 x w A cap) (hop : x.op = 7) (hns : x.sub.length = 1) : Calls Try.prog 69 #[.agg (ExC x A cap).toArray] w fun e w' => e = .returned (.string (exprS x)) ∧ Below w.heap.size w w' := by
  have HTY := Lib.hid hin.subs
  have HSUB := Lib.hid hin.sub
  have HOP := Lib.hid hop
  have HNS := Lib.hid hns
  have HSZ := Lib.hid hin.small
  have hnm := hin.nm
  have hfd := hin.fd
  have hn := hin.n
  have hres := exprS_top x
  obtain ⟨res, hr⟩ : ∃ r, exprS x = r := ⟨_, rfl⟩
  rw [hr] at hres ⊢
  obtain ⟨nm, hnm2⟩ : ∃ s, x.name = s := ⟨_, rfl⟩
  obtain ⟨fd, hfd2⟩ : ∃ s, x.field = s := ⟨_, rfl⟩
  obtain ⟨nn, hn2⟩ : ∃ s, x.n = s := ⟨_, rfl⟩
  rw [hop, hnm2, hfd2, hn2] at hres
  rw [hnm2] at hnm
  rw [hfd2] at hfd
  rw [hn2] at hn
  have HRES := Lib.hid hres
  have e0 : (ExC x A cap).toArray = #[.int .i64 7, .int .i64 nn, .string nm, .string fd, .slice A 1 cap, .int .i64 x.line] := by rw [← HOP.out, ← HNS.out, ← hnm2, ← hfd2, ← hn2]; rfl
  rw [e0]
  clear hin e0 hres hr hop hns hnm2 hfd2 hn2
  go_enter Try.func69, Try.ntmps69
  go_upto_region 1 with (fail)
  refine wp_name fun W hW => ?_
  obtain ⟨B, hB⟩ : ∃ B, B = w.heap.size := ⟨_, rfl⟩
  have c0 : W.cell? ⟨B, 0, none⟩ = some (.int .i64 7) := by rw [hW.out, hB]; go_simp
  have c1 : W.cell? ⟨B, 1, none⟩ = some (.int .i64 nn) := by rw [hW.out, hB]; go_simp
  have c2 : W.cell? ⟨B, 2, none⟩ = some (.string nm) := by rw [hW.out, hB]; go_simp
  have c3 : W.cell? ⟨B, 3, none⟩ = some (.string fd) := by rw [hW.out, hB]; go_simp
  have c4 : W.cell? ⟨B, 4, none⟩ = some (.slice A 1 cap) := by rw [hW.out, hB]; go_simp
  have hbel : Below w.heap.size w W := by rw [hW.out]; (repeat' (first | (with_reducible exact Below.refl _ _) | (with_reducible assumption) | (with_reducible refine below_drewN ?_ _) | (with_reducible refine Below.drew ?_) | (with_reducible refine below_new ?_ (Nat.le_refl _) _) | (with_reducible refine Below.setCell ?_ ?_ _) | (with_reducible refine below_go ?_ (by assumption) (Nat.le_refl _)) | (simp; done) | (simp; omega) | omega))
  have lB : B < W.heap.size := by rw [hW.out, hB]; simp
  rw [← hB]
  have HB := Lib.hid hbel
  clear hW hbel hB
  obtain ⟨b0, off0, y0, As0, ks0, hA0, hbl0, hy0, hya0, hys0, hrg0⟩ := RowE.at (HSUB.out.below HB.out) (i := 0) (by rw [HNS.out]; decide)
  obtain ⟨s0, hs0⟩ : ∃ s, exprS y0 = s := ⟨_, rfl⟩
  have hsz0 := HSZ.out y0 (List.mem_of_getElem? hy0)
  rw [hs0] at hsz0
  have HT0 : Hid (∀ W', Below W.heap.size W W' → Calls Try.prog 69 #[.agg #[.int .i64 y0.op, .int .i64 y0.n, .string y0.name, .string y0.field, .slice As0 y0.sub.length ks0, .int .i64 y0.line]] W' fun e w' => e = .returned (.string s0) ∧ Below W'.heap.size W' w') := Lib.hid (fun W' hW' => by have := HTY.out y0 (List.mem_of_getElem? hy0) W' (HB.out.trans (hW'.mono HB.out.size)) As0 ks0 (hya0.keep hW'); rw [hs0] at this; exact this)
  rw [hA0] at c4
  have HRG := Lib.hid hrg0
  have hrs : res = topS 7 nn nm fd s0 ((x.sub[1]?.map exprS).getD ⟨#[]⟩) := by rw [HRES.out, hy0, ← hs0]; rfl
  replace HRES := Lib.hid hrs
  clear hrs hA0 hya0 hys0 hrg0 hs0 hy0
  simp only [Nat.zero_mul, Nat.add_zero] at HRG
  go_wp2_with (refine wpList_load_mid rfl 39 _ rfl b0 off0 rfl (ExC y0 As0 ks0) _ HRG.out Try.underlying39 rfl expr_size ?_)
  refine (HT0.out _ (Below.refl _ _)).mono ?_
  rintro e w1 ⟨rfl, hb1⟩
  have HB1 := Lib.hid (HB.out.trans (hb1.mono HB.out.size))
  clear c0 c1 c2 c3 c4 lB hb1
  go_wp2
  go_ret
  exact ⟨by rw [HRES.out]; rfl, by have hq := HB1.out; (repeat' (first | (with_reducible exact Below.refl _ _) | (with_reducible assumption) | (with_reducible refine below_drewN ?_ _) | (with_reducible refine Below.drew ?_) | (with_reducible refine below_new ?_ (Nat.le_refl _) _) | (with_reducible refine Below.setCell ?_ ?_ _) | (with_reducible refine below_go ?_ (by assumption) (Nat.le_refl _)) | (simp; done) | (simp; omega) | omega))⟩

end Go.Proofs.Ytcamegfnhbbaeaa

namespace Go.Proofs.Ytcamegfnhbbaeaa
open Go.RowKit
set_option linter.unusedVariables false
set_option linter.unusedSimpArgs false
attribute [local go_sem] ite_max ite_min vite_max vite_min ext_cell ext_frozen

set_option maxRecDepth 100000 in
set_option maxHeartbeats 4000000 in
theorem expr19_k8 (x : Ex) (w : World) (A : Option Addr) (cap : Nat) (hin : ExIn19 x w A cap) (hop : x.op = 8) (hns : x.sub.length = 2) : Calls Try.prog 69 #[.agg (ExC x A cap).toArray] w fun e w' => e = .returned (.string (exprS x)) ∧ Below w.heap.size w w' := by
  have HTY := Lib.hid hin.subs
  have HSUB := Lib.hid hin.sub
  have HOP := Lib.hid hop
  have HNS := Lib.hid hns
  have HSZ := Lib.hid hin.small
  have hnm := hin.nm
  have hfd := hin.fd
  have hn := hin.n
  have hres := exprS_top x
  obtain ⟨res, hr⟩ : ∃ r, exprS x = r := ⟨_, rfl⟩
  rw [hr] at hres ⊢
  obtain ⟨nm, hnm2⟩ : ∃ s, x.name = s := ⟨_, rfl⟩
  obtain ⟨fd, hfd2⟩ : ∃ s, x.field = s := ⟨_, rfl⟩
  obtain ⟨nn, hn2⟩ : ∃ s, x.n = s := ⟨_, rfl⟩
  rw [hop, hnm2, hfd2, hn2] at hres
  rw [hnm2] at hnm
  rw [hfd2] at hfd
  rw [hn2] at hn
  have HRES := Lib.hid hres
  have e0 : (ExC x A cap).toArray = #[.int .i64 8, .int .i64 nn, .string nm, .string fd, .slice A 2 cap, .int .i64 x.line] := by rw [← HOP.out, ← HNS.out, ← hnm2, ← hfd2, ← hn2]; rfl
  rw [e0]
  clear hin e0 hres hr hop hns hnm2 hfd2 hn2
  go_enter Try.func69, Try.ntmps69
  go_upto_region 1 with (fail)
  refine wp_name fun W hW => ?_
  obtain ⟨B, hB⟩ : ∃ B, B = w.heap.size := ⟨_, rfl⟩
  have c0 : W.cell? ⟨B, 0, none⟩ = some (.int .i64 8) := by rw [hW.out, hB]; go_simp
  have c1 : W.cell? ⟨B, 1, none⟩ = some (.int .i64 nn) := by rw [hW.out, hB]; go_simp
  have c2 : W.cell? ⟨B, 2, none⟩ = some (.string nm) := by rw [hW.out, hB]; go_simp
  have c3 : W.cell? ⟨B, 3, none⟩ = some (.string fd) := by rw [hW.out, hB]; go_simp
  have c4 : W.cell? ⟨B, 4, none⟩ = some (.slice A 2 cap) := by rw [hW.out, hB]; go_simp
  have hbel : Below w.heap.size w W := by rw [hW.out]; (repeat' (first | (with_reducible exact Below.refl _ _) | (with_reducible assumption) | (with_reducible refine below_drewN ?_ _) | (with_reducible refine Below.drew ?_) | (with_reducible refine below_new ?_ (Nat.le_refl _) _) | (with_reducible refine Below.setCell ?_ ?_ _) | (with_reducible refine below_go ?_ (by assumption) (Nat.le_refl _)) | (simp; done) | (simp; omega) | omega))
  have lB : B < W.heap.size := by rw [hW.out, hB]; simp
  rw [← hB]
  have HB := Lib.hid hbel
  clear hW hbel hB
  obtain ⟨b0, off0, y0, As0, ks0, hA0, hbl0, hy0, hya0, hys0, hrg0⟩ := RowE.at (HSUB.out.below HB.out) (i := 0) (by rw [HNS.out]; decide)
  obtain ⟨s0, hs0⟩ : ∃ s, exprS y0 = s := ⟨_, rfl⟩
  have hsz0 := HSZ.out y0 (List.mem_of_getElem? hy0)
  rw [hs0] at hsz0
  have HT0 : Hid (∀ W', Below W.heap.size W W' → Calls Try.prog 69 #[.agg #[.int .i64 y0.op, .int .i64 y0.n, .string y0.name, .string y0.field, .slice As0 y0.sub.length ks0, .int .i64 y0.line]] W' fun e w' => e = .returned (.string s0) ∧ Below W'.heap.size W' w') := Lib.hid (fun W' hW' => by have := HTY.out y0 (List.mem_of_getElem? hy0) W' (HB.out.trans (hW'.mono HB.out.size)) As0 ks0 (hya0.keep hW'); rw [hs0] at this; exact this)
  obtain ⟨b1, off1, y1, As1, ks1, hA1, hbl1, hy1, hya1, hys1, hrg1⟩ := RowE.at (HSUB.out.below HB.out) (i := 1) (by rw [HNS.out]; decide)
  obtain ⟨s1, hs1⟩ : ∃ s, exprS y1 = s := ⟨_, rfl⟩
  have hsz1 := HSZ.out y1 (List.mem_of_getElem? hy1)
  rw [hs1] at hsz1
  have HT1 : Hid (∀ W', Below W.heap.size W W' → Calls Try.prog 69 #[.agg #[.int .i64 y1.op, .int .i64 y1.n, .string y1.name, .string y1.field, .slice As1 y1.sub.length ks1, .int .i64 y1.line]] W' fun e w' => e = .returned (.string s1) ∧ Below W'.heap.size W' w') := Lib.hid (fun W' hW' => by have := HTY.out y1 (List.mem_of_getElem? hy1) W' (HB.out.trans (hW'.mono HB.out.size)) As1 ks1 (hya1.keep hW'); rw [hs1] at this; exact this)
  rw [hA0] at c4
  have he : b0 = b1 ∧ off0 = off1 := by rw [hA0] at hA1; cases hA1; exact ⟨rfl, rfl⟩
  have he1 := he.1
  have he2 := he.2
  subst he1 he2
  have z00 : W.cell? ⟨b0, off0, none⟩ = some (.int .i64 y0.op) := by have := hrg0 0 _ rfl; simpa using this
  have z01 : W.cell? ⟨b0, off0 + 1, none⟩ = some (.int .i64 y0.n) := by have := hrg0 1 _ rfl; simpa using this
  have z02 : W.cell? ⟨b0, off0 + 2, none⟩ = some (.string y0.name) := by have := hrg0 2 _ rfl; simpa using this
  have z03 : W.cell? ⟨b0, off0 + 3, none⟩ = some (.string y0.field) := by have := hrg0 3 _ rfl; simpa using this
  have z04 : W.cell? ⟨b0, off0 + 4, none⟩ = some (.slice As0 y0.sub.length ks0) := by have := hrg0 4 _ rfl; simpa using this
  have z05 : W.cell? ⟨b0, off0 + 5, none⟩ = some (.int .i64 y0.line) := by have := hrg0 5 _ rfl; simpa using this
  have z10 : W.cell? ⟨b0, off0 + 6, none⟩ = some (.int .i64 y1.op) := by have := hrg1 0 _ rfl; simpa using this
  have z11 : W.cell? ⟨b0, off0 + 6 + 1, none⟩ = some (.int .i64 y1.n) := by have := hrg1 1 _ rfl; simpa using this
  have z12 : W.cell? ⟨b0, off0 + 6 + 2, none⟩ = some (.string y1.name) := by have := hrg1 2 _ rfl; simpa using this
  have z13 : W.cell? ⟨b0, off0 + 6 + 3, none⟩ = some (.string y1.field) := by have := hrg1 3 _ rfl; simpa using this
  have z14 : W.cell? ⟨b0, off0 + 6 + 4, none⟩ = some (.slice As1 y1.sub.length ks1) := by have := hrg1 4 _ rfl; simpa using this
  have z15 : W.cell? ⟨b0, off0 + 6 + 5, none⟩ = some (.int .i64 y1.line) := by have := hrg1 5 _ rfl; simpa using this
  have hrs : res = topS 8 nn nm fd s0 s1 := by rw [HRES.out, hy0, hy1, ← hs0, ← hs1]; rfl
  replace HRES := Lib.hid hrs
  clear hrs hA0 hA1 hya0 hys0 hrg0 hs0 hy0 hya1 hys1 hrg1 hs1 hy1
  have ix := idx14_0
  go_upto_region 16 with (fail)
  refine wp_region_ext (by kernel_rfl) (by kernel_rfl) ?_
  repeat (go_big_quiet_step (first | (go_at_call 69; (with_reducible refine ext_call (HT0.out _ (ext_below ⟨_, rfl⟩)))) | (go_at_call 69; (with_reducible refine ext_call (HT1.out _ (ext_below ⟨_, rfl⟩))))))
  refine wpQuiet_nil ?_
  intro w7 hb7
  replace hb7 := ext_below hb7
  have HB1 := Lib.hid (HB.out.trans (hb7.mono HB.out.size))
  clear c0 c1 c2 c3 c4 lB hb7 ix z00 z01 z02 z03 z04 z05 z10 z11 z12 z13 z14 z15
  go_wp2
  go_ret
  exact ⟨by rw [HRES.out]; rfl, by have hq := HB1.out; (repeat' (first | (with_reducible exact Below.refl _ _) | (with_reducible assumption) | (with_reducible refine below_drewN ?_ _) | (with_reducible refine Below.drew ?_) | (with_reducible refine below_new ?_ (Nat.le_refl _) _) | (with_reducible refine Below.setCell ?_ ?_ _) | (with_reducible refine below_go ?_ (by assumption) (Nat.le_refl _)) | (simp; done) | (simp; omega) | omega))⟩

set_option maxRecDepth 100000 in
set_option maxHeartbeats 4000000 in
theorem expr19_k9 (x : Ex) (w : World) (A : Option Addr) (cap : Nat) (hin : ExIn19 x w A cap) (hop : x.op = 9) (hns : x.sub.length = 2) : Calls Try.prog 69 #[.agg (ExC x A cap).toArray] w fun e w' => e = .returned (.string (exprS x)) ∧ Below w.heap.size w w' := by
  have HTY := Lib.hid hin.subs
  have HSUB := Lib.hid hin.sub
  have HOP := Lib.hid hop
  have HNS := Lib.hid hns
  have HSZ := Lib.hid hin.small
  have hnm := hin.nm
  have hfd := hin.fd
  have hn := hin.n
  have hres := exprS_top x
  obtain ⟨res, hr⟩ : ∃ r, exprS x = r := ⟨_, rfl⟩
  rw [hr] at hres ⊢
  obtain ⟨nm, hnm2⟩ : ∃ s, x.name = s := ⟨_, rfl⟩
  obtain ⟨fd, hfd2⟩ : ∃ s, x.field = s := ⟨_, rfl⟩
  obtain ⟨nn, hn2⟩ : ∃ s, x.n = s := ⟨_, rfl⟩
  rw [hop, hnm2, hfd2, hn2] at hres
  rw [hnm2] at hnm
  rw [hfd2] at hfd
  rw [hn2] at hn
  have HRES := Lib.hid hres
  have e0 : (ExC x A cap).toArray = #[.int .i64 9, .int .i64 nn, .string nm, .string fd, .slice A 2 cap, .int .i64 x.line] := by rw [← HOP.out, ← HNS.out, ← hnm2, ← hfd2, ← hn2]; rfl
  rw [e0]
  clear hin e0 hres hr hop hns hnm2 hfd2 hn2
  go_enter Try.func69, Try.ntmps69
  go_upto_region 1 with (fail)
  refine wp_name fun W hW => ?_
  obtain ⟨B, hB⟩ : ∃ B, B = w.heap.size := ⟨_, rfl⟩
  have c0 : W.cell? ⟨B, 0, none⟩ = some (.int .i64 9) := by rw [hW.out, hB]; go_simp
  have c1 : W.cell? ⟨B, 1, none⟩ = some (.int .i64 nn) := by rw [hW.out, hB]; go_simp
  have c2 : W.cell? ⟨B, 2, none⟩ = some (.string nm) := by rw [hW.out, hB]; go_simp
  have c3 : W.cell? ⟨B, 3, none⟩ = some (.string fd) := by rw [hW.out, hB]; go_simp
  have c4 : W.cell? ⟨B, 4, none⟩ = some (.slice A 2 cap) := by rw [hW.out, hB]; go_simp
  have hbel : Below w.heap.size w W := by rw [hW.out]; (repeat' (first | (with_reducible exact Below.refl _ _) | (with_reducible assumption) | (with_reducible refine below_drewN ?_ _) | (with_reducible refine Below.drew ?_) | (with_reducible refine below_new ?_ (Nat.le_refl _) _) | (with_reducible refine Below.setCell ?_ ?_ _) | (with_reducible refine below_go ?_ (by assumption) (Nat.le_refl _)) | (simp; done) | (simp; omega) | omega))
  have lB : B < W.heap.size := by rw [hW.out, hB]; simp
  rw [← hB]
  have HB := Lib.hid hbel
  clear hW hbel hB
  obtain ⟨b0, off0, y0, As0, ks0, hA0, hbl0, hy0, hya0, hys0, hrg0⟩ := RowE.at (HSUB.out.below HB.out) (i := 0) (by rw [HNS.out]; decide)
  obtain ⟨s0, hs0⟩ : ∃ s, exprS y0 = s := ⟨_, rfl⟩
  have hsz0 := HSZ.out y0 (List.mem_of_getElem? hy0)
  rw [hs0] at hsz0
  have HT0 : Hid (∀ W', Below W.heap.size W W' → Calls Try.prog 69 #[.agg #[.int .i64 y0.op, .int .i64 y0.n, .string y0.name, .string y0.field, .slice As0 y0.sub.length ks0, .int .i64 y0.line]] W' fun e w' => e = .returned (.string s0) ∧ Below W'.heap.size W' w') := Lib.hid (fun W' hW' => by have := HTY.out y0 (List.mem_of_getElem? hy0) W' (HB.out.trans (hW'.mono HB.out.size)) As0 ks0 (hya0.keep hW'); rw [hs0] at this; exact this)
  obtain ⟨b1, off1, y1, As1, ks1, hA1, hbl1, hy1, hya1, hys1, hrg1⟩ := RowE.at (HSUB.out.below HB.out) (i := 1) (by rw [HNS.out]; decide)
  obtain ⟨s1, hs1⟩ : ∃ s, exprS y1 = s := ⟨_, rfl⟩
  have hsz1 := HSZ.out y1 (List.mem_of_getElem? hy1)
  rw [hs1] at hsz1
  have HT1 : Hid (∀ W', Below W.heap.size W W' → Calls Try.prog 69 #[.agg #[.int .i64 y1.op, .int .i64 y1.n, .string y1.name, .string y1.field, .slice As1 y1.sub.length ks1, .int .i64 y1.line]] W' fun e w' => e = .returned (.string s1) ∧ Below W'.heap.size W' w') := Lib.hid (fun W' hW' => by have := HTY.out y1 (List.mem_of_getElem? hy1) W' (HB.out.trans (hW'.mono HB.out.size)) As1 ks1 (hya1.keep hW'); rw [hs1] at this; exact this)
  rw [hA0] at c4
  have he : b0 = b1 ∧ off0 = off1 := by rw [hA0] at hA1; cases hA1; exact ⟨rfl, rfl⟩
  have he1 := he.1
  have he2 := he.2
  subst he1 he2
  have z00 : W.cell? ⟨b0, off0, none⟩ = some (.int .i64 y0.op) := by have := hrg0 0 _ rfl; simpa using this
  have z01 : W.cell? ⟨b0, off0 + 1, none⟩ = some (.int .i64 y0.n) := by have := hrg0 1 _ rfl; simpa using this
  have z02 : W.cell? ⟨b0, off0 + 2, none⟩ = some (.string y0.name) := by have := hrg0 2 _ rfl; simpa using this
  have z03 : W.cell? ⟨b0, off0 + 3, none⟩ = some (.string y0.field) := by have := hrg0 3 _ rfl; simpa using this
  have z04 : W.cell? ⟨b0, off0 + 4, none⟩ = some (.slice As0 y0.sub.length ks0) := by have := hrg0 4 _ rfl; simpa using this
  have z05 : W.cell? ⟨b0, off0 + 5, none⟩ = some (.int .i64 y0.line) := by have := hrg0 5 _ rfl; simpa using this
  have z10 : W.cell? ⟨b0, off0 + 6, none⟩ = some (.int .i64 y1.op) := by have := hrg1 0 _ rfl; simpa using this
  have z11 : W.cell? ⟨b0, off0 + 6 + 1, none⟩ = some (.int .i64 y1.n) := by have := hrg1 1 _ rfl; simpa using this
  have z12 : W.cell? ⟨b0, off0 + 6 + 2, none⟩ = some (.string y1.name) := by have := hrg1 2 _ rfl; simpa using this
  have z13 : W.cell? ⟨b0, off0 + 6 + 3, none⟩ = some (.string y1.field) := by have := hrg1 3 _ rfl; simpa using this
  have z14 : W.cell? ⟨b0, off0 + 6 + 4, none⟩ = some (.slice As1 y1.sub.length ks1) := by have := hrg1 4 _ rfl; simpa using this
  have z15 : W.cell? ⟨b0, off0 + 6 + 5, none⟩ = some (.int .i64 y1.line) := by have := hrg1 5 _ rfl; simpa using this
  have hrs : res = topS 9 nn nm fd s0 s1 := by rw [HRES.out, hy0, hy1, ← hs0, ← hs1]; rfl
  replace HRES := Lib.hid hrs
  clear hrs hA0 hA1 hya0 hys0 hrg0 hs0 hy0 hya1 hys1 hrg1 hs1 hy1
  have ix := idx14_1
  go_upto_region 16 with (fail)
  refine wp_region_ext (by kernel_rfl) (by kernel_rfl) ?_
  repeat (go_big_quiet_step (first | (go_at_call 69; (with_reducible refine ext_call (HT0.out _ (ext_below ⟨_, rfl⟩)))) | (go_at_call 69; (with_reducible refine ext_call (HT1.out _ (ext_below ⟨_, rfl⟩))))))
  refine wpQuiet_nil ?_
  intro w7 hb7
  replace hb7 := ext_below hb7
  have HB1 := Lib.hid (HB.out.trans (hb7.mono HB.out.size))
  clear c0 c1 c2 c3 c4 lB hb7 ix z00 z01 z02 z03 z04 z05 z10 z11 z12 z13 z14 z15
  go_wp2
  go_ret
  exact ⟨by rw [HRES.out]; rfl, by have hq := HB1.out; (repeat' (first | (with_reducible exact Below.refl _ _) | (with_reducible assumption) | (with_reducible refine below_drewN ?_ _) | (with_reducible refine Below.drew ?_) | (with_reducible refine below_new ?_ (Nat.le_refl _) _) | (with_reducible refine Below.setCell ?_ ?_ _) | (with_reducible refine below_go ?_ (by assumption) (Nat.le_refl _)) | (simp; done) | (simp; omega) | omega))⟩

set_option maxRecDepth 100000 in
set_option maxHeartbeats 4000000 in
theorem expr19_k10 (x : Ex) (w : World) (A : Option Addr) (cap : Nat) (hin : ExIn19 x w A cap) (hop : x.op = 10) (hns : x.sub.length = 2) : Calls Try.prog 69 #[.agg (ExC x A cap).toArray] w fun e w' => e = .returned (.string (exprS x)) ∧ Below w.heap.size w w' := by
  have HTY := Lib.hid hin.subs
  have HSUB := Lib.hid hin.sub
  have HOP := Lib.hid hop
  have HNS := Lib.hid hns
  have HSZ := Lib.hid hin.small
  have hnm := hin.nm
  have hfd := hin.fd
  have hn := hin.n
  have hres := exprS_top x
  obtain ⟨res, hr⟩ : ∃ r, exprS x = r := ⟨_, rfl⟩
  rw [hr] at hres ⊢
  obtain ⟨nm, hnm2⟩ : ∃ s, x.name = s := ⟨_, rfl⟩
  obtain ⟨fd, hfd2⟩ : ∃ s, x.field = s := ⟨_, rfl⟩
  obtain ⟨nn, hn2⟩ : ∃ s, x.n = s := ⟨_, rfl⟩
  rw [hop, hnm2, hfd2, hn2] at hres
  rw [hnm2] at hnm
  rw [hfd2] at hfd
  rw [hn2] at hn
  have HRES := Lib.hid hres
  have e0 : (ExC x A cap).toArray = #[.int .i64 10, .int .i64 nn, .string nm, .string fd, .slice A 2 cap, .int .i64 x.line] := by rw [← HOP.out, ← HNS.out, ← hnm2, ← hfd2, ← hn2]; rfl
  rw [e0]
  clear hin e0 hres hr hop hns hnm2 hfd2 hn2
  go_enter Try.func69, Try.ntmps69
  go_upto_region 1 with (fail)
  refine wp_name fun W hW => ?_
  obtain ⟨B, hB⟩ : ∃ B, B = w.heap.size := ⟨_, rfl⟩
  have c0 : W.cell? ⟨B, 0, none⟩ = some (.int .i64 10) := by rw [hW.out, hB]; go_simp
  have c1 : W.cell? ⟨B, 1, none⟩ = some (.int .i64 nn) := by rw [hW.out, hB]; go_simp
  have c2 : W.cell? ⟨B, 2, none⟩ = some (.string nm) := by rw [hW.out, hB]; go_simp
  have c3 : W.cell? ⟨B, 3, none⟩ = some (.string fd) := by rw [hW.out, hB]; go_simp
  have c4 : W.cell? ⟨B, 4, none⟩ = some (.slice A 2 cap) := by rw [hW.out, hB]; go_simp
  have hbel : Below w.heap.size w W := by rw [hW.out]; (repeat' (first | (with_reducible exact Below.refl _ _) | (with_reducible assumption) | (with_reducible refine below_drewN ?_ _) | (with_reducible refine Below.drew ?_) | (with_reducible refine below_new ?_ (Nat.le_refl _) _) | (with_reducible refine Below.setCell ?_ ?_ _) | (with_reducible refine below_go ?_ (by assumption) (Nat.le_refl _)) | (simp; done) | (simp; omega) | omega))
  have lB : B < W.heap.size := by rw [hW.out, hB]; simp
  rw [← hB]
  have HB := Lib.hid hbel
  clear hW hbel hB
  obtain ⟨b0, off0, y0, As0, ks0, hA0, hbl0, hy0, hya0, hys0, hrg0⟩ := RowE.at (HSUB.out.below HB.out) (i := 0) (by rw [HNS.out]; decide)
  obtain ⟨s0, hs0⟩ : ∃ s, exprS y0 = s := ⟨_, rfl⟩
  have hsz0 := HSZ.out y0 (List.mem_of_getElem? hy0)
  rw [hs0] at hsz0
  have HT0 : Hid (∀ W', Below W.heap.size W W' → Calls Try.prog 69 #[.agg #[.int .i64 y0.op, .int .i64 y0.n, .string y0.name, .string y0.field, .slice As0 y0.sub.length ks0, .int .i64 y0.line]] W' fun e w' => e = .returned (.string s0) ∧ Below W'.heap.size W' w') := Lib.hid (fun W' hW' => by have := HTY.out y0 (List.mem_of_getElem? hy0) W' (HB.out.trans (hW'.mono HB.out.size)) As0 ks0 (hya0.keep hW'); rw [hs0] at this; exact this)
  obtain ⟨b1, off1, y1, As1, ks1, hA1, hbl1, hy1, hya1, hys1, hrg1⟩ := RowE.at (HSUB.out.below HB.out) (i := 1) (by rw [HNS.out]; decide)
  obtain ⟨s1, hs1⟩ : ∃ s, exprS y1 = s := ⟨_, rfl⟩
  have hsz1 := HSZ.out y1 (List.mem_of_getElem? hy1)
  rw [hs1] at hsz1
  have HT1 : Hid (∀ W', Below W.heap.size W W' → Calls Try.prog 69 #[.agg #[.int .i64 y1.op, .int .i64 y1.n, .string y1.name, .string y1.field, .slice As1 y1.sub.length ks1, .int .i64 y1.line]] W' fun e w' => e = .returned (.string s1) ∧ Below W'.heap.size W' w') := Lib.hid (fun W' hW' => by have := HTY.out y1 (List.mem_of_getElem? hy1) W' (HB.out.trans (hW'.mono HB.out.size)) As1 ks1 (hya1.keep hW'); rw [hs1] at this; exact this)
  rw [hA0] at c4
  have he : b0 = b1 ∧ off0 = off1 := by rw [hA0] at hA1; cases hA1; exact ⟨rfl, rfl⟩
  have he1 := he.1
  have he2 := he.2
  subst he1 he2
  have z00 : W.cell? ⟨b0, off0, none⟩ = some (.int .i64 y0.op) := by have := hrg0 0 _ rfl; simpa using this
  have z01 : W.cell? ⟨b0, off0 + 1, none⟩ = some (.int .i64 y0.n) := by have := hrg0 1 _ rfl; simpa using this
  have z02 : W.cell? ⟨b0, off0 + 2, none⟩ = some (.string y0.name) := by have := hrg0 2 _ rfl; simpa using this
  have z03 : W.cell? ⟨b0, off0 + 3, none⟩ = some (.string y0.field) := by have := hrg0 3 _ rfl; simpa using this
  have z04 : W.cell? ⟨b0, off0 + 4, none⟩ = some (.slice As0 y0.sub.length ks0) := by have := hrg0 4 _ rfl; simpa using this
  have z05 : W.cell? ⟨b0, off0 + 5, none⟩ = some (.int .i64 y0.line) := by have := hrg0 5 _ rfl; simpa using this
  have z10 : W.cell? ⟨b0, off0 + 6, none⟩ = some (.int .i64 y1.op) := by have := hrg1 0 _ rfl; simpa using this
  have z11 : W.cell? ⟨b0, off0 + 6 + 1, none⟩ = some (.int .i64 y1.n) := by have := hrg1 1 _ rfl; simpa using this
  have z12 : W.cell? ⟨b0, off0 + 6 + 2, none⟩ = some (.string y1.name) := by have := hrg1 2 _ rfl; simpa using this
  have z13 : W.cell? ⟨b0, off0 + 6 + 3, none⟩ = some (.string y1.field) := by have := hrg1 3 _ rfl; simpa using this
  have z14 : W.cell? ⟨b0, off0 + 6 + 4, none⟩ = some (.slice As1 y1.sub.length ks1) := by have := hrg1 4 _ rfl; simpa using this
  have z15 : W.cell? ⟨b0, off0 + 6 + 5, none⟩ = some (.int .i64 y1.line) := by have := hrg1 5 _ rfl; simpa using this
  have hrs : res = topS 10 nn nm fd s0 s1 := by rw [HRES.out, hy0, hy1, ← hs0, ← hs1]; rfl
  replace HRES := Lib.hid hrs
  clear hrs hA0 hA1 hya0 hys0 hrg0 hs0 hy0 hya1 hys1 hrg1 hs1 hy1
  have ix := idx14_2
  go_upto_region 16 with (fail)
  refine wp_region_ext (by kernel_rfl) (by kernel_rfl) ?_
  repeat (go_big_quiet_step (first | (go_at_call 69; (with_reducible refine ext_call (HT0.out _ (ext_below ⟨_, rfl⟩)))) | (go_at_call 69; (with_reducible refine ext_call (HT1.out _ (ext_below ⟨_, rfl⟩))))))
  refine wpQuiet_nil ?_
  intro w7 hb7
  replace hb7 := ext_below hb7
  have HB1 := Lib.hid (HB.out.trans (hb7.mono HB.out.size))
  clear c0 c1 c2 c3 c4 lB hb7 ix z00 z01 z02 z03 z04 z05 z10 z11 z12 z13 z14 z15
  go_wp2
  go_ret
  exact ⟨by rw [HRES.out]; rfl, by have hq := HB1.out; (repeat' (first | (with_reducible exact Below.refl _ _) | (with_reducible assumption) | (with_reducible refine below_drewN ?_ _) | (with_reducible refine Below.drew ?_) | (with_reducible refine below_new ?_ (Nat.le_refl _) _) | (with_reducible refine Below.setCell ?_ ?_ _) | (with_reducible refine below_go ?_ (by assumption) (Nat.le_refl _)) | (simp; done) | (simp; omega) | omega))⟩

set_option maxRecDepth 100000 in
set_option maxHeartbeats 4000000 in
theorem expr19_k11 (x : Ex) (w : World) (A : Option Addr) (cap : Nat) (hin : ExIn19 x w A cap) (hop : x.op = 11) (hns : x.sub.length = 2) : Calls Try.prog 69 #[.agg (ExC x A cap).toArray] w fun e w' => e = .returned (.string (exprS x)) ∧ Below w.heap.size w w' := by
  have HTY := Lib.hid hin.subs
  have HSUB := Lib.hid hin.sub
  have HOP := Lib.hid hop
  have HNS := Lib.hid hns
  have HSZ := Lib.hid hin.small
  have hnm := hin.nm
  have hfd := hin.fd
  have hn := hin.n
  have hres := exprS_top x
  obtain ⟨res, hr⟩ : ∃ r, exprS x = r := ⟨_, rfl⟩
  rw [hr] at hres ⊢
  obtain ⟨nm, hnm2⟩ : ∃ s, x.name = s := ⟨_, rfl⟩
  obtain ⟨fd, hfd2⟩ : ∃ s, x.field = s := ⟨_, rfl⟩
  obtain ⟨nn, hn2⟩ : ∃ s, x.n = s := ⟨_, rfl⟩
  rw [hop, hnm2, hfd2, hn2] at hres
  rw [hnm2] at hnm
  rw [hfd2] at hfd
  rw [hn2] at hn
  have HRES := Lib.hid hres
  have e0 : (ExC x A cap).toArray = #[.int .i64 11, .int .i64 nn, .string nm, .string fd, .slice A 2 cap, .int .i64 x.line] := by rw [← HOP.out, ← HNS.out, ← hnm2, ← hfd2, ← hn2]; rfl
  rw [e0]
  clear hin e0 hres hr hop hns hnm2 hfd2 hn2
  go_enter Try.func69, Try.ntmps69
  go_upto_region 1 with (fail)
  refine wp_name fun W hW => ?_
  obtain ⟨B, hB⟩ : ∃ B, B = w.heap.size := ⟨_, rfl⟩
  have c0 : W.cell? ⟨B, 0, none⟩ = some (.int .i64 11) := by rw [hW.out, hB]; go_simp
  have c1 : W.cell? ⟨B, 1, none⟩ = some (.int .i64 nn) := by rw [hW.out, hB]; go_simp
  have c2 : W.cell? ⟨B, 2, none⟩ = some (.string nm) := by rw [hW.out, hB]; go_simp
  have c3 : W.cell? ⟨B, 3, none⟩ = some (.string fd) := by rw [hW.out, hB]; go_simp
  have c4 : W.cell? ⟨B, 4, none⟩ = some (.slice A 2 cap) := by rw [hW.out, hB]; go_simp
  have hbel : Below w.heap.size w W := by rw [hW.out]; (repeat' (first | (with_reducible exact Below.refl _ _) | (with_reducible assumption) | (with_reducible refine below_drewN ?_ _) | (with_reducible refine Below.drew ?_) | (with_reducible refine below_new ?_ (Nat.le_refl _) _) | (with_reducible refine Below.setCell ?_ ?_ _) | (with_reducible refine below_go ?_ (by assumption) (Nat.le_refl _)) | (simp; done) | (simp; omega) | omega))
  have lB : B < W.heap.size := by rw [hW.out, hB]; simp
  rw [← hB]
  have HB := Lib.hid hbel
  clear hW hbel hB
  obtain ⟨b0, off0, y0, As0, ks0, hA0, hbl0, hy0, hya0, hys0, hrg0⟩ := RowE.at (HSUB.out.below HB.out) (i := 0) (by rw [HNS.out]; decide)
  obtain ⟨s0, hs0⟩ : ∃ s, exprS y0 = s := ⟨_, rfl⟩
  have hsz0 := HSZ.out y0 (List.mem_of_getElem? hy0)
  rw [hs0] at hsz0
  have HT0 : Hid (∀ W', Below W.heap.size W W' → Calls Try.prog 69 #[.agg #[.int .i64 y0.op, .int .i64 y0.n, .string y0.name, .string y0.field, .slice As0 y0.sub.length ks0, .int .i64 y0.line]] W' fun e w' => e = .returned (.string s0) ∧ Below W'.heap.size W' w') := Lib.hid (fun W' hW' => by have := HTY.out y0 (List.mem_of_getElem? hy0) W' (HB.out.trans (hW'.mono HB.out.size)) As0 ks0 (hya0.keep hW'); rw [hs0] at this; exact this)
  obtain ⟨b1, off1, y1, As1, ks1, hA1, hbl1, hy1, hya1, hys1, hrg1⟩ := RowE.at (HSUB.out.below HB.out) (i := 1) (by rw [HNS.out]; decide)
  obtain ⟨s1, hs1⟩ : ∃ s, exprS y1 = s := ⟨_, rfl⟩
  have hsz1 := HSZ.out y1 (List.mem_of_getElem? hy1)
  rw [hs1] at hsz1
  have HT1 : Hid (∀ W', Below W.heap.size W W' → Calls Try.prog 69 #[.agg #[.int .i64 y1.op, .int .i64 y1.n, .string y1.name, .string y1.field, .slice As1 y1.sub.length ks1, .int .i64 y1.line]] W' fun e w' => e = .returned (.string s1) ∧ Below W'.heap.size W' w') := Lib.hid (fun W' hW' => by have := HTY.out y1 (List.mem_of_getElem? hy1) W' (HB.out.trans (hW'.mono HB.out.size)) As1 ks1 (hya1.keep hW'); rw [hs1] at this; exact this)
  rw [hA0] at c4
  have he : b0 = b1 ∧ off0 = off1 := by rw [hA0] at hA1; cases hA1; exact ⟨rfl, rfl⟩
  have he1 := he.1
  have he2 := he.2
  subst he1 he2
  have z00 : W.cell? ⟨b0, off0, none⟩ = some (.int .i64 y0.op) := by have := hrg0 0 _ rfl; simpa using this
  have z01 : W.cell? ⟨b0, off0 + 1, none⟩ = some (.int .i64 y0.n) := by have := hrg0 1 _ rfl; simpa using this
  have z02 : W.cell? ⟨b0, off0 + 2, none⟩ = some (.string y0.name) := by have := hrg0 2 _ rfl; simpa using this
  have z03 : W.cell? ⟨b0, off0 + 3, none⟩ = some (.string y0.field) := by have := hrg0 3 _ rfl; simpa using this
  have z04 : W.cell? ⟨b0, off0 + 4, none⟩ = some (.slice As0 y0.sub.length ks0) := by have := hrg0 4 _ rfl; simpa using this
  have z05 : W.cell? ⟨b0, off0 + 5, none⟩ = some (.int .i64 y0.line) := by have := hrg0 5 _ rfl; simpa using this
  have z10 : W.cell? ⟨b0, off0 + 6, none⟩ = some (.int .i64 y1.op) := by have := hrg1 0 _ rfl; simpa using this
  have z11 : W.cell? ⟨b0, off0 + 6 + 1, none⟩ = some (.int .i64 y1.n) := by have := hrg1 1 _ rfl; simpa using this
  have z12 : W.cell? ⟨b0, off0 + 6 + 2, none⟩ = some (.string y1.name) := by have := hrg1 2 _ rfl; simpa using this
  have z13 : W.cell? ⟨b0, off0 + 6 + 3, none⟩ = some (.string y1.field) := by have := hrg1 3 _ rfl; simpa using this
  have z14 : W.cell? ⟨b0, off0 + 6 + 4, none⟩ = some (.slice As1 y1.sub.length ks1) := by have := hrg1 4 _ rfl; simpa using this
  have z15 : W.cell? ⟨b0, off0 + 6 + 5, none⟩ = some (.int .i64 y1.line) := by have := hrg1 5 _ rfl; simpa using this
  have hrs : res = topS 11 nn nm fd s0 s1 := by rw [HRES.out, hy0, hy1, ← hs0, ← hs1]; rfl
  replace HRES := Lib.hid hrs
  clear hrs hA0 hA1 hya0 hys0 hrg0 hs0 hy0 hya1 hys1 hrg1 hs1 hy1
  have ix := idx14_3
  go_upto_region 16 with (fail)
  refine wp_region_ext (by kernel_rfl) (by kernel_rfl) ?_
  repeat (go_big_quiet_step (first | (go_at_call 69; (with_reducible refine ext_call (HT0.out _ (ext_below ⟨_, rfl⟩)))) | (go_at_call 69; (with_reducible refine ext_call (HT1.out _ (ext_below ⟨_, rfl⟩))))))
  refine wpQuiet_nil ?_
  intro w7 hb7
  replace hb7 := ext_below hb7
  have HB1 := Lib.hid (HB.out.trans (hb7.mono HB.out.size))
  clear c0 c1 c2 c3 c4 lB hb7 ix z00 z01 z02 z03 z04 z05 z10 z11 z12 z13 z14 z15
  go_wp2
  go_ret
  exact ⟨by rw [HRES.out]; rfl, by have hq := HB1.out; (repeat' (first | (with_reducible exact Below.refl _ _) | (with_reducible assumption) | (with_reducible refine below_drewN ?_ _) | (with_reducible refine Below.drew ?_) | (with_reducible refine below_new ?_ (Nat.le_refl _) _) | (with_reducible refine Below.setCell ?_ ?_ _) | (with_reducible refine below_go ?_ (by assumption) (Nat.le_refl _)) | (simp; done) | (simp; omega) | omega))⟩

set_option maxRecDepth 100000 in
set_option maxHeartbeats 4000000 in
theorem expr19_k12 (x : Ex) (w : World) (A : Option Addr) (cap : Nat) (hin : ExIn19 x w A cap) (hop : x.op = 12) (hns : x.sub.length = 2) : Calls Try.prog 69 #[.agg (ExC x A cap).toArray] w fun e w' => e = .returned (.string (exprS x)) ∧ Below w.heap.size w w' := by
  have HTY := Lib.hid hin.subs
  have HSUB := Lib.hid hin.sub
  have HOP := Lib.hid hop
  have HNS := Lib.hid hns
  have HSZ := Lib.hid hin.small
  have hnm := hin.nm
  have hfd := hin.fd
  have hn := hin.n
  have hres := exprS_top x
  obtain ⟨res, hr⟩ : ∃ r, exprS x = r := ⟨_, rfl⟩
  rw [hr] at hres ⊢
  obtain ⟨nm, hnm2⟩ : ∃ s, x.name = s := ⟨_, rfl⟩
  obtain ⟨fd, hfd2⟩ : ∃ s, x.field = s := ⟨_, rfl⟩
  obtain ⟨nn, hn2⟩ : ∃ s, x.n = s := ⟨_, rfl⟩
  rw [hop, hnm2, hfd2, hn2] at hres
  rw [hnm2] at hnm
  rw [hfd2] at hfd
  rw [hn2] at hn
  have HRES := Lib.hid hres
  have e0 : (ExC x A cap).toArray = #[.int .i64 12, .int .i64 nn, .string nm, .string fd, .slice A 2 cap, .int .i64 x.line] := by rw [← HOP.out, ← HNS.out, ← hnm2, ← hfd2, ← hn2]; rfl
  rw [e0]
  clear hin e0 hres hr hop hns hnm2 hfd2 hn2
  go_enter Try.func69, Try.ntmps69
  go_upto_region 1 with (fail)
  refine wp_name fun W hW => ?_
  obtain ⟨B, hB⟩ : ∃ B, B = w.heap.size := ⟨_, rfl⟩
  have c0 : W.cell? ⟨B, 0, none⟩ = some (.int .i64 12) := by rw [hW.out, hB]; go_simp
  have c1 : W.cell? ⟨B, 1, none⟩ = some (.int .i64 nn) := by rw [hW.out, hB]; go_simp
  have c2 : W.cell? ⟨B, 2, none⟩ = some (.string nm) := by rw [hW.out, hB]; go_simp
  have c3 : W.cell? ⟨B, 3, none⟩ = some (.string fd) := by rw [hW.out, hB]; go_simp
  have c4 : W.cell? ⟨B, 4, none⟩ = some (.slice A 2 cap) := by rw [hW.out, hB]; go_simp
  have hbel : Below w.heap.size w W := by rw [hW.out]; (repeat' (first | (with_reducible exact Below.refl _ _) | (with_reducible assumption) | (with_reducible refine below_drewN ?_ _) | (with_reducible refine Below.drew ?_) | (with_reducible refine below_new ?_ (Nat.le_refl _) _) | (with_reducible refine Below.setCell ?_ ?_ _) | (with_reducible refine below_go ?_ (by assumption) (Nat.le_refl _)) | (simp; done) | (simp; omega) | omega))
  have lB : B < W.heap.size := by rw [hW.out, hB]; simp
  rw [← hB]
  have HB := Lib.hid hbel
  clear hW hbel hB
  obtain ⟨b0, off0, y0, As0, ks0, hA0, hbl0, hy0, hya0, hys0, hrg0⟩ := RowE.at (HSUB.out.below HB.out) (i := 0) (by rw [HNS.out]; decide)
  obtain ⟨s0, hs0⟩ : ∃ s, exprS y0 = s := ⟨_, rfl⟩
  have hsz0 := HSZ.out y0 (List.mem_of_getElem? hy0)
  rw [hs0] at hsz0
  have HT0 : Hid (∀ W', Below W.heap.size W W' → Calls Try.prog 69 #[.agg #[.int .i64 y0.op, .int .i64 y0.n, .string y0.name, .string y0.field, .slice As0 y0.sub.length ks0, .int .i64 y0.line]] W' fun e w' => e = .returned (.string s0) ∧ Below W'.heap.size W' w') := Lib.hid (fun W' hW' => by have := HTY.out y0 (List.mem_of_getElem? hy0) W' (HB.out.trans (hW'.mono HB.out.size)) As0 ks0 (hya0.keep hW'); rw [hs0] at this; exact this)
  obtain ⟨b1, off1, y1, As1, ks1, hA1, hbl1, hy1, hya1, hys1, hrg1⟩ := RowE.at (HSUB.out.below HB.out) (i := 1) (by rw [HNS.out]; decide)
  obtain ⟨s1, hs1⟩ : ∃ s, exprS y1 = s := ⟨_, rfl⟩
  have hsz1 := HSZ.out y1 (List.mem_of_getElem? hy1)
  rw [hs1] at hsz1
  have HT1 : Hid (∀ W', Below W.heap.size W W' → Calls Try.prog 69 #[.agg #[.int .i64 y1.op, .int .i64 y1.n, .string y1.name, .string y1.field, .slice As1 y1.sub.length ks1, .int .i64 y1.line]] W' fun e w' => e = .returned (.string s1) ∧ Below W'.heap.size W' w') := Lib.hid (fun W' hW' => by have := HTY.out y1 (List.mem_of_getElem? hy1) W' (HB.out.trans (hW'.mono HB.out.size)) As1 ks1 (hya1.keep hW'); rw [hs1] at this; exact this)
  rw [hA0] at c4
  have he : b0 = b1 ∧ off0 = off1 := by rw [hA0] at hA1; cases hA1; exact ⟨rfl, rfl⟩
  have he1 := he.1
  have he2 := he.2
  subst he1 he2
  have z00 : W.cell? ⟨b0, off0, none⟩ = some (.int .i64 y0.op) := by have := hrg0 0 _ rfl; simpa using this
  have z01 : W.cell? ⟨b0, off0 + 1, none⟩ = some (.int .i64 y0.n) := by have := hrg0 1 _ rfl; simpa using this
  have z02 : W.cell? ⟨b0, off0 + 2, none⟩ = some (.string y0.name) := by have := hrg0 2 _ rfl; simpa using this
  have z03 : W.cell? ⟨b0, off0 + 3, none⟩ = some (.string y0.field) := by have := hrg0 3 _ rfl; simpa using this
  have z04 : W.cell? ⟨b0, off0 + 4, none⟩ = some (.slice As0 y0.sub.length ks0) := by have := hrg0 4 _ rfl; simpa using this
  have z05 : W.cell? ⟨b0, off0 + 5, none⟩ = some (.int .i64 y0.line) := by have := hrg0 5 _ rfl; simpa using this
  have z10 : W.cell? ⟨b0, off0 + 6, none⟩ = some (.int .i64 y1.op) := by have := hrg1 0 _ rfl; simpa using this
  have z11 : W.cell? ⟨b0, off0 + 6 + 1, none⟩ = some (.int .i64 y1.n) := by have := hrg1 1 _ rfl; simpa using this
  have z12 : W.cell? ⟨b0, off0 + 6 + 2, none⟩ = some (.string y1.name) := by have := hrg1 2 _ rfl; simpa using this
  have z13 : W.cell? ⟨b0, off0 + 6 + 3, none⟩ = some (.string y1.field) := by have := hrg1 3 _ rfl; simpa using this
  have z14 : W.cell? ⟨b0, off0 + 6 + 4, none⟩ = some (.slice As1 y1.sub.length ks1) := by have := hrg1 4 _ rfl; simpa using this
  have z15 : W.cell? ⟨b0, off0 + 6 + 5, none⟩ = some (.int .i64 y1.line) := by have := hrg1 5 _ rfl; simpa using this
  have hrs : res = topS 12 nn nm fd s0 s1 := by rw [HRES.out, hy0, hy1, ← hs0, ← hs1]; rfl
  replace HRES := Lib.hid hrs
  clear hrs hA0 hA1 hya0 hys0 hrg0 hs0 hy0 hya1 hys1 hrg1 hs1 hy1
  have ix := idx14_4
  go_upto_region 16 with (fail)
  refine wp_region_ext (by kernel_rfl) (by kernel_rfl) ?_
  repeat (go_big_quiet_step (first | (go_at_call 69; (with_reducible refine ext_call (HT0.out _ (ext_below ⟨_, rfl⟩)))) | (go_at_call 69; (with_reducible refine ext_call (HT1.out _ (ext_below ⟨_, rfl⟩))))))
  refine wpQuiet_nil ?_
  intro w7 hb7
  replace hb7 := ext_below hb7
  have HB1 := Lib.hid (HB.out.trans (hb7.mono HB.out.size))
  clear c0 c1 c2 c3 c4 lB hb7 ix z00 z01 z02 z03 z04 z05 z10 z11 z12 z13 z14 z15
  go_wp2
  go_ret
  exact ⟨by rw [HRES.out]; rfl, by have hq := HB1.out; (repeat' (first | (with_reducible exact Below.refl _ _) | (with_reducible assumption) | (with_reducible refine below_drewN ?_ _) | (with_reducible refine Below.drew ?_) | (with_reducible refine below_new ?_ (Nat.le_refl _) _) | (with_reducible refine Below.setCell ?_ ?_ _) | (with_reducible refine below_go ?_ (by assumption) (Nat.le_refl _)) | (simp; done) | (simp; omega) | omega))⟩

set_option maxRecDepth 100000 in
set_option maxHeartbeats 4000000 in
theorem expr19_k13 (x : Ex) (w : World) (A : Option Addr) (cap : Nat) (hin : ExIn19 x w A cap) (hop : x.op = 13) (hns : x.sub.length = 2) : Calls Try.prog 69 #[.agg (ExC x A cap).toArray] w fun e w' => e = .returned (.string (exprS x)) ∧ Below w.heap.size w w' := by
  have HTY := Lib.hid hin.subs
  have HSUB := Lib.hid hin.sub
  have HOP := Lib.hid hop
  have HNS := Lib.hid hns
  have HSZ := Lib.hid hin.small
  have hnm := hin.nm
  have hfd := hin.fd
  have hn := hin.n
  have hres := exprS_top x
  obtain ⟨res, hr⟩ : ∃ r, exprS x = r := ⟨_, rfl⟩
  rw [hr] at hres ⊢
  obtain ⟨nm, hnm2⟩ : ∃ s, x.name = s := ⟨_, rfl⟩
  obtain ⟨fd, hfd2⟩ : ∃ s, x.field = s := ⟨_, rfl⟩
  obtain ⟨nn, hn2⟩ : ∃ s, x.n = s := ⟨_, rfl⟩
  rw [hop, hnm2, hfd2, hn2] at hres
  rw [hnm2] at hnm
  rw [hfd2] at hfd
  rw [hn2] at hn
  have HRES := Lib.hid hres
  have e0 : (ExC x A cap).toArray = #[.int .i64 13, .int .i64 nn, .string nm, .string fd, .slice A 2 cap, .int .i64 x.line] := by rw [← HOP.out, ← HNS.out, ← hnm2, ← hfd2, ← hn2]; rfl
  rw [e0]
  clear hin e0 hres hr hop hns hnm2 hfd2 hn2
  go_enter Try.func69, Try.ntmps69
  go_upto_region 1 with (fail)
  refine wp_name fun W hW => ?_
  obtain ⟨B, hB⟩ : ∃ B, B = w.heap.size := ⟨_, rfl⟩
  have c0 : W.cell? ⟨B, 0, none⟩ = some (.int .i64 13) := by rw [hW.out, hB]; go_simp
  have c1 : W.cell? ⟨B, 1, none⟩ = some (.int .i64 nn) := by rw [hW.out, hB]; go_simp
  have c2 : W.cell? ⟨B, 2, none⟩ = some (.string nm) := by rw [hW.out, hB]; go_simp
  have c3 : W.cell? ⟨B, 3, none⟩ = some (.string fd) := by rw [hW.out, hB]; go_simp
  have c4 : W.cell? ⟨B, 4, none⟩ = some (.slice A 2 cap) := by rw [hW.out, hB]; go_simp
  have hbel : Below w.heap.size w W := by rw [hW.out]; (repeat' (first | (with_reducible exact Below.refl _ _) | (with_reducible assumption) | (with_reducible refine below_drewN ?_ _) | (with_reducible refine Below.drew ?_) | (with_reducible refine below_new ?_ (Nat.le_refl _) _) | (with_reducible refine Below.setCell ?_ ?_ _) | (with_reducible refine below_go ?_ (by assumption) (Nat.le_refl _)) | (simp; done) | (simp; omega) | omega))
  have lB : B < W.heap.size := by rw [hW.out, hB]; simp
  rw [← hB]
  have HB := Lib.hid hbel
  clear hW hbel hB
  obtain ⟨b0, off0, y0, As0, ks0, hA0, hbl0, hy0, hya0, hys0, hrg0⟩ := RowE.at (HSUB.out.below HB.out) (i := 0) (by rw [HNS.out]; decide)
  obtain ⟨s0, hs0⟩ : ∃ s, exprS y0 = s := ⟨_, rfl⟩
  have hsz0 := HSZ.out y0 (List.mem_of_getElem? hy0)
  rw [hs0] at hsz0
  have HT0 : Hid (∀ W', Below W.heap.size W W' → Calls Try.prog 69 #[.agg #[.int .i64 y0.op, .int .i64 y0.n, .string y0.name, .string y0.field, .slice As0 y0.sub.length ks0, .int .i64 y0.line]] W' fun e w' => e = .returned (.string s0) ∧ Below W'.heap.size W' w') := Lib.hid (fun W' hW' => by have := HTY.out y0 (List.mem_of_getElem? hy0) W' (HB.out.trans (hW'.mono HB.out.size)) As0 ks0 (hya0.keep hW'); rw [hs0] at this; exact this)
  obtain ⟨b1, off1, y1, As1, ks1, hA1, hbl1, hy1, hya1, hys1, hrg1⟩ := RowE.at (HSUB.out.below HB.out) (i := 1) (by rw [HNS.out]; decide)
  obtain ⟨s1, hs1⟩ : ∃ s, exprS y1 = s := ⟨_, rfl⟩
  have hsz1 := HSZ.out y1 (List.mem_of_getElem? hy1)
  rw [hs1] at hsz1
  have HT1 : Hid (∀ W', Below W.heap.size W W' → Calls Try.prog 69 #[.agg #[.int .i64 y1.op, .int .i64 y1.n, .string y1.name, .string y1.field, .slice As1 y1.sub.length ks1, .int .i64 y1.line]] W' fun e w' => e = .returned (.string s1) ∧ Below W'.heap.size W' w') := Lib.hid (fun W' hW' => by have := HTY.out y1 (List.mem_of_getElem? hy1) W' (HB.out.trans (hW'.mono HB.out.size)) As1 ks1 (hya1.keep hW'); rw [hs1] at this; exact this)
  rw [hA0] at c4
  have he : b0 = b1 ∧ off0 = off1 := by rw [hA0] at hA1; cases hA1; exact ⟨rfl, rfl⟩
  have he1 := he.1
  have he2 := he.2
  subst he1 he2
  have z00 : W.cell? ⟨b0, off0, none⟩ = some (.int .i64 y0.op) := by have := hrg0 0 _ rfl; simpa using this
  have z01 : W.cell? ⟨b0, off0 + 1, none⟩ = some (.int .i64 y0.n) := by have := hrg0 1 _ rfl; simpa using this
  have z02 : W.cell? ⟨b0, off0 + 2, none⟩ = some (.string y0.name) := by have := hrg0 2 _ rfl; simpa using this
  have z03 : W.cell? ⟨b0, off0 + 3, none⟩ = some (.string y0.field) := by have := hrg0 3 _ rfl; simpa using this
  have z04 : W.cell? ⟨b0, off0 + 4, none⟩ = some (.slice As0 y0.sub.length ks0) := by have := hrg0 4 _ rfl; simpa using this
  have z05 : W.cell? ⟨b0, off0 + 5, none⟩ = some (.int .i64 y0.line) := by have := hrg0 5 _ rfl; simpa using this
  have z10 : W.cell? ⟨b0, off0 + 6, none⟩ = some (.int .i64 y1.op) := by have := hrg1 0 _ rfl; simpa using this
  have z11 : W.cell? ⟨b0, off0 + 6 + 1, none⟩ = some (.int .i64 y1.n) := by have := hrg1 1 _ rfl; simpa using this
  have z12 : W.cell? ⟨b0, off0 + 6 + 2, none⟩ = some (.string y1.name) := by have := hrg1 2 _ rfl; simpa using this
  have z13 : W.cell? ⟨b0, off0 + 6 + 3, none⟩ = some (.string y1.field) := by have := hrg1 3 _ rfl; simpa using this
  have z14 : W.cell? ⟨b0, off0 + 6 + 4, none⟩ = some (.slice As1 y1.sub.length ks1) := by have := hrg1 4 _ rfl; simpa using this
  have z15 : W.cell? ⟨b0, off0 + 6 + 5, none⟩ = some (.int .i64 y1.line) := by have := hrg1 5 _ rfl; simpa using this
  have hrs : res = topS 13 nn nm fd s0 s1 := by rw [HRES.out, hy0, hy1, ← hs0, ← hs1]; rfl
  replace HRES := Lib.hid hrs
  clear hrs hA0 hA1 hya0 hys0 hrg0 hs0 hy0 hya1 hys1 hrg1 hs1 hy1
  have ix := idx14_5
  go_upto_region 16 with (fail)
  refine wp_region_ext (by kernel_rfl) (by kernel_rfl) ?_
  repeat (go_big_quiet_step (first | (go_at_call 69; (with_reducible refine ext_call (HT0.out _ (ext_below ⟨_, rfl⟩)))) | (go_at_call 69; (with_reducible refine ext_call (HT1.out _ (ext_below ⟨_, rfl⟩))))))
  refine wpQuiet_nil ?_
  intro w7 hb7
  replace hb7 := ext_below hb7
  have HB1 := Lib.hid (HB.out.trans (hb7.mono HB.out.size))
  clear c0 c1 c2 c3 c4 lB hb7 ix z00 z01 z02 z03 z04 z05 z10 z11 z12 z13 z14 z15
  go_wp2
  go_ret
  exact ⟨by rw [HRES.out]; rfl, by have hq := HB1.out; (repeat' (first | (with_reducible exact Below.refl _ _) | (with_reducible assumption) | (with_reducible refine below_drewN ?_ _) | (with_reducible refine Below.drew ?_) | (with_reducible refine below_new ?_ (Nat.le_refl _) _) | (with_reducible refine Below.setCell ?_ ?_ _) | (with_reducible refine below_go ?_ (by assumption) (Nat.le_refl _)) | (simp; done) | (simp; omega) | omega))⟩

set_option maxRecDepth 100000 in
set_option maxHeartbeats 4000000 in
theorem expr19_k14 (x : Ex) (w : World) (A : Option Addr) (cap : Nat) (hin : ExIn19 x w A cap) (hop : x.op = 14) (hns : x.sub.length = 2) : Calls Try.prog 69 #[.agg (ExC x A cap).toArray] w fun e w' => e = .returned (.string (exprS x)) ∧ Below w.heap.size w w' := by
  have HTY := Lib.hid hin.subs
  have HSUB := Lib.hid hin.sub
  have HOP := Lib.hid hop
  have HNS := Lib.hid hns
  have HSZ := Lib.hid hin.small
  have hnm := hin.nm
  have hfd := hin.fd
  have hn := hin.n
  have hres := exprS_top x
  obtain ⟨res, hr⟩ : ∃ r, exprS x = r := ⟨_, rfl⟩
  rw [hr] at hres ⊢
  obtain ⟨nm, hnm2⟩ : ∃ s, x.name = s := ⟨_, rfl⟩
  obtain ⟨fd, hfd2⟩ : ∃ s, x.field = s := ⟨_, rfl⟩
  obtain ⟨nn, hn2⟩ : ∃ s, x.n = s := ⟨_, rfl⟩
  rw [hop, hnm2, hfd2, hn2] at hres
  rw [hnm2] at hnm
  rw [hfd2] at hfd
  rw [hn2] at hn
  have HRES := Lib.hid hres
  have e0 : (ExC x A cap).toArray = #[.int .i64 14, .int .i64 nn, .string nm, .string fd, .slice A 2 cap, .int .i64 x.line] := by rw [← HOP.out, ← HNS.out, ← hnm2, ← hfd2, ← hn2]; rfl
  rw [e0]
  clear hin e0 hres hr hop hns hnm2 hfd2 hn2
  go_enter Try.func69, Try.ntmps69
  go_upto_region 1 with (fail)
  refine wp_name fun W hW => ?_
  obtain ⟨B, hB⟩ : ∃ B, B = w.heap.size := ⟨_, rfl⟩
  have c0 : W.cell? ⟨B, 0, none⟩ = some (.int .i64 14) := by rw [hW.out, hB]; go_simp
  have c1 : W.cell? ⟨B, 1, none⟩ = some (.int .i64 nn) := by rw [hW.out, hB]; go_simp
  have c2 : W.cell? ⟨B, 2, none⟩ = some (.string nm) := by rw [hW.out, hB]; go_simp
  have c3 : W.cell? ⟨B, 3, none⟩ = some (.string fd) := by rw [hW.out, hB]; go_simp
  have c4 : W.cell? ⟨B, 4, none⟩ = some (.slice A 2 cap) := by rw [hW.out, hB]; go_simp
  have hbel : Below w.heap.size w W := by rw [hW.out]; (repeat' (first | (with_reducible exact Below.refl _ _) | (with_reducible assumption) | (with_reducible refine below_drewN ?_ _) | (with_reducible refine Below.drew ?_) | (with_reducible refine below_new ?_ (Nat.le_refl _) _) | (with_reducible refine Below.setCell ?_ ?_ _) | (with_reducible refine below_go ?_ (by assumption) (Nat.le_refl _)) | (simp; done) | (simp; omega) | omega))
  have lB : B < W.heap.size := by rw [hW.out, hB]; simp
  rw [← hB]
  have HB := Lib.hid hbel
  clear hW hbel hB
  obtain ⟨b0, off0, y0, As0, ks0, hA0, hbl0, hy0, hya0, hys0, hrg0⟩ := RowE.at (HSUB.out.below HB.out) (i := 0) (by rw [HNS.out]; decide)
  obtain ⟨s0, hs0⟩ : ∃ s, exprS y0 = s := ⟨_, rfl⟩
  have hsz0 := HSZ.out y0 (List.mem_of_getElem? hy0)
  rw [hs0] at hsz0
  have HT0 : Hid (∀ W', Below W.heap.size W W' → Calls Try.prog 69 #[.agg #[.int .i64 y0.op, .int .i64 y0.n, .string y0.name, .string y0.field, .slice As0 y0.sub.length ks0, .int .i64 y0.line]] W' fun e w' => e = .returned (.string s0) ∧ Below W'.heap.size W' w') := Lib.hid (fun W' hW' => by have := HTY.out y0 (List.mem_of_getElem? hy0) W' (HB.out.trans (hW'.mono HB.out.size)) As0 ks0 (hya0.keep hW'); rw [hs0] at this; exact this)
  obtain ⟨b1, off1, y1, As1, ks1, hA1, hbl1, hy1, hya1, hys1, hrg1⟩ := RowE.at (HSUB.out.below HB.out) (i := 1) (by rw [HNS.out]; decide)
  obtain ⟨s1, hs1⟩ : ∃ s, exprS y1 = s := ⟨_, rfl⟩
  have hsz1 := HSZ.out y1 (List.mem_of_getElem? hy1)
  rw [hs1] at hsz1
  have HT1 : Hid (∀ W', Below W.heap.size W W' → Calls Try.prog 69 #[.agg #[.int .i64 y1.op, .int .i64 y1.n, .string y1.name, .string y1.field, .slice As1 y1.sub.length ks1, .int .i64 y1.line]] W' fun e w' => e = .returned (.string s1) ∧ Below W'.heap.size W' w') := Lib.hid (fun W' hW' => by have := HTY.out y1 (List.mem_of_getElem? hy1) W' (HB.out.trans (hW'.mono HB.out.size)) As1 ks1 (hya1.keep hW'); rw [hs1] at this; exact this)
  rw [hA0] at c4
  have he : b0 = b1 ∧ off0 = off1 := by rw [hA0] at hA1; cases hA1; exact ⟨rfl, rfl⟩
  have he1 := he.1
  have he2 := he.2
  subst he1 he2
  have z00 : W.cell? ⟨b0, off0, none⟩ = some (.int .i64 y0.op) := by have := hrg0 0 _ rfl; simpa using this
  have z01 : W.cell? ⟨b0, off0 + 1, none⟩ = some (.int .i64 y0.n) := by have := hrg0 1 _ rfl; simpa using this
  have z02 : W.cell? ⟨b0, off0 + 2, none⟩ = some (.string y0.name) := by have := hrg0 2 _ rfl; simpa using this
  have z03 : W.cell? ⟨b0, off0 + 3, none⟩ = some (.string y0.field) := by have := hrg0 3 _ rfl; simpa using this
  have z04 : W.cell? ⟨b0, off0 + 4, none⟩ = some (.slice As0 y0.sub.length ks0) := by have := hrg0 4 _ rfl; simpa using this
  have z05 : W.cell? ⟨b0, off0 + 5, none⟩ = some (.int .i64 y0.line) := by have := hrg0 5 _ rfl; simpa using this
  have z10 : W.cell? ⟨b0, off0 + 6, none⟩ = some (.int .i64 y1.op) := by have := hrg1 0 _ rfl; simpa using this
  have z11 : W.cell? ⟨b0, off0 + 6 + 1, none⟩ = some (.int .i64 y1.n) := by have := hrg1 1 _ rfl; simpa using this
  have z12 : W.cell? ⟨b0, off0 + 6 + 2, none⟩ = some (.string y1.name) := by have := hrg1 2 _ rfl; simpa using this
  have z13 : W.cell? ⟨b0, off0 + 6 + 3, none⟩ = some (.string y1.field) := by have := hrg1 3 _ rfl; simpa using this
  have z14 : W.cell? ⟨b0, off0 + 6 + 4, none⟩ = some (.slice As1 y1.sub.length ks1) := by have := hrg1 4 _ rfl; simpa using this
  have z15 : W.cell? ⟨b0, off0 + 6 + 5, none⟩ = some (.int .i64 y1.line) := by have := hrg1 5 _ rfl; simpa using this
  have hrs : res = topS 14 nn nm fd s0 s1 := by rw [HRES.out, hy0, hy1, ← hs0, ← hs1]; rfl
  replace HRES := Lib.hid hrs
  clear hrs hA0 hA1 hya0 hys0 hrg0 hs0 hy0 hya1 hys1 hrg1 hs1 hy1
  have ix := idx14_6
  go_upto_region 16 with (fail)
  refine wp_region_ext (by kernel_rfl) (by kernel_rfl) ?_
  repeat (go_big_quiet_step (first | (go_at_call 69; (with_reducible refine ext_call (HT0.out _ (ext_below ⟨_, rfl⟩)))) | (go_at_call 69; (with_reducible refine ext_call (HT1.out _ (ext_below ⟨_, rfl⟩))))))
  refine wpQuiet_nil ?_
  intro w7 hb7
  replace hb7 := ext_below hb7
  have HB1 := Lib.hid (HB.out.trans (hb7.mono HB.out.size))
  clear c0 c1 c2 c3 c4 lB hb7 ix z00 z01 z02 z03 z04 z05 z10 z11 z12 z13 z14 z15
  go_wp2
  go_ret
  exact ⟨by rw [HRES.out]; rfl, by have hq := HB1.out; (repeat' (first | (with_reducible exact Below.refl _ _) | (with_reducible assumption) | (with_reducible refine below_drewN ?_ _) | (with_reducible refine Below.drew ?_) | (with_reducible refine below_new ?_ (Nat.le_refl _) _) | (with_reducible refine Below.setCell ?_ ?_ _) | (with_reducible refine below_go ?_ (by assumption) (Nat.le_refl _)) | (simp; done) | (simp; omega) | omega))⟩

end Go.Proofs.Ytcamegfnhbbaeaa

namespace Go.Proofs.Ytcamegfnhbbaeaa
open Go.RowKit
set_option linter.unusedVariables false
set_option linter.unusedSimpArgs false
attribute [local go_sem] ite_max ite_min vite_max vite_min ext_cell ext_frozen

set_option maxRecDepth 100000 in
set_option maxHeartbeats 4000000 in
theorem expr19_k15 (x : Ex) (w : World) (A : Option Addr) (cap : Nat) (hin : ExIn19 x w A cap) (hop : x.op = 15) (hns : x.sub.length = 2) : Calls Try.prog 69 #[.agg (ExC x A cap).toArray] w fun e w' => e = .returned (.string (exprS x)) ∧ Below w.heap.size w w' := by
  have HTY := Lib.hid hin.subs
  have HSUB := Lib.hid hin.sub
  have HOP := Lib.hid hop
  have HNS := Lib.hid hns
  have HSZ := Lib.hid hin.small
  have hnm := hin.nm
  have hfd := hin.fd
  have hn := hin.n
  have hres := exprS_top x
  obtain ⟨res, hr⟩ : ∃ r, exprS x = r := ⟨_, rfl⟩
  rw [hr] at hres ⊢
  obtain ⟨nm, hnm2⟩ : ∃ s, x.name = s := ⟨_, rfl⟩
  obtain ⟨fd, hfd2⟩ : ∃ s, x.field = s := ⟨_, rfl⟩
  obtain ⟨nn, hn2⟩ : ∃ s, x.n = s := ⟨_, rfl⟩
  rw [hop, hnm2, hfd2, hn2] at hres
  rw [hnm2] at hnm
  rw [hfd2] at hfd
  rw [hn2] at hn
  have HRES := Lib.hid hres
  have e0 : (ExC x A cap).toArray = #[.int .i64 15, .int .i64 nn, .string nm, .string fd, .slice A 2 cap, .int .i64 x.line] := by rw [← HOP.out, ← HNS.out, ← hnm2, ← hfd2, ← hn2]; rfl
  rw [e0]
  clear hin e0 hres hr hop hns hnm2 hfd2 hn2
  go_enter Try.func69, Try.ntmps69
  go_upto_region 1 with (fail)
  refine wp_name fun W hW => ?_
  obtain ⟨B, hB⟩ : ∃ B, B = w.heap.size := ⟨_, rfl⟩
  have c0 : W.cell? ⟨B, 0, none⟩ = some (.int .i64 15) := by rw [hW.out, hB]; go_simp
  have c1 : W.cell? ⟨B, 1, none⟩ = some (.int .i64 nn) := by rw [hW.out, hB]; go_simp
  have c2 : W.cell? ⟨B, 2, none⟩ = some (.string nm) := by rw [hW.out, hB]; go_simp
  have c3 : W.cell? ⟨B, 3, none⟩ = some (.string fd) := by rw [hW.out, hB]; go_simp
  have c4 : W.cell? ⟨B, 4, none⟩ = some (.slice A 2 cap) := by rw [hW.out, hB]; go_simp
  have hbel : Below w.heap.size w W := by rw [hW.out]; (repeat' (first | (with_reducible exact Below.refl _ _) | (with_reducible assumption) | (with_reducible refine below_drewN ?_ _) | (with_reducible refine Below.drew ?_) | (with_reducible refine below_new ?_ (Nat.le_refl _) _) | (with_reducible refine Below.setCell ?_ ?_ _) | (with_reducible refine below_go ?_ (by assumption) (Nat.le_refl _)) | (simp; done) | (simp; omega) | omega))
  have lB : B < W.heap.size := by rw [hW.out, hB]; simp
  rw [← hB]
  have HB := Lib.hid hbel
  clear hW hbel hB
  obtain ⟨b0, off0, y0, As0, ks0, hA0, hbl0, hy0, hya0, hys0, hrg0⟩ := RowE.at (HSUB.out.below HB.out) (i := 0) (by rw [HNS.out]; decide)
  obtain ⟨s0, hs0⟩ : ∃ s, exprS y0 = s := ⟨_, rfl⟩
  have hsz0 := HSZ.out y0 (List.mem_of_getElem? hy0)
  rw [hs0] at hsz0
  have HT0 : Hid (∀ W', Below W.heap.size W W' → Calls Try.prog 69 #[.agg #[.int .i64 y0.op, .int .i64 y0.n, .string y0.name, .string y0.field, .slice As0 y0.sub.length ks0, .int .i64 y0.line]] W' fun e w' => e = .returned (.string s0) ∧ Below W'.heap.size W' w') := Lib.hid (fun W' hW' => by have := HTY.out y0 (List.mem_of_getElem? hy0) W' (HB.out.trans (hW'.mono HB.out.size)) As0 ks0 (hya0.keep hW'); rw [hs0] at this; exact this)
  obtain ⟨b1, off1, y1, As1, ks1, hA1, hbl1, hy1, hya1, hys1, hrg1⟩ := RowE.at (HSUB.out.below HB.out) (i := 1) (by rw [HNS.out]; decide)
  obtain ⟨s1, hs1⟩ : ∃ s, exprS y1 = s := ⟨_, rfl⟩
  have hsz1 := HSZ.out y1 (List.mem_of_getElem? hy1)
  rw [hs1] at hsz1
  have HT1 : Hid (∀ W', Below W.heap.size W W' → Calls Try.prog 69 #[.agg #[.int .i64 y1.op, .int .i64 y1.n, .string y1.name, .string y1.field, .slice As1 y1.sub.length ks1, .int .i64 y1.line]] W' fun e w' => e = .returned (.string s1) ∧ Below W'.heap.size W' w') := Lib.hid (fun W' hW' => by have := HTY.out y1 (List.mem_of_getElem? hy1) W' (HB.out.trans (hW'.mono HB.out.size)) As1 ks1 (hya1.keep hW'); rw [hs1] at this; exact this)
  rw [hA0] at c4
  have he : b0 = b1 ∧ off0 = off1 := by rw [hA0] at hA1; cases hA1; exact ⟨rfl, rfl⟩
  have he1 := he.1
  have he2 := he.2
  subst he1 he2
  have z00 : W.cell? ⟨b0, off0, none⟩ = some (.int .i64 y0.op) := by have := hrg0 0 _ rfl; simpa using this
  have z01 : W.cell? ⟨b0, off0 + 1, none⟩ = some (.int .i64 y0.n) := by have := hrg0 1 _ rfl; simpa using this
  have z02 : W.cell? ⟨b0, off0 + 2, none⟩ = some (.string y0.name) := by have := hrg0 2 _ rfl; simpa using this
  have z03 : W.cell? ⟨b0, off0 + 3, none⟩ = some (.string y0.field) := by have := hrg0 3 _ rfl; simpa using this
  have z04 : W.cell? ⟨b0, off0 + 4, none⟩ = some (.slice As0 y0.sub.length ks0) := by have := hrg0 4 _ rfl; simpa using this
  have z05 : W.cell? ⟨b0, off0 + 5, none⟩ = some (.int .i64 y0.line) := by have := hrg0 5 _ rfl; simpa using this
  have z10 : W.cell? ⟨b0, off0 + 6, none⟩ = some (.int .i64 y1.op) := by have := hrg1 0 _ rfl; simpa using this
  have z11 : W.cell? ⟨b0, off0 + 6 + 1, none⟩ = some (.int .i64 y1.n) := by have := hrg1 1 _ rfl; simpa using this
  have z12 : W.cell? ⟨b0, off0 + 6 + 2, none⟩ = some (.string y1.name) := by have := hrg1 2 _ rfl; simpa using this
  have z13 : W.cell? ⟨b0, off0 + 6 + 3, none⟩ = some (.string y1.field) := by have := hrg1 3 _ rfl; simpa using this
  have z14 : W.cell? ⟨b0, off0 + 6 + 4, none⟩ = some (.slice As1 y1.sub.length ks1) := by have := hrg1 4 _ rfl; simpa using this
  have z15 : W.cell? ⟨b0, off0 + 6 + 5, none⟩ = some (.int .i64 y1.line) := by have := hrg1 5 _ rfl; simpa using this
  have hrs : res = topS 15 nn nm fd s0 s1 := by rw [HRES.out, hy0, hy1, ← hs0, ← hs1]; rfl
  replace HRES := Lib.hid hrs
  clear hrs hA0 hA1 hya0 hys0 hrg0 hs0 hy0 hya1 hys1 hrg1 hs1 hy1
  have ix := idx14_7
  go_upto_region 16 with (fail)
  refine wp_region_ext (by kernel_rfl) (by kernel_rfl) ?_
  repeat (go_big_quiet_step (first | (go_at_call 69; (with_reducible refine ext_call (HT0.out _ (ext_below ⟨_, rfl⟩)))) | (go_at_call 69; (with_reducible refine ext_call (HT1.out _ (ext_below ⟨_, rfl⟩))))))
  refine wpQuiet_nil ?_
  intro w7 hb7
  replace hb7 := ext_below hb7
  have HB1 := Lib.hid (HB.out.trans (hb7.mono HB.out.size))
  clear c0 c1 c2 c3 c4 lB hb7 ix z00 z01 z02 z03 z04 z05 z10 z11 z12 z13 z14 z15
  go_wp2
  go_ret
  exact ⟨by rw [HRES.out]; rfl, by have hq := HB1.out; (repeat' (first | (with_reducible exact Below.refl _ _) | (with_reducible assumption) | (with_reducible refine below_drewN ?_ _) | (with_reducible refine Below.drew ?_) | (with_reducible refine below_new ?_ (Nat.le_refl _) _) | (with_reducible refine Below.setCell ?_ ?_ _) | (with_reducible refine below_go ?_ (by assumption) (Nat.le_refl _)) | (simp; done) | (simp; omega) | omega))⟩

set_option maxRecDepth 100000 in
set_option maxHeartbeats 4000000 in
theorem expr19_k16 (x : Ex) (w : World) (A : Option Addr) (cap : Nat) (hin : ExIn19 x w A cap) (hop : x.op = 16) (hns : x.sub.length = 2) : Calls Try.prog 69 #[.agg (ExC x A cap).toArray] w fun e w' => e = .returned (.string (exprS x)) ∧ Below w.heap.size w w' := by
  have HTY := Lib.hid hin.subs
  have HSUB := Lib.hid hin.sub
  have HOP := Lib.hid hop
  have HNS := Lib.hid hns
  have HSZ := Lib.hid hin.small
  have hnm := hin.nm
  have hfd := hin.fd
  have hn := hin.n
  have hres := exprS_top x
  obtain ⟨res, hr⟩ : ∃ r, exprS x = r := ⟨_, rfl⟩
  rw [hr] at hres ⊢
  obtain ⟨nm, hnm2⟩ : ∃ s, x.name = s := ⟨_, rfl⟩
  obtain ⟨fd, hfd2⟩ : ∃ s, x.field = s := ⟨_, rfl⟩
  obtain ⟨nn, hn2⟩ : ∃ s, x.n = s := ⟨_, rfl⟩
  rw [hop, hnm2, hfd2, hn2] at hres
  rw [hnm2] at hnm
  rw [hfd2] at hfd
  rw [hn2] at hn
  have HRES := Lib.hid hres
  have e0 : (ExC x A cap).toArray = #[.int .i64 16, .int .i64 nn, .string nm, .string fd, .slice A 2 cap, .int .i64 x.line] := by rw [← HOP.out, ← HNS.out, ← hnm2, ← hfd2, ← hn2]; rfl
  rw [e0]
  clear hin e0 hres hr hop hns hnm2 hfd2 hn2
  go_enter Try.func69, Try.ntmps69
  go_upto_region 1 with (fail)
  refine wp_name fun W hW => ?_
  obtain ⟨B, hB⟩ : ∃ B, B = w.heap.size := ⟨_, rfl⟩
  have c0 : W.cell? ⟨B, 0, none⟩ = some (.int .i64 16) := by rw [hW.out, hB]; go_simp
  have c1 : W.cell? ⟨B, 1, none⟩ = some (.int .i64 nn) := by rw [hW.out, hB]; go_simp
  have c2 : W.cell? ⟨B, 2, none⟩ = some (.string nm) := by rw [hW.out, hB]; go_simp
  have c3 : W.cell? ⟨B, 3, none⟩ = some (.string fd) := by rw [hW.out, hB]; go_simp
  have c4 : W.cell? ⟨B, 4, none⟩ = some (.slice A 2 cap) := by rw [hW.out, hB]; go_simp
  have hbel : Below w.heap.size w W := by rw [hW.out]; (repeat' (first | (with_reducible exact Below.refl _ _) | (with_reducible assumption) | (with_reducible refine below_drewN ?_ _) | (with_reducible refine Below.drew ?_) | (with_reducible refine below_new ?_ (Nat.le_refl _) _) | (with_reducible refine Below.setCell ?_ ?_ _) | (with_reducible refine below_go ?_ (by assumption) (Nat.le_refl _)) | (simp; done) | (simp; omega) | omega))
  have lB : B < W.heap.size := by rw [hW.out, hB]; simp
  rw [← hB]
  have HB := Lib.hid hbel
  clear hW hbel hB
  obtain ⟨b0, off0, y0, As0, ks0, hA0, hbl0, hy0, hya0, hys0, hrg0⟩ := RowE.at (HSUB.out.below HB.out) (i := 0) (by rw [HNS.out]; decide)
  obtain ⟨s0, hs0⟩ : ∃ s, exprS y0 = s := ⟨_, rfl⟩
  have hsz0 := HSZ.out y0 (List.mem_of_getElem? hy0)
  rw [hs0] at hsz0
  have HT0 : Hid (∀ W', Below W.heap.size W W' → Calls Try.prog 69 #[.agg #[.int .i64 y0.op, .int .i64 y0.n, .string y0.name, .string y0.field, .slice As0 y0.sub.length ks0, .int .i64 y0.line]] W' fun e w' => e = .returned (.string s0) ∧ Below W'.heap.size W' w') := Lib.hid (fun W' hW' => by have := HTY.out y0 (List.mem_of_getElem? hy0) W' (HB.out.trans (hW'.mono HB.out.size)) As0 ks0 (hya0.keep hW'); rw [hs0] at this; exact this)
  obtain ⟨b1, off1, y1, As1, ks1, hA1, hbl1, hy1, hya1, hys1, hrg1⟩ := RowE.at (HSUB.out.below HB.out) (i := 1) (by rw [HNS.out]; decide)
  obtain ⟨s1, hs1⟩ : ∃ s, exprS y1 = s := ⟨_, rfl⟩
  have hsz1 := HSZ.out y1 (List.mem_of_getElem? hy1)
  rw [hs1] at hsz1
  have HT1 : Hid (∀ W', Below W.heap.size W W' → Calls Try.prog 69 #[.agg #[.int .i64 y1.op, .int .i64 y1.n, .string y1.name, .string y1.field, .slice As1 y1.sub.length ks1, .int .i64 y1.line]] W' fun e w' => e = .returned (.string s1) ∧ Below W'.heap.size W' w') := Lib.hid (fun W' hW' => by have := HTY.out y1 (List.mem_of_getElem? hy1) W' (HB.out.trans (hW'.mono HB.out.size)) As1 ks1 (hya1.keep hW'); rw [hs1] at this; exact this)
  rw [hA0] at c4
  have he : b0 = b1 ∧ off0 = off1 := by rw [hA0] at hA1; cases hA1; exact ⟨rfl, rfl⟩
  have he1 := he.1
  have he2 := he.2
  subst he1 he2
  have z00 : W.cell? ⟨b0, off0, none⟩ = some (.int .i64 y0.op) := by have := hrg0 0 _ rfl; simpa using this
  have z01 : W.cell? ⟨b0, off0 + 1, none⟩ = some (.int .i64 y0.n) := by have := hrg0 1 _ rfl; simpa using this
  have z02 : W.cell? ⟨b0, off0 + 2, none⟩ = some (.string y0.name) := by have := hrg0 2 _ rfl; simpa using this
  have z03 : W.cell? ⟨b0, off0 + 3, none⟩ = some (.string y0.field) := by have := hrg0 3 _ rfl; simpa using this
  have z04 : W.cell? ⟨b0, off0 + 4, none⟩ = some (.slice As0 y0.sub.length ks0) := by have := hrg0 4 _ rfl; simpa using this
  have z05 : W.cell? ⟨b0, off0 + 5, none⟩ = some (.int .i64 y0.line) := by have := hrg0 5 _ rfl; simpa using this
  have z10 : W.cell? ⟨b0, off0 + 6, none⟩ = some (.int .i64 y1.op) := by have := hrg1 0 _ rfl; simpa using this
  have z11 : W.cell? ⟨b0, off0 + 6 + 1, none⟩ = some (.int .i64 y1.n) := by have := hrg1 1 _ rfl; simpa using this
  have z12 : W.cell? ⟨b0, off0 + 6 + 2, none⟩ = some (.string y1.name) := by have := hrg1 2 _ rfl; simpa using this
  have z13 : W.cell? ⟨b0, off0 + 6 + 3, none⟩ = some (.string y1.field) := by have := hrg1 3 _ rfl; simpa using this
  have z14 : W.cell? ⟨b0, off0 + 6 + 4, none⟩ = some (.slice As1 y1.sub.length ks1) := by have := hrg1 4 _ rfl; simpa using this
  have z15 : W.cell? ⟨b0, off0 + 6 + 5, none⟩ = some (.int .i64 y1.line) := by have := hrg1 5 _ rfl; simpa using this
  have hrs : res = topS 16 nn nm fd s0 s1 := by rw [HRES.out, hy0, hy1, ← hs0, ← hs1]; rfl
  replace HRES := Lib.hid hrs
  clear hrs hA0 hA1 hya0 hys0 hrg0 hs0 hy0 hya1 hys1 hrg1 hs1 hy1
  have ix := idx14_8
  go_upto_region 16 with (fail)
  refine wp_region_ext (by kernel_rfl) (by kernel_rfl) ?_
  repeat (go_big_quiet_step (first | (go_at_call 69; (with_reducible refine ext_call (HT0.out _ (ext_below ⟨_, rfl⟩)))) | (go_at_call 69; (with_reducible refine ext_call (HT1.out _ (ext_below ⟨_, rfl⟩))))))
  refine wpQuiet_nil ?_
  intro w7 hb7
  replace hb7 := ext_below hb7
  have HB1 := Lib.hid (HB.out.trans (hb7.mono HB.out.size))
  clear c0 c1 c2 c3 c4 lB hb7 ix z00 z01 z02 z03 z04 z05 z10 z11 z12 z13 z14 z15
  go_wp2
  go_ret
  exact ⟨by rw [HRES.out]; rfl, by have hq := HB1.out; (repeat' (first | (with_reducible exact Below.refl _ _) | (with_reducible assumption) | (with_reducible refine below_drewN ?_ _) | (with_reducible refine Below.drew ?_) | (with_reducible refine below_new ?_ (Nat.le_refl _) _) | (with_reducible refine Below.setCell ?_ ?_ _) | (with_reducible refine below_go ?_ (by assumption) (Nat.le_refl _)) | (simp; done) | (simp; omega) | omega))⟩

set_option maxRecDepth 100000 in
set_option maxHeartbeats 4000000 in
theorem expr19_k17 (x : Ex) (w : World) (A : Option Addr) (cap : Nat) (hin : ExIn19 x w A cap) (hop : x.op = 17) (hns : x.sub.length = 2) : Calls Try.prog 69 #[.agg (ExC x A cap).toArray] w fun e w' => e = .returned (.string (exprS x)) ∧ Below w.heap.size w w' := by
  have HTY := Lib.hid hin.subs
  have HSUB := Lib.hid hin.sub
  have HOP := Lib.hid hop
  have HNS := Lib.hid hns
  have HSZ := Lib.hid hin.small
  have hnm := hin.nm
  have hfd := hin.fd
  have hn := hin.n
  have hres := exprS_top x
  obtain ⟨res, hr⟩ : ∃ r, exprS x = r := ⟨_, rfl⟩
  rw [hr] at hres ⊢
  obtain ⟨nm, hnm2⟩ : ∃ s, x.name = s := ⟨_, rfl⟩
  obtain ⟨fd, hfd2⟩ : ∃ s, x.field = s := ⟨_, rfl⟩
  obtain ⟨nn, hn2⟩ : ∃ s, x.n = s := ⟨_, rfl⟩
  rw [hop, hnm2, hfd2, hn2] at hres
  rw [hnm2] at hnm
  rw [hfd2] at hfd
  rw [hn2] at hn
  have HRES := Lib.hid hres
  have e0 : (ExC x A cap).toArray = #[.int .i64 17, .int .i64 nn, .string nm, .string fd, .slice A 2 cap, .int .i64 x.line] := by rw [← HOP.out, ← HNS.out, ← hnm2, ← hfd2, ← hn2]; rfl
  rw [e0]
  clear hin e0 hres hr hop hns hnm2 hfd2 hn2
  go_enter Try.func69, Try.ntmps69
  go_upto_region 1 with (fail)
  refine wp_name fun W hW => ?_
  obtain ⟨B, hB⟩ : ∃ B, B = w.heap.size := ⟨_, rfl⟩
  have c0 : W.cell? ⟨B, 0, none⟩ = some (.int .i64 17) := by rw [hW.out, hB]; go_simp
  have c1 : W.cell? ⟨B, 1, none⟩ = some (.int .i64 nn) := by rw [hW.out, hB]; go_simp
  have c2 : W.cell? ⟨B, 2, none⟩ = some (.string nm) := by rw [hW.out, hB]; go_simp
  have c3 : W.cell? ⟨B, 3, none⟩ = some (.string fd) := by rw [hW.out, hB]; go_simp
  have c4 : W.cell? ⟨B, 4, none⟩ = some (.slice A 2 cap) := by rw [hW.out, hB]; go_simp
  have hbel : Below w.heap.size w W := by rw [hW.out]; (repeat' (first | (with_reducible exact Below.refl _ _) | (with_reducible assumption) | (with_reducible refine below_drewN ?_ _) | (with_reducible refine Below.drew ?_) | (with_reducible refine below_new ?_ (Nat.le_refl _) _) | (with_reducible refine Below.setCell ?_ ?_ _) | (with_reducible refine below_go ?_ (by assumption) (Nat.le_refl _)) | (simp; done) | (simp; omega) | omega))
  have lB : B < W.heap.size := by rw [hW.out, hB]; simp
  rw [← hB]
  have HB := Lib.hid hbel
  clear hW hbel hB
  obtain ⟨b0, off0, y0, As0, ks0, hA0, hbl0, hy0, hya0, hys0, hrg0⟩ := RowE.at (HSUB.out.below HB.out) (i := 0) (by rw [HNS.out]; decide)
  obtain ⟨s0, hs0⟩ : ∃ s, exprS y0 = s := ⟨_, rfl⟩
  have hsz0 := HSZ.out y0 (List.mem_of_getElem? hy0)
  rw [hs0] at hsz0
  have HT0 : Hid (∀ W', Below W.heap.size W W' → Calls Try.prog 69 #[.agg #[.int .i64 y0.op, .int .i64 y0.n, .string y0.name, .string y0.field, .slice As0 y0.sub.length ks0, .int .i64 y0.line]] W' fun e w' => e = .returned (.string s0) ∧ Below W'.heap.size W' w') := Lib.hid (fun W' hW' => by have := HTY.out y0 (List.mem_of_getElem? hy0) W' (HB.out.trans (hW'.mono HB.out.size)) As0 ks0 (hya0.keep hW'); rw [hs0] at this; exact this)
  obtain ⟨b1, off1, y1, As1, ks1, hA1, hbl1, hy1, hya1, hys1, hrg1⟩ := RowE.at (HSUB.out.below HB.out) (i := 1) (by rw [HNS.out]; decide)
  obtain ⟨s1, hs1⟩ : ∃ s, exprS y1 = s := ⟨_, rfl⟩
  have hsz1 := HSZ.out y1 (List.mem_of_getElem? hy1)
  rw [hs1] at hsz1
  have HT1 : Hid (∀ W', Below W.heap.size W W' → Calls Try.prog 69 #[.agg #[.int .i64 y1.op, .int .i64 y1.n, .string y1.name, .string y1.field, .slice As1 y1.sub.length ks1, .int .i64 y1.line]] W' fun e w' => e = .returned (.string s1) ∧ Below W'.heap.size W' w') := Lib.hid (fun W' hW' => by have := HTY.out y1 (List.mem_of_getElem? hy1) W' (HB.out.trans (hW'.mono HB.out.size)) As1 ks1 (hya1.keep hW'); rw [hs1] at this; exact this)
  rw [hA0] at c4
  have he : b0 = b1 ∧ off0 = off1 := by rw [hA0] at hA1; cases hA1; exact ⟨rfl, rfl⟩
  have he1 := he.1
  have he2 := he.2
  subst he1 he2
  have z00 : W.cell? ⟨b0, off0, none⟩ = some (.int .i64 y0.op) := by have := hrg0 0 _ rfl; simpa using this
  have z01 : W.cell? ⟨b0, off0 + 1, none⟩ = some (.int .i64 y0.n) := by have := hrg0 1 _ rfl; simpa using this
  have z02 : W.cell? ⟨b0, off0 + 2, none⟩ = some (.string y0.name) := by have := hrg0 2 _ rfl; simpa using this
  have z03 : W.cell? ⟨b0, off0 + 3, none⟩ = some (.string y0.field) := by have := hrg0 3 _ rfl; simpa using this
  have z04 : W.cell? ⟨b0, off0 + 4, none⟩ = some (.slice As0 y0.sub.length ks0) := by have := hrg0 4 _ rfl; simpa using this
  have z05 : W.cell? ⟨b0, off0 + 5, none⟩ = some (.int .i64 y0.line) := by have := hrg0 5 _ rfl; simpa using this
  have z10 : W.cell? ⟨b0, off0 + 6, none⟩ = some (.int .i64 y1.op) := by have := hrg1 0 _ rfl; simpa using this
  have z11 : W.cell? ⟨b0, off0 + 6 + 1, none⟩ = some (.int .i64 y1.n) := by have := hrg1 1 _ rfl; simpa using this
  have z12 : W.cell? ⟨b0, off0 + 6 + 2, none⟩ = some (.string y1.name) := by have := hrg1 2 _ rfl; simpa using this
  have z13 : W.cell? ⟨b0, off0 + 6 + 3, none⟩ = some (.string y1.field) := by have := hrg1 3 _ rfl; simpa using this
  have z14 : W.cell? ⟨b0, off0 + 6 + 4, none⟩ = some (.slice As1 y1.sub.length ks1) := by have := hrg1 4 _ rfl; simpa using this
  have z15 : W.cell? ⟨b0, off0 + 6 + 5, none⟩ = some (.int .i64 y1.line) := by have := hrg1 5 _ rfl; simpa using this
  have hrs : res = topS 17 nn nm fd s0 s1 := by rw [HRES.out, hy0, hy1, ← hs0, ← hs1]; rfl
  replace HRES := Lib.hid hrs
  clear hrs hA0 hA1 hya0 hys0 hrg0 hs0 hy0 hya1 hys1 hrg1 hs1 hy1
  have ix := idx14_9
  go_upto_region 16 with (fail)
  refine wp_region_ext (by kernel_rfl) (by kernel_rfl) ?_
  repeat (go_big_quiet_step (first | (go_at_call 69; (with_reducible refine ext_call (HT0.out _ (ext_below ⟨_, rfl⟩)))) | (go_at_call 69; (with_reducible refine ext_call (HT1.out _ (ext_below ⟨_, rfl⟩))))))
  refine wpQuiet_nil ?_
  intro w7 hb7
  replace hb7 := ext_below hb7
  have HB1 := Lib.hid (HB.out.trans (hb7.mono HB.out.size))
  clear c0 c1 c2 c3 c4 lB hb7 ix z00 z01 z02 z03 z04 z05 z10 z11 z12 z13 z14 z15
  go_wp2
  go_ret
  exact ⟨by rw [HRES.out]; rfl, by have hq := HB1.out; (repeat' (first | (with_reducible exact Below.refl _ _) | (with_reducible assumption) | (with_reducible refine below_drewN ?_ _) | (with_reducible refine Below.drew ?_) | (with_reducible refine below_new ?_ (Nat.le_refl _) _) | (with_reducible refine Below.setCell ?_ ?_ _) | (with_reducible refine below_go ?_ (by assumption) (Nat.le_refl _)) | (simp; done) | (simp; omega) | omega))⟩

set_option maxRecDepth 100000 in
set_option maxHeartbeats 4000000 in
theorem expr19_k18 (x : Ex) (w : World) (A : Option Addr) (cap : Nat) (hin : ExIn19 x w A cap) (hop : x.op = 18) (hns : x.sub.length = 2) : Calls Try.prog 69 #[.agg (ExC x A cap).toArray] w fun e w' => e = .returned (.string (exprS x)) ∧ Below w.heap.size w w' := by
  have HTY := Lib.hid hin.subs
  have HSUB := Lib.hid hin.sub
  have HOP := Lib.hid hop
  have HNS := Lib.hid hns
  have HSZ := Lib.hid hin.small
  have hnm := hin.nm
  have hfd := hin.fd
  have hn := hin.n
  have hres := exprS_top x
  obtain ⟨res, hr⟩ : ∃ r, exprS x = r := ⟨_, rfl⟩
  rw [hr] at hres ⊢
  obtain ⟨nm, hnm2⟩ : ∃ s, x.name = s := ⟨_, rfl⟩
  obtain ⟨fd, hfd2⟩ : ∃ s, x.field = s := ⟨_, rfl⟩
  obtain ⟨nn, hn2⟩ : ∃ s, x.n = s := ⟨_, rfl⟩
  rw [hop, hnm2, hfd2, hn2] at hres
  rw [hnm2] at hnm
  rw [hfd2] at hfd
  rw [hn2] at hn
  have HRES := Lib.hid hres
  have e0 : (ExC x A cap).toArray = #[.int .i64 18, .int .i64 nn, .string nm, .string fd, .slice A 2 cap, .int .i64 x.line] := by rw [← HOP.out, ← HNS.out, ← hnm2, ← hfd2, ← hn2]; rfl
  rw [e0]
  clear hin e0 hres hr hop hns hnm2 hfd2 hn2
  go_enter Try.func69, Try.ntmps69
  go_upto_region 1 with (fail)
  refine wp_name fun W hW => ?_
  obtain ⟨B, hB⟩ : ∃ B, B = w.heap.size := ⟨_, rfl⟩
  have c0 : W.cell? ⟨B, 0, none⟩ = some (.int .i64 18) := by rw [hW.out, hB]; go_simp
  have c1 : W.cell? ⟨B, 1, none⟩ = some (.int .i64 nn) := by rw [hW.out, hB]; go_simp
  have c2 : W.cell? ⟨B, 2, none⟩ = some (.string nm) := by rw [hW.out, hB]; go_simp
  have c3 : W.cell? ⟨B, 3, none⟩ = some (.string fd) := by rw [hW.out, hB]; go_simp
  have c4 : W.cell? ⟨B, 4, none⟩ = some (.slice A 2 cap) := by rw [hW.out, hB]; go_simp
  have hbel : Below w.heap.size w W := by rw [hW.out]; (repeat' (first | (with_reducible exact Below.refl _ _) | (with_reducible assumption) | (with_reducible refine below_drewN ?_ _) | (with_reducible refine Below.drew ?_) | (with_reducible refine below_new ?_ (Nat.le_refl _) _) | (with_reducible refine Below.setCell ?_ ?_ _) | (with_reducible refine below_go ?_ (by assumption) (Nat.le_refl _)) | (simp; done) | (simp; omega) | omega))
  have lB : B < W.heap.size := by rw [hW.out, hB]; simp
  rw [← hB]
  have HB := Lib.hid hbel
  clear hW hbel hB
  obtain ⟨b0, off0, y0, As0, ks0, hA0, hbl0, hy0, hya0, hys0, hrg0⟩ := RowE.at (HSUB.out.below HB.out) (i := 0) (by rw [HNS.out]; decide)
  obtain ⟨s0, hs0⟩ : ∃ s, exprS y0 = s := ⟨_, rfl⟩
  have hsz0 := HSZ.out y0 (List.mem_of_getElem? hy0)
  rw [hs0] at hsz0
  have HT0 : Hid (∀ W', Below W.heap.size W W' → Calls Try.prog 69 #[.agg #[.int .i64 y0.op, .int .i64 y0.n, .string y0.name, .string y0.field, .slice As0 y0.sub.length ks0, .int .i64 y0.line]] W' fun e w' => e = .returned (.string s0) ∧ Below W'.heap.size W' w') := Lib.hid (fun W' hW' => by have := HTY.out y0 (List.mem_of_getElem? hy0) W' (HB.out.trans (hW'.mono HB.out.size)) As0 ks0 (hya0.keep hW'); rw [hs0] at this; exact this)
  obtain ⟨b1, off1, y1, As1, ks1, hA1, hbl1, hy1, hya1, hys1, hrg1⟩ := RowE.at (HSUB.out.below HB.out) (i := 1) (by rw [HNS.out]; decide)
  obtain ⟨s1, hs1⟩ : ∃ s, exprS y1 = s := ⟨_, rfl⟩
  have hsz1 := HSZ.out y1 (List.mem_of_getElem? hy1)
  rw [hs1] at hsz1
  have HT1 : Hid (∀ W', Below W.heap.size W W' → Calls Try.prog 69 #[.agg #[.int .i64 y1.op, .int .i64 y1.n, .string y1.name, .string y1.field, .slice As1 y1.sub.length ks1, .int .i64 y1.line]] W' fun e w' => e = .returned (.string s1) ∧ Below W'.heap.size W' w') := Lib.hid (fun W' hW' => by have := HTY.out y1 (List.mem_of_getElem? hy1) W' (HB.out.trans (hW'.mono HB.out.size)) As1 ks1 (hya1.keep hW'); rw [hs1] at this; exact this)
  rw [hA0] at c4
  have he : b0 = b1 ∧ off0 = off1 := by rw [hA0] at hA1; cases hA1; exact ⟨rfl, rfl⟩
  have he1 := he.1
  have he2 := he.2
  subst he1 he2
  have z00 : W.cell? ⟨b0, off0, none⟩ = some (.int .i64 y0.op) := by have := hrg0 0 _ rfl; simpa using this
  have z01 : W.cell? ⟨b0, off0 + 1, none⟩ = some (.int .i64 y0.n) := by have := hrg0 1 _ rfl; simpa using this
  have z02 : W.cell? ⟨b0, off0 + 2, none⟩ = some (.string y0.name) := by have := hrg0 2 _ rfl; simpa using this
  have z03 : W.cell? ⟨b0, off0 + 3, none⟩ = some (.string y0.field) := by have := hrg0 3 _ rfl; simpa using this
  have z04 : W.cell? ⟨b0, off0 + 4, none⟩ = some (.slice As0 y0.sub.length ks0) := by have := hrg0 4 _ rfl; simpa using this
  have z05 : W.cell? ⟨b0, off0 + 5, none⟩ = some (.int .i64 y0.line) := by have := hrg0 5 _ rfl; simpa using this
  have z10 : W.cell? ⟨b0, off0 + 6, none⟩ = some (.int .i64 y1.op) := by have := hrg1 0 _ rfl; simpa using this
  have z11 : W.cell? ⟨b0, off0 + 6 + 1, none⟩ = some (.int .i64 y1.n) := by have := hrg1 1 _ rfl; simpa using this
  have z12 : W.cell? ⟨b0, off0 + 6 + 2, none⟩ = some (.string y1.name) := by have := hrg1 2 _ rfl; simpa using this
  have z13 : W.cell? ⟨b0, off0 + 6 + 3, none⟩ = some (.string y1.field) := by have := hrg1 3 _ rfl; simpa using this
  have z14 : W.cell? ⟨b0, off0 + 6 + 4, none⟩ = some (.slice As1 y1.sub.length ks1) := by have := hrg1 4 _ rfl; simpa using this
  have z15 : W.cell? ⟨b0, off0 + 6 + 5, none⟩ = some (.int .i64 y1.line) := by have := hrg1 5 _ rfl; simpa using this
  have hrs : res = topS 18 nn nm fd s0 s1 := by rw [HRES.out, hy0, hy1, ← hs0, ← hs1]; rfl
  replace HRES := Lib.hid hrs
  clear hrs hA0 hA1 hya0 hys0 hrg0 hs0 hy0 hya1 hys1 hrg1 hs1 hy1
  have ix := idx14_10
  go_upto_region 16 with (fail)
  refine wp_region_ext (by kernel_rfl) (by kernel_rfl) ?_
  repeat (go_big_quiet_step (first | (go_at_call 69; (with_reducible refine ext_call (HT0.out _ (ext_below ⟨_, rfl⟩)))) | (go_at_call 69; (with_reducible refine ext_call (HT1.out _ (ext_below ⟨_, rfl⟩))))))
  refine wpQuiet_nil ?_
  intro w7 hb7
  replace hb7 := ext_below hb7
  have HB1 := Lib.hid (HB.out.trans (hb7.mono HB.out.size))
  clear c0 c1 c2 c3 c4 lB hb7 ix z00 z01 z02 z03 z04 z05 z10 z11 z12 z13 z14 z15
  go_wp2
  go_ret
  exact ⟨by rw [HRES.out]; rfl, by have hq := HB1.out; (repeat' (first | (with_reducible exact Below.refl _ _) | (with_reducible assumption) | (with_reducible refine below_drewN ?_ _) | (with_reducible refine Below.drew ?_) | (with_reducible refine below_new ?_ (Nat.le_refl _) _) | (with_reducible refine Below.setCell ?_ ?_ _) | (with_reducible refine below_go ?_ (by assumption) (Nat.le_refl _)) | (simp; done) | (simp; omega) | omega))⟩

set_option maxRecDepth 100000 in
set_option maxHeartbeats 4000000 in
theorem expr19_k19 (x : Ex) (w : World) (A : Option Addr) (cap : Nat) (hin : ExIn19 x w A cap) (hop : x.op = 19) (hns : x.sub.length = 2) : Calls Try.prog 69 #[.agg (ExC x A cap).toArray] w fun e w' => e = .returned (.string (exprS x)) ∧ Below w.heap.size w w' := by
  have HTY := Lib.hid hin.subs
  have HSUB := Lib.hid hin.sub
  have HOP := Lib.hid hop
  have HNS := Lib.hid hns
  have HSZ := Lib.hid hin.small
  have hnm := hin.nm
  have hfd := hin.fd
  have hn := hin.n
  have hres := exprS_top x
  obtain ⟨res, hr⟩ : ∃ r, exprS x = r := ⟨_, rfl⟩
  rw [hr] at hres ⊢
  obtain ⟨nm, hnm2⟩ : ∃ s, x.name = s := ⟨_, rfl⟩
  obtain ⟨fd, hfd2⟩ : ∃ s, x.field = s := ⟨_, rfl⟩
  obtain ⟨nn, hn2⟩ : ∃ s, x.n = s := ⟨_, rfl⟩
  rw [hop, hnm2, hfd2, hn2] at hres
  rw [hnm2] at hnm
  rw [hfd2] at hfd
  rw [hn2] at hn
  have HRES := Lib.hid hres
  have e0 : (ExC x A cap).toArray = #[.int .i64 19, .int .i64 nn, .string nm, .string fd, .slice A 2 cap, .int .i64 x.line] := by rw [← HOP.out, ← HNS.out, ← hnm2, ← hfd2, ← hn2]; rfl
  rw [e0]
  clear hin e0 hres hr hop hns hnm2 hfd2 hn2
  go_enter Try.func69, Try.ntmps69
  go_upto_region 1 with (fail)
  refine wp_name fun W hW => ?_
  obtain ⟨B, hB⟩ : ∃ B, B = w.heap.size := ⟨_, rfl⟩
  have c0 : W.cell? ⟨B, 0, none⟩ = some (.int .i64 19) := by rw [hW.out, hB]; go_simp
  have c1 : W.cell? ⟨B, 1, none⟩ = some (.int .i64 nn) := by rw [hW.out, hB]; go_simp
  have c2 : W.cell? ⟨B, 2, none⟩ = some (.string nm) := by rw [hW.out, hB]; go_simp
  have c3 : W.cell? ⟨B, 3, none⟩ = some (.string fd) := by rw [hW.out, hB]; go_simp
  have c4 : W.cell? ⟨B, 4, none⟩ = some (.slice A 2 cap) := by rw [hW.out, hB]; go_simp
  have hbel : Below w.heap.size w W := by rw [hW.out]; (repeat' (first | (with_reducible exact Below.refl _ _) | (with_reducible assumption) | (with_reducible refine below_drewN ?_ _) | (with_reducible refine Below.drew ?_) | (with_reducible refine below_new ?_ (Nat.le_refl _) _) | (with_reducible refine Below.setCell ?_ ?_ _) | (with_reducible refine below_go ?_ (by assumption) (Nat.le_refl _)) | (simp; done) | (simp; omega) | omega))
  have lB : B < W.heap.size := by rw [hW.out, hB]; simp
  rw [← hB]
  have HB := Lib.hid hbel
  clear hW hbel hB
  obtain ⟨b0, off0, y0, As0, ks0, hA0, hbl0, hy0, hya0, hys0, hrg0⟩ := RowE.at (HSUB.out.below HB.out) (i := 0) (by rw [HNS.out]; decide)
  obtain ⟨s0, hs0⟩ : ∃ s, exprS y0 = s := ⟨_, rfl⟩
  have hsz0 := HSZ.out y0 (List.mem_of_getElem? hy0)
  rw [hs0] at hsz0
  have HT0 : Hid (∀ W', Below W.heap.size W W' → Calls Try.prog 69 #[.agg #[.int .i64 y0.op, .int .i64 y0.n, .string y0.name, .string y0.field, .slice As0 y0.sub.length ks0, .int .i64 y0.line]] W' fun e w' => e = .returned (.string s0) ∧ Below W'.heap.size W' w') := Lib.hid (fun W' hW' => by have := HTY.out y0 (List.mem_of_getElem? hy0) W' (HB.out.trans (hW'.mono HB.out.size)) As0 ks0 (hya0.keep hW'); rw [hs0] at this; exact this)
  obtain ⟨b1, off1, y1, As1, ks1, hA1, hbl1, hy1, hya1, hys1, hrg1⟩ := RowE.at (HSUB.out.below HB.out) (i := 1) (by rw [HNS.out]; decide)
  obtain ⟨s1, hs1⟩ : ∃ s, exprS y1 = s := ⟨_, rfl⟩
  have hsz1 := HSZ.out y1 (List.mem_of_getElem? hy1)
  rw [hs1] at hsz1
  have HT1 : Hid (∀ W', Below W.heap.size W W' → Calls Try.prog 69 #[.agg #[.int .i64 y1.op, .int .i64 y1.n, .string y1.name, .string y1.field, .slice As1 y1.sub.length ks1, .int .i64 y1.line]] W' fun e w' => e = .returned (.string s1) ∧ Below W'.heap.size W' w') := Lib.hid (fun W' hW' => by have := HTY.out y1 (List.mem_of_getElem? hy1) W' (HB.out.trans (hW'.mono HB.out.size)) As1 ks1 (hya1.keep hW'); rw [hs1] at this; exact this)
  rw [hA0] at c4
  have he : b0 = b1 ∧ off0 = off1 := by rw [hA0] at hA1; cases hA1; exact ⟨rfl, rfl⟩
  have he1 := he.1
  have he2 := he.2
  subst he1 he2
  have z00 : W.cell? ⟨b0, off0, none⟩ = some (.int .i64 y0.op) := by have := hrg0 0 _ rfl; simpa using this
  have z01 : W.cell? ⟨b0, off0 + 1, none⟩ = some (.int .i64 y0.n) := by have := hrg0 1 _ rfl; simpa using this
  have z02 : W.cell? ⟨b0, off0 + 2, none⟩ = some (.string y0.name) := by have := hrg0 2 _ rfl; simpa using this
  have z03 : W.cell? ⟨b0, off0 + 3, none⟩ = some (.string y0.field) := by have := hrg0 3 _ rfl; simpa using this
  have z04 : W.cell? ⟨b0, off0 + 4, none⟩ = some (.slice As0 y0.sub.length ks0) := by have := hrg0 4 _ rfl; simpa using this
  have z05 : W.cell? ⟨b0, off0 + 5, none⟩ = some (.int .i64 y0.line) := by have := hrg0 5 _ rfl; simpa using this
  have z10 : W.cell? ⟨b0, off0 + 6, none⟩ = some (.int .i64 y1.op) := by have := hrg1 0 _ rfl; simpa using this
  have z11 : W.cell? ⟨b0, off0 + 6 + 1, none⟩ = some (.int .i64 y1.n) := by have := hrg1 1 _ rfl; simpa using this
  have z12 : W.cell? ⟨b0, off0 + 6 + 2, none⟩ = some (.string y1.name) := by have := hrg1 2 _ rfl; simpa using this
  have z13 : W.cell? ⟨b0, off0 + 6 + 3, none⟩ = some (.string y1.field) := by have := hrg1 3 _ rfl; simpa using this
  have z14 : W.cell? ⟨b0, off0 + 6 + 4, none⟩ = some (.slice As1 y1.sub.length ks1) := by have := hrg1 4 _ rfl; simpa using this
  have z15 : W.cell? ⟨b0, off0 + 6 + 5, none⟩ = some (.int .i64 y1.line) := by have := hrg1 5 _ rfl; simpa using this
  have hrs : res = topS 19 nn nm fd s0 s1 := by rw [HRES.out, hy0, hy1, ← hs0, ← hs1]; rfl
  replace HRES := Lib.hid hrs
  clear hrs hA0 hA1 hya0 hys0 hrg0 hs0 hy0 hya1 hys1 hrg1 hs1 hy1
  have ix := idx14_11
  go_upto_region 16 with (fail)
  refine wp_region_ext (by kernel_rfl) (by kernel_rfl) ?_
  repeat (go_big_quiet_step (first | (go_at_call 69; (with_reducible refine ext_call (HT0.out _ (ext_below ⟨_, rfl⟩)))) | (go_at_call 69; (with_reducible refine ext_call (HT1.out _ (ext_below ⟨_, rfl⟩))))))
  refine wpQuiet_nil ?_
  intro w7 hb7
  replace hb7 := ext_below hb7
  have HB1 := Lib.hid (HB.out.trans (hb7.mono HB.out.size))
  clear c0 c1 c2 c3 c4 lB hb7 ix z00 z01 z02 z03 z04 z05 z10 z11 z12 z13 z14 z15
  go_wp2
  go_ret
  exact ⟨by rw [HRES.out]; rfl, by have hq := HB1.out; (repeat' (first | (with_reducible exact Below.refl _ _) | (with_reducible assumption) | (with_reducible refine below_drewN ?_ _) | (with_reducible refine Below.drew ?_) | (with_reducible refine below_new ?_ (Nat.le_refl _) _) | (with_reducible refine Below.setCell ?_ ?_ _) | (with_reducible refine below_go ?_ (by assumption) (Nat.le_refl _)) | (simp; done) | (simp; omega) | omega))⟩

set_option maxRecDepth 100000 in
set_option maxHeartbeats 4000000 in
theorem expr19_k20 (x : Ex) (w : World) (A : Option Addr) (cap : Nat) (hin : ExIn19 x w A cap) (hop : x.op = 20) (hns : x.sub.length = 2) : Calls Try.prog 69 #[.agg (ExC x A cap).toArray] w fun e w' => e = .returned (.string (exprS x)) ∧ Below w.heap.size w w' := by
  have HTY := Lib.hid hin.subs
  have HSUB := Lib.hid hin.sub
  have HOP := Lib.hid hop
  have HNS := Lib.hid hns
  have HSZ := Lib.hid hin.small
  have hnm := hin.nm
  have hfd := hin.fd
  have hn := hin.n
  have hres := exprS_top x
  obtain ⟨res, hr⟩ : ∃ r, exprS x = r := ⟨_, rfl⟩
  rw [hr] at hres ⊢
  obtain ⟨nm, hnm2⟩ : ∃ s, x.name = s := ⟨_, rfl⟩
  obtain ⟨fd, hfd2⟩ : ∃ s, x.field = s := ⟨_, rfl⟩
  obtain ⟨nn, hn2⟩ : ∃ s, x.n = s := ⟨_, rfl⟩
  rw [hop, hnm2, hfd2, hn2] at hres
  rw [hnm2] at hnm
  rw [hfd2] at hfd
  rw [hn2] at hn
  have HRES := Lib.hid hres
  have e0 : (ExC x A cap).toArray = #[.int .i64 20, .int .i64 nn, .string nm, .string fd, .slice A 2 cap, .int .i64 x.line] := by rw [← HOP.out, ← HNS.out, ← hnm2, ← hfd2, ← hn2]; rfl
  rw [e0]
  clear hin e0 hres hr hop hns hnm2 hfd2 hn2
  go_enter Try.func69, Try.ntmps69
  go_upto_region 1 with (fail)
  refine wp_name fun W hW => ?_
  obtain ⟨B, hB⟩ : ∃ B, B = w.heap.size := ⟨_, rfl⟩
  have c0 : W.cell? ⟨B, 0, none⟩ = some (.int .i64 20) := by rw [hW.out, hB]; go_simp
  have c1 : W.cell? ⟨B, 1, none⟩ = some (.int .i64 nn) := by rw [hW.out, hB]; go_simp
  have c2 : W.cell? ⟨B, 2, none⟩ = some (.string nm) := by rw [hW.out, hB]; go_simp
  have c3 : W.cell? ⟨B, 3, none⟩ = some (.string fd) := by rw [hW.out, hB]; go_simp
  have c4 : W.cell? ⟨B, 4, none⟩ = some (.slice A 2 cap) := by rw [hW.out, hB]; go_simp
  have hbel : Below w.heap.size w W := by rw [hW.out]; (repeat' (first | (with_reducible exact Below.refl _ _) | (with_reducible assumption) | (with_reducible refine below_drewN ?_ _) | (with_reducible refine Below.drew ?_) | (with_reducible refine below_new ?_ (Nat.le_refl _) _) | (with_reducible refine Below.setCell ?_ ?_ _) | (with_reducible refine below_go ?_ (by assumption) (Nat.le_refl _)) | (simp; done) | (simp; omega) | omega))
  have lB : B < W.heap.size := by rw [hW.out, hB]; simp
  rw [← hB]
  have HB := Lib.hid hbel
  clear hW hbel hB
  obtain ⟨b0, off0, y0, As0, ks0, hA0, hbl0, hy0, hya0, hys0, hrg0⟩ := RowE.at (HSUB.out.below HB.out) (i := 0) (by rw [HNS.out]; decide)
  obtain ⟨s0, hs0⟩ : ∃ s, exprS y0 = s := ⟨_, rfl⟩
  have hsz0 := HSZ.out y0 (List.mem_of_getElem? hy0)
  rw [hs0] at hsz0
  have HT0 : Hid (∀ W', Below W.heap.size W W' → Calls Try.prog 69 #[.agg #[.int .i64 y0.op, .int .i64 y0.n, .string y0.name, .string y0.field, .slice As0 y0.sub.length ks0, .int .i64 y0.line]] W' fun e w' => e = .returned (.string s0) ∧ Below W'.heap.size W' w') := Lib.hid (fun W' hW' => by have := HTY.out y0 (List.mem_of_getElem? hy0) W' (HB.out.trans (hW'.mono HB.out.size)) As0 ks0 (hya0.keep hW'); rw [hs0] at this; exact this)
  obtain ⟨b1, off1, y1, As1, ks1, hA1, hbl1, hy1, hya1, hys1, hrg1⟩ := RowE.at (HSUB.out.below HB.out) (i := 1) (by rw [HNS.out]; decide)
  obtain ⟨s1, hs1⟩ : ∃ s, exprS y1 = s := ⟨_, rfl⟩
  have hsz1 := HSZ.out y1 (List.mem_of_getElem? hy1)
  rw [hs1] at hsz1
  have HT1 : Hid (∀ W', Below W.heap.size W W' → Calls Try.prog 69 #[.agg #[.int .i64 y1.op, .int .i64 y1.n, .string y1.name, .string y1.field, .slice As1 y1.sub.length ks1, .int .i64 y1.line]] W' fun e w' => e = .returned (.string s1) ∧ Below W'.heap.size W' w') := Lib.hid (fun W' hW' => by have := HTY.out y1 (List.mem_of_getElem? hy1) W' (HB.out.trans (hW'.mono HB.out.size)) As1 ks1 (hya1.keep hW'); rw [hs1] at this; exact this)
  rw [hA0] at c4
  have he : b0 = b1 ∧ off0 = off1 := by rw [hA0] at hA1; cases hA1; exact ⟨rfl, rfl⟩
  have he1 := he.1
  have he2 := he.2
  subst he1 he2
  have z00 : W.cell? ⟨b0, off0, none⟩ = some (.int .i64 y0.op) := by have := hrg0 0 _ rfl; simpa using this
  have z01 : W.cell? ⟨b0, off0 + 1, none⟩ = some (.int .i64 y0.n) := by have := hrg0 1 _ rfl; simpa using this
  have z02 : W.cell? ⟨b0, off0 + 2, none⟩ = some (.string y0.name) := by have := hrg0 2 _ rfl; simpa using this
  have z03 : W.cell? ⟨b0, off0 + 3, none⟩ = some (.string y0.field) := by have := hrg0 3 _ rfl; simpa using this
  have z04 : W.cell? ⟨b0, off0 + 4, none⟩ = some (.slice As0 y0.sub.length ks0) := by have := hrg0 4 _ rfl; simpa using this
  have z05 : W.cell? ⟨b0, off0 + 5, none⟩ = some (.int .i64 y0.line) := by have := hrg0 5 _ rfl; simpa using this
  have z10 : W.cell? ⟨b0, off0 + 6, none⟩ = some (.int .i64 y1.op) := by have := hrg1 0 _ rfl; simpa using this
  have z11 : W.cell? ⟨b0, off0 + 6 + 1, none⟩ = some (.int .i64 y1.n) := by have := hrg1 1 _ rfl; simpa using this
  have z12 : W.cell? ⟨b0, off0 + 6 + 2, none⟩ = some (.string y1.name) := by have := hrg1 2 _ rfl; simpa using this
  have z13 : W.cell? ⟨b0, off0 + 6 + 3, none⟩ = some (.string y1.field) := by have := hrg1 3 _ rfl; simpa using this
  have z14 : W.cell? ⟨b0, off0 + 6 + 4, none⟩ = some (.slice As1 y1.sub.length ks1) := by have := hrg1 4 _ rfl; simpa using this
  have z15 : W.cell? ⟨b0, off0 + 6 + 5, none⟩ = some (.int .i64 y1.line) := by have := hrg1 5 _ rfl; simpa using this
  have hrs : res = topS 20 nn nm fd s0 s1 := by rw [HRES.out, hy0, hy1, ← hs0, ← hs1]; rfl
  replace HRES := Lib.hid hrs
  clear hrs hA0 hA1 hya0 hys0 hrg0 hs0 hy0 hya1 hys1 hrg1 hs1 hy1
  have ix := idx14_12
  go_upto_region 16 with (fail)
  refine wp_region_ext (by kernel_rfl) (by kernel_rfl) ?_
  repeat (go_big_quiet_step (first | (go_at_call 69; (with_reducible refine ext_call (HT0.out _ (ext_below ⟨_, rfl⟩)))) | (go_at_call 69; (with_reducible refine ext_call (HT1.out _ (ext_below ⟨_, rfl⟩))))))
  refine wpQuiet_nil ?_
  intro w7 hb7
  replace hb7 := ext_below hb7
  have HB1 := Lib.hid (HB.out.trans (hb7.mono HB.out.size))
  clear c0 c1 c2 c3 c4 lB hb7 ix z00 z01 z02 z03 z04 z05 z10 z11 z12 z13 z14 z15
  go_wp2
  go_ret
  exact ⟨by rw [HRES.out]; rfl, by have hq := HB1.out; (repeat' (first | (with_reducible exact Below.refl _ _) | (with_reducible assumption) | (with_reducible refine below_drewN ?_ _) | (with_reducible refine Below.drew ?_) | (with_reducible refine below_new ?_ (Nat.le_refl _) _) | (with_reducible refine Below.setCell ?_ ?_ _) | (with_reducible refine below_go ?_ (by assumption) (Nat.le_refl _)) | (simp; done) | (simp; omega) | omega))⟩

set_option maxRecDepth 100000 in
set_option maxHeartbeats 4000000 in
theorem expr19_k21 (x : Ex) (w : World) (A : Option Addr) (cap : Nat) (hin : ExIn19 x w A cap) (hop : x.op = 21) (hns : x.sub.length = 2) : Calls Try.prog 69 #[.agg (ExC x A cap).toArray] w fun e w' => e = .returned (.string (exprS x)) ∧ Below w.heap.size w w' := by
  have HTY := Lib.hid hin.subs
  have HSUB := Lib.hid hin.sub
  have HOP := Lib.hid hop
  have HNS := Lib.hid hns
  have HSZ := Lib.hid hin.small
  have hnm := hin.nm
  have hfd := hin.fd
  have hn := hin.n
  have hres := exprS_top x
  obtain ⟨res, hr⟩ : ∃ r, exprS x = r := ⟨_, rfl⟩
  rw [hr] at hres ⊢
  obtain ⟨nm, hnm2⟩ : ∃ s, x.name = s := ⟨_, rfl⟩
  obtain ⟨fd, hfd2⟩ : ∃ s, x.field = s := ⟨_, rfl⟩
  obtain ⟨nn, hn2⟩ : ∃ s, x.n = s := ⟨_, rfl⟩
  rw [hop, hnm2, hfd2, hn2] at hres
  rw [hnm2] at hnm
  rw [hfd2] at hfd
  rw [hn2] at hn
  have HRES := Lib.hid hres
  have e0 : (ExC x A cap).toArray = #[.int .i64 21, .int .i64 nn, .string nm, .string fd, .slice A 2 cap, .int .i64 x.line] := by rw [← HOP.out, ← HNS.out, ← hnm2, ← hfd2, ← hn2]; rfl
  rw [e0]
  clear hin e0 hres hr hop hns hnm2 hfd2 hn2
  go_enter Try.func69, Try.ntmps69
  go_upto_region 1 with (fail)
  refine wp_name fun W hW => ?_
  obtain ⟨B, hB⟩ : ∃ B, B = w.heap.size := ⟨_, rfl⟩
  have c0 : W.cell? ⟨B, 0, none⟩ = some (.int .i64 21) := by rw [hW.out, hB]; go_simp
  have c1 : W.cell? ⟨B, 1, none⟩ = some (.int .i64 nn) := by rw [hW.out, hB]; go_simp
  have c2 : W.cell? ⟨B, 2, none⟩ = some (.string nm) := by rw [hW.out, hB]; go_simp
  have c3 : W.cell? ⟨B, 3, none⟩ = some (.string fd) := by rw [hW.out, hB]; go_simp
  have c4 : W.cell? ⟨B, 4, none⟩ = some (.slice A 2 cap) := by rw [hW.out, hB]; go_simp
  have hbel : Below w.heap.size w W := by rw [hW.out]; (repeat' (first | (with_reducible exact Below.refl _ _) | (with_reducible assumption) | (with_reducible refine below_drewN ?_ _) | (with_reducible refine Below.drew ?_) | (with_reducible refine below_new ?_ (Nat.le_refl _) _) | (with_reducible refine Below.setCell ?_ ?_ _) | (with_reducible refine below_go ?_ (by assumption) (Nat.le_refl _)) | (simp; done) | (simp; omega) | omega))
  have lB : B < W.heap.size := by rw [hW.out, hB]; simp
  rw [← hB]
  have HB := Lib.hid hbel
  clear hW hbel hB
  obtain ⟨b0, off0, y0, As0, ks0, hA0, hbl0, hy0, hya0, hys0, hrg0⟩ := RowE.at (HSUB.out.below HB.out) (i := 0) (by rw [HNS.out]; decide)
  obtain ⟨s0, hs0⟩ : ∃ s, exprS y0 = s := ⟨_, rfl⟩
  have hsz0 := HSZ.out y0 (List.mem_of_getElem? hy0)
  rw [hs0] at hsz0
  have HT0 : Hid (∀ W', Below W.heap.size W W' → Calls Try.prog 69 #[.agg #[.int .i64 y0.op, .int .i64 y0.n, .string y0.name, .string y0.field, .slice As0 y0.sub.length ks0, .int .i64 y0.line]] W' fun e w' => e = .returned (.string s0) ∧ Below W'.heap.size W' w') := Lib.hid (fun W' hW' => by have := HTY.out y0 (List.mem_of_getElem? hy0) W' (HB.out.trans (hW'.mono HB.out.size)) As0 ks0 (hya0.keep hW'); rw [hs0] at this; exact this)
  obtain ⟨b1, off1, y1, As1, ks1, hA1, hbl1, hy1, hya1, hys1, hrg1⟩ := RowE.at (HSUB.out.below HB.out) (i := 1) (by rw [HNS.out]; decide)
  obtain ⟨s1, hs1⟩ : ∃ s, exprS y1 = s := ⟨_, rfl⟩
  have hsz1 := HSZ.out y1 (List.mem_of_getElem? hy1)
  rw [hs1] at hsz1
  have HT1 : Hid (∀ W', Below W.heap.size W W' → Calls Try.prog 69 #[.agg #[.int .i64 y1.op, .int .i64 y1.n, .string y1.name, .string y1.field, .slice As1 y1.sub.length ks1, .int .i64 y1.line]] W' fun e w' => e = .returned (.string s1) ∧ Below W'.heap.size W' w') := Lib.hid (fun W' hW' => by have := HTY.out y1 (List.mem_of_getElem? hy1) W' (HB.out.trans (hW'.mono HB.out.size)) As1 ks1 (hya1.keep hW'); rw [hs1] at this; exact this)
  rw [hA0] at c4
  have he : b0 = b1 ∧ off0 = off1 := by rw [hA0] at hA1; cases hA1; exact ⟨rfl, rfl⟩
  have he1 := he.1
  have he2 := he.2
  subst he1 he2
  have z00 : W.cell? ⟨b0, off0, none⟩ = some (.int .i64 y0.op) := by have := hrg0 0 _ rfl; simpa using this
  have z01 : W.cell? ⟨b0, off0 + 1, none⟩ = some (.int .i64 y0.n) := by have := hrg0 1 _ rfl; simpa using this
  have z02 : W.cell? ⟨b0, off0 + 2, none⟩ = some (.string y0.name) := by have := hrg0 2 _ rfl; simpa using this
  have z03 : W.cell? ⟨b0, off0 + 3, none⟩ = some (.string y0.field) := by have := hrg0 3 _ rfl; simpa using this
  have z04 : W.cell? ⟨b0, off0 + 4, none⟩ = some (.slice As0 y0.sub.length ks0) := by have := hrg0 4 _ rfl; simpa using this
  have z05 : W.cell? ⟨b0, off0 + 5, none⟩ = some (.int .i64 y0.line) := by have := hrg0 5 _ rfl; simpa using this
  have z10 : W.cell? ⟨b0, off0 + 6, none⟩ = some (.int .i64 y1.op) := by have := hrg1 0 _ rfl; simpa using this
  have z11 : W.cell? ⟨b0, off0 + 6 + 1, none⟩ = some (.int .i64 y1.n) := by have := hrg1 1 _ rfl; simpa using this
  have z12 : W.cell? ⟨b0, off0 + 6 + 2, none⟩ = some (.string y1.name) := by have := hrg1 2 _ rfl; simpa using this
  have z13 : W.cell? ⟨b0, off0 + 6 + 3, none⟩ = some (.string y1.field) := by have := hrg1 3 _ rfl; simpa using this
  have z14 : W.cell? ⟨b0, off0 + 6 + 4, none⟩ = some (.slice As1 y1.sub.length ks1) := by have := hrg1 4 _ rfl; simpa using this
  have z15 : W.cell? ⟨b0, off0 + 6 + 5, none⟩ = some (.int .i64 y1.line) := by have := hrg1 5 _ rfl; simpa using this
  have hrs : res = topS 21 nn nm fd s0 s1 := by rw [HRES.out, hy0, hy1, ← hs0, ← hs1]; rfl
  replace HRES := Lib.hid hrs
  clear hrs hA0 hA1 hya0 hys0 hrg0 hs0 hy0 hya1 hys1 hrg1 hs1 hy1
  have ix := idx14_13
  go_upto_region 16 with (fail)
  refine wp_region_ext (by kernel_rfl) (by kernel_rfl) ?_
  repeat (go_big_quiet_step (first | (go_at_call 69; (with_reducible refine ext_call (HT0.out _ (ext_below ⟨_, rfl⟩)))) | (go_at_call 69; (with_reducible refine ext_call (HT1.out _ (ext_below ⟨_, rfl⟩))))))
  refine wpQuiet_nil ?_
  intro w7 hb7
  replace hb7 := ext_below hb7
  have HB1 := Lib.hid (HB.out.trans (hb7.mono HB.out.size))
  clear c0 c1 c2 c3 c4 lB hb7 ix z00 z01 z02 z03 z04 z05 z10 z11 z12 z13 z14 z15
  go_wp2
  go_ret
  exact ⟨by rw [HRES.out]; rfl, by have hq := HB1.out; (repeat' (first | (with_reducible exact Below.refl _ _) | (with_reducible assumption) | (with_reducible refine below_drewN ?_ _) | (with_reducible refine Below.drew ?_) | (with_reducible refine below_new ?_ (Nat.le_refl _) _) | (with_reducible refine Below.setCell ?_ ?_ _) | (with_reducible refine below_go ?_ (by assumption) (Nat.le_refl _)) | (simp; done) | (simp; omega) | omega))⟩

end Go.Proofs.Ytcamegfnhbbaeaa

namespace Go.Proofs.Ytcamegfnhbbaeaa
open Go.RowKit
set_option linter.unusedVariables false
set_option linter.unusedSimpArgs false

set_option maxHeartbeats 1000000 in
theorem expr19_at : ∀ (k : Nat) (x : Ex), SizeOf.sizeOf x < k → FitE x → nodesE x ≤ 16777216 → ∀ (w : World) (A : Option Addr) (cap : Nat), ExAt w x (ExC x A cap) → Calls Try.prog 69 #[.agg (ExC x A cap).toArray] w fun e w' => e = .returned (.string (exprS x)) ∧ Below w.heap.size w w' := by
  intro k
  induction k with
  | zero => intro x h; omega
  | succ k ih =>
    intro x hsz hfit hnd w A cap hat
    obtain ⟨hfx, hfs⟩ := hfit.parts19
    obtain ⟨A', cap', he, hsub, h1, h2, h3⟩ := hat.form
    have hA : A = A' ∧ cap = cap' := by
      simp [ExC] at he
      exact he
    obtain ⟨rfl, rfl⟩ := hA
    have hnodes : ∀ y ∈ x.sub, nodesE y ≤ nodesE x := fun y hy => by
      obtain ⟨i, hi⟩ := List.getElem?_of_mem hy
      have := nodesEs_get hi
      cases x
      simp only [nodesE, Ex.sub] at this ⊢
      omega
    have hin : ExIn19 x w A cap := by
      refine ⟨fun y hy W hW As ks hya => ?_, hsub, fun y hy => ?_, hfx.nm, hfx.fd, h2⟩
      · have h3 : SizeOf.sizeOf y < k := by
          have h4 := List.sizeOf_lt_of_mem hy
          have h5 : SizeOf.sizeOf x.sub < SizeOf.sizeOf x := by
            cases x
            simp [Ex.sub]
            omega
          omega
        exact ih y h3 (hfs y hy) (Nat.le_trans (hnodes y hy) hnd) W As ks hya
      · have := exprS_size y (hfs y hy)
        have := hnodes y hy
        omega
    have ho1 := hfx.lo
    have ho2 := hfx.hi
    have hns := hfx.subs
    unfold subsN at hns
    rcases (show x.op = 1 ∨ x.op = 2 ∨ x.op = 3 ∨ x.op = 4 ∨ x.op = 5 ∨ x.op = 6 ∨ x.op = 7 ∨ 8 ≤ x.op by omega) with h | h | h | h | h | h | h | h
    · exact expr19_k1 x w A cap hin h (by rw [hns, h]; rfl)
    · exact expr19_k2 x w A cap hin h (by rw [hns, h]; rfl)
    · exact expr19_k3 x w A cap hin h (by rw [hns, h]; rfl)
    · exact expr19_k4 x w A cap hin h (by rw [hns, h]; rfl)
    · exact expr19_k5 x w A cap hin h (by rw [hns, h]; rfl)
    · exact expr19_k6 x w A cap hin h (by rw [hns, h]; rfl)
    · exact expr19_k7 x w A cap hin h (by rw [hns, h]; rfl)
    · have hn2 : x.sub.length = 2 := by rw [hns, if_neg (by omega), if_pos (by omega)]
      rcases (show x.op = 8 ∨ x.op = 9 ∨ x.op = 10 ∨ x.op = 11 ∨ x.op = 12 ∨ x.op = 13 ∨ x.op = 14 ∨ x.op = 15 ∨ x.op = 16 ∨ x.op = 17 ∨ x.op = 18 ∨ x.op = 19 ∨ x.op = 20 ∨ x.op = 21 by omega) with h | h | h | h | h | h | h | h | h | h | h | h | h | h
      · exact expr19_k8 x w A cap hin h hn2
      · exact expr19_k9 x w A cap hin h hn2
      · exact expr19_k10 x w A cap hin h hn2
      · exact expr19_k11 x w A cap hin h hn2
      · exact expr19_k12 x w A cap hin h hn2
      · exact expr19_k13 x w A cap hin h hn2
      · exact expr19_k14 x w A cap hin h hn2
      · exact expr19_k15 x w A cap hin h hn2
      · exact expr19_k16 x w A cap hin h hn2
      · exact expr19_k17 x w A cap hin h hn2
      · exact expr19_k18 x w A cap hin h hn2
      · exact expr19_k19 x w A cap hin h hn2
      · exact expr19_k20 x w A cap hin h hn2
      · exact expr19_k21 x w A cap hin h hn2
theorem expr19_any (x : Ex) (hf : FitE x) (hn : nodesE x ≤ 16777216) (w : World) (A : Option Addr) (cap : Nat) (hat : ExAt w x (ExC x A cap)) : Calls Try.prog 69 #[.agg (ExC x A cap).toArray] w fun e w' => e = .returned (.string (exprS x)) ∧ Below w.heap.size w w' :=
  expr19_at _ x (Nat.lt_succ_self _) hf hn w A cap hat

end Go.Proofs.Ytcamegfnhbbaeaa
