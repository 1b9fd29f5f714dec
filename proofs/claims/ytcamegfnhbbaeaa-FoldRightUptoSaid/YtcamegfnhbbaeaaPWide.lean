/- Plain numbers: sizes of 128 bits in four parts of 32. No program in sight. -/
namespace Go.Proofs.Ytcamegfnhbbaeaa
set_option linter.unusedVariables false
set_option linter.unusedSimpArgs false

def d0 (v : Int) : Int := v % 4294967296
def d1 (v : Int) : Int := v / 4294967296 % 4294967296
def d2 (v : Int) : Int := v / 18446744073709551616 % 4294967296
def d3 (v : Int) : Int := v / 79228162514264337593543950336 % 4294967296

theorem dg_bd (v : Int) : (0 ≤ d0 v ∧ d0 v < 4294967296) ∧ (0 ≤ d1 v ∧ d1 v < 4294967296) ∧ (0 ≤ d2 v ∧ d2 v < 4294967296) ∧ (0 ≤ d3 v ∧ d3 v < 4294967296) := by
  unfold d0 d1 d2 d3
  omega
theorem dg_sum (v : Int) (h : 0 ≤ v ∧ v < 340282366920938463463374607431768211456) : v = d0 v + 4294967296 * d1 v + 18446744073709551616 * d2 v + 79228162514264337593543950336 * d3 v := by
  unfold d0 d1 d2 d3
  omega
theorem wdg_eq (v r0 r1 r2 r3 : Int) (h0 : 0 ≤ r0 ∧ r0 < 4294967296) (h1 : 0 ≤ r1 ∧ r1 < 4294967296) (h2 : 0 ≤ r2 ∧ r2 < 4294967296) (h3 : 0 ≤ r3 ∧ r3 < 4294967296) (h : v = r0 + 4294967296 * r1 + 18446744073709551616 * r2 + 79228162514264337593543950336 * r3) :
    r0 = d0 v ∧ r1 = d1 v ∧ r2 = d2 v ∧ r3 = d3 v := by
  unfold d0 d1 d2 d3
  omega

/-- the parts of a sum, part by part -/
theorem sum_parts (A C : Int) (hA : 0 ≤ A ∧ A < 340282366920938463463374607431768211456) (hC : 0 ≤ C ∧ C < 340282366920938463463374607431768211456) (hs : A + C < 340282366920938463463374607431768211456)
    (r0 r1 r2 r3 c1 c2 c3 : Int) (e0 : (d0 A + d0 C) % 4294967296 = r0) (f0 : (d0 A + d0 C) / 4294967296 = c1) (e1 : (d1 A + d1 C + c1) % 4294967296 = r1) (f1 : (d1 A + d1 C + c1) / 4294967296 = c2)
    (e2 : (d2 A + d2 C + c2) % 4294967296 = r2) (f2 : (d2 A + d2 C + c2) / 4294967296 = c3) (e3 : (d3 A + d3 C + c3) % 4294967296 = r3) :
    r0 = d0 (A + C) ∧ r1 = d1 (A + C) ∧ r2 = d2 (A + C) ∧ r3 = d3 (A + C) := by
  have a := dg_bd A
  have c := dg_bd C
  have sa := dg_sum A hA
  have sc := dg_sum C hC
  generalize d0 A = a0 at *
  generalize d1 A = a1 at *
  generalize d2 A = a2 at *
  generalize d3 A = a3 at *
  generalize d0 C = b0 at *
  generalize d1 C = b1 at *
  generalize d2 C = b2 at *
  generalize d3 C = b3 at *
  refine wdg_eq (A + C) r0 r1 r2 r3 (by omega) (by omega) (by omega) (by omega) (by omega)
/-- the parts of a difference, part by part -/
theorem less_parts (A C : Int) (hA : 0 ≤ A ∧ A < 340282366920938463463374607431768211456) (hC : 0 ≤ C ∧ C < 340282366920938463463374607431768211456) (hs : C ≤ A)
    (r0 r1 r2 r3 c1 c2 c3 : Int) (e0 : (d0 A + 4294967296 - d0 C) % 4294967296 = r0) (f0 : 1 - (d0 A + 4294967296 - d0 C) / 4294967296 = c1) (e1 : (d1 A + 4294967296 - d1 C - c1) % 4294967296 = r1) (f1 : 1 - (d1 A + 4294967296 - d1 C - c1) / 4294967296 = c2)
    (e2 : (d2 A + 4294967296 - d2 C - c2) % 4294967296 = r2) (f2 : 1 - (d2 A + 4294967296 - d2 C - c2) / 4294967296 = c3) (e3 : (d3 A + 4294967296 - d3 C - c3) % 4294967296 = r3) :
    r0 = d0 (A - C) ∧ r1 = d1 (A - C) ∧ r2 = d2 (A - C) ∧ r3 = d3 (A - C) := by
  have a := dg_bd A
  have c := dg_bd C
  have sa := dg_sum A hA
  have sc := dg_sum C hC
  generalize d0 A = a0 at *
  generalize d1 A = a1 at *
  generalize d2 A = a2 at *
  generalize d3 A = a3 at *
  generalize d0 C = b0 at *
  generalize d1 C = b1 at *
  generalize d2 C = b2 at *
  generalize d3 C = b3 at *
  refine wdg_eq (A - C) r0 r1 r2 r3 (by omega) (by omega) (by omega) (by omega) (by omega)
/-- which is greater is told by the highest part that differs -/
theorem cmp_parts (A C : Int) (hA : 0 ≤ A ∧ A < 340282366920938463463374607431768211456) (hC : 0 ≤ C ∧ C < 340282366920938463463374607431768211456) :
    (d3 A < d3 C → A < C) ∧ (d3 C < d3 A → C < A) ∧ (d3 A = d3 C → (d2 A < d2 C → A < C) ∧ (d2 C < d2 A → C < A) ∧ (d2 A = d2 C → (d1 A < d1 C → A < C) ∧ (d1 C < d1 A → C < A) ∧ (d1 A = d1 C → (d0 A < d0 C → A < C) ∧ (d0 C < d0 A → C < A) ∧ (d0 A = d0 C → A = C)))) := by
  have a := dg_bd A
  have c := dg_bd C
  have sa := dg_sum A hA
  have sc := dg_sum C hC
  generalize d0 A = a0 at *
  generalize d1 A = a1 at *
  generalize d2 A = a2 at *
  generalize d3 A = a3 at *
  generalize d0 C = b0 at *
  generalize d1 C = b1 at *
  generalize d2 C = b2 at *
  generalize d3 C = b3 at *
  refine ⟨fun _ => by omega, fun _ => by omega, fun e3 => ⟨fun _ => by omega, fun _ => by omega, fun e2 => ⟨fun _ => by omega, fun _ => by omega, fun e1 => ⟨fun _ => by omega, fun _ => by omega, fun e0 => by omega⟩⟩⟩⟩
/-- below 2^64 the upper parts are 0 -/
theorem dg_low (v : Int) (h : 0 ≤ v ∧ v < 18446744073709551616) : d0 v = v % 4294967296 ∧ d1 v = v / 4294967296 ∧ d2 v = 0 ∧ d3 v = 0 := by
  unfold d0 d1 d2 d3
  omega
theorem dg_high (v : Int) (h : 0 ≤ v ∧ v < 340282366920938463463374607431768211456) : (d2 v = 0 ∧ d3 v = 0) ↔ v < 18446744073709551616 := by
  have a := dg_bd v
  have sa := dg_sum v h
  constructor
  · rintro ⟨h2, h3⟩
    rw [h2, h3] at sa
    omega
  · intro hv
    have := dg_low v ⟨h.1, hv⟩
    exact this.2.2

end Go.Proofs.Ytcamegfnhbbaeaa
