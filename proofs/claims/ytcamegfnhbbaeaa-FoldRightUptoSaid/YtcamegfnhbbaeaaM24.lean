/- Merged: Layer 19, the reference: a number's text. Layer 19, the reference: an expression's text, in plain Lean. PRINTED by wip/tool/mkexpr19.py -/
import Derived.Test.YtcamegfnhbbaeaaM02
import Derived.Test.YtcamegfnhbbaeaaTreeI
import Derived.Great.Ranges
namespace Go.Proofs.Ytcamegfnhbbaeaa
open Go.RowKit
set_option linter.unusedVariables false
set_option linter.unusedSimpArgs false
attribute [local go_sem] ite_max ite_min vite_max vite_min ext_cell ext_frozen

def tens : ByteArray := ⟨#[48, 49, 50, 51, 52, 53, 54, 55, 56, 57]⟩
def dgS (n : Nat) : ByteArray := tens.extract n (n + 1)
def digitsS : Nat → Nat → ByteArray → ByteArray
  | 0, n, s => dgS n ++ s
  | k + 1, n, s => if 9 < n then digitsS k (n / 10) (dgS (n % 10) ++ s) else dgS n ++ s
theorem dgS_size (n : Nat) : (dgS n).size ≤ 1 := by
  unfold dgS
  rw [ByteArray.size_extract]
  omega
theorem digitsS_size : ∀ (k n : Nat) (s : ByteArray), (digitsS k n s).size ≤ s.size + k + 1
  | 0, n, s => by
    have := dgS_size n
    simp only [digitsS, ByteArray.size_append]
    omega
  | k + 1, n, s => by
    unfold digitsS
    split
    · have := digitsS_size k (n / 10) (dgS (n % 10) ++ s)
      have h := dgS_size (n % 10)
      rw [ByteArray.size_append] at this
      omega
    · have := dgS_size n
      simp only [ByteArray.size_append]
      omega

set_option maxRecDepth 100000 in
set_option maxHeartbeats 2000000 in
theorem digits19 (n : Nat) (hn : n < 18446744073709551616) (w : World) : Calls Try.prog 56 #[.int .u64 n] w fun e w' => e = .returned (.string (digitsS 20 n ⟨#[]⟩)) ∧ w = w' := by
  obtain ⟨res, hres⟩ : ∃ r, digitsS 20 n ⟨#[]⟩ = r := ⟨_, rfl⟩
  have HRES := Lib.hid hres
  rw [hres]
  clear hres
  go_enter Try.func56, Try.ntmps56
  go_wp2_with fail
  go_loopw [0, 3] (fun vn vs wr => ∃ (m k : Nat) (s : ByteArray), vn = .int .u64 m ∧ vs = .string s ∧ m < 10 ^ k ∧ m < 18446744073709551616 ∧ k ≤ 20 ∧ s.size + k ≤ 20 ∧ Hid (digitsS k m s = res) ∧ w = wr) (fun vn _ _ => (intOf vn).toNat)
  case atStart => exact ⟨n, 20, ⟨#[]⟩, rfl, rfl, by omega, hn, by omega, by decide, HRES, rfl⟩
  case round =>
    obtain ⟨m, k, s, rfl, rfl, hm, hm2, hk, hsk, HD, rfl⟩ := hrel
    by_cases h9 : 9 < m
    · have h9i : (9 : Int) < (m : Int) := by omega
      obtain ⟨j, rfl⟩ : ∃ j, k = j + 1 := by
        cases k with
        | zero => simp at hm; omega
        | succ j => exact ⟨j, rfl⟩
      have hs2 : ((m : Int) % 10).toNat = m % 10 := by omega
      have hr0 : (0 : Int) ≤ (m : Int) % 10 ∧ (m : Int) % 10 < 10 := by omega
      have hpw : m / 10 < 10 ^ j := by
        rw [Nat.pow_succ] at hm
        omega
      have hdg := dgS_size (m % 10)
      have hst : digitsS j (m / 10) (dgS (m % 10) ++ s) = res := by
        have := HD.out
        unfold digitsS at this
        rw [if_pos h9] at this
        exact this
      have HST := Lib.hid hst
      clear hst
      go_wp2
      exact ⟨⟨m / 10, j, dgS (m % 10) ++ s, by congr 1, rfl, hpw, by omega, by omega, by rw [ByteArray.size_append]; omega, HST, trivial⟩, by simp [intOf]; omega⟩
    · have h9i : ¬ (9 : Int) < (m : Int) := by omega
      have hr0 : (0 : Int) ≤ (m : Int) ∧ (m : Int) < 10 := by omega
      have hdg := dgS_size m
      have hfin : dgS m ++ s = res := by
        have := HD.out
        cases k with
        | zero => exact this
        | succ k =>
          unfold digitsS at this
          rw [if_neg h9] at this
          exact this
      have HFIN := Lib.hid hfin
      clear hfin
      go_wp2
      go_ret
      exact ⟨by rw [← HFIN.out]; rfl, rfl⟩

/-- a number's text -/
def numS (n : Int) : ByteArray := if n < 0 then (⟨#[45]⟩ : ByteArray) ++ digitsS 20 n.natAbs ⟨#[]⟩ else digitsS 20 n.natAbs ⟨#[]⟩
theorem numS_size (n : Int) : (numS n).size ≤ 22 := by
  unfold numS
  have := digitsS_size 20 n.natAbs ⟨#[]⟩
  have h0 : (⟨#[]⟩ : ByteArray).size = 0 := rfl
  have h1 : (⟨#[45]⟩ : ByteArray).size = 1 := rfl
  split
  · rw [ByteArray.size_append]
    omega
  · omega
def truthS (n : Int) : ByteArray := if n = 0 then ⟨#[70, 65, 76, 83, 69]⟩ else ⟨#[84, 82, 85, 69]⟩
theorem truthS_size (n : Int) : (truthS n).size ≤ 5 := by
  unfold truthS
  split
  · decide
  · decide

set_option maxRecDepth 100000 in
set_option maxHeartbeats 2000000 in
theorem num19 (n : Int) (hn : -9223372036854775808 ≤ n ∧ n ≤ 9223372036854775807) (w : World) : Calls Try.prog 30 #[.int .i64 n] w fun e w' => e = .returned (.string (numS n)) ∧ w = w' := by
  have hsz := digitsS_size 20 n.natAbs ⟨#[]⟩
  have h00 : (⟨#[]⟩ : ByteArray).size = 0 := rfl
  have h01 : (⟨#[45]⟩ : ByteArray).size = 1 := rfl
  obtain ⟨m, hm⟩ : ∃ m, n.natAbs = m := ⟨_, rfl⟩
  rw [hm] at hsz
  have HD := Lib.hid (digits19 m (by omega))
  by_cases h0 : n < 0
  · have hs : numS n = (⟨#[45]⟩ : ByteArray) ++ digitsS 20 m ⟨#[]⟩ := by unfold numS; rw [if_pos h0, hm]
    rw [hs]
    obtain ⟨d, hd⟩ : ∃ d, digitsS 20 m ⟨#[]⟩ = d := ⟨_, rfl⟩
    rw [hd] at HD hsz ⊢
    have e1 : IntKind.u64.wrap n = n + 18446744073709551616 := by unfold IntKind.wrap; simp [IntKind.bits, IntKind.signed]; omega
    have e2 : IntKind.u64.wrap (0 - (n + 18446744073709551616)) = m := by unfold IntKind.wrap; simp [IntKind.bits, IntKind.signed]; omega
    have e3 : IntKind.u64.wrap (-(n + 18446744073709551616)) = m := by unfold IntKind.wrap; simp [IntKind.bits, IntKind.signed]; omega
    clear hs hd
    go_enter Try.func30, Try.ntmps30
    go_wp2_with fail
    refine (HD.out _).mono ?_
    rintro e w' ⟨rfl, rfl⟩
    have hle : ((1 : Int) + d.size) ≤ 9223372036854775807 := by omega
    go_wp2
    go_ret
    exact ⟨rfl, rfl⟩
  · have hs : numS n = digitsS 20 m ⟨#[]⟩ := by unfold numS; rw [if_neg h0, hm]
    rw [hs]
    obtain ⟨d, hd⟩ : ∃ d, digitsS 20 m ⟨#[]⟩ = d := ⟨_, rfl⟩
    rw [hd] at HD hsz ⊢
    have e1 : IntKind.u64.wrap n = m := by unfold IntKind.wrap; simp [IntKind.bits, IntKind.signed]; omega
    clear hs hd
    go_enter Try.func30, Try.ntmps30
    go_wp2_with fail
    refine (HD.out _).mono ?_
    rintro e w' ⟨rfl, rfl⟩
    go_wp2
    go_ret
    exact ⟨rfl, rfl⟩

set_option maxRecDepth 100000 in
set_option maxHeartbeats 2000000 in
theorem truth19 (n : Int) (w : World) : Calls Try.prog 31 #[.int .i64 n] w fun e w' => e = .returned (.string (truthS n)) ∧ w = w' := by
  by_cases h0 : n = 0
  · subst h0
    go_enter Try.func31, Try.ntmps31
    go_wp2
    go_ret
    exact ⟨rfl, rfl⟩
  · have hs : truthS n = ⟨#[84, 82, 85, 69]⟩ := by unfold truthS; rw [if_neg h0]
    rw [hs]
    clear hs
    go_enter Try.func31, Try.ntmps31
    go_wp2
    go_ret
    exact ⟨rfl, rfl⟩

end Go.Proofs.Ytcamegfnhbbaeaa

namespace Go.Proofs.Ytcamegfnhbbaeaa
open Go.RowKit
set_option linter.unusedVariables false
set_option linter.unusedSimpArgs false

def opS (op : Int) : ByteArray := if op = 8 then ⟨#[43]⟩ else if op = 9 then ⟨#[45]⟩ else if op = 10 then ⟨#[42]⟩ else if op = 11 then ⟨#[47]⟩ else if op = 12 then ⟨#[77, 79, 68]⟩ else if op = 13 then ⟨#[61]⟩ else if op = 14 then ⟨#[60, 62]⟩ else if op = 15 then ⟨#[60]⟩ else if op = 16 then ⟨#[62]⟩ else if op = 17 then ⟨#[60, 61]⟩ else if op = 18 then ⟨#[62, 61]⟩ else if op = 19 then ⟨#[65, 78, 68]⟩ else if op = 20 then ⟨#[88, 79, 82]⟩ else ⟨#[79, 82]⟩
theorem opS_size (op : Int) : (opS op).size ≤ 3 := by
  unfold opS
  by_cases h8 : op = 8
  · rw [if_pos h8]; decide
  rw [if_neg h8]
  by_cases h9 : op = 9
  · rw [if_pos h9]; decide
  rw [if_neg h9]
  by_cases h10 : op = 10
  · rw [if_pos h10]; decide
  rw [if_neg h10]
  by_cases h11 : op = 11
  · rw [if_pos h11]; decide
  rw [if_neg h11]
  by_cases h12 : op = 12
  · rw [if_pos h12]; decide
  rw [if_neg h12]
  by_cases h13 : op = 13
  · rw [if_pos h13]; decide
  rw [if_neg h13]
  by_cases h14 : op = 14
  · rw [if_pos h14]; decide
  rw [if_neg h14]
  by_cases h15 : op = 15
  · rw [if_pos h15]; decide
  rw [if_neg h15]
  by_cases h16 : op = 16
  · rw [if_pos h16]; decide
  rw [if_neg h16]
  by_cases h17 : op = 17
  · rw [if_pos h17]; decide
  rw [if_neg h17]
  by_cases h18 : op = 18
  · rw [if_pos h18]; decide
  rw [if_neg h18]
  by_cases h19 : op = 19
  · rw [if_pos h19]; decide
  rw [if_neg h19]
  by_cases h20 : op = 20
  · rw [if_pos h20]; decide
  rw [if_neg h20]
  decide
def topS (op n : Int) (nm fd : ByteArray) (a b : ByteArray) : ByteArray :=
  if op = 1 then numS n else if op = 2 then truthS n else if op = 3 then nm else if op = 4 then ((nm ++ ⟨#[91]⟩) ++ a) ++ ⟨#[93]⟩ else if op = 5 then (nm ++ ⟨#[46]⟩) ++ fd
  else if op = 6 then ((⟨#[40, 45]⟩ : ByteArray) ++ a) ++ ⟨#[41]⟩ else if op = 7 then ((⟨#[40, 78, 79, 84, 32]⟩ : ByteArray) ++ a) ++ ⟨#[41]⟩
  else (((((⟨#[40]⟩ : ByteArray) ++ a) ++ ⟨#[32]⟩) ++ opS op) ++ ⟨#[32]⟩) ++ b ++ ⟨#[41]⟩
mutual
/-- an expression's text -/
def exprS : Ex → ByteArray
  | .mk op n nm fd sub _ => topS op n nm fd ((exprsS sub)[0]?.getD (⟨#[]⟩ : ByteArray)) ((exprsS sub)[1]?.getD (⟨#[]⟩ : ByteArray))
def exprsS : List Ex → List ByteArray
  | [] => []
  | x :: l => exprS x :: exprsS l
end
mutual
/-- how many parts an expression has -/
def nodesE : Ex → Nat
  | .mk _ _ _ _ sub _ => 1 + nodesEs sub
def nodesEs : List Ex → Nat
  | [] => 0
  | x :: l => nodesE x + nodesEs l
end
theorem exprsS_get : ∀ (l : List Ex) (i : Nat), (exprsS l)[i]? = l[i]?.map exprS
  | [], i => by simp [exprsS]
  | x :: l, 0 => by simp [exprsS]
  | x :: l, i + 1 => by simp [exprsS, exprsS_get l i]
theorem nodesEs_get : ∀ {l : List Ex} {i : Nat} {y : Ex}, l[i]? = some y → nodesE y ≤ nodesEs l
  | [], i, y, h => by simp at h
  | x :: l, 0, y, h => by
    simp at h
    subst h
    exact Nat.le_add_right _ _
  | x :: l, i + 1, y, h => by
    have := nodesEs_get (l := l) (i := i) (y := y) (by simpa using h)
    show nodesE y ≤ nodesE x + nodesEs l
    omega
theorem exprS_top (x : Ex) : exprS x = topS x.op x.n x.name x.field ((x.sub[0]?.map exprS).getD ⟨#[]⟩) ((x.sub[1]?.map exprS).getD ⟨#[]⟩) := by
  cases x
  simp only [exprS, exprsS_get]
  rfl
theorem size0 : (⟨#[]⟩ : ByteArray).size = 0 := rfl
theorem topS_size (op n : Int) (nm fd a b : ByteArray) (h1 : nm.size ≤ 16) (h2 : fd.size ≤ 16) : (topS op n nm fd a b).size ≤ 40 + a.size + b.size := by
  have hn := numS_size n
  have ht := truthS_size n
  have ho := opS_size op
  unfold topS
  repeat' split
  all_goals (try simp only [ByteArray.size_append, show (⟨#[91]⟩ : ByteArray).size = 1 from rfl, show (⟨#[93]⟩ : ByteArray).size = 1 from rfl, show (⟨#[46]⟩ : ByteArray).size = 1 from rfl, show (⟨#[40, 45]⟩ : ByteArray).size = 2 from rfl, show (⟨#[41]⟩ : ByteArray).size = 1 from rfl, show (⟨#[40, 78, 79, 84, 32]⟩ : ByteArray).size = 5 from rfl, show (⟨#[40]⟩ : ByteArray).size = 1 from rfl, show (⟨#[32]⟩ : ByteArray).size = 1 from rfl])
  all_goals omega
/-- each text is short -/
def SizesE : List Ex → Prop
  | [] => True
  | x :: l => (exprS x).size ≤ 40 * nodesE x ∧ SizesE l
theorem FitE.parts19 {x : Ex} (h : FitE x) : FitX x ∧ ∀ y, y ∈ x.sub → FitE y := by
  cases h with
  | mk _ h1 h2 => exact ⟨h1, h2⟩
mutual
theorem exprS_size : ∀ x : Ex, FitE x → (exprS x).size ≤ 40 * nodesE x
  | .mk op n nm fd sub ln, h => by
    obtain ⟨hx, hs⟩ := h.parts19
    have hsub := exprsS_size sub hs
    have ht := topS_size op n nm fd ((exprsS sub)[0]?.getD (⟨#[]⟩ : ByteArray)) ((exprsS sub)[1]?.getD (⟨#[]⟩ : ByteArray)) hx.nm hx.fd
    have hab : ((exprsS sub)[0]?.getD (⟨#[]⟩ : ByteArray)).size + ((exprsS sub)[1]?.getD (⟨#[]⟩ : ByteArray)).size ≤ 40 * nodesEs sub := by
      rcases sub with _ | ⟨x, _ | ⟨y, l⟩⟩
      · simp [exprsS, size0]
      · have h1 := hsub.1
        simp only [exprsS, nodesEs]
        simp [size0]
        omega
      · have h1 := hsub.1
        have h2 := hsub.2.1
        simp only [exprsS, nodesEs]
        simp
        omega
    show (topS op n nm fd _ _).size ≤ 40 * (1 + nodesEs sub)
    omega
theorem exprsS_size : ∀ l : List Ex, (∀ x ∈ l, FitE x) → SizesE l
  | [], _ => trivial
  | x :: l, h => ⟨exprS_size x (h x (List.mem_cons_self)), exprsS_size l fun y hy => h y (List.mem_cons_of_mem _ hy)⟩
end

end Go.Proofs.Ytcamegfnhbbaeaa
