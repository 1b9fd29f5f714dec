/- Contracts of layer 10: a number, repeated. -/
import Derived.Test.YtddakmlnkffgiaaSmB
import Derived.Test.YtddakmlnkffgiaaShelf
import Derived.Test.YtddakmlnkffgiaaFresh
import Derived.Laws.CopyOwn
import Derived.Laws.MakeOwn
import Derived.Deep.RegionLaw
namespace Go.Proofs.Ytddakmlnkffgiaa
open Go.RowKit
set_option linter.unusedVariables false
set_option linter.unusedSimpArgs false
attribute [local go_sem] ite_max ite_min vite_max vite_min ext_cell ext_frozen

/-- n numbers that are set, of m -/
def curK (pos : Int) (m n : Nat) : List Value := List.replicate n (.int .i64 pos) ++ List.replicate (m - n) (.int .i64 0)
theorem curK_len (pos : Int) (m n : Nat) (h : n ≤ m) : (curK pos m n).length = m := by simp [curK]; omega
theorem curK_splice (pos : Int) (m n k : Nat) (h : n + k ≤ m) : splice (curK pos m n) n (List.replicate k (.int .i64 pos)) = curK pos m (n + k) := by
  unfold splice curK
  rw [List.take_left' (by simp), List.length_replicate, List.drop_append, List.drop_replicate, List.length_replicate, List.drop_replicate, ← List.append_assoc, ← List.append_assoc, List.replicate_append_replicate, show n - (n + k) = 0 by omega]
  simp
  omega
theorem made_zero (m : Nat) : madeCells #[Value.int .i64 0] m = (curK 0 m 0).toArray := by
  apply Array.ext
  · simp [madeCells, curK]
  · intro i h1 h2
    simp [madeCells, curK, Nat.mod_one]

theorem mk_slice (m : Nat) (hm : m ≤ 16) (w : World) : (Instr.makeSlice 69 (.int .i64 (m : Int)) (.int .i64 (m : Int))).run Try.prog w = .ok (.slice (some ⟨w.heap.size, 0, none⟩) m m) (w.alloc (.cells (curK 0 m 0).toArray 2)) := by
  have hinf : (Try.prog.info? 2).map (fun i => (i.zero, i.size, i.bytes)) = some (some (.int .i64 0), 1, 8) := by kernel_rfl
  obtain ⟨i, hi, hz, hs, hb⟩ := info_parts hinf
  have h := run_make (P := Try.prog) w 69 2 i (.int .i64 0) Try.underlying69 hi hz .i64 .i64 (m : Int) (m : Int) (by omega) (by omega) (by rw [hb]; omega) (by omega)
  rw [h, hs]
  simp only [Int.toNat_natCast, Nat.mul_one]
  rw [show (Value.int IntKind.i64 0).cells = #[Value.int .i64 0] from rfl, made_zero]

theorem mulu_at (x y hi lo : Int) (w : World) (hx : 0 ≤ x ∧ x ≤ 18446744073709551615) (hy : 0 ≤ y ∧ y ≤ 18446744073709551615) (h1 : x * y / 18446744073709551616 = hi) (h2 : x * y % 18446744073709551616 = lo) :
    Calls Try.prog 71 #[.int .u64 x, .int .u64 y] w fun e w' => e = .returned (.tuple #[.int .u64 hi, .int .u64 lo]) ∧ w = w' := by
  obtain ⟨a, rfl⟩ := Int.eq_ofNat_of_zero_le hx.1
  obtain ⟨b, rfl⟩ := Int.eq_ofNat_of_zero_le hy.1
  refine (Try.bits_Mul a b (by omega) (by omega) w).mono ?_
  rintro e w' ⟨rfl, rfl⟩
  subst h1
  subst h2
  refine ⟨?_, rfl⟩
  simp

set_option maxRecDepth 100000 in
set_option maxHeartbeats 2000000 in
theorem sm_repeat_at (pos : Int) (m b off cap : Nat) (w : World) (hm : 1 ≤ m ∧ m ≤ 16) (hcap : 1 ≤ cap ∧ cap ≤ 9223372036854775807) (hb : b < w.heap.size) (hc : w.cell? ⟨b, off, none⟩ = some (.int .i64 pos)) :
    Calls Try.prog 63 #[.slice (some ⟨b, off, none⟩) 1 cap, .int .i64 (m : Int)] w fun e w' => e = .returned (.slice (some ⟨w.heap.size, 0, none⟩) m m) ∧ Below w.heap.size w w' ∧ Hid (w'.heap[w.heap.size]? = some (.cells (curK pos m m).toArray 2)) := by
  have hmI : (1 : Int) ≤ (m : Int) ∧ (m : Int) ≤ 16 := by omega
  have hmk := mk_slice m hm.2
  go_enter Try.func63, Try.ntmps63
  go_wp2_with fail
  refine (mulu_at 1 m 0 m _ (by omega) (by omega) (by omega) (by omega)).mono ?_
  rintro e w1 ⟨rfl, rfl⟩
  go_wp2_with (with_reducible refine wpList_copy_splice rfl _ _ _ _ rfl 2 Try.underlying69 (by kernel_rfl) _ _ _ _ _ _ rfl rfl w.heap.size 0 (curK 0 m 0) 2 ?_ [.int .i64 pos] ?_ ?_ ?_ ?_ w.heap.size w ?_ ?_ ?_)
  · show (w.heap.push _)[w.heap.size]? = _
    simp
  · exact (Nat.min_eq_left hm.1).symm
  · intro j v hj
    cases j with
    | zero =>
      simp at hj
      rw [← hj]
      exact hc
    | succ j => simp at hj
  · rw [curK_len 0 m 0 (by omega)]
    simp
    omega
  · intro v hv
    simp at hv
    rw [hv]
    rfl
  · exact below_new (Below.refl _ _) (Nat.le_refl _) _
  · exact Nat.le_refl _
  intro w2 hw2 hb2
  have hsp : splice (curK 0 m 0) 0 [Value.int .i64 pos] = curK pos m 1 := by
    have := curK_splice pos m 0 1 (by omega)
    exact this
  rw [hsp] at hw2
  clear hsp hmk
  go_wp2_with fail
  go_loopw [8] (fun u w' => ∃ n : Nat, 1 ≤ n ∧ n ≤ m ∧ u = .int .i64 (n : Int) ∧ Hid (w'.heap[w.heap.size]? = some (.cells (curK pos m n).toArray 2)) ∧ Below w.heap.size w w') (fun u _ => m - (intOf u).toNat)
  case atStart => exact ⟨1, by omega, by omega, rfl, hw2, hb2⟩
  case round =>
    obtain ⟨n, hn1, hnm, rfl, HW, hbr⟩ := hrel
    clear hw2 hb2
    by_cases hlt : n < m
    · have hnI : (1 : Int) ≤ (n : Int) ∧ (n : Int) < (m : Int) := by omega
      go_wp2_with fail
      obtain ⟨k, hk⟩ : ∃ k, min n (m - n) = k := ⟨_, rfl⟩
      have hkb : 1 ≤ k ∧ k ≤ n ∧ n + k ≤ m := by omega
      have hlen : (List.replicate k (Value.int .i64 pos)).length = Nat.min n (m - n) := by
        rw [List.length_replicate]
        exact hk.symm
      have hsrc : 0 < (List.replicate k (Value.int .i64 pos)).length → some (⟨w.heap.size, n, none⟩ : Addr) = some ⟨w.heap.size, n, none⟩ ∧ ∃ ad, some (⟨w.heap.size, 0, none⟩ : Addr) = some ad ∧ ∀ j v, (List.replicate k (Value.int .i64 pos))[j]? = some v → wr.drew.cell? (ad.add j) = some v := by
        refine fun _ => ⟨rfl, _, rfl, fun j v hj => ?_⟩
        have hjk : j < k := by
          have := (List.getElem?_eq_some_iff.1 hj).1
          simpa using this
        have hv : v = .int .i64 pos := by
          rw [List.getElem?_replicate, if_pos hjk] at hj
          exact (Option.some.inj hj).symm
        have hw : wr.drew.heap[w.heap.size]? = some (.cells (curK pos m n).toArray 2) := HW.out
        have had : (⟨w.heap.size, 0, none⟩ : Addr).add j = ⟨w.heap.size, j, none⟩ := by cases j <;> simp [Addr.add]
        rw [had, hv]
        refine heap_cell j _ hw ?_
        rw [List.getElem?_toArray]
        unfold curK
        rw [List.getElem?_append_left (by simp; omega), List.getElem?_replicate, if_pos (by omega)]
      have hfit : n + (List.replicate k (Value.int .i64 pos)).length ≤ (curK pos m n).length := by rw [curK_len pos m n hnm, List.length_replicate]; omega
      have hone : ∀ v ∈ List.replicate k (Value.int .i64 pos), v.oneCell' = true := by
        intro v hv
        rw [(List.mem_replicate.1 hv).2]
        rfl
      have HLEN := Lib.hid hlen
      have HSRC := Lib.hid hsrc
      have HFIT := Lib.hid hfit
      have HONE := Lib.hid hone
      clear hlen hsrc hfit hone hk
      have hmn : ¬ m = n := by omega
      go_region_law ((refine step_copy_splice (by rfl) (.tmp 41) (.tmp 44) 69 69 (by rfl) 2 Try.underlying69 (by kernel_rfl) (some ⟨w.heap.size, n, none⟩) (some ⟨w.heap.size, 0, none⟩) (m - n) (m - n) n m (by go_simp) (by go_simp) w.heap.size n (curK pos m n) 2 HW.out (List.replicate k (.int .i64 pos)) HLEN.out HSRC.out HFIT.out HONE.out w.heap.size w hbr.drew (Nat.le_refl _) ?_; intro w4 hg4 hb4))
      rw [curK_splice pos m n k (by omega)] at hg4
      have HG := Lib.hid hg4
      clear hg4
      have hwr : IntKind.i64.wrap ((n : Int) + (k : Int)) = (n : Int) + (k : Int) := by
        rw [IntKind.wrap_i64]
        omega
      go_wp2
      go_roundw
      case rel => exact ⟨n + k, by omega, by omega, by go_num, HG⟩
      case measure => simp [intOf]; omega
    · obtain rfl : n = m := by omega
      go_wp2
      go_ret
      exact ⟨rfl, hbr, HW⟩

end Go.Proofs.Ytddakmlnkffgiaa
