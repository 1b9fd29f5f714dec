/- Merged: Two rows of the same numbers are the same. Two rows of one and the same expressions are the same. Loads of many cells in a region that draws its order. -/
import Derived.Test.YtcamegfnhbbaeaaM11
import Derived.Test.YtcamegfnhbbaeaaTreeI
import Derived.Test.YtcamegfnhbbaeaaWild
import Derived.Test.YtcamegfnhbbaeaaTreeY
import Derived.Deep.RegionHeld3
namespace Go.Proofs.Ytcamegfnhbbaeaa
open Go.RowKit
set_option linter.unusedVariables false
set_option linter.unusedSimpArgs false
attribute [local go_sem] ite_max ite_min vite_max vite_min ext_cell ext_frozen

/-- a row of numbers -/
def RowI (w : World) (A : Option Addr) (zs : List Int) (cap : Nat) : Prop := RowOf w 1 8 (fun z c => c = [Value.int .i64 z] ∧ I64 z) A zs cap
theorem RowI.at {w : World} {A : Option Addr} {zs : List Int} {cap : Nat} (h : RowI w A zs cap) {i : Nat} (hi : i < zs.length) : ∃ b off z, A = some ⟨b, off, none⟩ ∧ b < w.heap.size ∧ zs[i]? = some z ∧ w.cell? ⟨b, off + i, none⟩ = some (.int .i64 z) := by
  obtain ⟨b, off, z, cs, hA, hb, hz, ⟨rfl, _⟩, hc⟩ := RowOf.at h hi
  refine ⟨b, off, z, hA, hb, hz, ?_⟩
  have := hc 0 (by omega)
  rwa [Nat.mul_one, Nat.add_zero] at this

set_option maxRecDepth 100000 in
set_option maxHeartbeats 2000000 in
theorem same16_any (zs : List Int) (w : World) (A B : Option Addr) (ca cb : Nat) (hA : RowI w A zs ca) (hB : RowI w B zs cb) :
    Calls Try.prog 60 #[.slice A zs.length ca, .slice B zs.length cb] w fun e w' => e = .returned (.bool true) ∧ Below w.heap.size w w' := by
  have HA := Lib.hid hA
  have HB := Lib.hid hB
  have hla := hA.1
  have hca := hA.2.1
  have hlb := hB.1
  have hcb := hB.2.1
  obtain ⟨n, hn⟩ : ∃ n, zs.length = n := ⟨_, rfl⟩
  rw [hn] at hla hlb ⊢
  have HN := Lib.hid hn
  clear hA hB hn
  go_enter Try.func60, Try.ntmps60
  go_wp2_with fail
  go_loopw [5] (fun vi wr => ∃ (i : Nat), i ≤ n ∧ vi = .int .i64 i ∧ Below w.heap.size w wr) (fun vi _ => n - (intOf vi).toNat)
  case atStart => exact ⟨0, by omega, rfl, Below.refl _ _⟩
  case round =>
    obtain ⟨i, hi, rfl, hbr⟩ := hrel
    by_cases hlt : i < n
    · obtain ⟨b1, o1, z, rfl, hb1, hz1, c1⟩ := RowI.at (RowOf.mono HA.out hbr fun _ _ _ h => h) (i := i) (by rw [HN.out]; exact hlt)
      obtain ⟨b2, o2, y, rfl, hb2, hz2, c2⟩ := RowI.at (RowOf.mono HB.out hbr fun _ _ _ h => h) (i := i) (by rw [HN.out]; exact hlt)
      obtain rfl : z = y := by rw [hz1] at hz2; exact Option.some.inj hz2
      have hi0 : (0 : Int) ≤ (i : Int) ∧ (i : Int) < (n : Int) := by omega
      clear hz1 hz2
      go_wp2_with fail
      refine wp_region_ext (by kernel_rfl) (by kernel_rfl) ?_
      repeat (go_big_quiet_step (fail))
      refine wpQuiet_nil ?_
      intro v8 hv8
      replace hv8 := ext_below hv8
      go_wp2
      go_roundw
      case rel => exact ⟨i + 1, by omega, by go_num, hbr.trans (hv8.mono hbr.size)⟩
      case measure => simp [intOf]; omega
    · obtain rfl : i = n := by omega
      go_wp2
      go_ret
      exact ⟨rfl, hbr⟩

end Go.Proofs.Ytcamegfnhbbaeaa

namespace Go.Proofs.Ytcamegfnhbbaeaa
open Go.RowKit
set_option linter.unusedVariables false
set_option linter.unusedSimpArgs false
attribute [local go_sem] ite_max ite_min vite_max vite_min ext_cell ext_frozen extS_cell extS_frozen

set_option maxRecDepth 100000 in
set_option maxHeartbeats 4000000 in
theorem sameExprs_any : ∀ (k : Nat) (xs : List Ex), SizeOf.sizeOf xs < k → ∀ (w : World) (A B : Option Addr) (ca cb : Nat) (ln : Bool), RowE w A xs ca → RowE w B xs cb → Calls Try.prog 59 #[.slice A xs.length ca, .slice B xs.length cb, .bool ln] w fun e w' => e = .returned (.bool true) ∧ Below w.heap.size w w' := by
  intro k
  induction k with
  | zero => intro xs h; omega
  | succ k ih =>
    intro xs hsz w A B ca cb ln hA hB
    have HIH := Lib.hid ih
    have HA := Lib.hid hA
    have HB := Lib.hid hB
    have hla := hA.1
    have hca := hA.2.1
    have hlb := hB.1
    have hcb := hB.2.1
    obtain ⟨n, hn⟩ : ∃ n, xs.length = n := ⟨_, rfl⟩
    rw [hn] at hla hlb ⊢
    have HN := Lib.hid hn
    clear ih hA hB hn
    go_enter Try.func59, Try.ntmps59
    go_wp2_with fail
    go_loopw [7] (fun vi wr => ∃ (i : Nat), i ≤ n ∧ vi = .int .i64 i ∧ Below w.heap.size w wr) (fun vi _ => n - (intOf vi).toNat)
    case atStart => exact ⟨0, by omega, rfl, Below.refl _ _⟩
    case round =>
      obtain ⟨i, hi, rfl, hbr⟩ := hrel
      by_cases hlt : i < n
      · obtain ⟨b1, o1, x, A1, k1, rfl, hbl1, hx1, hat1, hsub1, hr1⟩ := RowE.at (HA.out.below hbr) (i := i) (by rw [HN.out]; exact hlt)
        obtain ⟨b2, o2, y, A2, k2, rfl, hbl2, hx2, hat2, hsub2, hr2⟩ := RowE.at (HB.out.below hbr) (i := i) (by rw [HN.out]; exact hlt)
        obtain rfl : x = y := by rw [hx1] at hx2; exact Option.some.inj hx2
        have hi0 : (0 : Int) ≤ (i : Int) ∧ (i : Int) < (n : Int) := by omega
        have HX := Lib.hid hx1
        have HR1 := Lib.hid hr1
        have HR2 := Lib.hid hr2
        have HS1 := Lib.hid hsub1
        have HS2 := Lib.hid hsub2
        have HB1 := Lib.hid hbr
        clear hx1 hx2 hr1 hr2 hsub1 hsub2 hat1 hat2
        have hz := hbr.size
        clear hbr
        have c0 : wr.cell? ⟨b1, o1 + i * 6, none⟩ = some (.int .i64 x.op) := HR1.out 0 _ rfl
        have c1 : wr.cell? ⟨b1, o1 + i * 6 + 1, none⟩ = some (.int .i64 x.n) := HR1.out 1 _ rfl
        have c2 : wr.cell? ⟨b1, o1 + i * 6 + 2, none⟩ = some (.string x.name) := HR1.out 2 _ rfl
        have c3 : wr.cell? ⟨b1, o1 + i * 6 + 3, none⟩ = some (.string x.field) := HR1.out 3 _ rfl
        have c4 : wr.cell? ⟨b1, o1 + i * 6 + 4, none⟩ = some (.slice A1 x.sub.length k1) := HR1.out 4 _ rfl
        have c5 : wr.cell? ⟨b1, o1 + i * 6 + 5, none⟩ = some (.int .i64 x.line) := HR1.out 5 _ rfl
        have e0 : wr.cell? ⟨b2, o2 + i * 6, none⟩ = some (.int .i64 x.op) := HR2.out 0 _ rfl
        have e1 : wr.cell? ⟨b2, o2 + i * 6 + 1, none⟩ = some (.int .i64 x.n) := HR2.out 1 _ rfl
        have e2 : wr.cell? ⟨b2, o2 + i * 6 + 2, none⟩ = some (.string x.name) := HR2.out 2 _ rfl
        have e3 : wr.cell? ⟨b2, o2 + i * 6 + 3, none⟩ = some (.string x.field) := HR2.out 3 _ rfl
        have e4 : wr.cell? ⟨b2, o2 + i * 6 + 4, none⟩ = some (.slice A2 x.sub.length k2) := HR2.out 4 _ rfl
        have e5 : wr.cell? ⟨b2, o2 + i * 6 + 5, none⟩ = some (.int .i64 x.line) := HR2.out 5 _ rfl
        go_upto_region 6 with (fail)
        go_region
        all_goals
          cases ln
          all_goals
            go_wp2_with fail
            refine (HIH.out x.sub (by have := sub_lt HX.out; omega) _ _ _ _ _ _ (RowE.below HS1.out ?bx1) (RowE.below HS2.out ?bx2)).mono ?_
            case bx1 => (repeat' (first | (with_reducible exact Below.refl _ _) | (with_reducible assumption) | (with_reducible refine below_drewN ?_ _) | (with_reducible refine Below.drew ?_) | (with_reducible refine below_new ?_ (Nat.le_refl _) _) | (with_reducible refine Below.setCell ?_ ?_ _) | (with_reducible refine below_go ?_ (by assumption) (Nat.le_refl _)) | (simp; done) | (simp; omega) | omega))
            case bx2 => (repeat' (first | (with_reducible exact Below.refl _ _) | (with_reducible assumption) | (with_reducible refine below_drewN ?_ _) | (with_reducible refine Below.drew ?_) | (with_reducible refine below_new ?_ (Nat.le_refl _) _) | (with_reducible refine Below.setCell ?_ ?_ _) | (with_reducible refine below_go ?_ (by assumption) (Nat.le_refl _)) | (simp; done) | (simp; omega) | omega))
            rintro e w2 ⟨rfl, hb2⟩
            have hB2 : Below wr.heap.size wr w2 := by (repeat' (first | (with_reducible exact Below.refl _ _) | (with_reducible assumption) | (with_reducible refine below_drewN ?_ _) | (with_reducible refine Below.drew ?_) | (with_reducible refine below_new ?_ (Nat.le_refl _) _) | (with_reducible refine Below.setCell ?_ ?_ _) | (with_reducible refine below_go ?_ (by assumption) (Nat.le_refl _)) | (simp; done) | (simp; omega) | omega))
            clear hb2
            go_wp2
            go_roundw
            case rel => exact ⟨i + 1, by omega, by go_num, HB1.out.trans (hB2.mono HB1.out.size)⟩
            case measure => simp [intOf]; omega
      · obtain rfl : i = n := by omega
        go_wp2
        go_ret
        exact ⟨rfl, hbr⟩

end Go.Proofs.Ytcamegfnhbbaeaa

namespace Go.Proofs.Ytcamegfnhbbaeaa
open Go.RowKit
set_option linter.unusedVariables false
set_option linter.unusedSimpArgs false

/-- one value -/
def isOne (u v : Value) (_ : World) : Prop := v = u ∧ True
theorem isOne.below {u v : Value} {w w' : World} (h : isOne u v w) (_ : Below w.heap.size w w') : isOne u v w' := h
theorem wild_load_mid {P : Program} {w : World} {op : Oper} {ev : Operand → Value} (ty : TypeId) (x : Operand) (ho : op.op = .load ty x) (b o : Nat) (hx : ev x = .pointer (some ⟨b, o, none⟩)) (cs : List Value) (d : TypeDesc) (hc : w.rangeAt b o cs)
    (hu : P.underlying ty = some d) (hd : d.isRow = true) (hi : (P.info? ty).map (·.size) = some cs.length) : wildUpon P w (isOne (.agg cs.toArray)) (fun _ => []) ((execOp ev op).run P w) := by
  unfold execOp
  simp only [ho, hx, Instr.loadAt, Instr.sureAddr, Sem.run_bind, Sem.run_pure, Result.andThen_ok, run_loadVar_mid w b o ty cs d hc hu hd hi]
  exact wildUpon_value ⟨⟨rfl, trivial⟩, Below.refl _ _, fun b hb => by cases hb⟩
/-- a statement's variable, at first -/
def stm0 : Array Value := #[.int .i64 0, .string ⟨#[]⟩, .int .i64 0, .int .i64 0, .string ⟨#[]⟩, .string ⟨#[]⟩, .slice none 0 0, .int .i64 0, .int .i64 0, .int .i64 0, .string ⟨#[]⟩, .string ⟨#[]⟩, .slice none 0 0, .int .i64 0, .slice none 0 0, .slice none 0 0, .slice none 0 0, .slice none 0 0, .int .i64 0]
theorem range_below {w w' : World} {b o : Nat} {cs : List Value} (h : w.rangeAt b o cs) (hb : Below w.heap.size w w') : w'.rangeAt b o cs := fun j v hv => by
  have := h j v hv
  exact (hb.cell (p := ⟨b, o + j, none⟩) (cell_lt this)).trans this

section
variable {P : Program} {md : Region.Mode} {l : List Oper} {Q : Exit → Act → World → Prop} {S : World → Prop} {fuel : Nat} {listed : Array Bool} {a : Act} {w : World} {i : Nat} {o : Oper}
/-- 'wpAnyH_take', the operation written out -/
theorem takeH {v : Value} (hi : l[i]? = some o) (hs : Region.noSelect l.toArray = true) (hf : Region.free md l.toArray listed i = true) (hr : (Region.ready md l.toArray listed).contains i = true)
    (hQ : ∀ c a w, Q (.panic c) (a.put o.dst v) w → Q (.panic c) a w) (hy : YieldsIf P l.toArray S o v a) (hS : S w)
    (h : wpAnyH P md l.toArray Q S fuel (listed.setIfInBounds i true) (a.put o.dst v) w) : wpAnyH P md l.toArray Q S (fuel + 1) listed a w :=
  wpAnyH_take (by simpa using hi) hs hf hr hQ hy hS h
/-- one operation alone may come up -/
theorem oneH (hr : Region.ready md l.toArray listed = [i]) (ho : l[i]? = some o)
    (h : ∀ K' : Act → World → Prop, Shut (∀ a w, S w → (S w → wpAnyH P md l.toArray Q S fuel (listed.setIfInBounds i true) a w) → K' a w) → if Region.wanted o (yielded l.toArray a.tmps) = true then Oper.wp P o a w K' Q else K' (a.put o.dst undef) w) :
    wpAnyH P md l.toArray Q S (fuel + 1) listed a w :=
  wpAnyH_ready hr (by simp) (AllReadyH.cons (by simpa using ho) h AllReadyH.nil)
end

/-- two ranges -/
def TwoR (w : World) (b1 o1 : Nat) (c1 : List Value) (b2 o2 : Nat) (c2 : List Value) : Prop := w.rangeAt b1 o1 c1 ∧ w.rangeAt b2 o2 c2
theorem TwoR.below {w w' : World} {b1 o1 : Nat} {c1 : List Value} {b2 o2 : Nat} {c2 : List Value} (h : TwoR w b1 o1 c1 b2 o2 c2) (hb : Below w.heap.size w w') : TwoR w' b1 o1 c1 b2 o2 c2 := ⟨range_below h.1 hb, range_below h.2 hb⟩

theorem rowI_ext {W : World} {A : Option Addr} {zs : List Int} {c : Nat} (h : RowI W A zs c) (x : Ext W) : RowI (ext W x) A zs c := RowOf.mono h x.2 fun _ _ _ h => h
theorem rowT_ext {W : World} {A : Option Addr} {xs : List Stm} {c : Nat} (h : RowT W A xs c) (x : Ext W) : RowT (ext W x) A xs c := h.below x.2

end Go.Proofs.Ytcamegfnhbbaeaa
