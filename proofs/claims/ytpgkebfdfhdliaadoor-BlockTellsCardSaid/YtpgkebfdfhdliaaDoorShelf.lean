/-
 DERIVED: THE SHELF's CONTRACTS AT THIS DUMP, IN PLAIN WORDS (tools/lay-plain.mjs out of 'TrydShelf.lean', which tools/lay-shelf.mjs wrote): THE SAME DECLARATIONS UNDER THE SAME NAMES: 'import', 'namespace', 'open', 'def', 'theorem' AND NOTHING ELSE: no command of the shelf's: FOR A HAND-IN. Each laying: the table of numbers ('.._ren') and one theorem, a field a fact of the dump's own or the kernel's comparison; each contract: ONE APPLICATION.
-/
import Derived.Shelf.Small.Wraps
import Derived.Shelf.Strings.Prefix
import Derived.Shelf.Strings.Fields
import Derived.Shelf.Unicode.Latin
import Derived.Shelf.Unicode.Is16White
import Derived.Shelf.Unicode.IsSpaceAny
import Derived.Shelf.Unicode.Is16Any
import Derived.Shelf.Unicode.Is32Any
import Derived.Shelf.Unicode.ExclAny
import Derived.Ground.SlgnProg
import Derived.Shelf.SlicesE.Clone
import Derived.Test.YtpgkebfdfhdliaaDoorProg
namespace Go.Proofs
open Go.Shelf
def Tryd.lays211_ren : Go.Shelf.Ren := ⟨fun | 211 => 87 | 207 => 91 | n => n, fun | 9 => 9 | 4 => 4 | 3 => 3 | n => n, fun | n => n⟩
theorem Tryd.lays211 : Go.Proofs.Lays.n211 Tryd.prog Tryd.lays211_ren := {
 mixed := by kernel_rfl
 f207 := Tryd.func91.trans (congrArg some (by kernel_rfl))
 f211 := Tryd.func87.trans (congrArg some (by kernel_rfl))
 t3 := Tryd.underlying3
 a3 := Tryd.isAgg3
 z3 := Tryd.sizeOf3
 v3 := Tryd.zeroValue3
 t4 := Tryd.underlying4
 a4 := Tryd.isAgg4
 z4 := Tryd.sizeOf4
 v4 := Tryd.zeroValue4
 t9 := Tryd.underlying9
 a9 := Tryd.isAgg9
 z9 := Tryd.sizeOf9
 v9 := Tryd.zeroValue9 }
open Go.RowKit in
/-- internal/stringslite.CutSuffix (what strings.CutSuffix calls). (LAID: no walk: one application.) -/
theorem Tryd.stringslite_CutSuffix (s p : ByteArray) (w : World) (hs : s.size ≤ 9223372036854775807) :
  Calls Tryd.prog 87 #[.string s, .string p] w fun e w' => e = .returned (.tuple #[.string ⟨(Lib.trimSuffix s.data.toList p.data.toList).toArray⟩, .bool (Lib.hasSuffix s.data.toList p.data.toList)]) ∧ w' = w := Any.stringslite_CutSuffix Tryd.lays211 s p w hs
def Tryd.lays104_ren : Go.Shelf.Ren := ⟨fun | 104 => 79 | 211 => 87 | 207 => 91 | n => n, fun | 9 => 9 | 4 => 4 | 24 => 152 | 3 => 3 | n => n, fun | n => n⟩
theorem Tryd.lays104 : Go.Proofs.Lays.n104 Tryd.prog Tryd.lays104_ren := {
 mixed := by kernel_rfl
 f104 := Tryd.func79.trans (congrArg some (by kernel_rfl))
 f207 := Tryd.func91.trans (congrArg some (by kernel_rfl))
 f211 := Tryd.func87.trans (congrArg some (by kernel_rfl))
 t3 := Tryd.underlying3
 a3 := Tryd.isAgg3
 z3 := Tryd.sizeOf3
 v3 := Tryd.zeroValue3
 t4 := Tryd.underlying4
 a4 := Tryd.isAgg4
 z4 := Tryd.sizeOf4
 v4 := Tryd.zeroValue4
 t9 := Tryd.underlying9
 a9 := Tryd.isAgg9
 z9 := Tryd.sizeOf9
 v9 := Tryd.zeroValue9
 t24 := Tryd.underlying152
 a24 := Tryd.isAgg152
 z24 := Tryd.sizeOf152
 v24 := Tryd.zeroValue152 }
open Go.RowKit in
/-- strings.CutSuffix: "CutSuffix returns s without the provided ending suffix string and reports whether it found the suffix. If s doesn't end with suffix, CutSuffix returns s, false. If suffix is the empty string, CutSuffix returns s, true.": IT RETURNS '(Lib.trimSuffix s p, Lib.hasSuffix s p)'; the world is as it was. (LAID: no walk: one application.) -/
theorem Tryd.strings_CutSuffix (s p : ByteArray) (w : World) (hs : s.size ≤ 9223372036854775807) :
  Calls Tryd.prog 79 #[.string s, .string p] w fun e w' => e = .returned (.tuple #[.string ⟨(Lib.trimSuffix s.data.toList p.data.toList).toArray⟩, .bool (Lib.hasSuffix s.data.toList p.data.toList)]) ∧ w' = w := Any.strings_CutSuffix Tryd.lays104 s p w hs
def Tryd.lays207_ren : Go.Shelf.Ren := ⟨fun | 207 => 91 | n => n, fun | 9 => 9 | 4 => 4 | 3 => 3 | n => n, fun | n => n⟩
theorem Tryd.lays207 : Go.Proofs.Lays.n207 Tryd.prog Tryd.lays207_ren := {
 mixed := by kernel_rfl
 f207 := Tryd.func91.trans (congrArg some (by kernel_rfl))
 t3 := Tryd.underlying3
 a3 := Tryd.isAgg3
 z3 := Tryd.sizeOf3
 v3 := Tryd.zeroValue3
 t4 := Tryd.underlying4
 a4 := Tryd.isAgg4
 z4 := Tryd.sizeOf4
 v4 := Tryd.zeroValue4
 t9 := Tryd.underlying9
 a9 := Tryd.isAgg9
 z9 := Tryd.sizeOf9
 v9 := Tryd.zeroValue9 }
open Go.RowKit Go.Lib in
/-- internal/stringslite.HasSuffix (what strings.HasSuffix calls). (LAID: no walk: one application.) -/
theorem Tryd.stringslite_HasSuffix (s p : ByteArray) (w : World) (hs : s.size ≤ 9223372036854775807) :
  Calls Tryd.prog 91 #[.string s, .string p] w fun e w' => e = .returned (.bool (Lib.hasSuffix s.data.toList p.data.toList)) ∧ w' = w := Any.stringslite_HasSuffix Tryd.lays207 s p w hs
def Tryd.lays157_ren : Go.Shelf.Ren := ⟨fun | 157 => 78 | 229 => 85 | 199 => 86 | 261 => 90 | 311 => 92 | 312 => 93 | n => n, fun | 9 => 9 | 31 => 128 | 3 => 3 | 5 => 5 | 4 => 4 | 119 => 160 | 0 => 0 | 40 => 162 | 152 => 166 | 21 => 21 | 154 => 168 | 51 => 169 | 141 => 171 | 196 => 176 | 193 => 173 | 198 => 179 | 49 => 177 | 194 => 174 | 201 => 182 | 226 => 184 | 46 => 185 | 227 => 186 | n => n, fun | 0 => 0 | 6 => 1 | n => n⟩
theorem Tryd.lays157 : Go.Proofs.Lays.n157 Tryd.prog Tryd.lays157_ren := {
 mixed := by kernel_rfl
 f157 := Tryd.func78.trans (congrArg some (by kernel_rfl))
 f199 := Tryd.func86.trans (congrArg some (by kernel_rfl))
 f229 := Tryd.func85.trans (congrArg some (by kernel_rfl))
 f261 := Tryd.func90.trans (congrArg some (by kernel_rfl))
 f311 := Tryd.func92.trans (congrArg some (by kernel_rfl))
 f312 := Tryd.func93.trans (congrArg some (by kernel_rfl))
 t0 := Tryd.underlying0
 a0 := Tryd.isAgg0
 z0 := Tryd.sizeOf0
 v0 := Tryd.zeroValue0
 t3 := Tryd.underlying3
 a3 := Tryd.isAgg3
 z3 := Tryd.sizeOf3
 v3 := Tryd.zeroValue3
 t4 := Tryd.underlying4
 a4 := Tryd.isAgg4
 z4 := Tryd.sizeOf4
 v4 := Tryd.zeroValue4
 t5 := Tryd.underlying5
 a5 := Tryd.isAgg5
 z5 := Tryd.sizeOf5
 v5 := Tryd.zeroValue5
 t9 := Tryd.underlying9
 a9 := Tryd.isAgg9
 z9 := Tryd.sizeOf9
 v9 := Tryd.zeroValue9
 t21 := Tryd.underlying21
 a21 := Tryd.isAgg21
 z21 := Tryd.sizeOf21
 v21 := Tryd.zeroValue21
 t31 := Tryd.underlying128
 a31 := Tryd.isAgg128
 z31 := Tryd.sizeOf128
 v31 := Tryd.zeroValue128
 t40 := Tryd.underlying162
 a40 := Tryd.isAgg162
 z40 := Tryd.sizeOf162
 v40 := Tryd.zeroValue162
 t46 := Tryd.underlying185
 a46 := Tryd.isAgg185
 z46 := Tryd.sizeOf185
 v46 := Tryd.zeroValue185
 t49 := Tryd.underlying177
 a49 := Tryd.isAgg177
 z49 := Tryd.sizeOf177
 v49 := Tryd.zeroValue177
 t51 := Tryd.underlying169
 a51 := Tryd.isAgg169
 z51 := Tryd.sizeOf169
 v51 := Tryd.zeroValue169
 t119 := Tryd.underlying160
 a119 := Tryd.isAgg160
 z119 := Tryd.sizeOf160
 t141 := Tryd.underlying171
 a141 := Tryd.isAgg171
 z141 := Tryd.sizeOf171
 v141 := Tryd.zeroValue171
 t152 := Tryd.underlying166
 a152 := Tryd.isAgg166
 z152 := Tryd.sizeOf166
 v152 := Tryd.zeroValue166
 t154 := Tryd.underlying168
 a154 := Tryd.isAgg168
 z154 := Tryd.sizeOf168
 v154 := Tryd.zeroValue168
 t193 := Tryd.underlying173
 a193 := Tryd.isAgg173
 z193 := Tryd.sizeOf173
 v193 := Tryd.zeroValue173
 t194 := Tryd.underlying174
 a194 := Tryd.isAgg174
 z194 := Tryd.sizeOf174
 v194 := Tryd.zeroValue174
 t196 := Tryd.underlying176
 a196 := Tryd.isAgg176
 z196 := Tryd.sizeOf176
 v196 := Tryd.zeroValue176
 t198 := Tryd.underlying179
 a198 := Tryd.isAgg179
 z198 := Tryd.sizeOf179
 v198 := Tryd.zeroValue179
 t201 := Tryd.underlying182
 a201 := Tryd.isAgg182
 z201 := Tryd.sizeOf182
 v201 := Tryd.zeroValue182
 t226 := Tryd.underlying184
 a226 := Tryd.isAgg184
 z226 := Tryd.sizeOf184
 v226 := Tryd.zeroValue184
 t227 := Tryd.underlying186
 a227 := Tryd.isAgg186
 z227 := Tryd.sizeOf186
 v227 := Tryd.zeroValue186
 g0 := by kernel_rfl
 g6 := by kernel_rfl }
open Go.RowKit Go.Lib in
/-- strings.Fields, the table by 'Lib.TabIs' (as strings.TrimSpace's contract). 'hg': the table's number, by its name: at a dump 'by kernel_rfl'. (LAID: no walk: one application.) -/
theorem Tryd.strings_Fields (s : ByteArray) (w : World) (hs : s.size < 4294967281) (hascii : ∀ (j : Nat) b, s.data.toList[j]? = some b → b.toNat < 128) (htab : Lib.TabIs Tryd.prog w "strings.asciiSpace" .u8 Lib.asciiSpaceTab) :
  Calls Tryd.prog 78 #[.string s] w fun e w' =>
   e = .returned (.slice (some ⟨w.heap.size, 0, none⟩) (Lib.fields s.data.toList).length (Lib.fields s.data.toList).length) ∧ w' = w.alloc (.cells ((Lib.fields s.data.toList).map fun l => Value.string ⟨l.toArray⟩).toArray 9) := Any.strings_Fields Tryd.lays157 (by kernel_rfl) (by kernel_rfl) s w hs hascii htab
def Tryd.lays199_ren : Go.Shelf.Ren := ⟨fun | 199 => 86 | 261 => 90 | 311 => 92 | 312 => 93 | n => n, fun | 21 => 21 | 4 => 4 | 51 => 169 | 141 => 171 | 0 => 0 | 196 => 176 | 193 => 173 | 3 => 3 | 198 => 179 | 49 => 177 | 194 => 174 | 201 => 182 | 226 => 184 | 46 => 185 | 227 => 186 | n => n, fun | 6 => 1 | n => n⟩
theorem Tryd.lays199 : Go.Proofs.Lays.n199 Tryd.prog Tryd.lays199_ren := {
 mixed := by kernel_rfl
 f199 := Tryd.func86.trans (congrArg some (by kernel_rfl))
 f261 := Tryd.func90.trans (congrArg some (by kernel_rfl))
 f311 := Tryd.func92.trans (congrArg some (by kernel_rfl))
 f312 := Tryd.func93.trans (congrArg some (by kernel_rfl))
 t0 := Tryd.underlying0
 a0 := Tryd.isAgg0
 z0 := Tryd.sizeOf0
 v0 := Tryd.zeroValue0
 t3 := Tryd.underlying3
 a3 := Tryd.isAgg3
 z3 := Tryd.sizeOf3
 v3 := Tryd.zeroValue3
 t4 := Tryd.underlying4
 a4 := Tryd.isAgg4
 z4 := Tryd.sizeOf4
 v4 := Tryd.zeroValue4
 t21 := Tryd.underlying21
 a21 := Tryd.isAgg21
 z21 := Tryd.sizeOf21
 v21 := Tryd.zeroValue21
 t46 := Tryd.underlying185
 a46 := Tryd.isAgg185
 z46 := Tryd.sizeOf185
 v46 := Tryd.zeroValue185
 t49 := Tryd.underlying177
 a49 := Tryd.isAgg177
 z49 := Tryd.sizeOf177
 v49 := Tryd.zeroValue177
 t51 := Tryd.underlying169
 a51 := Tryd.isAgg169
 z51 := Tryd.sizeOf169
 v51 := Tryd.zeroValue169
 t141 := Tryd.underlying171
 a141 := Tryd.isAgg171
 z141 := Tryd.sizeOf171
 v141 := Tryd.zeroValue171
 t193 := Tryd.underlying173
 a193 := Tryd.isAgg173
 z193 := Tryd.sizeOf173
 v193 := Tryd.zeroValue173
 t194 := Tryd.underlying174
 a194 := Tryd.isAgg174
 z194 := Tryd.sizeOf174
 v194 := Tryd.zeroValue174
 t196 := Tryd.underlying176
 a196 := Tryd.isAgg176
 z196 := Tryd.sizeOf176
 v196 := Tryd.zeroValue176
 t198 := Tryd.underlying179
 a198 := Tryd.isAgg179
 z198 := Tryd.sizeOf179
 v198 := Tryd.zeroValue179
 t201 := Tryd.underlying182
 a201 := Tryd.isAgg182
 z201 := Tryd.sizeOf182
 v201 := Tryd.zeroValue182
 t226 := Tryd.underlying184
 a226 := Tryd.isAgg184
 z226 := Tryd.sizeOf184
 v226 := Tryd.zeroValue184
 t227 := Tryd.underlying186
 a227 := Tryd.isAgg186
 z227 := Tryd.sizeOf186
 v227 := Tryd.zeroValue186
 g6 := by kernel_rfl }
open Go.RowKit Go.Lib in
theorem Tryd.unicode_IsSpace (r : Int) (w : World) (h0 : 0 ≤ r) (h : r ≤ 255) :
  Calls Tryd.prog 86 #[.int .i32 r] w fun e w' => e = .returned (.bool (Lib.isSpaceL r)) ∧ w' = w := Any.unicode_IsSpace Tryd.lays199 r w h0 h
def Tryd.lays311_ren : Go.Shelf.Ren := ⟨fun | 311 => 92 | n => n, fun | 193 => 173 | 49 => 177 | 4 => 4 | 3 => 3 | 0 => 0 | 226 => 184 | 198 => 179 | 46 => 185 | n => n, fun | n => n⟩
theorem Tryd.lays311 : Go.Proofs.Lays.n311 Tryd.prog Tryd.lays311_ren := {
 mixed := by kernel_rfl
 f311 := Tryd.func92.trans (congrArg some (by kernel_rfl))
 t0 := Tryd.underlying0
 a0 := Tryd.isAgg0
 z0 := Tryd.sizeOf0
 v0 := Tryd.zeroValue0
 t3 := Tryd.underlying3
 a3 := Tryd.isAgg3
 z3 := Tryd.sizeOf3
 v3 := Tryd.zeroValue3
 t4 := Tryd.underlying4
 a4 := Tryd.isAgg4
 z4 := Tryd.sizeOf4
 v4 := Tryd.zeroValue4
 t46 := Tryd.underlying185
 a46 := Tryd.isAgg185
 z46 := Tryd.sizeOf185
 v46 := Tryd.zeroValue185
 t49 := Tryd.underlying177
 a49 := Tryd.isAgg177
 z49 := Tryd.sizeOf177
 v49 := Tryd.zeroValue177
 t193 := Tryd.underlying173
 a193 := Tryd.isAgg173
 z193 := Tryd.sizeOf173
 v193 := Tryd.zeroValue173
 t198 := Tryd.underlying179
 a198 := Tryd.isAgg179
 z198 := Tryd.sizeOf179
 v198 := Tryd.zeroValue179
 t226 := Tryd.underlying184
 a226 := Tryd.isAgg184
 z226 := Tryd.sizeOf184
 v226 := Tryd.zeroValue184 }
open Go.RowKit Go.Lib in
theorem Tryd.unicode_is16_white (R oR : Nat) (z : Nat) (w : World) (hz : z < 65536) (hz0 : 255 < z) (c6 : w.cell? ⟨R, oR + 6, none⟩ = some (.int .u16 160)) (c7 : w.cell? ⟨R, oR + 7, none⟩ = some (.int .u16 5760)) (c8 : w.cell? ⟨R, oR + 8, none⟩ = some (.int .u16 5600)) (c9 : w.cell? ⟨R, oR + 9, none⟩ = some (.int .u16 8192)) (c10 : w.cell? ⟨R, oR + 10, none⟩ = some (.int .u16 8202)) (c11 : w.cell? ⟨R, oR + 11, none⟩ = some (.int .u16 1)) (c12 : w.cell? ⟨R, oR + 12, none⟩ = some (.int .u16 8232)) (c13 : w.cell? ⟨R, oR + 13, none⟩ = some (.int .u16 8233)) (c14 : w.cell? ⟨R, oR + 14, none⟩ = some (.int .u16 1)) (c15 : w.cell? ⟨R, oR + 15, none⟩ = some (.int .u16 8239)) (c16 : w.cell? ⟨R, oR + 16, none⟩ = some (.int .u16 8287)) (c17 : w.cell? ⟨R, oR + 17, none⟩ = some (.int .u16 48)) (c18 : w.cell? ⟨R, oR + 18, none⟩ = some (.int .u16 12288)) (c19 : w.cell? ⟨R, oR + 19, none⟩ = some (.int .u16 12288)) (c20 : w.cell? ⟨R, oR + 20, none⟩ = some (.int .u16 1)) :
  Calls Tryd.prog 92 #[.slice (some ⟨R, oR + 6, none⟩) 5 5, .int .u16 z] w fun e w' => e = .returned (.bool (Lib.isSpaceR z)) ∧ Below w.heap.size w w' := Any.unicode_is16_white Tryd.lays311 R oR z w hz hz0 c6 c7 c8 c9 c10 c11 c12 c13 c14 c15 c16 c17 c18 c19 c20
def Tryd.lays261_ren : Go.Shelf.Ren := ⟨fun | 261 => 90 | 311 => 92 | 312 => 93 | n => n, fun | 141 => 171 | 21 => 21 | 4 => 4 | 0 => 0 | 196 => 176 | 193 => 173 | 3 => 3 | 51 => 169 | 198 => 179 | 49 => 177 | 194 => 174 | 201 => 182 | 226 => 184 | 46 => 185 | 227 => 186 | n => n, fun | n => n⟩
theorem Tryd.lays261 : Go.Proofs.Lays.n261 Tryd.prog Tryd.lays261_ren := {
 mixed := by kernel_rfl
 f261 := Tryd.func90.trans (congrArg some (by kernel_rfl))
 f311 := Tryd.func92.trans (congrArg some (by kernel_rfl))
 f312 := Tryd.func93.trans (congrArg some (by kernel_rfl))
 t0 := Tryd.underlying0
 a0 := Tryd.isAgg0
 z0 := Tryd.sizeOf0
 v0 := Tryd.zeroValue0
 t3 := Tryd.underlying3
 a3 := Tryd.isAgg3
 z3 := Tryd.sizeOf3
 v3 := Tryd.zeroValue3
 t4 := Tryd.underlying4
 a4 := Tryd.isAgg4
 z4 := Tryd.sizeOf4
 v4 := Tryd.zeroValue4
 t21 := Tryd.underlying21
 a21 := Tryd.isAgg21
 z21 := Tryd.sizeOf21
 v21 := Tryd.zeroValue21
 t46 := Tryd.underlying185
 a46 := Tryd.isAgg185
 z46 := Tryd.sizeOf185
 v46 := Tryd.zeroValue185
 t49 := Tryd.underlying177
 a49 := Tryd.isAgg177
 z49 := Tryd.sizeOf177
 v49 := Tryd.zeroValue177
 t51 := Tryd.underlying169
 a51 := Tryd.isAgg169
 z51 := Tryd.sizeOf169
 v51 := Tryd.zeroValue169
 t141 := Tryd.underlying171
 a141 := Tryd.isAgg171
 z141 := Tryd.sizeOf171
 v141 := Tryd.zeroValue171
 t193 := Tryd.underlying173
 a193 := Tryd.isAgg173
 z193 := Tryd.sizeOf173
 v193 := Tryd.zeroValue173
 t194 := Tryd.underlying174
 a194 := Tryd.isAgg174
 z194 := Tryd.sizeOf174
 v194 := Tryd.zeroValue174
 t196 := Tryd.underlying176
 a196 := Tryd.isAgg176
 z196 := Tryd.sizeOf176
 v196 := Tryd.zeroValue176
 t198 := Tryd.underlying179
 a198 := Tryd.isAgg179
 z198 := Tryd.sizeOf179
 v198 := Tryd.zeroValue179
 t201 := Tryd.underlying182
 a201 := Tryd.isAgg182
 z201 := Tryd.sizeOf182
 v201 := Tryd.zeroValue182
 t226 := Tryd.underlying184
 a226 := Tryd.isAgg184
 z226 := Tryd.sizeOf184
 v226 := Tryd.zeroValue184
 t227 := Tryd.underlying186
 a227 := Tryd.isAgg186
 z227 := Tryd.sizeOf186
 v227 := Tryd.zeroValue186 }
open Go.RowKit Go.Lib in
/-- unicode.isExcludingLatin(White_Space, r), r beyond U+00FF or negative. (LAID: no walk: one application.) -/
theorem Tryd.unicode_isExcludingLatin_white (T oT R oR : Nat) (r : Int) (w : World) (hlo : -2147483648 ≤ r) (hhi : r ≤ 2147483647) (hr : r < 0 ∨ 255 < r) (h2 : w.cell? ⟨T, oT, none⟩ = some (.slice (some ⟨R, oR, none⟩) 7 7)) (h3 : w.cell? ⟨T, oT + 1, none⟩ = some (.slice none 0 0)) (h4 : w.cell? ⟨T, oT + 2, none⟩ = some (.int .i64 2)) (h5 : ∀ i, i < 21 → w.cell? ⟨R, oR + i, none⟩ = some (.int .u16 (whiteT.getD i 0))) :
  Calls Tryd.prog 90 #[.pointer (some ⟨T, oT, none⟩), .int .i32 r] w fun e w' => e = .returned (.bool (Lib.isSpaceZ r)) ∧ Below w.heap.size w w' := Any.unicode_isExcludingLatin_white Tryd.lays261 T oT R oR r w hlo hhi hr h2 h3 h4 h5
open Go.RowKit Go.Lib in
/-- **unicode.IsSpace AT EVERY int32.** (LAID: no walk: one application.) -/
theorem Tryd.unicode_IsSpace_any (r : Int) (w : World) (hlo : -2147483648 ≤ r) (hhi : r ≤ 2147483647) (hW : Lib.WhiteTab 1 w) :
  Calls Tryd.prog 86 #[.int .i32 r] w fun e w' => e = .returned (.bool (Lib.isSpaceZ r)) ∧ Below w.heap.size w w' := Any.unicode_IsSpace_any Tryd.lays199 r w hlo hhi hW
open Go.RowKit Go.Lib in
theorem Tryd.unicode_is16_any (T : Array Rg) (R oR cap : Nat) (z : Nat) (w : World) (hz : z < 65536) (hT : RgTab .u16 R oR T w) (hok : RgOk 65536 T) (hn : T.size ≤ 1000000000) :
  Calls Tryd.prog 92 #[.slice (some ⟨R, oR, none⟩) T.size cap, .int .u16 z] w fun e w' => e = .returned (.bool (is16Go T z)) ∧ ∃ q, w' = w.drewN q := Any.unicode_is16_any Tryd.lays311 T R oR cap z w hz hT hok hn
def Tryd.lays312_ren : Go.Shelf.Ren := ⟨fun | 312 => 93 | n => n, fun | 194 => 174 | 51 => 169 | 4 => 4 | 3 => 3 | 0 => 0 | 227 => 186 | 201 => 182 | 46 => 185 | n => n, fun | n => n⟩
theorem Tryd.lays312 : Go.Proofs.Lays.n312 Tryd.prog Tryd.lays312_ren := {
 mixed := by kernel_rfl
 f312 := Tryd.func93.trans (congrArg some (by kernel_rfl))
 t0 := Tryd.underlying0
 a0 := Tryd.isAgg0
 z0 := Tryd.sizeOf0
 v0 := Tryd.zeroValue0
 t3 := Tryd.underlying3
 a3 := Tryd.isAgg3
 z3 := Tryd.sizeOf3
 v3 := Tryd.zeroValue3
 t4 := Tryd.underlying4
 a4 := Tryd.isAgg4
 z4 := Tryd.sizeOf4
 v4 := Tryd.zeroValue4
 t46 := Tryd.underlying185
 a46 := Tryd.isAgg185
 z46 := Tryd.sizeOf185
 v46 := Tryd.zeroValue185
 t51 := Tryd.underlying169
 a51 := Tryd.isAgg169
 z51 := Tryd.sizeOf169
 v51 := Tryd.zeroValue169
 t194 := Tryd.underlying174
 a194 := Tryd.isAgg174
 z194 := Tryd.sizeOf174
 v194 := Tryd.zeroValue174
 t201 := Tryd.underlying182
 a201 := Tryd.isAgg182
 z201 := Tryd.sizeOf182
 v201 := Tryd.zeroValue182
 t227 := Tryd.underlying186
 a227 := Tryd.isAgg186
 z227 := Tryd.sizeOf186
 v227 := Tryd.zeroValue186 }
open Go.RowKit Go.Lib in
theorem Tryd.unicode_is32_any (T : Array Rg) (R oR cap : Nat) (z : Nat) (w : World) (hz : z < 4294967296) (hT : RgTab .u32 R oR T w) (hok : RgOk 4294967296 T) (hn : T.size ≤ 1000000000) :
  Calls Tryd.prog 93 #[.slice (some ⟨R, oR, none⟩) T.size cap, .int .u32 z] w fun e w' => e = .returned (.bool (is32Go T z)) ∧ Below w.heap.size w w' := Any.unicode_is32_any Tryd.lays312 T R oR cap z w hz hT hok hn
open Go.RowKit Go.Lib in
theorem Tryd.unicode_isExcludingLatin_any (Tb oT : Nat) (T : RTab) (r : Int) (w : World) (hlo : -2147483648 ≤ r) (hhi : r ≤ 2147483647) (hA : RTabAt Tb oT T w) (hok : RTabOk T) :
  Calls Tryd.prog 90 #[.pointer (some ⟨Tb, oT, none⟩), .int .i32 r] w fun e w' => e = .returned (.bool (exclGo T r)) ∧ Below w.heap.size w w' := Any.unicode_isExcludingLatin_any Tryd.lays261 Tb oT T r w hlo hhi hA hok
def Tryd.laysSlE041_f36_ren : Go.Shelf.Ren := ⟨fun | 41 => 36 | n => n, fun | 22 => 30 | 23 => 2 | 4 => 4 | n => n, fun | n => n⟩
theorem Tryd.laysSlE041_f36 : Go.Proofs.SlLaysE0.n41 Tryd.prog Tryd.laysSlE041_f36_ren := {
 mixed := by kernel_rfl
 f41 := ⟨Tryd.f36.name, by decide, Tryd.func36.trans (congrArg some (by kernel_rfl))⟩
 t4 := Tryd.underlying4
 a4 := Tryd.isAgg4
 z4 := Tryd.sizeOf4
 v4 := Tryd.zeroValue4
 t22 := Tryd.underlying30
 a22 := Tryd.isAgg30
 z22 := Tryd.sizeOf30
 v22 := Tryd.zeroValue30 }
open Go.RowKit Go.Lib in
/-- slices.Clone: "Clone returns a copy of the slice. The elements are copied using assignment, so this is a shallow clone. The result may have additional unused capacity. The result preserves the nilness of s.": OF A SLICE THAT IS NOT nil IT RETURNS A SLICE THAT IS NOT nil, OF THE SAME CELLS, IN MEMORY OF THE CALL's OWN ('ownsRow': the how-to's 6f); below the heap's size at the call all is as it was. (LAID AT THE INSTANCE 'slices.Clone[[]int64,int64]': no walk: one application.) -/
theorem Tryd.slices_Clone (i0 : TypeInfo) (z : Value) (size bytes : Nat) (hi : Tryd.prog.info? 2 = some i0) (hz0 : i0.zero = some z) (hz1 : i0.size = size) (hz2 : i0.bytes = bytes) (hzs : z.cells.size = size) (hsz : 0 < size) (z23 : ∀ w, (Go.sizeOf 2).run Tryd.prog w = .ok size w) (b off n c : Nat) (news : List Value) (w : World) (hl : news.length = n * size) (hn : n ≤ maxLen) (hbig : n * bytes ≤ 140737488355328) (hc : ∀ j u, news[j]? = some u → w.cell? ⟨b, off + j, none⟩ = some u) (h1 : ∀ u ∈ news, u.oneCell' = true) :
  Calls Tryd.prog 36 #[.slice (some ⟨b, off, none⟩) n c] w fun e w' => ∃ v', e = .returned v' ∧ w'.ownsRow w.heap.size 2 size v' n news ∧ v' ≠ .slice none 0 0 ∧ Below w.heap.size w w' := AnyE.slices_Clone Tryd.laysSlE041_f36 i0 z size bytes hi hz0 hz1 hz2 hzs hsz z23 b off n c news w hl hn hbig hc h1
open Go.RowKit Go.Lib in
/-- The same at nil: nil comes back; the world is as it was; nothing is asked of the element's type. (LAID AT THE INSTANCE 'slices.Clone[[]int64,int64]': no walk: one application.) -/
theorem Tryd.slices_Clone_nil (n c : Nat) (w : World) :
  Calls Tryd.prog 36 #[.slice none n c] w fun e w' => e = .returned (.slice none 0 0) ∧ w' = w := AnyE.slices_Clone_nil Tryd.laysSlE041_f36 n c w
end Go.Proofs
