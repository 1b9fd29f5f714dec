/-
 DERIVED: THE SHELF's CONTRACTS AT THIS DUMP, IN PLAIN WORDS (tools/lay-plain.mjs out of 'TrydShelf.lean', which tools/lay-shelf.mjs wrote): THE SAME DECLARATIONS UNDER THE SAME NAMES: 'import', 'namespace', 'open', 'def', 'theorem' AND NOTHING ELSE: no command of the shelf's: FOR A HAND-IN. Each laying: the table of numbers ('.._ren') and one theorem, a field a fact of the dump's own or the kernel's comparison; each contract: ONE APPLICATION.
-/
import Derived.Shelf.Small.Wraps
import Derived.Shelf.Strings.Prefix
import Derived.Shelf.Strings.Fields
import Derived.Shelf.LaysM
import Derived.Shelf.Strings.SplitShaped
import Derived.Shelf.Unicode.Latin
import Derived.Shelf.Unicode.Is16White
import Derived.Shelf.Unicode.IsSpaceAny
import Derived.Shelf.Strings.FieldsFuncAny
import Derived.Shelf.Unicode.Is16Any
import Derived.Shelf.Unicode.Is32Any
import Derived.Shelf.Unicode.ExclAny
import Derived.Shelf.Strings.FieldsFuncGrows
import Derived.Ground.SlgnProg
import Derived.Shelf.SlicesE.Clone
import Derived.Test.YtknnhnefbbjcdaaDoorProg
namespace Go.Proofs
open Go.Shelf
def Tryd.lays211_ren : Go.Shelf.Ren := ⟨fun | 211 => 71 | 207 => 73 | n => n, fun | 9 => 9 | 4 => 4 | 3 => 3 | n => n, fun | n => n⟩
theorem Tryd.lays211 : Go.Proofs.Lays.n211 Tryd.prog Tryd.lays211_ren := {
 mixed := by kernel_rfl
 f207 := Tryd.func73.trans (congrArg some (by kernel_rfl))
 f211 := Tryd.func71.trans (congrArg some (by kernel_rfl))
 t3 := Tryd.underlying3
 a3 := Tryd.isAgg3
 z3 := Tryd.sizeOf3
 v3 := Tryd.zeroValue3
 t4 := Tryd.underlying4
 a4 := Tryd.isAgg4
 z4 := Tryd.sizeOf4
 v4 := Tryd.zeroValue4
 t9 := Tryd.underlying9
 a9 := Tryd.isAgg9
 z9 := Tryd.sizeOf9
 v9 := Tryd.zeroValue9 }
open Go.RowKit in
theorem Tryd.stringslite_CutSuffix (s p : ByteArray) (w : World) (hs : s.size ≤ 9223372036854775807) :
  Calls Tryd.prog 71 #[.string s, .string p] w fun e w' => e = .returned (.tuple #[.string ⟨(Lib.trimSuffix s.data.toList p.data.toList).toArray⟩, .bool (Lib.hasSuffix s.data.toList p.data.toList)]) ∧ w' = w := Any.stringslite_CutSuffix Tryd.lays211 s p w hs
def Tryd.lays104_ren : Go.Shelf.Ren := ⟨fun | 104 => 66 | 211 => 71 | 207 => 73 | n => n, fun | 9 => 9 | 4 => 4 | 24 => 146 | 3 => 3 | n => n, fun | n => n⟩
theorem Tryd.lays104 : Go.Proofs.Lays.n104 Tryd.prog Tryd.lays104_ren := {
 mixed := by kernel_rfl
 f104 := Tryd.func66.trans (congrArg some (by kernel_rfl))
 f207 := Tryd.func73.trans (congrArg some (by kernel_rfl))
 f211 := Tryd.func71.trans (congrArg some (by kernel_rfl))
 t3 := Tryd.underlying3
 a3 := Tryd.isAgg3
 z3 := Tryd.sizeOf3
 v3 := Tryd.zeroValue3
 t4 := Tryd.underlying4
 a4 := Tryd.isAgg4
 z4 := Tryd.sizeOf4
 v4 := Tryd.zeroValue4
 t9 := Tryd.underlying9
 a9 := Tryd.isAgg9
 z9 := Tryd.sizeOf9
 v9 := Tryd.zeroValue9
 t24 := Tryd.underlying146
 a24 := Tryd.isAgg146
 z24 := Tryd.sizeOf146
 v24 := Tryd.zeroValue146 }
open Go.RowKit in
theorem Tryd.strings_CutSuffix (s p : ByteArray) (w : World) (hs : s.size ≤ 9223372036854775807) :
  Calls Tryd.prog 66 #[.string s, .string p] w fun e w' => e = .returned (.tuple #[.string ⟨(Lib.trimSuffix s.data.toList p.data.toList).toArray⟩, .bool (Lib.hasSuffix s.data.toList p.data.toList)]) ∧ w' = w := Any.strings_CutSuffix Tryd.lays104 s p w hs
def Tryd.lays207_ren : Go.Shelf.Ren := ⟨fun | 207 => 73 | n => n, fun | 9 => 9 | 4 => 4 | 3 => 3 | n => n, fun | n => n⟩
theorem Tryd.lays207 : Go.Proofs.Lays.n207 Tryd.prog Tryd.lays207_ren := {
 mixed := by kernel_rfl
 f207 := Tryd.func73.trans (congrArg some (by kernel_rfl))
 t3 := Tryd.underlying3
 a3 := Tryd.isAgg3
 z3 := Tryd.sizeOf3
 v3 := Tryd.zeroValue3
 t4 := Tryd.underlying4
 a4 := Tryd.isAgg4
 z4 := Tryd.sizeOf4
 v4 := Tryd.zeroValue4
 t9 := Tryd.underlying9
 a9 := Tryd.isAgg9
 z9 := Tryd.sizeOf9
 v9 := Tryd.zeroValue9 }
open Go.RowKit Go.Lib in
theorem Tryd.stringslite_HasSuffix (s p : ByteArray) (w : World) (hs : s.size ≤ 9223372036854775807) :
  Calls Tryd.prog 73 #[.string s, .string p] w fun e w' => e = .returned (.bool (Lib.hasSuffix s.data.toList p.data.toList)) ∧ w' = w := Any.stringslite_HasSuffix Tryd.lays207 s p w hs
def Tryd.lays157_ren : Go.Shelf.Ren := ⟨fun | 157 => 65 | 229 => 69 | 199 => 70 | 261 => 72 | 311 => 74 | 312 => 75 | n => n, fun | 9 => 9 | 31 => 115 | 3 => 3 | 5 => 5 | 4 => 4 | 119 => 151 | 0 => 0 | 40 => 153 | 152 => 154 | 21 => 21 | 154 => 156 | 51 => 157 | 141 => 159 | 196 => 164 | 193 => 161 | 198 => 167 | 49 => 165 | 194 => 162 | 201 => 170 | 226 => 172 | 46 => 173 | 227 => 174 | n => n, fun | 0 => 0 | 6 => 1 | n => n⟩
theorem Tryd.lays157 : Go.Proofs.Lays.n157 Tryd.prog Tryd.lays157_ren := {
 mixed := by kernel_rfl
 f157 := Tryd.func65.trans (congrArg some (by kernel_rfl))
 f199 := Tryd.func70.trans (congrArg some (by kernel_rfl))
 f229 := Tryd.func69.trans (congrArg some (by kernel_rfl))
 f261 := Tryd.func72.trans (congrArg some (by kernel_rfl))
 f311 := Tryd.func74.trans (congrArg some (by kernel_rfl))
 f312 := Tryd.func75.trans (congrArg some (by kernel_rfl))
 t0 := Tryd.underlying0
 a0 := Tryd.isAgg0
 z0 := Tryd.sizeOf0
 v0 := Tryd.zeroValue0
 t3 := Tryd.underlying3
 a3 := Tryd.isAgg3
 z3 := Tryd.sizeOf3
 v3 := Tryd.zeroValue3
 t4 := Tryd.underlying4
 a4 := Tryd.isAgg4
 z4 := Tryd.sizeOf4
 v4 := Tryd.zeroValue4
 t5 := Tryd.underlying5
 a5 := Tryd.isAgg5
 z5 := Tryd.sizeOf5
 v5 := Tryd.zeroValue5
 t9 := Tryd.underlying9
 a9 := Tryd.isAgg9
 z9 := Tryd.sizeOf9
 v9 := Tryd.zeroValue9
 t21 := Tryd.underlying21
 a21 := Tryd.isAgg21
 z21 := Tryd.sizeOf21
 v21 := Tryd.zeroValue21
 t31 := Tryd.underlying115
 a31 := Tryd.isAgg115
 z31 := Tryd.sizeOf115
 v31 := Tryd.zeroValue115
 t40 := Tryd.underlying153
 a40 := Tryd.isAgg153
 z40 := Tryd.sizeOf153
 v40 := Tryd.zeroValue153
 t46 := Tryd.underlying173
 a46 := Tryd.isAgg173
 z46 := Tryd.sizeOf173
 v46 := Tryd.zeroValue173
 t49 := Tryd.underlying165
 a49 := Tryd.isAgg165
 z49 := Tryd.sizeOf165
 v49 := Tryd.zeroValue165
 t51 := Tryd.underlying157
 a51 := Tryd.isAgg157
 z51 := Tryd.sizeOf157
 v51 := Tryd.zeroValue157
 t119 := Tryd.underlying151
 a119 := Tryd.isAgg151
 z119 := Tryd.sizeOf151
 t141 := Tryd.underlying159
 a141 := Tryd.isAgg159
 z141 := Tryd.sizeOf159
 v141 := Tryd.zeroValue159
 t152 := Tryd.underlying154
 a152 := Tryd.isAgg154
 z152 := Tryd.sizeOf154
 v152 := Tryd.zeroValue154
 t154 := Tryd.underlying156
 a154 := Tryd.isAgg156
 z154 := Tryd.sizeOf156
 v154 := Tryd.zeroValue156
 t193 := Tryd.underlying161
 a193 := Tryd.isAgg161
 z193 := Tryd.sizeOf161
 v193 := Tryd.zeroValue161
 t194 := Tryd.underlying162
 a194 := Tryd.isAgg162
 z194 := Tryd.sizeOf162
 v194 := Tryd.zeroValue162
 t196 := Tryd.underlying164
 a196 := Tryd.isAgg164
 z196 := Tryd.sizeOf164
 v196 := Tryd.zeroValue164
 t198 := Tryd.underlying167
 a198 := Tryd.isAgg167
 z198 := Tryd.sizeOf167
 v198 := Tryd.zeroValue167
 t201 := Tryd.underlying170
 a201 := Tryd.isAgg170
 z201 := Tryd.sizeOf170
 v201 := Tryd.zeroValue170
 t226 := Tryd.underlying172
 a226 := Tryd.isAgg172
 z226 := Tryd.sizeOf172
 v226 := Tryd.zeroValue172
 t227 := Tryd.underlying174
 a227 := Tryd.isAgg174
 z227 := Tryd.sizeOf174
 v227 := Tryd.zeroValue174
 g0 := by kernel_rfl
 g6 := by kernel_rfl }
open Go.RowKit Go.Lib in
theorem Tryd.strings_Fields (s : ByteArray) (w : World) (hs : s.size < 4294967281) (hascii : ∀ (j : Nat) b, s.data.toList[j]? = some b → b.toNat < 128) (htab : Lib.TabIs Tryd.prog w "strings.asciiSpace" .u8 Lib.asciiSpaceTab) :
  Calls Tryd.prog 65 #[.string s] w fun e w' =>
   e = .returned (.slice (some ⟨w.heap.size, 0, none⟩) (Lib.fields s.data.toList).length (Lib.fields s.data.toList).length) ∧ w' = w.alloc (.cells ((Lib.fields s.data.toList).map fun l => Value.string ⟨l.toArray⟩).toArray 9) := Any.strings_Fields Tryd.lays157 (by kernel_rfl) (by kernel_rfl) s w hs hascii htab
def Tryd.laysM157_ren : Go.Shelf.Ren := ⟨fun | 157 => 65 | 229 => 69 | 199 => 70 | 261 => 72 | 311 => 74 | 312 => 75 | n => n, fun | 9 => 9 | 31 => 115 | 3 => 3 | 5 => 5 | 4 => 4 | 119 => 151 | 0 => 0 | 40 => 153 | 152 => 154 | 21 => 21 | 154 => 156 | 51 => 157 | 141 => 159 | 196 => 164 | 193 => 161 | 198 => 167 | 49 => 165 | 194 => 162 | 201 => 170 | 226 => 172 | 46 => 173 | 227 => 174 | n => n, fun | 0 => 0 | 6 => 1 | n => n⟩
theorem Tryd.laysM157 : Go.Proofs.LaysM.n157 Tryd.prog Tryd.laysM157_ren := {
 mixed := by kernel_rfl
 f157 := Tryd.func65.trans (congrArg some (by kernel_rfl))
 f199 := Tryd.func70.trans (congrArg some (by kernel_rfl))
 f229 := Tryd.func69.trans (congrArg some (by kernel_rfl))
 f261 := Tryd.func72.trans (congrArg some (by kernel_rfl))
 f311 := Tryd.func74.trans (congrArg some (by kernel_rfl))
 f312 := Tryd.func75.trans (congrArg some (by kernel_rfl))
 t0 := Tryd.underlying0
 a0 := Tryd.isAgg0
 z0 := Tryd.sizeOf0
 v0 := Tryd.zeroValue0
 t3 := Tryd.underlying3
 a3 := Tryd.isAgg3
 z3 := Tryd.sizeOf3
 v3 := Tryd.zeroValue3
 t4 := Tryd.underlying4
 a4 := Tryd.isAgg4
 z4 := Tryd.sizeOf4
 v4 := Tryd.zeroValue4
 t5 := Tryd.underlying5
 a5 := Tryd.isAgg5
 z5 := Tryd.sizeOf5
 v5 := Tryd.zeroValue5
 t9 := Tryd.underlying9
 a9 := Tryd.isAgg9
 z9 := Tryd.sizeOf9
 v9 := Tryd.zeroValue9
 t21 := Tryd.underlying21
 a21 := Tryd.isAgg21
 z21 := Tryd.sizeOf21
 v21 := Tryd.zeroValue21
 t31 := Tryd.underlying115
 a31 := Tryd.isAgg115
 z31 := Tryd.sizeOf115
 v31 := Tryd.zeroValue115
 t40 := Tryd.underlying153
 a40 := Tryd.isAgg153
 z40 := Tryd.sizeOf153
 v40 := Tryd.zeroValue153
 t46 := Tryd.underlying173
 a46 := Tryd.isAgg173
 z46 := Tryd.sizeOf173
 v46 := Tryd.zeroValue173
 t49 := Tryd.underlying165
 a49 := Tryd.isAgg165
 z49 := Tryd.sizeOf165
 v49 := Tryd.zeroValue165
 t51 := Tryd.underlying157
 a51 := Tryd.isAgg157
 z51 := Tryd.sizeOf157
 v51 := Tryd.zeroValue157
 t119 := Tryd.underlying151
 a119 := Tryd.isAgg151
 z119 := Tryd.sizeOf151
 t141 := Tryd.underlying159
 a141 := Tryd.isAgg159
 z141 := Tryd.sizeOf159
 v141 := Tryd.zeroValue159
 t152 := Tryd.underlying154
 a152 := Tryd.isAgg154
 z152 := Tryd.sizeOf154
 v152 := Tryd.zeroValue154
 t154 := Tryd.underlying156
 a154 := Tryd.isAgg156
 z154 := Tryd.sizeOf156
 v154 := Tryd.zeroValue156
 t193 := Tryd.underlying161
 a193 := Tryd.isAgg161
 z193 := Tryd.sizeOf161
 v193 := Tryd.zeroValue161
 t194 := Tryd.underlying162
 a194 := Tryd.isAgg162
 z194 := Tryd.sizeOf162
 v194 := Tryd.zeroValue162
 t196 := Tryd.underlying164
 a196 := Tryd.isAgg164
 z196 := Tryd.sizeOf164
 v196 := Tryd.zeroValue164
 t198 := Tryd.underlying167
 a198 := Tryd.isAgg167
 z198 := Tryd.sizeOf167
 v198 := Tryd.zeroValue167
 t201 := Tryd.underlying170
 a201 := Tryd.isAgg170
 z201 := Tryd.sizeOf170
 v201 := Tryd.zeroValue170
 t226 := Tryd.underlying172
 a226 := Tryd.isAgg172
 z226 := Tryd.sizeOf172
 v226 := Tryd.zeroValue172
 t227 := Tryd.underlying174
 a227 := Tryd.isAgg174
 z227 := Tryd.sizeOf174
 v227 := Tryd.zeroValue174
 g0 := by kernel_rfl
 g6 := by kernel_rfl
 i0 := by kernel_rfl
 i3 := by kernel_rfl
 i4 := by kernel_rfl
 i5 := by kernel_rfl
 i9 := by kernel_rfl
 i21 := by kernel_rfl
 i31 := by kernel_rfl
 i40 := by kernel_rfl
 i46 := by kernel_rfl
 i49 := by kernel_rfl
 i51 := by kernel_rfl
 i141 := by kernel_rfl
 i152 := by kernel_rfl
 i154 := by kernel_rfl
 i193 := by kernel_rfl
 i194 := by kernel_rfl
 i196 := by kernel_rfl
 i198 := by kernel_rfl
 i201 := by kernel_rfl
 i226 := by kernel_rfl
 i227 := by kernel_rfl
 m0 := by kernel_rfl
 m6 := by kernel_rfl }
open Go.RowKit Go.Lib in
theorem Tryd.strings_Fields_laid (s : ByteArray) (w : World) (hs : s.size < 4294967281) (hascii : ∀ (j : Nat) b, s.data.toList[j]? = some b → b.toNat < 128) (htab : Lib.TabIs Tryd.prog w "strings.asciiSpace" .u8 Lib.asciiSpaceTab) :
  Calls Tryd.prog 65 #[.string s] w fun e w' =>
   e = .returned (.slice (some ⟨w.heap.size, 0, none⟩) (Lib.fields s.data.toList).length (Lib.fields s.data.toList).length) ∧ w' = w.alloc (.cells ((Lib.fields s.data.toList).map fun l => Value.string ⟨l.toArray⟩).toArray 9) := Any.strings_Fields_laid Tryd.laysM157 s w hs hascii htab
def Tryd.lays199_ren : Go.Shelf.Ren := ⟨fun | 199 => 70 | 261 => 72 | 311 => 74 | 312 => 75 | n => n, fun | 21 => 21 | 4 => 4 | 51 => 157 | 141 => 159 | 0 => 0 | 196 => 164 | 193 => 161 | 3 => 3 | 198 => 167 | 49 => 165 | 194 => 162 | 201 => 170 | 226 => 172 | 46 => 173 | 227 => 174 | n => n, fun | 6 => 1 | n => n⟩
theorem Tryd.lays199 : Go.Proofs.Lays.n199 Tryd.prog Tryd.lays199_ren := {
 mixed := by kernel_rfl
 f199 := Tryd.func70.trans (congrArg some (by kernel_rfl))
 f261 := Tryd.func72.trans (congrArg some (by kernel_rfl))
 f311 := Tryd.func74.trans (congrArg some (by kernel_rfl))
 f312 := Tryd.func75.trans (congrArg some (by kernel_rfl))
 t0 := Tryd.underlying0
 a0 := Tryd.isAgg0
 z0 := Tryd.sizeOf0
 v0 := Tryd.zeroValue0
 t3 := Tryd.underlying3
 a3 := Tryd.isAgg3
 z3 := Tryd.sizeOf3
 v3 := Tryd.zeroValue3
 t4 := Tryd.underlying4
 a4 := Tryd.isAgg4
 z4 := Tryd.sizeOf4
 v4 := Tryd.zeroValue4
 t21 := Tryd.underlying21
 a21 := Tryd.isAgg21
 z21 := Tryd.sizeOf21
 v21 := Tryd.zeroValue21
 t46 := Tryd.underlying173
 a46 := Tryd.isAgg173
 z46 := Tryd.sizeOf173
 v46 := Tryd.zeroValue173
 t49 := Tryd.underlying165
 a49 := Tryd.isAgg165
 z49 := Tryd.sizeOf165
 v49 := Tryd.zeroValue165
 t51 := Tryd.underlying157
 a51 := Tryd.isAgg157
 z51 := Tryd.sizeOf157
 v51 := Tryd.zeroValue157
 t141 := Tryd.underlying159
 a141 := Tryd.isAgg159
 z141 := Tryd.sizeOf159
 v141 := Tryd.zeroValue159
 t193 := Tryd.underlying161
 a193 := Tryd.isAgg161
 z193 := Tryd.sizeOf161
 v193 := Tryd.zeroValue161
 t194 := Tryd.underlying162
 a194 := Tryd.isAgg162
 z194 := Tryd.sizeOf162
 v194 := Tryd.zeroValue162
 t196 := Tryd.underlying164
 a196 := Tryd.isAgg164
 z196 := Tryd.sizeOf164
 v196 := Tryd.zeroValue164
 t198 := Tryd.underlying167
 a198 := Tryd.isAgg167
 z198 := Tryd.sizeOf167
 v198 := Tryd.zeroValue167
 t201 := Tryd.underlying170
 a201 := Tryd.isAgg170
 z201 := Tryd.sizeOf170
 v201 := Tryd.zeroValue170
 t226 := Tryd.underlying172
 a226 := Tryd.isAgg172
 z226 := Tryd.sizeOf172
 v226 := Tryd.zeroValue172
 t227 := Tryd.underlying174
 a227 := Tryd.isAgg174
 z227 := Tryd.sizeOf174
 v227 := Tryd.zeroValue174
 g6 := by kernel_rfl }
open Go.RowKit Go.Lib in
theorem Tryd.unicode_IsSpace (r : Int) (w : World) (h0 : 0 ≤ r) (h : r ≤ 255) :
  Calls Tryd.prog 70 #[.int .i32 r] w fun e w' => e = .returned (.bool (Lib.isSpaceL r)) ∧ w' = w := Any.unicode_IsSpace Tryd.lays199 r w h0 h
def Tryd.lays311_ren : Go.Shelf.Ren := ⟨fun | 311 => 74 | n => n, fun | 193 => 161 | 49 => 165 | 4 => 4 | 3 => 3 | 0 => 0 | 226 => 172 | 198 => 167 | 46 => 173 | n => n, fun | n => n⟩
theorem Tryd.lays311 : Go.Proofs.Lays.n311 Tryd.prog Tryd.lays311_ren := {
 mixed := by kernel_rfl
 f311 := Tryd.func74.trans (congrArg some (by kernel_rfl))
 t0 := Tryd.underlying0
 a0 := Tryd.isAgg0
 z0 := Tryd.sizeOf0
 v0 := Tryd.zeroValue0
 t3 := Tryd.underlying3
 a3 := Tryd.isAgg3
 z3 := Tryd.sizeOf3
 v3 := Tryd.zeroValue3
 t4 := Tryd.underlying4
 a4 := Tryd.isAgg4
 z4 := Tryd.sizeOf4
 v4 := Tryd.zeroValue4
 t46 := Tryd.underlying173
 a46 := Tryd.isAgg173
 z46 := Tryd.sizeOf173
 v46 := Tryd.zeroValue173
 t49 := Tryd.underlying165
 a49 := Tryd.isAgg165
 z49 := Tryd.sizeOf165
 v49 := Tryd.zeroValue165
 t193 := Tryd.underlying161
 a193 := Tryd.isAgg161
 z193 := Tryd.sizeOf161
 v193 := Tryd.zeroValue161
 t198 := Tryd.underlying167
 a198 := Tryd.isAgg167
 z198 := Tryd.sizeOf167
 v198 := Tryd.zeroValue167
 t226 := Tryd.underlying172
 a226 := Tryd.isAgg172
 z226 := Tryd.sizeOf172
 v226 := Tryd.zeroValue172 }
open Go.RowKit Go.Lib in
theorem Tryd.unicode_is16_white (R oR : Nat) (z : Nat) (w : World) (hz : z < 65536) (hz0 : 255 < z) (c6 : w.cell? ⟨R, oR + 6, none⟩ = some (.int .u16 160)) (c7 : w.cell? ⟨R, oR + 7, none⟩ = some (.int .u16 5760)) (c8 : w.cell? ⟨R, oR + 8, none⟩ = some (.int .u16 5600)) (c9 : w.cell? ⟨R, oR + 9, none⟩ = some (.int .u16 8192)) (c10 : w.cell? ⟨R, oR + 10, none⟩ = some (.int .u16 8202)) (c11 : w.cell? ⟨R, oR + 11, none⟩ = some (.int .u16 1)) (c12 : w.cell? ⟨R, oR + 12, none⟩ = some (.int .u16 8232)) (c13 : w.cell? ⟨R, oR + 13, none⟩ = some (.int .u16 8233)) (c14 : w.cell? ⟨R, oR + 14, none⟩ = some (.int .u16 1)) (c15 : w.cell? ⟨R, oR + 15, none⟩ = some (.int .u16 8239)) (c16 : w.cell? ⟨R, oR + 16, none⟩ = some (.int .u16 8287)) (c17 : w.cell? ⟨R, oR + 17, none⟩ = some (.int .u16 48)) (c18 : w.cell? ⟨R, oR + 18, none⟩ = some (.int .u16 12288)) (c19 : w.cell? ⟨R, oR + 19, none⟩ = some (.int .u16 12288)) (c20 : w.cell? ⟨R, oR + 20, none⟩ = some (.int .u16 1)) :
  Calls Tryd.prog 74 #[.slice (some ⟨R, oR + 6, none⟩) 5 5, .int .u16 z] w fun e w' => e = .returned (.bool (Lib.isSpaceR z)) ∧ Below w.heap.size w w' := Any.unicode_is16_white Tryd.lays311 R oR z w hz hz0 c6 c7 c8 c9 c10 c11 c12 c13 c14 c15 c16 c17 c18 c19 c20
def Tryd.lays261_ren : Go.Shelf.Ren := ⟨fun | 261 => 72 | 311 => 74 | 312 => 75 | n => n, fun | 141 => 159 | 21 => 21 | 4 => 4 | 0 => 0 | 196 => 164 | 193 => 161 | 3 => 3 | 51 => 157 | 198 => 167 | 49 => 165 | 194 => 162 | 201 => 170 | 226 => 172 | 46 => 173 | 227 => 174 | n => n, fun | n => n⟩
theorem Tryd.lays261 : Go.Proofs.Lays.n261 Tryd.prog Tryd.lays261_ren := {
 mixed := by kernel_rfl
 f261 := Tryd.func72.trans (congrArg some (by kernel_rfl))
 f311 := Tryd.func74.trans (congrArg some (by kernel_rfl))
 f312 := Tryd.func75.trans (congrArg some (by kernel_rfl))
 t0 := Tryd.underlying0
 a0 := Tryd.isAgg0
 z0 := Tryd.sizeOf0
 v0 := Tryd.zeroValue0
 t3 := Tryd.underlying3
 a3 := Tryd.isAgg3
 z3 := Tryd.sizeOf3
 v3 := Tryd.zeroValue3
 t4 := Tryd.underlying4
 a4 := Tryd.isAgg4
 z4 := Tryd.sizeOf4
 v4 := Tryd.zeroValue4
 t21 := Tryd.underlying21
 a21 := Tryd.isAgg21
 z21 := Tryd.sizeOf21
 v21 := Tryd.zeroValue21
 t46 := Tryd.underlying173
 a46 := Tryd.isAgg173
 z46 := Tryd.sizeOf173
 v46 := Tryd.zeroValue173
 t49 := Tryd.underlying165
 a49 := Tryd.isAgg165
 z49 := Tryd.sizeOf165
 v49 := Tryd.zeroValue165
 t51 := Tryd.underlying157
 a51 := Tryd.isAgg157
 z51 := Tryd.sizeOf157
 v51 := Tryd.zeroValue157
 t141 := Tryd.underlying159
 a141 := Tryd.isAgg159
 z141 := Tryd.sizeOf159
 v141 := Tryd.zeroValue159
 t193 := Tryd.underlying161
 a193 := Tryd.isAgg161
 z193 := Tryd.sizeOf161
 v193 := Tryd.zeroValue161
 t194 := Tryd.underlying162
 a194 := Tryd.isAgg162
 z194 := Tryd.sizeOf162
 v194 := Tryd.zeroValue162
 t196 := Tryd.underlying164
 a196 := Tryd.isAgg164
 z196 := Tryd.sizeOf164
 v196 := Tryd.zeroValue164
 t198 := Tryd.underlying167
 a198 := Tryd.isAgg167
 z198 := Tryd.sizeOf167
 v198 := Tryd.zeroValue167
 t201 := Tryd.underlying170
 a201 := Tryd.isAgg170
 z201 := Tryd.sizeOf170
 v201 := Tryd.zeroValue170
 t226 := Tryd.underlying172
 a226 := Tryd.isAgg172
 z226 := Tryd.sizeOf172
 v226 := Tryd.zeroValue172
 t227 := Tryd.underlying174
 a227 := Tryd.isAgg174
 z227 := Tryd.sizeOf174
 v227 := Tryd.zeroValue174 }
open Go.RowKit Go.Lib in
theorem Tryd.unicode_isExcludingLatin_white (T oT R oR : Nat) (r : Int) (w : World) (hlo : -2147483648 ≤ r) (hhi : r ≤ 2147483647) (hr : r < 0 ∨ 255 < r) (h2 : w.cell? ⟨T, oT, none⟩ = some (.slice (some ⟨R, oR, none⟩) 7 7)) (h3 : w.cell? ⟨T, oT + 1, none⟩ = some (.slice none 0 0)) (h4 : w.cell? ⟨T, oT + 2, none⟩ = some (.int .i64 2)) (h5 : ∀ i, i < 21 → w.cell? ⟨R, oR + i, none⟩ = some (.int .u16 (whiteT.getD i 0))) :
  Calls Tryd.prog 72 #[.pointer (some ⟨T, oT, none⟩), .int .i32 r] w fun e w' => e = .returned (.bool (Lib.isSpaceZ r)) ∧ Below w.heap.size w w' := Any.unicode_isExcludingLatin_white Tryd.lays261 T oT R oR r w hlo hhi hr h2 h3 h4 h5
open Go.RowKit Go.Lib in
theorem Tryd.unicode_IsSpace_any (r : Int) (w : World) (hlo : -2147483648 ≤ r) (hhi : r ≤ 2147483647) (hW : Lib.WhiteTab 1 w) :
  Calls Tryd.prog 70 #[.int .i32 r] w fun e w' => e = .returned (.bool (Lib.isSpaceZ r)) ∧ Below w.heap.size w w' := Any.unicode_IsSpace_any Tryd.lays199 r w hlo hhi hW
def Tryd.lays229_ren : Go.Shelf.Ren := ⟨fun | 229 => 69 | n => n, fun | 9 => 9 | 40 => 153 | 31 => 115 | 152 => 154 | 3 => 3 | 0 => 0 | 4 => 4 | 21 => 21 | 154 => 156 | n => n, fun | n => n⟩
theorem Tryd.lays229 : Go.Proofs.Lays.n229 Tryd.prog Tryd.lays229_ren := {
 mixed := by kernel_rfl
 f229 := Tryd.func69.trans (congrArg some (by kernel_rfl))
 t0 := Tryd.underlying0
 a0 := Tryd.isAgg0
 z0 := Tryd.sizeOf0
 v0 := Tryd.zeroValue0
 t3 := Tryd.underlying3
 a3 := Tryd.isAgg3
 z3 := Tryd.sizeOf3
 v3 := Tryd.zeroValue3
 t4 := Tryd.underlying4
 a4 := Tryd.isAgg4
 z4 := Tryd.sizeOf4
 v4 := Tryd.zeroValue4
 t9 := Tryd.underlying9
 a9 := Tryd.isAgg9
 z9 := Tryd.sizeOf9
 v9 := Tryd.zeroValue9
 t21 := Tryd.underlying21
 a21 := Tryd.isAgg21
 z21 := Tryd.sizeOf21
 v21 := Tryd.zeroValue21
 t31 := Tryd.underlying115
 a31 := Tryd.isAgg115
 z31 := Tryd.sizeOf115
 v31 := Tryd.zeroValue115
 t40 := Tryd.underlying153
 a40 := Tryd.isAgg153
 z40 := Tryd.sizeOf153
 v40 := Tryd.zeroValue153
 t152 := Tryd.underlying154
 a152 := Tryd.isAgg154
 z152 := Tryd.sizeOf154
 v152 := Tryd.zeroValue154
 t154 := Tryd.underlying156
 a154 := Tryd.isAgg156
 z154 := Tryd.sizeOf156
 v154 := Tryd.zeroValue156 }
open Go.RowKit Go.Lib in
theorem Tryd.strings_FieldsFunc_runes (g : Nat) (lb : Array Value) (eg : ∀ args w, (callFunc g args).run Tryd.prog w = .ok (.enter g args) w) (p : Nat → Bool) (s : ByteArray) (w : World) (hs : s.size ≤ 4294967296) (hp : PredAtRunes Tryd.prog g lb p w) :
  Calls Tryd.prog 69 #[.string s, .func (.func g) #[] lb] w fun e w' => ∃ A, e = .returned (.slice (some ⟨A, 0, none⟩) (Lib.goFieldsP p s).length (Lib.goFieldsP p s).length) ∧ w.heap.size ≤ A ∧
   w'.ownsRow w.heap.size 9 1 (.slice (some ⟨A, 0, none⟩) (Lib.goFieldsP p s).length (Lib.goFieldsP p s).length) (Lib.goFieldsP p s).length ((Lib.goFieldsP p s).map Value.string) ∧ Below w.heap.size w w' := Any.strings_FieldsFunc_runes Tryd.lays229 g lb eg p s w hs hp (by kernel_rfl) (by kernel_rfl)
open Go.RowKit Go.Lib in
theorem Tryd.strings_FieldsFunc (g : Nat) (lb : Array Value) (eg : ∀ args w, (callFunc g args).run Tryd.prog w = .ok (.enter g args) w) (p : Nat → Bool) (s : ByteArray) (w : World) (hs : s.size ≤ 4294967296) (hp : PredAt Tryd.prog g lb encR p w) :
  Calls Tryd.prog 69 #[.string s, .func (.func g) #[] lb] w fun e w' => ∃ A, e = .returned (.slice (some ⟨A, 0, none⟩) (Lib.goFieldsP p s).length (Lib.goFieldsP p s).length) ∧ w.heap.size ≤ A ∧
   w'.ownsRow w.heap.size 9 1 (.slice (some ⟨A, 0, none⟩) (Lib.goFieldsP p s).length (Lib.goFieldsP p s).length) (Lib.goFieldsP p s).length ((Lib.goFieldsP p s).map Value.string) ∧ Below w.heap.size w w' := Any.strings_FieldsFunc Tryd.lays229 g lb eg p s w hs hp (by kernel_rfl) (by kernel_rfl)
open Go.RowKit Go.Lib in
theorem Tryd.unicode_is16_any (T : Array Rg) (R oR cap : Nat) (z : Nat) (w : World) (hz : z < 65536) (hT : RgTab .u16 R oR T w) (hok : RgOk 65536 T) (hn : T.size ≤ 1000000000) :
  Calls Tryd.prog 74 #[.slice (some ⟨R, oR, none⟩) T.size cap, .int .u16 z] w fun e w' => e = .returned (.bool (is16Go T z)) ∧ ∃ q, w' = w.drewN q := Any.unicode_is16_any Tryd.lays311 T R oR cap z w hz hT hok hn
def Tryd.lays312_ren : Go.Shelf.Ren := ⟨fun | 312 => 75 | n => n, fun | 194 => 162 | 51 => 157 | 4 => 4 | 3 => 3 | 0 => 0 | 227 => 174 | 201 => 170 | 46 => 173 | n => n, fun | n => n⟩
theorem Tryd.lays312 : Go.Proofs.Lays.n312 Tryd.prog Tryd.lays312_ren := {
 mixed := by kernel_rfl
 f312 := Tryd.func75.trans (congrArg some (by kernel_rfl))
 t0 := Tryd.underlying0
 a0 := Tryd.isAgg0
 z0 := Tryd.sizeOf0
 v0 := Tryd.zeroValue0
 t3 := Tryd.underlying3
 a3 := Tryd.isAgg3
 z3 := Tryd.sizeOf3
 v3 := Tryd.zeroValue3
 t4 := Tryd.underlying4
 a4 := Tryd.isAgg4
 z4 := Tryd.sizeOf4
 v4 := Tryd.zeroValue4
 t46 := Tryd.underlying173
 a46 := Tryd.isAgg173
 z46 := Tryd.sizeOf173
 v46 := Tryd.zeroValue173
 t51 := Tryd.underlying157
 a51 := Tryd.isAgg157
 z51 := Tryd.sizeOf157
 v51 := Tryd.zeroValue157
 t194 := Tryd.underlying162
 a194 := Tryd.isAgg162
 z194 := Tryd.sizeOf162
 v194 := Tryd.zeroValue162
 t201 := Tryd.underlying170
 a201 := Tryd.isAgg170
 z201 := Tryd.sizeOf170
 v201 := Tryd.zeroValue170
 t227 := Tryd.underlying174
 a227 := Tryd.isAgg174
 z227 := Tryd.sizeOf174
 v227 := Tryd.zeroValue174 }
open Go.RowKit Go.Lib in
theorem Tryd.unicode_is32_any (T : Array Rg) (R oR cap : Nat) (z : Nat) (w : World) (hz : z < 4294967296) (hT : RgTab .u32 R oR T w) (hok : RgOk 4294967296 T) (hn : T.size ≤ 1000000000) :
  Calls Tryd.prog 75 #[.slice (some ⟨R, oR, none⟩) T.size cap, .int .u32 z] w fun e w' => e = .returned (.bool (is32Go T z)) ∧ Below w.heap.size w w' := Any.unicode_is32_any Tryd.lays312 T R oR cap z w hz hT hok hn
open Go.RowKit Go.Lib in
theorem Tryd.unicode_isExcludingLatin_any (Tb oT : Nat) (T : RTab) (r : Int) (w : World) (hlo : -2147483648 ≤ r) (hhi : r ≤ 2147483647) (hA : RTabAt Tb oT T w) (hok : RTabOk T) :
  Calls Tryd.prog 72 #[.pointer (some ⟨Tb, oT, none⟩), .int .i32 r] w fun e w' => e = .returned (.bool (exclGo T r)) ∧ Below w.heap.size w w' := Any.unicode_isExcludingLatin_any Tryd.lays261 Tb oT T r w hlo hhi hA hok
open Go.RowKit Go.Lib in
theorem Tryd.strings_FieldsFunc_grows (g : Nat) (lb : Array Value) (eg : ∀ args w, (callFunc g args).run Tryd.prog w = .ok (.enter g args) w) (p : Nat → Bool) (s : ByteArray) (w : World) (hs : s.size ≤ 4294967296) (hp : PredGrows Tryd.prog g lb p w) :
  Calls Tryd.prog 69 #[.string s, .func (.func g) #[] lb] w fun e w' => ∃ A, e = .returned (.slice (some ⟨A, 0, none⟩) (Lib.goFieldsP p s).length (Lib.goFieldsP p s).length) ∧ w.heap.size ≤ A ∧
   w'.ownsRow w.heap.size 9 1 (.slice (some ⟨A, 0, none⟩) (Lib.goFieldsP p s).length (Lib.goFieldsP p s).length) (Lib.goFieldsP p s).length ((Lib.goFieldsP p s).map Value.string) ∧ Below w.heap.size w w' := Any.strings_FieldsFunc_grows Tryd.lays229 g lb eg p s w hs hp (by kernel_rfl) (by kernel_rfl)
def Tryd.laysSlE041_f16_ren : Go.Shelf.Ren := ⟨fun | 41 => 16 | n => n, fun | 22 => 26 | 23 => 2 | 4 => 4 | n => n, fun | n => n⟩
theorem Tryd.laysSlE041_f16 : Go.Proofs.SlLaysE0.n41 Tryd.prog Tryd.laysSlE041_f16_ren := {
 mixed := by kernel_rfl
 f41 := ⟨Tryd.f16.name, by decide, Tryd.func16.trans (congrArg some (by kernel_rfl))⟩
 t4 := Tryd.underlying4
 a4 := Tryd.isAgg4
 z4 := Tryd.sizeOf4
 v4 := Tryd.zeroValue4
 t22 := Tryd.underlying26
 a22 := Tryd.isAgg26
 z22 := Tryd.sizeOf26
 v22 := Tryd.zeroValue26 }
open Go.RowKit Go.Lib in
theorem Tryd.slices_Clone (i0 : TypeInfo) (z : Value) (size bytes : Nat) (hi : Tryd.prog.info? 2 = some i0) (hz0 : i0.zero = some z) (hz1 : i0.size = size) (hz2 : i0.bytes = bytes) (hzs : z.cells.size = size) (hsz : 0 < size) (z23 : ∀ w, (Go.sizeOf 2).run Tryd.prog w = .ok size w) (b off n c : Nat) (news : List Value) (w : World) (hl : news.length = n * size) (hn : n ≤ maxLen) (hbig : n * bytes ≤ 140737488355328) (hc : ∀ j u, news[j]? = some u → w.cell? ⟨b, off + j, none⟩ = some u) (h1 : ∀ u ∈ news, u.oneCell' = true) :
  Calls Tryd.prog 16 #[.slice (some ⟨b, off, none⟩) n c] w fun e w' => ∃ v', e = .returned v' ∧ w'.ownsRow w.heap.size 2 size v' n news ∧ v' ≠ .slice none 0 0 ∧ Below w.heap.size w w' := AnyE.slices_Clone Tryd.laysSlE041_f16 i0 z size bytes hi hz0 hz1 hz2 hzs hsz z23 b off n c news w hl hn hbig hc h1
open Go.RowKit Go.Lib in
theorem Tryd.slices_Clone_nil (n c : Nat) (w : World) :
  Calls Tryd.prog 16 #[.slice none n c] w fun e w' => e = .returned (.slice none 0 0) ∧ w' = w := AnyE.slices_Clone_nil Tryd.laysSlE041_f16 n c w
end Go.Proofs
