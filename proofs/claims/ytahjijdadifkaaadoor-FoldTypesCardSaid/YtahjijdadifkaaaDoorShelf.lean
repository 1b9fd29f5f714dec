/-
 DERIVED: THE SHELF's CONTRACTS AT THIS DUMP, IN PLAIN WORDS (tools/lay-plain.mjs out of 'TrydShelf.lean', which tools/lay-shelf.mjs wrote): THE SAME DECLARATIONS UNDER THE SAME NAMES: 'import', 'namespace', 'open', 'def', 'theorem' AND NOTHING ELSE: no command of the shelf's: FOR A HAND-IN. Each laying: the table of numbers ('.._ren') and one theorem, a field a fact of the dump's own or the kernel's comparison; each contract: ONE APPLICATION.
-/
import Derived.Shelf.Small.Wraps
import Derived.Shelf.Strings.Prefix
import Derived.Shelf.Strings.Fields
import Derived.Shelf.LaysM
import Derived.Shelf.Strings.SplitShaped
import Derived.Shelf.Unicode.Latin
import Derived.Shelf.Bits.Mul64
import Derived.Shelf.Unicode.Is16White
import Derived.Shelf.Unicode.IsSpaceAny
import Derived.Shelf.Strings.FieldsFuncAny
import Derived.Shelf.Unicode.Is16Any
import Derived.Shelf.Unicode.Is32Any
import Derived.Shelf.Unicode.ExclAny
import Derived.Shelf.Strings.FieldsFuncGrows
import Derived.Ground.SlgfProg
import Derived.Shelf.SlicesE.IndexFunc
import Derived.Test.YtahjijdadifkaaaDoorProg
namespace Go.Proofs
open Go.Shelf
def Tryd.lays211_ren : Go.Shelf.Ren := ⟨fun | 211 => 84 | 207 => 86 | n => n, fun | 9 => 9 | 4 => 4 | 3 => 3 | n => n, fun | n => n⟩
theorem Tryd.lays211 : Go.Proofs.Lays.n211 Tryd.prog Tryd.lays211_ren := {
 mixed := by kernel_rfl
 f207 := Tryd.func86.trans (congrArg some (by kernel_rfl))
 f211 := Tryd.func84.trans (congrArg some (by kernel_rfl))
 t3 := Tryd.underlying3
 a3 := Tryd.isAgg3
 z3 := Tryd.sizeOf3
 v3 := Tryd.zeroValue3
 t4 := Tryd.underlying4
 a4 := Tryd.isAgg4
 z4 := Tryd.sizeOf4
 v4 := Tryd.zeroValue4
 t9 := Tryd.underlying9
 a9 := Tryd.isAgg9
 z9 := Tryd.sizeOf9
 v9 := Tryd.zeroValue9 }
open Go.RowKit in
theorem Tryd.stringslite_CutSuffix (s p : ByteArray) (w : World) (hs : s.size ≤ 9223372036854775807) :
  Calls Tryd.prog 84 #[.string s, .string p] w fun e w' => e = .returned (.tuple #[.string ⟨(Lib.trimSuffix s.data.toList p.data.toList).toArray⟩, .bool (Lib.hasSuffix s.data.toList p.data.toList)]) ∧ w' = w := Any.stringslite_CutSuffix Tryd.lays211 s p w hs
def Tryd.lays104_ren : Go.Shelf.Ren := ⟨fun | 104 => 80 | 211 => 84 | 207 => 86 | n => n, fun | 9 => 9 | 4 => 4 | 24 => 131 | 3 => 3 | n => n, fun | n => n⟩
theorem Tryd.lays104 : Go.Proofs.Lays.n104 Tryd.prog Tryd.lays104_ren := {
 mixed := by kernel_rfl
 f104 := Tryd.func80.trans (congrArg some (by kernel_rfl))
 f207 := Tryd.func86.trans (congrArg some (by kernel_rfl))
 f211 := Tryd.func84.trans (congrArg some (by kernel_rfl))
 t3 := Tryd.underlying3
 a3 := Tryd.isAgg3
 z3 := Tryd.sizeOf3
 v3 := Tryd.zeroValue3
 t4 := Tryd.underlying4
 a4 := Tryd.isAgg4
 z4 := Tryd.sizeOf4
 v4 := Tryd.zeroValue4
 t9 := Tryd.underlying9
 a9 := Tryd.isAgg9
 z9 := Tryd.sizeOf9
 v9 := Tryd.zeroValue9
 t24 := Tryd.underlying131
 a24 := Tryd.isAgg131
 z24 := Tryd.sizeOf131
 v24 := Tryd.zeroValue131 }
open Go.RowKit in
theorem Tryd.strings_CutSuffix (s p : ByteArray) (w : World) (hs : s.size ≤ 9223372036854775807) :
  Calls Tryd.prog 80 #[.string s, .string p] w fun e w' => e = .returned (.tuple #[.string ⟨(Lib.trimSuffix s.data.toList p.data.toList).toArray⟩, .bool (Lib.hasSuffix s.data.toList p.data.toList)]) ∧ w' = w := Any.strings_CutSuffix Tryd.lays104 s p w hs
def Tryd.lays207_ren : Go.Shelf.Ren := ⟨fun | 207 => 86 | n => n, fun | 9 => 9 | 4 => 4 | 3 => 3 | n => n, fun | n => n⟩
theorem Tryd.lays207 : Go.Proofs.Lays.n207 Tryd.prog Tryd.lays207_ren := {
 mixed := by kernel_rfl
 f207 := Tryd.func86.trans (congrArg some (by kernel_rfl))
 t3 := Tryd.underlying3
 a3 := Tryd.isAgg3
 z3 := Tryd.sizeOf3
 v3 := Tryd.zeroValue3
 t4 := Tryd.underlying4
 a4 := Tryd.isAgg4
 z4 := Tryd.sizeOf4
 v4 := Tryd.zeroValue4
 t9 := Tryd.underlying9
 a9 := Tryd.isAgg9
 z9 := Tryd.sizeOf9
 v9 := Tryd.zeroValue9 }
open Go.RowKit Go.Lib in
theorem Tryd.stringslite_HasSuffix (s p : ByteArray) (w : World) (hs : s.size ≤ 9223372036854775807) :
  Calls Tryd.prog 86 #[.string s, .string p] w fun e w' => e = .returned (.bool (Lib.hasSuffix s.data.toList p.data.toList)) ∧ w' = w := Any.stringslite_HasSuffix Tryd.lays207 s p w hs
def Tryd.lays157_ren : Go.Shelf.Ren := ⟨fun | 157 => 79 | 229 => 82 | 199 => 83 | 261 => 85 | 311 => 87 | 312 => 88 | n => n, fun | 9 => 9 | 31 => 61 | 3 => 3 | 5 => 5 | 4 => 4 | 119 => 134 | 0 => 0 | 40 => 136 | 152 => 137 | 21 => 21 | 154 => 139 | 51 => 140 | 141 => 142 | 196 => 147 | 193 => 144 | 198 => 150 | 49 => 148 | 194 => 145 | 201 => 153 | 226 => 155 | 46 => 125 | 227 => 156 | n => n, fun | 0 => 0 | 6 => 1 | n => n⟩
theorem Tryd.lays157 : Go.Proofs.Lays.n157 Tryd.prog Tryd.lays157_ren := {
 mixed := by kernel_rfl
 f157 := Tryd.func79.trans (congrArg some (by kernel_rfl))
 f199 := Tryd.func83.trans (congrArg some (by kernel_rfl))
 f229 := Tryd.func82.trans (congrArg some (by kernel_rfl))
 f261 := Tryd.func85.trans (congrArg some (by kernel_rfl))
 f311 := Tryd.func87.trans (congrArg some (by kernel_rfl))
 f312 := Tryd.func88.trans (congrArg some (by kernel_rfl))
 t0 := Tryd.underlying0
 a0 := Tryd.isAgg0
 z0 := Tryd.sizeOf0
 v0 := Tryd.zeroValue0
 t3 := Tryd.underlying3
 a3 := Tryd.isAgg3
 z3 := Tryd.sizeOf3
 v3 := Tryd.zeroValue3
 t4 := Tryd.underlying4
 a4 := Tryd.isAgg4
 z4 := Tryd.sizeOf4
 v4 := Tryd.zeroValue4
 t5 := Tryd.underlying5
 a5 := Tryd.isAgg5
 z5 := Tryd.sizeOf5
 v5 := Tryd.zeroValue5
 t9 := Tryd.underlying9
 a9 := Tryd.isAgg9
 z9 := Tryd.sizeOf9
 v9 := Tryd.zeroValue9
 t21 := Tryd.underlying21
 a21 := Tryd.isAgg21
 z21 := Tryd.sizeOf21
 v21 := Tryd.zeroValue21
 t31 := Tryd.underlying61
 a31 := Tryd.isAgg61
 z31 := Tryd.sizeOf61
 v31 := Tryd.zeroValue61
 t40 := Tryd.underlying136
 a40 := Tryd.isAgg136
 z40 := Tryd.sizeOf136
 v40 := Tryd.zeroValue136
 t46 := Tryd.underlying125
 a46 := Tryd.isAgg125
 z46 := Tryd.sizeOf125
 v46 := Tryd.zeroValue125
 t49 := Tryd.underlying148
 a49 := Tryd.isAgg148
 z49 := Tryd.sizeOf148
 v49 := Tryd.zeroValue148
 t51 := Tryd.underlying140
 a51 := Tryd.isAgg140
 z51 := Tryd.sizeOf140
 v51 := Tryd.zeroValue140
 t119 := Tryd.underlying134
 a119 := Tryd.isAgg134
 z119 := Tryd.sizeOf134
 t141 := Tryd.underlying142
 a141 := Tryd.isAgg142
 z141 := Tryd.sizeOf142
 v141 := Tryd.zeroValue142
 t152 := Tryd.underlying137
 a152 := Tryd.isAgg137
 z152 := Tryd.sizeOf137
 v152 := Tryd.zeroValue137
 t154 := Tryd.underlying139
 a154 := Tryd.isAgg139
 z154 := Tryd.sizeOf139
 v154 := Tryd.zeroValue139
 t193 := Tryd.underlying144
 a193 := Tryd.isAgg144
 z193 := Tryd.sizeOf144
 v193 := Tryd.zeroValue144
 t194 := Tryd.underlying145
 a194 := Tryd.isAgg145
 z194 := Tryd.sizeOf145
 v194 := Tryd.zeroValue145
 t196 := Tryd.underlying147
 a196 := Tryd.isAgg147
 z196 := Tryd.sizeOf147
 v196 := Tryd.zeroValue147
 t198 := Tryd.underlying150
 a198 := Tryd.isAgg150
 z198 := Tryd.sizeOf150
 v198 := Tryd.zeroValue150
 t201 := Tryd.underlying153
 a201 := Tryd.isAgg153
 z201 := Tryd.sizeOf153
 v201 := Tryd.zeroValue153
 t226 := Tryd.underlying155
 a226 := Tryd.isAgg155
 z226 := Tryd.sizeOf155
 v226 := Tryd.zeroValue155
 t227 := Tryd.underlying156
 a227 := Tryd.isAgg156
 z227 := Tryd.sizeOf156
 v227 := Tryd.zeroValue156
 g0 := by kernel_rfl
 g6 := by kernel_rfl }
open Go.RowKit Go.Lib in
theorem Tryd.strings_Fields (s : ByteArray) (w : World) (hs : s.size < 4294967281) (hascii : ∀ (j : Nat) b, s.data.toList[j]? = some b → b.toNat < 128) (htab : Lib.TabIs Tryd.prog w "strings.asciiSpace" .u8 Lib.asciiSpaceTab) :
  Calls Tryd.prog 79 #[.string s] w fun e w' =>
   e = .returned (.slice (some ⟨w.heap.size, 0, none⟩) (Lib.fields s.data.toList).length (Lib.fields s.data.toList).length) ∧ w' = w.alloc (.cells ((Lib.fields s.data.toList).map fun l => Value.string ⟨l.toArray⟩).toArray 9) := Any.strings_Fields Tryd.lays157 (by kernel_rfl) (by kernel_rfl) s w hs hascii htab
def Tryd.laysM157_ren : Go.Shelf.Ren := ⟨fun | 157 => 79 | 229 => 82 | 199 => 83 | 261 => 85 | 311 => 87 | 312 => 88 | n => n, fun | 9 => 9 | 31 => 61 | 3 => 3 | 5 => 5 | 4 => 4 | 119 => 134 | 0 => 0 | 40 => 136 | 152 => 137 | 21 => 21 | 154 => 139 | 51 => 140 | 141 => 142 | 196 => 147 | 193 => 144 | 198 => 150 | 49 => 148 | 194 => 145 | 201 => 153 | 226 => 155 | 46 => 125 | 227 => 156 | n => n, fun | 0 => 0 | 6 => 1 | n => n⟩
theorem Tryd.laysM157 : Go.Proofs.LaysM.n157 Tryd.prog Tryd.laysM157_ren := {
 mixed := by kernel_rfl
 f157 := Tryd.func79.trans (congrArg some (by kernel_rfl))
 f199 := Tryd.func83.trans (congrArg some (by kernel_rfl))
 f229 := Tryd.func82.trans (congrArg some (by kernel_rfl))
 f261 := Tryd.func85.trans (congrArg some (by kernel_rfl))
 f311 := Tryd.func87.trans (congrArg some (by kernel_rfl))
 f312 := Tryd.func88.trans (congrArg some (by kernel_rfl))
 t0 := Tryd.underlying0
 a0 := Tryd.isAgg0
 z0 := Tryd.sizeOf0
 v0 := Tryd.zeroValue0
 t3 := Tryd.underlying3
 a3 := Tryd.isAgg3
 z3 := Tryd.sizeOf3
 v3 := Tryd.zeroValue3
 t4 := Tryd.underlying4
 a4 := Tryd.isAgg4
 z4 := Tryd.sizeOf4
 v4 := Tryd.zeroValue4
 t5 := Tryd.underlying5
 a5 := Tryd.isAgg5
 z5 := Tryd.sizeOf5
 v5 := Tryd.zeroValue5
 t9 := Tryd.underlying9
 a9 := Tryd.isAgg9
 z9 := Tryd.sizeOf9
 v9 := Tryd.zeroValue9
 t21 := Tryd.underlying21
 a21 := Tryd.isAgg21
 z21 := Tryd.sizeOf21
 v21 := Tryd.zeroValue21
 t31 := Tryd.underlying61
 a31 := Tryd.isAgg61
 z31 := Tryd.sizeOf61
 v31 := Tryd.zeroValue61
 t40 := Tryd.underlying136
 a40 := Tryd.isAgg136
 z40 := Tryd.sizeOf136
 v40 := Tryd.zeroValue136
 t46 := Tryd.underlying125
 a46 := Tryd.isAgg125
 z46 := Tryd.sizeOf125
 v46 := Tryd.zeroValue125
 t49 := Tryd.underlying148
 a49 := Tryd.isAgg148
 z49 := Tryd.sizeOf148
 v49 := Tryd.zeroValue148
 t51 := Tryd.underlying140
 a51 := Tryd.isAgg140
 z51 := Tryd.sizeOf140
 v51 := Tryd.zeroValue140
 t119 := Tryd.underlying134
 a119 := Tryd.isAgg134
 z119 := Tryd.sizeOf134
 t141 := Tryd.underlying142
 a141 := Tryd.isAgg142
 z141 := Tryd.sizeOf142
 v141 := Tryd.zeroValue142
 t152 := Tryd.underlying137
 a152 := Tryd.isAgg137
 z152 := Tryd.sizeOf137
 v152 := Tryd.zeroValue137
 t154 := Tryd.underlying139
 a154 := Tryd.isAgg139
 z154 := Tryd.sizeOf139
 v154 := Tryd.zeroValue139
 t193 := Tryd.underlying144
 a193 := Tryd.isAgg144
 z193 := Tryd.sizeOf144
 v193 := Tryd.zeroValue144
 t194 := Tryd.underlying145
 a194 := Tryd.isAgg145
 z194 := Tryd.sizeOf145
 v194 := Tryd.zeroValue145
 t196 := Tryd.underlying147
 a196 := Tryd.isAgg147
 z196 := Tryd.sizeOf147
 v196 := Tryd.zeroValue147
 t198 := Tryd.underlying150
 a198 := Tryd.isAgg150
 z198 := Tryd.sizeOf150
 v198 := Tryd.zeroValue150
 t201 := Tryd.underlying153
 a201 := Tryd.isAgg153
 z201 := Tryd.sizeOf153
 v201 := Tryd.zeroValue153
 t226 := Tryd.underlying155
 a226 := Tryd.isAgg155
 z226 := Tryd.sizeOf155
 v226 := Tryd.zeroValue155
 t227 := Tryd.underlying156
 a227 := Tryd.isAgg156
 z227 := Tryd.sizeOf156
 v227 := Tryd.zeroValue156
 g0 := by kernel_rfl
 g6 := by kernel_rfl
 i0 := by kernel_rfl
 i3 := by kernel_rfl
 i4 := by kernel_rfl
 i5 := by kernel_rfl
 i9 := by kernel_rfl
 i21 := by kernel_rfl
 i31 := by kernel_rfl
 i40 := by kernel_rfl
 i46 := by kernel_rfl
 i49 := by kernel_rfl
 i51 := by kernel_rfl
 i141 := by kernel_rfl
 i152 := by kernel_rfl
 i154 := by kernel_rfl
 i193 := by kernel_rfl
 i194 := by kernel_rfl
 i196 := by kernel_rfl
 i198 := by kernel_rfl
 i201 := by kernel_rfl
 i226 := by kernel_rfl
 i227 := by kernel_rfl
 m0 := by kernel_rfl
 m6 := by kernel_rfl }
open Go.RowKit Go.Lib in
theorem Tryd.strings_Fields_laid (s : ByteArray) (w : World) (hs : s.size < 4294967281) (hascii : ∀ (j : Nat) b, s.data.toList[j]? = some b → b.toNat < 128) (htab : Lib.TabIs Tryd.prog w "strings.asciiSpace" .u8 Lib.asciiSpaceTab) :
  Calls Tryd.prog 79 #[.string s] w fun e w' =>
   e = .returned (.slice (some ⟨w.heap.size, 0, none⟩) (Lib.fields s.data.toList).length (Lib.fields s.data.toList).length) ∧ w' = w.alloc (.cells ((Lib.fields s.data.toList).map fun l => Value.string ⟨l.toArray⟩).toArray 9) := Any.strings_Fields_laid Tryd.laysM157 s w hs hascii htab
def Tryd.lays199_ren : Go.Shelf.Ren := ⟨fun | 199 => 83 | 261 => 85 | 311 => 87 | 312 => 88 | n => n, fun | 21 => 21 | 4 => 4 | 51 => 140 | 141 => 142 | 0 => 0 | 196 => 147 | 193 => 144 | 3 => 3 | 198 => 150 | 49 => 148 | 194 => 145 | 201 => 153 | 226 => 155 | 46 => 125 | 227 => 156 | n => n, fun | 6 => 1 | n => n⟩
theorem Tryd.lays199 : Go.Proofs.Lays.n199 Tryd.prog Tryd.lays199_ren := {
 mixed := by kernel_rfl
 f199 := Tryd.func83.trans (congrArg some (by kernel_rfl))
 f261 := Tryd.func85.trans (congrArg some (by kernel_rfl))
 f311 := Tryd.func87.trans (congrArg some (by kernel_rfl))
 f312 := Tryd.func88.trans (congrArg some (by kernel_rfl))
 t0 := Tryd.underlying0
 a0 := Tryd.isAgg0
 z0 := Tryd.sizeOf0
 v0 := Tryd.zeroValue0
 t3 := Tryd.underlying3
 a3 := Tryd.isAgg3
 z3 := Tryd.sizeOf3
 v3 := Tryd.zeroValue3
 t4 := Tryd.underlying4
 a4 := Tryd.isAgg4
 z4 := Tryd.sizeOf4
 v4 := Tryd.zeroValue4
 t21 := Tryd.underlying21
 a21 := Tryd.isAgg21
 z21 := Tryd.sizeOf21
 v21 := Tryd.zeroValue21
 t46 := Tryd.underlying125
 a46 := Tryd.isAgg125
 z46 := Tryd.sizeOf125
 v46 := Tryd.zeroValue125
 t49 := Tryd.underlying148
 a49 := Tryd.isAgg148
 z49 := Tryd.sizeOf148
 v49 := Tryd.zeroValue148
 t51 := Tryd.underlying140
 a51 := Tryd.isAgg140
 z51 := Tryd.sizeOf140
 v51 := Tryd.zeroValue140
 t141 := Tryd.underlying142
 a141 := Tryd.isAgg142
 z141 := Tryd.sizeOf142
 v141 := Tryd.zeroValue142
 t193 := Tryd.underlying144
 a193 := Tryd.isAgg144
 z193 := Tryd.sizeOf144
 v193 := Tryd.zeroValue144
 t194 := Tryd.underlying145
 a194 := Tryd.isAgg145
 z194 := Tryd.sizeOf145
 v194 := Tryd.zeroValue145
 t196 := Tryd.underlying147
 a196 := Tryd.isAgg147
 z196 := Tryd.sizeOf147
 v196 := Tryd.zeroValue147
 t198 := Tryd.underlying150
 a198 := Tryd.isAgg150
 z198 := Tryd.sizeOf150
 v198 := Tryd.zeroValue150
 t201 := Tryd.underlying153
 a201 := Tryd.isAgg153
 z201 := Tryd.sizeOf153
 v201 := Tryd.zeroValue153
 t226 := Tryd.underlying155
 a226 := Tryd.isAgg155
 z226 := Tryd.sizeOf155
 v226 := Tryd.zeroValue155
 t227 := Tryd.underlying156
 a227 := Tryd.isAgg156
 z227 := Tryd.sizeOf156
 v227 := Tryd.zeroValue156
 g6 := by kernel_rfl }
open Go.RowKit Go.Lib in
theorem Tryd.unicode_IsSpace (r : Int) (w : World) (h0 : 0 ≤ r) (h : r ≤ 255) :
  Calls Tryd.prog 83 #[.int .i32 r] w fun e w' => e = .returned (.bool (Lib.isSpaceL r)) ∧ w' = w := Any.unicode_IsSpace Tryd.lays199 r w h0 h
def Tryd.lays264_ren : Go.Shelf.Ren := ⟨fun | 264 => 67 | n => n, fun | 53 => 111 | 46 => 125 | n => n, fun | n => n⟩
theorem Tryd.lays264 : Go.Proofs.Lays.n264 Tryd.prog Tryd.lays264_ren := {
 mixed := by kernel_rfl
 f264 := Tryd.func67.trans (congrArg some (by kernel_rfl))
 t46 := Tryd.underlying125
 a46 := Tryd.isAgg125
 z46 := Tryd.sizeOf125
 v46 := Tryd.zeroValue125
 t53 := Tryd.underlying111
 a53 := Tryd.isAgg111
 z53 := Tryd.sizeOf111
 v53 := Tryd.zeroValue111 }
open Go.RowKit Go.Lib in
theorem Tryd.bits_Mul64 (x y : Nat) (hx : x < 18446744073709551616) (hy : y < 18446744073709551616) (w : World) :
  Calls Tryd.prog 67 #[.int .u64 x, .int .u64 y] w fun e w' => e = .returned (.tuple #[.int .u64 ((x * y / 18446744073709551616 : Nat) : Int), .int .u64 ((x * y % 18446744073709551616 : Nat) : Int)]) ∧ w' = w := Any.bits_Mul64 Tryd.lays264 x y hx hy w
def Tryd.lays311_ren : Go.Shelf.Ren := ⟨fun | 311 => 87 | n => n, fun | 193 => 144 | 49 => 148 | 4 => 4 | 3 => 3 | 0 => 0 | 226 => 155 | 198 => 150 | 46 => 125 | n => n, fun | n => n⟩
theorem Tryd.lays311 : Go.Proofs.Lays.n311 Tryd.prog Tryd.lays311_ren := {
 mixed := by kernel_rfl
 f311 := Tryd.func87.trans (congrArg some (by kernel_rfl))
 t0 := Tryd.underlying0
 a0 := Tryd.isAgg0
 z0 := Tryd.sizeOf0
 v0 := Tryd.zeroValue0
 t3 := Tryd.underlying3
 a3 := Tryd.isAgg3
 z3 := Tryd.sizeOf3
 v3 := Tryd.zeroValue3
 t4 := Tryd.underlying4
 a4 := Tryd.isAgg4
 z4 := Tryd.sizeOf4
 v4 := Tryd.zeroValue4
 t46 := Tryd.underlying125
 a46 := Tryd.isAgg125
 z46 := Tryd.sizeOf125
 v46 := Tryd.zeroValue125
 t49 := Tryd.underlying148
 a49 := Tryd.isAgg148
 z49 := Tryd.sizeOf148
 v49 := Tryd.zeroValue148
 t193 := Tryd.underlying144
 a193 := Tryd.isAgg144
 z193 := Tryd.sizeOf144
 v193 := Tryd.zeroValue144
 t198 := Tryd.underlying150
 a198 := Tryd.isAgg150
 z198 := Tryd.sizeOf150
 v198 := Tryd.zeroValue150
 t226 := Tryd.underlying155
 a226 := Tryd.isAgg155
 z226 := Tryd.sizeOf155
 v226 := Tryd.zeroValue155 }
open Go.RowKit Go.Lib in
theorem Tryd.unicode_is16_white (R oR : Nat) (z : Nat) (w : World) (hz : z < 65536) (hz0 : 255 < z) (c6 : w.cell? ⟨R, oR + 6, none⟩ = some (.int .u16 160)) (c7 : w.cell? ⟨R, oR + 7, none⟩ = some (.int .u16 5760)) (c8 : w.cell? ⟨R, oR + 8, none⟩ = some (.int .u16 5600)) (c9 : w.cell? ⟨R, oR + 9, none⟩ = some (.int .u16 8192)) (c10 : w.cell? ⟨R, oR + 10, none⟩ = some (.int .u16 8202)) (c11 : w.cell? ⟨R, oR + 11, none⟩ = some (.int .u16 1)) (c12 : w.cell? ⟨R, oR + 12, none⟩ = some (.int .u16 8232)) (c13 : w.cell? ⟨R, oR + 13, none⟩ = some (.int .u16 8233)) (c14 : w.cell? ⟨R, oR + 14, none⟩ = some (.int .u16 1)) (c15 : w.cell? ⟨R, oR + 15, none⟩ = some (.int .u16 8239)) (c16 : w.cell? ⟨R, oR + 16, none⟩ = some (.int .u16 8287)) (c17 : w.cell? ⟨R, oR + 17, none⟩ = some (.int .u16 48)) (c18 : w.cell? ⟨R, oR + 18, none⟩ = some (.int .u16 12288)) (c19 : w.cell? ⟨R, oR + 19, none⟩ = some (.int .u16 12288)) (c20 : w.cell? ⟨R, oR + 20, none⟩ = some (.int .u16 1)) :
  Calls Tryd.prog 87 #[.slice (some ⟨R, oR + 6, none⟩) 5 5, .int .u16 z] w fun e w' => e = .returned (.bool (Lib.isSpaceR z)) ∧ Below w.heap.size w w' := Any.unicode_is16_white Tryd.lays311 R oR z w hz hz0 c6 c7 c8 c9 c10 c11 c12 c13 c14 c15 c16 c17 c18 c19 c20
def Tryd.lays261_ren : Go.Shelf.Ren := ⟨fun | 261 => 85 | 311 => 87 | 312 => 88 | n => n, fun | 141 => 142 | 21 => 21 | 4 => 4 | 0 => 0 | 196 => 147 | 193 => 144 | 3 => 3 | 51 => 140 | 198 => 150 | 49 => 148 | 194 => 145 | 201 => 153 | 226 => 155 | 46 => 125 | 227 => 156 | n => n, fun | n => n⟩
theorem Tryd.lays261 : Go.Proofs.Lays.n261 Tryd.prog Tryd.lays261_ren := {
 mixed := by kernel_rfl
 f261 := Tryd.func85.trans (congrArg some (by kernel_rfl))
 f311 := Tryd.func87.trans (congrArg some (by kernel_rfl))
 f312 := Tryd.func88.trans (congrArg some (by kernel_rfl))
 t0 := Tryd.underlying0
 a0 := Tryd.isAgg0
 z0 := Tryd.sizeOf0
 v0 := Tryd.zeroValue0
 t3 := Tryd.underlying3
 a3 := Tryd.isAgg3
 z3 := Tryd.sizeOf3
 v3 := Tryd.zeroValue3
 t4 := Tryd.underlying4
 a4 := Tryd.isAgg4
 z4 := Tryd.sizeOf4
 v4 := Tryd.zeroValue4
 t21 := Tryd.underlying21
 a21 := Tryd.isAgg21
 z21 := Tryd.sizeOf21
 v21 := Tryd.zeroValue21
 t46 := Tryd.underlying125
 a46 := Tryd.isAgg125
 z46 := Tryd.sizeOf125
 v46 := Tryd.zeroValue125
 t49 := Tryd.underlying148
 a49 := Tryd.isAgg148
 z49 := Tryd.sizeOf148
 v49 := Tryd.zeroValue148
 t51 := Tryd.underlying140
 a51 := Tryd.isAgg140
 z51 := Tryd.sizeOf140
 v51 := Tryd.zeroValue140
 t141 := Tryd.underlying142
 a141 := Tryd.isAgg142
 z141 := Tryd.sizeOf142
 v141 := Tryd.zeroValue142
 t193 := Tryd.underlying144
 a193 := Tryd.isAgg144
 z193 := Tryd.sizeOf144
 v193 := Tryd.zeroValue144
 t194 := Tryd.underlying145
 a194 := Tryd.isAgg145
 z194 := Tryd.sizeOf145
 v194 := Tryd.zeroValue145
 t196 := Tryd.underlying147
 a196 := Tryd.isAgg147
 z196 := Tryd.sizeOf147
 v196 := Tryd.zeroValue147
 t198 := Tryd.underlying150
 a198 := Tryd.isAgg150
 z198 := Tryd.sizeOf150
 v198 := Tryd.zeroValue150
 t201 := Tryd.underlying153
 a201 := Tryd.isAgg153
 z201 := Tryd.sizeOf153
 v201 := Tryd.zeroValue153
 t226 := Tryd.underlying155
 a226 := Tryd.isAgg155
 z226 := Tryd.sizeOf155
 v226 := Tryd.zeroValue155
 t227 := Tryd.underlying156
 a227 := Tryd.isAgg156
 z227 := Tryd.sizeOf156
 v227 := Tryd.zeroValue156 }
open Go.RowKit Go.Lib in
theorem Tryd.unicode_isExcludingLatin_white (T oT R oR : Nat) (r : Int) (w : World) (hlo : -2147483648 ≤ r) (hhi : r ≤ 2147483647) (hr : r < 0 ∨ 255 < r) (h2 : w.cell? ⟨T, oT, none⟩ = some (.slice (some ⟨R, oR, none⟩) 7 7)) (h3 : w.cell? ⟨T, oT + 1, none⟩ = some (.slice none 0 0)) (h4 : w.cell? ⟨T, oT + 2, none⟩ = some (.int .i64 2)) (h5 : ∀ i, i < 21 → w.cell? ⟨R, oR + i, none⟩ = some (.int .u16 (whiteT.getD i 0))) :
  Calls Tryd.prog 85 #[.pointer (some ⟨T, oT, none⟩), .int .i32 r] w fun e w' => e = .returned (.bool (Lib.isSpaceZ r)) ∧ Below w.heap.size w w' := Any.unicode_isExcludingLatin_white Tryd.lays261 T oT R oR r w hlo hhi hr h2 h3 h4 h5
open Go.RowKit Go.Lib in
theorem Tryd.unicode_IsSpace_any (r : Int) (w : World) (hlo : -2147483648 ≤ r) (hhi : r ≤ 2147483647) (hW : Lib.WhiteTab 1 w) :
  Calls Tryd.prog 83 #[.int .i32 r] w fun e w' => e = .returned (.bool (Lib.isSpaceZ r)) ∧ Below w.heap.size w w' := Any.unicode_IsSpace_any Tryd.lays199 r w hlo hhi hW
def Tryd.lays229_ren : Go.Shelf.Ren := ⟨fun | 229 => 82 | n => n, fun | 9 => 9 | 40 => 136 | 31 => 61 | 152 => 137 | 3 => 3 | 0 => 0 | 4 => 4 | 21 => 21 | 154 => 139 | n => n, fun | n => n⟩
theorem Tryd.lays229 : Go.Proofs.Lays.n229 Tryd.prog Tryd.lays229_ren := {
 mixed := by kernel_rfl
 f229 := Tryd.func82.trans (congrArg some (by kernel_rfl))
 t0 := Tryd.underlying0
 a0 := Tryd.isAgg0
 z0 := Tryd.sizeOf0
 v0 := Tryd.zeroValue0
 t3 := Tryd.underlying3
 a3 := Tryd.isAgg3
 z3 := Tryd.sizeOf3
 v3 := Tryd.zeroValue3
 t4 := Tryd.underlying4
 a4 := Tryd.isAgg4
 z4 := Tryd.sizeOf4
 v4 := Tryd.zeroValue4
 t9 := Tryd.underlying9
 a9 := Tryd.isAgg9
 z9 := Tryd.sizeOf9
 v9 := Tryd.zeroValue9
 t21 := Tryd.underlying21
 a21 := Tryd.isAgg21
 z21 := Tryd.sizeOf21
 v21 := Tryd.zeroValue21
 t31 := Tryd.underlying61
 a31 := Tryd.isAgg61
 z31 := Tryd.sizeOf61
 v31 := Tryd.zeroValue61
 t40 := Tryd.underlying136
 a40 := Tryd.isAgg136
 z40 := Tryd.sizeOf136
 v40 := Tryd.zeroValue136
 t152 := Tryd.underlying137
 a152 := Tryd.isAgg137
 z152 := Tryd.sizeOf137
 v152 := Tryd.zeroValue137
 t154 := Tryd.underlying139
 a154 := Tryd.isAgg139
 z154 := Tryd.sizeOf139
 v154 := Tryd.zeroValue139 }
open Go.RowKit Go.Lib in
theorem Tryd.strings_FieldsFunc_runes (g : Nat) (lb : Array Value) (eg : ∀ args w, (callFunc g args).run Tryd.prog w = .ok (.enter g args) w) (p : Nat → Bool) (s : ByteArray) (w : World) (hs : s.size ≤ 4294967296) (hp : PredAtRunes Tryd.prog g lb p w) :
  Calls Tryd.prog 82 #[.string s, .func (.func g) #[] lb] w fun e w' => ∃ A, e = .returned (.slice (some ⟨A, 0, none⟩) (Lib.goFieldsP p s).length (Lib.goFieldsP p s).length) ∧ w.heap.size ≤ A ∧
   w'.ownsRow w.heap.size 9 1 (.slice (some ⟨A, 0, none⟩) (Lib.goFieldsP p s).length (Lib.goFieldsP p s).length) (Lib.goFieldsP p s).length ((Lib.goFieldsP p s).map Value.string) ∧ Below w.heap.size w w' := Any.strings_FieldsFunc_runes Tryd.lays229 g lb eg p s w hs hp (by kernel_rfl) (by kernel_rfl)
open Go.RowKit Go.Lib in
theorem Tryd.strings_FieldsFunc (g : Nat) (lb : Array Value) (eg : ∀ args w, (callFunc g args).run Tryd.prog w = .ok (.enter g args) w) (p : Nat → Bool) (s : ByteArray) (w : World) (hs : s.size ≤ 4294967296) (hp : PredAt Tryd.prog g lb encR p w) :
  Calls Tryd.prog 82 #[.string s, .func (.func g) #[] lb] w fun e w' => ∃ A, e = .returned (.slice (some ⟨A, 0, none⟩) (Lib.goFieldsP p s).length (Lib.goFieldsP p s).length) ∧ w.heap.size ≤ A ∧
   w'.ownsRow w.heap.size 9 1 (.slice (some ⟨A, 0, none⟩) (Lib.goFieldsP p s).length (Lib.goFieldsP p s).length) (Lib.goFieldsP p s).length ((Lib.goFieldsP p s).map Value.string) ∧ Below w.heap.size w w' := Any.strings_FieldsFunc Tryd.lays229 g lb eg p s w hs hp (by kernel_rfl) (by kernel_rfl)
open Go.RowKit Go.Lib in
theorem Tryd.unicode_is16_any (T : Array Rg) (R oR cap : Nat) (z : Nat) (w : World) (hz : z < 65536) (hT : RgTab .u16 R oR T w) (hok : RgOk 65536 T) (hn : T.size ≤ 1000000000) :
  Calls Tryd.prog 87 #[.slice (some ⟨R, oR, none⟩) T.size cap, .int .u16 z] w fun e w' => e = .returned (.bool (is16Go T z)) ∧ ∃ q, w' = w.drewN q := Any.unicode_is16_any Tryd.lays311 T R oR cap z w hz hT hok hn
def Tryd.lays312_ren : Go.Shelf.Ren := ⟨fun | 312 => 88 | n => n, fun | 194 => 145 | 51 => 140 | 4 => 4 | 3 => 3 | 0 => 0 | 227 => 156 | 201 => 153 | 46 => 125 | n => n, fun | n => n⟩
theorem Tryd.lays312 : Go.Proofs.Lays.n312 Tryd.prog Tryd.lays312_ren := {
 mixed := by kernel_rfl
 f312 := Tryd.func88.trans (congrArg some (by kernel_rfl))
 t0 := Tryd.underlying0
 a0 := Tryd.isAgg0
 z0 := Tryd.sizeOf0
 v0 := Tryd.zeroValue0
 t3 := Tryd.underlying3
 a3 := Tryd.isAgg3
 z3 := Tryd.sizeOf3
 v3 := Tryd.zeroValue3
 t4 := Tryd.underlying4
 a4 := Tryd.isAgg4
 z4 := Tryd.sizeOf4
 v4 := Tryd.zeroValue4
 t46 := Tryd.underlying125
 a46 := Tryd.isAgg125
 z46 := Tryd.sizeOf125
 v46 := Tryd.zeroValue125
 t51 := Tryd.underlying140
 a51 := Tryd.isAgg140
 z51 := Tryd.sizeOf140
 v51 := Tryd.zeroValue140
 t194 := Tryd.underlying145
 a194 := Tryd.isAgg145
 z194 := Tryd.sizeOf145
 v194 := Tryd.zeroValue145
 t201 := Tryd.underlying153
 a201 := Tryd.isAgg153
 z201 := Tryd.sizeOf153
 v201 := Tryd.zeroValue153
 t227 := Tryd.underlying156
 a227 := Tryd.isAgg156
 z227 := Tryd.sizeOf156
 v227 := Tryd.zeroValue156 }
open Go.RowKit Go.Lib in
theorem Tryd.unicode_is32_any (T : Array Rg) (R oR cap : Nat) (z : Nat) (w : World) (hz : z < 4294967296) (hT : RgTab .u32 R oR T w) (hok : RgOk 4294967296 T) (hn : T.size ≤ 1000000000) :
  Calls Tryd.prog 88 #[.slice (some ⟨R, oR, none⟩) T.size cap, .int .u32 z] w fun e w' => e = .returned (.bool (is32Go T z)) ∧ Below w.heap.size w w' := Any.unicode_is32_any Tryd.lays312 T R oR cap z w hz hT hok hn
open Go.RowKit Go.Lib in
theorem Tryd.unicode_isExcludingLatin_any (Tb oT : Nat) (T : RTab) (r : Int) (w : World) (hlo : -2147483648 ≤ r) (hhi : r ≤ 2147483647) (hA : RTabAt Tb oT T w) (hok : RTabOk T) :
  Calls Tryd.prog 85 #[.pointer (some ⟨Tb, oT, none⟩), .int .i32 r] w fun e w' => e = .returned (.bool (exclGo T r)) ∧ Below w.heap.size w w' := Any.unicode_isExcludingLatin_any Tryd.lays261 Tb oT T r w hlo hhi hA hok
open Go.RowKit Go.Lib in
theorem Tryd.strings_FieldsFunc_grows (g : Nat) (lb : Array Value) (eg : ∀ args w, (callFunc g args).run Tryd.prog w = .ok (.enter g args) w) (p : Nat → Bool) (s : ByteArray) (w : World) (hs : s.size ≤ 4294967296) (hp : PredGrows Tryd.prog g lb p w) :
  Calls Tryd.prog 82 #[.string s, .func (.func g) #[] lb] w fun e w' => ∃ A, e = .returned (.slice (some ⟨A, 0, none⟩) (Lib.goFieldsP p s).length (Lib.goFieldsP p s).length) ∧ w.heap.size ≤ A ∧
   w'.ownsRow w.heap.size 9 1 (.slice (some ⟨A, 0, none⟩) (Lib.goFieldsP p s).length (Lib.goFieldsP p s).length) (Lib.goFieldsP p s).length ((Lib.goFieldsP p s).map Value.string) ∧ Below w.heap.size w w' := Any.strings_FieldsFunc_grows Tryd.lays229 g lb eg p s w hs hp (by kernel_rfl) (by kernel_rfl)
def Tryd.laysSlH6_f75_ren : Go.Shelf.Ren := ⟨fun | 6 => 75 | n => n, fun | 22 => 91 | 23 => 3 | 25 => 110 | 3 => 3 | 0 => 0 | 4 => 4 | n => n, fun | n => n⟩
theorem Tryd.laysSlH6_f75 : Go.Proofs.SlLaysH.n6 Tryd.prog Tryd.laysSlH6_f75_ren := {
 mixed := by kernel_rfl
 f6 := ⟨Tryd.f75.name, by decide, Tryd.func75.trans (congrArg some (by kernel_rfl))⟩
 t0 := Tryd.underlying0
 a0 := Tryd.isAgg0
 z0 := Tryd.sizeOf0
 v0 := Tryd.zeroValue0
 t3 := Tryd.underlying3
 a3 := Tryd.isAgg3
 z3 := Tryd.sizeOf3
 v3 := Tryd.zeroValue3
 t4 := Tryd.underlying4
 a4 := Tryd.isAgg4
 z4 := Tryd.sizeOf4
 v4 := Tryd.zeroValue4
 t22 := Tryd.underlying91
 a22 := Tryd.isAgg91
 z22 := Tryd.sizeOf91
 v22 := Tryd.zeroValue91
 a23 := Tryd.isAgg3
 z23 := Tryd.sizeOf3
 t25 := Tryd.underlying110
 a25 := Tryd.isAgg110
 z25 := Tryd.sizeOf110
 v25 := Tryd.zeroValue110 }
open Go.RowKit Go.Lib in
theorem Tryd.slices_IndexFunc {α : Type} [Inhabited α] (enc : α → Value) (p : α → Bool) (g : Nat) (lb : Array Value) (eg : ∀ args w, (callFunc g args).run Tryd.prog w = .ok (.enter g args) w) (b off n c : Nat) (zs : List α) (w : World) (hp : PredAt Tryd.prog g lb enc p w) (hz : n ≤ zs.length) (hbig : n ≤ 9223372036854775807) (hc : ∀ j, j < zs.length → w.cell? ⟨b, off + j, none⟩ = some (enc zs[j]!)) :
  Calls Tryd.prog 75 #[.slice (some ⟨b, off, none⟩) n c, .func (.func g) #[] lb] w fun e w' => e = .returned (.int .i64 (Lib.idxBy (fun _ y => p y) (zs.take n) default)) ∧ ∃ q, w' = w.drewN q := AnyE.slices_IndexFunc Tryd.laysSlH6_f75 enc p g lb eg b off n c zs w hp hz hbig hc
open Go.RowKit Go.Lib in
theorem Tryd.slices_IndexFunc_empty {α : Type} [Inhabited α] (a : Option Addr) (c : Nat) (fv : Value) (w : World) :
  Calls Tryd.prog 75 #[.slice a 0 c, fv] w fun e w' => e = .returned (.int .i64 (-1)) ∧ w' = w := AnyE.slices_IndexFunc_empty Tryd.laysSlH6_f75 a c fv w
def Tryd.laysSlH8_f65_ren : Go.Shelf.Ren := ⟨fun | 8 => 65 | 6 => 75 | n => n, fun | 22 => 91 | 23 => 3 | 25 => 110 | 4 => 4 | 3 => 3 | 0 => 0 | n => n, fun | n => n⟩
theorem Tryd.laysSlH8_f65 : Go.Proofs.SlLaysH.n8 Tryd.prog Tryd.laysSlH8_f65_ren := {
 mixed := by kernel_rfl
 f6 := ⟨Tryd.f75.name, by decide, Tryd.func75.trans (congrArg some (by kernel_rfl))⟩
 f8 := ⟨Tryd.f65.name, by decide, Tryd.func65.trans (congrArg some (by kernel_rfl))⟩
 t0 := Tryd.underlying0
 a0 := Tryd.isAgg0
 z0 := Tryd.sizeOf0
 v0 := Tryd.zeroValue0
 t3 := Tryd.underlying3
 a3 := Tryd.isAgg3
 z3 := Tryd.sizeOf3
 v3 := Tryd.zeroValue3
 t4 := Tryd.underlying4
 a4 := Tryd.isAgg4
 z4 := Tryd.sizeOf4
 v4 := Tryd.zeroValue4
 t22 := Tryd.underlying91
 a22 := Tryd.isAgg91
 z22 := Tryd.sizeOf91
 v22 := Tryd.zeroValue91
 a23 := Tryd.isAgg3
 z23 := Tryd.sizeOf3
 t25 := Tryd.underlying110
 a25 := Tryd.isAgg110
 z25 := Tryd.sizeOf110
 v25 := Tryd.zeroValue110 }
open Go.RowKit Go.Lib in
theorem Tryd.slices_ContainsFunc {α : Type} [Inhabited α] (enc : α → Value) (p : α → Bool) (g : Nat) (lb : Array Value) (eg : ∀ args w, (callFunc g args).run Tryd.prog w = .ok (.enter g args) w) (b off n c : Nat) (zs : List α) (w : World) (hp : PredAt Tryd.prog g lb enc p w) (hz : n ≤ zs.length) (hbig : n ≤ 9223372036854775807) (hc : ∀ j, j < zs.length → w.cell? ⟨b, off + j, none⟩ = some (enc zs[j]!)) :
  Calls Tryd.prog 65 #[.slice (some ⟨b, off, none⟩) n c, .func (.func g) #[] lb] w fun e w' => e = .returned (.bool ((zs.take n).any p)) ∧ ∃ q, w' = w.drewN q := AnyE.slices_ContainsFunc Tryd.laysSlH8_f65 enc p g lb eg b off n c zs w hp hz hbig hc
open Go.RowKit Go.Lib in
theorem Tryd.slices_ContainsFunc_empty {α : Type} [Inhabited α] (a : Option Addr) (c : Nat) (fv : Value) (w : World) :
  Calls Tryd.prog 65 #[.slice a 0 c, fv] w fun e w' => e = .returned (.bool false) ∧ w' = w := AnyE.slices_ContainsFunc_empty Tryd.laysSlH8_f65 a c fv w
end Go.Proofs
