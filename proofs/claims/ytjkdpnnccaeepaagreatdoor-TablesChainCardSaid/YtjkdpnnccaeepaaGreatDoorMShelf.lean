/- 1 texts of this proof, one behind the other: Shelf. The statement is proved in the claim's last text. -/
-- The library contracts of strings.Fields and of strconv.FormatInt, laid at this dump by the shelf of the kit (plain mode), cut to these.
import Derived.Shelf.Small.Strs
import Derived.Shelf.Strings.Search1
import Derived.Shelf.Strings.Fields
import Derived.Shelf.Bits.Mul64
import Derived.Test.YtjkdpnnccaeepaaGreatDoorProg
namespace Go.Proofs
open Go.Shelf
def Tryz.lays137_ren : Go.Shelf.Ren := ⟨fun | 137 => 75 | 217 => 98 | 266 => 109 | n => n, fun | 9 => 9 | 5 => 5 | 3 => 3 | n => n, fun | n => n⟩
theorem Tryz.lays137 : Go.Proofs.Lays.n137 Tryz.prog Tryz.lays137_ren := {
  mixed := by kernel_rfl
  f137 := Tryz.func75.trans (congrArg some (by kernel_rfl))
  f217 := Tryz.func98.trans (congrArg some (by kernel_rfl))
  f266 := Tryz.func109.trans (congrArg some (by kernel_rfl))
  t3 := Tryz.underlying3
  a3 := Tryz.isAgg3
  z3 := Tryz.sizeOf3
  v3 := Tryz.zeroValue3
  t5 := Tryz.underlying5
  a5 := Tryz.isAgg5
  z5 := Tryz.sizeOf5
  v5 := Tryz.zeroValue5
  t9 := Tryz.underlying9
  a9 := Tryz.isAgg9
  z9 := Tryz.sizeOf9
  v9 := Tryz.zeroValue9 }
open Go.RowKit in
theorem Tryz.strings_IndexByte (s : ByteArray) (c : Int) (w : World) :
    Calls Tryz.prog 75 #[.string s, .int .u8 c] w fun e w' => e = .returned (.int .i64 (Lib.indexByte s.data.toList c.toNat.toUInt8)) ∧ w' = w := Any.strings_IndexByte Tryz.lays137 s c w

def Tryz.lays157_ren : Go.Shelf.Ren := ⟨fun | 157 => 110 | 229 => 126 | 199 => 127 | 261 => 138 | 311 => 140 | 312 => 141 | n => n, fun | 9 => 9 | 31 => 34 | 3 => 3 | 5 => 5 | 4 => 4 | 119 => 166 | 0 => 0 | 40 => 168 | 152 => 180 | 21 => 21 | 154 => 182 | 51 => 183 | 141 => 185 | 196 => 189 | 193 => 186 | 198 => 192 | 49 => 190 | 194 => 187 | 201 => 195 | 226 => 197 | 46 => 169 | 227 => 198 | n => n, fun | 0 => 1 | 6 => 2 | n => n⟩
theorem Tryz.lays157 : Go.Proofs.Lays.n157 Tryz.prog Tryz.lays157_ren := {
  mixed := by kernel_rfl
  f157 := Tryz.func110.trans (congrArg some (by kernel_rfl))
  f199 := Tryz.func127.trans (congrArg some (by kernel_rfl))
  f229 := Tryz.func126.trans (congrArg some (by kernel_rfl))
  f261 := Tryz.func138.trans (congrArg some (by kernel_rfl))
  f311 := Tryz.func140.trans (congrArg some (by kernel_rfl))
  f312 := Tryz.func141.trans (congrArg some (by kernel_rfl))
  t0 := Tryz.underlying0
  a0 := Tryz.isAgg0
  z0 := Tryz.sizeOf0
  v0 := Tryz.zeroValue0
  t3 := Tryz.underlying3
  a3 := Tryz.isAgg3
  z3 := Tryz.sizeOf3
  v3 := Tryz.zeroValue3
  t4 := Tryz.underlying4
  a4 := Tryz.isAgg4
  z4 := Tryz.sizeOf4
  v4 := Tryz.zeroValue4
  t5 := Tryz.underlying5
  a5 := Tryz.isAgg5
  z5 := Tryz.sizeOf5
  v5 := Tryz.zeroValue5
  t9 := Tryz.underlying9
  a9 := Tryz.isAgg9
  z9 := Tryz.sizeOf9
  v9 := Tryz.zeroValue9
  t21 := Tryz.underlying21
  a21 := Tryz.isAgg21
  z21 := Tryz.sizeOf21
  v21 := Tryz.zeroValue21
  t31 := Tryz.underlying34
  a31 := Tryz.isAgg34
  z31 := Tryz.sizeOf34
  v31 := Tryz.zeroValue34
  t40 := Tryz.underlying168
  a40 := Tryz.isAgg168
  z40 := Tryz.sizeOf168
  v40 := Tryz.zeroValue168
  t46 := Tryz.underlying169
  a46 := Tryz.isAgg169
  z46 := Tryz.sizeOf169
  v46 := Tryz.zeroValue169
  t49 := Tryz.underlying190
  a49 := Tryz.isAgg190
  z49 := Tryz.sizeOf190
  v49 := Tryz.zeroValue190
  t51 := Tryz.underlying183
  a51 := Tryz.isAgg183
  z51 := Tryz.sizeOf183
  v51 := Tryz.zeroValue183
  t119 := Tryz.underlying166
  a119 := Tryz.isAgg166
  z119 := Tryz.sizeOf166
  t141 := Tryz.underlying185
  a141 := Tryz.isAgg185
  z141 := Tryz.sizeOf185
  v141 := Tryz.zeroValue185
  t152 := Tryz.underlying180
  a152 := Tryz.isAgg180
  z152 := Tryz.sizeOf180
  v152 := Tryz.zeroValue180
  t154 := Tryz.underlying182
  a154 := Tryz.isAgg182
  z154 := Tryz.sizeOf182
  v154 := Tryz.zeroValue182
  t193 := Tryz.underlying186
  a193 := Tryz.isAgg186
  z193 := Tryz.sizeOf186
  v193 := Tryz.zeroValue186
  t194 := Tryz.underlying187
  a194 := Tryz.isAgg187
  z194 := Tryz.sizeOf187
  v194 := Tryz.zeroValue187
  t196 := Tryz.underlying189
  a196 := Tryz.isAgg189
  z196 := Tryz.sizeOf189
  v196 := Tryz.zeroValue189
  t198 := Tryz.underlying192
  a198 := Tryz.isAgg192
  z198 := Tryz.sizeOf192
  v198 := Tryz.zeroValue192
  t201 := Tryz.underlying195
  a201 := Tryz.isAgg195
  z201 := Tryz.sizeOf195
  v201 := Tryz.zeroValue195
  t226 := Tryz.underlying197
  a226 := Tryz.isAgg197
  z226 := Tryz.sizeOf197
  v226 := Tryz.zeroValue197
  t227 := Tryz.underlying198
  a227 := Tryz.isAgg198
  z227 := Tryz.sizeOf198
  v227 := Tryz.zeroValue198
  g0 := by kernel_rfl
  g6 := by kernel_rfl }
open Go.RowKit Go.Lib in
theorem Tryz.strings_Fields (s : ByteArray) (w : World) (hs : s.size < 4294967281) (hascii : ∀ (j : Nat) b, s.data.toList[j]? = some b → b.toNat < 128) (htab : Lib.TabIs Tryz.prog w "strings.asciiSpace" .u8 Lib.asciiSpaceTab) :
    Calls Tryz.prog 110 #[.string s] w fun e w' =>
      e = .returned (.slice (some ⟨w.heap.size, 0, none⟩) (Lib.fields s.data.toList).length (Lib.fields s.data.toList).length) ∧ w' = w.alloc (.cells ((Lib.fields s.data.toList).map fun l => Value.string ⟨l.toArray⟩).toArray 9) := Any.strings_Fields Tryz.lays157 (by kernel_rfl) (by kernel_rfl) s w hs hascii htab

def Tryz.lays264_ren : Go.Shelf.Ren := ⟨fun | 264 => 111 | n => n, fun | 53 => 145 | 46 => 169 | n => n, fun | n => n⟩
theorem Tryz.lays264 : Go.Proofs.Lays.n264 Tryz.prog Tryz.lays264_ren := {
  mixed := by kernel_rfl
  f264 := Tryz.func111.trans (congrArg some (by kernel_rfl))
  t46 := Tryz.underlying169
  a46 := Tryz.isAgg169
  z46 := Tryz.sizeOf169
  v46 := Tryz.zeroValue169
  t53 := Tryz.underlying145
  a53 := Tryz.isAgg145
  z53 := Tryz.sizeOf145
  v53 := Tryz.zeroValue145 }
open Go.RowKit Go.Lib in
theorem Tryz.bits_Mul64 (x y : Nat) (hx : x < 18446744073709551616) (hy : y < 18446744073709551616) (w : World) :
    Calls Tryz.prog 111 #[.int .u64 x, .int .u64 y] w fun e w' => e = .returned (.tuple #[.int .u64 ((x * y / 18446744073709551616 : Nat) : Int), .int .u64 ((x * y % 18446744073709551616 : Nat) : Int)]) ∧ w' = w := Any.bits_Mul64 Tryz.lays264 x y hx hy w

end Go.Proofs
