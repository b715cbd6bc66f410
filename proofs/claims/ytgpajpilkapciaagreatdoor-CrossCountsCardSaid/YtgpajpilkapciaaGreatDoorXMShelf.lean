/- 1 texts of this proof, one behind the other: Shelf. The statement is proved in the claim's last text. -/
-- The library contracts of strings.Fields and of strconv.FormatInt, laid at this dump by the shelf of the kit (plain mode), cut to these.
import Derived.Shelf.Strings.Fields
import Derived.Shelf.Slices.Clone
import Derived.Test.YtgpajpilkapciaaGreatDoorProg
namespace Go.Proofs
open Go.Shelf
def Tryz.lays157_ren : Go.Shelf.Ren := ⟨fun | 157 => 168 | 229 => 170 | 199 => 171 | 261 => 172 | 311 => 173 | 312 => 174 | n => n, fun | 9 => 9 | 31 => 37 | 3 => 3 | 5 => 5 | 4 => 4 | 119 => 228 | 0 => 0 | 40 => 230 | 152 => 231 | 21 => 21 | 154 => 233 | 51 => 234 | 141 => 236 | 196 => 240 | 193 => 237 | 198 => 243 | 49 => 241 | 194 => 238 | 201 => 246 | 226 => 248 | 46 => 249 | 227 => 250 | n => n, fun | 0 => 0 | 6 => 1 | n => n⟩
theorem Tryz.lays157 : Go.Proofs.Lays.n157 Tryz.prog Tryz.lays157_ren := {
  mixed := by kernel_rfl
  f157 := Tryz.func168.trans (congrArg some (by kernel_rfl))
  f199 := Tryz.func171.trans (congrArg some (by kernel_rfl))
  f229 := Tryz.func170.trans (congrArg some (by kernel_rfl))
  f261 := Tryz.func172.trans (congrArg some (by kernel_rfl))
  f311 := Tryz.func173.trans (congrArg some (by kernel_rfl))
  f312 := Tryz.func174.trans (congrArg some (by kernel_rfl))
  t0 := Tryz.underlying0
  a0 := Tryz.isAgg0
  z0 := Tryz.sizeOf0
  v0 := Tryz.zeroValue0
  t3 := Tryz.underlying3
  a3 := Tryz.isAgg3
  z3 := Tryz.sizeOf3
  v3 := Tryz.zeroValue3
  t4 := Tryz.underlying4
  a4 := Tryz.isAgg4
  z4 := Tryz.sizeOf4
  v4 := Tryz.zeroValue4
  t5 := Tryz.underlying5
  a5 := Tryz.isAgg5
  z5 := Tryz.sizeOf5
  v5 := Tryz.zeroValue5
  t9 := Tryz.underlying9
  a9 := Tryz.isAgg9
  z9 := Tryz.sizeOf9
  v9 := Tryz.zeroValue9
  t21 := Tryz.underlying21
  a21 := Tryz.isAgg21
  z21 := Tryz.sizeOf21
  v21 := Tryz.zeroValue21
  t31 := Tryz.underlying37
  a31 := Tryz.isAgg37
  z31 := Tryz.sizeOf37
  v31 := Tryz.zeroValue37
  t40 := Tryz.underlying230
  a40 := Tryz.isAgg230
  z40 := Tryz.sizeOf230
  v40 := Tryz.zeroValue230
  t46 := Tryz.underlying249
  a46 := Tryz.isAgg249
  z46 := Tryz.sizeOf249
  v46 := Tryz.zeroValue249
  t49 := Tryz.underlying241
  a49 := Tryz.isAgg241
  z49 := Tryz.sizeOf241
  v49 := Tryz.zeroValue241
  t51 := Tryz.underlying234
  a51 := Tryz.isAgg234
  z51 := Tryz.sizeOf234
  v51 := Tryz.zeroValue234
  t119 := Tryz.underlying228
  a119 := Tryz.isAgg228
  z119 := Tryz.sizeOf228
  t141 := Tryz.underlying236
  a141 := Tryz.isAgg236
  z141 := Tryz.sizeOf236
  v141 := Tryz.zeroValue236
  t152 := Tryz.underlying231
  a152 := Tryz.isAgg231
  z152 := Tryz.sizeOf231
  v152 := Tryz.zeroValue231
  t154 := Tryz.underlying233
  a154 := Tryz.isAgg233
  z154 := Tryz.sizeOf233
  v154 := Tryz.zeroValue233
  t193 := Tryz.underlying237
  a193 := Tryz.isAgg237
  z193 := Tryz.sizeOf237
  v193 := Tryz.zeroValue237
  t194 := Tryz.underlying238
  a194 := Tryz.isAgg238
  z194 := Tryz.sizeOf238
  v194 := Tryz.zeroValue238
  t196 := Tryz.underlying240
  a196 := Tryz.isAgg240
  z196 := Tryz.sizeOf240
  v196 := Tryz.zeroValue240
  t198 := Tryz.underlying243
  a198 := Tryz.isAgg243
  z198 := Tryz.sizeOf243
  v198 := Tryz.zeroValue243
  t201 := Tryz.underlying246
  a201 := Tryz.isAgg246
  z201 := Tryz.sizeOf246
  v201 := Tryz.zeroValue246
  t226 := Tryz.underlying248
  a226 := Tryz.isAgg248
  z226 := Tryz.sizeOf248
  v226 := Tryz.zeroValue248
  t227 := Tryz.underlying250
  a227 := Tryz.isAgg250
  z227 := Tryz.sizeOf250
  v227 := Tryz.zeroValue250
  g0 := by kernel_rfl
  g6 := by kernel_rfl }
open Go.RowKit Go.Lib in
theorem Tryz.strings_Fields (s : ByteArray) (w : World) (hs : s.size < 4294967281) (hascii : ∀ (j : Nat) b, s.data.toList[j]? = some b → b.toNat < 128) (htab : Lib.TabIs Tryz.prog w "strings.asciiSpace" .u8 Lib.asciiSpaceTab) :
    Calls Tryz.prog 168 #[.string s] w fun e w' =>
      e = .returned (.slice (some ⟨w.heap.size, 0, none⟩) (Lib.fields s.data.toList).length (Lib.fields s.data.toList).length) ∧ w' = w.alloc (.cells ((Lib.fields s.data.toList).map fun l => Value.string ⟨l.toArray⟩).toArray 9) := Any.strings_Fields Tryz.lays157 (by kernel_rfl) (by kernel_rfl) s w hs hascii htab

def Tryz.laysNm216_ren : Go.Shelf.Ren := ⟨fun | 16 => 152 | n => n, fun | 24 => 37 | 9 => 9 | 4 => 4 | n => n, fun | n => n⟩
theorem Tryz.laysNm216 : Go.Proofs.Lays2.n16 Tryz.prog Tryz.laysNm216_ren := {
  mixed := by kernel_rfl
  f16 := Tryz.func152.trans (congrArg some (by kernel_rfl))
  t4 := Tryz.underlying4
  a4 := Tryz.isAgg4
  z4 := Tryz.sizeOf4
  v4 := Tryz.zeroValue4
  t9 := Tryz.underlying9
  a9 := Tryz.isAgg9
  z9 := Tryz.sizeOf9
  v9 := Tryz.zeroValue9
  t24 := Tryz.underlying37
  a24 := Tryz.isAgg37
  z24 := Tryz.sizeOf37
  v24 := Tryz.zeroValue37
  i9 := by kernel_rfl }
open Go.RowKit Go.Lib in
theorem Tryz.slices_Clone_string (b off n c : Nat) (zs : List ByteArray) (w : World) (hz : n ≤ zs.length) (hbig : n * 16 ≤ 140737488355328) (hc : ∀ j, j < zs.length → w.cell? ⟨b, off + j, none⟩ = some (.string (zs.getD j ByteArray.empty))) :
    Calls Tryz.prog 152 #[.slice (some ⟨b, off, none⟩) n c] w fun e w' => ∃ v', e = .returned v' ∧ w'.ownsRow w.heap.size 9 1 v' n ((zs.take n).map (Value.string)) ∧ v' ≠ .slice none 0 0 ∧ Below w.heap.size w w' := Any.slices_Clone_string Tryz.laysNm216 b off n c zs w hz hbig hc
open Go.RowKit Go.Lib in
theorem Tryz.slices_Clone_string_nil (n c : Nat) (w : World) :
    Calls Tryz.prog 152 #[.slice none n c] w fun e w' => e = .returned (.slice none 0 0) ∧ w' = w := Any.slices_Clone_string_nil Tryz.laysNm216 n c w
open Go.RowKit Go.Lib in
theorem Tryz.slices_Clone_string_zero (a : Addr) (c : Nat) (w : World) :
    Calls Tryz.prog 152 #[.slice (some a) 0 c] w fun e w' => ∃ v', e = .returned v' ∧ w'.ownsRow w.heap.size 9 1 v' 0 [] ∧ v' ≠ .slice none 0 0 ∧ Below w.heap.size w w' := Any.slices_Clone_string_zero Tryz.laysNm216 a c w
end Go.Proofs
