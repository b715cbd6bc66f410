/- A part of the proof. -/
import Derived.Test.YtgpajpilkapciaaGreatDoorCards
import Derived.Test.YtgpajpilkapciaaGreatDoorTie
import Derived.Test.YtgpajpilkapciaaGreatDoorXMOpen
import Derived.OpenShut
import Derived.Deep.DeepHandedRow
import Derived.Deep.DeepWitnessRowRef
import Derived.Lib.LaidTab
set_option linter.unusedVariables false
set_option linter.unusedSimpArgs false
set_option maxRecDepth 100000
set_option maxHeartbeats 32000000
namespace Go.Proofs.YtgpajpilkapciaaGreatDoor
open Go.ChangeShapes Go.WideShapes Go.ChangeAt Go.RowKit
theorem zVO:Tryz.prog.globalNamed "strings.asciiSpace" =some 0:=by kernel_rfl
theorem zOu:(Tryz.prog.globals[0]?).map (·.type)=some 228:=by kernel_rfl
theorem zUH:Tryz.prog.cellsOf 228=256:=by kernel_rfl
theorem zOv:(Rows.laid_strings_asciiSpace:DataW Unit)=Lib.tabData .u8 Lib.asciiSpaceTab:=by kernel_rfl
theorem zUI:Lib.asciiSpaceTab≠ []:=by decide
theorem zNZ{W:World}(h:laidMetH Tryz.prog [("unicode.White_Space",Rows.laid_unicode_White_Space),("strings.asciiSpace",Rows.laid_strings_asciiSpace)] W):zKF (zCz W) [[]] W:=by
 have h1:laidMet Tryz.prog [("unicode.White_Space",Rows.laid_unicode_White_Space),("strings.asciiSpace",Rows.laid_strings_asciiSpace)] W:=h
 have h3:=zQ8 h1
 rw[zOv]at h3
 have b:=Lib.tabIs_of_head (rest:=[]) zVO zOu Tryz.underlying228 Tryz.underlying5 zFq zUH h3
 intro g cs hm;unfold zGE at hm;simp only[List.mem_cons,List.not_mem_nil,or_false,Prod.mk.injEq]at hm
 obtain⟨rfl,rfl⟩:=hm
 exact zW3 zVO b zUI
noncomputable def laidWorld (os:Os):World:=
 let N:=(World.settled Tryz.prog os).heap.size
 let w0:=World.holding Tryz.prog os ⟨#[.cells #[.int .u16 9,.int .u16 13,.int .u16 1,.int .u16 32,.int .u16 133,.int .u16 101,.int .u16 160,.int .u16 5760,.int .u16 5600,.int .u16 8192,.int .u16 8202,.int .u16 1,.int .u16 8232,.int .u16 8233,.int .u16 1,.int .u16 8239,.int .u16 8287,.int .u16 48,.int .u16 12288,.int .u16 12288,.int .u16 1] 243,
  .cells #[.slice (some ⟨N,0,none⟩) 7 7,.slice none 0 0,.int .i64 2] 240],#[],[]⟩
 let put (h:Array Obj) (g:Nat) (cs:Array Value):Array Obj:=h.modify g fun
  | .cells _ t frozen=>.cells cs t frozen
  |o=>o
 let h1:=put w0.heap 0 (Lib.asciiSpaceTab.map fun z=>Value.int .u8 z).toArray
 let h2:=put h1 1 #[.pointer (some ⟨N+1,0,none⟩)]
 {w0 with heap:=h2}
end Go.Proofs.YtgpajpilkapciaaGreatDoor
