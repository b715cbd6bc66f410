/- A part of the proof. -/
import Derived.Test.YtdflkegnmmkkoaaGreatDoorCards
import Derived.Test.YtdflkegnmmkkoaaGreatDoorTie
import Derived.Test.YtdflkegnmmkkoaaGreatDoorYMOpen
import Derived.OpenShut
import Derived.Deep.DeepHandedRow
import Derived.Deep.DeepWitnessRowRef
import Derived.Lib.LaidTab
import Derived.WideShapes
set_option linter.unusedVariables false
set_option linter.unusedSimpArgs false
set_option maxRecDepth 100000
set_option maxHeartbeats 32000000
namespace Go.Proofs.YtdflkegnmmkkoaaGreatDoor
open Go.ChangeShapes Go.WideShapes Go.ChangeAt Go.RowKit
theorem zWG:Tryz.prog.globalNamed "strings.asciiSpace" =some 0:=by kernel_rfl
theorem zP0:(Tryz.prog.globals[0]?).map (·.type)=some 257:=by kernel_rfl
theorem zVW:Tryz.prog.cellsOf 257=256:=by kernel_rfl
theorem zP1:(Rows.laid_strings_asciiSpace:DataW Unit)=Lib.tabData .u8 Lib.asciiSpaceTab:=by kernel_rfl
theorem zVX:Lib.asciiSpaceTab≠ []:=by decide
theorem zKl{W:World}(h:laidMetH Tryz.prog [("unicode.White_Space",Rows.laid_unicode_White_Space),("strings.asciiSpace",Rows.laid_strings_asciiSpace)] W):zKy (zCx W) [[]] W:=by
 have h1:laidMet Tryz.prog [("unicode.White_Space",Rows.laid_unicode_White_Space),("strings.asciiSpace",Rows.laid_strings_asciiSpace)] W:=h
 have h3:=zSP h1
 rw[zP1]at h3
 have b:=Lib.tabIs_of_head (rest:=[]) zWG zP0 Tryz.underlying257 Tryz.underlying5 zGL zVW h3
 intro g cs hm;unfold zGd at hm;simp only[List.mem_cons,List.not_mem_nil,or_false,Prod.mk.injEq]at hm
 obtain⟨rfl,rfl⟩:=hm
 exact zXu zWG b zVX
noncomputable def laidWorld (os:Os):World:=
 let N:=(World.settled Tryz.prog os).heap.size
 let w0:=World.holding Tryz.prog os ⟨#[.cells #[.int .u16 9,.int .u16 13,.int .u16 1,.int .u16 32,.int .u16 133,.int .u16 101,.int .u16 160,.int .u16 5760,.int .u16 5600,.int .u16 8192,.int .u16 8202,.int .u16 1,.int .u16 8232,.int .u16 8233,.int .u16 1,.int .u16 8239,.int .u16 8287,.int .u16 48,.int .u16 12288,.int .u16 12288,.int .u16 1] 288,
  .cells #[.slice (some ⟨N,0,none⟩) 7 7,.slice none 0 0,.int .i64 2] 285],#[],[]⟩
 let put (h:Array Obj) (g:Nat) (cs:Array Value):Array Obj:=h.modify g fun
  | .cells _ t frozen=>.cells cs t frozen
  |o=>o
 let h1:=put w0.heap 0 (Lib.asciiSpaceTab.map fun z=>Value.int .u8 z).toArray
 let h2:=put h1 1 #[.pointer (some ⟨N+1,0,none⟩)]
 {w0 with heap:=h2}
end Go.Proofs.YtdflkegnmmkkoaaGreatDoor
namespace Go.Proofs.YtdflkegnmmkkoaaGreatDoor
open Go.RowKit
attribute [local simp] List.replicate List.range List.range.loop
theorem zP2(e:Ex)(S:ASt):ADet Tryz.prog 44 [exV e] S (B (decide (e.room 20000<0))) S:=by
 refine ADet.intro mixed Tryz.call44 Tryz.func44 rfl ?_;simp[Tryz.ntmps44];refine cq (zXP e _ 0 1 20000 (by simp[zBO,rm]) (by omega) (by omega)) ?_
 simp[rm]
end Go.Proofs.YtdflkegnmmkkoaaGreatDoor
namespace Go.Proofs.YtdflkegnmmkkoaaGreatDoor
open Go.ChangeShapes Go.WideShapes Go.ChangeAt Go.RowKit
theorem zKm{H:Type}{enc:TypeId × Value->H}{w:World}{sp:Nat->Bool}{r:Reach}{b0:Nat}{v:Value}{d:DataW H}{p:List MemPlace}(hv:Value.okWide Tryz.prog w r b0 33 v)(ht:DataW.Trod enc Tryz.prog w 0 sp true 33 v d p)
  (ub:∀b o,MemPlace.cell b o∈p->w.frozen? ⟨b,o,none⟩=false):∃l:List Fi,RdSl w Any 4 (FiIn w Any) l v:=by
 obtain⟨a,len,cap,rfl⟩:=okWide_slice Tryz.underlying33 hv
 obtain⟨fuel,ht⟩:=ht
 cases fuel with
 |zero=>simp[DataW.trod]at ht
 |succ n=>
  exact zAp (N:=n) Tryz.underlying33 zIg (by omega) (zIh n) (n+1) (Nat.le_refl _) (fun _=>.slice a len cap) (d,p) ht ub
theorem zEx:Tryz.prog.readableRec 33=true/\33<Tryz.prog.types.size:=⟨by kernel_rfl,of_decide_eq_true (by kernel_rfl)⟩
theorem zSv{w:World}{S:Nat->Prop}{l:List Fi}{v:Value}(h:RdSl w S 4 (FiIn w S) l v):RP (zCx w) (.sl 4 (l.map Fi.enc)) v:=zHJ h (fun _=>rfl) fun x _=>zYx x
end Go.Proofs.YtdflkegnmmkkoaaGreatDoor
