/- A part of the proof. The statement is proved in the claim's last text. -/
import Derived.Test.YtfiohepfohhibaaDoorRows
import Derived.Test.YtfiohepfohhibaaDoorPMLk
import Derived.ProofKit
import Derived.Test.YtfiohepfohhibaaDoorPMLt
import Derived.Test.YtfiohepfohhibaaDoorPMWp
import Derived.Test.YtfiohepfohhibaaDoorCards
import Derived.Test.YtfiohepfohhibaaDoorTie
import Derived.WalkKit
import Derived.OpenShut
import Derived.Deep.DeepHandedRow
import Derived.Deep.DeepWitnessRowRef
import Derived.Lib.LaidTab
set_option linter.unusedVariables false
set_option linter.unusedSimpArgs false
set_option maxRecDepth 100000
set_option maxHeartbeats 32000000
namespace Go.Proofs.YtfiohepfohhibaaDoor
open Go.ChangeShapes Go.WideShapes Go.ChangeAt Go.RowKit
section
variable {H : Type} {enc : TypeId × Value → H} {P : Program} {w : World} {sp : Nat → Bool}
theorem all_stay (hl : laidOutB P = true) {W W' : World} (hb : Below W.heap.size W W') : ∀ (ts : List TypeId),(∀ t ∈ ts,P.readableRec t = true ∧ t < P.types.size) → ∀ (vs : List Value) (ds : List (DataW H)) (ps : List MemPlace),
  DataW.TrodAll enc P W 0 (fun _=>true) true ts vs ds ps → (∀ x ∈ ps,x.block < W.heap.size) → ∀ sp : Nat → Bool,(∀ x ∈ ps,sp x.block = true) → DataW.TrodAll enc P W' 0 sp true ts vs ds ps
 | [],_,vs,ds,ps,h,_,_,_=>by
  obtain ⟨rfl,rfl,rfl⟩:=trodAll_nil h
  exact rfl
 | t :: ts,hr,vs,ds,ps,h,hlt,sp,hsp=>by
  obtain ⟨v,vs,d,ds,p,q,rfl,rfl,rfl,h1,h2⟩:=trodAll_cons h
  have hrt:=hr t (by simp)
  exact ⟨p,q,WideElems.Trod_stays hl hrt.1 hrt.2 h1 (fun x hx=>hb.same (hlt x (List.mem_append_left _ hx))) (fun x hx=>hsp x (List.mem_append_left _ hx)),
   all_stay hl hb ts (fun t ht=>hr t (List.mem_cons_of_mem _ ht)) vs ds q h2 (fun x hx=>hlt x (List.mem_append_right _ hx)) sp (fun x hx=>hsp x (List.mem_append_right _ hx)),rfl⟩
theorem law_post {f : Func} {s : ChangeSpec} {W W' : World} {args : Array Value} {ds : List (DataW H)} {before : List MemPlace} {tb : TypeId} (hl : laidOutB P = true) (hr : ∀ t ∈ f.params.toList,P.readableRec t = true ∧ t < P.types.size)
  (hW : DataW.Whole enc P f.params.toList s.vars false W args.toList ds [] before) (hv : s.vars = []) (hs : s.fn H (ds ++ []) = { results:=[.lit (.bool true)],args:=ds }) (hres : f.resultTypes = #[tb]) (htb : P.underlying tb = some .bool) (hb : Below W.heap.size W W') :
  s.post enc P f false true false false W args (.bool true) W':=by
 have hlt:=hW.lt
 have hW':=hW
 obtain ⟨p,q,hA,hV,rfl,_,_⟩:=hW
 have hq : q = []:=by rw [hv] at hV; exact hV
 subst hq
 simp only [List.append_nil] at hlt hW' hs
 refine ⟨ds,[],p,[],p,[],hW',?_,?_,?_,World.keptBut_mono (fun x hx=>⟨hx,Or.inr (Or.inl hx)⟩) (hb.frame (· ∈ p)),fun h=>by cases h⟩
 ·rw [List.append_nil,hs,hres]
  exact trodAll_mk1 (shut_bool htb true)
 ·rw [List.append_nil,hs]
  exact all_stay hl hb _ hr _ _ _ hA hlt _ fun x hx=>by simpa using hlt x hx
 ·rw [hv,List.append_nil,hs]
  exact rfl
end
section
variable {H : Type} {enc : TypeId × Value → H} {w : World} {sp : Nat → Bool}
theorem laidOut : laidOutB Tryd.prog = true:=by kernel_rfl
theorem own : ownKnob Tryd.prog.godebug = none:=by kernel_rfl
theorem cells_u8 : Tryd.prog.cellsOf 5 = 1:=by kernel_rfl
end
end Go.Proofs.YtfiohepfohhibaaDoor
namespace Go.Proofs.YtfiohepfohhibaaDoor
open Go.ChangeShapes Go.WideShapes Go.ChangeAt Go.RowKit
section
variable {H : Type} {enc : TypeId × Value → H} {w : World} {sp : Nat → Bool}
end
theorem laid_tail {P : Program} {x : String × DataW Unit} {r : List (String × DataW Unit)} {w : World} (h : laidMet P (x :: r) w) : laidMet P r w:=by
 obtain ⟨ps,⟨g',t',cs,fuel,p,q,hg',ht',hvar,hd,hr,rfl⟩,hn,hc⟩:=h
 exact ⟨q,hr,(List.nodup_append.1 hn).2.1,fun b off hm=>hc b off (List.mem_append_right _ hm)⟩
theorem var_cells {P : Program} {w : World} {name : String} {g : Nat} {cs : Array Value} (hg : P.globalNamed name = some g) (h : w.var? P name = some cs) : ∃ t fz,w.heap[g]? = some (.cells cs t fz):=by
 unfold World.var? at h
 rw [hg] at h
 simp only [Option.bind_some] at h
 split at h
 ·rename_i c t fz hh
  cases h
  exact ⟨t,fz,hh⟩
 ·cases h
theorem tab_one {P : Program} {w : World} {name : String} {g : Nat} {k : IntKind} {zs : List Int} (hg : P.globalNamed name = some g) (h : Lib.TabIs P w name k zs) (hne : zs ≠ []) :
  (zs.map fun z=>Value.int k z) ≠ [] ∧ (∀ j x,(zs.map fun z=>Value.int k z)[j]? = some x → allOf w g j = some x) ∧ (∃ t fz,w.heap[g]? = some (.cells (zs.map fun z=>Value.int k z).toArray t fz)) ∧ ∀ d i e,get2 ([[]] : Fi2) d i = some e → e.blk ≠ some g:=by
 obtain ⟨t,fz,hh⟩:=var_cells hg h
 refine ⟨by simpa using hne,fun j x hx=>?_,⟨t,fz,hh⟩,fun d i e he=>?_⟩
 ·unfold allOf World.cell?
  simp [hh]
  simpa using hx
 ·cases d with
  | zero=>simp [get2] at he
  | succ d=>simp [get2] at he
end Go.Proofs.YtfiohepfohhibaaDoor
namespace Go.Proofs.YtfiohepfohhibaaDoor
open Go.ChangeShapes Go.WideShapes Go.ChangeAt Go.RowKit
section
variable {H : Type} {enc : TypeId × Value → H} {w : World} {sp : Nat → Bool}
end
end Go.Proofs.YtfiohepfohhibaaDoor
namespace Go.Proofs.YtfiohepfohhibaaDoor
open Go.ChangeShapes Go.WideShapes Go.ChangeAt Go.RowKit
theorem gAscii : Tryd.prog.globalNamed "strings.asciiSpace" = some 1:=by kernel_rfl
theorem gAsciiType : (Tryd.prog.globals[1]?).map (·.type) = some 123:=by kernel_rfl
theorem cells256 : Tryd.prog.cellsOf 123 = 256:=by kernel_rfl
theorem ascii_data : (Rows.laid_strings_asciiSpace : DataW Unit) = Lib.tabData .u8 Lib.asciiSpaceTab:=by kernel_rfl
theorem ascii_ne : Lib.asciiSpaceTab ≠ []:=by decide
theorem tabs_met {W : World} (h : laidMetH Tryd.prog [("unicode.White_Space",Rows.laid_unicode_White_Space),("strings.asciiSpace",Rows.laid_strings_asciiSpace)] W) : TabsP (allOf W) [[]] W:=by
 have h1 : laidMet Tryd.prog [("unicode.White_Space",Rows.laid_unicode_White_Space),("strings.asciiSpace",Rows.laid_strings_asciiSpace)] W:=h
 have h3:=laid_tail h1
 rw [ascii_data] at h3
 have b:=Lib.tabIs_of_head (rest:=[]) gAscii gAsciiType Tryd.underlying123 Tryd.underlying5 cells_u8 cells256 h3
 intro g cs hm
 unfold tabList at hm
 simp only [List.mem_cons,List.not_mem_nil,or_false,Prod.mk.injEq] at hm
 obtain ⟨rfl,rfl⟩:=hm
 exact tab_one gAscii b ascii_ne
noncomputable def laidWorld (os : Os) : World :=
 let N:=(World.settled Tryd.prog os).heap.size
 let w0:=World.holding Tryd.prog os ⟨#[.cells #[.int .u16 9,.int .u16 13,.int .u16 1,.int .u16 32,.int .u16 133,.int .u16 101,.int .u16 160,.int .u16 5760,.int .u16 5600,.int .u16 8192,.int .u16 8202,.int .u16 1,.int .u16 8232,.int .u16 8233,.int .u16 1,.int .u16 8239,.int .u16 8287,.int .u16 48,.int .u16 12288,.int .u16 12288,.int .u16 1] 149,
  .cells #[.slice (some ⟨N,0,none⟩) 7 7,.slice none 0 0,.int .i64 2] 146],#[],[]⟩
 let put (h : Array Obj) (g : Nat) (cs : Array Value) : Array Obj:=h.modify g fun
  | .cells _ t frozen=>.cells cs t frozen
  | o=>o
 let h1:=put w0.heap 1 (Lib.asciiSpaceTab.map fun z=>Value.int .u8 z).toArray
 let h2:=put h1 2 #[.pointer (some ⟨N + 1,0,none⟩)]
 { w0 with heap:=h2 }
end Go.Proofs.YtfiohepfohhibaaDoor
