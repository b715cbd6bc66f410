/- A part of the proof. The statement is proved in the claim's last text. -/
import Derived.Test.YtfiohepfohhibaaDoorPMLt
import Derived.Test.YtfiohepfohhibaaDoorPMLx
import Derived.Test.YtfiohepfohhibaaDoorPMRoom
import Derived.Test.YtfiohepfohhibaaDoorPMShelf
import Derived.WalkKit
import Derived.Handy
import Derived.Laws.Externs
set_option linter.unusedVariables false
set_option linter.unusedSimpArgs false
set_option maxRecDepth 100000
set_option maxHeartbeats 32000000
namespace Go.Proofs.YtfiohepfohhibaaDoor
open Go.RowKit
abbrev emS : ByteArray:=⟨#[]⟩
abbrev starS : ByteArray:=(⟨#[42]⟩ : ByteArray)
def allUp {α : Type} (p : α → Bool) (l : List α) (m : Int) : Bool:=decide ((l.length : Int) ≤ m) && (l.take m.toNat).all p
def plainKind (k : Int) : Bool:=k == 1 || k == 2 || k == 3 || k == 10
mutual
def Ty.whole : Ty → Int → Bool
 | .mk k s l,d=>decide (0 < d) && (decide (1 ≤ k) && (decide (k ≤ 14) &&
  (if plainKind k then sEq s emS && decide (l.length = 0) else if k = 4 then typeB s && decide (l.length = 0) else sEq s emS && (decide (l.length = 1) && Ty.wholeAll l (d - 1)))))
def Ty.wholeAll : List Ty → Int → Bool
 | [],_=>true
 | t :: l,d=>t.whole d && Ty.wholeAll l d
end
def stepB (s : ByteArray) : Bool:=sEq s starS || nameB s
def Pl.whole (x : Pl) : Bool:=nameB x.name && allUp stepB x.path 40
def lentOp (op : Int) : Bool:=op == 5 || op == 6
def shP (op : Int) : Bool:=op == 4 || op == 5 || op == 6 || op == 24 || op == 28 || op == 32 || op == 36 || op == 25 || op == 33 || op == 34 || op == 35
def shL (op : Int) : Int:=if op = 1 ∨ op = 2 ∨ op = 3 ∨ op = 4 ∨ op = 5 ∨ op = 6 ∨ op = 24 ∨ op = 28 ∨ op = 32 ∨ op = 36 ∨ op = 18 ∨ op = 19 ∨ op = 20 then 0 else if 9 ≤ op ∧ op ≤ 17 then 2 else 1
def shM (op : Int) : Int:=if op = 1 ∨ op = 2 ∨ op = 3 ∨ op = 4 ∨ op = 5 ∨ op = 6 ∨ op = 24 ∨ op = 28 ∨ op = 32 ∨ op = 36 then 0 else if op = 18 ∨ op = 19 then 6 else if 9 ≤ op ∧ op ≤ 17 then 2 else 1
def shO (op : Int) : Bool:=decide (1 ≤ op) && decide (op ≤ 36)
def labB (op int : Int) (name second : ByteArray) : Bool :=
 (if op = 18 then nameB name else if op = 19 ∨ op = 20 then typeB name else sEq name emS) && (if op = 20 then typeB second else sEq second emS) && (if op = 1 then decide (0 ≤ int) else if op = 2 then int == 0 || int == 1 else int == 0)
def noPlB (x : Pl) : Bool:=sEq x.name emS && decide (x.path.length = 0)
def placedB (op : Int) (x : Pl) (n : Nat) (is : Bool) : Bool :=
 if is then x.whole else if op = 19 then sEq x.name emS && (decide (x.path.length = n) && allUp nameB x.path 6) else noPlB x
def exHead (op int : Int) (name second : ByteArray) (pl : Pl) (n : Nat) : Bool:=shO op && (labB op int name second && (decide (shL op ≤ n) && placedB op pl n (shP op)))
mutual
def Ex.whole : Ex → Int → Bool
 | .mk op int name second pl args _,d=>decide (1 ≤ d) && (exHead op int name second pl args.length && (decide ((args.length : Int) ≤ shM op) && Ex.wholeAll op args (d - 1)))
def Ex.wholeAll (o : Int) : List Ex → Int → Bool
 | [],_=>true
 | .mk op int name second pl args pos :: l,d=>(((o == 18) || !lentOp op) && Ex.whole (.mk op int name second pl args pos) d) && Ex.wholeAll o l d
end
def zeroTyB (t : Ty) : Bool:=(t.kind == 0) && (sEq t.name emS && decide (t.args.length = 0))
def fmN (op : Int) : ByteArray → Bool:=if op = 1 ∨ op = 5 ∨ op = 8 ∨ op = 11 ∨ op = 12 then nameB else if op = 2 then typeB else fun s=>sEq s emS
def fmS (op : Int) : ByteArray → Bool:=if op = 8 then typeB else if op = 12 then nameB else fun s=>sEq s emS
def fmNames (op : Int) : Int:=if op = 2 ∨ op = 10 then 6 else 0
def fmExprs (op : Int) (n : Nat) : Int:=if op = 10 then n else if op = 1 ∨ op = 2 ∨ op = 3 ∨ op = 4 ∨ op = 6 ∨ op = 7 then 1 else 0
def fmTyped (op : Int) : Bool:=op == 12
def fmPlaced (op : Int) : Bool:=op == 3 || op == 11
def fmBody (op : Int) : Bool:=op == 6 || op == 7 || op == 9 || op == 13 || op == 10 || op == 11
def fmElse (op : Int) : Bool:=op == 6
def fmArms (op : Int) : Bool:=op == 8
def fmLent (op : Int) : Bool:=op == 1 || op == 10
def fmOk (op : Int) : Bool:=decide (1 ≤ op) && decide (op ≤ 13)
def countB (op int : Int) : Bool:=if op = 12 then decide (1 ≤ int) && decide (int ≤ 8) else int == 0
def stHead (op int : Int) (name second : ByteArray) (names : List ByteArray) (ty : Ty) (pl : Pl) (es : List Ex) (d : Int) : Bool :=
 fmOk op && (countB op int && (fmN op name && (fmS op second && (decide ((es.length : Int) = fmExprs op names.length) && (allUp nameB names (fmNames op) &&
  ((fmTyped op == ty.whole (d - 1)) && ((fmTyped op || zeroTyB ty) && ((fmPlaced op == pl.whole) && (fmPlaced op || noPlB pl)))))))))
def exsB (op : Int) (es : List Ex) (d : Int) : Bool:=allUp (fun e=>(fmLent op || !lentOp e.op) && e.whole (d - 1)) es 6
mutual
def St.whole : St → Int → Bool
 | .mk op name second names ty int pl es b el ar _,d=>decide (1 ≤ d) && (stHead op int name second names ty pl es d && ((fmBody op || decide (b.length = 0)) && ((fmElse op || decide (el.length = 0)) && ((fmArms op || decide (ar.length = 0)) &&
  (exsB op es d && (St.wholeAll b (d - 1) && (St.wholeAll el (d - 1) && (decide (ar.length ≤ 6) && Ar.wholeAll ar (d - 1)))))))))
def St.wholeAll : List St → Int → Bool
 | [],_=>true
 | s :: l,d=>s.whole d && St.wholeAll l d
def Ar.wholeAll : List (ArOf St) → Int → Bool
 | [],_=>true
 | ⟨v,n,b⟩ :: l,d=>(typeB v && ((sEq n emS || nameB n) && St.wholeAll b d)) && Ar.wholeAll l d
end
def Ar.whole (a : Ar) (d : Int) : Bool:=typeB a.variant && ((sEq a.name emS || nameB a.name) && a.body.all fun t=>t.whole d)
def zeroExB (e : Ex) : Bool:=(e.op == 0) && ((e.int == 0) && (sEq e.name emS && (sEq e.second emS && ((sEq e.place.name emS && decide (e.place.path.length = 0)) && decide (e.args.length = 0)))))
def fieldB (k : Int) (d : Int) (f : Fi) : Bool:=(if k = 2 then typeB f.name else nameB f.name) && (((k == 2) && zeroTyB f.type) || f.type.whole (d - 1))
def It.whole (x : It) (d : Int) : Bool :=
 if x.kind = 1 ∨ x.kind = 2 then (zeroTyB x.result && (decide (x.body.length = 0) && (zeroExB x.ret && typeB x.name))) && allUp (fieldB x.kind d) x.fields 6
 else if x.kind = 3 then nameB x.name && (allUp (fieldB 3 d) x.fields 6 && (x.result.whole (d - 1) && (!lentOp x.ret.op && (x.ret.whole (d - 1) && x.body.all fun s=>s.whole (d - 1)))))
 else false
end Go.Proofs.YtfiohepfohhibaaDoor
namespace Go.Proofs.YtfiohepfohhibaaDoor
open Go.RowKit
abbrev tyV (t : Ty) : AV:=.agg [U t.kind,Sg t.name,.p (.sl 3 (t.args.map Ty.enc))]
abbrev plV (x : Pl) : AV:=.agg [Sg x.name,.p (strs x.path)]
abbrev exV (e : Ex) : AV:=.agg [U e.op,I e.int,Sg e.name,Sg e.second,Sg e.place.name,.p (strs e.place.path),.p (.sl 8 (e.args.map Ex.enc)),I e.pos]
abbrev stU (s : St) : List AV:=[U s.op,Sg s.name,Sg s.second,.p (strs s.names),U s.type.kind,Sg s.type.name,.p (.sl 3 (s.type.args.map Ty.enc)),I s.int,Sg s.place.name,.p (strs s.place.path),.p (.sl 8 (s.exprs.map Ex.enc)),.p (.sl 15 (s.body.map St.enc)),.p (.sl 15 (s.els.map St.enc)),.p (.sl 3 (s.arms.map Ar.enc)),I s.pos]
abbrev itU (x : It) : List AV:=[U x.kind,Sg x.name,.p (.sl 4 (x.fields.map Fi.enc)),U x.result.kind,Sg x.result.name,.p (.sl 3 (x.result.args.map Ty.enc)),.p (.sl 15 (x.body.map St.enc)),U x.ret.op,I x.ret.int,Sg x.ret.name,Sg x.ret.second,Sg x.ret.place.name,.p (strs x.ret.place.path),.p (.sl 8 (x.ret.args.map Ex.enc)),I x.ret.pos,I x.pos]
abbrev itV (x : It) : AV:=.agg (itU x)
mutual
theorem cut_up (n : Nat) : ∀ v : AV,(v.up 1).cut n = v.up 1
 | .any=>rfl
 | .un=>rfl
 | .p _=>rfl
 | .ptr _ _ _=>rfl
 | .mp _ _=>rfl
 | .bl=>rfl
 | .asl _ _ _ _=>rfl
 | .rsl _ _ _ _=>rfl
 | .rptr _ _ _ _=>rfl
 | .rp _=>rfl
 | .bx cs=>by simp only [AV.up,AV.cut,cuts_ups n cs]
 | .osl _ _ _ _=>rfl
 | .agg cs=>by simp only [AV.up,AV.cut,cuts_ups n cs]
 | .tup cs=>by simp only [AV.up,AV.cut,cuts_ups n cs]
 | .fn f xs ys=>by simp only [AV.up,AV.cut,cuts_ups n xs,cuts_ups n ys]
theorem cuts_ups (n : Nat) : ∀ cs : List AV,AV.cuts n (AV.ups 1 cs) = AV.ups 1 cs
 | []=>rfl
 | c :: cs=>by simp only [AV.ups,AV.cuts,cut_up n c,cuts_ups n cs]
end
attribute [simp] cuts_ups
end Go.Proofs.YtfiohepfohhibaaDoor
namespace Go.Proofs.YtfiohepfohhibaaDoor
open Go.RowKit
theorem stp_below {Pr : Prot} {φ : Fi2} {S : ASt} {w w' : World} (h : Rel Pr φ S w) (hb : Below w.heap.size w w') : Stp Pr φ w Pr φ w' ∧ Rel Pr φ S w':=by
 refine ⟨⟨Prot.le_refl Pr,Fle.refl φ,fun d i e g he hg=>.inl ⟨d,i,e,he,hg⟩,⟨hb.os,hb.tape,hb.output,hb.size,fun g hg _=>hb.block g hg⟩,rfl,fun g o h k=>absurd h k⟩,⟨fun d i o ho=>?_,h.dis,fun d i e g h1 h2=>Nat.lt_of_lt_of_le (h.lt d i e g h1 h2) hb.size,fun b o v hv=>?_,h.tb.of (Prot.le_refl _) (fun g hg _=>hb.block g hg) (fun d i e g he hg=>.inl ⟨d,i,e,he,hg⟩),h.shape⟩⟩
 ·obtain ⟨e,he,hr⟩:=h.obj d i o ho
  exact ⟨e,he,hr.keep (Prot.le_refl Pr) (Fle.refl _) fun g hg=>⟨hb.block g (h.lt d i e g he hg),fun _ h=>h⟩⟩
 ·have:=h.pr b o v hv
  rw [← this]
  exact World.cell?_of_block (a:=⟨b,o,none⟩) (hb.block b (lt_of_cell this))
theorem ADet.of_calls {P : Program} {K : FuncId} {args : List AV} {S : ASt} {x : Value} (hx : atom x = true) (hK : ∀ xs w,(callFunc K xs).run P w = .ok (.enter K xs) w) (h : ∀ Pr φ xs w,RL Pr φ args xs → Rel Pr φ S w → Calls P K xs w fun e w'=>e = .returned x ∧ Below w.heap.size w w') : ADet P K args S (.p (.v x)) S :=
 ⟨hK,fun Pr φ xs w hargs hR hne=>(h Pr φ xs w hargs hR).mono fun e w' ⟨he,hb⟩=>by
  obtain ⟨s,r⟩:=stp_below hR hb
  exact ⟨x,Pr,φ,he,s,r,.p (.v hx)⟩⟩
theorem rl_vals {Pr : Prot} {φ : Fi2} {l : List Value} {xs : Array Value} (h : RL Pr φ (l.map fun x=>.p (.v x)) xs) : xs = l.toArray:=by
 apply Array.ext'
 apply List.ext_getElem?
 intro j
 have hl : xs.size = l.length:=by simpa using h.1.symm
 rcases Nat.lt_or_ge j l.length with hj | hj
 ·have h1 : (l.map fun x=>AV.p (.v x))[j]? = some (.p (.v l[j])):=by simp [hj]
  have h2 : xs[j]? = some xs[j]:=Array.getElem?_eq_getElem (by omega)
  have:=atomAV_ok (h.2 j _ _ h1 h2) rfl
  rw [Array.getElem?_toList,h2,this]; simp [hj]
 ·rw [Array.getElem?_toList,Array.getElem?_eq_none (by omega)]; simp [hj]
theorem tab_is {P : Program} {Pr : Prot} {φ : Fi2} {S : ASt} {w : World} (h : Rel Pr φ S w) {name : String} {k : IntKind} {zs : List Int} {g : Nat} (hg : P.globalNamed name = some g) (hm : (g,zs.map fun z=>Value.int k z) ∈ tabList) : Lib.TabIs P w name k zs:=by
 obtain ⟨_,_,⟨t,fz,h2⟩,_⟩:=h.tb g _ hm
 simp [Lib.TabIs,World.var?,hg,h2]
end Go.Proofs.YtfiohepfohhibaaDoor
namespace Go.Proofs.YtfiohepfohhibaaDoor
open Go.RowKit
end Go.Proofs.YtfiohepfohhibaaDoor
namespace Go.Proofs.YtfiohepfohhibaaDoor
open Go.RowKit
theorem name_any (s : ByteArray) (hs : s.size ≤ maxLen) (w : World) (h : Tab w) :
  Calls Tryd.prog 35 #[.string s] w fun e w'=>e = .returned (.bool (nameB s)) ∧ Below w.heap.size w w':=by
 have Hn:=Lib.hid (named_any lowerB 31 #[] s hs Tryd.call31 (fun b w=>lower_any b w) w h)
 clear h
 unfold nameB
 go_enter Tryd.func35,Tryd.ntmps35
 go_wp2_with (go_at_call 54; refine Hn.out.mono ?_; rintro e w1 ⟨rfl,hb⟩)
 go_ret
 exact ⟨rfl,hb⟩
theorem g_space : Tryd.prog.globalNamed "strings.asciiSpace" = some 1:=by kernel_rfl
theorem space_in : ((1 : Nat),Lib.asciiSpaceTab.map fun z=>Value.int .u8 z) ∈ tabList:=by simp [tabList]
theorem rl_str {Pr : Prot} {φ : Fi2} {s : ByteArray} {xs : Array Value} (h : RL Pr φ [Sg s] xs) : xs = #[.string s]:=rl_vals (l:=[.string s]) h
theorem nameC1 (s : ByteArray) (hs : s.size ≤ maxLen) (S : ASt) : ADet Tryd.prog 35 [Sg s] S (B (nameB s)) S :=
 ADet.of_calls rfl Tryd.call35 fun Pr φ xs w hargs hR=>by
  obtain rfl:=rl_str hargs
  exact name_any s hs w (tab_is hR g_space space_in)
theorem typeC1 (s : ByteArray) (hs : s.size ≤ maxLen) (S : ASt) : ADet Tryd.prog 36 [Sg s] S (B (typeB s)) S :=
 ADet.of_calls rfl Tryd.call36 fun Pr φ xs w hargs hR=>by
  obtain rfl:=rl_str hargs
  exact type_any s hs w (tab_is hR g_space space_in)
end Go.Proofs.YtfiohepfohhibaaDoor
