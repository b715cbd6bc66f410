/- A part of the proof. The statement is proved in the claim's last text. -/
import Derived.Test.YthohopjnpgbljaaGreatDoorXMLt
import Derived.Test.YthohopjnpgbljaaGreatDoorXMLx
import Derived.Test.YthohopjnpgbljaaGreatDoorXMRoom
import Derived.Test.YthohopjnpgbljaaGreatDoorXMShelf
import Derived.WalkKit
import Derived.Handy
import Derived.Laws.Externs
import Derived.Lib.Builder
import Derived.Lib.UnsafeStr
import Derived.Lib.AppendIntMem
import Derived.Shelf.RegionOpenPlain
set_option linter.unusedVariables false
set_option linter.unusedSimpArgs false
set_option maxRecDepth 100000
set_option maxHeartbeats 32000000
namespace Go.Proofs.YthohopjnpgbljaaGreatDoor
open Go.RowKit
abbrev emS : ByteArray:=⟨#[]⟩
abbrev starS : ByteArray:=(⟨#[42]⟩ : ByteArray)
@[simp] theorem len_beq0 (n : Nat) : ((n : Int) == 0) = decide (n = 0):=by
 rw [Bool.eq_iff_iff,beq_iff_eq,decide_eq_true_eq]; omega
@[simp] theorem len_beq1 (n : Nat) : ((n : Int) == 1) = decide (n = 1):=by
 rw [Bool.eq_iff_iff,beq_iff_eq,decide_eq_true_eq]; omega
def allUp {α : Type} (p : α → Bool) (l : List α) (m : Int) : Bool:=decide ((l.length : Int) ≤ m) && (l.take m.toNat).all p
theorem allUp_all {α : Type} {p : α → Bool} {l : List α} {m : Int} (h : (l.length : Int) ≤ m) : allUp p l m = l.all p:=by
 unfold allUp
 rw [List.take_of_length_le (by omega)]; simp [h]
def plainKind (k : Int) : Bool:=k == 1 || k == 2 || k == 3 || k == 10
mutual
def Ty.whole : Ty → Int → Bool
 | .mk k s l,d=>decide (0 < d) && (decide (1 ≤ k) && (decide (k ≤ 14) &&
  (if plainKind k then sEq s emS && decide (l.length = 0) else if k = 4 then typeB s && decide (l.length = 0) else sEq s emS && (decide (l.length = 1) && Ty.wholeAll l (d - 1)))))
def Ty.wholeAll : List Ty → Int → Bool
 | [],_=>true
 | t :: l,d=>t.whole d && Ty.wholeAll l d
end
def stepB (s : ByteArray) : Bool:=sEq s starS || nameB s
def Pl.whole (x : Pl) : Bool:=nameB x.name && allUp stepB x.path 40
def lentOp (op : Int) : Bool:=op == 5 || op == 6
def shP (op : Int) : Bool:=op == 4 || op == 5 || op == 6 || op == 24 || op == 28 || op == 32 || op == 36 || op == 25 || op == 33 || op == 34 || op == 35
def shL (op : Int) : Int:=if op = 1 ∨ op = 2 ∨ op = 3 ∨ op = 4 ∨ op = 5 ∨ op = 6 ∨ op = 24 ∨ op = 28 ∨ op = 32 ∨ op = 36 ∨ op = 18 ∨ op = 19 ∨ op = 20 then 0 else if 9 ≤ op ∧ op ≤ 17 then 2 else 1
def shM (op : Int) : Int:=if op = 1 ∨ op = 2 ∨ op = 3 ∨ op = 4 ∨ op = 5 ∨ op = 6 ∨ op = 24 ∨ op = 28 ∨ op = 32 ∨ op = 36 then 0 else if op = 18 ∨ op = 19 then 6 else if 9 ≤ op ∧ op ≤ 17 then 2 else 1
def shO (op : Int) : Bool:=decide (1 ≤ op) && decide (op ≤ 36)
def labB (op int : Int) (name second : ByteArray) : Bool :=
 (if op = 18 then nameB name else if op = 19 ∨ op = 20 then typeB name else sEq name emS) && (if op = 20 then typeB second else sEq second emS) && (if op = 1 then decide (0 ≤ int) else if op = 2 then int == 0 || int == 1 else int == 0)
def noPlB (x : Pl) : Bool:=sEq x.name emS && decide (x.path.length = 0)
def placedB (op : Int) (x : Pl) (n : Nat) (is : Bool) : Bool :=
 if is then x.whole else if op = 19 then sEq x.name emS && (decide (x.path.length = n) && allUp nameB x.path 6) else noPlB x
def exHead (op int : Int) (name second : ByteArray) (pl : Pl) (n : Nat) : Bool:=shO op && (labB op int name second && (decide (shL op ≤ n) && placedB op pl n (shP op)))
mutual
def Ex.whole : Ex → Int → Bool
 | .mk op int name second pl args _,d=>decide (1 ≤ d) && (exHead op int name second pl args.length && (decide ((args.length : Int) ≤ shM op) && Ex.wholeAll op args (d - 1)))
def Ex.wholeAll (o : Int) : List Ex → Int → Bool
 | [],_=>true
 | .mk op int name second pl args pos :: l,d=>(((o == 18) || !lentOp op) && Ex.whole (.mk op int name second pl args pos) d) && Ex.wholeAll o l d
end
theorem exWholeAll_iff (o : Int) (l : List Ex) (d : Int) : Ex.wholeAll o l d = l.all fun t=>((o == 18) || !lentOp t.op) && t.whole d:=by
 induction l with
 | nil=>rfl
 | cons t l ih=>cases t; simp [Ex.wholeAll,ih]; rfl
theorem exWhole_eq (e : Ex) (d : Int) : e.whole d = (decide (1 ≤ d) && (exHead e.op e.int e.name e.second e.place e.args.length && allUp (fun t=>((e.op == 18) || !lentOp t.op) && t.whole (d - 1)) e.args (shM e.op))):=by
 cases e with
 | mk op int name second pl args pos =>
  simp only [Ex.whole,exWholeAll_iff,Ex.op,Ex.int,Ex.name,Ex.second,Ex.place,Ex.args]
  by_cases h : (args.length : Int) ≤ shM op
  ·rw [allUp_all h]; simp [h]
  ·simp [allUp,h]
def exWhole1 (e : Ex) : Bool:=!lentOp e.op && e.whole 40
def zeroTyB (t : Ty) : Bool:=(t.kind == 0) && (sEq t.name emS && decide (t.args.length = 0))
def fmN (op : Int) : ByteArray → Bool:=if op = 1 ∨ op = 5 ∨ op = 8 ∨ op = 11 ∨ op = 12 then nameB else if op = 2 then typeB else fun s=>sEq s emS
def fmS (op : Int) : ByteArray → Bool:=if op = 8 then typeB else if op = 12 then nameB else fun s=>sEq s emS
def fmNames (op : Int) : Int:=if op = 2 ∨ op = 10 then 6 else 0
def fmExprs (op : Int) (n : Nat) : Int:=if op = 10 then n else if op = 1 ∨ op = 2 ∨ op = 3 ∨ op = 4 ∨ op = 6 ∨ op = 7 then 1 else 0
def fmTyped (op : Int) : Bool:=op == 12
def fmPlaced (op : Int) : Bool:=op == 3 || op == 11
def fmBody (op : Int) : Bool:=op == 6 || op == 7 || op == 9 || op == 13 || op == 10 || op == 11
def fmElse (op : Int) : Bool:=op == 6
def fmArms (op : Int) : Bool:=op == 8
def fmLent (op : Int) : Bool:=op == 1 || op == 10
def fmOk (op : Int) : Bool:=decide (1 ≤ op) && decide (op ≤ 13)
def countB (op int : Int) : Bool:=if op = 12 then decide (1 ≤ int) && decide (int ≤ 8) else int == 0
def stHead (op int : Int) (name second : ByteArray) (names : List ByteArray) (ty : Ty) (pl : Pl) (es : List Ex) (d : Int) : Bool :=
 fmOk op && (countB op int && (fmN op name && (fmS op second && (decide ((es.length : Int) = fmExprs op names.length) && (allUp nameB names (fmNames op) &&
  ((fmTyped op == ty.whole (d - 1)) && ((fmTyped op || zeroTyB ty) && ((fmPlaced op == pl.whole) && (fmPlaced op || noPlB pl)))))))))
def exsB (op : Int) (es : List Ex) (d : Int) : Bool:=allUp (fun e=>(fmLent op || !lentOp e.op) && e.whole (d - 1)) es 6
mutual
def St.whole : St → Int → Bool
 | .mk op name second names ty int pl es b el ar _,d=>decide (1 ≤ d) && (stHead op int name second names ty pl es d && ((fmBody op || decide (b.length = 0)) && ((fmElse op || decide (el.length = 0)) && ((fmArms op || decide (ar.length = 0)) &&
  (exsB op es d && (St.wholeAll b (d - 1) && (St.wholeAll el (d - 1) && (decide (ar.length ≤ 6) && Ar.wholeAll ar (d - 1)))))))))
def St.wholeAll : List St → Int → Bool
 | [],_=>true
 | s :: l,d=>s.whole d && St.wholeAll l d
def Ar.wholeAll : List (ArOf St) → Int → Bool
 | [],_=>true
 | ⟨v,n,b⟩ :: l,d=>(typeB v && ((sEq n emS || nameB n) && St.wholeAll b d)) && Ar.wholeAll l d
end
def Ar.whole (a : Ar) (d : Int) : Bool:=typeB a.variant && ((sEq a.name emS || nameB a.name) && a.body.all fun t=>t.whole d)
def zeroExB (e : Ex) : Bool:=(e.op == 0) && ((e.int == 0) && (sEq e.name emS && (sEq e.second emS && ((sEq e.place.name emS && decide (e.place.path.length = 0)) && decide (e.args.length = 0)))))
def fieldB (k : Int) (d : Int) (f : Fi) : Bool:=(if k = 2 then typeB f.name else nameB f.name) && (((k == 2) && zeroTyB f.type) || f.type.whole (d - 1))
def It.whole (x : It) (d : Int) : Bool :=
 if x.kind = 1 ∨ x.kind = 2 then (zeroTyB x.result && (decide (x.body.length = 0) && (zeroExB x.ret && typeB x.name))) && allUp (fieldB x.kind d) x.fields 6
 else if x.kind = 3 then nameB x.name && (allUp (fieldB 3 d) x.fields 6 && (x.result.whole (d - 1) && (!lentOp x.ret.op && (x.ret.whole (d - 1) && x.body.all fun s=>s.whole (d - 1)))))
 else false
end Go.Proofs.YthohopjnpgbljaaGreatDoor
namespace Go.Proofs.YthohopjnpgbljaaGreatDoor
open Go.RowKit
attribute [local simp] List.replicate List.range List.range.loop resA resOne retA AV.cuts AV.cut AObj.cut trim wkR wkT wkL wkN wkNR wkNL wkM wkMR wkML
abbrev tyV (t : Ty) : AV:=.agg [U t.kind,Sg t.name,.p (.sl 3 (t.args.map Ty.enc))]
abbrev plV (x : Pl) : AV:=.agg [Sg x.name,.p (strs x.path)]
abbrev exV (e : Ex) : AV:=.agg [U e.op,I e.int,Sg e.name,Sg e.second,Sg e.place.name,.p (strs e.place.path),.p (.sl 8 (e.args.map Ex.enc)),I e.pos]
abbrev stU (s : St) : List AV:=[U s.op,Sg s.name,Sg s.second,.p (strs s.names),U s.type.kind,Sg s.type.name,.p (.sl 3 (s.type.args.map Ty.enc)),I s.int,Sg s.place.name,.p (strs s.place.path),.p (.sl 8 (s.exprs.map Ex.enc)),.p (.sl 15 (s.body.map St.enc)),.p (.sl 15 (s.els.map St.enc)),.p (.sl 3 (s.arms.map Ar.enc)),I s.pos]
abbrev itU (x : It) : List AV:=[U x.kind,Sg x.name,.p (.sl 4 (x.fields.map Fi.enc)),U x.result.kind,Sg x.result.name,.p (.sl 3 (x.result.args.map Ty.enc)),.p (.sl 15 (x.body.map St.enc)),U x.ret.op,I x.ret.int,Sg x.ret.name,Sg x.ret.second,Sg x.ret.place.name,.p (strs x.ret.place.path),.p (.sl 8 (x.ret.args.map Ex.enc)),I x.ret.pos,I x.pos]
abbrev itV (x : It) : AV:=.agg (itU x)
mutual
theorem cut_up (n : Nat) : ∀ v : AV,(v.up 1).cut n = v.up 1
 | .any=>rfl
 | .un=>rfl
 | .p _=>rfl
 | .ptr _ _ _=>rfl
 | .mp _ _=>rfl
 | .bl=>rfl
 | .asl _ _ _ _=>rfl
 | .rsl _ _ _ _=>rfl
 | .rptr _ _ _ _=>rfl
 | .rp _=>rfl
 | .bx cs=>by simp only [AV.up,AV.cut,cuts_ups n cs]
 | .osl _ _ _ _=>rfl
 | .agg cs=>by simp only [AV.up,AV.cut,cuts_ups n cs]
 | .tup cs=>by simp only [AV.up,AV.cut,cuts_ups n cs]
 | .fn f xs ys=>by simp only [AV.up,AV.cut,cuts_ups n xs,cuts_ups n ys]
theorem cuts_ups (n : Nat) : ∀ cs : List AV,AV.cuts n (AV.ups 1 cs) = AV.ups 1 cs
 | []=>rfl
 | c :: cs=>by simp only [AV.ups,AV.cuts,cut_up n c,cuts_ups n cs]
end
attribute [simp] cuts_ups
theorem allUp_no {α : Type} {p : α → Bool} {l : List α} {m : Int} {q : Nat} (hq : q < l.length) (hm : (q : Int) < m) (h : p l[q] = false) : allUp p l m = false:=by
 unfold allUp
 have : (l.take m.toNat).all p = false:=by
  rw [List.all_eq_false]
  exact ⟨l[q],List.mem_take_iff_getElem.2 ⟨q,by omega,rfl⟩,by simp [h]⟩
 simp [this]
theorem allUp_end {α : Type} {p : α → Bool} {l : List α} {m : Int} {q : Nat} (h : ∀ i (hi : i < l.length),i < q → p l[i] = true) (hq : q < l.length → m ≤ q) : allUp p l m = decide ((l.length : Int) ≤ m):=by
 unfold allUp
 by_cases hm : (l.length : Int) ≤ m
 ·have : (l.take m.toNat).all p = true:=by
   rw [List.all_eq_true]
   intro x hx
   obtain ⟨i,hi,rfl⟩:=List.mem_take_iff_getElem.1 hx
   exact h i (by omega) (by rcases Nat.lt_or_ge q l.length with h1 | h1 <;> omega)
  simp [hm,this]
 ·simp [hm]
theorem all_string (p : ByteArray → Bool) (l : List ByteArray) (m : Int) (hm : m ≤ 1000000) (K : Nat) (fs caps : List AV) (S : ASt) (hc : ∀ x ∈ l,∀ L,ADet Tryz.prog K (AV.ups 1 fs ++ (Sg x :: AV.ups 1 caps)) (L :: S) (B (p x)) (L :: S)) :
  ADet Tryz.prog 84 [.p (strs l),I m,.fn (.func K) fs caps] S (B (allUp p l m)) S:=by
 unfold strs
 refine ADet.okP Tryz.call84 0 rfl fun hok=>?_
 have hlen:=okl hok
 refine ADet.intro mixed Tryz.call84 Tryz.func84 rfl ?_
 simp [Tryz.ntmps84]
 refine awp_loop (fun q : Nat=>q ≤ l.length ∧ ∀ i (hi : i < l.length),i < q → p l[i] = true) (fun q=>([.p (.sl 1 (l.map fun s=>[pS s])),I m,.fn (.func K) (AV.ups 1 fs) (AV.ups 1 caps),.any,.any,.any,.any,I q] ++ List.replicate 22 .any)) (fun q=>[] :: S) (fun q=>l.length - q) 0 ⟨Nat.zero_le _,fun i hi h=>by omega⟩ ?_ ?_ ?_
 ·simp
 ·simp
 rintro q ⟨hq,hall⟩
 by_cases hlt : q < l.length
 ·by_cases hqm : (q : Int) < m
  ·generalize hx : l[q] = x
   have hx2:=hc x (by rw [← hx]; exact List.getElem_mem hlt)
   simp [hlt,hqm,hx,pS]
   refine ⟨_,_,hx2 _,?_⟩
   cases hp : p x with
   | false =>
    have:=allUp_no (p:=p) hlt hqm (by rw [hx]; exact hp)
    simp [hp,this]
   | true =>
    simp [hp]
    exact ⟨q + 1,⟨hlt,fun i hi h=>by
     rcases Nat.lt_or_ge i q with h' | h'
     ·exact hall i hi h'
     ·obtain rfl : i = q:=by omega
      rw [hx]; exact hp⟩,by omega,wrap_succ hlt⟩
  ·have:=allUp_end (m:=m) hall (fun _=>by omega)
   simp [hlt,hqm,this]
 ·have:=allUp_end (m:=m) hall (fun h=>absurd h hlt)
  simp [hlt,this]
theorem all_Expr (p : Ex → Bool) (l : List Ex) (m : Int) (hm : m ≤ 1000000) (K : Nat) (fs caps : List AV) (S : ASt) (hc : ∀ x ∈ l,∀ L,ADet Tryz.prog K (AV.ups 1 fs ++ (exV x :: AV.ups 1 caps)) (L :: S) (B (p x)) (L :: S)) :
  ADet Tryz.prog 51 [.p (.sl 8 (l.map Ex.enc)),I m,.fn (.func K) fs caps] S (B (allUp p l m)) S:=by
 skip
 refine ADet.okP Tryz.call51 0 rfl fun hok=>?_
 have hlen:=okl hok
 refine ADet.intro mixed Tryz.call51 Tryz.func51 rfl ?_
 simp [Tryz.ntmps51]
 refine awp_loop (fun q : Nat=>q ≤ l.length ∧ ∀ i (hi : i < l.length),i < q → p l[i] = true) (fun q=>([.p (.sl 8 (l.map Ex.enc)),I m,.fn (.func K) (AV.ups 1 fs) (AV.ups 1 caps),.any,.any,.any,.any,I q] ++ List.replicate 22 .any)) (fun q=>[] :: S) (fun q=>l.length - q) 0 ⟨Nat.zero_le _,fun i hi h=>by omega⟩ ?_ ?_ ?_
 ·simp
 ·simp
 rintro q ⟨hq,hall⟩
 by_cases hlt : q < l.length
 ·by_cases hqm : (q : Int) < m
  ·generalize hx : l[q] = x
   have hx2:=hc x (by rw [← hx]; exact List.getElem_mem hlt)
   simp [hlt,hqm,hx,exEnc]
   refine ⟨_,_,hx2 _,?_⟩
   cases hp : p x with
   | false =>
    have:=allUp_no (p:=p) hlt hqm (by rw [hx]; exact hp)
    simp [hp,this]
   | true =>
    simp [hp]
    exact ⟨q + 1,⟨hlt,fun i hi h=>by
     rcases Nat.lt_or_ge i q with h' | h'
     ·exact hall i hi h'
     ·obtain rfl : i = q:=by omega
      rw [hx]; exact hp⟩,by omega,wrap_succ hlt⟩
  ·have:=allUp_end (m:=m) hall (fun _=>by omega)
   simp [hlt,hqm,this]
 ·have:=allUp_end (m:=m) hall (fun h=>absurd h hlt)
  simp [hlt,this]
end Go.Proofs.YthohopjnpgbljaaGreatDoor
namespace Go.Proofs.YthohopjnpgbljaaGreatDoor
open Go.RowKit
theorem stp_below {Pr : Prot} {φ : Fi2} {S : ASt} {w w' : World} (h : Rel Pr φ S w) (hb : Below w.heap.size w w') : Stp Pr φ w Pr φ w' ∧ Rel Pr φ S w':=by
 refine ⟨⟨Prot.le_refl Pr,Fle.refl φ,fun d i e g he hg=>.inl ⟨d,i,e,he,hg⟩,⟨hb.os,hb.tape,hb.output,hb.size,fun g hg _=>hb.block g hg⟩,rfl,fun g o h k=>absurd h k⟩,⟨fun d i o ho=>?_,h.dis,fun d i e g h1 h2=>Nat.lt_of_lt_of_le (h.lt d i e g h1 h2) hb.size,fun b o v hv=>?_,h.tb.of (Prot.le_refl _) (fun g hg _=>hb.block g hg) (fun d i e g he hg=>.inl ⟨d,i,e,he,hg⟩),h.shape⟩⟩
 ·obtain ⟨e,he,hr⟩:=h.obj d i o ho
  exact ⟨e,he,hr.keep (Prot.le_refl Pr) (Fle.refl _) fun g hg=>⟨hb.block g (h.lt d i e g he hg),fun _ h=>h⟩⟩
 ·have:=h.pr b o v hv
  rw [← this]
  exact World.cell?_of_block (a:=⟨b,o,none⟩) (hb.block b (lt_of_cell this))
theorem ADet.of_calls {P : Program} {K : FuncId} {args : List AV} {S : ASt} {x : Value} (hx : atom x = true) (hK : ∀ xs w,(callFunc K xs).run P w = .ok (.enter K xs) w) (h : ∀ Pr φ xs w,RL Pr φ args xs → Rel Pr φ S w → Calls P K xs w fun e w'=>e = .returned x ∧ Below w.heap.size w w') : ADet P K args S (.p (.v x)) S :=
 ⟨hK,fun Pr φ xs w hargs hR hne=>(h Pr φ xs w hargs hR).mono fun e w' ⟨he,hb⟩=>by
  obtain ⟨s,r⟩:=stp_below hR hb
  exact ⟨x,Pr,φ,he,s,r,.p (.v hx)⟩⟩
theorem rl_vals {Pr : Prot} {φ : Fi2} {l : List Value} {xs : Array Value} (h : RL Pr φ (l.map fun x=>.p (.v x)) xs) : xs = l.toArray:=by
 apply Array.ext'
 apply List.ext_getElem?
 intro j
 have hl : xs.size = l.length:=by simpa using h.1.symm
 rcases Nat.lt_or_ge j l.length with hj | hj
 ·have h1 : (l.map fun x=>AV.p (.v x))[j]? = some (.p (.v l[j])):=by simp [hj]
  have h2 : xs[j]? = some xs[j]:=Array.getElem?_eq_getElem (by omega)
  have:=atomAV_ok (h.2 j _ _ h1 h2) rfl
  rw [Array.getElem?_toList,h2,this]; simp [hj]
 ·rw [Array.getElem?_toList,Array.getElem?_eq_none (by omega)]; simp [hj]
theorem tab_is {P : Program} {Pr : Prot} {φ : Fi2} {S : ASt} {w : World} (h : Rel Pr φ S w) {name : String} {k : IntKind} {zs : List Int} {g : Nat} (hg : P.globalNamed name = some g) (hm : (g,zs.map fun z=>Value.int k z) ∈ tabList) : Lib.TabIs P w name k zs:=by
 obtain ⟨_,_,⟨t,fz,h2⟩,_⟩:=h.tb g _ hm
 simp [Lib.TabIs,World.var?,hg,h2]
end Go.Proofs.YthohopjnpgbljaaGreatDoor
namespace Go.Proofs.YthohopjnpgbljaaGreatDoor
open Go.RowKit
end Go.Proofs.YthohopjnpgbljaaGreatDoor
namespace Go.Proofs.YthohopjnpgbljaaGreatDoor
open Go.RowKit
theorem em_append (b : ByteArray) : emS ++ b = b:=by
 apply ByteArray.ext
 simp
theorem allUp_and {α : Type} (p : α → Bool) (l : List α) (m : Int) : allUp p l m = (decide ((l.length : Int) ≤ m) && l.all p):=by
 by_cases h : (l.length : Int) ≤ m
 ·rw [allUp_all h]; simp [h]
 ·simp [allUp,h]
def ExRg : Ex → Prop
 | .mk op int name second pl args pos=>(-9223372036854775808 ≤ int ∧ int ≤ 9223372036854775807) ∧ ExRgs args
 where ExRgs : List Ex → Prop
 | []=>True
 | e :: l=>ExRg e ∧ ExRgs l
theorem exRgs_iff (l : List Ex) : ExRg.ExRgs l ↔ ∀ e ∈ l,ExRg e:=by
 induction l with
 | nil=>simp [ExRg.ExRgs]
 | cons e l ih=>simp [ExRg.ExRgs,ih]
theorem exRg_iff (e : Ex) : ExRg e ↔ (-9223372036854775808 ≤ e.int ∧ e.int ≤ 9223372036854775807) ∧ ∀ x ∈ e.args,ExRg x:=by
 cases e with | mk op int name second pl args pos=>rw [← exRgs_iff]; simp only [ExRg]; rfl
end Go.Proofs.YthohopjnpgbljaaGreatDoor
namespace Go.Proofs.YthohopjnpgbljaaGreatDoor
open Go.RowKit
attribute [local simp] List.replicate List.range List.range.loop resA resOne retA
theorem cell_freeze (w : World) (a : Addr) (n : Nat) (b : Addr) : (w.freeze a n).cell? b = w.cell? b:=by
 unfold World.freeze
 split
 ·rfl
 ·unfold World.cell?
  simp only [Array.getElem?_modify]
  by_cases hb : a.block = b.block
  ·simp only [hb,if_true]
   cases h : w.heap[b.block]? with
   | none=>rfl
   | some o=>cases o <;> rfl
  ·simp only [hb,if_false]
theorem block_freeze (w : World) (a : Addr) (n g : Nat) (hg : g ≠ a.block) : (w.freeze a n).heap[g]? = w.heap[g]?:=by
 unfold World.freeze
 split
 ·rfl
 ·simp only [Array.getElem?_modify]
  rw [if_neg (fun h=>hg h.symm)]
theorem size_freeze (w : World) (a : Addr) (n : Nat) : (w.freeze a n).heap.size = w.heap.size:=by
 unfold World.freeze
 split <;> simp
theorem rel_freeze {Pr : Prot} {φ : Fi2} {S : ASt} {w : World} (h : Rel Pr φ S w) {d j g : Nat} {o : AObj} {e : Ent} (hS : get2 S d j = some o) (he : get2 φ d j = some e) (hg : e.blk = some g) (off n : Nat) :
  Stp Pr φ w Pr φ (w.freeze ⟨g,off,none⟩ n) ∧ Rel Pr φ (set2 S d j .dead) (w.freeze ⟨g,off,none⟩ n):=by
 have hf : (w.freeze ⟨g,off,none⟩ n).os = w.os ∧ (w.freeze ⟨g,off,none⟩ n).tape = w.tape ∧ (w.freeze ⟨g,off,none⟩ n).output = w.output:=by
  unfold World.freeze; split <;> exact ⟨rfl,rfl,rfl⟩
 refine ⟨⟨Prot.le_refl Pr,Fle.refl φ,fun d i e g he hg=>.inl ⟨d,i,e,he,hg⟩,⟨hf.1,hf.2.1,hf.2.2,by rw [size_freeze]; exact Nat.le_refl _,fun g' hg' hn=>block_freeze _ _ _ _ fun hgg=>hn d j e he (by rw [hgg]; exact hg)⟩,rfl,fun g o h k=>absurd h k⟩,⟨fun d' i' o' ho'=>?_,h.dis,fun d i e g h1 h2=>by rw [size_freeze]; exact h.lt d i e g h1 h2,fun b o v hv=>by rw [cell_freeze]; exact h.pr b o v hv,h.tb.of (Prot.le_refl _) (fun g' hg' hn=>block_freeze _ _ _ _ fun hgg=>hn d j e he (by rw [hgg]; exact hg)) (fun d i e g he hg=>.inl ⟨d,i,e,he,hg⟩),by rw [set_map]; exact h.shape⟩⟩
 rw [get2_set _ hS] at ho'
 split at ho'
 ·rename_i hd
  obtain ⟨rfl,rfl⟩:=hd
  cases ho'
  exact ⟨e,he,trivial⟩
 ·rename_i hd
  obtain ⟨e',he',hr⟩:=h.obj d' i' o' ho'
  exact ⟨e',he',hr.keep (Prot.le_refl Pr) (Fle.refl _) fun g' hg'=>⟨block_freeze _ _ _ _ fun hgg=>hd (h.dis _ _ _ _ _ _ _ he' he hg' (by rw [hgg]; exact hg)),fun _ h=>h⟩⟩
theorem rel_dead {Pr : Prot} {φ : Fi2} {S : ASt} {w : World} (h : Rel Pr φ S w) {d j : Nat} {o : AObj} (hS : get2 S d j = some o) : Rel Pr φ (set2 S d j .dead) w:=by
 refine ⟨fun d' i' o' ho'=>?_,h.dis,h.lt,h.pr,h.tb,by rw [set_map]; exact h.shape⟩
 rw [get2_set _ hS] at ho'
 split at ho'
 ·rename_i hd
  obtain ⟨rfl,rfl⟩:=hd
  cases ho'
  obtain ⟨e,he,_⟩:=h.obj _ _ _ hS
  exact ⟨e,he,trivial⟩
 ·exact h.obj d' i' o' ho'
theorem bl_size : ∃ j,Tryz.prog.info? 78 = some j ∧ j.size = 2:=Option.map_eq_some_iff.1 (show (Tryz.prog.info? 78).map (·.size) = some 2 by kernel_rfl)
theorem bl_lies : liesAt Tryz.prog Tryz.prog.depth 82 (3 / Tryz.prog.cellsOf 82) 0 78 1 = true:=by kernel_rfl
theorem cc_used (b : Nat) (w : World) (h0 : w.cell? ⟨b,0,none⟩ = some (.pointer (some ⟨b,0,none⟩))) :
  Calls Tryz.prog 86 #[.pointer (some ⟨b,0,none⟩)] w fun e w'=>e = .returned (.tuple #[]) ∧ w' = w:=by
 obtain ⟨j,hj,_⟩:=bl_size
 go_enter Tryz.func86,Tryz.ntmps86
 go_wp2
 rw [Lib.run_neq_ptr_same w _ Tryz.underlying75 hj]
 go_wp2
 go_end0
 exact ⟨rfl,rfl⟩
theorem cc_fresh (b : Nat) (w : World) (h0 : w.cell? ⟨b,0,none⟩ = some (.pointer none)) (hsh : w.shape? b = some (82,3)) (hfz : w.frozen? ⟨b,0,none⟩ = false) :
  Calls Tryz.prog 86 #[.pointer (some ⟨b,0,none⟩)] w fun e w'=>e = .returned (.tuple #[]) ∧ w' = w.setCell ⟨b,0,none⟩ (.pointer (some ⟨b,0,none⟩)):=by
 obtain ⟨j,hj,hjs⟩:=bl_size
 have hlies:=bl_lies
 go_enter Tryz.func86,Tryz.ntmps86
 go_wp2
 rw [Lib.run_to_unsafe w ⟨b,0,none⟩ Tryz.underlying75 Tryz.underlying163 hj (by rw [hjs]; decide) hsh (Nat.zero_lt_succ 2)]
 simp only [Result.andThen]
 rw [Oper.upon_value]
 go_wp2
 rw [run_callFunc_extern Tryz.func104 (by kernel_rfl) (by kernel_rfl) (by kernel_rfl) (e:=Extern.AbiNoEscape.same) (by kernel_rfl)]
 rw [Lib.run_noEscape]
 simp only [Result.andThen]
 rw [Oper.upon_value]
 go_wp2
 rw [Lib.run_from_unsafe w ⟨b,0,none⟩ Tryz.underlying163 Tryz.underlying75 hj hsh hlies]
 simp only [Result.andThen]
 rw [Oper.upon_value]
 go_wp2
 go_end0
 exact ⟨rfl,rfl⟩
theorem copyCheckA (S : ASt) (d i : Nat) (p : AV) (cs : List AV) (hS : get2 S d i = some (.cells (p :: cs) 82)) (hp : p = .p (.v (.pointer none)) ∨ p = .ptr 0 i 0) (hlen : cs.length = 2) :
  ADet Tryz.prog 86 [.ptr d i 0] S .un (set2 S d i (.cells (.ptr 0 i 0 :: cs) 82)):=by
 refine ⟨Tryz.call86,fun Pr φ xs w hargs hR hne=>?_⟩
 obtain ⟨e,he,htok,g,ys,hg,hheap,hl,hc,hun⟩:=hR.obj d i _ hS
 have hx : xs = #[.pointer (some ⟨g,0,none⟩)]:=by
  obtain ⟨h1,h2⟩:=hargs
  have hs : xs.size = 1:=h1.symm
  have h3 : xs[0]? = some xs[0]:=Array.getElem?_eq_getElem (by omega)
  have:=h2 0 _ _ rfl h3
  generalize hy : xs[0] = y at *
  cases this with
  | ptr k1 k2 k3 =>
   rw [he] at k1; cases k1
   rw [hg] at k3; cases k3
   apply Array.ext (by simpa using hs)
   intro q h5 h6
   obtain rfl : q = 0:=by simp at h6; exact h6
   simpa using hy
 subst hx
 obtain ⟨y0,hy0⟩ : ∃ y0,ys[0]? = some y0:=⟨_,Array.getElem?_eq_getElem (by rw [← hl]; simp)⟩
 have hr0:=hc 0 p _ rfl hy0
 have hptr : RA Pr (φ.drop d) (.ptr 0 i 0) (.pointer (some ⟨g,0,none⟩)):=.ptr (by rw [get2_drop,Nat.zero_add]; exact he) htok hg
 rcases hp with rfl | rfl
 ·have h0 : y0 = .pointer none:=atomAV_ok hr0 rfl
  obtain ⟨s1,r1⟩:=rel_store (o:=0) hR hS he hg hptr
  refine (cc_fresh g w (by rw [cell_blk hheap,hy0,h0]) (by simp [World.shape?,hheap]; rw [← hl]; simp [hlen]) (frozen_blk hheap 0)).mono ?_
  rintro e' w' ⟨rfl,rfl⟩
  exact ⟨_,Pr,φ,rfl,s1,r1,.un⟩
 ·have h0 : y0 = .pointer (some ⟨g,0,none⟩):=by
   cases hr0 with
   | ptr k1 k2 k3 =>
    rw [get2_drop,Nat.zero_add,he] at k1; cases k1
    rw [hg] at k3; cases k3
    rfl
  refine (cc_used g w (by rw [cell_blk hheap,hy0,h0])).mono ?_
  rintro e' w' ⟨rfl,rfl⟩
  exact ⟨_,Pr,φ,rfl,Stp.refl _ _ _,by rw [set2_same hS]; exact hR,.un⟩
theorem bstr_row (b g n cap : Nat) (l : List UInt8) (cur : Array Value) (w : World) (h0 : l ≠ []) (hn : l.length ≤ cap) (hcm : cap ≤ maxLen) (hcs : cur.size = cap) (hc1 : w.cell? ⟨b,1,none⟩ = some (.slice (some ⟨g,0,none⟩) l.length cap)) (hg : w.heap[g]? = some (.cells cur 5 (0,0))) (hl : ∀ j x,l[j]? = some x → w.cell? ⟨g,j,none⟩ = some (.int .u8 x.toNat)) :
  Calls Tryz.prog 25 #[.pointer (some ⟨b,0,none⟩)] w fun e w'=>e = .returned (.string ⟨l.toArray⟩) ∧ w' = w.drew.freeze ⟨g,0,none⟩ l.length:=by
 have hl0 : l.length ≠ 0:=by simpa using h0
 have c1 : w.drew.cell? ⟨b,1,none⟩ = some (.slice (some ⟨g,0,none⟩) l.length cap):=hc1
 have hSD : (Builtin.unsafeSliceData_ #[76] 106 #[.slice (some ⟨g,0,none⟩) l.length cap]).run Tryz.prog w.drew = .ok (.pointer (some ⟨g,0,none⟩)) w.drew :=
  Lib.run_unsafeSliceData_row _ _ _ _ _ _ (by omega)
 have hUS : (Builtin.unsafeString_ #[106,3] 9 #[.pointer (some ⟨g,0,none⟩),.int .i64 l.length]).run Tryz.prog w.drew = .ok (.string ⟨l.toArray⟩) (w.drew.freeze ⟨g,0,none⟩ l.length):=by
  refine Lib.run_unsafeString_row w.drew 106 3 9 5 Tryz.underlying106 (by kernel_rfl) g cur.size (by have hg' : w.drew.heap[g]? = some (.cells cur 5 (0,0)):=hg; simp [World.shape?,hg']) l h0 (by omega) (by unfold maxLen at hcm; omega) ?_
  intro j x hx
  rw [addN,Nat.zero_add]
  exact hl j x hx
 clear hl hg hcs hcm hn hl0 h0
 have hmx:=mixed
 go_enter Tryz.func25,Tryz.ntmps25
 go_wp2
 go_region_o
 all_goals (go_wp2; go_ret; exact ⟨rfl,rfl⟩)
theorem bstr_nil (b : Nat) (w : World) (hc1 : w.cell? ⟨b,1,none⟩ = some (.slice none 0 0)) :
  Calls Tryz.prog 25 #[.pointer (some ⟨b,0,none⟩)] w fun e w'=>e = .returned (.string ⟨#[]⟩) ∧ w' = w.drew:=by
 have hUS : ∀ (W : World) (q : Option Addr),(Builtin.unsafeString_ #[106,3] 9 #[.pointer q,.int .i64 0]).run Tryz.prog W = .ok (.string .empty) W:=fun W q=>Lib.run_unsafeString_none W _ _ _ q
 have c1 : w.drew.cell? ⟨b,1,none⟩ = some (.slice none 0 0):=hc1
 have hSD : (Builtin.unsafeSliceData_ #[76] 106 #[.slice none 0 0]).run Tryz.prog w.drew = .ok (.pointer none) w.drew:=rfl
 have hmx:=mixed
 go_enter Tryz.func25,Tryz.ntmps25
 go_wp2
 go_region_o
 all_goals (go_wp2; go_ret; exact ⟨rfl,rfl⟩)
theorem builderString (S : ASt) (d i j : Nat) (p ln : AV) (bs : ByteArray) (hS : get2 S d i = some (.cells [p,.osl 1 (bytesR bs) 0 j,ln] 82)) (hT : get2 S d j = some (.tok 5 1 bs.size)) :
  ADet Tryz.prog 25 [.ptr d i 0] S (Sg bs) (set2 S d j .dead):=by
 refine ⟨Tryz.call25,fun Pr φ xs w hargs hR hne=>?_⟩
 obtain ⟨e,he,htok,g,ys,hg,hheap,hl,hc,hun⟩:=hR.obj d i _ hS
 obtain ⟨e2,he2,htok2,hen2,hek2,_,hrow⟩:=hR.obj d j _ hT
 have hx : xs = #[.pointer (some ⟨g,0,none⟩)]:=by
  obtain ⟨h1,h2⟩:=hargs
  have hs : xs.size = 1:=h1.symm
  have h3 : xs[0]? = some xs[0]:=Array.getElem?_eq_getElem (by omega)
  have:=h2 0 _ _ rfl h3
  generalize hy : xs[0] = y at *
  cases this with
  | ptr k1 k2 k3 =>
   rw [he] at k1; cases k1
   rw [hg] at k3; cases k3
   apply Array.ext (by simpa using hs)
   intro q h5 h6
   obtain rfl : q = 0:=by simp at h6; exact h6
   simpa using hy
 subst hx
 obtain ⟨y1,hy1⟩ : ∃ y1,ys[1]? = some y1:=⟨_,Array.getElem?_eq_getElem (by rw [← hl]; simp)⟩
 have hr1:=hc 1 _ _ rfl hy1
 have hcell : w.cell? ⟨g,1,none⟩ = some y1:=by rw [cell_blk hheap,hy1]
 have hgen : ∀ k,k = 1 → RA Pr (φ.drop d) (.osl k (bytesR bs) 0 j) y1 → (bs.size = 0 ∧ y1 = .slice none 0 0) ∨ ∃ g2 cap,0 < bs.size ∧ y1 = .slice (some ⟨g2,0,none⟩) bs.size cap ∧ e2.blk = some g2 ∧ e2.cap = cap ∧ bs.size ≤ cap ∧ cap ≤ maxLen ∧ ∀ r x,bs.data.toList[r]? = some x → Pr g2 r = some (.int .u8 x.toNat):=by
  intro k hk h
  generalize hrows : bytesR bs = rows at h
  have hlen : rows.length = bs.size:=by rw [← hrows,bytesR_len]
  cases h with
  | onil=>exact .inl ⟨by simpa using hlen.symm,rfl⟩
  | @osl _ _ _ g2 cap e3 vs a1 a2 a3 a4 a5 a6 a7 a8 a9 a10 =>
   rw [get2_drop,Nat.zero_add,he2] at a1
   cases a1
   obtain ⟨b1,b2⟩:=a5 (by rw [hen2,hlen])
   rw [hlen] at *
   refine .inr ⟨g2,cap,a3,rfl,b1,b2,a6,a7,fun r x hx=>?_⟩
   have hrow : rows[r]? = some [.v (.int .u8 x.toNat)]:=by rw [← hrows,bytesR,List.getElem?_map,hx]; rfl
   have h9:=a9 r _ 0 _ hrow rfl
   have h10:=a10 r _ 0 _ hrow rfl
   rw [hk,Nat.mul_one,Nat.add_zero] at h9
   rw [h9]
   generalize vs r 0 = z at h10
   cases h10 with
   | v=>rfl
 rcases hgen 1 rfl hr1 with ⟨h0,rfl⟩ | ⟨g2,cap,h0,rfl,hb2,hcap,hle,hcm,hcells⟩
 ·have hbs : bs = ⟨#[]⟩:=by
   apply ByteArray.ext
   exact Array.eq_empty_of_size_eq_zero h0
  subst hbs
  refine (bstr_nil g w hcell).mono ?_
  rintro e' w' ⟨rfl,rfl⟩
  obtain ⟨s1,r1⟩:=rel_drew hR (w.drawn + 1)
  exact ⟨_,Pr,φ,rfl,s1,rel_dead r1 hT,.p (.v rfl)⟩
 ·rcases hrow with ⟨hz,_⟩ | ⟨g',cur,hg',hheap2,hsz,_,_,_,_⟩
  ·omega
  rw [hb2] at hg'
  cases hg'
  have hlen : bs.data.toList.length = bs.size:=by simp
  rw [← hlen] at hcell hle
  refine (bstr_row g g2 bs.size cap bs.data.toList cur w (fun h=>by rw [h] at hlen; simp at hlen; omega) hle hcm (by rw [← hcap]; simpa using hsz) hcell hheap2 (fun r x hx=>hR.pr _ _ _ (hcells r x hx))).mono ?_
  rintro e' w' ⟨rfl,rfl⟩
  obtain ⟨s1,r1⟩:=rel_drew hR (w.drawn + 1)
  obtain ⟨s2,r2⟩:=rel_freeze r1 hT he2 hb2 0 bs.data.toList.length
  exact ⟨_,Pr,φ,rfl,s1.trans s2,r2,.p (.v rfl)⟩
def itoaB (n : Int) : ByteArray:=⟨(Lib.itoa n).toArray⟩
theorem g_pow10 : Tryz.prog.globalNamed "internal/strconv.uint64pow10" = some 0:=by kernel_rfl
theorem pow10_in : ((0 : Nat),Lib.pow10Tab.map fun z=>Value.int .u64 z) ∈ tabList:=by simp [tabList]
theorem formatInt1 (n : Int) (h0 : -9223372036854775808 ≤ n) (h1 : n ≤ 9223372036854775807) (S : ASt) : ADet Tryz.prog 87 [I n,I 10] S (Sg (itoaB n)) S :=
 ADet.of_calls rfl Tryz.call87 fun Pr φ xs w hargs hR=>by
  obtain rfl:=rl_vals (l:=[.int .i64 n,.int .i64 10]) hargs
  refine (Tryz.internal_strconv_FormatInt_10 n h0 h1 w (tab_is hR g_pow10 pow10_in)).mono ?_
  rintro e w' ⟨rfl,k,os,rfl⟩
  exact ⟨rfl,Lib.below_grow _ _ (Nat.le_refl _) _ _⟩
theorem formatInt (n : Int) (h0 : -9223372036854775808 ≤ n) (h1 : n ≤ 9223372036854775807) (S : ASt) : ADet Tryz.prog 55 [I n,I 10] S (Sg (itoaB n)) S:=by
 refine ADet.intro mixed Tryz.call55 Tryz.func55 rfl ?_
 simp [Tryz.ntmps55]
 refine ⟨_,_,formatInt1 n h0 h1 _,?_⟩
 simp
theorem greatExprC (e : Ex) (S : ASt) : ADet Tryz.prog 5 [exV e] S (B (decide (e.room 20000 < 0))) S:=by
 refine ADet.intro mixed Tryz.call5 Tryz.func5 rfl ?_
 simp [Tryz.ntmps5]
 refine ⟨_,_,exprC e _ 0 1 20000 (by simp [get2_zero,rm]) (by omega) (by omega),?_⟩
 simp [rm]
end Go.Proofs.YthohopjnpgbljaaGreatDoor
namespace Go.Proofs.YthohopjnpgbljaaGreatDoor
open Go.RowKit
mutual
def Ex.atm (g : Int → Int) : Ex → Ex
 | .mk op i n s p l a=>.mk op i n s p (Ex.atms g l) (g a)
def Ex.atms (g : Int → Int) : List Ex → List Ex
 | []=>[]
 | x :: l=>x.atm g :: Ex.atms g l
end
theorem exAtms (g : Int → Int) (l : List Ex) : Ex.atms g l = l.map (Ex.atm g):=by
 induction l with
 | nil=>rfl
 | cons x l ih=>simp [Ex.atms,ih]
theorem exAtm (g : Int → Int) (e : Ex) : e.atm g = .mk e.op e.int e.name e.second e.place (e.args.map (Ex.atm g)) (g e.pos):=by
 cases e; simp only [Ex.atm,exAtms]; rfl
mutual
def St.atm (g : Int → Int) : St → St
 | .mk op n s ns t i p es b e l a=>.mk op n s ns t i p (es.map (Ex.atm g)) (St.atms g b) (St.atms g e) (Ar.atms g l) (g a)
def St.atms (g : Int → Int) : List St → List St
 | []=>[]
 | x :: l=>x.atm g :: St.atms g l
def Ar.atms (g : Int → Int) : List (ArOf St) → List (ArOf St)
 | []=>[]
 | ⟨v,n,b⟩ :: l=>⟨v,n,St.atms g b⟩ :: Ar.atms g l
end
def Ar.atm (g : Int → Int) (a : Ar) : Ar:=⟨a.variant,a.name,a.body.map (St.atm g)⟩
def It.atm (g : Int → Int) (x : It) : It:=⟨x.kind,x.name,x.fields,x.result,x.body.map (St.atm g),x.ret.atm g,g x.pos⟩
end Go.Proofs.YthohopjnpgbljaaGreatDoor
