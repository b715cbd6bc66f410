/- A part of the proof. -/
import Derived.Test.YtdflkegnmmkkoaaGreatDoorXMNp
import Derived.Test.YtdflkegnmmkkoaaGreatDoorXNQk
set_option linter.unusedVariables false
set_option linter.unusedSimpArgs false
set_option maxRecDepth 100000
set_option maxHeartbeats 32000000
namespace Go.Proofs.YtdflkegnmmkkoaaGreatDoor
open Go.RowKit
theorem zCv{c:Prop}(h:c){α:Type}{d:Decidable c}(a b:α): @ite α c d a b=a:=if_pos h
theorem zCw{c:Prop}(h:¬c){α:Type}{d:Decidable c}(a b:α): @ite α c d a b=b:=if_neg h
theorem zQP(p:List It)(op:Int)(name second:BA)(names:List BA)(ty:Ty)(int:Int)(pl:Pl)(es:List Ex)(b el:List St)(ar:List Ar)(pos:Int)(σ:Nf):(St.mk op name second names ty int pl es b el ar pos).nm p σ=
  if op=1 then Nf.mkS [name] pos (σ.add (es.flatMap (Ex.nm p σ.made)))
  else if op=2 then Nf.mkS names pos ((σ.add (es.flatMap (Ex.nm p σ.made))).add (zH (zFk p name names.length) 60 pos))
  else if op=3 then((σ.add (es.flatMap (Ex.nm p σ.made))).add (zH (mIs σ.made pl.name) 60 pos),[])
  else if op=5 then((σ.add (es.flatMap (Ex.nm p σ.made))).add (zH (mIs σ.made name) 60 pos),[])
  else if op=12 then Nf.mkS [name,second] pos ((σ.add (es.flatMap (Ex.nm p σ.made))).add (ty.nm p pos))
  else if op=8 then(ar.foldl (fun σ a=>a.nm p pos σ) ((σ.add (es.flatMap (Ex.nm p σ.made))).add (zH (mIs σ.made name&&zDP p second (ar.map armF)) 60 pos)),[])
  else if op=10 then
   (⟨σ.made,σ.count,σ.opn,(zB5 p b pos names ((σ.fl++es.flatMap (Ex.nm p σ.made))++zH (decide (0<σ.opn)) 61 pos)).fl++zH (decide ((zB5 p b pos names ((σ.fl++es.flatMap (Ex.nm p σ.made))++zH (decide (0<σ.opn)) 61 pos)).count<=60)) 4 pos⟩,[])
  else if op=9 then
   ((fun(g:Nf)=>(⟨g.made,g.count,g.opn-1,g.fl⟩:Nf)) (z8 p b pos [] ⟨σ.made,σ.count,σ.opn+1,σ.fl++es.flatMap (Ex.nm p σ.made)⟩),[])
  else if op=11 then(z8 p b pos [name] ((σ.add (es.flatMap (Ex.nm p σ.made))).add (zH (mIs σ.made pl.name) 60 pos)),[])
  else(z8 p el pos [] (z8 p b pos [] (σ.add (es.flatMap (Ex.nm p σ.made)))),[]):=stNm p (St.mk op name second names ty int pl es b el ar pos) σ
theorem zcB(g:Int->Int)(op:Int)(name second:BA)(names:List BA)(ty:Ty)(int:Int)(pl:Pl)(es:List Ex)(b el:List St)(ar:List Ar)(pos:Int):(St.mk op name second names ty int pl es b el ar pos).atm g= .mk op name second names ty int pl (es.map (Ex.atm g)) (b.map (St.atm g)) (el.map (St.atm g)) (ar.map (Ar.atm g)) (g pos):=zSE g _
def zG(g:Int->Int)(f:Flt):Flt:=(f.1,g f.2)
theorem zCZ(g:Int->Int)(b:Bool)(e a:Int):zH b e (g a)=(zH b e a).map (zG g):=by cases b<;>rfl
def Nf.atm(g:Int->Int)(σ:Nf):Nf:=⟨σ.made,σ.count,σ.opn,σ.fl.map (zG g)⟩
section
variable(g:Int->Int)(p:List It)
abbrev pG:List It:=p.map (It.atm g)
theorem zOk(s:BA):fnIt (pG g p) s=(fnIt p s).map (It.atm g):=by unfold fnIt;rw[List.find?_map];rfl
theorem zFw(s:BA):zK (pG g p) s=(zK p s).map (It.atm g):=by unfold zK;rw[List.find?_map];rfl
theorem zQQ(m:List Fg)(op:Int)(nm sc:BA)(pl:Pl)(n:Nat):zCX (pG g p) m op nm sc pl n=zCX p m op nm sc pl n:=by
 unfold zCX;rw[zOk,zFw];cases fnIt p nm<;>cases zK p nm<;>rfl
theorem zOl(m:List Fg):∀e:Ex,(e.atm g).nm (pG g p) m=(e.nm p m).map (zG g):=by
 refine Ex.ind fun e ih=>?_
 have h:∀l:List Ex,(∀x∈l,(x.atm g).nm (pG g p) m=(x.nm p m).map (zG g))->(l.map (Ex.atm g)).flatMap (Ex.nm (pG g p) m)=(l.flatMap (Ex.nm p m)).map (zG g):=fun l hl=>by
  induction l with
  |nil=>rfl
  |cons x l ih=>
   simp only[List.map_cons,List.flatMap_cons,List.map_append];rw[hl x (by simp),ih fun y hy=>hl y (List.mem_cons_of_mem _ hy)]
 rw[exNm,exNm p m e,zPO,List.map_append,<-zCZ]
 obtain⟨op,int,name,second,pl,args,pos⟩:=e
 simp only[Ex.op,Ex.int,Ex.name,Ex.u2,Ex.place,Ex.args,Ex.pos]at*;rw[List.length_map,zQQ,h _ ih]
theorem zTV(m:List Fg)(l:List Ex):(l.map (Ex.atm g)).flatMap (Ex.nm (pG g p) m)=(l.flatMap (Ex.nm p m)).map (zG g):=by
 induction l with
 |nil=>rfl
 |cons x l ih=>
  simp only[List.map_cons,List.flatMap_cons,List.map_append];rw[zOl,ih]
theorem zKz(pos:Int):∀t:Ty,t.nm (pG g p) (g pos)=(t.nm p pos).map (zG g):=by
 refine Ty.ind fun t ih=>?_
 have h:∀l:List Ty,(∀x∈l,x.nm (pG g p) (g pos)=(x.nm p pos).map (zG g))->l.flatMap (Ty.nm (pG g p) (g pos))=(l.flatMap (Ty.nm p pos)).map (zG g):=fun l hl=>by
  induction l with
  |nil=>rfl
  |cons x l ih=>
   simp only[List.flatMap_cons,List.map_append];rw[hl x (by simp),ih fun y hy=>hl y (List.mem_cons_of_mem _ hy)]
 rw[tyNm,tyNm p pos t,List.map_append,h _ ih,zFw];split
 .rw[<-zCZ];cases zK p t.name<;>rfl
 rfl
theorem zZh(s:BA)(pos:Int)(σ:Nf):(σ.atm g).mk1 s (g pos)=(σ.mk1 s pos).atm g:=by
 unfold Nf.mk1 Nf.atm;simp only[List.map_append,<-zCZ]
theorem zGz(pos:Int):∀(l:List BA) (σ:Nf),Nf.mkS l (g pos) (σ.atm g)=((Nf.mkS l pos σ).1.atm g,(Nf.mkS l pos σ).2)
 | [],σ=>rfl
 |s::l,σ=>by
  rw[Nf.mkS,zZh,zGz pos l,Nf.mkS];rfl
theorem zGa:∀(l:List Fg) (σ:Nf),Nf.undo l (σ.atm g)=(Nf.undo l σ).atm g
 | [],σ=>rfl
 |h::l,σ=>by rw[Nf.undo,zGa l,Nf.undo];rfl
theorem zTW(σ:Nf)(l:List Flt):(σ.atm g).add (l.map (zG g))=(σ.add l).atm g:=by
 unfold Nf.add Nf.atm;simp only[List.map_append]
theorem zMG(k:Int)(s:BA):zDv (pG g p) k s=(zDv p k s).map (It.atm g):=by
 unfold zDv;rw[zFw]
 cases h:zK p s with
 |none=>rfl
 |some x=>
  show(if(x.atm g).kind=k then some (x.atm g)else none)=Option.map _ (if x.kind=k then some x else none)
  by_cases hk:x.kind=k
  .rw[if_pos hk,if_pos (show(x.atm g).kind=k from hk)];rfl
  rw[if_neg hk,if_neg (show ¬(x.atm g).kind=k from hk)];rfl
theorem zTX(s:BA)(n:Nat):zFk (pG g p) s n=zFk p s n:=by
 unfold zFk;rw[zMG];cases zDv p 1 s<;>rfl
theorem zMH(x:It):∀(l:List Fg) (met:List BA),zDw (x.atm g) met l=zDw x met l
 | [],met=>rfl
 |a::l,met=>by rw[zDw,zMH x l,zDw];rfl
theorem zQR(s:BA)(l:List Fg):zDP (pG g p) s l=zDP p s l:=by
 unfold zDP;rw[zMG]
 cases zDv p 2 s with
 |none=>rfl
 |some x=>
  show zDl (x.atm g) l=zDl x l
  unfold zDl;rw[zMH];rfl
def StA(s:St):Prop:=∀σ:Nf,(s.atm g).nm (pG g p) (σ.atm g)=((s.nm p σ).1.atm g,(s.nm p σ).2)
theorem zGb:∀(l:List St),(∀s∈l,StA g p s)->∀σ:Nf,St.nms (pG g p) (l.map (St.atm g)) (σ.atm g)=((St.nms p l σ).1.atm g,(St.nms p l σ).2)
 | [],h,σ=>by simp only[List.map_nil,St.nms]
 |s::l,h,σ=>by
  simp only[List.map_cons,St.nms];rw[h s (by simp) σ,zGb l (fun y hy=>h y (List.mem_cons_of_mem _ hy))]
theorem zD3{l:List St}(h:∀s∈l,StA g p s)(pos:Int)(names:List BA)(σ:Nf):z8 (pG g p) (l.map (St.atm g)) (g pos) names (σ.atm g)=(z8 p l pos names σ).atm g:=by
 unfold z8;rw[zGz];simp only;rw[zGb g p l h];simp only;rw[zGa,zGa]
theorem zQS{l:List St}(h:∀s∈l,StA g p s)(pos:Int)(names:List BA)(fl:List Flt):zB5 (pG g p) (l.map (St.atm g)) (g pos) names (fl.map (zG g))=(zB5 p l pos names fl).atm g:=by
 unfold zB5
 have e:(⟨[],0,0,fl.map (zG g)⟩:Nf)=Nf.atm g ⟨[],0,0,fl⟩:=rfl
 rw[e,zGz];simp only;rw[zGb g p l h];simp only;rw[zGa]
theorem zOm(pos:Int):∀(l:List Ar),(∀a∈l,∀s∈a.body,StA g p s)->∀σ:Nf,(l.map (Ar.atm g)).foldl (fun σ a=>a.nm (pG g p) (g pos) σ) (σ.atm g)=(l.foldl (fun σ a=>a.nm p pos σ) σ).atm g
 | [],h,σ=>rfl
 |a::l,h,σ=>by
  simp only[List.map_cons,List.foldl_cons]
  have e:(a.atm g).nm (pG g p) (g pos) (σ.atm g)=(a.nm p pos σ).atm g:=by
   unfold Ar.nm;exact zD3 g p (h a (by simp)) pos (oneN a.name) σ
  rw[e];exact zOm pos l (fun b hb=>h b (List.mem_cons_of_mem _ hb)) _
theorem zWX(l:List Ar):(l.map (Ar.atm g)).map armF=l.map armF:=by
 rw[List.map_map];rfl
theorem zWY:∀s:St,StA g p s:=by
 refine St.ind fun s i1 i2 i3 σ=>?_
 have Ye:∀m,((s.u3.map (Ex.atm g)).flatMap (Ex.nm (pG g p) m))=(s.u3.flatMap (Ex.nm p m)).map (zG g):=fun m=>zTV g p m s.u3
 have vi:(σ.atm g).made=σ.made:=rfl
 have dl:(σ.atm g).opn=σ.opn:=rfl
 have gl:(σ.atm g).count=σ.count:=rfl
 have Nc:(σ.atm g).fl=σ.fl.map (zG g):=rfl
 obtain⟨op,name,second,names,ty,int,pl,es,b,el,ar,pos⟩:=s
 rw[zcB,zQP (pG g p),zQP p];simp only[St.op,St.name,St.u2,St.names,St.type,St.int,St.place,St.u3,St.body,St.els,St.arms,St.pos]at*;simp only[Ye,vi,dl,gl,Nc,zTX,zWX,zQR,zKz,zCZ,zTW]
 by_cases o1:op=1
 .simp only[zCv o1,zGz]
 simp only[zCw o1]
 by_cases o2:op=2
 .simp only[zCv o2,zGz]
 simp only[zCw o2]
 by_cases o3:op=3
 .simp only[zCv o3]
 simp only[zCw o3]
 by_cases o5:op=5
 .simp only[zCv o5]
 simp only[zCw o5]
 by_cases Uf:op=12
 .simp only[zCv Uf,zGz]
 simp only[zCw Uf]
 by_cases o8:op=8
 .simp only[zCv o8,zOm g p pos ar i3]
 simp only[zCw o8]
 by_cases Vf:op=10
 .simp only[zCv Vf,<-List.map_append,zQS g p i1]
  simp only[Nf.atm,List.map_append];rfl
 simp only[zCw Vf]
 by_cases o9:op=9
 .have e:(⟨σ.made,σ.count,σ.opn+1,σ.fl.map (zG g)++(es.flatMap (Ex.nm p σ.made)).map (zG g)⟩:Nf)=Nf.atm g ⟨σ.made,σ.count,σ.opn+1,σ.fl++es.flatMap (Ex.nm p σ.made)⟩:=by simp[Nf.atm]
  simp only[zCv o9,e,zD3 g p i1];rfl
 simp only[zCw o9]
 by_cases Xf:op=11
 .simp only[zCv Xf,zD3 g p i1]
 simp only[zCw Xf,zD3 g p i1,zD3 g p i2]
theorem zI5(pos:Int):∀(l:List Fi) (met:List BA),zAK (pG g p) (g pos) met l=(zAK p pos met l).map (zG g)
 | [],met=>rfl
 |f::l,met=>by
  rw[zAK,zI5 pos l,zAK,List.map_append,List.map_append,zKz,zCZ]
theorem zQT(q:Nat)(x:It):zA5 (pG g p) q (x.atm g)=zA5 p q x:=by
 unfold zA5;rw[<-List.map_take,List.any_map];rfl
theorem zTY(x:It)(fl:List Flt):zFW (pG g p) (x.atm g) (fl.map (zG g))=(zFW p x fl).atm g:=by
 unfold zFW
 have e:(⟨((x.atm g).fields.map Fi.name).foldl (fun m s=>mPut m s true) [],(x.atm g).fields.length,0,fl.map (zG g)⟩:Nf)=Nf.atm g ⟨(x.fields.map Fi.name).foldl (fun m s=>mPut m s true) [],x.fields.length,0,fl⟩:=rfl
 rw[e]
 show(fun(r:Nf × List Fg)=>Nf.undo r.2 (r.1.add ((x.ret.atm g).nm (pG g p) r.1.made))) (St.nms (pG g p) (x.body.map (St.atm g)) (Nf.atm g _))=_
 rw[zGb g p x.body (fun s _=>zWY g p s)]
 simp only;rw[zOl,<-zGa,<-zTW];rfl
theorem zTZ(q:Nat)(x:It)(fl:List Flt):zCa (pG g p) q (x.atm g) (fl.map (zG g))=(zCa p q x fl).map (zG g):=by
 unfold zCa;simp only;rw[zQT]
 show(if x.kind=3 then _ else _)=List.map (zG g) (if x.kind=3 then _ else _)
 have e1:(fl.map (zG g)++zH (!zA5 p q x) 60 (x.atm g).pos)++zAK (pG g p) (x.atm g).pos [] (x.atm g).fields=((fl++zH (!zA5 p q x) 60 x.pos)++zAK p x.pos [] x.fields).map (zG g):=by
  rw[List.map_append,List.map_append,<-zCZ,<-zI5];rfl
 rw[e1]
 by_cases h3:x.kind=3
 .rw[if_pos h3,if_pos h3]
  have e2:(x.atm g).result.nm (pG g p) (x.atm g).pos=(x.result.nm p x.pos).map (zG g):=zKz g p x.pos x.result
  rw[e2,<-List.map_append,zTY,List.map_append,<-zCZ];rfl
 rw[if_neg h3,if_neg h3]
theorem zJ2:∀(l:List It) (q:Nat) (fl:List Flt),zCn (pG g p) q (l.map (It.atm g)) (fl.map (zG g))=(zCn p q l fl).map (zG g)
 | [],q,fl=>rfl
 |x::l,q,fl=>by
  rw[List.map_cons,zCn,zTZ,zJ2 l,zCn]
theorem zTa(s:BA):zIR (pG g p) s=zIR p s:=by
 unfold zIR;rw[zOk];cases fnIt p s<;>rfl
end
end Go.Proofs.YtdflkegnmmkkoaaGreatDoor
namespace Go.Proofs.YtdflkegnmmkkoaaGreatDoor
open Go.RowKit
theorem zCF{α β:Type}(f:α->β){q:β->Bool}{r:α->Bool}:∀(l:List α),(∀x∈l,q (f x)=r x)->(l.map f).all q=l.all r
 | [],h=>rfl
 |x::l,h=>by
  rw[List.map_cons,List.all_cons,List.all_cons,h x (by simp),zCF f l fun y hy=>h y (List.mem_cons_of_mem _ hy)]
theorem zGc{α β:Type}(f:α->β){q:β->Bool}{r:α->Bool}(l:List α)(m:Int)(h:∀x∈l,q (f x)=r x):zv q (l.map f) m=zv r l m:=by
 unfold zv;rw[List.length_map,<-List.map_take,zCF f (l.take m.toNat) fun x hx=>h x (List.mem_of_mem_take hx)]
section
variable(g:Int->Int)
theorem zI6:∀(e:Ex) (d:Int),(e.atm g).whole d=e.whole d:=by
 refine Ex.ind fun e ih d=>?_
 rw[zDu,zDu e,zPO];simp only[Ex.op,Ex.int,Ex.name,Ex.u2,Ex.place,Ex.args,List.length_map]
 obtain⟨op,int,name,second,pl,args,pos⟩:=e
 simp only[Ex.op,Ex.int,Ex.name,Ex.u2,Ex.place,Ex.args]at*
 rw[zGc (Ex.atm g) (r:=fun t=>((op==18)|| !zCW t.op)&&t.whole (d-1)) args _ fun x hx=>by
  rw[ih x hx];cases x;rfl]
 rfl
theorem zWZ(op:Int)(es:List Ex)(d:Int):exsB op (es.map (Ex.atm g)) d=exsB op es d:=by
 unfold exsB;exact zGc (Ex.atm g) es _ fun x hx=>by rw[zI6];cases x;rfl
theorem zQU(op int:Int)(nm sc:BA)(names:List BA)(ty:Ty)(pl:Pl)(es:List Ex)(d:Int):zO op int nm sc names ty pl (es.map (Ex.atm g)) d=zO op int nm sc names ty pl es d:=by
 unfold zO;rw[List.length_map]
theorem zNT:∀(s:St) (d:Int),(s.atm g).whole d=s.whole d:=by
 refine St.ind fun s i1 i2 i3 d=>?_
 rw[zC,zC s,zSE]
 obtain⟨op,name,second,names,ty,int,pl,es,b,el,ar,pos⟩:=s
 simp only[St.op,St.name,St.u2,St.names,St.type,St.int,St.place,St.u3,St.body,St.els,St.arms,St.pos,List.length_map]at*
 rw[zQU,zWZ,zCF (St.atm g) (r:=fun t=>t.whole (d-1)) b fun x hx=>i1 x hx _,zCF (St.atm g) (r:=fun t=>t.whole (d-1)) el fun x hx=>i2 x hx _,
  zGc (Ar.atm g) (r:=fun a=>a.whole (d-1)) ar _ fun a ha=>by
   unfold Ar.whole Ar.atm;simp only;rw[zCF (St.atm g) (r:=fun t=>t.whole (d-1)) a.body fun x hx=>i3 a ha x hx _]]
 rfl
theorem zNU(x:It)(d:Int):(x.atm g).whole d=x.whole d:=by
 have hz:zCr (x.ret.atm g)=zCr x.ret:=by
  rw[zPO];unfold zCr;simp only[Ex.op,Ex.int,Ex.name,Ex.u2,Ex.place,Ex.args,List.length_map];cases x.ret;rfl
 have ho:(x.ret.atm g).op=x.ret.op:=by cases x.ret;rfl
 unfold It.whole It.atm;simp only[List.length_map];rw[hz,ho,zI6,zCF (St.atm g) (r:=fun s=>s.whole (d-1)) x.body fun y _=>zNT g y _]
theorem zI7(p:List It):zAC (p.map (It.atm g))=zAC p:=by
 unfold zAC;exact zGc (It.atm g) p _ fun x _=>zNU g x _
theorem zQV(h0:g 0=0)(p:List It):zAt (p.map (It.atm g))=(zAt p).map (zG g):=by
 unfold zAt;rw[zI7];split
 .rw[List.map_append,<-zCZ,h0,zTa]
  have:=zJ2 g p p 0 []
  rw[List.map_nil]at this;rw[this]
 show [((2:Int),(0:Int))]=[(2,g 0)]
 rw[h0]
end
theorem zBQ{α β:Type}(f:α->β){q:β->Int->Int}{r:α->Int->Int}:∀(l:List α),(∀x∈l,∀n,q (f x) n=r x n)->∀n,zE q (l.map f) n=zE r l n
 | [],h,n=>rfl
 |x::l,h,n=>by
  rw[List.map_cons,zE,zE,h x (by simp)]
  rw[zBQ f l (fun y hy=>h y (List.mem_cons_of_mem _ hy))]
theorem zJ3(g:Int->Int):∀(e:Ex) (n:Int),(e.atm g).room n=e.room n:=by
 refine Ex.ind fun e ih n=>?_
 rw[zCh,zCh e,zPO];simp only[Ex.name,Ex.u2,Ex.place,Ex.args]
 obtain⟨op,int,name,second,pl,args,pos⟩:=e
 exact zBQ (Ex.atm g) args (fun x hx=>ih x hx) _
theorem zQW(g:Int->Int):∀(s:St) (n:Int),(s.atm g).room n=s.room n:=by
 refine St.ind fun s i1 i2 i3 n=>?_
 rw[zDL,zDL s,zSE]
 obtain⟨op,name,second,names,ty,int,pl,es,b,el,ar,pos⟩:=s
 simp only[St.room1,St.op,St.name,St.u2,St.names,St.type,St.int,St.place,St.u3,St.body,St.els,St.arms,St.pos]at*
 have h1:∀n,zE Ex.room (es.map (Ex.atm g)) n=zE Ex.room es n:=zBQ (Ex.atm g) es fun x _=>zJ3 g x
 have h2:∀n,zE St.room (b.map (St.atm g)) n=zE St.room b n:=zBQ (St.atm g) b fun x hx=>i1 x hx
 have h3:∀n,zE St.room (el.map (St.atm g)) n=zE St.room el n:=zBQ (St.atm g) el fun x hx=>i2 x hx
 have h4:∀n,zE Ar.room (ar.map (Ar.atm g)) n=zE Ar.room ar n:=zBQ (Ar.atm g) ar fun a ha m=>by
  rw[zCK,zCK a];exact zBQ (St.atm g) a.body (fun x hx=>i3 a ha x hx) _
 simp only[h1,h2,h3,h4];rfl
theorem zTb(g:Int->Int)(p:List It):great (p.map (It.atm g))=great p:=by
 unfold great
 rw[zBQ (It.atm g) (r:=It.room) p fun x _ n=>by
  unfold It.room
  show(x.ret.atm g).room (zE St.room (x.body.map (St.atm g)) _)=_
  rw[zJ3,zBQ (St.atm g) (r:=St.room) x.body fun y _=>zQW g y]
  rfl]
section
variable{g:Int->Int}
end
end Go.Proofs.YtdflkegnmmkkoaaGreatDoor
namespace Go.Proofs.YtdflkegnmmkkoaaGreatDoor
open Go.RowKit
def Nf.pre(l:List Flt)(σ:Nf):Nf:=⟨σ.made,σ.count,σ.opn,l++σ.fl⟩
section
variable(l0:List Flt)(p:List It)
theorem zZi(s:BA)(pos:Int)(σ:Nf):(σ.pre l0).mk1 s pos=(σ.mk1 s pos).pre l0:=by
 unfold Nf.mk1 Nf.pre;simp only[List.append_assoc]
theorem zG0(pos:Int):∀(l:List BA) (σ:Nf),Nf.mkS l pos (σ.pre l0)=((Nf.mkS l pos σ).1.pre l0,(Nf.mkS l pos σ).2)
 | [],σ=>rfl
 |s::l,σ=>by
  rw[Nf.mkS,zZi,zG0 pos l,Nf.mkS];rfl
theorem zGd:∀(l:List Fg) (σ:Nf),Nf.undo l (σ.pre l0)=(Nf.undo l σ).pre l0
 | [],σ=>rfl
 |h::l,σ=>by rw[Nf.undo,zGd l,Nf.undo];rfl
theorem zTc(σ:Nf)(l:List Flt):(σ.pre l0).add l=(σ.add l).pre l0:=by
 unfold Nf.add Nf.pre;simp only[List.append_assoc]
def StP(s:St):Prop:=∀σ:Nf,s.nm p (σ.pre l0)=((s.nm p σ).1.pre l0,(s.nm p σ).2)
theorem zGe:∀(l:List St),(∀s∈l,StP l0 p s)->∀σ:Nf,St.nms p l (σ.pre l0)=((St.nms p l σ).1.pre l0,(St.nms p l σ).2)
 | [],h,σ=>by simp only[St.nms]
 |s::l,h,σ=>by
  simp only[St.nms];rw[h s (by simp) σ,zGe l (fun y hy=>h y (List.mem_cons_of_mem _ hy))]
theorem zD4{l:List St}(h:∀s∈l,StP l0 p s)(pos:Int)(names:List BA)(σ:Nf):z8 p l pos names (σ.pre l0)=(z8 p l pos names σ).pre l0:=by
 unfold z8;rw[zG0];simp only;rw[zGe l0 p l h];simp only;rw[zGd,zGd]
theorem zQX{l:List St}(h:∀s∈l,StP l0 p s)(pos:Int)(names:List BA)(fl:List Flt):zB5 p l pos names (l0++fl)=(zB5 p l pos names fl).pre l0:=by
 unfold zB5
 have e:(⟨[],0,0,l0++fl⟩:Nf)=Nf.pre l0 ⟨[],0,0,fl⟩:=rfl
 rw[e,zG0];simp only;rw[zGe l0 p l h];simp only;rw[zGd]
theorem zOn(pos:Int):∀(l:List Ar),(∀a∈l,∀s∈a.body,StP l0 p s)->∀σ:Nf,l.foldl (fun σ a=>a.nm p pos σ) (σ.pre l0)=(l.foldl (fun σ a=>a.nm p pos σ) σ).pre l0
 | [],h,σ=>rfl
 |a::l,h,σ=>by
  simp only[List.foldl_cons]
  have e:a.nm p pos (σ.pre l0)=(a.nm p pos σ).pre l0:=by
   unfold Ar.nm;exact zD4 l0 p (h a (by simp)) pos (oneN a.name) σ
  rw[e];exact zOn pos l (fun b hb=>h b (List.mem_cons_of_mem _ hb)) _
theorem zWa:∀s:St,StP l0 p s:=by
 refine St.ind fun s i1 i2 i3 σ=>?_
 have vi:(σ.pre l0).made=σ.made:=rfl
 have dl:(σ.pre l0).opn=σ.opn:=rfl
 have gl:(σ.pre l0).count=σ.count:=rfl
 have Nc:(σ.pre l0).fl=l0++σ.fl:=rfl
 obtain⟨op,name,second,names,ty,int,pl,es,b,el,ar,pos⟩:=s
 rw[zQP p,zQP p];simp only[St.op,St.name,St.u2,St.names,St.type,St.int,St.place,St.u3,St.body,St.els,St.arms,St.pos]at*;simp only[vi,dl,gl,Nc,zTc,List.append_assoc]
 by_cases o1:op=1
 .simp only[zCv o1,zG0]
 simp only[zCw o1]
 by_cases o2:op=2
 .simp only[zCv o2,zG0]
 simp only[zCw o2]
 by_cases o3:op=3
 .simp only[zCv o3]
 simp only[zCw o3]
 by_cases o5:op=5
 .simp only[zCv o5]
 simp only[zCw o5]
 by_cases Uf:op=12
 .simp only[zCv Uf,zG0]
 simp only[zCw Uf]
 by_cases o8:op=8
 .simp only[zCv o8,zOn l0 p pos ar i3]
 simp only[zCw o8]
 by_cases Vf:op=10
 .simp only[zCv Vf,zQX l0 p i1]
  simp only[Nf.pre,List.append_assoc];rfl
 simp only[zCw Vf]
 by_cases o9:op=9
 .have e:(⟨σ.made,σ.count,σ.opn+1,l0++(σ.fl++es.flatMap (Ex.nm p σ.made))⟩:Nf)=Nf.pre l0 ⟨σ.made,σ.count,σ.opn+1,σ.fl++es.flatMap (Ex.nm p σ.made)⟩:=rfl
  simp only[zCv o9,e,zD4 l0 p i1];rfl
 simp only[zCw o9]
 by_cases Xf:op=11
 .simp only[zCv Xf,zD4 l0 p i1]
 simp only[zCw Xf,zD4 l0 p i1,zD4 l0 p i2]
theorem zTd(x:It)(fl:List Flt):zFW p x (l0++fl)=(zFW p x fl).pre l0:=by
 unfold zFW
 have e:(⟨(x.fields.map Fi.name).foldl (fun m s=>mPut m s true) [],x.fields.length,0,l0++fl⟩:Nf)=Nf.pre l0 ⟨(x.fields.map Fi.name).foldl (fun m s=>mPut m s true) [],x.fields.length,0,fl⟩:=rfl
 rw[e];simp only;rw[zGe l0 p x.body (fun s _=>zWa l0 p s)]
 simp only;rw[<-zGd,<-zTc];rfl
theorem zTe(q:Nat)(x:It)(fl:List Flt):zCa p q x (l0++fl)=l0++zCa p q x fl:=by
 unfold zCa;simp only[List.append_assoc]
 by_cases h3:x.kind=3
 .rw[if_pos h3,if_pos h3,zTd]
  simp only[Nf.pre,List.append_assoc];rfl
 rw[if_neg h3,if_neg h3]
end
end Go.Proofs.YtdflkegnmmkkoaaGreatDoor
namespace Go.Proofs.YtdflkegnmmkkoaaGreatDoor
open Go.RowKit
def keyF(x:It):Nat × Int:=(x.fields.length,x.result.kind)
structure SameL (p p':List It):Prop where
 fn:∀s,(fnIt p s).map keyF=(fnIt p' s).map keyF
 it:∀s,zK p s=zK p' s
section
variable{p p':List It}(h:SameL p p')
include h
end
section
variable(p p':List It)
end
end Go.Proofs.YtdflkegnmmkkoaaGreatDoor
namespace Go.Proofs.YtdflkegnmmkkoaaGreatDoor
open Go.RowKit
theorem zCG{b:Bool}{e a:Int}(h:zH b e a=[]):b=true:=by
 cases b with
 |true=>rfl
 |false=>cases h
theorem zDU(e a:Int):zH true e a=[]:=rfl
structure MonoL (p p':List It):Prop where
 fn:∀s x,fnIt p s=some x->fnIt p' s=some x
 it:∀s x,zK p s=some x->zK p' s=some x
structure NfR (σ τ:Nf):Prop where
 made:σ.made=τ.made
 count:σ.count=τ.count
 opn:σ.opn=τ.opn
 fl:σ.fl=[]->τ.fl=[]
theorem NfR.add{σ τ:Nf}(h:NfR σ τ){l l':List Flt}(hl:l=[]->l'=[]):NfR (σ.add l) (τ.add l'):=
 ⟨h.made,h.count,h.opn,fun e=>by
  obtain⟨e1,e2⟩:=List.append_eq_nil_iff.1 (show σ.fl++l=[]from e)
  show τ.fl++l'=[]
  rw[h.fl e1,hl e2];rfl⟩
theorem zEU{b b':Bool}{e a:Int}(h:b=true->b'=true)(h0:zH b e a=[]):zH b' e a=[]:=by rw[h (zCG h0)];rfl
theorem NfR.mk1{σ τ:Nf}(h:NfR σ τ)(s:BA)(pos:Int):NfR (σ.mk1 s pos) (τ.mk1 s pos):=by
 unfold Nf.mk1;refine⟨by simp only[h.made],by simp only[h.count],h.opn,fun e=>?_⟩
 simp only at e ⊢
 obtain⟨e1,e2⟩:=List.append_eq_nil_iff.1 e
 rw[h.fl e1,<-h.made,e2];rfl
theorem NfR.mkS(pos:Int):∀(l:List BA) {σ τ:Nf},NfR σ τ->NfR (Nf.mkS l pos σ).1 (Nf.mkS l pos τ).1/\(Nf.mkS l pos σ).2=(Nf.mkS l pos τ).2
 | [],σ,τ,h=>⟨h,rfl⟩
 |s::l,σ,τ,h=>by
  obtain⟨h1,h2⟩:=NfR.mkS pos l (h.mk1 s pos)
  exact⟨h1,by simp only[Nf.mkS,h2,h.made]⟩
theorem NfR.undo:∀(l:List Fg) {σ τ:Nf},NfR σ τ->NfR (Nf.undo l σ) (Nf.undo l τ)
 | [],σ,τ,h=>h
 |g::l,σ,τ,h=>by
  have h1:=NfR.undo l h
  exact⟨by simp only[Nf.undo,Nf.put,h1.made],h1.count,h1.opn,h1.fl⟩
section
variable{p p':List It}(h:MonoL p p')
include h
theorem MonoL.itK(k:Int)(s:BA)(x:It)(e:zDv p k s=some x):zDv p' k s=some x:=by
 unfold zDv at e ⊢
 obtain⟨y,h1,h2⟩:=Option.bind_eq_some_iff.1 e
 rw[h.it s y h1];exact h2
theorem zTf(m:List Fg)(op:Int)(nm sc:BA)(pl:Pl)(n:Nat)(e:zCX p m op nm sc pl n=true):zCX p' m op nm sc pl n=true:=by
 unfold zCX at e ⊢;split
 .rename_i h1
  rw[if_pos h1]at e
  cases hx:fnIt p nm with
  |none=>rw[hx]at e;cases e
  |some x=>rw[hx]at e;rw[h.fn nm x hx];exact e
 rename_i h1
 rw[if_neg h1]at e;split
 .rename_i h2
  rw[if_pos h2]at e
  cases hx:zK p nm with
  |none=>rw[hx]at e;cases e
  |some x=>rw[hx]at e;rw[h.it nm x hx];exact e
 rename_i h2
 rw[if_neg h2]at e;split
 .rename_i h3
  rw[if_pos h3]at e
  cases hx:zK p nm with
  |none=>rw[hx]at e;cases e
  |some x=>rw[hx]at e;rw[h.it nm x hx];exact e
 rename_i h3
 rw[if_neg h3]at e;exact e
theorem zWb(s:BA)(n:Nat)(e:zFk p s n=true):zFk p' s n=true:=by
 unfold zFk at e ⊢
 cases hx:zDv p 1 s with
 |none=>rw[hx]at e;cases e
 |some x=>rw[hx]at e;rw[h.itK 1 s x hx];exact e
theorem zTg(s:BA)(l:List Fg)(e:zDP p s l=true):zDP p' s l=true:=by
 unfold zDP at e ⊢
 cases hx:zDv p 2 s with
 |none=>rw[hx]at e;cases e
 |some x=>rw[hx]at e;rw[h.itK 2 s x hx];exact e
omit h in
theorem zMI(m:List Fg)(l:List Ex)(hl:∀x∈l,x.nm p m=[]->x.nm p' m=[])(e:l.flatMap (Ex.nm p m)=[]):l.flatMap (Ex.nm p' m)=[]:=by
 rw[List.flatMap_eq_nil_iff]at e ⊢;exact fun x hx=>hl x hx (e x hx)
theorem zTh(m:List Fg):∀e:Ex,e.nm p m=[]->e.nm p' m=[]:=by
 refine Ex.ind fun e ih he=>?_
 rw[exNm]at he ⊢
 obtain⟨e1,e2⟩:=List.append_eq_nil_iff.1 he
 rw[zEU (zTf h m e.op e.name e.u2 e.place e.args.length) e1,zMI m e.args ih e2];rfl
theorem zWc(m:List Fg)(l:List Ex)(e:l.flatMap (Ex.nm p m)=[]):l.flatMap (Ex.nm p' m)=[]:=zMI m l (fun x _=>zTh h m x) e
theorem zNV(pos:Int):∀t:Ty,t.nm p pos=[]->t.nm p' pos=[]:=by
 refine Ty.ind fun t ih he=>?_
 rw[tyNm]at he ⊢
 obtain⟨e1,e2⟩:=List.append_eq_nil_iff.1 he
 have a2:t.args.flatMap (Ty.nm p' pos)=[]:=by
  rw[List.flatMap_eq_nil_iff]at e2 ⊢;exact fun x hx=>ih x hx (e2 x hx)
 rw[a2,List.append_nil];split
 .rename_i h4
  rw[if_pos h4]at e1;refine zEU (fun hs=>?_) e1
  obtain⟨x,hx⟩:=Option.isSome_iff_exists.1 hs
  rw[h.it _ x hx];rfl
 rfl
end
section
variable(p p':List It)
def StMo(s:St):Prop:=∀σ τ:Nf,NfR σ τ->NfR (s.nm p σ).1 (s.nm p' τ).1/\(s.nm p σ).2=(s.nm p' τ).2
theorem zHp:∀(l:List St),(∀s∈l,StMo p p' s)->∀σ τ:Nf,NfR σ τ->NfR (St.nms p l σ).1 (St.nms p' l τ).1/\(St.nms p l σ).2=(St.nms p' l τ).2
 | [],h,σ,τ,k=>by simp only[St.nms];exact⟨k,trivial⟩
 |s::l,h,σ,τ,k=>by
  simp only[St.nms]
  obtain⟨a1,a2⟩:=h s (by simp) σ τ k
  obtain⟨b1,b2⟩:=zHp l (fun y hy=>h y (List.mem_cons_of_mem _ hy)) _ _ a1
  exact⟨b1,by rw[a2,b2]⟩
theorem zE5{l:List St}(h:∀s∈l,StMo p p' s)(pos:Int)(names:List BA){σ τ:Nf}(k:NfR σ τ):NfR (z8 p l pos names σ) (z8 p' l pos names τ):=by
 unfold z8
 obtain⟨a1,a2⟩:=NfR.mkS pos names k
 obtain⟨b1,b2⟩:=zHp p p' l h _ _ a1
 rw[a2,b2];exact NfR.undo _ (NfR.undo _ b1)
theorem zTi{l:List St}(h:∀s∈l,StMo p p' s)(pos:Int)(names:List BA){fl fl':List Flt}(k:fl=[]->fl'=[]):NfR (zB5 p l pos names fl) (zB5 p' l pos names fl'):=by
 unfold zB5
 obtain⟨a1,a2⟩:=NfR.mkS pos names (σ:=⟨[],0,0,fl⟩) (τ:=⟨[],0,0,fl'⟩) ⟨rfl,rfl,rfl,k⟩
 obtain⟨b1,b2⟩:=zHp p p' l h _ _ a1
 rw[b2];exact NfR.undo _ b1
theorem zTj(pos:Int):∀(l:List Ar),(∀a∈l,∀s∈a.body,StMo p p' s)->∀σ τ:Nf,NfR σ τ->NfR (l.foldl (fun σ a=>a.nm p pos σ) σ) (l.foldl (fun σ a=>a.nm p' pos σ) τ)
 | [],h,σ,τ,k=>k
 |a::l,h,σ,τ,k=>by
  simp only[List.foldl_cons];exact zTj pos l (fun b hb=>h b (List.mem_cons_of_mem _ hb)) _ _ (zE5 p p' (h a (by simp)) pos (oneN a.name) k)
end
theorem zZj{p p':List It}(h:MonoL p p'):∀s:St,StMo p p' s:=by
 refine St.ind fun s i1 i2 i3 σ τ k=>?_
 obtain⟨op,name,second,names,ty,int,pl,es,b,el,ar,pos⟩:=s
 simp only[St.op,St.name,St.u2,St.names,St.type,St.int,St.place,St.u3,St.body,St.els,St.arms,St.pos]at*;rw[zQP p,zQP p']
 have kE:NfR (σ.add (es.flatMap (Ex.nm p σ.made))) (τ.add (es.flatMap (Ex.nm p' τ.made))):=k.add (by rw[<-k.made];exact zWc h σ.made es)
 have hm:=k.made
 by_cases o1:op=1
 .simp only[zCv o1];exact NfR.mkS pos _ kE
 simp only[zCw o1]
 by_cases o2:op=2
 .simp only[zCv o2];exact NfR.mkS pos _ (kE.add (zEU (zWb h _ _)))
 simp only[zCw o2]
 by_cases o3:op=3
 .simp only[zCv o3];exact⟨kE.add (by rw[hm];exact fun e=>e),trivial⟩
 simp only[zCw o3]
 by_cases o5:op=5
 .simp only[zCv o5];exact⟨kE.add (by rw[hm];exact fun e=>e),trivial⟩
 simp only[zCw o5]
 by_cases Uf:op=12
 .simp only[zCv Uf];exact NfR.mkS pos _ (kE.add (zNV h pos ty))
 simp only[zCw Uf]
 by_cases o8:op=8
 .simp only[zCv o8]
  refine⟨zTj p p' pos ar i3 _ _ (kE.add (zEU fun e=>?_)),trivial⟩
  rw[Bool.and_eq_true]at e ⊢;exact⟨by rw[<-hm];exact e.1,zTg h _ _ e.2⟩
 simp only[zCw o8]
 by_cases Vf:op=10
 .simp only[zCv Vf]
  have hs:=zTi p p' i1 pos names (fl:=(σ.fl++es.flatMap (Ex.nm p σ.made))++zH (decide (0<σ.opn)) 61 pos) (fl':=(τ.fl++es.flatMap (Ex.nm p' τ.made))++zH (decide (0<τ.opn)) 61 pos) (by
   rw[<-k.opn];exact(kE.add (fun e=>e)).fl)
  refine⟨⟨hm,k.count,k.opn,fun e=>?_⟩,trivial⟩
  simp only at e ⊢
  obtain⟨e1,e2⟩:=List.append_eq_nil_iff.1 e
  rw[hs.fl e1,<-hs.count,e2];rfl
 simp only[zCw Vf]
 by_cases o9:op=9
 .simp only[zCv o9]
  have hs:=zE5 p p' i1 pos [] (σ:=⟨σ.made,σ.count,σ.opn+1,σ.fl++es.flatMap (Ex.nm p σ.made)⟩) (τ:=⟨τ.made,τ.count,τ.opn+1,τ.fl++es.flatMap (Ex.nm p' τ.made)⟩) ⟨hm,k.count,by simp only[k.opn],kE.fl⟩
  exact⟨⟨hs.made,hs.count,by simp only[hs.opn],hs.fl⟩,trivial⟩
 simp only[zCw o9]
 by_cases Xf:op=11
 .simp only[zCv Xf]
  exact⟨zE5 p p' i1 pos _ (kE.add (by rw[hm];exact fun e=>e)),trivial⟩
 simp only[zCw Xf];exact⟨zE5 p p' i2 pos _ (zE5 p p' i1 pos _ kE),trivial⟩
theorem zG1{p p':List It}(h:MonoL p p')(pos:Int):∀(l:List Fi) (met:List BA),zAK p pos met l=[]->zAK p' pos met l=[]
 | [],_,_=>rfl
 |f::l,met,e=>by
  unfold zAK at e ⊢
  obtain⟨e1,e2⟩:=List.append_eq_nil_iff.1 e
  obtain⟨e3,e4⟩:=List.append_eq_nil_iff.1 e2
  rw[e1,zNV h pos _ e3,zG1 h pos l _ e4];rfl
theorem zFT(p:List It)(x:It):zA5 p 0 x=false:=by unfold zA5;simp
theorem zWd{p p':List It}(h:MonoL p p')(x:It){fl fl':List Flt}(k:fl=[]->fl'=[]):NfR (zFW p x fl) (zFW p' x fl'):=by
 unfold zFW
 obtain⟨b1,b2⟩:=zHp p p' x.body (fun s _=>zZj h s) ⟨(x.fields.map Fi.name).foldl (fun m s=>mPut m s true) [],x.fields.length,0,fl⟩ ⟨(x.fields.map Fi.name).foldl (fun m s=>mPut m s true) [],x.fields.length,0,fl'⟩ ⟨rfl,rfl,rfl,k⟩
 simp only;rw[b2];refine NfR.undo _ (b1.add ?_)
 rw[<-b1.made];exact zTh h _ x.ret
theorem zWe{p p':List It}(h:MonoL p p')(x:It)(e:zCa p 0 x []=[]):zCa p' 0 x []=[]:=by
 unfold zCa at e ⊢;simp only[zFT,Bool.not_false,zDU,List.append_nil,List.nil_append]at e ⊢
 by_cases h3:x.kind=3
 .rw[if_pos h3]at e ⊢
  obtain⟨e1,e2⟩:=List.append_eq_nil_iff.1 e
  have hb:=zWd h x (fl:=zAK p x.pos [] x.fields++x.result.nm p x.pos) (fl':=zAK p' x.pos [] x.fields++x.result.nm p' x.pos) (fun e=>by
   obtain⟨e3,e4⟩:=List.append_eq_nil_iff.1 e
   rw[zG1 h _ _ _ e3,zNV h _ _ e4];rfl)
  rw[hb.fl e1,<-hb.count,e2];rfl
 rw[if_neg h3]at e ⊢
 exact zG1 h _ _ _ e
theorem zQY(p:List It)(q:Nat)(x:It)(fl:List Flt):zCa p q x fl=fl++(zH (!zA5 p q x) 60 x.pos++zCa p 0 x []):=by
 have e:zCa p q x fl=zCa p 0 x ((fl++zH (!zA5 p q x) 60 x.pos)++[]):=by
  unfold zCa;simp only[zFT,Bool.not_false,zDU,List.append_nil]
 rw[e,zTe,List.append_assoc]
theorem zI8(p:List It):∀(l:List It) (q:Nat) (fl:List Flt),zCn p q l fl=[] ↔ fl=[]/\(∀i (h:i<l.length),zA5 p (q+i) l[i]=false)/\∀x∈l,zCa p 0 x []=[]
 | [],q,fl=>by
  unfold zCn
  exact⟨fun e=>⟨e,fun i h=>absurd h (by simp),fun x hx=>by cases hx⟩,fun e=>e.1⟩
 |x::l,q,fl=>by
  unfold zCn;rw[zI8 p l,zQY];constructor
  .rintro⟨e,h1,h2⟩
   obtain⟨e1,e2⟩:=List.append_eq_nil_iff.1 e
   obtain⟨e3,e4⟩:=List.append_eq_nil_iff.1 e2
   have e5:=zCG e3
   refine⟨e1,fun i hi=>?_,fun y hy=>?_⟩
   .cases i with
    |zero=>simpa using e5
    |succ i=>
     have:=h1 i (by simpa using hi)
     rw[show q+1+i=q+(i+1) by omega]at this
     exact this
   rcases List.mem_cons.1 hy with rfl|hy
   .exact e4
   exact h2 y hy
  rintro⟨e,h1,h2⟩
  have e0:=h1 0 (by simp)
  simp only[Nat.add_zero,List.getElem_cons_zero]at e0;refine⟨by rw[e,e0,h2 x (by simp)];rfl,fun i hi=>?_,fun y hy=>h2 y (List.mem_cons_of_mem _ hy)⟩
  have:=h1 (i+1) (by simpa using hi)
  rw[show q+(i+1)=q+1+i by omega]at this
  exact this
def zQZ(y x:It):Bool:=(decide (y.kind=3)==decide (x.kind=3))&&sEq y.name x.name
theorem zOo(p:List It):(∀i (h:i<p.length),zA5 p (0+i) p[i]=false) ↔ p.Pairwise fun y x=>zQZ y x=false:=by
 rw[List.pairwise_iff_getElem];constructor
 .intro h i j hi hj jv
  have:=h j hj
  unfold zA5 at this;rw[Nat.zero_add,List.any_eq_false]at this
  have k:=this p[i] (List.mem_take_iff_getElem.2 ⟨i,by omega,rfl⟩)
  simpa [zQZ]using k
 intro h j hj
 unfold zA5;rw[Nat.zero_add,List.any_eq_false];intro y hy
 obtain⟨i,hi,rfl⟩:=List.mem_take_iff_getElem.1 hy
 have:=h i j (by omega) hj (by omega)
 simpa [zQZ]using this
theorem zD5(p:List It):zAt p=[] ↔ zAC p=true/\(p.Pairwise fun y x=>zQZ y x=false)/\(∀x∈p,zCa p 0 x []=[])/\zIR p zIS=true:=by
 unfold zAt
 by_cases hw:zAC p=true
 .rw[if_pos hw]
  constructor
  .intro e
   obtain⟨e1,e2⟩:=List.append_eq_nil_iff.1 e
   obtain⟨_,h1,h2⟩:=(zI8 p p 0 []).1 e1
   exact⟨hw,(zOo p).1 h1,h2,zCG e2⟩
  rintro⟨_,h1,h2,h3⟩
  rw[(zI8 p p 0 []).2 ⟨rfl,(zOo p).2 h1,h2⟩,h3];rfl
 rw[if_neg hw]
 exact⟨(fun e=>by cases e),fun e=>absurd e.1 hw⟩
theorem zZk{p p':List It}(h:MonoL p p')(e:zIR p zIS=true):zIR p' zIS=true:=by
 unfold zIR at e ⊢
 cases hx:fnIt p zIS with
 |none=>rw[hx]at e;cases e
 |some x=>rw[hx]at e;rw[h.fn _ x hx];exact e
def zDV:BA:=(⟨#[113,117,105,116,101,95,111,116,104,101,114]⟩:BA)
end Go.Proofs.YtdflkegnmmkkoaaGreatDoor
