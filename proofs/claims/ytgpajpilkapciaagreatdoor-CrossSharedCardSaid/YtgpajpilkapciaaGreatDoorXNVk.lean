/- A part of the proof. -/
import Derived.Test.YtgpajpilkapciaaGreatDoorXMNp
import Derived.Test.YtgpajpilkapciaaGreatDoorXNQk
set_option linter.unusedVariables false
set_option linter.unusedSimpArgs false
set_option maxRecDepth 100000
set_option maxHeartbeats 32000000
namespace Go.Proofs.YtgpajpilkapciaaGreatDoor
open Go.RowKit
theorem zJ6{c:Prop}(h:c){α:Type}{d:Decidable c}(a b:α): @ite α c d a b=a:=if_pos h
theorem zJ7{c:Prop}(h:¬c){α:Type}{d:Decidable c}(a b:α): @ite α c d a b=b:=if_neg h
theorem zZb(p:List It)(op:Int)(name second:BA)(names:List BA)(ty:Ty)(int:Int)(pl:Pl)(es:List Ex)(b el:List St)(ar:List Ar)(pos:Int)(σ:Nf):(St.mk op name second names ty int pl es b el ar pos).nm p σ=
  if op=1 then Nf.mkS [name] pos (σ.add (es.flatMap (Ex.nm p σ.made)))
  else if op=2 then Nf.mkS names pos ((σ.add (es.flatMap (Ex.nm p σ.made))).add (zI (zKy p name names.length) 60 pos))
  else if op=3 then((σ.add (es.flatMap (Ex.nm p σ.made))).add (zI (mIs σ.made pl.name) 60 pos),[])
  else if op=5 then((σ.add (es.flatMap (Ex.nm p σ.made))).add (zI (mIs σ.made name) 60 pos),[])
  else if op=12 then Nf.mkS [name,second] pos ((σ.add (es.flatMap (Ex.nm p σ.made))).add (ty.nm p pos))
  else if op=8 then(ar.foldl (fun σ a=>a.nm p pos σ) ((σ.add (es.flatMap (Ex.nm p σ.made))).add (zI (mIs σ.made name&&zGk p second (ar.map armF)) 60 pos)),[])
  else if op=10 then
   (⟨σ.made,σ.count,σ.opn,(zCp p b pos names ((σ.fl++es.flatMap (Ex.nm p σ.made))++zI (decide (0<σ.opn)) 61 pos)).fl++zI (decide ((zCp p b pos names ((σ.fl++es.flatMap (Ex.nm p σ.made))++zI (decide (0<σ.opn)) 61 pos)).count<=60)) 4 pos⟩,[])
  else if op=9 then
   ((fun(g:Nf)=>(⟨g.made,g.count,g.opn-1,g.fl⟩:Nf)) (zAT p b pos [] ⟨σ.made,σ.count,σ.opn+1,σ.fl++es.flatMap (Ex.nm p σ.made)⟩),[])
  else if op=11 then(zAT p b pos [name] ((σ.add (es.flatMap (Ex.nm p σ.made))).add (zI (mIs σ.made pl.name) 60 pos)),[])
  else(zAT p el pos [] (zAT p b pos [] (σ.add (es.flatMap (Ex.nm p σ.made)))),[]):=stNm p (St.mk op name second names ty int pl es b el ar pos) σ
def zG(g:Int->Int)(f:Flt):Flt:=(f.1,g f.2)
def Nf.atm(g:Int->Int)(σ:Nf):Nf:=⟨σ.made,σ.count,σ.opn,σ.fl.map (zG g)⟩
section
variable(g:Int->Int)(p:List It)
end
end Go.Proofs.YtgpajpilkapciaaGreatDoor
namespace Go.Proofs.YtgpajpilkapciaaGreatDoor
open Go.RowKit
section
variable(g:Int->Int)
end
section
variable{g:Int->Int}
end
end Go.Proofs.YtgpajpilkapciaaGreatDoor
namespace Go.Proofs.YtgpajpilkapciaaGreatDoor
open Go.RowKit
def Nf.pre(l:List Flt)(σ:Nf):Nf:=⟨σ.made,σ.count,σ.opn,l++σ.fl⟩
section
variable(l0:List Flt)(p:List It)
theorem zXa(s:BA)(pos:Int)(σ:Nf):(σ.pre l0).mk1 s pos=(σ.mk1 s pos).pre l0:=by
 unfold Nf.mk1 Nf.pre;simp only[List.append_assoc]
theorem zGU(pos:Int):∀(l:List BA) (σ:Nf),Nf.mkS l pos (σ.pre l0)=((Nf.mkS l pos σ).1.pre l0,(Nf.mkS l pos σ).2)
 | [],σ=>rfl
 |s::l,σ=>by
  rw[Nf.mkS,zXa,zGU pos l,Nf.mkS];rfl
theorem zF1:∀(l:List Fg) (σ:Nf),Nf.undo l (σ.pre l0)=(Nf.undo l σ).pre l0
 | [],σ=>rfl
 |h::l,σ=>by rw[Nf.undo,zF1 l,Nf.undo];rfl
theorem zRY(σ:Nf)(l:List Flt):(σ.pre l0).add l=(σ.add l).pre l0:=by
 unfold Nf.add Nf.pre;simp only[List.append_assoc]
def StP(s:St):Prop:=∀σ:Nf,s.nm p (σ.pre l0)=((s.nm p σ).1.pre l0,(s.nm p σ).2)
theorem zF2:∀(l:List St),(∀s∈l,StP l0 p s)->∀σ:Nf,St.nms p l (σ.pre l0)=((St.nms p l σ).1.pre l0,(St.nms p l σ).2)
 | [],h,σ=>by simp only[St.nms]
 |s::l,h,σ=>by
  simp only[St.nms];rw[h s (by simp) σ,zF2 l (fun y hy=>h y (List.mem_cons_of_mem _ hy))]
theorem zDc{l:List St}(h:∀s∈l,StP l0 p s)(pos:Int)(names:List BA)(σ:Nf):zAT p l pos names (σ.pre l0)=(zAT p l pos names σ).pre l0:=by
 unfold zAT;rw[zGU];simp only;rw[zF2 l0 p l h];simp only;rw[zF1,zF1]
theorem zO4{l:List St}(h:∀s∈l,StP l0 p s)(pos:Int)(names:List BA)(fl:List Flt):zCp p l pos names (l0++fl)=(zCp p l pos names fl).pre l0:=by
 unfold zCp
 have e:(⟨[],0,0,l0++fl⟩:Nf)=Nf.pre l0 ⟨[],0,0,fl⟩:=rfl
 rw[e,zGU];simp only;rw[zF2 l0 p l h];simp only;rw[zF1]
theorem zNm(pos:Int):∀(l:List Ar),(∀a∈l,∀s∈a.body,StP l0 p s)->∀σ:Nf,l.foldl (fun σ a=>a.nm p pos σ) (σ.pre l0)=(l.foldl (fun σ a=>a.nm p pos σ) σ).pre l0
 | [],h,σ=>rfl
 |a::l,h,σ=>by
  simp only[List.foldl_cons]
  have e:a.nm p pos (σ.pre l0)=(a.nm p pos σ).pre l0:=by
   unfold Ar.nm;exact zDc l0 p (h a (by simp)) pos (oneN a.name) σ
  rw[e];exact zNm pos l (fun b hb=>h b (List.mem_cons_of_mem _ hb)) _
theorem zUb:∀s:St,StP l0 p s:=by
 refine St.ind fun s i1 i2 i3 σ=>?_
 have Mm:(σ.pre l0).made=σ.made:=rfl
 have Wp:(σ.pre l0).opn=σ.opn:=rfl
 have Xp:(σ.pre l0).count=σ.count:=rfl
 have ic:(σ.pre l0).fl=l0++σ.fl:=rfl
 obtain⟨op,name,second,names,ty,int,pl,es,b,el,ar,pos⟩:=s
 rw[zZb p,zZb p];simp only[St.op,St.name,St.u4,St.names,St.type,St.int,St.place,St.u5,St.body,St.els,St.arms,St.pos]at*;simp only[Mm,Wp,Xp,ic,zRY,List.append_assoc]
 by_cases o1:op=1
 .simp only[zJ6 o1,zGU]
 simp only[zJ7 o1]
 by_cases o2:op=2
 .simp only[zJ6 o2,zGU]
 simp only[zJ7 o2]
 by_cases o3:op=3
 .simp only[zJ6 o3]
 simp only[zJ7 o3]
 by_cases o5:op=5
 .simp only[zJ6 o5]
 simp only[zJ7 o5]
 by_cases ui:op=12
 .simp only[zJ6 ui,zGU]
 simp only[zJ7 ui]
 by_cases o8:op=8
 .simp only[zJ6 o8,zNm l0 p pos ar i3]
 simp only[zJ7 o8]
 by_cases vi:op=10
 .simp only[zJ6 vi,zO4 l0 p i1]
  simp only[Nf.pre,List.append_assoc];rfl
 simp only[zJ7 vi]
 by_cases o9:op=9
 .have e:(⟨σ.made,σ.count,σ.opn+1,l0++(σ.fl++es.flatMap (Ex.nm p σ.made))⟩:Nf)=Nf.pre l0 ⟨σ.made,σ.count,σ.opn+1,σ.fl++es.flatMap (Ex.nm p σ.made)⟩:=rfl
  simp only[zJ6 o9,e,zDc l0 p i1];rfl
 simp only[zJ7 o9]
 by_cases wi:op=11
 .simp only[zJ6 wi,zDc l0 p i1]
 simp only[zJ7 wi,zDc l0 p i1,zDc l0 p i2]
theorem zRZ(x:It)(fl:List Flt):zJe p x (l0++fl)=(zJe p x fl).pre l0:=by
 unfold zJe
 have e:(⟨(x.fields.map Fi.name).foldl (fun m s=>mPut m s true) [],x.fields.length,0,l0++fl⟩:Nf)=Nf.pre l0 ⟨(x.fields.map Fi.name).foldl (fun m s=>mPut m s true) [],x.fields.length,0,fl⟩:=rfl
 rw[e];simp only;rw[zF2 l0 p x.body (fun s _=>zUb l0 p s)]
 simp only;rw[<-zF1,<-zRY];rfl
theorem zRa(q:Nat)(x:It)(fl:List Flt):zDu p q x (l0++fl)=l0++zDu p q x fl:=by
 unfold zDu;simp only[List.append_assoc]
 by_cases h3:x.kind=3
 .rw[if_pos h3,if_pos h3,zRZ]
  simp only[Nf.pre,List.append_assoc];rfl
 rw[if_neg h3,if_neg h3]
end
end Go.Proofs.YtgpajpilkapciaaGreatDoor
namespace Go.Proofs.YtgpajpilkapciaaGreatDoor
open Go.RowKit
def keyF(x:It):Nat × Int:=(x.fields.length,x.result.kind)
structure SameL (p p':List It):Prop where
 fn:∀s,(fnIt p s).map keyF=(fnIt p' s).map keyF
 it:∀s,zU p s=zU p' s
section
variable{p p':List It}(h:SameL p p')
include h
end
section
variable(p p':List It)
end
end Go.Proofs.YtgpajpilkapciaaGreatDoor
namespace Go.Proofs.YtgpajpilkapciaaGreatDoor
open Go.RowKit
theorem zDd{b:Bool}{e a:Int}(h:zI b e a=[]):b=true:=by
 cases b with
 |true=>rfl
 |false=>cases h
theorem zMY(e a:Int):zI true e a=[]:=rfl
structure MonoL (p p':List It):Prop where
 fn:∀s x,fnIt p s=some x->fnIt p' s=some x
 it:∀s x,zU p s=some x->zU p' s=some x
structure NfR (σ τ:Nf):Prop where
 made:σ.made=τ.made
 count:σ.count=τ.count
 opn:σ.opn=τ.opn
 fl:σ.fl=[]->τ.fl=[]
theorem NfR.add{σ τ:Nf}(h:NfR σ τ){l l':List Flt}(hl:l=[]->l'=[]):NfR (σ.add l) (τ.add l'):=
 ⟨h.made,h.count,h.opn,fun e=>by
  obtain⟨e1,e2⟩:=List.append_eq_nil_iff.1 (show σ.fl++l=[]from e)
  show τ.fl++l'=[]
  rw[h.fl e1,hl e2];rfl⟩
theorem NfR.mk1{σ τ:Nf}(h:NfR σ τ)(s:BA)(pos:Int):NfR (σ.mk1 s pos) (τ.mk1 s pos):=by
 unfold Nf.mk1;refine⟨by simp only[h.made],by simp only[h.count],h.opn,fun e=>?_⟩
 simp only at e ⊢
 obtain⟨e1,e2⟩:=List.append_eq_nil_iff.1 e
 rw[h.fl e1,<-h.made,e2];rfl
theorem NfR.mkS(pos:Int):∀(l:List BA) {σ τ:Nf},NfR σ τ->NfR (Nf.mkS l pos σ).1 (Nf.mkS l pos τ).1/\(Nf.mkS l pos σ).2=(Nf.mkS l pos τ).2
 | [],σ,τ,h=>⟨h,rfl⟩
 |s::l,σ,τ,h=>by
  obtain⟨h1,h2⟩:=NfR.mkS pos l (h.mk1 s pos)
  exact⟨h1,by simp only[Nf.mkS,h2,h.made]⟩
theorem NfR.undo:∀(l:List Fg) {σ τ:Nf},NfR σ τ->NfR (Nf.undo l σ) (Nf.undo l τ)
 | [],σ,τ,h=>h
 |g::l,σ,τ,h=>by
  have h1:=NfR.undo l h
  exact⟨by simp only[Nf.undo,Nf.put,h1.made],h1.count,h1.opn,h1.fl⟩
section
variable{p p':List It}(h:MonoL p p')
include h
omit h in
end
section
variable(p p':List It)
end
theorem zO5(p:List It)(x:It):zBI p 0 x=false:=by unfold zBI;simp
theorem zO6(p:List It)(q:Nat)(x:It)(fl:List Flt):zDu p q x fl=fl++(zI (!zBI p q x) 60 x.pos++zDu p 0 x []):=by
 have e:zDu p q x fl=zDu p 0 x ((fl++zI (!zBI p q x) 60 x.pos)++[]):=by
  unfold zDu;simp only[zO5,Bool.not_false,zMY,List.append_nil]
 rw[e,zRa,List.append_assoc]
theorem zIB(p:List It):∀(l:List It) (q:Nat) (fl:List Flt),zDH p q l fl=[] ↔ fl=[]/\(∀i (h:i<l.length),zBI p (q+i) l[i]=false)/\∀x∈l,zDu p 0 x []=[]
 | [],q,fl=>by
  unfold zDH
  exact⟨fun e=>⟨e,fun i h=>absurd h (by simp),fun x hx=>by cases hx⟩,fun e=>e.1⟩
 |x::l,q,fl=>by
  unfold zDH;rw[zIB p l,zO6];constructor
  .rintro⟨e,h1,h2⟩
   obtain⟨e1,e2⟩:=List.append_eq_nil_iff.1 e
   obtain⟨e3,e4⟩:=List.append_eq_nil_iff.1 e2
   have e5:=zDd e3
   refine⟨e1,fun i hi=>?_,fun y hy=>?_⟩
   .cases i with
    |zero=>simpa using e5
    |succ i=>
     have:=h1 i (by simpa using hi)
     rw[show q+1+i=q+(i+1) by omega]at this
     exact this
   rcases List.mem_cons.1 hy with rfl|hy
   .exact e4
   exact h2 y hy
  rintro⟨e,h1,h2⟩
  have e0:=h1 0 (by simp)
  simp only[Nat.add_zero,List.getElem_cons_zero]at e0;refine⟨by rw[e,e0,h2 x (by simp)];rfl,fun i hi=>?_,fun y hy=>h2 y (List.mem_cons_of_mem _ hy)⟩
  have:=h1 (i+1) (by simpa using hi)
  rw[show q+(i+1)=q+1+i by omega]at this
  exact this
def zUc(y x:It):Bool:=(decide (y.kind=3)==decide (x.kind=3))&&sEq y.name x.name
theorem zNn(p:List It):(∀i (h:i<p.length),zBI p (0+i) p[i]=false) ↔ p.Pairwise fun y x=>zUc y x=false:=by
 rw[List.pairwise_iff_getElem];constructor
 .intro h i j hi hj ir
  have:=h j hj
  unfold zBI at this;rw[Nat.zero_add,List.any_eq_false]at this
  have k:=this p[i] (List.mem_take_iff_getElem.2 ⟨i,by omega,rfl⟩)
  simpa [zUc]using k
 intro h j hj
 unfold zBI;rw[Nat.zero_add,List.any_eq_false];intro y hy
 obtain⟨i,hi,rfl⟩:=List.mem_take_iff_getElem.1 hy
 have:=h i j (by omega) hj (by omega)
 simpa [zUc]using this
theorem zRb(p:List It):zBa p=[] ↔ zx p=true/\(p.Pairwise fun y x=>zUc y x=false)/\(∀x∈p,zDu p 0 x []=[])/\zQi p zKz=true:=by
 unfold zBa
 by_cases hw:zx p=true
 .rw[if_pos hw]
  constructor
  .intro e
   obtain⟨e1,e2⟩:=List.append_eq_nil_iff.1 e
   obtain⟨_,h1,h2⟩:=(zIB p p 0 []).1 e1
   exact⟨hw,(zNn p).1 h1,h2,zDd e2⟩
  rintro⟨_,h1,h2,h3⟩
  rw[(zIB p p 0 []).2 ⟨rfl,(zNn p).2 h1,h2⟩,h3];rfl
 rw[if_neg hw]
 exact⟨(fun e=>by cases e),fun e=>absurd e.1 hw⟩
def zZc:BA:=(⟨#[113,117,105,116,101,95,111,116,104,101,114]⟩:BA)
end Go.Proofs.YtgpajpilkapciaaGreatDoor
