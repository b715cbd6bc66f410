/- A part of the proof. -/
import Derived.Test.YtdflkegnmmkkoaaGreatDoorWNQl
set_option linter.unusedVariables false
set_option linter.unusedSimpArgs false
set_option maxRecDepth 100000
set_option maxHeartbeats 32000000
namespace Go.Proofs.YtdflkegnmmkkoaaGreatDoor
open Go.RowKit
def Nf.pre(l:List Flt)(σ:Nf):Nf:=⟨σ.made,σ.count,σ.opn,l++σ.fl⟩
section
variable(l0:List Flt)(p:List It)
theorem zX2(s:BA)(pos:Int)(σ:Nf):(σ.pre l0).mk1 s pos=(σ.mk1 s pos).pre l0:=by
 unfold Nf.mk1 Nf.pre;simp only[List.append_assoc]
theorem zGZ(pos:Int):∀(l:List BA) (σ:Nf),Nf.mkS l pos (σ.pre l0)=((Nf.mkS l pos σ).1.pre l0,(Nf.mkS l pos σ).2)
 | [],σ=>rfl
 |s::l,σ=>by
  rw[Nf.mkS,zX2,zGZ pos l,Nf.mkS];rfl
theorem zF2:∀(l:List Fg) (σ:Nf),Nf.undo l (σ.pre l0)=(Nf.undo l σ).pre l0
 | [],σ=>rfl
 |h::l,σ=>by rw[Nf.undo,zF2 l,Nf.undo];rfl
theorem zSK(σ:Nf)(l:List Flt):(σ.pre l0).add l=(σ.add l).pre l0:=by
 unfold Nf.add Nf.pre;simp only[List.append_assoc]
def StP(s:St):Prop:=∀σ:Nf,s.nm p (σ.pre l0)=((s.nm p σ).1.pre l0,(s.nm p σ).2)
theorem zF3:∀(l:List St),(∀s∈l,StP l0 p s)->∀σ:Nf,St.nms p l (σ.pre l0)=((St.nms p l σ).1.pre l0,(St.nms p l σ).2)
 | [],h,σ=>by simp only[St.nms]
 |s::l,h,σ=>by
  simp only[St.nms];rw[h s (by simp) σ,zF3 l (fun y hy=>h y (List.mem_cons_of_mem _ hy))]
theorem zDk{l:List St}(h:∀s∈l,StP l0 p s)(pos:Int)(names:List BA)(σ:Nf):zAB p l pos names (σ.pre l0)=(zAB p l pos names σ).pre l0:=by
 unfold zAB;rw[zGZ];simp only;rw[zF3 l0 p l h];simp only;rw[zF2,zF2]
theorem zPZ{l:List St}(h:∀s∈l,StP l0 p s)(pos:Int)(names:List BA)(fl:List Flt):zCa p l pos names (l0++fl)=(zCa p l pos names fl).pre l0:=by
 unfold zCa
 have e:(⟨[],0,0,l0++fl⟩:Nf)=Nf.pre l0 ⟨[],0,0,fl⟩:=rfl
 rw[e,zGZ];simp only;rw[zF3 l0 p l h];simp only;rw[zF2]
theorem zOC(pos:Int):∀(l:List Ar),(∀a∈l,∀s∈a.body,StP l0 p s)->∀σ:Nf,l.foldl (fun σ a=>a.nm p pos σ) (σ.pre l0)=(l.foldl (fun σ a=>a.nm p pos σ) σ).pre l0
 | [],h,σ=>rfl
 |a::l,h,σ=>by
  simp only[List.foldl_cons]
  have e:a.nm p pos (σ.pre l0)=(a.nm p pos σ).pre l0:=by
   unfold Ar.nm;exact zDk l0 p (h a (by simp)) pos (oneN a.name) σ
  rw[e];exact zOC pos l (fun b hb=>h b (List.mem_cons_of_mem _ hb)) _
theorem zVH:∀s:St,StP l0 p s:=by
 refine St.ind fun s i1 i2 i3 σ=>?_
 have Dm:(σ.pre l0).made=σ.made:=rfl
 have ip:(σ.pre l0).opn=σ.opn:=rfl
 have jp:(σ.pre l0).count=σ.count:=rfl
 have Vc:(σ.pre l0).fl=l0++σ.fl:=rfl
 obtain⟨op,name,second,names,ty,int,pl,es,b,el,ar,pos⟩:=s
 rw[zVG p,zVG p];simp only[St.op,St.name,St.u2,St.names,St.type,St.int,St.place,St.u3,St.body,St.els,St.arms,St.pos]at*;simp only[Dm,ip,jp,Vc,zSK,List.append_assoc]
 by_cases o1:op=1
 .simp only[zKM o1,zGZ]
 simp only[zKN o1]
 by_cases o2:op=2
 .simp only[zKM o2,zGZ]
 simp only[zKN o2]
 by_cases o3:op=3
 .simp only[zKM o3]
 simp only[zKN o3]
 by_cases o5:op=5
 .simp only[zKM o5]
 simp only[zKN o5]
 by_cases Ai:op=12
 .simp only[zKM Ai,zGZ]
 simp only[zKN Ai]
 by_cases o8:op=8
 .simp only[zKM o8,zOC l0 p pos ar i3]
 simp only[zKN o8]
 by_cases Bi:op=10
 .simp only[zKM Bi,zPZ l0 p i1]
  simp only[Nf.pre,List.append_assoc];rfl
 simp only[zKN Bi]
 by_cases o9:op=9
 .have e:(⟨σ.made,σ.count,σ.opn+1,l0++(σ.fl++es.flatMap (Ex.nm p σ.made))⟩:Nf)=Nf.pre l0 ⟨σ.made,σ.count,σ.opn+1,σ.fl++es.flatMap (Ex.nm p σ.made)⟩:=rfl
  simp only[zKM o9,e,zDk l0 p i1];rfl
 simp only[zKN o9]
 by_cases Ci:op=11
 .simp only[zKM Ci,zDk l0 p i1]
 simp only[zKN Ci,zDk l0 p i1,zDk l0 p i2]
theorem zSL(x:It)(fl:List Flt):zFv p x (l0++fl)=(zFv p x fl).pre l0:=by
 unfold zFv
 have e:(⟨(x.fields.map Fi.name).foldl (fun m s=>mPut m s true) [],x.fields.length,0,l0++fl⟩:Nf)=Nf.pre l0 ⟨(x.fields.map Fi.name).foldl (fun m s=>mPut m s true) [],x.fields.length,0,fl⟩:=rfl
 rw[e];simp only;rw[zF3 l0 p x.body (fun s _=>zVH l0 p s)]
 simp only;rw[<-zF2,<-zSK];rfl
theorem zSM(q:Nat)(x:It)(fl:List Flt):zCt p q x (l0++fl)=l0++zCt p q x fl:=by
 unfold zCt;simp only[List.append_assoc]
 by_cases h3:x.kind=3
 .rw[if_pos h3,if_pos h3,zSL]
  simp only[Nf.pre,List.append_assoc];rfl
 rw[if_neg h3,if_neg h3]
end
end Go.Proofs.YtdflkegnmmkkoaaGreatDoor
namespace Go.Proofs.YtdflkegnmmkkoaaGreatDoor
open Go.RowKit
def keyF(x:It):Nat × Int:=(x.fields.length,x.result.kind)
structure SameL (p p':List It):Prop where
 fn:∀s,(fnIt p s).map keyF=(fnIt p' s).map keyF
 it:∀s,zb p s=zb p' s
section
variable{p p':List It}(h:SameL p p')
include h
theorem zSN(m:List Fg)(op:Int)(nm sc:BA)(pl:Pl)(n:Nat):zDG p m op nm sc pl n=zDG p' m op nm sc pl n:=by
 unfold zDG;rw[h.it]
 have e:(match fnIt p nm with|some x=>decide (x.fields.length=n)|none=>false)=(match fnIt p' nm with|some x=>decide (x.fields.length=n)|none=>false):=by
  have hk:=h.fn nm
  cases h1:fnIt p nm with
  |none=>
   cases h2:fnIt p' nm with
   |none=>rfl
   |some y=>rw[h1,h2]at hk;cases hk
  |some x=>
   cases h2:fnIt p' nm with
   |none=>rw[h1,h2]at hk;cases hk
   |some y=>
    rw[h1,h2]at hk
    have Qb:keyF x=keyF y:=Option.some.inj hk
    have:x.fields.length=y.fields.length:=congrArg Prod.fst Qb
    simp only[this]
 by_cases Gn:op=18
 .rw[if_pos Gn,if_pos Gn];exact e
 rw[if_neg Gn,if_neg Gn]
theorem zVI(s:BA):zLT p s=zLT p' s:=by
 unfold zLT
 have hk:=h.fn s
 cases h1:fnIt p s with
 |none=>
  cases h2:fnIt p' s with
  |none=>rfl
  |some y=>rw[h1,h2]at hk;cases hk
 |some x=>
  cases h2:fnIt p' s with
  |none=>rw[h1,h2]at hk;cases hk
  |some y=>
   rw[h1,h2]at hk
   have Qb:keyF x=keyF y:=Option.some.inj hk
   have e1:x.fields.length=y.fields.length:=congrArg Prod.fst Qb
   have e2:x.result.kind=y.result.kind:=congrArg Prod.snd Qb
   simp only[e1,e2]
theorem zSO(m:List Fg):∀e:Ex,e.nm p m=e.nm p' m:=by
 refine Ex.ind fun e ih=>?_
 have hl:∀l:List Ex,(∀x∈l,x.nm p m=x.nm p' m)->l.flatMap (Ex.nm p m)=l.flatMap (Ex.nm p' m):=fun l hl=>by
  induction l with
  |nil=>rfl
  |cons x l ih=>rw[List.flatMap_cons,List.flatMap_cons,hl x (by simp),ih fun y hy=>hl y (List.mem_cons_of_mem _ hy)]
 rw[exNm,exNm p' m e,zSN h,hl _ ih]
theorem zVJ(m:List Fg)(l:List Ex):l.flatMap (Ex.nm p m)=l.flatMap (Ex.nm p' m):=by
 induction l with
 |nil=>rfl
 |cons x l ih=>rw[List.flatMap_cons,List.flatMap_cons,zSO h,ih]
theorem zMr(pos:Int):∀t:Ty,t.nm p pos=t.nm p' pos:=by
 refine Ty.ind fun t ih=>?_
 have hl:∀l:List Ty,(∀x∈l,x.nm p pos=x.nm p' pos)->l.flatMap (Ty.nm p pos)=l.flatMap (Ty.nm p' pos):=fun l hl=>by
  induction l with
  |nil=>rfl
  |cons x l ih=>rw[List.flatMap_cons,List.flatMap_cons,hl x (by simp),ih fun y hy=>hl y (List.mem_cons_of_mem _ hy)]
 rw[tyNm,tyNm p' pos t,h.it,hl _ ih]
theorem zOD(k:Int)(s:BA):zH5 p k s=zH5 p' k s:=by unfold zH5;rw[h.it]
theorem zVK(s:BA)(n:Nat):zH6 p s n=zH6 p' s n:=by unfold zH6;rw[zOD h]
theorem zSP(s:BA)(l:List Fg):zEe p s l=zEe p' s l:=by unfold zEe;rw[zOD h]
end
section
variable(p p':List It)
def StCg(s:St):Prop:=∀σ:Nf,s.nm p σ=s.nm p' σ
theorem zHI:∀(l:List St),(∀s∈l,StCg p p' s)->∀σ:Nf,St.nms p l σ=St.nms p' l σ
 | [],h,σ=>by simp only[St.nms]
 |s::l,h,σ=>by
  simp only[St.nms];rw[h s (by simp) σ,zHI l (fun y hy=>h y (List.mem_cons_of_mem _ hy))]
theorem zIC{l:List St}(h:∀s∈l,StCg p p' s)(pos:Int)(names:List BA)(σ:Nf):zAB p l pos names σ=zAB p' l pos names σ:=by
 unfold zAB;rw[zHI p p' l h]
theorem zSQ{l:List St}(h:∀s∈l,StCg p p' s)(pos:Int)(names:List BA)(fl:List Flt):zCa p l pos names fl=zCa p' l pos names fl:=by
 unfold zCa;rw[zHI p p' l h]
theorem zSR(pos:Int):∀(l:List Ar),(∀a∈l,∀s∈a.body,StCg p p' s)->∀σ:Nf,l.foldl (fun σ a=>a.nm p pos σ) σ=l.foldl (fun σ a=>a.nm p' pos σ) σ
 | [],h,σ=>rfl
 |a::l,h,σ=>by
  simp only[List.foldl_cons]
  have e:a.nm p pos σ=a.nm p' pos σ:=zIC p p' (h a (by simp)) pos (oneN a.name) σ
  rw[e];exact zSR pos l (fun b hb=>h b (List.mem_cons_of_mem _ hb)) _
end
theorem zX3{p p':List It}(h:SameL p p'):∀s:St,StCg p p' s:=by
 refine St.ind fun s i1 i2 i3 σ=>?_
 obtain⟨op,name,second,names,ty,int,pl,es,b,el,ar,pos⟩:=s
 simp only[St.op,St.name,St.u2,St.names,St.type,St.int,St.place,St.u3,St.body,St.els,St.arms,St.pos]at*;rw[zVG p,zVG p'];simp only[zVJ h,zVK h,zSP h,zMr h,zSR p p' pos ar i3,zSQ p p' i1,zIC p p' i1,zIC p p' i2]
theorem zJP{p p':List It}(h:SameL p p')(pos:Int):∀(l:List Fi) (met:List BA),zBA p pos met l=zBA p' pos met l
 | [],_=>rfl
 |f::l,met=>by
  unfold zBA;rw[zMr h,zJP h pos l]
theorem zVL{p p':List It}(h:SameL p p')(x:It)(fl:List Flt):zFv p x fl=zFv p' x fl:=by
 unfold zFv;rw[zHI p p' x.body fun s _=>zX3 h s]
 simp only[zSO h]
theorem zVM{p p':List It}(h:SameL p p')(x:It):zCt p 0 x []=zCt p' 0 x []:=by
 unfold zCt
 have e:∀p,zBL p 0 x=false:=fun p=>by unfold zBL;simp
 rw[e,e,zJP h,zMr h];simp only[zVL h]
end Go.Proofs.YtdflkegnmmkkoaaGreatDoor
namespace Go.Proofs.YtdflkegnmmkkoaaGreatDoor
open Go.RowKit
theorem zC3{b:Bool}{e a:Int}(h:zI b e a=[]):b=true:=by
 cases b with
 |true=>rfl
 |false=>cases h
theorem zED(e a:Int):zI true e a=[]:=rfl
structure MonoL (p p':List It):Prop where
 fn:∀s x,fnIt p s=some x->fnIt p' s=some x
 it:∀s x,zb p s=some x->zb p' s=some x
structure NfR (σ τ:Nf):Prop where
 made:σ.made=τ.made
 count:σ.count=τ.count
 opn:σ.opn=τ.opn
 fl:σ.fl=[]->τ.fl=[]
theorem NfR.add{σ τ:Nf}(h:NfR σ τ){l l':List Flt}(hl:l=[]->l'=[]):NfR (σ.add l) (τ.add l'):=
 ⟨h.made,h.count,h.opn,fun e=>by
  obtain⟨e1,e2⟩:=List.append_eq_nil_iff.1 (show σ.fl++l=[]from e)
  show τ.fl++l'=[]
  rw[h.fl e1,hl e2];rfl⟩
theorem NfR.mk1{σ τ:Nf}(h:NfR σ τ)(s:BA)(pos:Int):NfR (σ.mk1 s pos) (τ.mk1 s pos):=by
 unfold Nf.mk1;refine⟨by simp only[h.made],by simp only[h.count],h.opn,fun e=>?_⟩
 simp only at e ⊢
 obtain⟨e1,e2⟩:=List.append_eq_nil_iff.1 e
 rw[h.fl e1,<-h.made,e2];rfl
theorem NfR.mkS(pos:Int):∀(l:List BA) {σ τ:Nf},NfR σ τ->NfR (Nf.mkS l pos σ).1 (Nf.mkS l pos τ).1/\(Nf.mkS l pos σ).2=(Nf.mkS l pos τ).2
 | [],σ,τ,h=>⟨h,rfl⟩
 |s::l,σ,τ,h=>by
  obtain⟨h1,h2⟩:=NfR.mkS pos l (h.mk1 s pos)
  exact⟨h1,by simp only[Nf.mkS,h2,h.made]⟩
theorem NfR.undo:∀(l:List Fg) {σ τ:Nf},NfR σ τ->NfR (Nf.undo l σ) (Nf.undo l τ)
 | [],σ,τ,h=>h
 |g::l,σ,τ,h=>by
  have h1:=NfR.undo l h
  exact⟨by simp only[Nf.undo,Nf.put,h1.made],h1.count,h1.opn,h1.fl⟩
section
variable{p p':List It}(h:MonoL p p')
include h
omit h in
end
section
variable(p p':List It)
end
theorem zJQ(p:List It)(x:It):zBL p 0 x=false:=by unfold zBL;simp
theorem zPa(p:List It)(q:Nat)(x:It)(fl:List Flt):zCt p q x fl=fl++(zI (!zBL p q x) 60 x.pos++zCt p 0 x []):=by
 have e:zCt p q x fl=zCt p 0 x ((fl++zI (!zBL p q x) 60 x.pos)++[]):=by
  unfold zCt;simp only[zJQ,Bool.not_false,zED,List.append_nil]
 rw[e,zSM,List.append_assoc]
theorem zID(p:List It):∀(l:List It) (q:Nat) (fl:List Flt),zDR p q l fl=[] ↔ fl=[]/\(∀i (h:i<l.length),zBL p (q+i) l[i]=false)/\∀x∈l,zCt p 0 x []=[]
 | [],q,fl=>by
  unfold zDR
  exact⟨fun e=>⟨e,fun i h=>absurd h (by simp),fun x hx=>by cases hx⟩,fun e=>e.1⟩
 |x::l,q,fl=>by
  unfold zDR;rw[zID p l,zPa];constructor
  .rintro⟨e,h1,h2⟩
   obtain⟨e1,e2⟩:=List.append_eq_nil_iff.1 e
   obtain⟨e3,e4⟩:=List.append_eq_nil_iff.1 e2
   have e5:=zC3 e3
   refine⟨e1,fun i hi=>?_,fun y hy=>?_⟩
   .cases i with
    |zero=>simpa using e5
    |succ i=>
     have:=h1 i (by simpa using hi)
     rw[show q+1+i=q+(i+1) by omega]at this
     exact this
   rcases List.mem_cons.1 hy with rfl|hy
   .exact e4
   exact h2 y hy
  rintro⟨e,h1,h2⟩
  have e0:=h1 0 (by simp)
  simp only[Nat.add_zero,List.getElem_cons_zero]at e0;refine⟨by rw[e,e0,h2 x (by simp)];rfl,fun i hi=>?_,fun y hy=>h2 y (List.mem_cons_of_mem _ hy)⟩
  have:=h1 (i+1) (by simpa using hi)
  rw[show q+(i+1)=q+1+i by omega]at this
  exact this
def zMs(y x:It):Bool:=(decide (y.kind=3)==decide (x.kind=3))&&sEq y.name x.name
theorem zOE(p:List It):(∀i (h:i<p.length),zBL p (0+i) p[i]=false) ↔ p.Pairwise fun y x=>zMs y x=false:=by
 rw[List.pairwise_iff_getElem];constructor
 .intro h i j hi hj rr
  have:=h j hj
  unfold zBL at this;rw[Nat.zero_add,List.any_eq_false]at this
  have k:=this p[i] (List.mem_take_iff_getElem.2 ⟨i,by omega,rfl⟩)
  simpa [zMs]using k
 intro h j hj
 unfold zBL;rw[Nat.zero_add,List.any_eq_false];intro y hy
 obtain⟨i,hi,rfl⟩:=List.mem_take_iff_getElem.1 hy
 have:=h i j (by omega) hj (by omega)
 simpa [zMs]using this
theorem zEj(p:List It):zBM p=[] ↔ zAF p=true/\(p.Pairwise fun y x=>zMs y x=false)/\(∀x∈p,zCt p 0 x []=[])/\zLT p zLU=true:=by
 unfold zBM
 by_cases hw:zAF p=true
 .rw[if_pos hw]
  constructor
  .intro e
   obtain⟨e1,e2⟩:=List.append_eq_nil_iff.1 e
   obtain⟨_,h1,h2⟩:=(zID p p 0 []).1 e1
   exact⟨hw,(zOE p).1 h1,h2,zC3 e2⟩
  rintro⟨_,h1,h2,h3⟩
  rw[(zID p p 0 []).2 ⟨rfl,(zOE p).2 h1,h2⟩,h3];rfl
 rw[if_neg hw]
 exact⟨(fun e=>by cases e),fun e=>absurd e.1 hw⟩
def zaR:BA:=(⟨#[113,117,105,116,101,95,111,116,104,101,114]⟩:BA)
end Go.Proofs.YtdflkegnmmkkoaaGreatDoor
