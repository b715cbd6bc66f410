/- A part of the proof. -/
import Derived.Test.YtdflkegnmmkkoaaGreatDoorYNQl
set_option linter.unusedVariables false
set_option linter.unusedSimpArgs false
set_option maxRecDepth 100000
set_option maxHeartbeats 32000000
namespace Go.Proofs.YtdflkegnmmkkoaaGreatDoor
open Go.RowKit
def Nf.pre(l:List Flt)(σ:Nf):Nf:=⟨σ.made,σ.count,σ.opn,l++σ.fl⟩
section
variable(l0:List Flt)(p:List It)
theorem zXs(s:BA)(pos:Int)(σ:Nf):(σ.pre l0).mk1 s pos=(σ.mk1 s pos).pre l0:=by
 unfold Nf.mk1 Nf.pre;simp only[List.append_assoc]
theorem zGo(pos:Int):∀(l:List BA) (σ:Nf),Nf.mkS l pos (σ.pre l0)=((Nf.mkS l pos σ).1.pre l0,(Nf.mkS l pos σ).2)
 | [],σ=>rfl
 |s::l,σ=>by
  rw[Nf.mkS,zXs,zGo pos l,Nf.mkS];rfl
theorem zGF:∀(l:List Fg) (σ:Nf),Nf.undo l (σ.pre l0)=(Nf.undo l σ).pre l0
 | [],σ=>rfl
 |h::l,σ=>by rw[Nf.undo,zGF l,Nf.undo];rfl
theorem zSG(σ:Nf)(l:List Flt):(σ.pre l0).add l=(σ.add l).pre l0:=by
 unfold Nf.add Nf.pre;simp only[List.append_assoc]
def StP(s:St):Prop:=∀σ:Nf,s.nm p (σ.pre l0)=((s.nm p σ).1.pre l0,(s.nm p σ).2)
theorem zGG:∀(l:List St),(∀s∈l,StP l0 p s)->∀σ:Nf,St.nms p l (σ.pre l0)=((St.nms p l σ).1.pre l0,(St.nms p l σ).2)
 | [],h,σ=>by simp only[St.nms]
 |s::l,h,σ=>by
  simp only[St.nms];rw[h s (by simp) σ,zGG l (fun y hy=>h y (List.mem_cons_of_mem _ hy))]
theorem zDv{l:List St}(h:∀s∈l,StP l0 p s)(pos:Int)(names:List BA)(σ:Nf):zAZ p l pos names (σ.pre l0)=(zAZ p l pos names σ).pre l0:=by
 unfold zAZ;rw[zGo];simp only;rw[zGG l0 p l h];simp only;rw[zGF,zGF]
theorem zPY{l:List St}(h:∀s∈l,StP l0 p s)(pos:Int)(names:List BA)(fl:List Flt):zC2 p l pos names (l0++fl)=(zC2 p l pos names fl).pre l0:=by
 unfold zC2
 have e:(⟨[],0,0,l0++fl⟩:Nf)=Nf.pre l0 ⟨[],0,0,fl⟩:=rfl
 rw[e,zGo];simp only;rw[zGG l0 p l h];simp only;rw[zGF]
theorem zOD(pos:Int):∀(l:List Ar),(∀a∈l,∀s∈a.body,StP l0 p s)->∀σ:Nf,l.foldl (fun σ a=>a.nm p pos σ) (σ.pre l0)=(l.foldl (fun σ a=>a.nm p pos σ) σ).pre l0
 | [],h,σ=>rfl
 |a::l,h,σ=>by
  simp only[List.foldl_cons]
  have e:a.nm p pos (σ.pre l0)=(a.nm p pos σ).pre l0:=by
   unfold Ar.nm;exact zDv l0 p (h a (by simp)) pos (oneN a.name) σ
  rw[e];exact zOD pos l (fun b hb=>h b (List.mem_cons_of_mem _ hb)) _
theorem zVD:∀s:St,StP l0 p s:=by
 refine St.ind fun s i1 i2 i3 σ=>?_
 have Hm:(σ.pre l0).made=σ.made:=rfl
 have ep:(σ.pre l0).opn=σ.opn:=rfl
 have fp:(σ.pre l0).count=σ.count:=rfl
 have jd:(σ.pre l0).fl=l0++σ.fl:=rfl
 obtain⟨op,name,second,names,ty,int,pl,es,b,el,ar,pos⟩:=s
 rw[zZ6 p,zZ6 p];simp only[St.op,St.name,St.u2,St.names,St.type,St.int,St.place,St.u3,St.body,St.els,St.arms,St.pos]at*;simp only[Hm,ep,fp,jd,zSG,List.append_assoc]
 by_cases o1:op=1
 .simp only[zKW o1,zGo]
 simp only[zKX o1]
 by_cases o2:op=2
 .simp only[zKW o2,zGo]
 simp only[zKX o2]
 by_cases o3:op=3
 .simp only[zKW o3]
 simp only[zKX o3]
 by_cases o5:op=5
 .simp only[zKW o5]
 simp only[zKX o5]
 by_cases Ji:op=12
 .simp only[zKW Ji,zGo]
 simp only[zKX Ji]
 by_cases o8:op=8
 .simp only[zKW o8,zOD l0 p pos ar i3]
 simp only[zKX o8]
 by_cases Ki:op=10
 .simp only[zKW Ki,zPY l0 p i1]
  simp only[Nf.pre,List.append_assoc];rfl
 simp only[zKX Ki]
 by_cases o9:op=9
 .have e:(⟨σ.made,σ.count,σ.opn+1,l0++(σ.fl++es.flatMap (Ex.nm p σ.made))⟩:Nf)=Nf.pre l0 ⟨σ.made,σ.count,σ.opn+1,σ.fl++es.flatMap (Ex.nm p σ.made)⟩:=rfl
  simp only[zKW o9,e,zDv l0 p i1];rfl
 simp only[zKX o9]
 by_cases Li:op=11
 .simp only[zKW Li,zDv l0 p i1]
 simp only[zKX Li,zDv l0 p i1,zDv l0 p i2]
theorem zSH(x:It)(fl:List Flt):zKI p x (l0++fl)=(zKI p x fl).pre l0:=by
 unfold zKI
 have e:(⟨(x.fields.map Fi.name).foldl (fun m s=>mPut m s true) [],x.fields.length,0,l0++fl⟩:Nf)=Nf.pre l0 ⟨(x.fields.map Fi.name).foldl (fun m s=>mPut m s true) [],x.fields.length,0,fl⟩:=rfl
 rw[e];simp only;rw[zGG l0 p x.body (fun s _=>zVD l0 p s)]
 simp only;rw[<-zGF,<-zSG];rfl
theorem zSI(q:Nat)(x:It)(fl:List Flt):zEG p q x (l0++fl)=l0++zEG p q x fl:=by
 unfold zEG;simp only[List.append_assoc]
 by_cases h3:x.kind=3
 .rw[if_pos h3,if_pos h3,zSH]
  simp only[Nf.pre,List.append_assoc];rfl
 rw[if_neg h3,if_neg h3]
end
end Go.Proofs.YtdflkegnmmkkoaaGreatDoor
namespace Go.Proofs.YtdflkegnmmkkoaaGreatDoor
open Go.RowKit
def keyF(x:It):Nat × Int:=(x.fields.length,x.result.kind)
structure SameL (p p':List It):Prop where
 fn:∀s,(fnIt p s).map keyF=(fnIt p' s).map keyF
 it:∀s,zg p s=zg p' s
section
variable{p p':List It}(h:SameL p p')
include h
end
section
variable(p p':List It)
end
end Go.Proofs.YtdflkegnmmkkoaaGreatDoor
namespace Go.Proofs.YtdflkegnmmkkoaaGreatDoor
open Go.RowKit
theorem zDw{b:Bool}{e a:Int}(h:zJ b e a=[]):b=true:=by
 cases b with
 |true=>rfl
 |false=>cases h
theorem zMy(e a:Int):zJ true e a=[]:=rfl
structure MonoL (p p':List It):Prop where
 fn:∀s x,fnIt p s=some x->fnIt p' s=some x
 it:∀s x,zg p s=some x->zg p' s=some x
structure NfR (σ τ:Nf):Prop where
 made:σ.made=τ.made
 count:σ.count=τ.count
 opn:σ.opn=τ.opn
 fl:σ.fl=[]->τ.fl=[]
theorem NfR.add{σ τ:Nf}(h:NfR σ τ){l l':List Flt}(hl:l=[]->l'=[]):NfR (σ.add l) (τ.add l'):=
 ⟨h.made,h.count,h.opn,fun e=>by
  obtain⟨e1,e2⟩:=List.append_eq_nil_iff.1 (show σ.fl++l=[]from e)
  show τ.fl++l'=[]
  rw[h.fl e1,hl e2];rfl⟩
theorem NfR.mk1{σ τ:Nf}(h:NfR σ τ)(s:BA)(pos:Int):NfR (σ.mk1 s pos) (τ.mk1 s pos):=by
 unfold Nf.mk1;refine⟨by simp only[h.made],by simp only[h.count],h.opn,fun e=>?_⟩
 simp only at e ⊢
 obtain⟨e1,e2⟩:=List.append_eq_nil_iff.1 e
 rw[h.fl e1,<-h.made,e2];rfl
theorem NfR.mkS(pos:Int):∀(l:List BA) {σ τ:Nf},NfR σ τ->NfR (Nf.mkS l pos σ).1 (Nf.mkS l pos τ).1/\(Nf.mkS l pos σ).2=(Nf.mkS l pos τ).2
 | [],σ,τ,h=>⟨h,rfl⟩
 |s::l,σ,τ,h=>by
  obtain⟨h1,h2⟩:=NfR.mkS pos l (h.mk1 s pos)
  exact⟨h1,by simp only[Nf.mkS,h2,h.made]⟩
theorem NfR.undo:∀(l:List Fg) {σ τ:Nf},NfR σ τ->NfR (Nf.undo l σ) (Nf.undo l τ)
 | [],σ,τ,h=>h
 |g::l,σ,τ,h=>by
  have h1:=NfR.undo l h
  exact⟨by simp only[Nf.undo,Nf.put,h1.made],h1.count,h1.opn,h1.fl⟩
section
variable{p p':List It}(h:MonoL p p')
include h
omit h in
end
section
variable(p p':List It)
end
theorem zPZ(p:List It)(x:It):zBa p 0 x=false:=by unfold zBa;simp
theorem zPa(p:List It)(q:Nat)(x:It)(fl:List Flt):zEG p q x fl=fl++(zJ (!zBa p q x) 60 x.pos++zEG p 0 x []):=by
 have e:zEG p q x fl=zEG p 0 x ((fl++zJ (!zBa p q x) 60 x.pos)++[]):=by
  unfold zEG;simp only[zPZ,Bool.not_false,zMy,List.append_nil]
 rw[e,zSI,List.append_assoc]
theorem zIV(p:List It):∀(l:List It) (q:Nat) (fl:List Flt),zDb p q l fl=[] ↔ fl=[]/\(∀i (h:i<l.length),zBa p (q+i) l[i]=false)/\∀x∈l,zEG p 0 x []=[]
 | [],q,fl=>by
  unfold zDb
  exact⟨fun e=>⟨e,fun i h=>absurd h (by simp),fun x hx=>by cases hx⟩,fun e=>e.1⟩
 |x::l,q,fl=>by
  unfold zDb;rw[zIV p l,zPa];constructor
  .rintro⟨e,h1,h2⟩
   obtain⟨e1,e2⟩:=List.append_eq_nil_iff.1 e
   obtain⟨e3,e4⟩:=List.append_eq_nil_iff.1 e2
   have e5:=zDw e3
   refine⟨e1,fun i hi=>?_,fun y hy=>?_⟩
   .cases i with
    |zero=>simpa using e5
    |succ i=>
     have:=h1 i (by simpa using hi)
     rw[show q+1+i=q+(i+1) by omega]at this
     exact this
   rcases List.mem_cons.1 hy with rfl|hy
   .exact e4
   exact h2 y hy
  rintro⟨e,h1,h2⟩
  have e0:=h1 0 (by simp)
  simp only[Nat.add_zero,List.getElem_cons_zero]at e0;refine⟨by rw[e,e0,h2 x (by simp)];rfl,fun i hi=>?_,fun y hy=>h2 y (List.mem_cons_of_mem _ hy)⟩
  have:=h1 (i+1) (by simpa using hi)
  rw[show q+(i+1)=q+1+i by omega]at this
  exact this
def zVE(y x:It):Bool:=(decide (y.kind=3)==decide (x.kind=3))&&sEq y.name x.name
theorem zOE(p:List It):(∀i (h:i<p.length),zBa p (0+i) p[i]=false) ↔ p.Pairwise fun y x=>zVE y x=false:=by
 rw[List.pairwise_iff_getElem];constructor
 .intro h i j hi hj nv
  have:=h j hj
  unfold zBa at this;rw[Nat.zero_add,List.any_eq_false]at this
  have k:=this p[i] (List.mem_take_iff_getElem.2 ⟨i,by omega,rfl⟩)
  simpa [zVE]using k
 intro h j hj
 unfold zBa;rw[Nat.zero_add,List.any_eq_false];intro y hy
 obtain⟨i,hi,rfl⟩:=List.mem_take_iff_getElem.1 hy
 have:=h i j (by omega) hj (by omega)
 simpa [zVE]using this
theorem zSJ(p:List It):zB2 p=[] ↔ zAc p=true/\(p.Pairwise fun y x=>zVE y x=false)/\(∀x∈p,zEG p 0 x []=[])/\zRs p zLd=true:=by
 unfold zB2
 by_cases hw:zAc p=true
 .rw[if_pos hw]
  constructor
  .intro e
   obtain⟨e1,e2⟩:=List.append_eq_nil_iff.1 e
   obtain⟨_,h1,h2⟩:=(zIV p p 0 []).1 e1
   exact⟨hw,(zOE p).1 h1,h2,zDw e2⟩
  rintro⟨_,h1,h2,h3⟩
  rw[(zIV p p 0 []).2 ⟨rfl,(zOE p).2 h1,h2⟩,h3];rfl
 rw[if_neg hw]
 exact⟨(fun e=>by cases e),fun e=>absurd e.1 hw⟩
def zZ7:BA:=(⟨#[113,117,105,116,101,95,111,116,104,101,114]⟩:BA)
end Go.Proofs.YtdflkegnmmkkoaaGreatDoor
