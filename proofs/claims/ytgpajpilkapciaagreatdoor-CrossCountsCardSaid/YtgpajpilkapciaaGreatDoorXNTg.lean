/- A part of the proof. -/
import Derived.Test.YtgpajpilkapciaaGreatDoorXNTy
import Derived.Test.YtgpajpilkapciaaGreatDoorXNVk
set_option linter.unusedVariables false
set_option linter.unusedSimpArgs false
set_option maxRecDepth 100000
set_option maxHeartbeats 32000000
namespace Go.Proofs.YtgpajpilkapciaaGreatDoor
open Go.RowKit
abbrev zTy:Ty:=.mk 0 emS []
mutual
def eqT:Ty->Ty->Bool
 | .mk k s l,.mk k' s' l'=>(k==k')&&(sEq s s'&&eqTs l l')
def eqTs:List Ty->List Ty->Bool
 | [],[]=>true
 |t::l,u::m=>eqT t u&&eqTs l m
 |_,_=>false
end
mutual
theorem zGN:∀t u:Ty,eqT t u=true ↔ t=u
 | .mk k s l,.mk k' s' l'=>by
  rw[eqT];simp only[Bool.and_eq_true,beq_iff_eq,zB3,zG7 l l',Ty.mk.injEq]
theorem zG7:∀l m:List Ty,eqTs l m=true ↔ l=m
 | [],[]=>by simp[eqTs]
 |t::l,[]=>by simp[eqTs]
 | [],u::m=>by simp[eqTs]
 |t::l,u::m=>by
  rw[eqTs];simp only[Bool.and_eq_true,zGN t u,zG7 l m,List.cons.injEq]
end
def zAN(k:Int):Ty:=.mk k emS []
def inTy(k:Int)(t:Ty):Ty:=.mk k emS [t]
def copT(t:Ty):Bool:=decide (t.kind=1\/t.kind=2\/t.kind=3\/t.kind=13)
def zGr(op:Int):Int × Int:=if op=8\/op=16\/op=17 then(2,2)else if op=14\/op=15 then(1,2)else(1,1)
def zBl(op:Int):Int:=if op=21 then 5 else if op=26 then 7 else if op=27 then 8 else if op=29 then 9 else 0
def zA1(op:Int):Int × Bool:=if op=22 then(5,false)else if op=30 then(9,false)else if op=24\/op=25 then(6,true)else if op=35 then(11,true)else if op=36 then(12,true)else(0,false)
def zGO(env:List Fi)(nm:BA):Option Fi:=env.reverse.find? fun f=>sEq f.name nm
def zBC(p:List It)(env:List Fi)(x:Pl):Option (Ty × Bool):=(zGO env x.name).bind fun f=>zIT p f.type x.path
def zBh(p:List It)(k:Int)(nm:BA):List Fi × Bool:=match zU p nm with|some x=>((zW p nm).getD [],decide (x.kind=k))|none=>([],false)
def zAO(p:List It)(Ba variant:BA):Option Ty:=if(zBh p 2 Ba).2=true then((zBh p 2 Ba).1.find? fun v=>sEq v.name variant).map Fi.type else none
def zJo(p:List It)(op:Int)(nm sd:BA):List Ty × Ty × Bool:=
 if op=18 then match p.find? fun x=>(x.kind==3)&&sEq x.name nm with|some x=>(x.fields.map Fi.type,x.result,true)|none=>([],zTy,false)
 else if op=19 then((zBh p 1 nm).1.map Fi.type,.mk 4 nm [],(zBh p 1 nm).2)
 else match zAO p nm sd with|some t=>(if t.kind≠0 then [t]else [],.mk 4 nm [],true)|none=>([],.mk 4 nm [],false)
def zHt(p:List It)(op:Int)(nm sd:BA)(l:List Ty):Except Int Ty:=
 if((zJo p op nm sd).2.2&&eqTs l (zJo p op nm sd).1)=true then .ok (zJo p op nm sd).2.1 else .error 100
def zDY(p:List It)(env:List Fi)(op:Int)(pl:Pl)(l:List Ty):Except Int Ty:=
 let t:=if(zA1 op).2=true then((zBC p env pl).map Prod.fst).getD zTy else l.headD zTy
 if ¬(t.kind=(zA1 op).1/\t.args.length=1)then .error 100
 else if(zA1 op).2=true/\l.length=1 then(if eqT (t.args.headD zTy) (l.headD zTy)=true then .ok (zAN 3)else .error 100)
 else .ok (t.args.headD zTy)
def zFM(p:List It)(env:List Fi)(op:Int)(pl:Pl)(l:List Ty):Except Int Ty:=
 match zBC p env pl with
 |none=>.error 100
 |some (t,w)=>
  if op=4 then(if copT t=true\/pl.path.length=0 then .ok t else .error 102)
  else if op=5 then .ok (inTy 13 t)
  else if op=6 then(if w=true then .ok (inTy 14 t)else .error 100)
  else if op=28 then(if t.kind=7\/t.kind=8\/t.kind=11\/t.kind=12 then .ok t else .error 100)
  else if t.kind=10/\(l.length=0\/(l.headD zTy).kind=1)then .ok (zAN (if op=33 then 3 else 1))else .error 100
def ownT(p:List It)(env:List Fi)(op:Int)(nm sd:BA)(pl:Pl)(l:List Ty):Except Int Ty:=
 if op=1\/op=2\/op=3 then .ok (zAN op)
 else if 7<=op/\op<=17 then(if(l.all fun t=>t.kind==(zGr op).1)=true then .ok (zAN (zGr op).2)else .error 100)
 else if op=18\/op=19\/op=20 then zHt p op nm sd l
 else if 0<zBl op then(if(l.headD zTy).owned=true then .ok (inTy (zBl op) (l.headD zTy))else .error 101)
 else if op=23 then(if(l.headD zTy).kind<=3 then .ok (inTy 6 (l.headD zTy))else .error 100)
 else if op=31 then(if(l.headD zTy).kind=1 then .ok (zAN 10)else .error 100)
 else if 0<(zA1 op).1 then zDY p env op pl l
 else zFM p env op pl l
mutual
def tyE(p:List It)(env:List Fi):Ex->Except Flt Ty
 | .mk op _ nm sd pl args pos=>
  match tyEs p env args with
  | .error f=>.error f
  | .ok l=>match ownT p env op nm sd pl l with| .ok t=>.ok t| .error e=>.error (e,pos)
def tyEs(p:List It)(env:List Fi):List Ex->Except Flt (List Ty)
 | []=>.ok []
 |e::l=>match tyE p env e with
  | .error f=>.error f
  | .ok t=>match tyEs p env l with
   | .error f=>.error f
   | .ok ts=>.ok (t::ts)
end
def zCV(env:List Fi)(r:List Fi × Option Flt):List Fi × Option Flt:=match r.2 with|some f=>r|none=>(env,none)
def zBc(fs:List Fi)(nms:List BA):List Fi:=(nms.zip fs).map fun q=>⟨q.1,q.2.type⟩
def zAg(nms:List BA)(l:List Ty):List Fi:=(nms.zip l).map fun q=>⟨q.1,q.2⟩
def plT(p:List It)(env:List Fi)(x:Pl):Ty:=((zBC p env x).map Prod.fst).getD zTy
def zC6(p:List It)(env:List Fi)(op:Int)(nm sd:BA)(pl:Pl)(l:List Ty):Option Int:=
 if op=2 then(if eqT (l.headD zTy) (.mk 4 nm [])=true then none else some 100)
 else if op=3 then(match zBC p env pl with|none=>some 100|some (t,w)=>if t.owned=false then some 101 else if w=true/\eqT t (l.headD zTy)=true then none else some 100)
 else if op=6\/op=7 then(if(l.headD zTy).kind=2 then none else some 100)
 else if op=8 then(if eqT (plT p env ⟨nm,[]⟩) (.mk 4 sd [])=true then none else some 100)
 else if op=11 then(if(plT p env pl).kind=9 then none else some 100)
 else none
mutual
def tgS(p:List It):List Fi->St->List Fi × Option Flt
 |env,.mk op nm sd nms ty _ pl es body els arms pos=>
  match tyEs p env es with
  | .error f=>(env,some f)
  | .ok l=>
   match zC6 p env op nm sd pl l with
   |some e=>(env,some (e,pos))
   |none=>
    if op=1 then(env++[⟨nm,l.headD zTy⟩],none)
    else if op=2 then(env++zBc ((zW p nm).getD []) nms,none)
    else if op=3 then(env,none)
    else if op=6\/op=7 then
     match tgSs p env body with
     |(e,some f)=>(e,some f)
     |(_,none)=>zCV env (tgSs p env els)
    else if op=8 then tgAs p sd env arms
    else if op=10 then(env,(tgSs p (zAg nms l) body).2)
    else if op=11 then zCV env (tgSs p (env++[⟨nm,inTy 14 ((plT p env pl).args.headD zTy)⟩]) body)
    else if op=12 then(env++[⟨nm,inTy 11 ty⟩,⟨sd,inTy 12 ty⟩],none)
    else zCV env (tgSs p env body)
def tgSs(p:List It):List Fi->List St->List Fi × Option Flt
 |env,[]=>(env,none)
 |env,s::l=>match tgS p env s with
  |(e,some f)=>(e,some f)
  |(e,none)=>tgSs p e l
def tgAs(p:List It)(Ba:BA):List Fi->List (ArOf St)->List Fi × Option Flt
 |env,[]=>(env,none)
 |env,⟨v,n,b⟩::l=>match tgSs p (if sEq n emS=true then env else env++[⟨n,(zAO p Ba v).getD zTy⟩]) b with
  |(e,some f)=>(e,some f)
  |(_,none)=>tgAs p Ba env l
end
def tgI(p:List It)(x:It):Option Flt:=
 if x.kind=3 then
  match tgSs p x.fields x.body with
  |(_,some f)=>some f
  |(env,none)=>match tyE p env x.ret with
   | .error f=>some f
   | .ok t=>if eqT t x.result=true then none else some (100,x.ret.pos)
 else none
def tgC(p:List It):List Flt:=p.filterMap (tgI p)
attribute [local simp] List.replicate List.range List.range.loop
def isK(k:Int)(s:BA)(x:It):Bool:=(x.kind==k)&&sEq x.name s
def nfR(p:List It)(k:Int)(s:BA):AV:=match p.find? (isK k s)with|some x=>.tup [itV x,B true]|none=>.tup [itZ0,B false]
theorem zVM(p:List It)(hp:PrSm p)(k:Int)(s:BA)(S:ASt):ADet Tryz.prog 105 [.agg [.p (prog p)],U k,Sg s] S (nfR p k s) S:=by
 have cC:=fun S=>zVI p hp S
 have pm:p.length<=20000:=hp.1
 refine ADet.intro mixed Tryz.call105 Tryz.func105 rfl ?_;simp[Tryz.ntmps105];refine cq (cC _) ?_;simp[prog];refine zH (fun q:Nat=>q<=p.length/\∀j (h:j<p.length),j<q->isK k s p[j]=false) (fun q=>([.any,U k,Sg s,.any,.any,.any,.ptr 0 1 0,B false,.any,.any,.any,.any,.p (.sl 16 (p.map It.enc)),I p.length,I q]++List.replicate 16 .any)) (fun _=>[.cells [.p (.sl 16 (p.map It.enc))] 27,.cells [U 0,Sg emS,nilS,U 0,Sg emS,nilS,nilS,U 0,I 0,Sg emS,Sg emS,Sg emS,nilS,nilS,I 0,I 0] 44]::S) (fun q=>p.length-q) 0 ⟨Nat.zero_le _,fun j h hj=>by omega⟩ ?_ ?_ ?_
 .simp
 .simp
 rintro q ⟨hq,ce⟩
 by_cases hlt:q<p.length
 .have aa:(q:Int)<(p.length:Int):=by omega
  have Te:=zA hlt (by unfold maxLen;omega)
  have Ra:isK k s p[q]=false->∀j (h:j<p.length),j<q+1->isK k s p[j]=false:=fun hx j h hj=>by
   by_cases qm:j=q
   .subst qm;exact hx
   exact ce j h (by omega)
  have Uc:isK k s p[q]=true->p.find? (isK k s)=some p[q]:=fun hx=>by
   rw[List.find?_eq_some_iff_getElem];exact⟨hx,q,hlt,rfl,fun j hj=>by rw[ce j (by omega) hj];rfl⟩
  generalize he:p[q]=x at*
  by_cases hk:x.kind=k
  .cases hs:sEq x.name s with
   |false=>
    simp[hlt,aa,It.enc,hk,hs,he]
    exact⟨q+1,⟨by omega,Ra (by simp[isK,hs])⟩,by omega,Te⟩
   |true=>
    unfold nfR;rw[Uc (by simp[isK,hk,hs])]
    simp[hlt,aa,It.enc,hk,hs,he]
  have Vb:(x.kind==k)=false:=by simpa using hk
  simp[hlt,aa,It.enc,Vb,he];exact⟨q+1,⟨by omega,Ra (by simp[isK,Vb])⟩,by omega,Te⟩
 have aa:¬(q:Int)<(p.length:Int):=by omega
 have Uc:p.find? (isK k s)=none:=by
  rw[List.find?_eq_none];intro x hx
  obtain⟨i,hi,rfl⟩:=List.getElem_of_mem hx
  rw[ce i hi (by omega)]
  simp
 unfold nfR;rw[Uc];simp[aa]
end Go.Proofs.YtgpajpilkapciaaGreatDoor
namespace Go.Proofs.YtgpajpilkapciaaGreatDoor
open Go.RowKit
def okT(p:List It)(t:Ty):Prop:=t.nm p 0=[]
theorem zZC(p:List It)(t:Ty):okT p t ↔ (t.kind=4->(zU p t.name).isSome=true)/\∀u∈t.args,okT p u:=by
 unfold okT;rw[tyNm,List.append_eq_nil_iff,List.flatMap_eq_nil_iff];refine and_congr ?_ Iff.rfl;split
 .rename_i h4
  constructor
  .exact fun h _=>zDd h
  exact fun h=>by rw[h h4];rfl
 rename_i h4
 exact⟨fun _ h=>absurd h h4,fun _=>rfl⟩
theorem zQ5(p:List It)(pos:Int):∀t:Ty,t.nm p pos=[]->okT p t:=by
 refine Ty.ind fun t ih he=>?_
 rw[zZC];rw[tyNm]at he
 obtain⟨e1,e2⟩:=List.append_eq_nil_iff.1 he
 refine⟨fun h4=>by rw[if_pos h4]at e1;exact zDd e1,fun u hu=>ih u hu (List.flatMap_eq_nil_iff.1 e2 u hu)⟩
def okIt(p:List It)(x:It):Prop:=(∀f∈x.fields,okT p f.type)/\(x.kind=3->okT p x.result)
theorem zGP(p:List It)(pos:Int):∀(l:List Fi) (met:List BA),zBX p pos met l=[]->∀f∈l,okT p f.type
 | [],met,h,f,hf=>by cases hf
 |g::l,met,h,f,hf=>by
  rw[zBX]at h
  obtain⟨_,h2⟩:=List.append_eq_nil_iff.1 h
  obtain⟨h3,h4⟩:=List.append_eq_nil_iff.1 h2
  rcases List.mem_cons.1 hf with rfl|hf
  .exact zQ5 p pos _ h3
  exact zGP p pos l _ h4 f hf
theorem zFo{σ τ:Nf}{n:Nat}(h:Near σ n τ)(e:τ.fl=[]):σ.fl=[]:=by
 have:=h.1
 rw[e]at this;exact List.eq_nil_of_length_eq_zero (by simpa using this)
theorem zJp(a:List Fg)(σ:Nf):(Nf.undo a σ).fl=σ.fl:=by
 induction a with
 |nil=>rfl
 |cons g a ih=>exact ih
theorem zUF{p:List It}{x:It}{fl:List Flt}(h:(zJe p x fl).fl=[]):fl=[]/\(St.nms p x.body ⟨(x.fields.map Fi.name).foldl (fun m s=>mPut m s true) [],x.fields.length,0,fl⟩).1.fl=[]/\∃m,x.ret.nm p m=[]:=by
 unfold zJe at h;simp only[zJp]at h
 obtain⟨h1,h2⟩:=List.append_eq_nil_iff.1 (show _++_=[]from h)
 exact⟨zFo (zCN p (fun s _ σ=>zC5 p s σ) _).1 h1,h1,_,h2⟩
theorem zOl{p:List It}{x:It}(h:zDu p 0 x []=[]):okIt p x/\(x.kind=3->∃fl,(St.nms p x.body ⟨(x.fields.map Fi.name).foldl (fun m s=>mPut m s true) [],x.fields.length,0,fl⟩).1.fl=[]/\∃m,x.ret.nm p m=[]):=by
 unfold zDu at h;simp only at h;split at h
 .rename_i h3
  obtain⟨h1,_⟩:=List.append_eq_nil_iff.1 h
  obtain⟨e1,e2,e3⟩:=zUF h1
  obtain⟨e4,e5⟩:=List.append_eq_nil_iff.1 e1
  obtain⟨_,e6⟩:=List.append_eq_nil_iff.1 e4
  exact⟨⟨zGP p _ _ _ e6,fun _=>zQ5 p _ _ e5⟩,fun _=>⟨_,e2,e3⟩⟩
 rename_i h3
 obtain⟨_,e6⟩:=List.append_eq_nil_iff.1 h
 exact⟨⟨zGP p _ _ _ e6,fun h=>absurd h h3⟩,fun h=>absurd h h3⟩
section
variable{p p':List It}(h:MonoL p p')(hr:∀x∈p,okIt p x)
include h hr
omit hr in
omit h in
omit h in
omit h hr in
theorem zZD(p:List It)(nm:BA):(p.find? fun x=>(x.kind==3)&&sEq x.name nm)=fnIt p nm:=by
 unfold fnIt
 congr 1
end
end Go.Proofs.YtgpajpilkapciaaGreatDoor
namespace Go.Proofs.YtgpajpilkapciaaGreatDoor
open Go.RowKit
theorem zB7(p:List It)(env:List Fi)(s:St):tgS p env s=
  match tyEs p env s.u5 with
  | .error f=>(env,some f)
  | .ok l=>
   match zC6 p env s.op s.name s.u4 s.place l with
   |some e=>(env,some (e,s.pos))
   |none=>
    if s.op=1 then(env++[⟨s.name,l.headD zTy⟩],none)
    else if s.op=2 then(env++zBc ((zW p s.name).getD []) s.names,none)
    else if s.op=3 then(env,none)
    else if s.op=6\/s.op=7 then
     match tgSs p env s.body with
     |(e,some f)=>(e,some f)
     |(_,none)=>zCV env (tgSs p env s.els)
    else if s.op=8 then tgAs p s.u4 env s.arms
    else if s.op=10 then(env,(tgSs p (zAg s.names l) s.body).2)
    else if s.op=11 then zCV env (tgSs p (env++[⟨s.name,inTy 14 ((plT p env s.place).args.headD zTy)⟩]) s.body)
    else if s.op=12 then(env++[⟨s.name,inTy 11 s.type⟩,⟨s.u4,inTy 12 s.type⟩],none)
    else zCV env (tgSs p env s.body):=by
 cases s;rw[tgS]<;>rfl
section
variable{p p':List It}(h:MonoL p p')(hr:∀x∈p,okIt p x)
include hr in
include h hr
end
end Go.Proofs.YtgpajpilkapciaaGreatDoor
namespace Go.Proofs.YtgpajpilkapciaaGreatDoor
open Go.RowKit
structure LookT (p p':List It):Prop where
 it:∀s,(zU p' s).map (fun x=>(x.kind,x.fields))=(zU p s).map fun x=>(x.kind,x.fields)
 fn:∀s,(fnIt p' s).map (fun x=>(x.fields,x.result))=(fnIt p s).map fun x=>(x.fields,x.result)
theorem zFp{α β:Type}{f:α->β}{a b:Option α}(h:a.map f=b.map f):(a=none/\b=none)\/∃x y,a=some x/\b=some y/\f x=f y:=by
 cases a with
 |none=>cases b with
  |none=>exact .inl ⟨rfl,rfl⟩
  |some y=>cases h
 |some x=>cases b with
  |none=>cases h
  |some y=>exact .inr ⟨x,y,rfl,rfl,Option.some.inj h⟩
section
variable{p p':List It}(h:LookT p p')
include h
theorem LookT.st(s:BA):zBw p' s=zBw p s:=by
 unfold zBw
 rcases zFp (h.it s)with⟨h1,h2⟩|⟨x,y,h1,h2,e⟩
 .rw[h1,h2]
 rw[h1,h2]
 obtain⟨e1,e2⟩:=Prod.mk.inj e
 simp only[e1,e2]
theorem LookT.fs(s:BA):zW p' s=zW p s:=by
 unfold zW
 rcases zFp (h.it s)with⟨h1,h2⟩|⟨x,y,h1,h2,e⟩
 .rw[h1,h2]
 rw[h1,h2]
 obtain⟨e1,e2⟩:=Prod.mk.inj e
 simp only[e1,e2]
theorem LookT.step(t:Ty)(s:BA):zE1 p' t s=zE1 p t s:=by unfold zE1;rw[h.st]
theorem LookT.walkF:∀(l:List BA) (t:Ty) (w:Bool),walkF p' l t w=walkF p l t w
 | [],t,w=>rfl
 |s::l,t,w=>by
  rw[Proofs.YtgpajpilkapciaaGreatDoor.walkF,Proofs.YtgpajpilkapciaaGreatDoor.walkF,h.step]
  cases zE1 p t s with
  |none=>rfl
  |some r=>exact LookT.walkF l _ _
theorem LookT.walk(t:Ty)(l:List BA):zIT p' t l=zIT p t l:=by unfold zIT;rw[h.walkF]
theorem LookT.place(env:List Fi)(x:Pl):zBC p' env x=zBC p env x:=by
 unfold zBC
 congr 1
 funext f
 exact h.walk _ _
theorem LookT.fk(k:Int)(s:BA):zBh p' k s=zBh p k s:=by
 unfold zBh;rw[h.fs]
 rcases zFp (h.it s)with⟨h1,h2⟩|⟨x,y,h1,h2,e⟩
 .rw[h1,h2]
 rw[h1,h2]
 obtain⟨e1,e2⟩:=Prod.mk.inj e
 simp only[e1]
theorem LookT.pay(a b:BA):zAO p' a b=zAO p a b:=by unfold zAO;rw[h.fk]
theorem LookT.asks(op:Int)(nm sd:BA):zJo p' op nm sd=zJo p op nm sd:=by
 unfold zJo;rw[h.pay,h.fk,zZD,zZD]
 rcases zFp (h.fn nm)with⟨h1,h2⟩|⟨x,y,h1,h2,e⟩
 .rw[h1,h2]
 rw[h1,h2]
 obtain⟨e1,e2⟩:=Prod.mk.inj e
 simp only[e1,e2]
theorem LookT.own(env:List Fi)(op:Int)(nm sd:BA)(pl:Pl)(l:List Ty):ownT p' env op nm sd pl l=ownT p env op nm sd pl l:=by
 unfold ownT zHt zDY zFM;rw[h.asks,h.place]
end
mutual
theorem LookT.tyE{p p':List It}(h:LookT p p')(env:List Fi):∀e:Ex,Proofs.YtgpajpilkapciaaGreatDoor.tyE p' env e=Proofs.YtgpajpilkapciaaGreatDoor.tyE p env e
 | .mk op i nm sd pl args pos=>by
  rw[Proofs.YtgpajpilkapciaaGreatDoor.tyE,Proofs.YtgpajpilkapciaaGreatDoor.tyE,LookT.tyEs h env args]
  cases Proofs.YtgpajpilkapciaaGreatDoor.tyEs p env args with
  |error f=>rfl
  |ok l=>simp only;rw[h.own]
theorem LookT.tyEs{p p':List It}(h:LookT p p')(env:List Fi):∀l:List Ex,Proofs.YtgpajpilkapciaaGreatDoor.tyEs p' env l=Proofs.YtgpajpilkapciaaGreatDoor.tyEs p env l
 | []=>by rw[Proofs.YtgpajpilkapciaaGreatDoor.tyEs,Proofs.YtgpajpilkapciaaGreatDoor.tyEs]
 |e::l=>by
  rw[Proofs.YtgpajpilkapciaaGreatDoor.tyEs,Proofs.YtgpajpilkapciaaGreatDoor.tyEs,LookT.tyE h env e,LookT.tyEs h env l]
end
section
variable{p p':List It}(h:LookT p p')
include h
theorem LookT.self(env:List Fi)(op:Int)(nm sd:BA)(pl:Pl)(l:List Ty):zC6 p' env op nm sd pl l=zC6 p env op nm sd pl l:=by
 unfold zC6 plT;simp only[h.place]
omit h in
theorem LookT.sts(l:List St)(hs:∀s∈l,∀env,tgS p' env s=tgS p env s):∀env,tgSs p' env l=tgSs p env l:=by
 induction l with
 |nil=>intro env;rw[tgSs,tgSs]
 |cons s l ih=>
  intro env;rw[tgSs,tgSs,hs s (by simp)]
  generalize tgS p env s=r
  obtain⟨e,o⟩:=r
  cases o with
  |some f=>rfl
  |none=>exact ih (fun y hy=>hs y (List.mem_cons_of_mem _ hy)) e
theorem LookT.ars(Ba:BA)(l:List Ar)(hs:∀a∈l,∀s∈a.body,∀env,tgS p' env s=tgS p env s):∀env,tgAs p' Ba env l=tgAs p Ba env l:=by
 induction l with
 |nil=>intro env;rw[tgAs,tgAs]
 |cons a l ih=>
  intro env
  obtain⟨v,n,b⟩:=a
  rw[tgAs,tgAs,h.pay,LookT.sts b (fun s tm=>hs ⟨v,n,b⟩ (by simp) s tm)]
  generalize tgSs p (if sEq n emS=true then env else env++[⟨n,(zAO p Ba v).getD zTy⟩]) b=r
  obtain⟨e,o⟩:=r
  cases o with
  |some f=>rfl
  |none=>exact ih (fun y hy=>hs y (List.mem_cons_of_mem _ hy)) env
theorem LookT.tgS:∀(s:St) (env:List Fi),Proofs.YtgpajpilkapciaaGreatDoor.tgS p' env s=Proofs.YtgpajpilkapciaaGreatDoor.tgS p env s:=by
 refine St.ind fun s i1 i2 i3 env=>?_
 rw[zB7,zB7,h.tyEs]
 cases Proofs.YtgpajpilkapciaaGreatDoor.tyEs p env s.u5 with
 |error f=>rfl
 |ok l=>
  have hb:=LookT.sts s.body i1
  have he:=LookT.sts s.els i2
  have ha:=h.ars s.u4 s.arms i3
  have Ua:plT p' env s.place=plT p env s.place:=by unfold plT;rw[h.place]
  simp only[h.self,h.fs,hb,he,ha,Ua]
theorem LookT.tgI(x:It):Proofs.YtgpajpilkapciaaGreatDoor.tgI p' x=Proofs.YtgpajpilkapciaaGreatDoor.tgI p x:=by
 unfold Proofs.YtgpajpilkapciaaGreatDoor.tgI;rw[LookT.sts x.body (fun s _ env=>h.tgS s env)]
 simp only[h.tyE]
end
end Go.Proofs.YtgpajpilkapciaaGreatDoor
namespace Go.Proofs.YtgpajpilkapciaaGreatDoor
open Go.RowKit
theorem zK8{p:List It}(hw:zx p=true){x:It}(hx:x∈p):∀s∈x.body,∃d,s.whole d=true:=by
 unfold zx zq at hw;simp only[Bool.and_eq_true,decide_eq_true_eq]at hw;rw[List.take_of_length_le (by omega)]at hw
 have:=List.all_eq_true.1 hw.2 x hx
 unfold It.whole at this;split at this
 .simp only[Bool.and_eq_true,decide_eq_true_eq]at this
  have hb:x.body=[]:=List.eq_nil_of_length_eq_zero this.1.2.1
  rw[hb];intro s hs;cases hs
 split at this
 .simp only[Bool.and_eq_true,List.all_eq_true]at this
  exact fun s hs=>⟨_,this.2.2.2.2.2 s hs⟩
 cases this
def qoS:BA:=(⟨#[81,117,105,116,101,79,116,104,101,114]⟩:BA)
section
variable{p:List It}(hs:∀x∈p,sEq x.name qoS=false)(hf:∀x∈p,sEq x.name zZc=false)
include hs hf
end
end Go.Proofs.YtgpajpilkapciaaGreatDoor
namespace Go.Proofs.YtgpajpilkapciaaGreatDoor
open Go.RowKit
structure Alike (x y:It):Prop where
 kind:y.kind=x.kind
 name:y.name=x.name
 fields:y.fields=x.fields
 result:y.result=x.result
 same:x.kind≠3->y=x
def zHu(e:Ex):Ex:=.mk 18 0 (⟨#[102]⟩:BA) emS ⟨emS,[]⟩ [e] 0
def zK9(e:Ex):Bool:=zCL e||(decide (e.op=5\/e.op=6)&&zCL (zHu e))
def zOm(p:List It)(env:List Fi)(e:Ex):Option Ty:=if zK9 e=true then(match tyE p env e with| .ok t=>some t| .error _=>none)else none
end Go.Proofs.YtgpajpilkapciaaGreatDoor
