/- A part of the proof. -/
import Derived.Test.YtdflkegnmmkkoaaGreatDoorWNTy
import Derived.Test.YtdflkegnmmkkoaaGreatDoorWNTp
set_option linter.unusedVariables false
set_option linter.unusedSimpArgs false
set_option maxRecDepth 100000
set_option maxHeartbeats 32000000
namespace Go.Proofs.YtdflkegnmmkkoaaGreatDoor
open Go.RowKit
abbrev zTy:Ty:=.mk 0 emS []
mutual
def eqT:Ty->Ty->Bool
 | .mk k s l,.mk k' s' l'=>(k==k')&&(sEq s s'&&eqTs l l')
def eqTs:List Ty->List Ty->Bool
 | [],[]=>true
 |t::l,u::m=>eqT t u&&eqTs l m
 |_,_=>false
end
mutual
theorem zGa:∀t u:Ty,eqT t u=true ↔ t=u
 | .mk k s l,.mk k' s' l'=>by
  rw[eqT];simp only[Bool.and_eq_true,beq_iff_eq,zDZ,zHJ l l',Ty.mk.injEq]
theorem zHJ:∀l m:List Ty,eqTs l m=true ↔ l=m
 | [],[]=>by simp[eqTs]
 |t::l,[]=>by simp[eqTs]
 | [],u::m=>by simp[eqTs]
 |t::l,u::m=>by
  rw[eqTs];simp only[Bool.and_eq_true,zGa t u,zHJ l m,List.cons.injEq]
end
def zAG(k:Int):Ty:=.mk k emS []
def inTy(k:Int)(t:Ty):Ty:=.mk k emS [t]
def copT(t:Ty):Bool:=decide (t.kind=1\/t.kind=2\/t.kind=3\/t.kind=13)
def zG1(op:Int):Int × Int:=if op=8\/op=16\/op=17 then(2,2)else if op=14\/op=15 then(1,2)else(1,1)
def zBs(op:Int):Int:=if op=21 then 5 else if op=26 then 7 else if op=27 then 8 else if op=29 then 9 else 0
def zBF(op:Int):Int × Bool:=if op=22 then(5,false)else if op=30 then(9,false)else if op=24\/op=25 then(6,true)else if op=35 then(11,true)else if op=36 then(12,true)else(0,false)
def zGb(env:List Fi)(nm:BA):Option Fi:=env.reverse.find? fun f=>sEq f.name nm
def zBf(p:List It)(env:List Fi)(x:Pl):Option (Ty × Bool):=(zGb env x.name).bind fun f=>zIt p f.type x.path
def zBn(p:List It)(k:Int)(nm:BA):List Fi × Bool:=match zb p nm with|some x=>((zBB p nm).getD [],decide (x.kind=k))|none=>([],false)
def zAQ(p:List It)(Da variant:BA):Option Ty:=if(zBn p 2 Da).2=true then((zBn p 2 Da).1.find? fun v=>sEq v.name variant).map Fi.type else none
def zKO(p:List It)(op:Int)(nm sd:BA):List Ty × Ty × Bool:=
 if op=18 then match p.find? fun x=>(x.kind==3)&&sEq x.name nm with|some x=>(x.fields.map Fi.type,x.result,true)|none=>([],zTy,false)
 else if op=19 then((zBn p 1 nm).1.map Fi.type,.mk 4 nm [],(zBn p 1 nm).2)
 else match zAQ p nm sd with|some t=>(if t.kind≠0 then [t]else [],.mk 4 nm [],true)|none=>([],.mk 4 nm [],false)
def zIE(p:List It)(op:Int)(nm sd:BA)(l:List Ty):Except Int Ty:=
 if((zKO p op nm sd).2.2&&eqTs l (zKO p op nm sd).1)=true then .ok (zKO p op nm sd).2.1 else .error 100
def zDl(p:List It)(env:List Fi)(op:Int)(pl:Pl)(l:List Ty):Except Int Ty:=
 let t:=if(zBF op).2=true then((zBf p env pl).map Prod.fst).getD zTy else l.headD zTy
 if ¬(t.kind=(zBF op).1/\t.args.length=1)then .error 100
 else if(zBF op).2=true/\l.length=1 then(if eqT (t.args.headD zTy) (l.headD zTy)=true then .ok (zAG 3)else .error 100)
 else .ok (t.args.headD zTy)
def zFe(p:List It)(env:List Fi)(op:Int)(pl:Pl)(l:List Ty):Except Int Ty:=
 match zBf p env pl with
 |none=>.error 100
 |some (t,w)=>
  if op=4 then(if copT t=true\/pl.path.length=0 then .ok t else .error 102)
  else if op=5 then .ok (inTy 13 t)
  else if op=6 then(if w=true then .ok (inTy 14 t)else .error 100)
  else if op=28 then(if t.kind=7\/t.kind=8\/t.kind=11\/t.kind=12 then .ok t else .error 100)
  else if t.kind=10/\(l.length=0\/(l.headD zTy).kind=1)then .ok (zAG (if op=33 then 3 else 1))else .error 100
def ownT(p:List It)(env:List Fi)(op:Int)(nm sd:BA)(pl:Pl)(l:List Ty):Except Int Ty:=
 if op=1\/op=2\/op=3 then .ok (zAG op)
 else if 7<=op/\op<=17 then(if(l.all fun t=>t.kind==(zG1 op).1)=true then .ok (zAG (zG1 op).2)else .error 100)
 else if op=18\/op=19\/op=20 then zIE p op nm sd l
 else if 0<zBs op then(if(l.headD zTy).owned=true then .ok (inTy (zBs op) (l.headD zTy))else .error 101)
 else if op=23 then(if(l.headD zTy).kind<=3 then .ok (inTy 6 (l.headD zTy))else .error 100)
 else if op=31 then(if(l.headD zTy).kind=1 then .ok (zAG 10)else .error 100)
 else if 0<(zBF op).1 then zDl p env op pl l
 else zFe p env op pl l
mutual
def tyE(p:List It)(env:List Fi):Ex->Except Flt Ty
 | .mk op _ nm sd pl args pos=>
  match tyEs p env args with
  | .error f=>.error f
  | .ok l=>match ownT p env op nm sd pl l with| .ok t=>.ok t| .error e=>.error (e,pos)
def tyEs(p:List It)(env:List Fi):List Ex->Except Flt (List Ty)
 | []=>.ok []
 |e::l=>match tyE p env e with
  | .error f=>.error f
  | .ok t=>match tyEs p env l with
   | .error f=>.error f
   | .ok ts=>.ok (t::ts)
end
def zCg(env:List Fi)(r:List Fi × Option Flt):List Fi × Option Flt:=match r.2 with|some f=>r|none=>(env,none)
def zCy(fs:List Fi)(nms:List BA):List Fi:=(nms.zip fs).map fun q=>⟨q.1,q.2.type⟩
def zCz(nms:List BA)(l:List Ty):List Fi:=(nms.zip l).map fun q=>⟨q.1,q.2⟩
def plT(p:List It)(env:List Fi)(x:Pl):Ty:=((zBf p env x).map Prod.fst).getD zTy
def zDH(p:List It)(env:List Fi)(op:Int)(nm sd:BA)(pl:Pl)(l:List Ty):Option Int:=
 if op=2 then(if eqT (l.headD zTy) (.mk 4 nm [])=true then none else some 100)
 else if op=3 then(match zBf p env pl with|none=>some 100|some (t,w)=>if t.owned=false then some 101 else if w=true/\eqT t (l.headD zTy)=true then none else some 100)
 else if op=6\/op=7 then(if(l.headD zTy).kind=2 then none else some 100)
 else if op=8 then(if eqT (plT p env ⟨nm,[]⟩) (.mk 4 sd [])=true then none else some 100)
 else if op=11 then(if(plT p env pl).kind=9 then none else some 100)
 else none
mutual
def tgS(p:List It):List Fi->St->List Fi × Option Flt
 |env,.mk op nm sd nms ty _ pl es body els arms pos=>
  match tyEs p env es with
  | .error f=>(env,some f)
  | .ok l=>
   match zDH p env op nm sd pl l with
   |some e=>(env,some (e,pos))
   |none=>
    if op=1 then(env++[⟨nm,l.headD zTy⟩],none)
    else if op=2 then(env++zCy ((zBB p nm).getD []) nms,none)
    else if op=3 then(env,none)
    else if op=6\/op=7 then
     match tgSs p env body with
     |(e,some f)=>(e,some f)
     |(_,none)=>zCg env (tgSs p env els)
    else if op=8 then tgAs p sd env arms
    else if op=10 then(env,(tgSs p (zCz nms l) body).2)
    else if op=11 then zCg env (tgSs p (env++[⟨nm,inTy 14 ((plT p env pl).args.headD zTy)⟩]) body)
    else if op=12 then(env++[⟨nm,inTy 11 ty⟩,⟨sd,inTy 12 ty⟩],none)
    else zCg env (tgSs p env body)
def tgSs(p:List It):List Fi->List St->List Fi × Option Flt
 |env,[]=>(env,none)
 |env,s::l=>match tgS p env s with
  |(e,some f)=>(e,some f)
  |(e,none)=>tgSs p e l
def tgAs(p:List It)(Da:BA):List Fi->List (ArOf St)->List Fi × Option Flt
 |env,[]=>(env,none)
 |env,⟨v,n,b⟩::l=>match tgSs p (if sEq n emS=true then env else env++[⟨n,(zAQ p Da v).getD zTy⟩]) b with
  |(e,some f)=>(e,some f)
  |(_,none)=>tgAs p Da env l
end
def tgI(p:List It)(x:It):Option Flt:=
 if x.kind=3 then
  match tgSs p x.fields x.body with
  |(_,some f)=>some f
  |(env,none)=>match tyE p env x.ret with
   | .error f=>some f
   | .ok t=>if eqT t x.result=true then none else some (100,x.ret.pos)
 else none
def tgC(p:List It):List Flt:=p.filterMap (tgI p)
attribute [local simp] List.replicate List.range List.range.loop
def isK(k:Int)(s:BA)(x:It):Bool:=(x.kind==k)&&sEq x.name s
def nfR(p:List It)(k:Int)(s:BA):AV:=match p.find? (isK k s)with|some x=>.tup [itV x,B true]|none=>.tup [itZ0,B false]
theorem zWL(p:List It)(hp:PrSm p)(k:Int)(s:BA)(S:ASt):ADet Tryz.prog 124 [.agg [.p (prog p)],U k,Sg s] S (nfR p k s) S:=by
 have cC:=fun S=>zWE p hp S
 have Em:p.length<=20000:=hp.1
 refine ADet.intro mixed Tryz.call124 Tryz.func124 rfl ?_;simp[Tryz.ntmps124];refine cq (cC _) ?_;simp[prog];refine zH (fun q:Nat=>q<=p.length/\∀j (h:j<p.length),j<q->isK k s p[j]=false) (fun q=>([.any,U k,Sg s,.any,.any,.any,.ptr 0 1 0,B false,.any,.any,.any,.any,.p (.sl 16 (p.map It.enc)),I p.length,I q]++List.replicate 16 .any)) (fun _=>[.cells [.p (.sl 16 (p.map It.enc))] 24,.cells [U 0,Sg emS,nilS,U 0,Sg emS,nilS,nilS,U 0,I 0,Sg emS,Sg emS,Sg emS,nilS,nilS,I 0,I 0] 45]::S) (fun q=>p.length-q) 0 ⟨Nat.zero_le _,fun j h hj=>by omega⟩ ?_ ?_ ?_
 .simp
 .simp
 rintro q ⟨hq,me⟩
 by_cases hlt:q<p.length
 .have aa:(q:Int)<(p.length:Int):=by omega
  have Ze:=zA hlt (by unfold maxLen;omega)
  have Za:isK k s p[q]=false->∀j (h:j<p.length),j<q+1->isK k s p[j]=false:=fun hx j h hj=>by
   by_cases Fm:j=q
   .subst Fm;exact hx
   exact me j h (by omega)
  have Zc:isK k s p[q]=true->p.find? (isK k s)=some p[q]:=fun hx=>by
   rw[List.find?_eq_some_iff_getElem];exact⟨hx,q,hlt,rfl,fun j hj=>by rw[me j (by omega) hj];rfl⟩
  generalize he:p[q]=x at*
  by_cases hk:x.kind=k
  .cases hs:sEq x.name s with
   |false=>
    simp[hlt,aa,It.enc,hk,hs,he]
    exact⟨q+1,⟨by omega,Za (by simp[isK,hs])⟩,by omega,Ze⟩
   |true=>
    unfold nfR;rw[Zc (by simp[isK,hk,hs])]
    simp[hlt,aa,It.enc,hk,hs,he]
  have Qb:(x.kind==k)=false:=by simpa using hk
  simp[hlt,aa,It.enc,Qb,he];exact⟨q+1,⟨by omega,Za (by simp[isK,Qb])⟩,by omega,Ze⟩
 have aa:¬(q:Int)<(p.length:Int):=by omega
 have Zc:p.find? (isK k s)=none:=by
  rw[List.find?_eq_none];intro x hx
  obtain⟨i,hi,rfl⟩:=List.getElem_of_mem hx
  rw[me i hi (by omega)]
  simp
 unfold nfR;rw[Zc];simp[aa]
end Go.Proofs.YtdflkegnmmkkoaaGreatDoor
namespace Go.Proofs.YtdflkegnmmkkoaaGreatDoor
open Go.RowKit
def okT(p:List It)(t:Ty):Prop:=t.nm p 0=[]
theorem zaS(p:List It)(t:Ty):okT p t ↔ (t.kind=4->(zb p t.name).isSome=true)/\∀u∈t.args,okT p u:=by
 unfold okT;rw[tyNm,List.append_eq_nil_iff,List.flatMap_eq_nil_iff];refine and_congr ?_ Iff.rfl;split
 .rename_i h4
  constructor
  .exact fun h _=>zC3 h
  exact fun h=>by rw[h h4];rfl
 rename_i h4
 exact⟨fun _ h=>absurd h h4,fun _=>rfl⟩
theorem zSS(p:List It)(pos:Int):∀t:Ty,t.nm p pos=[]->okT p t:=by
 refine Ty.ind fun t ih he=>?_
 rw[zaS];rw[tyNm]at he
 obtain⟨e1,e2⟩:=List.append_eq_nil_iff.1 he
 refine⟨fun h4=>by rw[if_pos h4]at e1;exact zC3 e1,fun u hu=>ih u hu (List.flatMap_eq_nil_iff.1 e2 u hu)⟩
def okIt(p:List It)(x:It):Prop:=(∀f∈x.fields,okT p f.type)/\(x.kind=3->okT p x.result)
theorem zGc(p:List It)(pos:Int):∀(l:List Fi) (met:List BA),zBA p pos met l=[]->∀f∈l,okT p f.type
 | [],met,h,f,hf=>by cases hf
 |g::l,met,h,f,hf=>by
  rw[zBA]at h
  obtain⟨_,h2⟩:=List.append_eq_nil_iff.1 h
  obtain⟨h3,h4⟩:=List.append_eq_nil_iff.1 h2
  rcases List.mem_cons.1 hf with rfl|hf
  .exact zSS p pos _ h3
  exact zGc p pos l _ h4 f hf
theorem zF4{σ τ:Nf}{n:Nat}(h:Near σ n τ)(e:τ.fl=[]):σ.fl=[]:=by
 have:=h.1
 rw[e]at this;exact List.eq_nil_of_length_eq_zero (by simpa using this)
theorem zKP(a:List Fg)(σ:Nf):(Nf.undo a σ).fl=σ.fl:=by
 induction a with
 |nil=>rfl
 |cons g a ih=>exact ih
theorem zOF{p:List It}{x:It}{fl:List Flt}(h:(zFv p x fl).fl=[]):fl=[]/\(St.nms p x.body ⟨(x.fields.map Fi.name).foldl (fun m s=>mPut m s true) [],x.fields.length,0,fl⟩).1.fl=[]/\∃m,x.ret.nm p m=[]:=by
 unfold zFv at h;simp only[zKP]at h
 obtain⟨h1,h2⟩:=List.append_eq_nil_iff.1 (show _++_=[]from h)
 exact⟨zF4 (zCD p (fun s _ σ=>zCu p s σ) _).1 h1,h1,_,h2⟩
theorem zPb{p:List It}{x:It}(h:zCt p 0 x []=[]):okIt p x/\(x.kind=3->∃fl,(St.nms p x.body ⟨(x.fields.map Fi.name).foldl (fun m s=>mPut m s true) [],x.fields.length,0,fl⟩).1.fl=[]/\∃m,x.ret.nm p m=[]):=by
 unfold zCt at h;simp only at h;split at h
 .rename_i h3
  obtain⟨h1,_⟩:=List.append_eq_nil_iff.1 h
  obtain⟨e1,e2,e3⟩:=zOF h1
  obtain⟨e4,e5⟩:=List.append_eq_nil_iff.1 e1
  obtain⟨_,e6⟩:=List.append_eq_nil_iff.1 e4
  exact⟨⟨zGc p _ _ _ e6,fun _=>zSS p _ _ e5⟩,fun _=>⟨_,e2,e3⟩⟩
 rename_i h3
 obtain⟨_,e6⟩:=List.append_eq_nil_iff.1 h
 exact⟨⟨zGc p _ _ _ e6,fun h=>absurd h h3⟩,fun h=>absurd h h3⟩
section
variable{p p':List It}(h:MonoL p p')(hr:∀x∈p,okIt p x)
include h hr
omit hr in
omit h in
omit h in
omit h hr in
theorem zaT(p:List It)(nm:BA):(p.find? fun x=>(x.kind==3)&&sEq x.name nm)=fnIt p nm:=by
 unfold fnIt
 congr 1
end
end Go.Proofs.YtdflkegnmmkkoaaGreatDoor
namespace Go.Proofs.YtdflkegnmmkkoaaGreatDoor
open Go.RowKit
theorem zCF(p:List It)(env:List Fi)(s:St):tgS p env s=
  match tyEs p env s.u3 with
  | .error f=>(env,some f)
  | .ok l=>
   match zDH p env s.op s.name s.u2 s.place l with
   |some e=>(env,some (e,s.pos))
   |none=>
    if s.op=1 then(env++[⟨s.name,l.headD zTy⟩],none)
    else if s.op=2 then(env++zCy ((zBB p s.name).getD []) s.names,none)
    else if s.op=3 then(env,none)
    else if s.op=6\/s.op=7 then
     match tgSs p env s.body with
     |(e,some f)=>(e,some f)
     |(_,none)=>zCg env (tgSs p env s.els)
    else if s.op=8 then tgAs p s.u2 env s.arms
    else if s.op=10 then(env,(tgSs p (zCz s.names l) s.body).2)
    else if s.op=11 then zCg env (tgSs p (env++[⟨s.name,inTy 14 ((plT p env s.place).args.headD zTy)⟩]) s.body)
    else if s.op=12 then(env++[⟨s.name,inTy 11 s.type⟩,⟨s.u2,inTy 12 s.type⟩],none)
    else zCg env (tgSs p env s.body):=by
 cases s;rw[tgS]<;>rfl
section
variable{p p':List It}(h:MonoL p p')(hr:∀x∈p,okIt p x)
include hr in
include h hr
end
end Go.Proofs.YtdflkegnmmkkoaaGreatDoor
namespace Go.Proofs.YtdflkegnmmkkoaaGreatDoor
open Go.RowKit
structure LookT (p p':List It):Prop where
 it:∀s,(zb p' s).map (fun x=>(x.kind,x.fields))=(zb p s).map fun x=>(x.kind,x.fields)
 fn:∀s,(fnIt p' s).map (fun x=>(x.fields,x.result))=(fnIt p s).map fun x=>(x.fields,x.result)
theorem zEk{α β:Type}{f:α->β}{a b:Option α}(h:a.map f=b.map f):(a=none/\b=none)\/∃x y,a=some x/\b=some y/\f x=f y:=by
 cases a with
 |none=>cases b with
  |none=>exact .inl ⟨rfl,rfl⟩
  |some y=>cases h
 |some x=>cases b with
  |none=>cases h
  |some y=>exact .inr ⟨x,y,rfl,rfl,Option.some.inj h⟩
section
variable{p p':List It}(h:LookT p p')
include h
theorem LookT.st(s:BA):zB6 p' s=zB6 p s:=by
 unfold zB6
 rcases zEk (h.it s)with⟨h1,h2⟩|⟨x,y,h1,h2,e⟩
 .rw[h1,h2]
 rw[h1,h2]
 obtain⟨e1,e2⟩:=Prod.mk.inj e
 simp only[e1,e2]
theorem LookT.fs(s:BA):zBB p' s=zBB p s:=by
 unfold zBB
 rcases zEk (h.it s)with⟨h1,h2⟩|⟨x,y,h1,h2,e⟩
 .rw[h1,h2]
 rw[h1,h2]
 obtain⟨e1,e2⟩:=Prod.mk.inj e
 simp only[e1,e2]
theorem LookT.step(t:Ty)(s:BA):zFK p' t s=zFK p t s:=by unfold zFK;rw[h.st]
theorem LookT.walkF:∀(l:List BA) (t:Ty) (w:Bool),walkF p' l t w=walkF p l t w
 | [],t,w=>rfl
 |s::l,t,w=>by
  rw[Proofs.YtdflkegnmmkkoaaGreatDoor.walkF,Proofs.YtdflkegnmmkkoaaGreatDoor.walkF,h.step]
  cases zFK p t s with
  |none=>rfl
  |some r=>exact LookT.walkF l _ _
theorem LookT.walk(t:Ty)(l:List BA):zIt p' t l=zIt p t l:=by unfold zIt;rw[h.walkF]
theorem LookT.place(env:List Fi)(x:Pl):zBf p' env x=zBf p env x:=by
 unfold zBf
 congr 1
 funext f
 exact h.walk _ _
theorem LookT.fk(k:Int)(s:BA):zBn p' k s=zBn p k s:=by
 unfold zBn;rw[h.fs]
 rcases zEk (h.it s)with⟨h1,h2⟩|⟨x,y,h1,h2,e⟩
 .rw[h1,h2]
 rw[h1,h2]
 obtain⟨e1,e2⟩:=Prod.mk.inj e
 simp only[e1]
theorem LookT.pay(a b:BA):zAQ p' a b=zAQ p a b:=by unfold zAQ;rw[h.fk]
theorem LookT.asks(op:Int)(nm sd:BA):zKO p' op nm sd=zKO p op nm sd:=by
 unfold zKO;rw[h.pay,h.fk,zaT,zaT]
 rcases zEk (h.fn nm)with⟨h1,h2⟩|⟨x,y,h1,h2,e⟩
 .rw[h1,h2]
 rw[h1,h2]
 obtain⟨e1,e2⟩:=Prod.mk.inj e
 simp only[e1,e2]
theorem LookT.own(env:List Fi)(op:Int)(nm sd:BA)(pl:Pl)(l:List Ty):ownT p' env op nm sd pl l=ownT p env op nm sd pl l:=by
 unfold ownT zIE zDl zFe;rw[h.asks,h.place]
end
mutual
theorem LookT.tyE{p p':List It}(h:LookT p p')(env:List Fi):∀e:Ex,Proofs.YtdflkegnmmkkoaaGreatDoor.tyE p' env e=Proofs.YtdflkegnmmkkoaaGreatDoor.tyE p env e
 | .mk op i nm sd pl args pos=>by
  rw[Proofs.YtdflkegnmmkkoaaGreatDoor.tyE,Proofs.YtdflkegnmmkkoaaGreatDoor.tyE,LookT.tyEs h env args]
  cases Proofs.YtdflkegnmmkkoaaGreatDoor.tyEs p env args with
  |error f=>rfl
  |ok l=>simp only;rw[h.own]
theorem LookT.tyEs{p p':List It}(h:LookT p p')(env:List Fi):∀l:List Ex,Proofs.YtdflkegnmmkkoaaGreatDoor.tyEs p' env l=Proofs.YtdflkegnmmkkoaaGreatDoor.tyEs p env l
 | []=>by rw[Proofs.YtdflkegnmmkkoaaGreatDoor.tyEs,Proofs.YtdflkegnmmkkoaaGreatDoor.tyEs]
 |e::l=>by
  rw[Proofs.YtdflkegnmmkkoaaGreatDoor.tyEs,Proofs.YtdflkegnmmkkoaaGreatDoor.tyEs,LookT.tyE h env e,LookT.tyEs h env l]
end
section
variable{p p':List It}(h:LookT p p')
include h
theorem LookT.self(env:List Fi)(op:Int)(nm sd:BA)(pl:Pl)(l:List Ty):zDH p' env op nm sd pl l=zDH p env op nm sd pl l:=by
 unfold zDH plT;simp only[h.place]
omit h in
theorem LookT.sts(l:List St)(hs:∀s∈l,∀env,tgS p' env s=tgS p env s):∀env,tgSs p' env l=tgSs p env l:=by
 induction l with
 |nil=>intro env;rw[tgSs,tgSs]
 |cons s l ih=>
  intro env;rw[tgSs,tgSs,hs s (by simp)]
  generalize tgS p env s=r
  obtain⟨e,o⟩:=r
  cases o with
  |some f=>rfl
  |none=>exact ih (fun y hy=>hs y (List.mem_cons_of_mem _ hy)) e
theorem LookT.ars(Da:BA)(l:List Ar)(hs:∀a∈l,∀s∈a.body,∀env,tgS p' env s=tgS p env s):∀env,tgAs p' Da env l=tgAs p Da env l:=by
 induction l with
 |nil=>intro env;rw[tgAs,tgAs]
 |cons a l ih=>
  intro env
  obtain⟨v,n,b⟩:=a
  rw[tgAs,tgAs,h.pay,LookT.sts b (fun s vd=>hs ⟨v,n,b⟩ (by simp) s vd)]
  generalize tgSs p (if sEq n emS=true then env else env++[⟨n,(zAQ p Da v).getD zTy⟩]) b=r
  obtain⟨e,o⟩:=r
  cases o with
  |some f=>rfl
  |none=>exact ih (fun y hy=>hs y (List.mem_cons_of_mem _ hy)) env
theorem LookT.tgS:∀(s:St) (env:List Fi),Proofs.YtdflkegnmmkkoaaGreatDoor.tgS p' env s=Proofs.YtdflkegnmmkkoaaGreatDoor.tgS p env s:=by
 refine St.ind fun s i1 i2 i3 env=>?_
 rw[zCF,zCF,h.tyEs]
 cases Proofs.YtdflkegnmmkkoaaGreatDoor.tyEs p env s.u3 with
 |error f=>rfl
 |ok l=>
  have hb:=LookT.sts s.body i1
  have he:=LookT.sts s.els i2
  have ha:=h.ars s.u2 s.arms i3
  have Na:plT p' env s.place=plT p env s.place:=by unfold plT;rw[h.place]
  simp only[h.self,h.fs,hb,he,ha,Na]
theorem LookT.tgI(x:It):Proofs.YtdflkegnmmkkoaaGreatDoor.tgI p' x=Proofs.YtdflkegnmmkkoaaGreatDoor.tgI p x:=by
 unfold Proofs.YtdflkegnmmkkoaaGreatDoor.tgI;rw[LookT.sts x.body (fun s _ env=>h.tgS s env)]
 simp only[h.tyE]
end
end Go.Proofs.YtdflkegnmmkkoaaGreatDoor
namespace Go.Proofs.YtdflkegnmmkkoaaGreatDoor
open Go.RowKit
theorem zJR(p:List It)(nm:BA)(n:Nat)(Wa:List BA):zBy p nm n [] Wa=some (false,Wa):=by cases n<;>rfl
theorem zIF{p p':List It}(h:∀s,(zb p' s).map It.fields=(zb p s).map It.fields)(nm:BA):∀(n:Nat) (fs:List Fi) (Wa:List BA),zBy p' nm n fs Wa=zBy p nm n fs Wa
 |n,[],Wa=>by rw[zJR,zJR]
 |0,f::fs,Wa=>rfl
 |n+1,f::fs,Wa=>by
  rw[zBy,zBy]
  rcases zEk (h f.type.name)with⟨h1,h2⟩|⟨x,y,h1,h2,e⟩
  .rw[h1,h2]
   simp only[zIF h nm n fs]
  rw[h1,h2]
  simp only[zIF h nm n,e]
theorem zLh{p:List It}(hw:zAF p=true){x:It}(hx:x∈p):∀s∈x.body,∃d,s.whole d=true:=by
 unfold zAF zt at hw;simp only[Bool.and_eq_true,decide_eq_true_eq]at hw;rw[List.take_of_length_le (by omega)]at hw
 have:=List.all_eq_true.1 hw.2 x hx
 unfold It.whole at this;split at this
 .simp only[Bool.and_eq_true,decide_eq_true_eq]at this
  have hb:x.body=[]:=List.eq_nil_of_length_eq_zero this.1.2.1
  rw[hb];intro s hs;cases hs
 split at this
 .simp only[Bool.and_eq_true,List.all_eq_true]at this
  exact fun s hs=>⟨_,this.2.2.2.2.2 s hs⟩
 cases this
def qoS:BA:=(⟨#[81,117,105,116,101,79,116,104,101,114]⟩:BA)
section
variable{p:List It}(hs:∀x∈p,sEq x.name qoS=false)(hf:∀x∈p,sEq x.name zaR=false)
include hs hf
end
end Go.Proofs.YtdflkegnmmkkoaaGreatDoor
namespace Go.Proofs.YtdflkegnmmkkoaaGreatDoor
open Go.RowKit
variable{p:List It}{x:It}
def unE:Ex:=.mk 3 0 emS emS ⟨emS,[]⟩ [] 0
def whS:St:=.mk 7 emS emS [] (.mk 0 emS []) 0 ⟨emS,[]⟩ [unE] [] [] [] 0
def zB2(x:It):It:=⟨x.kind,x.name,x.fields,x.result,[whS],unE,x.pos⟩
def zBE(w:Nat):Nat->List It->List It
 |_,[]=>[]
 |i,y::l=>(if i≠w/\y.kind=3 then zB2 y else y)::zBE w (i+1) l
structure Alike (x y:It):Prop where
 kind:y.kind=x.kind
 name:y.name=x.name
 fields:y.fields=x.fields
 result:y.result=x.result
 same:x.kind≠3->y=x
theorem zLi(w i:Nat)(x:It):Alike x (if i≠w/\x.kind=3 then zB2 x else x):=by
 split
 .rename_i h
  exact⟨rfl,rfl,rfl,rfl,fun h'=>absurd h.2 h'⟩
 exact⟨rfl,rfl,rfl,rfl,fun _=>rfl⟩
theorem zDm{β:Type}(g:It->Bool)(key:It->β)(hg:∀x y,Alike x y->g y=g x)(hk:∀x y,Alike x y->g x=true->key y=key x)(w:Nat):∀(l:List It) (i:Nat),((zBE w i l).find? g).map key=(l.find? g).map key
 | [],i=>rfl
 |x::l,i=>by
  have ha:=zLi w i x
  rw[zBE,List.find?_cons,List.find?_cons,hg _ _ ha]
  cases hx:g x with
  |true=>simp only[Option.map_some,hk _ _ ha hx]
  |false=>exact zDm g key hg hk w l (i+1)
theorem zDn(w:Nat):∀(l:List It) (i:Nat) (z:It),z∈zBE w i l->∃y∈l,z=y\/(y.kind=3/\z=zB2 y)
 | [],i,z,h=>by cases h
 |x::l,i,z,h=>by
  rw[zBE]at h
  rcases List.mem_cons.1 h with h|h
  .refine⟨x,by simp,?_⟩
   split at h
   .rename_i hc;exact .inr ⟨hc.2,h⟩
   exact .inl h
  obtain⟨y,hy,e⟩:=zDn w l (i+1) z h
  exact⟨y,List.mem_cons_of_mem _ hy,e⟩
theorem zIG(w:Nat):∀(l:List It) (i:Nat),(zBE w i l).length=l.length
 | [],i=>rfl
 |x::l,i=>by rw[zBE,List.length_cons,List.length_cons,zIG w l]
theorem zPc(w:Nat)(p:List It):LookT p (zBE w 0 p):=by
 refine⟨fun s=>?_,fun s=>?_⟩
 .exact zDm _ _ (fun x y h=>by rw[h.kind,h.name]) (fun x y h _=>by rw[h.kind,h.fields]) w p 0
 exact zDm _ _ (fun x y h=>by rw[h.kind,h.name]) (fun x y h _=>by rw[h.fields,h.result]) w p 0
theorem zJS(w:Nat)(p:List It):SameL p (zBE w 0 p):=by
 refine⟨fun s=>?_,fun s=>?_⟩
 .exact(zDm _ keyF (fun x y h=>by rw[h.kind,h.name]) (fun x y h _=>by unfold keyF;rw[h.fields,h.result]) w p 0).symm
 have:=zDm (fun x=>(decide (x.kind≠3))&&sEq x.name s) id (fun x y h=>by rw[h.kind,h.name]) (fun x y h hx=>by
  simp only[Bool.and_eq_true,decide_eq_true_eq]at hx;exact h.same hx.1) w p 0
 simp only[Option.map_id]at this;exact this.symm
theorem zVN:unE.whole 38=true:=by kernel_rfl
theorem zVO:whS.whole 38=true:=by kernel_rfl
theorem zPd(h3:x.kind=3)(h:x.whole 39=true):(zB2 x).whole 39=true:=by
 unfold It.whole at h ⊢
 have e1:(zB2 x).kind=x.kind:=rfl
 have e2:(zB2 x).name=x.name:=rfl
 have e3:(zB2 x).fields=x.fields:=rfl
 have e4:(zB2 x).result=x.result:=rfl
 have e5:(zB2 x).body=[whS]:=rfl
 have e6:(zB2 x).ret=unE:=rfl
 rw[e1,e2,e3,e4,e5,e6]
 have xd:¬(x.kind=1\/x.kind=2):=by omega
 rw[if_neg xd,if_pos h3]at h ⊢;simp only[Bool.and_eq_true]at h ⊢;refine⟨h.1,h.2.1,h.2.2.1,by decide,zVN,?_⟩
 rw[List.all_cons,List.all_nil,Bool.and_true];exact zVO
theorem zPe(p:List It)(h3:x.kind=3)(h:zCt p 0 x []=[]):zCt p 0 (zB2 x) []=[]:=by
 unfold zCt at h ⊢;simp only[zJQ,Bool.not_false,zED,List.append_nil,List.nil_append]at h ⊢
 have e1:(zB2 x).kind=x.kind:=rfl
 have e2:(zB2 x).pos=x.pos:=rfl
 have e3:(zB2 x).fields=x.fields:=rfl
 have e4:(zB2 x).result=x.result:=rfl
 rw[e1,e2,e3,e4];rw[if_pos h3]at h ⊢
 obtain⟨h1,h2⟩:=List.append_eq_nil_iff.1 h
 obtain⟨k1,k2,_⟩:=zOF h1
 have hc:x.fields.length<=60:=by
  have:=zC3 h2
  simp only[decide_eq_true_eq]at this;unfold zFv at this;simp only at this
  have hu:∀(a:List Fg) (σ:Nf),(Nf.undo a σ).count=σ.count:=fun a σ=>by
   induction a with
   |nil=>rfl
   |cons g a ih=>exact ih
  rw[hu]at this
  have hN:=(zCD p (fun s _ σ=>zCu p s σ) (l:=x.body) ⟨(x.fields.map Fi.name).foldl (fun m s=>mPut m s true) [],x.fields.length,0,zBA p x.pos [] x.fields++x.result.nm p x.pos⟩).1
  have:=hN.2.2.1
  simp only[Nf.add]at*;omega
 have e6:sEq emS emS=true:=zDZ.2 rfl
 rw[k1];unfold zFv
 have e7:(zB2 x).body=[whS]:=rfl
 have e8:(zB2 x).ret=unE:=rfl
 rw[e3,e7,e8]
 have hb:∀σ:Nf,(whS.nm p σ)=(σ.add [],[]):=fun σ=>by
  rw[stNm];simp[whS,unE,St.op,St.u3,St.body,St.els,zAB,St.nms,Nf.mkS,Nf.undo,exNm,zDG,e6,zED,Ex.op,Ex.place,Ex.args,Ex.name,Ex.u2,Ex.pos,Nf.add]
 simp only[St.nms,hb,Nf.undo,Nf.add,List.append_nil,List.nil_append];simp[unE,Ex.nm,Ex.nms,zDG,e6,zED,hc]
theorem zIH(w:Nat)(e:zBM p=[]):zBM (zBE w 0 p)=[]:=by
 obtain⟨hw,h1,h2,h3⟩:=(zEj p).1 e
 have hs:=zJS w p
 refine(zEj _).2 ⟨?_,?_,fun z hz=>?_,by rw[<-zVI hs];exact h3⟩
 .unfold zAF zt at hw ⊢
  simp only[Bool.and_eq_true,decide_eq_true_eq]at hw ⊢;rw[List.take_of_length_le (by omega)]at hw
  have hl:=zIG w p 0
  rw[List.take_of_length_le (by omega)]
  refine⟨by omega,?_⟩
  rw[List.all_eq_true]at hw ⊢;intro z hz
  obtain⟨y,hy,e⟩:=zDn w p 0 z hz
  rcases e with rfl|⟨k3,rfl⟩
  .exact hw.2 _ hy
  exact zPd k3 (hw.2 y hy)
 .have key:∀(l:List It) (i:Nat),(l.Pairwise fun y x=>zMs y x=false)->(zBE w i l).Pairwise fun y x=>zMs y x=false:=by
   intro l
   induction l with
   |nil=>intro i _;rw[zBE];exact List.Pairwise.nil
   |cons x l ih=>
    intro i hp
    obtain⟨a1,a2⟩:=List.pairwise_cons.1 hp
    rw[zBE,List.pairwise_cons];refine⟨fun z hz=>?_,ih _ a2⟩
    obtain⟨y,hy,e⟩:=zDn w l (i+1) z hz
    have hA:=zLi w i x
    have hc:=a1 y hy
    have Yf:z.kind=y.kind/\z.name=y.name:=by
     rcases e with rfl|⟨_,rfl⟩
     .exact⟨rfl,rfl⟩
     exact⟨rfl,rfl⟩
    unfold zMs at hc ⊢;rw[hA.kind,hA.name,Yf.1,Yf.2];exact hc
  exact key p 0 h1
 obtain⟨y,hy,e⟩:=zDn w p 0 z hz
 rw[<-zVM hs]
 rcases e with rfl|⟨k3,rfl⟩
 .exact h2 _ hy
 exact zPe p k3 (h2 y hy)
theorem zST{p:List It}{n:Nat}:∀{l:List It},(∀z∈l,z.tabs p n=some [])->zD7 p n l=some []
 | [],h=>rfl
 |x::l,h=>by
  rw[zD7,h x (by simp),zST fun z hz=>h z (List.mem_cons_of_mem _ hz)]
  rfl
theorem zPf(w:Nat)(e:zBM p=[])(ht:zFO p 300=some []):zFO (zBE w 0 p) 300=some []:=by
 obtain⟨hw,_⟩:=(zEj _).1 (zIH w e)
 obtain⟨Qc,_⟩:=(zEj p).1 e
 unfold zFO at ht ⊢;rw[if_pos Qc]at ht;rw[if_pos hw]
 obtain⟨e1,ia⟩:=zFd ht
 have hy:∀y∈p,y.tabs p 300=some []:=fun y hy=>by
  rw[ia y hy,List.flatMap_eq_nil_iff.1 e1.symm y hy]
 have hs:=zJS w p
 have hf:∀s,(zb (zBE w 0 p) s).map It.fields=(zb p s).map It.fields:=fun s=>by rw[hs.it]
 refine zST fun z hz=>?_
 obtain⟨y,Jt,e⟩:=zDn w p 0 z hz
 have h0:=hy y Jt
 rcases e with rfl|⟨k3,rfl⟩
 .unfold It.tabs at h0 ⊢
  rw[zIF hf];exact h0
 unfold It.tabs at h0 ⊢
 simp only at h0 ⊢;rw[if_pos k3]at h0;rw[if_pos (show(zB2 y).kind=3 from k3)]
 obtain⟨b1,b2⟩:=List.append_eq_nil_iff.1 (Option.some.inj h0)
 obtain⟨b3,b4⟩:=List.append_eq_nil_iff.1 b2
 have c1:(zB2 y).fields.flatMap (fun f=>zI (f.type.stands&&(((zB2 y).kind==3)||f.type.owned)) 70 (zB2 y).pos)=[]:=b1
 have c2:zI ((zB2 y).result.stands&&(zB2 y).result.owned) 70 (zB2 y).pos=[]:=b3
 rw[c1,c2];rfl
theorem zPg(p:List It)(h3:x.kind=3):tgI p (zB2 x)=some (100,0):=by
 unfold tgI;rw[if_pos (show(zB2 x).kind=3 from h3),show(zB2 x).body=[whS]from rfl]
 have e1:∀env,ownT p env 3 emS emS ⟨emS,[]⟩ []= .ok (zAG 3):=fun env=>by unfold ownT;rw[if_pos (by decide)]
 have e2:∀env,tyE p env unE= .ok (zAG 3):=fun env=>by
  unfold unE;simp only[tyE,tyEs,e1]
 have e3:tgS p (zB2 x).fields whS=((zB2 x).fields,some (100,0)):=by
  unfold whS;simp only[tgS,tyEs,e2];rfl
 simp only[tgSs,e3]
def zAs(w:Nat):Nat->List It->Nat
 |_,[]=>0
 |i,y::l=>(if i≠w/\y.kind=3 then 1 else 0)+zAs w (i+1) l
theorem zII(w:Nat)(p':List It):∀(l:List It) (i:Nat),((zBE w i l).filterMap (tgI p')).length=zAs w i l+(if i<=w then((l[w-i]?).bind (tgI p')).toList.length else 0)
 | [],i=>by simp[zBE,zAs]
 |x::l,i=>by
  rw[zBE,zAs,List.filterMap_cons]
  have ih:=zII w p' l (i+1)
  by_cases hi:i=w
  .subst hi
   rw[if_neg (by omega),if_neg (by omega),if_pos (Nat.le_refl _),Nat.sub_self]
   rw[if_neg (by omega)]at ih
   simp only[List.getElem?_cons_zero,Option.bind_some]
   cases tgI p' x with
   |none=>simp[ih]
   |some f=>simp[ih]
  have hn:(if i<=w then(((x::l)[w-i]?).bind (tgI p')).toList.length else 0)=(if i+1<=w then((l[w-(i+1)]?).bind (tgI p')).toList.length else 0):=by
   by_cases hl:i<=w
   .have e:w-i=(w-(i+1))+1:=by omega
    rw[if_pos hl,if_pos (by omega),e,List.getElem?_cons_succ]
   rw[if_neg hl,if_neg (by omega)]
  rw[hn]
  by_cases h3:x.kind=3
  .rw[if_pos ⟨hi,h3⟩,if_pos ⟨hi,h3⟩,zPg p' h3]
   simp only[List.length_cons,ih];omega
  rw[if_neg fun h=>h3 h.2,if_neg fun h=>h3 h.2]
  have:tgI p' x=none:=by unfold tgI;rw[if_neg h3]
  rw[this];simp only[ih];omega
def zIu(p:List It)(x:It):Bool:=match tyE p x.fields x.ret with| .ok t=>eqT t x.result| .error _=>false
theorem zPh(p:List It)(h3:x.kind=3)(hb:x.body=[]):(tgI p x).toList.length=if zIu p x=true then 0 else 1:=by
 unfold tgI zIu;rw[if_pos h3,hb];simp only[tgSs]
 cases tyE p x.fields x.ret with
 |error f=>rfl
 |ok t=>
  simp only
  by_cases h:eqT t x.result=true
  .rw[if_pos h,if_pos h];rfl
  rw[if_neg h,if_neg h];rfl
theorem zLj{w:Nat}(hx:p[w]? =some x)(h3:x.kind=3)(hb:x.body=[]):(tgC (zBE w 0 p)).length=zAs w 0 p+(if zIu p x=true then 0 else 1):=by
 unfold tgC;rw[zII,if_pos (Nat.zero_le _),Nat.sub_zero,hx,Option.bind_some,(zPc w p).tgI,zPh p h3 hb]
def zIJ(e:Ex):Ex:=.mk 18 0 (⟨#[102]⟩:BA) emS ⟨emS,[]⟩ [e] 0
def zKQ(e:Ex):Bool:=zBp e||(decide (e.op=5\/e.op=6)&&zBp (zIJ e))
def zPi(p:List It)(env:List Fi)(e:Ex):Option Ty:=if zKQ e=true then(match tyE p env e with| .ok t=>some t| .error _=>none)else none
theorem zPj:∀(e:Ex) (d d':Int),d<=d'->e.whole d=true->e.whole d'=true:=by
 refine Ex.ind fun e ih d d' hd h=>?_
 rw[zE2]at h ⊢
 by_cases hl:(e.args.length:Int)<=shM e.op
 .rw[zBx hl]at h ⊢
  simp only[Bool.and_eq_true,decide_eq_true_eq,List.all_eq_true]at h ⊢
  obtain⟨h0,h1,h3⟩:=h
  exact⟨by omega,h1,fun x hx=>⟨(h3 x hx).1,ih x hx (d-1) (d'-1) (by omega) (h3 x hx).2⟩⟩
 simp[zt,hl]at h
theorem zMt{env:List Fi}{e:Ex}(h:zBp e=true):zPi p env e=match tyE p env e with| .ok t=>some t| .error _=>none:=by
 unfold zPi zKQ;rw[h,Bool.true_or,if_pos rfl]
end Go.Proofs.YtdflkegnmmkkoaaGreatDoor
