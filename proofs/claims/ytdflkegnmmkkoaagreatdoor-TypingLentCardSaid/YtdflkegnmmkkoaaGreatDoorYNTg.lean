/- A part of the proof. -/
import Derived.Test.YtdflkegnmmkkoaaGreatDoorYNTy
import Derived.Test.YtdflkegnmmkkoaaGreatDoorYNTp
set_option linter.unusedVariables false
set_option linter.unusedSimpArgs false
set_option maxRecDepth 100000
set_option maxHeartbeats 32000000
namespace Go.Proofs.YtdflkegnmmkkoaaGreatDoor
open Go.RowKit
variable{env:List Fi}{p:List It}{t:Ty}
abbrev zTy:Ty:=.mk 0 emS []
mutual
def eqT:Ty->Ty->Bool
 | .mk k s l,.mk k' s' l'=>(k==k')&&(sEq s s'&&eqTs l l')
def eqTs:List Ty->List Ty->Bool
 | [],[]=>true
 |t::l,u::m=>eqT t u&&eqTs l m
 |_,_=>false
end
mutual
theorem zDn:∀t u:Ty,eqT t u=true ↔ t=u
 | .mk k s l,.mk k' s' l'=>by
  rw[eqT];simp only[Bool.and_eq_true,beq_iff_eq,zDk,zHf l l',Ty.mk.injEq]
theorem zHf:∀l m:List Ty,eqTs l m=true ↔ l=m
 | [],[]=>by simp[eqTs]
 |t::l,[]=>by simp[eqTs]
 | [],u::m=>by simp[eqTs]
 |t::l,u::m=>by
  rw[eqTs];simp only[Bool.and_eq_true,zDn t u,zHf l m,List.cons.injEq]
end
def zAE(k:Int):Ty:=.mk k emS []
def inTy(k:Int)(t:Ty):Ty:=.mk k emS [t]
def copT(t:Ty):Bool:=decide (t.kind=1\/t.kind=2\/t.kind=3\/t.kind=13)
def zGp(op:Int):Int × Int:=if op=8\/op=16\/op=17 then(2,2)else if op=14\/op=15 then(1,2)else(1,1)
def zAa(op:Int):Int:=if op=21 then 5 else if op=26 then 7 else if op=27 then 8 else if op=29 then 9 else 0
def zAR(op:Int):Int × Bool:=if op=22 then(5,false)else if op=30 then(9,false)else if op=24\/op=25 then(6,true)else if op=35 then(11,true)else if op=36 then(12,true)else(0,false)
def zFr(env:List Fi)(nm:BA):Option Fi:=env.reverse.find? fun f=>sEq f.name nm
def zAS(p:List It)(env:List Fi)(x:Pl):Option (Ty × Bool):=(zFr env x.name).bind fun f=>zIT p f.type x.path
def zBs(p:List It)(k:Int)(nm:BA):List Fi × Bool:=match zg p nm with|some x=>((zBH p nm).getD [],decide (x.kind=k))|none=>([],false)
def zAT(p:List It)(Ca variant:BA):Option Ty:=if(zBs p 2 Ca).2=true then((zBs p 2 Ca).1.find? fun v=>sEq v.name variant).map Fi.type else none
def zIW(p:List It)(op:Int)(nm sd:BA):List Ty × Ty × Bool:=
 if op=18 then match p.find? fun x=>(x.kind==3)&&sEq x.name nm with|some x=>(x.fields.map Fi.type,x.result,true)|none=>([],zTy,false)
 else if op=19 then((zBs p 1 nm).1.map Fi.type,.mk 4 nm [],(zBs p 1 nm).2)
 else match zAT p nm sd with|some t=>(if t.kind≠0 then [t]else [],.mk 4 nm [],true)|none=>([],.mk 4 nm [],false)
def zHC(p:List It)(op:Int)(nm sd:BA)(l:List Ty):Except Int Ty:=
 if((zIW p op nm sd).2.2&&eqTs l (zIW p op nm sd).1)=true then .ok (zIW p op nm sd).2.1 else .error 100
def zDO(p:List It)(env:List Fi)(op:Int)(pl:Pl)(l:List Ty):Except Int Ty:=
 let t:=if(zAR op).2=true then((zAS p env pl).map Prod.fst).getD zTy else l.headD zTy
 if ¬(t.kind=(zAR op).1/\t.args.length=1)then .error 100
 else if(zAR op).2=true/\l.length=1 then(if eqT (t.args.headD zTy) (l.headD zTy)=true then .ok (zAE 3)else .error 100)
 else .ok (t.args.headD zTy)
def zCa(p:List It)(env:List Fi)(op:Int)(pl:Pl)(l:List Ty):Except Int Ty:=
 match zAS p env pl with
 |none=>.error 100
 |some (t,w)=>
  if op=4 then(if copT t=true\/pl.path.length=0 then .ok t else .error 102)
  else if op=5 then .ok (inTy 13 t)
  else if op=6 then(if w=true then .ok (inTy 14 t)else .error 100)
  else if op=28 then(if t.kind=7\/t.kind=8\/t.kind=11\/t.kind=12 then .ok t else .error 100)
  else if t.kind=10/\(l.length=0\/(l.headD zTy).kind=1)then .ok (zAE (if op=33 then 3 else 1))else .error 100
def ownT(p:List It)(env:List Fi)(op:Int)(nm sd:BA)(pl:Pl)(l:List Ty):Except Int Ty:=
 if op=1\/op=2\/op=3 then .ok (zAE op)
 else if 7<=op/\op<=17 then(if(l.all fun t=>t.kind==(zGp op).1)=true then .ok (zAE (zGp op).2)else .error 100)
 else if op=18\/op=19\/op=20 then zHC p op nm sd l
 else if 0<zAa op then(if(l.headD zTy).owned=true then .ok (inTy (zAa op) (l.headD zTy))else .error 101)
 else if op=23 then(if(l.headD zTy).kind<=3 then .ok (inTy 6 (l.headD zTy))else .error 100)
 else if op=31 then(if(l.headD zTy).kind=1 then .ok (zAE 10)else .error 100)
 else if 0<(zAR op).1 then zDO p env op pl l
 else zCa p env op pl l
mutual
def tyE(p:List It)(env:List Fi):Ex->Except Flt Ty
 | .mk op _ nm sd pl args pos=>
  match tyEs p env args with
  | .error f=>.error f
  | .ok l=>match ownT p env op nm sd pl l with| .ok t=>.ok t| .error e=>.error (e,pos)
def tyEs(p:List It)(env:List Fi):List Ex->Except Flt (List Ty)
 | []=>.ok []
 |e::l=>match tyE p env e with
  | .error f=>.error f
  | .ok t=>match tyEs p env l with
   | .error f=>.error f
   | .ok ts=>.ok (t::ts)
end
def zCk(env:List Fi)(r:List Fi × Option Flt):List Fi × Option Flt:=match r.2 with|some f=>r|none=>(env,none)
def zC3(fs:List Fi)(nms:List BA):List Fi:=(nms.zip fs).map fun q=>⟨q.1,q.2.type⟩
def zC4(nms:List BA)(l:List Ty):List Fi:=(nms.zip l).map fun q=>⟨q.1,q.2⟩
def plT(p:List It)(env:List Fi)(x:Pl):Ty:=((zAS p env x).map Prod.fst).getD zTy
def zDP(p:List It)(env:List Fi)(op:Int)(nm sd:BA)(pl:Pl)(l:List Ty):Option Int:=
 if op=2 then(if eqT (l.headD zTy) (.mk 4 nm [])=true then none else some 100)
 else if op=3 then(match zAS p env pl with|none=>some 100|some (t,w)=>if t.owned=false then some 101 else if w=true/\eqT t (l.headD zTy)=true then none else some 100)
 else if op=6\/op=7 then(if(l.headD zTy).kind=2 then none else some 100)
 else if op=8 then(if eqT (plT p env ⟨nm,[]⟩) (.mk 4 sd [])=true then none else some 100)
 else if op=11 then(if(plT p env pl).kind=9 then none else some 100)
 else none
mutual
def tgS(p:List It):List Fi->St->List Fi × Option Flt
 |env,.mk op nm sd nms ty _ pl es body els arms pos=>
  match tyEs p env es with
  | .error f=>(env,some f)
  | .ok l=>
   match zDP p env op nm sd pl l with
   |some e=>(env,some (e,pos))
   |none=>
    if op=1 then(env++[⟨nm,l.headD zTy⟩],none)
    else if op=2 then(env++zC3 ((zBH p nm).getD []) nms,none)
    else if op=3 then(env,none)
    else if op=6\/op=7 then
     match tgSs p env body with
     |(e,some f)=>(e,some f)
     |(_,none)=>zCk env (tgSs p env els)
    else if op=8 then tgAs p sd env arms
    else if op=10 then(env,(tgSs p (zC4 nms l) body).2)
    else if op=11 then zCk env (tgSs p (env++[⟨nm,inTy 14 ((plT p env pl).args.headD zTy)⟩]) body)
    else if op=12 then(env++[⟨nm,inTy 11 ty⟩,⟨sd,inTy 12 ty⟩],none)
    else zCk env (tgSs p env body)
def tgSs(p:List It):List Fi->List St->List Fi × Option Flt
 |env,[]=>(env,none)
 |env,s::l=>match tgS p env s with
  |(e,some f)=>(e,some f)
  |(e,none)=>tgSs p e l
def tgAs(p:List It)(Ca:BA):List Fi->List (ArOf St)->List Fi × Option Flt
 |env,[]=>(env,none)
 |env,⟨v,n,b⟩::l=>match tgSs p (if sEq n emS=true then env else env++[⟨n,(zAT p Ca v).getD zTy⟩]) b with
  |(e,some f)=>(e,some f)
  |(_,none)=>tgAs p Ca env l
end
def tgI(p:List It)(x:It):Option Flt:=
 if x.kind=3 then
  match tgSs p x.fields x.body with
  |(_,some f)=>some f
  |(env,none)=>match tyE p env x.ret with
   | .error f=>some f
   | .ok t=>if eqT t x.result=true then none else some (100,x.ret.pos)
 else none
def tgC(p:List It):List Flt:=p.filterMap (tgI p)
theorem zOF(hc:zDM p 300=some []){x:It}(hx:x∈p):(∀f∈x.fields,f.type.stands=true/\(x.kind≠3->f.type.owned=true))/\x.result.stands=true/\x.result.owned=true:=by
 unfold zDM at hc;split at hc
 .obtain⟨e,ia⟩:=zFp hc
  have hd:x.tabsD p 300=[]:=List.flatMap_eq_nil_iff.1 e.symm x hx
  have ud:=ia x hx
  rw[hd]at ud
  have key:x.fields.flatMap (fun f=>zJ (f.type.stands&&((x.kind==3)||f.type.owned)) 70 x.pos)++(zJ (x.result.stands&&x.result.owned) 70 x.pos++St.tabss x.body)=[]:=by
   unfold It.tabs at ud;simp only at ud;split at ud
   .exact Option.some.inj ud
   obtain⟨r,_,hr⟩:=Option.map_eq_some_iff.1 ud
   exact(List.append_eq_nil_iff.1 hr).1
  have hw:∀{b:Bool} {a c:Int},zJ b a c=[]->b=true:=fun {b a c} h=>by
   cases b with
   |true=>rfl
   |false=>simp[zJ]at h
  have k1:=(List.append_eq_nil_iff.1 key).1
  have k2:=hw (List.append_eq_nil_iff.1 (List.append_eq_nil_iff.1 key).2).1
  simp only[Bool.and_eq_true]at k2;refine⟨fun f hf=>?_,k2⟩
  have:=hw (List.flatMap_eq_nil_iff.1 k1 f hf)
  simp only[Bool.and_eq_true,Bool.or_eq_true,beq_iff_eq]at this;exact⟨this.1,fun hk=>this.2.resolve_left hk⟩
 cases hc
theorem zFH{t u:Ty}(h:t.stands=true)(hu:u∈t.args):u.stands=true/\zB1 t.kind u=true:=by
 rw[zEq]at h
 have:=List.all_eq_true.1 h u hu
 simpa using this
theorem zMz(hc:zDM p 300=some [])(ht:t.stands=true){s:BA}{u:Ty}{c:Bool}(hs:zEY p t s=some (u,c)):u.stands=true:=by
 have hq:∀b,ptrT b t s=some (u,c)->u.stands=true:=fun b hb=>by
  unfold ptrT at hb;split at hb
  .obtain⟨v,hv,he⟩:=Option.map_eq_some_iff.1 hb
   cases he;exact(zFH ht (List.mem_of_head? hv)).1
  cases hb
 unfold zEY at hs;split at hs
 .unfold zFq at hs
  obtain⟨f,hf,he⟩:=Option.map_eq_some_iff.1 hs
  cases he
  have hm:=List.mem_of_find?_eq_some hf
  unfold zBw at hm
  cases hx:zg p t.name with
  |none=>rw[hx]at hm;simp at hm
  |some x=>
   rw[hx]at hm;simp only at hm;split at hm
   .exact((zOF hc (List.mem_of_find?_eq_some hx)).1 f (by simpa using hm)).1
   simp at hm
 split at hs
 .exact hq _ hs
 split at hs
 .exact hq _ hs
 cases hs
theorem zHD{p:List It}(hc:zDM p 300=some []):∀(l:List BA) (t:Ty) (w:Bool) (r:Ty × Bool),t.stands=true->walkF p l t w=some r->r.1.stands=true
 | [],t,w,r,ht,h=>by simp only[walkF,Option.some.injEq]at h;subst h;exact ht
 |s::l,t,w,r,ht,h=>by
  rw[walkF]at h;split at h
  .cases h
  rename_i u c hs
  exact zHD hc l u _ r (zMz hc ht hs) h
theorem zHE(hc:zDM p 300=some [])(he:∀f∈env,f.type.stands=true){x:Pl}{r:Ty × Bool}(h:zAS p env x=some r):r.1.stands=true:=by
 unfold zAS zFr at h
 obtain⟨f,hf,hw⟩:=Option.bind_eq_some_iff.1 h
 have hm:=List.mem_of_find?_eq_some hf
 unfold zIT at hw;split at hw
 .exact zHD hc _ _ _ r (he f (by simpa using hm)) hw
 cases hw
theorem zCt(k:Int):(zAE k).stands=true:=by rw[zEq];rfl
theorem zDQ{k:Int}(h:k≠13/\k≠14):(zAE k).owned=true:=by
 rw[zEF];simp[zAE,Ty.kind,Ty.args,h.1,h.2]
theorem zGH{k:Int}(h:t.stands=true)(hp:zB1 k t=true):(inTy k t).stands=true:=by
 rw[zEq];simp[inTy,Ty.args,Ty.kind,h,hp]
theorem zOG{k:Int}(h:k≠13/\k≠14)(ho:t.owned=true):(inTy k t).owned=true:=by
 rw[zEF];simp[inTy,Ty.args,Ty.kind,h.1,h.2,ho]
theorem zM0(ht:t.stands=true)(h:t.kind<=12)(h7:t.kind=7\/t.kind=8\/t.kind=11\/t.kind=12):t.owned=true:=by
 rw[zEF]
 have h1:t.kind≠13:=by omega
 have h2:t.kind≠14:=by omega
 simp only[Bool.and_eq_true,decide_eq_true_eq,List.all_eq_true];refine⟨⟨h1,h2⟩,fun u hu=>?_⟩
 have:=(zFH ht hu).2
 unfold zB1 at this;simp only[Bool.and_eq_true,Bool.or_eq_true,beq_iff_eq]at this
 rcases this.2 with h|h|h
 .exact absurd h h1
 .exact absurd h h2
 exact h
theorem zVF(h:t.args.length=1):t.args.headD zTy∈t.args:=by
 cases t with
 |mk k s l=>
  match l,h with
  | [u],_=>simp[Ty.args]
theorem zJh(ht:t.stands=true){u:Ty}(hu:u∈t.args)(h:t.kind≠13/\t.kind≠14):u.owned=true:=by
 have:=(zFH ht hu).2
 unfold zB1 at this;simp only[Bool.and_eq_true,Bool.or_eq_true,beq_iff_eq]at this
 rcases this.2 with h'|h'|h'
 .exact absurd h' h.1
 .exact absurd h' h.2
 exact h'
theorem zSK{op:Int}(h:0<(zAR op).1):(zAR op).1≠13/\(zAR op).1≠14:=by
 unfold zAR at h ⊢
 repeat' split
 all_goals simp
theorem zPb(op:Int):zAa op≠13/\zAa op≠14/\zAa op≠6:=by
 unfold zAa
 repeat' split
 all_goals simp
theorem zPc(hc:zDM p 300=some [])(he:∀f∈env,f.type.stands=true){op:Int}{nm sd:BA}{pl:Pl}{l:List Ty}(hl:∀u∈l,u.stands=true)(h:ownT p env op nm sd pl l= .ok t):t.stands=true/\(op≠4->op≠5->op≠6->t.owned=true):=by
 have Dd:(l.headD zTy).stands=true:=by
  cases l with
  |nil=>rfl
  |cons u l=>exact hl u (by simp)
 unfold ownT at h;split at h
 .rename_i hk
  cases h;exact⟨zCt _,fun _ _ _=>zDQ (by omega)⟩
 split at h
 .split at h
  .cases h
   refine⟨zCt _,fun _ _ _=>zDQ ?_⟩
   unfold zGp
   repeat' split
   all_goals simp
  cases h
 split at h
 .unfold zHC at h
  split at h
  .cases h
   rename_i ha
   have Fa:∀s:BA,(Ty.mk 4 s []).stands=true/\(Ty.mk 4 s []).owned=true:=fun s=>⟨by rw[zEq];rfl,by rw[zEF];rfl⟩
   unfold zIW;split
   .split
    .rename_i x hx
     have:=(zOF hc (List.mem_of_find?_eq_some hx)).2
     exact⟨this.1,fun _ _ _=>this.2⟩
    rename_i hx
    unfold zIW at ha;simp[*]at ha
   split
   .exact⟨(Fa _).1,fun _ _ _=>(Fa _).2⟩
   split
   .exact⟨(Fa _).1,fun _ _ _=>(Fa _).2⟩
   exact⟨(Fa _).1,fun _ _ _=>(Fa _).2⟩
  cases h
 split at h
 .split at h
  .cases h
   rename_i ho
   obtain⟨m1,m2,m3⟩:=zPb op
   refine⟨zGH Dd ?_,fun _ _ _=>zOG ⟨m1,m2⟩ ho⟩
   generalize l.headD zTy=u0 at ho
   unfold zB1;simp[m3,ho]
  cases h
 split at h
 .split at h
  .cases h
   rename_i hk
   have ho:(l.headD zTy).owned=true:=by
    rw[zEF];simp only[Bool.and_eq_true,decide_eq_true_eq,List.all_eq_true];refine⟨by omega,fun u hu=>zJh Dd hu (by omega)⟩
   refine⟨zGH Dd ?_,fun _ _ _=>zOG (by omega) ho⟩
   generalize l.headD zTy=u0 at ho hk
   unfold zB1;simp[ho];omega
  cases h
 split at h
 .split at h
  .cases h
   exact⟨zCt _,fun _ _ _=>zDQ (by omega)⟩
  cases h
 split at h
 .rename_i hop
  unfold zDO at h;simp only at h
  have ht:∀t:Ty,t=(if(zAR op).2=true then((zAS p env pl).map Prod.fst).getD zTy else l.headD zTy)->t.stands=true:=fun t e=>by
   subst e;split
   .cases hp:zAS p env pl with
    |none=>rfl
    |some r=>exact zHE hc he hp
   exact Dd
  generalize hT:(if(zAR op).2=true then((zAS p env pl).map Prod.fst).getD zTy else l.headD zTy)=T at h
  have Bj:=ht T hT.symm
  split at h
  .cases h
  rename_i hk
  have hk:T.kind=(zAR op).1/\T.args.length=1:=Classical.not_not.1 hk
  split at h
  .split at h
   .cases h
    exact⟨zCt _,fun _ _ _=>zDQ (by omega)⟩
   cases h
  cases h
  have hm:=zVF hk.2
  exact⟨(zFH Bj hm).1,fun _ _ _=>zJh Bj hm (by rw[hk.1];exact zSK hop)⟩
 unfold zCa at h
 split at h
 .cases h
 rename_i T w hp
 have Bj:=zHE hc he hp
 simp only at Bj;split at h
 .split at h
  .cases h
   exact⟨Bj,fun h4=>absurd (by assumption) h4⟩
  cases h
 split at h
 .cases h
  exact⟨zGH Bj (by simp[zB1]),fun _ h5=>absurd (by assumption) h5⟩
 split at h
 .split at h
  .cases h
   exact⟨zGH Bj (by simp[zB1]),fun _ _ h6=>absurd (by assumption) h6⟩
  cases h
 split at h
 .split at h
  .cases h
   rename_i hk
   exact⟨Bj,fun _ _ _=>zM0 Bj (by omega) hk⟩
  cases h
 split at h
 .cases h
  refine⟨zCt _,fun _ _ _=>zDQ ?_⟩
  split<;>simp
 cases h
mutual
theorem zJi{p:List It}(hc:zDM p 300=some []){env:List Fi}(he:∀f∈env,f.type.stands=true):∀(e:Ex) (t:Ty),tyE p env e= .ok t->t.stands=true/\(e.op≠4->e.op≠5->e.op≠6->t.owned=true)
 | .mk op i nm sd pl args pos,t,h=>by
  rw[tyE]at h;split at h
  .cases h
  rename_i l hl
  have hs:=zIX hc he args l hl
  split at h
  .rename_i u hu
   cases h;exact zPc hc he hs hu
  cases h
theorem zIX{p:List It}(hc:zDM p 300=some []){env:List Fi}(he:∀f∈env,f.type.stands=true):∀(es:List Ex) (l:List Ty),tyEs p env es= .ok l->∀u∈l,u.stands=true
 | [],l,h=>by
  rw[tyEs]at h;cases h
  simp
 |e::es,l,h=>by
  rw[tyEs]at h;split at h
  .cases h
  rename_i t ht
  split at h
  .cases h
  rename_i ts pa
  cases h;intro u hu
  rcases List.mem_cons.1 hu with rfl|hu
  .exact(zJi hc he e u ht).1
  exact zIX hc he es ts pa u hu
end
attribute [local simp] List.replicate List.range List.range.loop
def isK(k:Int)(s:BA)(x:It):Bool:=(x.kind==k)&&sEq x.name s
def nfR(p:List It)(k:Int)(s:BA):AV:=match p.find? (isK k s)with|some x=>.tup [itV x,B true]|none=>.tup [itZ0,B false]
theorem zV7(p:List It)(hp:PrSm p)(k:Int)(s:BA)(S:ASt):ADet Tryz.prog 124 [.agg [.p (prog p)],U k,Sg s] S (nfR p k s) S:=by
 have cC:=fun S=>zV1 p hp S
 have Im:p.length<=20000:=hp.1
 refine ADet.intro mixed Tryz.call124 Tryz.func124 rfl ?_;simp[Tryz.ntmps124];refine cq (cC _) ?_;simp[prog];refine zF (fun q:Nat=>q<=p.length/\∀j (h:j<p.length),j<q->isK k s p[j]=false) (fun q=>([.any,U k,Sg s,.any,.any,.any,.ptr 0 1 0,B false,.any,.any,.any,.any,.p (.sl 16 (p.map It.enc)),I p.length,I q]++List.replicate 16 .any)) (fun _=>[.cells [.p (.sl 16 (p.map It.enc))] 24,.cells [U 0,Sg emS,nilS,U 0,Sg emS,nilS,nilS,U 0,I 0,Sg emS,Sg emS,Sg emS,nilS,nilS,I 0,I 0] 45]::S) (fun q=>p.length-q) 0 ⟨Nat.zero_le _,fun j h hj=>by omega⟩ ?_ ?_ ?_
 .simp
 .simp
 rintro q ⟨hq,oe⟩
 by_cases hlt:q<p.length
 .have aa:(q:Int)<(p.length:Int):=by omega
  have df:=zB hlt (by unfold maxLen;omega)
  have Pa:isK k s p[q]=false->∀j (h:j<p.length),j<q+1->isK k s p[j]=false:=fun hx j h hj=>by
   by_cases Jm:j=q
   .subst Jm;exact hx
   exact oe j h (by omega)
  have Zc:isK k s p[q]=true->p.find? (isK k s)=some p[q]:=fun hx=>by
   rw[List.find?_eq_some_iff_getElem];exact⟨hx,q,hlt,rfl,fun j hj=>by rw[oe j (by omega) hj];rfl⟩
  generalize he:p[q]=x at*
  by_cases hk:x.kind=k
  .cases hs:sEq x.name s with
   |false=>
    simp[hlt,aa,It.enc,hk,hs,he]
    exact⟨q+1,⟨by omega,Pa (by simp[isK,hs])⟩,by omega,df⟩
   |true=>
    unfold nfR;rw[Zc (by simp[isK,hk,hs])]
    simp[hlt,aa,It.enc,hk,hs,he]
  have Yb:(x.kind==k)=false:=by simpa using hk
  simp[hlt,aa,It.enc,Yb,he];exact⟨q+1,⟨by omega,Pa (by simp[isK,Yb])⟩,by omega,df⟩
 have aa:¬(q:Int)<(p.length:Int):=by omega
 have Zc:p.find? (isK k s)=none:=by
  rw[List.find?_eq_none];intro x hx
  obtain⟨i,hi,rfl⟩:=List.getElem_of_mem hx
  rw[oe i hi (by omega)]
  simp
 unfold nfR;rw[Zc];simp[aa]
end Go.Proofs.YtdflkegnmmkkoaaGreatDoor
namespace Go.Proofs.YtdflkegnmmkkoaaGreatDoor
open Go.RowKit
def okT(p:List It)(t:Ty):Prop:=t.nm p 0=[]
theorem zZ8(p:List It)(t:Ty):okT p t ↔ (t.kind=4->(zg p t.name).isSome=true)/\∀u∈t.args,okT p u:=by
 unfold okT;rw[tyNm,List.append_eq_nil_iff,List.flatMap_eq_nil_iff];refine and_congr ?_ Iff.rfl;split
 .rename_i h4
  constructor
  .exact fun h _=>zDw h
  exact fun h=>by rw[h h4];rfl
 rename_i h4
 exact⟨fun _ h=>absurd h h4,fun _=>rfl⟩
theorem zSL(p:List It)(pos:Int):∀t:Ty,t.nm p pos=[]->okT p t:=by
 refine Ty.ind fun t ih he=>?_
 rw[zZ8];rw[tyNm]at he
 obtain⟨e1,e2⟩:=List.append_eq_nil_iff.1 he
 refine⟨fun h4=>by rw[if_pos h4]at e1;exact zDw e1,fun u hu=>ih u hu (List.flatMap_eq_nil_iff.1 e2 u hu)⟩
def okIt(p:List It)(x:It):Prop:=(∀f∈x.fields,okT p f.type)/\(x.kind=3->okT p x.result)
theorem zGq(p:List It)(pos:Int):∀(l:List Fi) (met:List BA),zBh p pos met l=[]->∀f∈l,okT p f.type
 | [],met,h,f,hf=>by cases hf
 |g::l,met,h,f,hf=>by
  rw[zBh]at h
  obtain⟨_,h2⟩:=List.append_eq_nil_iff.1 h
  obtain⟨h3,h4⟩:=List.append_eq_nil_iff.1 h2
  rcases List.mem_cons.1 hf with rfl|hf
  .exact zSL p pos _ h3
  exact zGq p pos l _ h4 f hf
theorem zGI{σ τ:Nf}{n:Nat}(h:Near σ n τ)(e:τ.fl=[]):σ.fl=[]:=by
 have:=h.1
 rw[e]at this;exact List.eq_nil_of_length_eq_zero (by simpa using this)
theorem zKY(a:List Fg)(σ:Nf):(Nf.undo a σ).fl=σ.fl:=by
 induction a with
 |nil=>rfl
 |cons g a ih=>exact ih
theorem zVG{p:List It}{x:It}{fl:List Flt}(h:(zKI p x fl).fl=[]):fl=[]/\(St.nms p x.body ⟨(x.fields.map Fi.name).foldl (fun m s=>mPut m s true) [],x.fields.length,0,fl⟩).1.fl=[]/\∃m,x.ret.nm p m=[]:=by
 unfold zKI at h;simp only[zKY]at h
 obtain⟨h1,h2⟩:=List.append_eq_nil_iff.1 (show _++_=[]from h)
 exact⟨zGI (zCY p (fun s _ σ=>zDN p s σ) _).1 h1,h1,_,h2⟩
theorem zPd{p:List It}{x:It}(h:zEG p 0 x []=[]):okIt p x/\(x.kind=3->∃fl,(St.nms p x.body ⟨(x.fields.map Fi.name).foldl (fun m s=>mPut m s true) [],x.fields.length,0,fl⟩).1.fl=[]/\∃m,x.ret.nm p m=[]):=by
 unfold zEG at h;simp only at h;split at h
 .rename_i h3
  obtain⟨h1,_⟩:=List.append_eq_nil_iff.1 h
  obtain⟨e1,e2,e3⟩:=zVG h1
  obtain⟨e4,e5⟩:=List.append_eq_nil_iff.1 e1
  obtain⟨_,e6⟩:=List.append_eq_nil_iff.1 e4
  exact⟨⟨zGq p _ _ _ e6,fun _=>zSL p _ _ e5⟩,fun _=>⟨_,e2,e3⟩⟩
 rename_i h3
 obtain⟨_,e6⟩:=List.append_eq_nil_iff.1 h
 exact⟨⟨zGq p _ _ _ e6,fun h=>absurd h h3⟩,fun h=>absurd h h3⟩
section
variable{p p':List It}(h:MonoL p p')(hr:∀x∈p,okIt p x)
include h hr
omit hr in
omit h in
omit h in
omit h hr in
theorem zZ9(p:List It)(nm:BA):(p.find? fun x=>(x.kind==3)&&sEq x.name nm)=fnIt p nm:=by
 unfold fnIt
 congr 1
end
end Go.Proofs.YtdflkegnmmkkoaaGreatDoor
namespace Go.Proofs.YtdflkegnmmkkoaaGreatDoor
open Go.RowKit
theorem zCD(p:List It)(env:List Fi)(s:St):tgS p env s=
  match tyEs p env s.u3 with
  | .error f=>(env,some f)
  | .ok l=>
   match zDP p env s.op s.name s.u2 s.place l with
   |some e=>(env,some (e,s.pos))
   |none=>
    if s.op=1 then(env++[⟨s.name,l.headD zTy⟩],none)
    else if s.op=2 then(env++zC3 ((zBH p s.name).getD []) s.names,none)
    else if s.op=3 then(env,none)
    else if s.op=6\/s.op=7 then
     match tgSs p env s.body with
     |(e,some f)=>(e,some f)
     |(_,none)=>zCk env (tgSs p env s.els)
    else if s.op=8 then tgAs p s.u2 env s.arms
    else if s.op=10 then(env,(tgSs p (zC4 s.names l) s.body).2)
    else if s.op=11 then zCk env (tgSs p (env++[⟨s.name,inTy 14 ((plT p env s.place).args.headD zTy)⟩]) s.body)
    else if s.op=12 then(env++[⟨s.name,inTy 11 s.type⟩,⟨s.u2,inTy 12 s.type⟩],none)
    else zCk env (tgSs p env s.body):=by
 cases s;rw[tgS]<;>rfl
section
variable{p p':List It}(h:MonoL p p')(hr:∀x∈p,okIt p x)
include hr in
include h hr
end
end Go.Proofs.YtdflkegnmmkkoaaGreatDoor
namespace Go.Proofs.YtdflkegnmmkkoaaGreatDoor
open Go.RowKit
structure LookT (p p':List It):Prop where
 it:∀s,(zg p' s).map (fun x=>(x.kind,x.fields))=(zg p s).map fun x=>(x.kind,x.fields)
 fn:∀s,(fnIt p' s).map (fun x=>(x.fields,x.result))=(fnIt p s).map fun x=>(x.fields,x.result)
theorem zGJ{α β:Type}{f:α->β}{a b:Option α}(h:a.map f=b.map f):(a=none/\b=none)\/∃x y,a=some x/\b=some y/\f x=f y:=by
 cases a with
 |none=>cases b with
  |none=>exact .inl ⟨rfl,rfl⟩
  |some y=>cases h
 |some x=>cases b with
  |none=>cases h
  |some y=>exact .inr ⟨x,y,rfl,rfl,Option.some.inj h⟩
section
variable{p p':List It}(h:LookT p p')
include h
theorem LookT.st(s:BA):zBw p' s=zBw p s:=by
 unfold zBw
 rcases zGJ (h.it s)with⟨h1,h2⟩|⟨x,y,h1,h2,e⟩
 .rw[h1,h2]
 rw[h1,h2]
 obtain⟨e1,e2⟩:=Prod.mk.inj e
 simp only[e1,e2]
theorem LookT.fs(s:BA):zBH p' s=zBH p s:=by
 unfold zBH
 rcases zGJ (h.it s)with⟨h1,h2⟩|⟨x,y,h1,h2,e⟩
 .rw[h1,h2]
 rw[h1,h2]
 obtain⟨e1,e2⟩:=Prod.mk.inj e
 simp only[e1,e2]
theorem LookT.step(t:Ty)(s:BA):zEY p' t s=zEY p t s:=by unfold zEY;rw[h.st]
theorem LookT.walkF:∀(l:List BA) (t:Ty) (w:Bool),walkF p' l t w=walkF p l t w
 | [],t,w=>rfl
 |s::l,t,w=>by
  rw[Proofs.YtdflkegnmmkkoaaGreatDoor.walkF,Proofs.YtdflkegnmmkkoaaGreatDoor.walkF,h.step]
  cases zEY p t s with
  |none=>rfl
  |some r=>exact LookT.walkF l _ _
theorem LookT.walk(t:Ty)(l:List BA):zIT p' t l=zIT p t l:=by unfold zIT;rw[h.walkF]
theorem LookT.place(env:List Fi)(x:Pl):zAS p' env x=zAS p env x:=by
 unfold zAS
 congr 1
 funext f
 exact h.walk _ _
theorem LookT.fk(k:Int)(s:BA):zBs p' k s=zBs p k s:=by
 unfold zBs;rw[h.fs]
 rcases zGJ (h.it s)with⟨h1,h2⟩|⟨x,y,h1,h2,e⟩
 .rw[h1,h2]
 rw[h1,h2]
 obtain⟨e1,e2⟩:=Prod.mk.inj e
 simp only[e1]
theorem LookT.pay(a b:BA):zAT p' a b=zAT p a b:=by unfold zAT;rw[h.fk]
theorem LookT.asks(op:Int)(nm sd:BA):zIW p' op nm sd=zIW p op nm sd:=by
 unfold zIW;rw[h.pay,h.fk,zZ9,zZ9]
 rcases zGJ (h.fn nm)with⟨h1,h2⟩|⟨x,y,h1,h2,e⟩
 .rw[h1,h2]
 rw[h1,h2]
 obtain⟨e1,e2⟩:=Prod.mk.inj e
 simp only[e1,e2]
theorem LookT.own(env:List Fi)(op:Int)(nm sd:BA)(pl:Pl)(l:List Ty):ownT p' env op nm sd pl l=ownT p env op nm sd pl l:=by
 unfold ownT zHC zDO zCa;rw[h.asks,h.place]
end
mutual
theorem LookT.tyE{p p':List It}(h:LookT p p')(env:List Fi):∀e:Ex,Proofs.YtdflkegnmmkkoaaGreatDoor.tyE p' env e=Proofs.YtdflkegnmmkkoaaGreatDoor.tyE p env e
 | .mk op i nm sd pl args pos=>by
  rw[Proofs.YtdflkegnmmkkoaaGreatDoor.tyE,Proofs.YtdflkegnmmkkoaaGreatDoor.tyE,LookT.tyEs h env args]
  cases Proofs.YtdflkegnmmkkoaaGreatDoor.tyEs p env args with
  |error f=>rfl
  |ok l=>simp only;rw[h.own]
theorem LookT.tyEs{p p':List It}(h:LookT p p')(env:List Fi):∀l:List Ex,Proofs.YtdflkegnmmkkoaaGreatDoor.tyEs p' env l=Proofs.YtdflkegnmmkkoaaGreatDoor.tyEs p env l
 | []=>by rw[Proofs.YtdflkegnmmkkoaaGreatDoor.tyEs,Proofs.YtdflkegnmmkkoaaGreatDoor.tyEs]
 |e::l=>by
  rw[Proofs.YtdflkegnmmkkoaaGreatDoor.tyEs,Proofs.YtdflkegnmmkkoaaGreatDoor.tyEs,LookT.tyE h env e,LookT.tyEs h env l]
end
section
variable{p p':List It}(h:LookT p p')
include h
theorem LookT.self(env:List Fi)(op:Int)(nm sd:BA)(pl:Pl)(l:List Ty):zDP p' env op nm sd pl l=zDP p env op nm sd pl l:=by
 unfold zDP plT;simp only[h.place]
omit h in
theorem LookT.sts(l:List St)(hs:∀s∈l,∀env,tgS p' env s=tgS p env s):∀env,tgSs p' env l=tgSs p env l:=by
 induction l with
 |nil=>intro env;rw[tgSs,tgSs]
 |cons s l ih=>
  intro env;rw[tgSs,tgSs,hs s (by simp)]
  generalize tgS p env s=r
  obtain⟨e,o⟩:=r
  cases o with
  |some f=>rfl
  |none=>exact ih (fun y hy=>hs y (List.mem_cons_of_mem _ hy)) e
theorem LookT.ars(Ca:BA)(l:List Ar)(hs:∀a∈l,∀s∈a.body,∀env,tgS p' env s=tgS p env s):∀env,tgAs p' Ca env l=tgAs p Ca env l:=by
 induction l with
 |nil=>intro env;rw[tgAs,tgAs]
 |cons a l ih=>
  intro env
  obtain⟨v,n,b⟩:=a
  rw[tgAs,tgAs,h.pay,LookT.sts b (fun s xd=>hs ⟨v,n,b⟩ (by simp) s xd)]
  generalize tgSs p (if sEq n emS=true then env else env++[⟨n,(zAT p Ca v).getD zTy⟩]) b=r
  obtain⟨e,o⟩:=r
  cases o with
  |some f=>rfl
  |none=>exact ih (fun y hy=>hs y (List.mem_cons_of_mem _ hy)) env
theorem LookT.tgS:∀(s:St) (env:List Fi),Proofs.YtdflkegnmmkkoaaGreatDoor.tgS p' env s=Proofs.YtdflkegnmmkkoaaGreatDoor.tgS p env s:=by
 refine St.ind fun s i1 i2 i3 env=>?_
 rw[zCD,zCD,h.tyEs]
 cases Proofs.YtdflkegnmmkkoaaGreatDoor.tyEs p env s.u3 with
 |error f=>rfl
 |ok l=>
  have hb:=LookT.sts s.body i1
  have he:=LookT.sts s.els i2
  have ha:=h.ars s.u2 s.arms i3
  have Ia:plT p' env s.place=plT p env s.place:=by unfold plT;rw[h.place]
  simp only[h.self,h.fs,hb,he,ha,Ia]
theorem LookT.tgI(x:It):Proofs.YtdflkegnmmkkoaaGreatDoor.tgI p' x=Proofs.YtdflkegnmmkkoaaGreatDoor.tgI p x:=by
 unfold Proofs.YtdflkegnmmkkoaaGreatDoor.tgI;rw[LookT.sts x.body (fun s _ env=>h.tgS s env)]
 simp only[h.tyE]
end
end Go.Proofs.YtdflkegnmmkkoaaGreatDoor
namespace Go.Proofs.YtdflkegnmmkkoaaGreatDoor
open Go.RowKit
theorem zLr{p:List It}(hw:zAc p=true){x:It}(hx:x∈p):∀s∈x.body,∃d,s.whole d=true:=by
 unfold zAc z7 at hw;simp only[Bool.and_eq_true,decide_eq_true_eq]at hw;rw[List.take_of_length_le (by omega)]at hw
 have:=List.all_eq_true.1 hw.2 x hx
 unfold It.whole at this;split at this
 .simp only[Bool.and_eq_true,decide_eq_true_eq]at this
  have hb:x.body=[]:=List.eq_nil_of_length_eq_zero this.1.2.1
  rw[hb];intro s hs;cases hs
 split at this
 .simp only[Bool.and_eq_true,List.all_eq_true]at this
  exact fun s hs=>⟨_,this.2.2.2.2.2 s hs⟩
 cases this
def qoS:BA:=(⟨#[81,117,105,116,101,79,116,104,101,114]⟩:BA)
section
variable{p:List It}(hs:∀x∈p,sEq x.name qoS=false)(hf:∀x∈p,sEq x.name zZ7=false)
include hs hf
end
end Go.Proofs.YtdflkegnmmkkoaaGreatDoor
namespace Go.Proofs.YtdflkegnmmkkoaaGreatDoor
open Go.RowKit
variable{env:List Fi}{p:List It}
structure Alike (x y:It):Prop where
 kind:y.kind=x.kind
 name:y.name=x.name
 fields:y.fields=x.fields
 result:y.result=x.result
 same:x.kind≠3->y=x
def zEZ(e:Ex):Ex:=.mk 18 0 (⟨#[102]⟩:BA) emS ⟨emS,[]⟩ [e] 0
def zIY(e:Ex):Bool:=zo e||(decide (e.op=5\/e.op=6)&&zo (zEZ e))
def zEM(p:List It)(env:List Fi)(e:Ex):Option Ty:=if zIY e=true then(match tyE p env e with| .ok t=>some t| .error _=>none)else none
def zAL(k:Int)(e:Ex):Ex:=.mk k 0 emS emS ⟨emS,[]⟩ [e] 0
theorem zPe:∀(e:Ex) (d d':Int),d<=d'->e.whole d=true->e.whole d'=true:=by
 refine Ex.ind fun e ih d d' hd h=>?_
 rw[zCi]at h ⊢
 by_cases hl:(e.args.length:Int)<=shM e.op
 .rw[zBZ hl]at h ⊢
  simp only[Bool.and_eq_true,decide_eq_true_eq,List.all_eq_true]at h ⊢
  obtain⟨h0,h1,h3⟩:=h
  exact⟨by omega,h1,fun x hx=>⟨(h3 x hx).1,ih x hx (d-1) (d'-1) (by omega) (h3 x hx).2⟩⟩
 simp[z7,hl]at h
theorem zA0{k:Int}{e:Ex}(hk:k≠18)(h:zo (zAL k e)=true):zo e=true:=by
 unfold zo at h ⊢;simp only[Bool.and_eq_true]at h ⊢
 have h2:=h.2
 rw[zCi]at h2
 have e1:(zAL k e).args=[e]:=rfl
 have e2:(zAL k e).op=k:=rfl
 rw[e1,e2]at h2
 have Yb:(k==18)=false:=by simpa using hk
 by_cases hl:(([e]:List Ex).length:Int)<=shM k
 .rw[zBZ hl]at h2
  simp only[Bool.and_eq_true,List.all_cons,List.all_nil,Yb,Bool.false_or,Bool.and_true]at h2;exact⟨h2.2.2.1,zPe e _ 40 (by omega) h2.2.2.2⟩
 have Df:¬(1:Int)<=shM k:=hl
 simp[z7,Df]at h2
theorem zEN{e:Ex}(h:zo e=true):zEM p env e=match tyE p env e with| .ok t=>some t| .error _=>none:=by
 unfold zEM zIY;rw[h,Bool.true_or,if_pos rfl]
theorem zOH(p:List It)(env:List Fi)(k:Int)(e:Ex):tyE p env (zAL k e)=match tyE p env e with| .error f=>.error f| .ok t=>match ownT p env k emS emS ⟨emS,[]⟩ [t]with| .ok u=>.ok u| .error n=>.error (n,0):=by
 unfold zAL;rw[tyE,tyEs,tyEs];cases tyE p env e<;>rfl
theorem zC0{k:Int}{e:Ex}(hk:0<zAa k)(h:zo (zAL k e)=true):zEM p env (zAL k e)=(zEM p env e).bind fun t=>if t.owned=true then some (inTy (zAa k) t)else none:=by
 have Og:k=21\/k=26\/k=27\/k=29:=by
  unfold zAa at hk
  repeat' split at hk
  all_goals omega
 rw[zEN h,zEN (zA0 (by omega) h),zOH]
 cases tyE p env e with
 |error f=>rfl
 |ok t=>
  have e1:ownT p env k emS emS ⟨emS,[]⟩ [t]=if t.owned=true then .ok (inTy (zAa k) t)else .error 101:=by
   unfold ownT;rw[if_neg (by omega),if_neg (by omega),if_neg (by omega),if_pos hk]
   rfl
  simp only[e1,Option.bind_some]
  by_cases ho:t.owned=true
  .rw[if_pos ho,if_pos ho]
  rw[if_neg ho,if_neg ho]
theorem zCF{u:Int}{f:Ex}(hu:u=22\/u=30)(h:zo (zAL u f)=true):zEM p env (zAL u f)=(zEM p env f).bind fun t=>if t.kind=(zAR u).1/\t.args.length=1 then some (t.args.headD zTy)else none:=by
 rw[zEN h,zEN (zA0 (by omega) h),zOH]
 cases tyE p env f with
 |error f=>rfl
 |ok t=>
  have e0:(zAR u).2=false/\0<(zAR u).1/\zAa u=0:=by rcases hu with rfl|rfl<;>decide
  have e1:ownT p env u emS emS ⟨emS,[]⟩ [t]=if t.kind=(zAR u).1/\t.args.length=1 then .ok (t.args.headD zTy)else .error 100:=by
   unfold ownT;rw[if_neg (by omega),if_neg (by omega),if_neg (by omega),if_neg (by omega),if_neg (by omega),if_neg (by omega),if_pos e0.2.1]
   unfold zDO;simp only[e0.1,Bool.false_eq_true,if_false,false_and,List.headD_cons]
   by_cases ht:t.kind=(zAR u).1/\t.args.length=1
   .rw[if_neg (by simpa using ht),if_pos ht]
   rw[if_pos ht,if_neg ht]
  simp only[e1,Option.bind_some]
  by_cases ht:t.kind=(zAR u).1/\t.args.length=1
  .rw[if_pos ht,if_pos ht]
  rw[if_neg ht,if_neg ht]
def plE(op:Int)(x:Pl):Ex:=.mk op 0 emS emS x [] 0
theorem zIZ{x:Pl}(hx:x.whole=true)(op:Int)(hop:op=4\/op=5\/op=6):zIY (plE op x)=true:=by
 have e6:sEq emS emS=true:=zDk.2 rfl
 have hw:∀d:Int,1<=d->(plE op x).whole d=true:=fun d hd=>by
  rw[zCi]
  rcases hop with rfl|rfl|rfl
  all_goals
   simp[plE,Ex.op,Ex.int,Ex.name,Ex.u2,Ex.place,Ex.args,zG7,shO,labB,shL,shM,shP,zGi,hx,e6,hd,z7]
 unfold zIY
 rcases hop with rfl|h5
 .have:zo (plE 4 x)=true:=by
   unfold zo;rw[hw 40 (by omega)]
   rfl
  rw[this,Bool.true_or]
 have:zo (zEZ (plE op x))=true:=by
  unfold zo;rw[zCi]
  have e1:(zEZ (plE op x)).args=[plE op x]:=rfl
  have e2:(zEZ (plE op x)).op=18:=rfl
  rw[e1,e2]
  have e3:zG7 18 (zEZ (plE op x)).int (zEZ (plE op x)).name (zEZ (plE op x)).u2 (zEZ (plE op x)).place ([plE op x]:List Ex).length=true:=by
   show zG7 18 0 (⟨#[102]⟩:BA) emS ⟨emS,[]⟩ 1=true
   kernel_rfl
  rw[e3,zBZ (by show((1:Nat):Int)<=shM 18;decide)]
  simp only[List.all_cons,List.all_nil,hw (40-1) (by omega)]
  rfl
 rw[this,show decide ((plE op x).op=5\/(plE op x).op=6)=true from decide_eq_true h5]
 simp
theorem zSM(p:List It)(env:List Fi)(op:Int)(hop:op=4\/op=5\/op=6)(x:Pl):tyE p env (plE op x)=match zCa p env op x []with| .ok t=>.ok t| .error n=>.error (n,0):=by
 unfold plE;rw[tyE,tyEs]
 have e0:zAa op=0/\(zAR op).1=0:=by rcases hop with rfl|rfl|rfl<;>decide
 have e1:ownT p env op emS emS x []=zCa p env op x []:=by
  unfold ownT;rw[if_neg (by omega),if_neg (by omega),if_neg (by omega),if_neg (by omega),if_neg (by omega),if_neg (by omega),if_neg (by omega)]
 simp only[e1]
 all_goals (cases zCa p env op x []<;>rfl)
theorem zVH{x:Pl}(hx:x.whole=true):zEM p env (plE 5 x)=(zAS p env x).map fun r=>inTy 13 r.1:=by
 unfold zEM;rw[if_pos (zIZ hx 5 (by omega)),zSM p env 5 (by omega)]
 unfold zCa
 cases zAS p env x with
 |none=>rfl
 |some r=>rfl
theorem zaA{x:Pl}(hx:x.whole=true):zEM p env (plE 6 x)=(zAS p env x).bind fun r=>if r.2=true then some (inTy 14 r.1)else none:=by
 unfold zEM;rw[if_pos (zIZ hx 6 (by omega)),zSM p env 6 (by omega)]
 unfold zCa
 cases zAS p env x with
 |none=>rfl
 |some r=>
  obtain⟨t,w⟩:=r
  cases w<;>rfl
theorem zaB{x:Pl}(hx:x.whole=true):zEM p env (plE 4 x)=(zAS p env x).bind fun r=>if copT r.1=true\/x.path.length=0 then some r.1 else none:=by
 unfold zEM;rw[if_pos (zIZ hx 4 (by omega)),zSM p env 4 (by omega)]
 unfold zCa
 cases zAS p env x with
 |none=>rfl
 |some r=>
  obtain⟨t,w⟩:=r
  simp only[if_true,Option.bind_some]
  by_cases h:copT t=true\/x.path.length=0
  .rw[if_pos h,if_pos h]
  rw[if_neg h,if_neg h]
end Go.Proofs.YtdflkegnmmkkoaaGreatDoor
