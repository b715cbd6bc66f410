/- A part of the proof. -/
import Derived.Test.YtdflkegnmmkkoaaGreatDoorXNTg
import Derived.Test.YtdflkegnmmkkoaaGreatDoorXMLp
set_option linter.unusedVariables false
set_option linter.unusedSimpArgs false
set_option maxRecDepth 100000
set_option maxHeartbeats 32000000
namespace Go.Proofs.YtdflkegnmmkkoaaGreatDoor
open Go.RowKit _root_.Go.Proofs.Tryz
def fresh(p:List It)(g:List BA):Nat:=p.countP fun x=>!g.any fun y=>sEq x.name y
theorem zOX{p:List It}{g:List BA}(s:BA):fresh p (g++[s])<=fresh p g:=by
 unfold fresh;refine List.countP_mono_left fun x _ h=>?_
 simp only[List.any_append,Bool.not_or,Bool.and_eq_true]at h;exact h.1
theorem zV3{p:List It}{g:List BA}{s:BA}{z:It}(hz:z∈p)(he:sEq z.name s=true)(hg:g.any (fun y=>sEq s y)=false):fresh p (g++[s])+1<=fresh p g:=by
 have e:z.name=s:=zCR.1 he
 subst e
 induction p with
 |nil=>cases hz
 |cons a p ih=>
  have hc:∀g,fresh (a::p) g=fresh p g+if(!g.any fun y=>sEq a.name y)=true then 1 else 0:=fun g=>by
   unfold fresh;rw[List.countP_cons]
  rw[hc,hc]
  rcases List.mem_cons.1 hz with rfl|hz
  .have h1:=zOX (p:=p) (g:=g) z.name
   have h2:(!(g++[z.name]).any fun y=>sEq z.name y)=false:=by simp[he]
   have h3:(!g.any fun y=>sEq z.name y)=true:=by rw[hg];rfl
   rw[h2,h3];simp;omega
  have:=ih hz
  by_cases h:(!g.any fun y=>sEq a.name y)=true
  .rw[if_pos h];split<;>omega
  have h':¬(!(g++[z.name]).any fun y=>sEq a.name y)=true:=by
   simp only[List.any_append,Bool.not_or,Bool.and_eq_true];exact fun k=>h k.1
  rw[if_neg h,if_neg h'];omega
theorem zNA{p:List It}{s:BA}{z:It}(h:zK p s=some z):z∈p/\sEq z.name s=true:=by
 unfold zK at h
 have h1:=List.mem_of_find?_eq_some h
 have h2:=List.find?_some h
 simp only[Bool.and_eq_true]at h2;exact⟨h1,h2.2⟩
theorem zDC(p:List It)(nm:BA)(B:Nat)(hB:∀x∈p,x.fields.length<=B):∀(n:Nat) (fs:List Fi) (Ia:List BA),fs.length+(B+1)*fresh p Ia<=n->∃r,zBS p nm n fs Ia=some r/\fresh p r.2<=fresh p Ia
 |_,[],Ia,_=>⟨(false,Ia),by unfold zBS;rfl,Nat.le_refl _⟩
 |0,f::fs,Ia,h=>by simp at h
 |n+1,f::fs,Ia,h=>by
  simp only[List.length_cons]at h
  have hn:fs.length+(B+1)*fresh p Ia<=n:=by omega
  unfold zBS
  by_cases h4:f.type.kind≠4
  .rw[if_pos h4];exact zDC p nm B hB n fs Ia hn
  rw[if_neg h4]
  by_cases hs:sEq f.type.name nm=true
  .rw[if_pos hs];exact⟨_,rfl,Nat.le_refl _⟩
  rw[if_neg hs]
  by_cases ha:(Ia.any fun g=>sEq f.type.name g)=true
  .rw[if_pos ha];exact zDC p nm B hB n fs Ia hn
  rw[if_neg ha]
  have ta:=zOX (p:=p) (g:=Ia) f.type.name
  cases hz:zK p f.type.name with
  |none=>
   obtain⟨r,h1,h2⟩:=zDC p nm B hB n fs (Ia++[f.type.name]) (by have:=Nat.mul_le_mul_left (B+1) ta;omega)
   exact⟨r,h1,by omega⟩
  |some z=>
   obtain⟨hm,he⟩:=zNA hz
   have hlt:=zV3 (g:=Ia) hm he (by simpa using ha)
   have hb:=hB z hm
   have Gp:=Nat.mul_le_mul_left (B+1) hlt
   rw[Nat.mul_add,Nat.mul_one]at Gp
   obtain⟨r,h1,h2⟩:=zDC p nm B hB n z.fields (Ia++[f.type.name]) (by omega)
   obtain⟨b,g⟩:=r
   simp only[h1]
   cases b with
   |true=>exact⟨_,rfl,by simp only at h2 ⊢;omega⟩
   |false=>
    simp only at h2 ⊢
    obtain⟨r,h3,h4⟩:=zDC p nm B hB n fs g (by have:=Nat.mul_le_mul_left (B+1) (show fresh p g<=fresh p Ia by omega);omega)
    exact⟨r,h3,by omega⟩
def zA3(env:List Fi):Prop:=∀f∈env,TySm f.type
theorem zV4{nm:BA}(h:nm.size<=20000)(k:Int):TySm (.mk k nm []):=.mk _ h (by simp[Ty.args]) (fun x hx=>by simp[Ty.args]at hx)
theorem zSv:emS.size<=20000:=by decide
theorem zGM(k:Int):TySm (zAE k):=zV4 zSv k
theorem sm_z:TySm zTy:=zV4 zSv 0
theorem zNB(k:Int){t:Ty}(h:TySm t):TySm (inTy k t):=.mk _ zSv (by simp[inTy,Ty.args]) (fun x hx=>by
 simp only[inTy,Ty.args,List.mem_singleton]at hx;subst hx;exact h)
theorem zSw{t:Ty}(h:TySm t):∀u∈t.args,TySm u:=by obtain⟨_,_,_,h⟩:=h;exact h
theorem zNC{l:List Ty}(h:∀u∈l,TySm u):TySm (l.headD zTy):=by
 cases l with
 |nil=>exact sm_z
 |cons u l=>exact h u (by simp)
section
variable{p:List It}(hp:PrSm p){env:List Fi}(he:zA3 env)
include hp in
theorem zJt{nm:BA}:zPH ((zAD p nm).getD []):=by
 unfold zAD
 cases hx:zK p nm with
 |none=>exact⟨by simp,by simp⟩
 |some x=>
  simp only;split
  .exact(zKe hp hx).2.1
  exact⟨by simp,by simp⟩
include hp in
theorem zJu{k:Int}{nm:BA}:zPH (zBG p k nm).1:=by
 unfold zBG
 cases hx:zK p nm with
 |none=>exact⟨by simp,by simp⟩
 |some x=>exact zJt hp
include hp in
theorem zP2{oa v:BA}{t:Ty}(h:zh p oa v=some t):TySm t:=by
 unfold zh at h;split at h
 .obtain⟨f,hf,rfl⟩:=Option.map_eq_some_iff.1 h
  exact((zJu hp).2 f (List.mem_of_find?_eq_some hf)).2
 cases h
include hp in
theorem zND(oa v:BA):TySm ((zh p oa v).getD zTy):=by
 cases h:zh p oa v with
 |none=>exact sm_z
 |some t=>exact zP2 hp h
include hp he in
theorem zOY{x:Pl}{r:Ty × Bool}(h:zAz p env x=some r):TySm r.1:=by
 unfold zAz zEv at h
 obtain⟨f,hf,hw⟩:=Option.bind_eq_some_iff.1 h
 have hm:=List.mem_of_find?_eq_some hf
 unfold zIX at hw;split at hw
 .obtain⟨u,w⟩:=r
  exact zKf hp (he f (by simpa using hm)) hw
 cases hw
include hp he in
theorem zW7(x:Pl):TySm (plT p env x):=by
 unfold plT
 cases h:zAz p env x with
 |none=>exact sm_z
 |some r=>exact zOY hp he h
include hp in
theorem zY0{op:Int}{nm sd:BA}(hn:nm.size<=20000):TySm (zGr p op nm sd).2.1:=by
 unfold zGr;split
 .split
  .rename_i x hx
   exact(hp.2 x (List.mem_of_find?_eq_some hx)).2.2.1
  exact sm_z
 split
 .exact zV4 hn 4
 split<;>exact zV4 hn 4
include hp he in
theorem zbJ{op:Int}{nm sd:BA}{pl:Pl}{l:List Ty}(hn:nm.size<=20000)(hl:∀u∈l,TySm u){t:Ty}(h:ownT p env op nm sd pl l= .ok t):TySm t:=by
 have h0:=zNC hl
 unfold ownT at h;split at h
 .cases h;exact zGM _
 split at h
 .split at h
  .cases h;exact zGM _
  cases h
 split at h
 .unfold zHE at h
  split at h
  .cases h;exact zY0 hp hn
  cases h
 split at h
 .split at h
  .cases h;exact zNB _ h0
  cases h
 split at h
 .split at h
  .cases h;exact zNB _ h0
  cases h
 split at h
 .split at h
  .cases h;exact zGM _
  cases h
 split at h
 .have ht:TySm (if(zBF op).2=true then((zAz p env pl).map Prod.fst).getD zTy else l.headD zTy):=by
   split
   .exact zW7 hp he pl
   exact h0
  unfold zDf at h;simp only at h
  generalize (if(zBF op).2=true then((zAz p env pl).map Prod.fst).getD zTy else l.headD zTy)=u at ht h
  split at h
  .cases h
  split at h
  .split at h
   .cases h;exact zGM _
   cases h
  cases h
  exact zNC (zSw ht)
 unfold zEw at h
 split at h
 .cases h
 rename_i t1 w1 Ma
 have h1:TySm t1:=zOY hp he Ma
 split at h
 .split at h
  .cases h;exact h1
  cases h
 split at h
 .cases h;exact zNB _ h1
 split at h
 .split at h
  .cases h;exact zNB _ h1
  cases h
 split at h
 .split at h
  .cases h;exact h1
  cases h
 split at h
 .cases h;exact zGM _
 cases h
end
theorem zJv(p:List It)(env:List Fi)(e:Ex):tyE p env e=match tyEs p env e.args with
  | .error f=>.error f
  | .ok l=>match ownT p env e.op e.name e.u2 e.place l with| .ok t=>.ok t| .error n=>.error (n,e.pos):=by
 cases e;rw[tyE]<;>rfl
theorem zKm{p:List It}{env:List Fi}{Q:Ty->Prop}:∀l:List Ex,(∀e∈l,∀t,tyE p env e= .ok t->Q t)->∀ts,tyEs p env l= .ok ts->(∀u∈ts,Q u)/\ts.length=l.length
 | [],_,ts,h=>by rw[tyEs]at h;cases h;exact⟨by simp,rfl⟩
 |e::l,hq,ts,h=>by
  rw[tyEs]at h;split at h
  .cases h
  rename_i t ht
  split at h
  .cases h
  rename_i us Bm
  cases h
  obtain⟨k1,k2⟩:=zKm l (fun x hx=>hq x (List.mem_cons_of_mem _ hx)) us Bm
  refine⟨fun u hu=>?_,by simp[k2]⟩
  rcases List.mem_cons.1 hu with rfl|hu
  .exact hq e (by simp) u ht
  exact k1 u hu
theorem zbK{p:List It}(hp:PrSm p){env:List Fi}(he:zA3 env):∀e:Ex,ExSm e->∀t,tyE p env e= .ok t->TySm t:=by
 refine Ex.ind fun e ih hs t h=>?_
 obtain⟨_,h1,_,_,_,h5⟩:=hs
 rw[zJv]at h;split at h
 .cases h
 rename_i l hl
 split at h
 .rename_i u hu
  cases h;exact zbJ hp he h1 (zKm e.args (fun x hx=>ih x hx (h5 x hx)) l hl).1 hu
 cases h
theorem zSx{p:List It}(hp:PrSm p){env:List Fi}(he:zA3 env){l:List Ex}(hl:∀e∈l,ExSm e){ts:List Ty}(h:tyEs p env l= .ok ts):(∀u∈ts,TySm u)/\ts.length=l.length:=zKm l (fun e hx=>zbK hp he e (hl e hx)) ts h
theorem zHi(p:List It)(env:List Fi):∀a b:List Ex,tyEs p env (a++b)=match tyEs p env a with
  | .error f=>.error f
  | .ok l=>match tyEs p env b with| .error f=>.error f| .ok m=>.ok (l++m)
 | [],b=>by
  rw[List.nil_append,tyEs];simp only[List.nil_append]
  split<;>simp[*]
 |e::a,b=>by
  rw[List.cons_append,tyEs,tyEs,zHi p env a b]
  cases tyE p env e with
  |error f=>rfl
  |ok t=>
   simp only
   cases tyEs p env a with
   |error f=>rfl
   |ok l=>
    simp only;cases tyEs p env b<;>rfl
theorem zOZ(p:List It)(env:List Fi)(e:Ex):tyEs p env [e]=match tyE p env e with| .error f=>.error f| .ok t=>.ok [t]:=by
 rw[tyEs,tyEs];cases tyE p env e<;>rfl
theorem zAU{p:List It}{env:List Fi}{l:List Ex}{q:Nat}(hq:q<l.length){ts:List Ty}(h:tyEs p env (l.take q)= .ok ts):(∀t,tyE p env l[q]= .ok t->tyEs p env (l.take (q+1))= .ok (ts++[t]))/\∀f,tyE p env l[q]= .error f->tyEs p env l= .error f:=by
 have e1:l.take (q+1)=l.take q++[l[q]]:=List.take_succ_eq_append_getElem hq
 refine⟨fun t ht=>?_,fun f hf=>?_⟩
 .rw[e1,zHi,h,zOZ,ht]
 have e2:l=(l.take q++[l[q]])++l.drop (q+1):=by rw[<-e1,List.take_append_drop]
 rw[e2,zHi,zHi,h,zOZ,hf]
theorem zKn(p:List It):∀(a b:List St) (env:List Fi),tgSs p env (a++b)=match tgSs p env a with
  |(e,some f)=>(e,some f)
  |(e,none)=>tgSs p e b
 | [],b,env=>by rw[List.nil_append,tgSs]
 |s::a,b,env=>by
  rw[List.cons_append,tgSs,tgSs]
  generalize tgS p env s=r
  obtain⟨e,o⟩:=r
  cases o with
  |some f=>rfl
  |none=>exact zKn p a b e
theorem zV5(p:List It)(env:List Fi)(s:St):tgSs p env [s]=tgS p env s:=by
 rw[tgSs]
 generalize tgS p env s=r
 obtain⟨e,o⟩:=r
 cases o with
 |some f=>rfl
 |none=>simp only;rw[tgSs]
theorem zL0{p:List It}{env:List Fi}{l:List St}{q:Nat}(hq:q<l.length){env1:List Fi}(h:tgSs p env (l.take q)=(env1,none)):tgSs p env (l.take (q+1))=tgS p env1 l[q]/\∀f,(tgS p env1 l[q]).2=some f->tgSs p env l=tgS p env1 l[q]:=by
 have e1:l.take (q+1)=l.take q++[l[q]]:=List.take_succ_eq_append_getElem hq
 have e0:tgSs p env (l.take (q+1))=tgS p env1 l[q]:=by rw[e1,zKn,h];exact zV5 p env1 _
 refine⟨e0,fun f hf=>?_⟩
 have e2:tgSs p env l=tgSs p env (l.take (q+1)++l.drop (q+1)):=by rw[List.take_append_drop]
 rw[e2,zKn,e0]
 generalize tgS p env1 l[q]=r at*
 obtain⟨e,o⟩:=r
 simp only at hf;subst hf;rfl
theorem zKo(p:List It)(oa:BA):∀(a b:List Ar) (env:List Fi),tgAs p oa env (a++b)=match tgAs p oa env a with
  |(e,some f)=>(e,some f)
  |(e,none)=>tgAs p oa env b
 | [],b,env=>by rw[List.nil_append,tgAs]
 |⟨v,n,l⟩::a,b,env=>by
  rw[List.cons_append,tgAs,tgAs]
  generalize tgSs p (if sEq n emS=true then env else env++[⟨n,(zh p oa v).getD zTy⟩]) l=r
  obtain⟨e,o⟩:=r
  cases o with
  |some f=>rfl
  |none=>exact zKo p oa a b env
def armE(p:List It)(oa:BA)(env:List Fi)(a:Ar):List Fi:=if sEq a.name emS=true then env else env++[⟨a.name,(zh p oa a.variant).getD zTy⟩]
theorem zV6(p:List It)(oa:BA)(env:List Fi)(a:Ar):tgAs p oa env [a]=match tgSs p (armE p oa env a) a.body with
  |(e,some f)=>(e,some f)
  |(_,none)=>(env,none):=by
 obtain⟨v,n,b⟩:=a
 rw[tgAs];unfold armE
 generalize tgSs p (if sEq n emS=true then env else env++[⟨n,(zh p oa v).getD zTy⟩]) b=r
 obtain⟨e,o⟩:=r
 cases o with
 |some f=>rfl
 |none=>simp only;rw[tgAs]
theorem zL1(p:List It)(oa:BA):∀(l:List Ar) (env:List Fi) {yc:List Fi},tgAs p oa env l=(yc,none)->yc=env
 | [],env,yc,h=>by rw[tgAs]at h;cases h;rfl
 |⟨v,n,b⟩::l,env,yc,h=>by
  rw[tgAs]at h;split at h
  .cases h
  exact zL1 p oa l env h
theorem zSy{p:List It}{oa:BA}{env:List Fi}{l:List Ar}{q:Nat}(hq:q<l.length)(h:tgAs p oa env (l.take q)=(env,none)):((tgSs p (armE p oa env l[q]) l[q].body).2=none->tgAs p oa env (l.take (q+1))=(env,none))/\∀f,(tgSs p (armE p oa env l[q]) l[q].body).2=some f->tgAs p oa env l=tgSs p (armE p oa env l[q]) l[q].body:=by
 have e1:l.take (q+1)=l.take q++[l[q]]:=List.take_succ_eq_append_getElem hq
 have e0:tgAs p oa env (l.take (q+1))=tgAs p oa env [l[q]]:=by rw[e1,zKo,h]
 have e2:l=l.take (q+1)++l.drop (q+1):=(List.take_append_drop _ _).symm
 rw[zV6]at e0
 generalize hr:tgSs p (armE p oa env l[q]) l[q].body=r at*
 obtain⟨e,o⟩:=r
 refine⟨fun hn=>?_,fun f hf=>?_⟩
 .simp only at hn
  subst hn;exact e0
 simp only at hf
 subst hf;rw[e2,zKo,e0]
theorem zE0{a b:List Fi}(ha:zA3 a)(hb:zA3 b):zA3 (a++b):=fun f hf=>by
 rcases List.mem_append.1 hf with hf|hf
 .exact ha f hf
 exact hb f hf
theorem zIn{nm:BA}{t:Ty}(ht:TySm t):zA3 [⟨nm,t⟩]:=fun f hf=>by
 simp only[List.mem_singleton]at hf;subst hf;exact ht
theorem zIo:∀(nms:List BA) (fs:List Fi),zA3 fs->zA3 (zB9 fs nms)
 | [],fs,h=>by intro f hf;simp[zB9]at hf
 |n::nms,[],h=>by intro f hf;simp[zB9]at hf
 |n::nms,g::fs,h=>by
  intro f hf;simp only[zB9,List.zip_cons_cons,List.map_cons,List.mem_cons]at hf
  rcases hf with rfl|hf
  .exact h g (by simp)
  exact zIo nms fs (fun y hy=>h y (List.mem_cons_of_mem _ hy)) f hf
theorem zIp:∀(nms:List BA) (l:List Ty),(∀u∈l,TySm u)->zA3 (zCA nms l)
 | [],l,h=>by intro f hf;simp[zCA]at hf
 |n::nms,[],h=>by intro f hf;simp[zCA]at hf
 |n::nms,g::l,h=>by
  intro f hf;simp only[zCA,List.zip_cons_cons,List.map_cons,List.mem_cons]at hf
  rcases hf with rfl|hf
  .exact h g (by simp)
  exact zIp nms l (fun y hy=>h y (List.mem_cons_of_mem _ hy)) f hf
theorem zIq{env yc:List Fi}{r:List Fi × Option Flt}(h:zBb env r=(yc,none)):yc=env:=by
 unfold zBb at h;split at h
 .rename_i f hf
  rw[h]at hf;cases hf
 cases h;rfl
theorem zV7{p:List It}(hp:PrSm p){env yc:List Fi}(he:zA3 env){s:St}(hs:StSm s)(h:tgS p env s=(yc,none)):zA3 yc/\yc.length<=env.length+s.nd:=by
 obtain⟨_,_,_,_,Qb,_,va,_,_,_,_,_,_,_⟩:=hs
 have Cd:=stNd s
 rw[zBm]at h;split at h
 .cases h
 rename_i l hl
 have we:=(zSx hp he va.2 hl).1
 have Yc:zA3 env/\env.length<=env.length+s.nd:=⟨he,by omega⟩
 split at h
 .cases h
 split at h
 .cases h
  exact⟨zE0 he (zIn (zNC we)),by simp;omega⟩
 split at h
 .cases h
  refine⟨zE0 he (zIo _ _ fun f hf=>((zJt hp).2 f hf).2),?_⟩
  have:(zB9 ((zAD p s.name).getD []) s.names).length<=s.names.length:=by unfold zB9;simp;omega
  rw[List.length_append];omega
 split at h
 .cases h;exact Yc
 split at h
 .split at h
  .cases h
  have:=zIq h
  subst this;exact Yc
 split at h
 .have:=zL1 p _ _ _ h
  subst this;exact Yc
 split at h
 .injection h with h1 h2
  subst h1;exact Yc
 split at h
 .have:=zIq h
  subst this;exact Yc
 split at h
 .cases h
  refine⟨zE0 he fun f hf=>?_,by simp;omega⟩
  simp only[List.mem_cons,List.not_mem_nil,or_false]at hf
  rcases hf with rfl|rfl
  .exact zNB _ Qb
  exact zNB _ Qb
 have:=zIq h
 subst this;exact Yc
theorem zIr{p:List It}(hp:PrSm p):∀{l:List St} {env yc:List Fi},zA3 env->(∀s∈l,StSm s)->tgSs p env l=(yc,none)->zA3 yc/\yc.length<=env.length+(l.map St.nd).sum
 | [],env,yc,he,hs,h=>by rw[tgSs]at h;cases h;exact⟨he,by simp⟩
 |s::l,env,yc,he,hs,h=>by
  rw[tgSs]at h
  generalize hr:tgS p env s=r at h
  obtain⟨e,o⟩:=r
  cases o with
  |some f=>cases h
  |none=>
   simp only at h
   obtain⟨k1,k2⟩:=zV7 hp he (hs s (by simp)) hr
   obtain⟨k3,k4⟩:=zIr hp k1 (fun y hy=>hs y (List.mem_cons_of_mem _ hy)) h
   refine⟨k3,?_⟩;rw[List.map_cons,List.sum_cons];omega
theorem zKp(f:St->Nat):∀(l:List St) (q:Nat) (hq:q<l.length),((l.take q).map f).sum+f l[q]<=(l.map f).sum
 |s::l,0,hq=>by simp
 |s::l,q+1,hq=>by
  have:=zKp f l q (by simpa using hq)
  simp only[List.take_succ_cons,List.map_cons,List.sum_cons,List.getElem_cons_succ];omega
inductive StG (p:List It):St->Prop
 |mk (s:St):(∀e∈s.u3,∃d,e.whole d=true)->((s.op=1\/s.op=2\/s.op=3\/s.op=6\/s.op=7)->1<=s.u3.length)->(s.op=10->s.u3.length=s.names.length)->(s.op=2->s.names.length<=((zAD p s.name).getD []).length)->
  (∀x∈s.body,StG p x)->(∀x∈s.els,StG p x)->(∀a∈s.arms,∀x∈a.body,StG p x)->StG p s
theorem zHj{p:List It}:∀(l:List St),(∀s∈l,∀σ:Nf,(s.nm p σ).1.fl=[]->StG p s)->∀σ:Nf,(St.nms p l σ).1.fl=[]->∀s∈l,StG p s
 | [],hs,σ,hn,s,h=>by cases h
 |x::l,hs,σ,hn,s,h=>by
  simp only[St.nms]at hn
  rcases List.mem_cons.1 h with rfl|h
  .exact hs s (by simp) σ (zB0 (zBj p (fun s _ σ=>zCS p s σ) (s.nm p σ).1 (l:=l)).1 hn)
  exact zHj l (fun y hy=>hs y (List.mem_cons_of_mem _ hy)) _ hn s h
theorem zD2{p:List It}{l:List St}(hs:∀s∈l,∀σ:Nf,(s.nm p σ).1.fl=[]->StG p s){pos:Int}{names:List BA}{σ:Nf}(hn:(z8 p l pos names σ).fl=[]):(∀s∈l,StG p s)/\σ.fl=[]:=by
 unfold z8 at hn;rw[zFs,zFs]at hn;exact⟨zHj l hs _ hn,zB0 (zAT names pos σ).1 (zB0 (zBj p (fun s _ σ=>zCS p s σ) _).1 hn)⟩
theorem zL2{p:List It}{pos:Int}:∀(l:List Ar),(∀a∈l,∀s∈a.body,∀σ:Nf,(s.nm p σ).1.fl=[]->StG p s)->∀σ:Nf,(l.foldl (fun σ a=>a.nm p pos σ) σ).fl=[]->σ.fl=[]/\∀a∈l,∀s∈a.body,StG p s
 | [],hs,σ,hn=>⟨hn,fun a ha=>by cases ha⟩
 |⟨v,n,b⟩::l,hs,σ,hn=>by
  rw[List.foldl_cons]at hn
  obtain⟨k1,k2⟩:=zL2 l (fun a ha=>hs a (List.mem_cons_of_mem _ ha)) _ hn
  obtain⟨b1,b2⟩:=zD2 (p:=p) (l:=b) (fun s Qc=>hs ⟨v,n,b⟩ (by simp) s Qc) (pos:=pos) (names:=oneN n) (σ:=σ) k1
  refine⟨b2,fun a ha=>?_⟩
  rcases List.mem_cons.1 ha with rfl|ha
  .exact b1
  exact k2 a ha
theorem zY1{p:List It}:∀s:St,(∃d,s.whole d=true)->∀σ:Nf,(s.nm p σ).1.fl=[]->StG p s:=by
 refine St.ind fun s i1 i2 i3 hw σ hn=>?_
 obtain⟨d,hw⟩:=hw
 have hx:∀e∈s.u3,e.whole (d-1)=true:=fun e he=>by
  rw[zC]at hw;simp only[Bool.and_eq_true]at hw
  have hx:=hw.2.2.2.2.2.1
  unfold exsB at hx
  by_cases h6:(s.u3.length:Int)<=6
  .rw[zB4 h6]at hx
   have:=List.all_eq_true.1 hx e he
   simp only[Bool.and_eq_true]at this;exact this.2
  simp[zv,h6]at hx
 rw[zC]at hw;simp only[Bool.and_eq_true,List.all_eq_true,Bool.or_eq_true,decide_eq_true_eq]at hw
 obtain⟨_,Ip,dp,Wt,Xt,_,w1,w2,w3⟩:=hw
 unfold zO at Ip;simp only[Bool.and_eq_true,decide_eq_true_eq]at Ip
 have ca:=Ip.2.2.2.2.1
 have w3:∀a∈s.arms,a.whole (d-1)=true:=by
  by_cases h6:(s.arms.length:Int)<=6
  .rw[zB4 h6]at w3
   simpa using w3
  simp[zv,h6]at w3
 replace i1:=fun x hx=>i1 x hx ⟨_,w1 x hx⟩
 replace i2:=fun x hx=>i2 x hx ⟨_,w2 x hx⟩
 replace i3:=fun a ha x hx=>i3 a ha x hx (by
  have:=w3 a ha
  unfold Ar.whole at this;simp only[Bool.and_eq_true,List.all_eq_true]at this;exact⟨_,this.2.2 x hx⟩)
 have tl:zA4 s.op=false->∀x∈s.body,StG p x:=fun hf x hx=>by
  rcases dp with hb|hb
  .rw[hf]at hb;cases hb
  rw[List.eq_nil_of_length_eq_zero hb]at hx;cases hx
 have wj:zAr s.op=false->∀x∈s.els,StG p x:=fun hf x hx=>by
  rcases Wt with hb|hb
  .rw[hf]at hb;cases hb
  rw[List.eq_nil_of_length_eq_zero hb]at hx;cases hx
 have xj:zAs s.op=false->∀a∈s.arms,∀x∈a.body,StG p x:=fun hf a ha=>by
  rcases Xt with hb|hb
  .rw[hf]at hb;cases hb
  rw[List.eq_nil_of_length_eq_zero hb]at ha;cases ha
 have fc:∀{a:Nf} {l:List Flt},(a.add l).fl=[]->a.fl=[]/\l=[]:=fun {a l} h=>List.append_eq_nil_iff.1 h
 have jc:(s.op=2->zFk p s.name s.names.length=true)->(∀x∈s.body,StG p x)->(∀x∈s.els,StG p x)->(∀a∈s.arms,∀x∈a.body,StG p x)->StG p s:=fun h2 b1 b2 b3=>by
  refine .mk s (fun e he=>⟨_,hx e he⟩) (fun ho=>?_) (fun ho=>?_) (fun ho=>?_) b1 b2 b3
  .have:zn s.op s.names.length=1:=by
    unfold zn;rw[if_neg (by omega),if_pos (by omega)]
   omega
  .have:zn s.op s.names.length=s.names.length:=by
    unfold zn;rw[if_pos ho]
   omega
  have:=h2 ho
  unfold zFk zDv at this;unfold zAD
  cases hf:zK p s.name with
  |none=>rw[hf]at this;cases this
  |some x=>
   rw[hf]at this
   by_cases hk:x.kind=1
   .simp only[hk,true_or,if_true,Option.getD_some]
    simp[hk]at this;omega
   simp[hk]at this
 rw[stNm]at hn;split at hn
 .rename_i h1
  exact jc (by omega) (tl (by rw[h1];rfl)) (wj (by rw[h1];rfl)) (xj (by rw[h1];rfl))
 rename_i h1
 split at hn
 .rename_i h2
  have k:=fc (zB0 (zAT _ _ _).1 hn)
  exact jc (fun _=>zCG k.2) (tl (by rw[h2];rfl)) (wj (by rw[h2];rfl)) (xj (by rw[h2];rfl))
 rename_i h2
 split at hn
 .rename_i h3
  exact jc (by omega) (tl (by rw[h3];rfl)) (wj (by rw[h3];rfl)) (xj (by rw[h3];rfl))
 rename_i h3
 split at hn
 .rename_i h5
  exact jc (by omega) (tl (by rw[h5];rfl)) (wj (by rw[h5];rfl)) (xj (by rw[h5];rfl))
 rename_i h5
 split at hn
 .rename_i Tc
  exact jc (by omega) (tl (by rw[Tc];rfl)) (wj (by rw[Tc];rfl)) (xj (by rw[Tc];rfl))
 rename_i Tc
 split at hn
 .rename_i h8
  exact jc (by omega) (tl (by rw[h8];rfl)) (wj (by rw[h8];rfl)) (zL2 s.arms i3 _ hn).2
 rename_i h8
 split at hn
 .rename_i h10
  obtain⟨k1,_⟩:=List.append_eq_nil_iff.1 hn
  unfold zB5 at k1;rw[zFs]at k1;exact jc (by omega) (zHj s.body i1 _ k1) (wj (by rw[h10];rfl)) (xj (by rw[h10];rfl))
 rename_i h10
 split at hn
 .rename_i h9
  obtain⟨b1,b2⟩:=zD2 (p:=p) i1 hn
  have e6:zAr s.op=false:=by unfold zAr;simp;omega
  exact jc (by omega) b1 (wj e6) (xj (by unfold zAs;simp;omega))
 rename_i h9
 split at hn
 .rename_i Pg
  obtain⟨b1,b2⟩:=zD2 (p:=p) i1 hn
  exact jc (by omega) b1 (wj (by rw[Pg];rfl)) (xj (by rw[Pg];rfl))
 rename_i Pg
 obtain⟨b1,b2⟩:=zD2 (p:=p) i2 hn
 obtain⟨a1,a2⟩:=zD2 (p:=p) i1 b2
 exact jc (by omega) a1 b1 (xj (by unfold zAs;simp;omega))
theorem zV8{p:List It}(hp:zAC p=true){env:List Fi}{x:Pl}(h:(plT p env x).kind=9):(plT p env x).args.length=1:=by
 unfold plT at h ⊢
 cases hx:zAz p env x with
 |none=>rw[hx]at h;cases h
 |some r=>
  rw[hx]at h;simp only[Option.map_some,Option.getD_some]at h ⊢;unfold zAz at hx
  obtain⟨f,hf,hw⟩:=Option.bind_eq_some_iff.1 hx
  unfold zIX at hw;split at hw
  .rename_i Yt
   have:=zIY hp Yt hw
   rw[zHc,h]at this;simp[zl]at this;exact this.2.1
  cases hw
end Go.Proofs.YtdflkegnmmkkoaaGreatDoor
namespace Go.Proofs.YtdflkegnmmkkoaaGreatDoor
open Go.RowKit _root_.Go.Proofs.Tryz
attribute [local simp] List.replicate List.range List.range.loop
attribute [local simp] zIC zLZ zRv zRw zLY zPC zRu zMc zEm zGk zID zMd zEn zIG zEH zFh zJX
attribute [local simp] zAg zy zBB zAh zAI zAi zBC z5 zo zx zAe zBA zAH zAf zAj zAk zBD zBE zCe
theorem zJw{P:Program}{α β:Type}(s:Sem α)(f:α->Sem β)(a:α)(h:zJ P s=some a):zJ P (s>>=f)=zJ P (f a):=by
 induction s with
 |pure b=>simp[zJ]at h;subst h;rfl
 |program k ih=>exact ih P (by simpa [zJ]using h)
 |mark m k ih=>exact ih (by simpa [zJ]using h)
 |_=>simp[zJ]at h
def fltW(f:Int × Int):Value:=.iface 116 (.agg #[.int .i64 f.1,.int .i64 f.2])
section
variable(f:Int × Int)(dst:Option Tmp)(x:Operand)(ty:TypeId)(pos:String)(after:Array Edge)(guard:Option (Nat × Bool))(fr:List AV)
theorem zbL(a b:Int)(hx:evA fr x= .agg [I a,I b]):genP Tryz.prog ⟨dst,.makeInterface 116 x,ty,pos,after,guard⟩ fr=some (.p (.v (fltW (a,b)))):=by
 have Tk:zEc [I a,I b]=some [.int .i64 a,.int .i64 b]:=rfl
 have v1:zAu (evA fr x)=some (.agg #[.int .i64 a,.int .i64 b]):=by rw[hx];simp[zAu,Tk]
 have h1:(zGh (.makeInterface 116 x)&&zN fr (Op.operands (.makeInterface 116 x)).toList)=true:=by
  show(true&&zN fr [x])=true
  rw[Bool.true_and,zN,zN,v1];rfl
 have ua:zJ Tryz.prog (Instr.makeInterface 116 (.agg #[.int .i64 a,.int .i64 b]))=some (fltW (a,b)):=by kernel_rfl
 have h2:zJ Tryz.prog (execOp (fun z=>(zAu (evA fr z)).getD undef) ⟨dst,.makeInterface 116 x,ty,pos,after,guard⟩)=some (.value (fltW (a,b))):=by
  have e1:(zAu (evA fr x)).getD undef= .agg #[.int .i64 a,.int .i64 b]:=by rw[v1];rfl
  unfold execOp;simp only[e1];exact zBh _ _ _ ua
 unfold genP;simp only;rw[if_pos h1,h2];rfl
theorem zck(hx:evA fr x= .p (.v (fltW f))):genP Tryz.prog ⟨dst,.typeAssert x 20 116 true,ty,pos,after,guard⟩ fr=some (.tup [.agg [I f.1,I f.2],B true]):=by
 have v1:zAu (evA fr x)=some (fltW f):=by rw[hx];rfl
 have h1:(zGh (.typeAssert x 20 116 true)&&zN fr (Op.operands (.typeAssert x 20 116 true)).toList)=true:=by
  show(true&&zN fr [x])=true
  rw[Bool.true_and,zN,zN,v1];rfl
 have ua:zJ Tryz.prog (Instr.typeAssert (fltW f) 20 116 true)=some (.tuple #[.agg #[.int .i64 f.1,.int .i64 f.2],.bool true]):=by
  obtain⟨a,b⟩:=f
  kernel_rfl
 have h2:zJ Tryz.prog (execOp (fun z=>(zAu (evA fr z)).getD undef) ⟨dst,.typeAssert x 20 116 true,ty,pos,after,guard⟩)=some (.value (.tuple #[.agg #[.int .i64 f.1,.int .i64 f.2],.bool true])):=by
  have e1:(zAu (evA fr x)).getD undef=fltW f:=by rw[v1];rfl
  unfold execOp;simp only[e1];exact zBh _ _ _ ua
 unfold genP;simp only;rw[if_pos h1,h2];rfl
theorem zcl(y:Operand)(k:TypeId)(hx:evA fr x= .p (.v (fltW f)))(hy:evA fr y= .p (.v .nilIface)):genP Tryz.prog ⟨dst,.binOp .neq 20 x y k,ty,pos,after,guard⟩ fr=some (B true):=by
 have v1:zAu (evA fr x)=some (fltW f):=by rw[hx];rfl
 have v2:zAu (evA fr y)=some .nilIface:=by rw[hy];rfl
 have h1:(zGh (.binOp .neq 20 x y k)&&zN fr (Op.operands (.binOp .neq 20 x y k)).toList)=true:=by
  show(true&&zN fr [x,y])=true
  rw[Bool.true_and,zN,zN,zN,v1,v2];rfl
 have ua:zJ Tryz.prog (do eqGuard .neq 20 x y (fltW f) .nilIface;binOp .neq 20 (fltW f) .nilIface:Sem Value)=some (.bool true):=by
  obtain⟨a,b⟩:=f
  have h1:zJ Tryz.prog (eqGuard .neq 20 x y (fltW (a,b)) .nilIface)=some ():=by kernel_rfl
  rw[zJw _ _ _ h1]
  show zJ Tryz.prog (binOp .neq 20 (fltW (a,b)) .nilIface)=some (.bool true)
  kernel_rfl
 have h2:zJ Tryz.prog (execOp (fun z=>(zAu (evA fr z)).getD undef) ⟨dst,.binOp .neq 20 x y k,ty,pos,after,guard⟩)=some (.value (.bool true)):=by
  have e1:(zAu (evA fr x)).getD undef=fltW f:=by rw[v1];rfl
  have e2:(zAu (evA fr y)).getD undef= .nilIface:=by rw[v2];rfl
  unfold execOp;simp only[e1,e2];exact zBh _ _ _ ua
 unfold genP;simp only;rw[if_pos h1,h2];rfl
theorem zcm(n:Nat)(k:TypeId)(hx:evA fr (.tmp n)= .p (.v .nilIface)):genP Tryz.prog ⟨dst,.binOp .neq 20 (.tmp n) (.const .nilIface) k,ty,pos,after,guard⟩ fr=some (B false):=by
 have v1:zAu (evA fr (.tmp n))=some .nilIface:=by rw[hx];rfl
 have v2:zAu (evA fr (.const .nilIface))=some .nilIface:=by rfl
 have h1:(zGh (.binOp .neq 20 (.tmp n) (.const .nilIface) k)&&zN fr (Op.operands (.binOp .neq 20 (.tmp n) (.const .nilIface) k)).toList)=true:=by
  show(true&&zN fr [.tmp n,.const .nilIface])=true
  rw[Bool.true_and,zN,zN,zN,v1,v2];rfl
 have ua:zJ Tryz.prog (do eqGuard .neq 20 (.tmp n) (.const .nilIface) .nilIface .nilIface;binOp .neq 20 .nilIface .nilIface:Sem Value)=some (.bool false):=by
  have h1:zJ Tryz.prog (eqGuard .neq 20 (.tmp n) (.const .nilIface) .nilIface .nilIface)=some ():=by kernel_rfl
  rw[zJw _ _ _ h1]
  show zJ Tryz.prog (binOp .neq 20 .nilIface .nilIface)=some (.bool false)
  kernel_rfl
 have h2:zJ Tryz.prog (execOp (fun z=>(zAu (evA fr z)).getD undef) ⟨dst,.binOp .neq 20 (.tmp n) (.const .nilIface) k,ty,pos,after,guard⟩)=some (.value (.bool false)):=by
  have e1:(zAu (evA fr (.tmp n))).getD undef= .nilIface:=by rw[v1];rfl
  have e2:(zAu (evA fr (.const .nilIface))).getD undef= .nilIface:=by rw[v2];rfl
  unfold execOp;simp only[e1,e2];exact zBh _ _ _ ua
 unfold genP;simp only;rw[if_pos h1,h2];rfl
end
theorem zf(b:Bool)(e pos:Int)(S:ASt):zM Tryz.prog 37 [B b,I e,I pos] S (if b=true then .ret .un else .thr (fltW (e,pos))) S:=by
 refine zM.intro mixed call37 func37 rfl ?_
 have e1:=zbL (a:=e) (b:=pos)
 cases b with
 |true=>simp[ntmps37]
 |false=>simp[ntmps37,e1,fltW]
def zSz(u u':FrameMode)(x0:Value):Prop:=∀(c₀:Frame) (cs:List Frame),c₀.mode=u->recoverD (c₀::cs)=some (x0,{c₀ with mode:=u'}::cs)\/(recoverD (c₀::cs)=none/\x0= .nilIface/\u'=u)
theorem zLX.catch{P:Program}{K:FuncId}{args:List AV}{S S':ASt}{fn:Func}{u u':FrameMode}{x0:Value}{t s:Nat}{o0 o1:Oper}{y:Code}{id:Nat}{Zt:Array TypeId}(hm:P.follows .mixedOrders=true)(hK:∀xs w,(callFunc K xs).run P w= .ok (.enter K xs) w)(hf:P.funcs[K]? =some fn)(hb:fn.body=some (.seq (.region id #[o0,o1] false) y))(ac:fn.results= #[])
  (h0:o0.op= .call ⟨.builtin .recover,#[],Zt⟩) (au:o0.dst=some t) (bu:o0.guard=none) (h1:o1.op= .assign (.tmp t)) (cu:o1.dst=some s) (du:o1.guard=none) (Ik:zSz u u' x0) (Sn:atom x0=true)
  (h:zBY P y (putA (putA (AV.ups 1 args++List.replicate (fn.ntmps-args.length) .un) (some t) (.p (.v x0))) (some s) (evA (putA (AV.ups 1 args++List.replicate (fn.ntmps-args.length) .un) (some t) (.p (.v x0))) (.tmp t))) ([]::S) (RetD S')):zLX P K args S u u' S':=by
 refine⟨hK,fun Pr φ xs w da hR hne=>?_⟩
 refine callsD_of_wpS hf hb fun c₀ cs hu=>?_
 refine wpS_seq ?_;refine wpS_region ?_
 have hr:List.range (#[o0,o1]:Array Oper).size=[0,1]:=rfl
 have w0:∀g,Region.wanted o0 g=true:=fun g=>by simp[Region.wanted,bu]
 have w1:∀g,Region.wanted o1 g=true:=fun g=>by simp[Region.wanted,du]
 have eu:∀(a:Act),(execOp a.eval o0).run P w= .ok .recover w:=fun a=>by simp[execOp,h0,resolve,invoke,builtin]
 have fu:∀(a:Act),(execOp a.eval o1).run P w= .ok (.value (a.eval (.tmp t))) w:=fun a=>by simp[execOp,h1]
 have jc:∀cs',cs'={c₀ with mode:=u'}::cs->wpOpsS P #[o0,o1] (Exit.thenS (y.wpS P (bodyPostS P fn c₀ cs fun e v w'=>v=u'/\∃x Pr' φ',e= .returned x/\Stp Pr φ w Pr' φ' w'/\Rel Pr' φ' S' w')) (bodyPostS P fn c₀ cs fun e v w'=>v=u'/\∃x Pr' φ',e= .returned x/\Stp Pr φ w Pr' φ' w'/\Rel Pr' φ' S' w')) [1] (({tmps:=xs++Array.replicate (fn.ntmps-xs.size) undef,defers:=[]}:Act).put o0.dst x0) cs' w:=fun cs' tc=>by
  subst tc;simp only[wpOpsS]
  have e1:(#[o0,o1]:Array Oper)[1]? =some o1:=rfl
  rw[e1];simp only[w1,if_true,fu,Oper.upon]
  show y.wpS P _ _ _ w
  refine wpS_of_wp ?_
  have Jp:=zEF (n:=fn.ntmps) da
  have Uk:=Jp.put o0.dst (RA.p (RP.v (Pr:=Pr) Sn))
  have Vk:=Uk.put o1.dst (Uk.ev (.tmp t))
  rw[au]at Uk Vk ⊢;rw[cu]at Vk ⊢;refine wp_mono (zDA hm y _ Pr ([]::φ) _ _ ([]::S) w Vk (zC8 hR) (by simp) h) fun e a' w' hp=>?_
  obtain⟨ja,S1,Pr',φ',⟨he,h3⟩,h4,h5,h6,h7⟩:=hp
  have Vb:φ'≠ []:=zP h6 (by simp)
  obtain⟨l',φ1,rfl⟩:=List.exists_cons_of_ne_nil Vb
  have Ic:S1≠ []:=fun h0=>by have:=h5.shape;rw[h0]at this;simp at this
  obtain⟨L',S2,rfl⟩:=List.exists_cons_of_ne_nil Ic
  simp only[List.tail_cons]at h3;subst h3
  have hd:a'.defers=[]:=by rw[h7,zAW,zAW]
  have key:a'.defers=[]/\∃v,{c₀ with mode:=u'}::cs={c₀ with mode:=v}::cs/\∃z,(results fn a'.tmps).run P w'= .ok z w'/\(v=u'/\∃x Pr' φ',Ending.returned z= .returned x/\Stp Pr φ w Pr' φ' w'/\Rel Pr' φ' S2 w'):=
   ⟨hd,u',rfl,_,zEl ac _ _,rfl,_,Pr',φ1,rfl,zDk h6,zCP h5⟩
  rcases he with rfl|rfl
  .exact key
  exact key
 rw[hr];unfold wpOpsS
 have e0:(#[o0,o1]:Array Oper)[0]? =some o0:=rfl
 rw[e0];simp only[w0,if_true,eu]
 rcases Ik c₀ cs hu with hc|⟨hc,rfl,rfl⟩
 .rw[hc]
  exact jc _ rfl
 rw[hc]
 refine jc _ ?_;rw[<-hu]
theorem zP3(v:Value):zSz (.panicking (zDI v)) (.panicking [{v,recovered:=true}]) v:=fun c₀ cs hu=>.inl (by
 unfold recoverD;simp only[hu,zDI])
theorem zP4:zSz .returning .returning .nilIface:=fun c₀ cs hu=>.inr ⟨by
 unfold recoverD;simp only[hu],rfl,rfl⟩
theorem zP5(j:Nat)(S:ASt):zLX Tryz.prog 72 [.ptr 0 j 0] S .returning .returning S:=by
 refine zLX.catch mixed call72 func72 rfl rfl rfl rfl rfl rfl rfl rfl zP4 rfl ?_
 have e2:=zcm
 simp[ntmps72,zKJ,e2]
theorem zP6(f:Int × Int)(j:Nat)(v0:AV)(S:ASt)(hj:get2 S 0 j=some (.cells [v0] 27)):zLX Tryz.prog 72 [.ptr 0 j 0] S (.panicking (zDI (fltW f))) (.panicking [{v:=fltW f,recovered:=true}]) (set2 S 0 j (.cells [.p (.sl 2 [[.v (.int .i64 f.1),.v (.int .i64 f.2)]])] 27)):=by
 refine zLX.catch mixed call72 func72 rfl rfl rfl rfl rfl rfl rfl rfl (zP3 (fltW f)) rfl ?_
 have e1:=zck f
 have e2:=zcl f
 generalize fltW f=W at*
 simp[ntmps72,zKJ,e1,e2,hj]
def zbM(gc:ARes)(r:AV):Prop:=match gc with
 | .ret _=>r=nilS
 | .thr v=>∃f:Int × Int,v=fltW f/\r= .p (.sl 2 [[.v (.int .i64 f.1),.v (.int .i64 f.2)]])
attribute [local simp] zU9 zRx zPD zRs settle
theorem zS0(K:Nat)(caps:List AV)(S S':ASt)(gc:ARes)(r:AV)(ac:zbM gc r)(h:∀L,zM Tryz.prog K (AV.ups 1 caps) (L::S) gc (L::S')):ADet Tryz.prog 34 [.fn (.func K) [] caps] S r S':=by
 refine ADet.introRv mixed call34 func34 rfl ?_;simp[ntmps34];refine cq (h _) ?_
 cases gc with
 |ret x=>
  obtain rfl:r=nilS:=ac
  simp
  exact⟨_,⟨_,zP5 0 _,rfl⟩,_,rfl,rfl,rfl⟩
 |thr v=>
  obtain⟨f,rfl,rfl⟩:=ac
  simp;exact⟨_,⟨_,zP6 f 0 _ _ rfl,rfl⟩,_,rfl,rfl,rfl⟩
end Go.Proofs.YtdflkegnmmkkoaaGreatDoor
namespace Go.Proofs.YtdflkegnmmkkoaaGreatDoor
open Go.RowKit _root_.Go.Proofs.Tryz
attribute [local simp] List.replicate List.range List.range.loop
theorem zM.sub{P:Program}{K:FuncId}{args ge:List AV}{S S':ASt}{gc:ARes}(hl:LeAs ge args)(h:zM P K args S gc S'):zM P K ge S gc S':=
 ⟨h.1,fun Pr φ xs w da hR hne=>h.2 Pr φ xs w (by
  obtain⟨h1,h2⟩:=(zEE (Pr:=Pr) (φ:=φ)).2 hl
  refine⟨by rw[<-h1];exact da.1,fun j c x hc hx=>?_⟩
  obtain⟨c',h3,h4⟩:=h2 j c hc
  exact h4 (da.2 j c' x h3 hx)) hR hne⟩
theorem ADet.lessTup{P:Program}{F:FuncId}{xs:List AV}{S S':ASt}{l l':List AV}(ta:LeAs l l')(h:ADet P F xs S (.tup l) S'):ADet P F xs S (.tup l') S':=
 ⟨h.1,fun Pr φ ys w da hR hne=>(h.2 Pr φ ys w da hR hne).mono fun e w' hp=>by
  obtain⟨x,Pr',φ',h1,h2,h3,h4⟩:=hp
  refine⟨x,Pr',φ',h1,h2,h3,?_⟩
  cases h4 with
  |tup k1 k2=>
   obtain⟨m1,m2⟩:=(zEE (Pr:=Pr') (φ:=φ')).2 ta
   refine .tup (by rw[<-m1];exact k1) fun j c y hc hy=>?_
   obtain⟨c',n1,n2⟩:=m2 j c hc
   exact n2 (k2 j c' y n1 hy)⟩
theorem zbN{Pr:Prot}{φ:Fi2}{S:ASt}{w:World}(h:Rel Pr φ S w){d i:Nat}{cs cs':List AV}{t:TypeId}(ho:get2 S d i=some (.cells cs t))(ta:LeAs cs cs'):Rel Pr φ (set2 S d i (.cells cs' t)) w:=by
 obtain⟨e,he,Ya,g,xs,hg,ma,hl,hc,pb⟩:=h.obj d i _ ho
 refine⟨fun d' j o hj=>?_,h.dis,h.lt,h.pr,h.tb,by rw[zBr];exact h.shape⟩
 rw[zQ _ ho]at hj;split at hj
 .rename_i hc'
  obtain⟨rfl,rfl⟩:=hc'
  cases hj
  obtain⟨m1,m2⟩:=(zEE (Pr:=Pr) (φ:=φ.drop d')).2 ta
  refine⟨e,he,Ya,g,xs,hg,ma,by rw[<-m1];exact hl,fun j c x h1 h2=>?_,pb⟩
  obtain⟨c',n1,n2⟩:=m2 j c h1
  exact n2 (hc j c' x n1 h2)
 exact h.obj d' j o hj
theorem zM.subS{P:Program}{K:FuncId}{args:List AV}{S S':ASt}{gc:ARes}{d i:Nat}{cs cs':List AV}{t:TypeId}(ho:get2 S d i=some (.cells cs t))(ta:LeAs cs cs')(h:zM P K args (set2 S d i (.cells cs' t)) gc S'):zM P K args S gc S':=
 ⟨h.1,fun Pr φ xs w da hR hne=>h.2 Pr φ xs w da (zbN hR ho ta) hne⟩
theorem zCt{l m:List Ty}(h:l≠m):eqTs l m=false:=by
 cases he:eqTs l m with
 |false=>rfl
 |true=>exact absurd ((zHf l m).1 he) h
theorem zE1{l m:List Ty}(h:l=m):eqTs l m=true:=(zHf l m).2 h
theorem zV9(K:Nat)(l m:List Ty)(S:ASt)(hc:∀x∈l,∀(y:Ty) (L:List AObj),ADet Tryz.prog K [tyV x,tyV y] (L::S) (B (eqT x y)) (L::S)):ADet Tryz.prog 98 [.p (.sl 3 (l.map Ty.enc)),.p (.sl 3 (m.map Ty.enc)),.fn (.func K) [] []] S (B (eqTs l m)) S:=by
 refine ADet.okP call98 0 rfl fun na=>?_
 have ca:=okl na
 refine ADet.intro mixed call98 func98 rfl ?_
 by_cases hl:l.length=m.length
 .simp[ntmps98,hl]
  refine zF (fun q:Nat=>q<=m.length/\∀i (h:i<l.length) (h':i<m.length),i<q->l[i]=m[i]) (fun q=>([.p (.sl 3 (l.map Ty.enc)),.p (.sl 3 (m.map Ty.enc)),.fn (.func K) [] []]++(List.replicate 12 .any++([.p (.sl 3 (l.map Ty.enc)),I m.length,I q]++List.replicate 14 .any)))) (fun q=>[]::S) (fun q=>m.length-q) 0 ⟨Nat.zero_le _,fun i h h' hi=>by omega⟩ ?_ ?_ ?_
  .simp
  .simp
  rintro q ⟨hq,ia⟩
  by_cases hlt:q<m.length
  .have aa:(q:Int)<(m.length:Int):=by omega
   have Za:q<l.length:=by omega
   have hw:=zB hlt (by omega)
   have Ae:=hc l[q] (List.getElem_mem Za) m[q]
   have Xa:l[q]=m[q]->∀i (h:i<l.length) (h':i<m.length),i<q+1->l[i]=m[i]:=fun he i h h' hi=>by
    by_cases Mg:i=q
    .subst Mg;exact he
    exact ia i h h' (by omega)
   have hne:l[q]≠m[q]->l≠m:=fun he Zj=>by
    subst Zj;exact he rfl
   have heq:=zFr l[q] m[q]
   generalize yf:l[q]=x at*
   generalize Xg:m[q]=y at*
   simp[hlt,aa,Za,yf,Xg,zd];refine cq (Ae _) ?_
   cases Ub:eqT x y with
   |true=>
    simp
    exact⟨q+1,⟨by omega,Xa (heq.1 Ub)⟩,by omega,hw⟩
   |false=>
    rw[zCt (hne fun h=>by rw[heq.2 h]at Ub;cases Ub)]
    simp
  have aa:¬(q:Int)<(m.length:Int):=by omega
  rw[zE1 (List.ext_getElem hl fun i h h'=>ia i h h' (by omega))]
  simp[aa]
 have mg:¬(l.length:Int)=(m.length:Int):=by omega
 rw[zCt fun h=>hl (by rw[h])]
 simp[ntmps98,hl,mg]
theorem zbO(t u:Ty):eqT t u=((t.kind==u.kind)&&(sEq t.name u.name&&eqTs t.args u.args)):=by
 cases t;cases u;rw[eqT];rfl
theorem zcn:∀(t u:Ty) (S:ASt),ADet Tryz.prog 43 [tyV t,tyV u] S (B (eqT t u)) S:=by
 refine Ty.ind fun t ih u S=>?_
 have eC:=fun L=>zV9 43 t.args u.args (L::S) fun x hx y M=>ih x hx y _
 rw[zbO];refine ADet.intro mixed call43 func43 rfl ?_
 by_cases hk:t.kind=u.kind
 .cases hs:sEq t.name u.name with
  |false=>simp[ntmps43,hk,hs]
  |true=>
   simp[ntmps43,hk,hs];refine cq (eC _) ?_;simp
 have dc:(t.kind==u.kind)=false:=by simpa using hk
 simp[ntmps43,dc]
theorem zDQ(t u:Ty)(S:ASt):ADet Tryz.prog 16 [tyV t,tyV u] S (B (eqT t u)) S:=by
 have eC:=fun S=>zcn t u S
 refine ADet.intro mixed call16 func16 rfl ?_;simp[ntmps16];refine cq (eC _) ?_;simp
theorem zFv(k:Int)(t:Ty)(S:ASt):ADet Tryz.prog 77 [U k,tyV t] S (tyV (inTy k t)) S:=by
 refine ADet.intro mixed call77 func77 rfl ?_;simp[ntmps77,inTy,Ty.kind,Ty.name,Ty.args];rw[zd];rfl
theorem zL3(op:Int)(S:ASt):ADet Tryz.prog 80 [U op] S (U (zBl op)) S:=by
 refine ADet.intro mixed call80 func80 rfl ?_
 by_cases h1:op=21
 .simp[ntmps80,zBl,h1]
 by_cases h2:op=26
 .simp[ntmps80,zBl,h2]
 by_cases h3:op=27
 .simp[ntmps80,zBl,h3]
 by_cases h4:op=29
 .simp[ntmps80,zBl,h4]
 have e1:(op==21)=false:=by simpa using h1
 have e2:(op==26)=false:=by simpa using h2
 have e3:(op==27)=false:=by simpa using h3
 have e4:(op==29)=false:=by simpa using h4
 simp[ntmps80,zBl,e1,e2,e3,e4,h1,h2,h3,h4]
theorem zS1(op:Int)(S:ASt):ADet Tryz.prog 81 [U op] S (.tup [U (zBF op).1,B (zBF op).2]) S:=by
 refine ADet.intro mixed call81 func81 rfl ?_
 by_cases h1:op=22
 .simp[ntmps81,zBF,h1]
 by_cases h2:op=30
 .simp[ntmps81,zBF,h2]
 by_cases h3:op=24
 .simp[ntmps81,zBF,h3]
 by_cases h4:op=25
 .simp[ntmps81,zBF,h4]
 by_cases h5:op=35
 .simp[ntmps81,zBF,h5]
 by_cases h6:op=36
 .simp[ntmps81,zBF,h6]
 have e1:(op==22)=false:=by simpa using h1
 have e2:(op==30)=false:=by simpa using h2
 have e3:(op==24)=false:=by simpa using h3
 have e4:(op==25)=false:=by simpa using h4
 have e5:(op==35)=false:=by simpa using h5
 have e6:(op==36)=false:=by simpa using h6
 simp[ntmps81,zBF,e1,e2,e3,e4,e5,e6,h1,h2,h3,h4,h5,h6]
def zY2:AV:=.agg [U 1,U 1,U 2,U 2,U 1,U 1,U 1,U 1,U 1,U 1,U 1,U 1,U 1,U 1,U 1,U 2,U 1,U 2,U 2,U 2,U 2,U 2]
theorem zbP(S:ASt):ADet Tryz.prog 78 [] S zY2 S:=by
 refine ADet.intro mixed call78 func78 rfl ?_;simp[ntmps78,zY2]
def fnT(p:List It)(env:List Fi):AObj:=.cells [.p (prog p),.p (.sl 4 (env.map Fi.enc))] 76
def TAt(p:List It)(S:ASt)(d j:Nat)(env:List Fi):Prop:=get2 S d j=some (fnT p env)
theorem zWA{env:List Fi}{nm:BA}{q:Nat}(hq:q<env.length)(h:∀i (hi:i<env.length),q<i->sEq env[i].name nm=false)(hs:sEq env[q].name nm=true):zEv env nm=some env[q]:=by
 unfold zEv;rw[List.find?_eq_some_iff_getElem];refine⟨hs,env.length-1-q,by simp;omega,?_,fun j hj=>?_⟩
 .rw[List.getElem_reverse]
  congr 1
  omega
 rw[List.getElem_reverse]
 rw[h _ (by omega) (by omega)]
 rfl
theorem zS2{env:List Fi}{nm:BA}(h:∀i (hi:i<env.length),sEq env[i].name nm=false):zEv env nm=none:=by
 unfold zEv;rw[List.find?_eq_none];intro x hx
 obtain⟨i,hi,rfl⟩:=List.getElem_of_mem (by simpa using hx:x∈env)
 rw[h i hi];simp
attribute [local simp] List.forall_mem_cons List.contains_cons List.contains_nil List.find?
def jI:Nat->Int
 |0=>-1
 |i+1=>(i:Int)
theorem zS3{i:Nat}(h:i<=4000000000):IntKind.i64.wrap ((i:Int)-1)=jI i:=by
 cases i with
 |zero=>decide
 |succ i=>
  have:((i+1:Nat):Int)-1=(i:Int):=by omega
  rw[this,jI]
  have e:=zB (q:=i) (n:=i+1) (by omega) (by unfold maxLen;omega)
  unfold IntKind.wrap at e ⊢;simp[IntKind.bits,IntKind.signed]at e ⊢;omega
theorem zGN(p:List It)(hp:PrSm p)(env:List Fi)(he:zA3 env)(hl:env.length<=4000000000)(x:Pl)(S:ASt)(d j:Nat)(h:TAt p S d j env):ADet Tryz.prog 54 [.ptr d j 0,plV x] S (zBv (zAz p env x)) S:=by
 unfold TAt fnT at h
 have hm:env.length<=maxLen:=by unfold maxLen;omega
 refine ADet.intro mixed call54 func54 rfl ?_
 have Ld:=zS3 (i:=env.length) hl
 simp[ntmps54,h,Ld,strs];refine zF (fun q:Nat=>q<=env.length/\∀i (hi:i<env.length),q<=i->sEq env[i].name x.name=false) (fun q=>([.ptr (d+1) j 0,.any,.any,.ptr 0 0 0,.ptr 0 1 0,B false,B false,I (jI q)]++List.replicate 40 .any)) (fun q=>[.cells [Sg x.name,.p (.sl 1 (x.path.map fun s=>[pS s]))] 40,.cells [U 0,Sg emS,nilS] 36]::S) (fun q=>q) env.length ⟨Nat.le_refl _,fun i hi h=>by omega⟩ ?_ ?_ ?_
 .simp
 .simp
 rintro q ⟨hq,ia⟩
 cases q with
 |zero=>
  have hn:zAz p env x=none:=by
   unfold zAz;rw[zS2 fun i hi=>ia i hi (Nat.zero_le _)]
   rfl
  rw[hn]
  simp[jI,zBv]
 |succ i=>
  have hi:i<env.length:=by omega
  have Fc:(0:Int)<=(i:Int):=by omega
  have Ee:=zS3 (i:=i) (by omega)
  have Mm:=zWA (nm:=x.name) hi fun k hk hik=>ia k hk (by omega)
  have Kp:=he env[i] (List.getElem_mem hi)
  have Xa:sEq env[i].name x.name=false->∀k (hk:k<env.length),i<=k->sEq env[k].name x.name=false:=fun hs k hk hik=>by
   by_cases gu:k=i
   .subst gu;exact hs
   exact ia k hk (by omega)
  generalize Ng:env[i]=f at*
  have wC:=fun S=>zce p hp f.type Kp x.path S
  simp only[strs]at wC;simp[jI,Fc];refine dB [] (by kernel_rfl) ?_
  cases hs:sEq f.name x.name with
  |false=>
   simp[h,hi,Fc,Ng,Fi.enc,hs,Ee]
   exact⟨i,⟨by omega,Xa hs⟩,by omega,rfl⟩
  |true=>
   have Ma:zAz p env x=zIX p f.type x.path:=by
    unfold zAz;rw[Mm hs];rfl
   simp[h,hi,Fc,Ng,Fi.enc,hs];refine dB [] (by kernel_rfl) ?_
   simp[h,hi,Fc,Ng,Fi.enc,zd,prog];refine cq (wC _) ?_;rw[Ma]
   cases zIX p f.type x.path with
   |none=>simp[zBv]
   |some r=>
    obtain⟨u,w⟩:=r
    simp[zBv]
theorem zbQ(p:List It)(env:List Fi)(hl:env.length+1<=4294967296)(nm:BA)(t:Ty)(S:ASt)(d j:Nat)(h:TAt p S d j env):ADet Tryz.prog 73 [.ptr d j 0,Sg nm,tyV t] S .un (set2 S d j (fnT p (env++[⟨nm,t⟩]))):=by
 unfold TAt fnT at h;refine ADet.intro mixed call73 func73 rfl ?_;simp[ntmps73];refine dB [(4,19),(8,19),(13,19)] (by kernel_rfl) ?_
 have we:env.length<=4294967295:=by omega
 simp[h,fnT,Fi.enc,zd,we]
def isT(nm:BA)(x:It):Bool:=(decide (x.kind≠3))&&sEq x.name nm
theorem zOa(p:List It)(hp:PrSm p)(env:List Fi)(k:Int)(nm:BA)(S:ASt)(d j:Nat)(h:TAt p S d j env):ADet Tryz.prog 123 [.ptr d j 0,U k,Sg nm] S (.tup [.p (.sl 4 ((zBG p k nm).1.map Fi.enc)),B (zBG p k nm).2]) S:=by
 unfold TAt fnT at h
 have tC:∀S,ADet Tryz.prog 74 [.agg [.p (prog p)],Sg nm] S (.tup [.p (.sl 4 (((zAD p nm).getD []).map Fi.enc)),B (zAD p nm).isSome]) S:=fun S=>by
  have:=zGp p hp nm S
  cases hf:zAD p nm with
  |none=>rw[hf]at this;exact this.lessTup (.cons (.p (.nil 4)) (.refl _))
  |some l=>rw[hf]at this;exact this
 simp only[prog]at tC h
 have ym:p.length<=20000:=hp.1
 have key:∀(r:List AV),(∀x,zK p nm=some x->r=[.p (.sl 4 (((zAD p nm).getD []).map Fi.enc)),B (decide (x.kind=k))])->(zK p nm=none->r=[nilS,B false])->ADet Tryz.prog 123 [.ptr d j 0,U k,Sg nm] S (.tup r) S:=fun r mn Vc=>by
  refine ADet.intro mixed call123 func123 rfl ?_;simp[ntmps123,h];refine zF (fun q:Nat=>q<=p.length/\∀i (hi:i<p.length),i<q->isT nm p[i]=false) (fun q=>([.ptr (d+1) j 0,U k,Sg nm,.any,.any,.any,nilS,B false,.any,.any,.any,.any,.any,.any,.any,.any,.p (.sl 16 (p.map It.enc)),I p.length,I q]++List.replicate 27 .any)) (fun q=>[]::S) (fun q=>p.length-q) 0 ⟨Nat.zero_le _,fun i hi h=>by omega⟩ ?_ ?_ ?_
  .simp
  .simp
  rintro q ⟨hq,ie⟩
  by_cases hlt:q<p.length
  .have aa:(q:Int)<(p.length:Int):=by omega
   have Ue:=zB hlt (by unfold maxLen;omega)
   have Xa:isT nm p[q]=false->∀i (hi:i<p.length),i<q+1->isT nm p[i]=false:=fun hx i hi Mg=>by
    by_cases Am:i=q
    .subst Am;exact hx
    exact ie i hi (by omega)
   have cd:isT nm p[q]=true->zK p nm=some p[q]:=fun hx=>by
    show p.find? (isT nm)=_
    rw[List.find?_eq_some_iff_getElem];exact⟨hx,q,hlt,rfl,fun i hi=>by rw[ie i (by omega) hi];rfl⟩
   generalize he:p[q]=x at*
   by_cases hk:x.kind=3
   .have dc:(x.kind !=3)=false:=by simp[hk]
    simp[hlt,aa,It.enc,hk,dc,he];exact⟨q+1,⟨by omega,Xa (by simp[isT,hk])⟩,by omega,Ue⟩
   have dc:(x.kind !=3)=true:=by simpa using hk
   cases hs:sEq x.name nm with
   |false=>
    simp[hlt,aa,It.enc,dc,hs,he]
    exact⟨q+1,⟨by omega,Xa (by simp[isT,hs])⟩,by omega,Ue⟩
   |true=>
    rw[mn x (cd (by simp[isT,hk,hs]))]
    simp[hlt,aa,It.enc,dc,hs,he,h];refine cq (tC _) ?_
    by_cases Rg:x.kind=k
    .simp
     refine dB [] (by kernel_rfl) ?_
     simp[Rg]
    have Lp:(x.kind==k)=false:=by simpa using Rg
    simp;refine dB [] (by kernel_rfl) ?_
    simp[Rg,Lp]
  have aa:¬(q:Int)<(p.length:Int):=by omega
  have cd:zK p nm=none:=by
   show p.find? (isT nm)=_
   rw[List.find?_eq_none];intro x hx
   obtain⟨i,hi,rfl⟩:=List.getElem_of_mem hx
   rw[ie i hi (by omega)]
   simp
  rw[Vc cd];simp[aa]
 unfold zBG
 cases hf:zK p nm with
 |none=>exact(key [nilS,B false] (fun x h=>by rw[hf]at h;cases h) fun _=>rfl).lessTup (.cons (.p (.nil 4)) (.refl _))
 |some x=>exact key _ (fun y h=>by rw[hf]at h;cases h;rfl) fun h=>by rw[hf]at h;cases h
def payT:Option Ty->AV
 |some t=>.tup [tyV t,B true]
 |none=>.tup [tyZ,B false]
theorem zFP(p:List It)(hp:PrSm p)(env:List Fi)(oa v:BA)(S:ASt)(d j:Nat)(h:TAt p S d j env):ADet Tryz.prog 76 [.ptr d j 0,Sg oa,Sg v] S (payT (zh p oa v)) S:=by
 have fC:=fun L=>zOa p hp env 2 oa (L::S) (d+1) j h
 have xa:=zJu hp (k:=2) (nm:=oa)
 unfold zh
 generalize ud:(zBG p 2 oa).1=l at*
 generalize (zBG p 2 oa).2=b at*
 have mf:l.length<=20000:=xa.1
 refine ADet.intro mixed call76 func76 rfl ?_;simp[ntmps76];refine cq (fC _) ?_;simp;refine zF (fun q:Nat=>q<=l.length/\(b=true->∀i (hi:i<l.length),i<q->sEq l[i].name v=false)) (fun q=>([.any,.any,Sg v,.any,.any,.any,.ptr 0 0 0,B false,.any,B b,.any,.any,.any,.any,.any,.any,.any,.any,.p (.sl 4 (l.map Fi.enc)),I l.length,I q]++List.replicate 14 .any)) (fun q=>[.cells [U 0,Sg emS,nilS] 36]::S) (fun q=>l.length-q) 0 ⟨Nat.zero_le _,fun hb i hi h=>by omega⟩ ?_ ?_ ?_
 .simp
 .simp
 rintro q ⟨hq,ie⟩
 by_cases hlt:q<l.length
 .have aa:(q:Int)<(l.length:Int):=by omega
  have Ue:=zB hlt (by unfold maxLen;omega)
  have Xa:(b=true->sEq l[q].name v=false)->b=true->∀i (hi:i<l.length),i<q+1->sEq l[i].name v=false:=fun hx hb i hi Mg=>by
   by_cases Am:i=q
   .subst Am;exact hx hb
   exact ie hb i hi (by omega)
  have cd:b=true->sEq l[q].name v=true->l.find? (fun w=>sEq w.name v)=some l[q]:=fun hb hx=>by
   rw[List.find?_eq_some_iff_getElem];exact⟨hx,q,hlt,rfl,fun i hi=>by rw[ie hb i (by omega) hi];rfl⟩
  generalize he:l[q]=f at*
  cases hb:b with
  |false=>
   simp[hlt,aa,Fi.enc,he]
   exact⟨q+1,by omega,by omega,Ue⟩
  |true=>
   cases hs:sEq f.name v with
   |false=>
    simp[hlt,aa,Fi.enc,he,hs]
    exact⟨q+1,⟨by omega,fun i hi Mg=>Xa (fun _=>hs) hb i hi Mg⟩,by omega,Ue⟩
   |true=>
    rw[if_pos rfl,cd hb hs];simp[hlt,aa,Fi.enc,zd,he,hs,payT]
 have aa:¬(q:Int)<(l.length:Int):=by omega
 have Nm:(if b=true then(l.find? fun w=>sEq w.name v).map Fi.type else none)=none:=by
  split
  .rename_i hb
   have:l.find? (fun w=>sEq w.name v)=none:=by
    rw[List.find?_eq_none];intro x hx
    obtain⟨i,hi,rfl⟩:=List.getElem_of_mem hx
    rw[ie hb i hi (by omega)]
    simp
   rw[this];rfl
  rfl
 rw[Nm];simp[aa,payT]
attribute [local simp] zAg zy zBB zAh zAI zAi zBC z5 zo zx zAe zBA zAH zAf zAj zAk zBD zBE zCe zAR zAS cutL cutO zBM ThrK
def resT(r:Except Int Ty)(pos:Int):ARes:=match r with| .ok t=>.ret (tyV t)| .error n=>.thr (fltW (n,pos))
def zCE(r:Except Int Ty)(pos:Int):ARes:=match r with| .ok t=>.ret (.agg [U t.kind,Sg t.name,nilS])| .error n=>.thr (fltW (n,pos))
theorem zM.less{P:Program}{K:FuncId}{args:List AV}{S S':ASt}{r r':AV}(ta:LeA r r')(h:zM P K args S (.ret r) S'):zM P K args S (.ret r') S':=
 ⟨h.1,fun Pr φ xs w h1 h2 h3=>(h.2 Pr φ xs w h1 h2 h3).mono fun e w' he=>by
  obtain⟨Pr',φ',⟨x,rfl,s3⟩,s1,s2⟩:=he
  exact⟨Pr',φ',⟨x,rfl,zEE.1 ta s3⟩,s1,s2⟩⟩
theorem zM.bare{P:Program}{K:FuncId}{args:List AV}{S S':ASt}{t:Ty}(ht:t.args=[])(h:zM P K args S (.ret (.agg [U t.kind,Sg t.name,nilS])) S'):zM P K args S (.ret (tyV t)) S':=by
 have:tyV t= .agg [U t.kind,Sg t.name,.p (.sl 3 [])]:=by rw[tyV,ht];rfl
 rw[this];exact h.less (.agg (.cons (.refl _) (.cons (.refl _) (.cons (.p (.nil 3)) (.refl _)))))
theorem zM.bareT{P:Program}{K:FuncId}{args:List AV}{S S':ASt}{r:Except Int Ty}{pos:Int}(hr:∀t,r= .ok t->t.args=[])(h:zM P K args S (zCE r pos) S'):zM P K args S (resT r pos) S':=by
 cases r with
 |error n=>exact h
 |ok t=>exact zM.bare (hr t rfl) h
theorem zL4{l:List Ty}(h:l.length=1):∃u,l=[u]:=by
 match l,h with
 | [u],_=>exact⟨u,rfl⟩
theorem zbR(p:List It)(env:List Fi)(op:Int)(pl:Pl)(l:List Ty)(t:Ty)(ht:(if(zBF op).2=true then plT p env pl else l.headD zTy)=t)(h:¬(t.kind=(zBF op).1/\t.args.length=1)):zDf p env op pl l= .error 100:=by
 subst ht;unfold zDf;exact if_pos h
theorem zbS(p:List It)(env:List Fi)(op:Int)(pl:Pl)(l:List Ty)(t u:Ty)(ht:(if(zBF op).2=true then plT p env pl else l.headD zTy)=t)(hk:t.kind=(zBF op).1)(hu:t.args=[u])(hl:¬((zBF op).2=true/\l.length=1)):zDf p env op pl l= .ok u:=by
 have h:¬ ¬(t.kind=(zBF op).1/\t.args.length=1):=by simp[hk,hu]
 have e:(Except.ok (t.args.headD zTy):Except Int Ty)= .ok u:=by rw[hu];rfl
 subst ht;unfold zDf;rw[<-e];exact(if_neg h).trans (if_neg hl)
theorem zbT(p:List It)(env:List Fi)(op:Int)(pl:Pl)(l:List Ty)(t u x:Ty)(ht:(if(zBF op).2=true then plT p env pl else l.headD zTy)=t)(hk:t.kind=(zBF op).1)(hu:t.args=[u])(hb:(zBF op).2=true)(hl:l=[x]):zDf p env op pl l=if eqT u x=true then .ok (zAE 3)else .error 100:=by
 have h:¬ ¬(t.kind=(zBF op).1/\t.args.length=1):=by simp[hk,hu]
 have h2:(zBF op).2=true/\l.length=1:=⟨hb,by rw[hl];rfl⟩
 have e1:t.args.headD zTy=u:=by rw[hu];rfl
 have e2:l.headD zTy=x:=by rw[hl];rfl
 subst ht;unfold zDf
 have hc:eqT ((if(zBF op).2=true then plT p env pl else l.headD zTy).args.headD zTy) (l.headD zTy)=eqT u x:=by rw[e1,e2]
 refine(if_neg h).trans ((if_pos h2).trans ?_)
 show(if eqT ((if(zBF op).2=true then plT p env pl else l.headD zTy).args.headD zTy) (l.headD zTy)=true then(.ok (zAE 3):Except Int Ty)else .error 100)=_
 rw[hc]
section
variable(p:List It)(hp:PrSm p)(env:List Fi)(he:zA3 env)(hl:env.length<=4000000000)(e:Ex)(l:List Ty)(S:ASt)(d j:Nat)(h:TAt p S d j env)
include hp he hl h
theorem zco(h0:0<(zBF e.op).1)(hne:(zBF e.op).2=false->1<=l.length):zM Tryz.prog 82 [.ptr d j 0,exV e,.p (.sl 3 (l.map Ty.enc)),U (zBF e.op).1,B (zBF e.op).2] S (resT (zDf p env e.op e.place l) e.pos) S:=by
 have pC:=fun L=>zGN p hp env he hl e.place (L::S) (d+1) j h
 have sC:=fun t u S=>zDQ t u S
 have T1:=zbR p env e.op e.place l
 have T2:=zbS p env e.op e.place l
 have T3:=zbT p env e.op e.place l
 generalize zDf p env e.op e.place l=R at*
 generalize (zBF e.op).1=k at*
 generalize (zBF e.op).2=b at*
 cases b with
 |false=>
  have hne:=hne rfl
  obtain⟨v,l1,rfl⟩:∃v l1,l=v::l1:=by
   cases l with
   |nil=>simp at hne
   |cons v l1=>exact⟨v,l1,rfl⟩
  by_cases h1:v.kind=k
  .by_cases h2:v.args.length=1
   .obtain⟨u,hu⟩:=zL4 h2
    rw[T2 v u rfl h1 hu (by simp)]
    refine zM.intro mixed call82 func82 rfl ?_;simp[ntmps82,zd,h1,hu];refine cq (zf _ _ _ _) ?_;simp[zd,hu,resT]
   rw[T1 v rfl (by simp[h2])]
   have Cg:¬(v.args.length:Int)=1:=by omega
   refine zM.intro mixed call82 func82 rfl ?_;simp[ntmps82,zd,h1,h2,Cg];refine cq (zf _ _ _ _) ?_;simp[resT]
  rw[T1 v rfl (by simp[h1])]
  have ue:(v.kind==k)=false:=by simpa using h1
  refine zM.intro mixed call82 func82 rfl ?_;simp[ntmps82,zd,ue];refine cq (zf _ _ _ _) ?_
  simp[resT]
 |true=>
  cases Ma:zAz p env e.place with
  |none=>
   have pd:((0:Int)==k)=false:=by simp;omega
   rw[Ma]at pC
   have um:¬(0:Int)=k:=by omega
   have Og:plT p env e.place=zTy:=by unfold plT;rw[Ma];rfl
   rw[T1 zTy Og (fun h=>um h.1)]
   refine zM.intro mixed call82 func82 rfl ?_;simp[ntmps82];refine cq ((pC _).call) ?_;simp[zBv,pd];refine cq (zf _ _ _ _) ?_
   simp[resT]
  |some r=>
   obtain⟨v,w⟩:=r
   rw[Ma]at pC
   have Og:plT p env e.place=v:=by unfold plT;rw[Ma];rfl
   by_cases h1:v.kind=k
   .by_cases h2:v.args.length=1
    .obtain⟨u,hu⟩:=zL4 h2
     by_cases h3:l.length=1
     .obtain⟨x,rfl⟩:=zL4 h3
      rw[T3 v u x Og h1 hu rfl rfl]
      cases Ub:eqT u x with
      |true=>
       rw[if_pos rfl];refine zM.bare (t:=zAE 3) rfl ?_
       refine zM.intro mixed call82 func82 rfl ?_;simp[ntmps82];refine cq ((pC _).call) ?_;simp[zBv,h1,hu];refine cq (zf _ _ _ _) ?_;simp;refine zX (dB [(9,7)] (by kernel_rfl) ?_)
       simp[zd,hu];refine cq (sC _ _ _) ?_;rw[Ub];simp;refine cq ((zf _ _ _ _).det) ?_
       simp[resT,zAE,Ty.kind,Ty.name,Ty.args]
      |false=>
       rw[if_neg (by simp)]
       refine zM.intro mixed call82 func82 rfl ?_;simp[ntmps82];refine cq ((pC _).call) ?_;simp[zBv,h1,hu];refine cq (zf _ _ _ _) ?_;simp;refine z9 10 [10] [(9,7)] (by kernel_rfl) (by kernel_rfl) (by kernel_rfl) ?_
       simp[zd,hu];refine cq (sC _ _ _) ?_;rw[Ub];simp;exact⟨_,_,zf _ _ _ _,by simp[resT]⟩
     have Db:¬(l.length:Int)=1:=by omega
     rw[T2 v u Og h1 hu (fun h=>h3 h.2)]
     refine zM.intro mixed call82 func82 rfl ?_;simp[ntmps82];refine cq ((pC _).call) ?_;simp[zBv,h1,hu];refine cq (zf _ _ _ _) ?_;simp[zd,hu,h3,Db,resT]
    rw[T1 v Og (by simp[h2])]
    have Cg:¬(v.args.length:Int)=1:=by omega
    refine zM.intro mixed call82 func82 rfl ?_;simp[ntmps82];refine cq ((pC _).call) ?_;simp[zBv,h1,h2,Cg];refine cq (zf _ _ _ _) ?_;simp[resT]
   rw[T1 v Og (by simp[h1])]
   have ue:(v.kind==k)=false:=by simpa using h1
   refine zM.intro mixed call82 func82 rfl ?_;simp[ntmps82];refine cq ((pC _).call) ?_;simp[zBv,ue];refine cq (zf _ _ _ _) ?_;simp[resT]
end
end Go.Proofs.YtdflkegnmmkkoaaGreatDoor
