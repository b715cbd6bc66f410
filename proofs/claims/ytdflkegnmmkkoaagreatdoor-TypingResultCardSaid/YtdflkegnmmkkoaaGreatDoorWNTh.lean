/- A part of the proof. -/
import Derived.Test.YtdflkegnmmkkoaaGreatDoorWNTg
import Derived.Test.YtdflkegnmmkkoaaGreatDoorWMLp
set_option linter.unusedVariables false
set_option linter.unusedSimpArgs false
set_option maxRecDepth 100000
set_option maxHeartbeats 32000000
namespace Go.Proofs.YtdflkegnmmkkoaaGreatDoor
open Go.RowKit _root_.Go.Proofs.Tryz
def fresh(p:List It)(g:List BA):Nat:=p.countP fun x=>!g.any fun y=>sEq x.name y
theorem zOU{p:List It}{g:List BA}(s:BA):fresh p (g++[s])<=fresh p g:=by
 unfold fresh;refine List.countP_mono_left fun x _ h=>?_
 simp only[List.any_append,Bool.not_or,Bool.and_eq_true]at h;exact h.1
theorem zVh{p:List It}{g:List BA}{s:BA}{z:It}(hz:z∈p)(he:sEq z.name s=true)(hg:g.any (fun y=>sEq s y)=false):fresh p (g++[s])+1<=fresh p g:=by
 have e:z.name=s:=zDZ.1 he
 subst e
 induction p with
 |nil=>cases hz
 |cons a p ih=>
  have hc:∀g,fresh (a::p) g=fresh p g+if(!g.any fun y=>sEq a.name y)=true then 1 else 0:=fun g=>by
   unfold fresh;rw[List.countP_cons]
  rw[hc,hc]
  rcases List.mem_cons.1 hz with rfl|hz
  .have h1:=zOU (p:=p) (g:=g) z.name
   have h2:(!(g++[z.name]).any fun y=>sEq z.name y)=false:=by simp[he]
   have h3:(!g.any fun y=>sEq z.name y)=true:=by rw[hg];rfl
   rw[h2,h3];simp;omega
  have:=ih hz
  by_cases h:(!g.any fun y=>sEq a.name y)=true
  .rw[if_pos h];split<;>omega
  have h':¬(!(g++[z.name]).any fun y=>sEq a.name y)=true:=by
   simp only[List.any_append,Bool.not_or,Bool.and_eq_true];exact fun k=>h k.1
  rw[if_neg h,if_neg h'];omega
theorem zNB{p:List It}{s:BA}{z:It}(h:zb p s=some z):z∈p/\sEq z.name s=true:=by
 unfold zb at h
 have h1:=List.mem_of_find?_eq_some h
 have h2:=List.find?_some h
 simp only[Bool.and_eq_true]at h2;exact⟨h1,h2.2⟩
theorem zC4(p:List It)(nm:BA)(B:Nat)(hB:∀x∈p,x.fields.length<=B):∀(n:Nat) (fs:List Fi) (Wa:List BA),fs.length+(B+1)*fresh p Wa<=n->∃r,zBy p nm n fs Wa=some r/\fresh p r.2<=fresh p Wa
 |_,[],Wa,_=>⟨(false,Wa),by unfold zBy;rfl,Nat.le_refl _⟩
 |0,f::fs,Wa,h=>by simp at h
 |n+1,f::fs,Wa,h=>by
  simp only[List.length_cons]at h
  have hn:fs.length+(B+1)*fresh p Wa<=n:=by omega
  unfold zBy
  by_cases h4:f.type.kind≠4
  .rw[if_pos h4];exact zC4 p nm B hB n fs Wa hn
  rw[if_neg h4]
  by_cases hs:sEq f.type.name nm=true
  .rw[if_pos hs];exact⟨_,rfl,Nat.le_refl _⟩
  rw[if_neg hs]
  by_cases ha:(Wa.any fun g=>sEq f.type.name g)=true
  .rw[if_pos ha];exact zC4 p nm B hB n fs Wa hn
  rw[if_neg ha]
  have oa:=zOU (p:=p) (g:=Wa) f.type.name
  cases hz:zb p f.type.name with
  |none=>
   obtain⟨r,h1,h2⟩:=zC4 p nm B hB n fs (Wa++[f.type.name]) (by have:=Nat.mul_le_mul_left (B+1) oa;omega)
   exact⟨r,h1,by omega⟩
  |some z=>
   obtain⟨hm,he⟩:=zNB hz
   have hlt:=zVh (g:=Wa) hm he (by simpa using ha)
   have hb:=hB z hm
   have Xp:=Nat.mul_le_mul_left (B+1) hlt
   rw[Nat.mul_add,Nat.mul_one]at Xp
   obtain⟨r,h1,h2⟩:=zC4 p nm B hB n z.fields (Wa++[f.type.name]) (by omega)
   obtain⟨b,g⟩:=r
   simp only[h1]
   cases b with
   |true=>exact⟨_,rfl,by simp only at h2 ⊢;omega⟩
   |false=>
    simp only at h2 ⊢
    obtain⟨r,h3,h4⟩:=zC4 p nm B hB n fs g (by have:=Nat.mul_le_mul_left (B+1) (show fresh p g<=fresh p Wa by omega);omega)
    exact⟨r,h3,by omega⟩
theorem zL0{α:Type}{p:α->Bool}{l:List α}{m:Int}(h:zt p l m=true):(l.length:Int)<=m/\∀x∈l,p x=true:=by
 unfold zt at h;simp only[Bool.and_eq_true,decide_eq_true_eq]at h;rw[List.take_of_length_le (by omega)]at h
 exact⟨h.1,fun x hx=>List.all_eq_true.1 h.2 x hx⟩
def zAu(env:List Fi):Prop:=∀f∈env,TySm f.type
theorem zVi{nm:BA}(h:nm.size<=20000)(k:Int):TySm (.mk k nm []):=.mk _ h (by simp[Ty.args]) (fun x hx=>by simp[Ty.args]at hx)
theorem zL1:emS.size<=20000:=by decide
theorem zGG(k:Int):TySm (zAG k):=zVi zL1 k
theorem sm_z:TySm zTy:=zVi zL1 0
theorem zNC(k:Int){t:Ty}(h:TySm t):TySm (inTy k t):=.mk _ zL1 (by simp[inTy,Ty.args]) (fun x hx=>by
 simp only[inTy,Ty.args,List.mem_singleton]at hx;subst hx;exact h)
theorem zS3{t:Ty}(h:TySm t):∀u∈t.args,TySm u:=by obtain⟨_,_,_,h⟩:=h;exact h
theorem zND{l:List Ty}(h:∀u∈l,TySm u):TySm (l.headD zTy):=by
 cases l with
 |nil=>exact sm_z
 |cons u l=>exact h u (by simp)
section
variable{p:List It}(hp:PrSm p){env:List Fi}(he:zAu env)
include hp in
theorem zJc{nm:BA}:zO3 ((zBB p nm).getD []):=by
 unfold zBB
 cases hx:zb p nm with
 |none=>exact⟨by simp,by simp⟩
 |some x=>
  simp only;split
  .exact(zKK hp hx).2.1
  exact⟨by simp,by simp⟩
include hp in
theorem zJd{k:Int}{nm:BA}:zO3 (zBn p k nm).1:=by
 unfold zBn
 cases hx:zb p nm with
 |none=>exact⟨by simp,by simp⟩
 |some x=>exact zJc hp
include hp in
theorem zP8{Da v:BA}{t:Ty}(h:zAQ p Da v=some t):TySm t:=by
 unfold zAQ at h;split at h
 .obtain⟨f,hf,rfl⟩:=Option.map_eq_some_iff.1 h
  exact((zJd hp).2 f (List.mem_of_find?_eq_some hf)).2
 cases h
include hp in
theorem zNE(Da v:BA):TySm ((zAQ p Da v).getD zTy):=by
 cases h:zAQ p Da v with
 |none=>exact sm_z
 |some t=>exact zP8 hp h
include hp he in
theorem zOV{x:Pl}{r:Ty × Bool}(h:zBf p env x=some r):TySm r.1:=by
 unfold zBf zGb at h
 obtain⟨f,hf,hw⟩:=Option.bind_eq_some_iff.1 h
 have hm:=List.mem_of_find?_eq_some hf
 unfold zIt at hw;split at hw
 .obtain⟨u,w⟩:=r
  exact zKL hp (he f (by simpa using hm)) hw
 cases hw
include hp he in
theorem zWV(x:Pl):TySm (plT p env x):=by
 unfold plT
 cases h:zBf p env x with
 |none=>exact sm_z
 |some r=>exact zOV hp he h
include hp in
theorem zYe{op:Int}{nm sd:BA}(hn:nm.size<=20000):TySm (zKO p op nm sd).2.1:=by
 unfold zKO;split
 .split
  .rename_i x hx
   exact(hp.2 x (List.mem_of_find?_eq_some hx)).2.2.1
  exact sm_z
 split
 .exact zVi hn 4
 split<;>exact zVi hn 4
include hp he in
theorem za2{op:Int}{nm sd:BA}{pl:Pl}{l:List Ty}(hn:nm.size<=20000)(hl:∀u∈l,TySm u){t:Ty}(h:ownT p env op nm sd pl l= .ok t):TySm t:=by
 have h0:=zND hl
 unfold ownT at h;split at h
 .cases h;exact zGG _
 split at h
 .split at h
  .cases h;exact zGG _
  cases h
 split at h
 .unfold zIE at h
  split at h
  .cases h;exact zYe hp hn
  cases h
 split at h
 .split at h
  .cases h;exact zNC _ h0
  cases h
 split at h
 .split at h
  .cases h;exact zNC _ h0
  cases h
 split at h
 .split at h
  .cases h;exact zGG _
  cases h
 split at h
 .have ht:TySm (if(zBF op).2=true then((zBf p env pl).map Prod.fst).getD zTy else l.headD zTy):=by
   split
   .exact zWV hp he pl
   exact h0
  unfold zDl at h;simp only at h
  generalize (if(zBF op).2=true then((zBf p env pl).map Prod.fst).getD zTy else l.headD zTy)=u at ht h
  split at h
  .cases h
  split at h
  .split at h
   .cases h;exact zGG _
   cases h
  cases h
  exact zND (zS3 ht)
 unfold zFe at h
 split at h
 .cases h
 rename_i t1 w1 Na
 have h1:TySm t1:=zOV hp he Na
 split at h
 .split at h
  .cases h;exact h1
  cases h
 split at h
 .cases h;exact zNC _ h1
 split at h
 .split at h
  .cases h;exact zNC _ h1
  cases h
 split at h
 .split at h
  .cases h;exact h1
  cases h
 split at h
 .cases h;exact zGG _
 cases h
end
theorem zJe(p:List It)(env:List Fi)(e:Ex):tyE p env e=match tyEs p env e.args with
  | .error f=>.error f
  | .ok l=>match ownT p env e.op e.name e.u2 e.place l with| .ok t=>.ok t| .error n=>.error (n,e.pos):=by
 cases e;rw[tyE]<;>rfl
theorem zKe{p:List It}{env:List Fi}{Q:Ty->Prop}:∀l:List Ex,(∀e∈l,∀t,tyE p env e= .ok t->Q t)->∀ts,tyEs p env l= .ok ts->(∀u∈ts,Q u)/\ts.length=l.length
 | [],_,ts,h=>by rw[tyEs]at h;cases h;exact⟨by simp,rfl⟩
 |e::l,hq,ts,h=>by
  rw[tyEs]at h;split at h
  .cases h
  rename_i t ht
  split at h
  .cases h
  rename_i us Nu
  cases h
  obtain⟨k1,k2⟩:=zKe l (fun x hx=>hq x (List.mem_cons_of_mem _ hx)) us Nu
  refine⟨fun u hu=>?_,by simp[k2]⟩
  rcases List.mem_cons.1 hu with rfl|hu
  .exact hq e (by simp) u ht
  exact k1 u hu
theorem za3{p:List It}(hp:PrSm p){env:List Fi}(he:zAu env):∀e:Ex,ExSm e->∀t,tyE p env e= .ok t->TySm t:=by
 refine Ex.ind fun e ih hs t h=>?_
 obtain⟨_,h1,_,_,_,h5⟩:=hs
 rw[zJe]at h;split at h
 .cases h
 rename_i l hl
 split at h
 .rename_i u hu
  cases h;exact za2 hp he h1 (zKe e.args (fun x hx=>ih x hx (h5 x hx)) l hl).1 hu
 cases h
theorem zS4{p:List It}(hp:PrSm p){env:List Fi}(he:zAu env){l:List Ex}(hl:∀e∈l,ExSm e){ts:List Ty}(h:tyEs p env l= .ok ts):(∀u∈ts,TySm u)/\ts.length=l.length:=zKe l (fun e hx=>za3 hp he e (hl e hx)) ts h
theorem zHO(p:List It)(env:List Fi):∀a b:List Ex,tyEs p env (a++b)=match tyEs p env a with
  | .error f=>.error f
  | .ok l=>match tyEs p env b with| .error f=>.error f| .ok m=>.ok (l++m)
 | [],b=>by
  rw[List.nil_append,tyEs];simp only[List.nil_append]
  split<;>simp[*]
 |e::a,b=>by
  rw[List.cons_append,tyEs,tyEs,zHO p env a b]
  cases tyE p env e with
  |error f=>rfl
  |ok t=>
   simp only
   cases tyEs p env a with
   |error f=>rfl
   |ok l=>
    simp only;cases tyEs p env b<;>rfl
theorem zOW(p:List It)(env:List Fi)(e:Ex):tyEs p env [e]=match tyE p env e with| .error f=>.error f| .ok t=>.ok [t]:=by
 rw[tyEs,tyEs];cases tyE p env e<;>rfl
theorem zAS{p:List It}{env:List Fi}{l:List Ex}{q:Nat}(hq:q<l.length){ts:List Ty}(h:tyEs p env (l.take q)= .ok ts):(∀t,tyE p env l[q]= .ok t->tyEs p env (l.take (q+1))= .ok (ts++[t]))/\∀f,tyE p env l[q]= .error f->tyEs p env l= .error f:=by
 have e1:l.take (q+1)=l.take q++[l[q]]:=List.take_succ_eq_append_getElem hq
 refine⟨fun t ht=>?_,fun f hf=>?_⟩
 .rw[e1,zHO,h,zOW,ht]
 have e2:l=(l.take q++[l[q]])++l.drop (q+1):=by rw[<-e1,List.take_append_drop]
 rw[e2,zHO,zHO,h,zOW,hf]
theorem zKf(p:List It):∀(a b:List St) (env:List Fi),tgSs p env (a++b)=match tgSs p env a with
  |(e,some f)=>(e,some f)
  |(e,none)=>tgSs p e b
 | [],b,env=>by rw[List.nil_append,tgSs]
 |s::a,b,env=>by
  rw[List.cons_append,tgSs,tgSs]
  generalize tgS p env s=r
  obtain⟨e,o⟩:=r
  cases o with
  |some f=>rfl
  |none=>exact zKf p a b e
theorem zVj(p:List It)(env:List Fi)(s:St):tgSs p env [s]=tgS p env s:=by
 rw[tgSs]
 generalize tgS p env s=r
 obtain⟨e,o⟩:=r
 cases o with
 |some f=>rfl
 |none=>simp only;rw[tgSs]
theorem zL2{p:List It}{env:List Fi}{l:List St}{q:Nat}(hq:q<l.length){env1:List Fi}(h:tgSs p env (l.take q)=(env1,none)):tgSs p env (l.take (q+1))=tgS p env1 l[q]/\∀f,(tgS p env1 l[q]).2=some f->tgSs p env l=tgS p env1 l[q]:=by
 have e1:l.take (q+1)=l.take q++[l[q]]:=List.take_succ_eq_append_getElem hq
 have e0:tgSs p env (l.take (q+1))=tgS p env1 l[q]:=by rw[e1,zKf,h];exact zVj p env1 _
 refine⟨e0,fun f hf=>?_⟩
 have e2:tgSs p env l=tgSs p env (l.take (q+1)++l.drop (q+1)):=by rw[List.take_append_drop]
 rw[e2,zKf,e0]
 generalize tgS p env1 l[q]=r at*
 obtain⟨e,o⟩:=r
 simp only at hf;subst hf;rfl
theorem zKg(p:List It)(Da:BA):∀(a b:List Ar) (env:List Fi),tgAs p Da env (a++b)=match tgAs p Da env a with
  |(e,some f)=>(e,some f)
  |(e,none)=>tgAs p Da env b
 | [],b,env=>by rw[List.nil_append,tgAs]
 |⟨v,n,l⟩::a,b,env=>by
  rw[List.cons_append,tgAs,tgAs]
  generalize tgSs p (if sEq n emS=true then env else env++[⟨n,(zAQ p Da v).getD zTy⟩]) l=r
  obtain⟨e,o⟩:=r
  cases o with
  |some f=>rfl
  |none=>exact zKg p Da a b env
def armE(p:List It)(Da:BA)(env:List Fi)(a:Ar):List Fi:=if sEq a.name emS=true then env else env++[⟨a.name,(zAQ p Da a.variant).getD zTy⟩]
theorem zVk(p:List It)(Da:BA)(env:List Fi)(a:Ar):tgAs p Da env [a]=match tgSs p (armE p Da env a) a.body with
  |(e,some f)=>(e,some f)
  |(_,none)=>(env,none):=by
 obtain⟨v,n,b⟩:=a
 rw[tgAs];unfold armE
 generalize tgSs p (if sEq n emS=true then env else env++[⟨n,(zAQ p Da v).getD zTy⟩]) b=r
 obtain⟨e,o⟩:=r
 cases o with
 |some f=>rfl
 |none=>simp only;rw[tgAs]
theorem zL3(p:List It)(Da:BA):∀(l:List Ar) (env:List Fi) {Ac:List Fi},tgAs p Da env l=(Ac,none)->Ac=env
 | [],env,Ac,h=>by rw[tgAs]at h;cases h;rfl
 |⟨v,n,b⟩::l,env,Ac,h=>by
  rw[tgAs]at h;split at h
  .cases h
  exact zL3 p Da l env h
theorem zS5{p:List It}{Da:BA}{env:List Fi}{l:List Ar}{q:Nat}(hq:q<l.length)(h:tgAs p Da env (l.take q)=(env,none)):((tgSs p (armE p Da env l[q]) l[q].body).2=none->tgAs p Da env (l.take (q+1))=(env,none))/\∀f,(tgSs p (armE p Da env l[q]) l[q].body).2=some f->tgAs p Da env l=tgSs p (armE p Da env l[q]) l[q].body:=by
 have e1:l.take (q+1)=l.take q++[l[q]]:=List.take_succ_eq_append_getElem hq
 have e0:tgAs p Da env (l.take (q+1))=tgAs p Da env [l[q]]:=by rw[e1,zKg,h]
 have e2:l=l.take (q+1)++l.drop (q+1):=(List.take_append_drop _ _).symm
 rw[zVk]at e0
 generalize hr:tgSs p (armE p Da env l[q]) l[q].body=r at*
 obtain⟨e,o⟩:=r
 refine⟨fun hn=>?_,fun f hf=>?_⟩
 .simp only at hn
  subst hn;exact e0
 simp only at hf
 subst hf;rw[e2,zKg,e0]
theorem zEn{a b:List Fi}(ha:zAu a)(hb:zAu b):zAu (a++b):=fun f hf=>by
 rcases List.mem_append.1 hf with hf|hf
 .exact ha f hf
 exact hb f hf
theorem zIc{nm:BA}{t:Ty}(ht:TySm t):zAu [⟨nm,t⟩]:=fun f hf=>by
 simp only[List.mem_singleton]at hf;subst hf;exact ht
theorem zId:∀(nms:List BA) (fs:List Fi),zAu fs->zAu (zCy fs nms)
 | [],fs,h=>by intro f hf;simp[zCy]at hf
 |n::nms,[],h=>by intro f hf;simp[zCy]at hf
 |n::nms,g::fs,h=>by
  intro f hf;simp only[zCy,List.zip_cons_cons,List.map_cons,List.mem_cons]at hf
  rcases hf with rfl|hf
  .exact h g (by simp)
  exact zId nms fs (fun y hy=>h y (List.mem_cons_of_mem _ hy)) f hf
theorem zIe:∀(nms:List BA) (l:List Ty),(∀u∈l,TySm u)->zAu (zCz nms l)
 | [],l,h=>by intro f hf;simp[zCz]at hf
 |n::nms,[],h=>by intro f hf;simp[zCz]at hf
 |n::nms,g::l,h=>by
  intro f hf;simp only[zCz,List.zip_cons_cons,List.map_cons,List.mem_cons]at hf
  rcases hf with rfl|hf
  .exact h g (by simp)
  exact zIe nms l (fun y hy=>h y (List.mem_cons_of_mem _ hy)) f hf
theorem zIf{env Ac:List Fi}{r:List Fi × Option Flt}(h:zCg env r=(Ac,none)):Ac=env:=by
 unfold zCg at h;split at h
 .rename_i f hf
  rw[h]at hf;cases hf
 cases h;rfl
theorem zVl{p:List It}(hp:PrSm p){env Ac:List Fi}(he:zAu env){s:St}(hs:StSm s)(h:tgS p env s=(Ac,none)):zAu Ac/\Ac.length<=env.length+s.nd:=by
 obtain⟨_,_,_,_,Sb,_,ua,_,_,_,_,_,_,_⟩:=hs
 have Ed:=stNd s
 rw[zCF]at h;split at h
 .cases h
 rename_i l hl
 have Be:=(zS4 hp he ua.2 hl).1
 have Xc:zAu env/\env.length<=env.length+s.nd:=⟨he,by omega⟩
 split at h
 .cases h
 split at h
 .cases h
  exact⟨zEn he (zIc (zND Be)),by simp;omega⟩
 split at h
 .cases h
  refine⟨zEn he (zId _ _ fun f hf=>((zJc hp).2 f hf).2),?_⟩
  have:(zCy ((zBB p s.name).getD []) s.names).length<=s.names.length:=by unfold zCy;simp;omega
  rw[List.length_append];omega
 split at h
 .cases h;exact Xc
 split at h
 .split at h
  .cases h
  have:=zIf h
  subst this;exact Xc
 split at h
 .have:=zL3 p _ _ _ h
  subst this;exact Xc
 split at h
 .injection h with h1 h2
  subst h1;exact Xc
 split at h
 .have:=zIf h
  subst this;exact Xc
 split at h
 .cases h
  refine⟨zEn he fun f hf=>?_,by simp;omega⟩
  simp only[List.mem_cons,List.not_mem_nil,or_false]at hf
  rcases hf with rfl|rfl
  .exact zNC _ Sb
  exact zNC _ Sb
 have:=zIf h
 subst this;exact Xc
theorem zIg{p:List It}(hp:PrSm p):∀{l:List St} {env Ac:List Fi},zAu env->(∀s∈l,StSm s)->tgSs p env l=(Ac,none)->zAu Ac/\Ac.length<=env.length+(l.map St.nd).sum
 | [],env,Ac,he,hs,h=>by rw[tgSs]at h;cases h;exact⟨he,by simp⟩
 |s::l,env,Ac,he,hs,h=>by
  rw[tgSs]at h
  generalize hr:tgS p env s=r at h
  obtain⟨e,o⟩:=r
  cases o with
  |some f=>cases h
  |none=>
   simp only at h
   obtain⟨k1,k2⟩:=zVl hp he (hs s (by simp)) hr
   obtain⟨k3,k4⟩:=zIg hp k1 (fun y hy=>hs y (List.mem_cons_of_mem _ hy)) h
   refine⟨k3,?_⟩;rw[List.map_cons,List.sum_cons];omega
theorem zKh(f:St->Nat):∀(l:List St) (q:Nat) (hq:q<l.length),((l.take q).map f).sum+f l[q]<=(l.map f).sum
 |s::l,0,hq=>by simp
 |s::l,q+1,hq=>by
  have:=zKh f l q (by simpa using hq)
  simp only[List.take_succ_cons,List.map_cons,List.sum_cons,List.getElem_cons_succ];omega
inductive StG (p:List It):St->Prop
 |mk (s:St):(∀e∈s.u3,∃d,e.whole d=true)->((s.op=1\/s.op=2\/s.op=3\/s.op=6\/s.op=7)->1<=s.u3.length)->(s.op=10->s.u3.length=s.names.length)->(s.op=2->s.names.length<=((zBB p s.name).getD []).length)->
  (∀x∈s.body,StG p x)->(∀x∈s.els,StG p x)->(∀a∈s.arms,∀x∈a.body,StG p x)->StG p s
theorem zHP{p:List It}:∀(l:List St),(∀s∈l,∀σ:Nf,(s.nm p σ).1.fl=[]->StG p s)->∀σ:Nf,(St.nms p l σ).1.fl=[]->∀s∈l,StG p s
 | [],hs,σ,hn,s,h=>by cases h
 |x::l,hs,σ,hn,s,h=>by
  simp only[St.nms]at hn
  rcases List.mem_cons.1 h with rfl|h
  .exact hs s (by simp) σ (zF4 (zCD p (fun s _ σ=>zCu p s σ) (s.nm p σ).1 (l:=l)).1 hn)
  exact zHP l (fun y hy=>hs y (List.mem_cons_of_mem _ hy)) _ hn s h
theorem zDq{p:List It}{l:List St}(hs:∀s∈l,∀σ:Nf,(s.nm p σ).1.fl=[]->StG p s){pos:Int}{names:List BA}{σ:Nf}(hn:(zAB p l pos names σ).fl=[]):(∀s∈l,StG p s)/\σ.fl=[]:=by
 unfold zAB at hn;rw[zKP,zKP]at hn;exact⟨zHP l hs _ hn,zF4 (zBC names pos σ).1 (zF4 (zCD p (fun s _ σ=>zCu p s σ) _).1 hn)⟩
theorem zL4{p:List It}{pos:Int}:∀(l:List Ar),(∀a∈l,∀s∈a.body,∀σ:Nf,(s.nm p σ).1.fl=[]->StG p s)->∀σ:Nf,(l.foldl (fun σ a=>a.nm p pos σ) σ).fl=[]->σ.fl=[]/\∀a∈l,∀s∈a.body,StG p s
 | [],hs,σ,hn=>⟨hn,fun a ha=>by cases ha⟩
 |⟨v,n,b⟩::l,hs,σ,hn=>by
  rw[List.foldl_cons]at hn
  obtain⟨k1,k2⟩:=zL4 l (fun a ha=>hs a (List.mem_cons_of_mem _ ha)) _ hn
  obtain⟨b1,b2⟩:=zDq (p:=p) (l:=b) (fun s vd=>hs ⟨v,n,b⟩ (by simp) s vd) (pos:=pos) (names:=oneN n) (σ:=σ) k1
  refine⟨b2,fun a ha=>?_⟩
  rcases List.mem_cons.1 ha with rfl|ha
  .exact b1
  exact k2 a ha
theorem zYf{p:List It}:∀s:St,(∃d,s.whole d=true)->∀σ:Nf,(s.nm p σ).1.fl=[]->StG p s:=by
 refine St.ind fun s i1 i2 i3 hw σ hn=>?_
 obtain⟨d,hw⟩:=hw
 have hx:∀e∈s.u3,e.whole (d-1)=true:=fun e he=>by
  rw[zC]at hw;simp only[Bool.and_eq_true]at hw
  have hx:=hw.2.2.2.2.2.1
  unfold exsB at hx
  by_cases h6:(s.u3.length:Int)<=6
  .rw[zBx h6]at hx
   have:=List.all_eq_true.1 hx e he
   simp only[Bool.and_eq_true]at this;exact this.2
  simp[zt,h6]at hx
 rw[zC]at hw;simp only[Bool.and_eq_true,List.all_eq_true,Bool.or_eq_true,decide_eq_true_eq]at hw
 obtain⟨_,Yp,Ou,Pu,Qu,_,w1,w2,w3⟩:=hw
 unfold zR at Yp;simp only[Bool.and_eq_true,decide_eq_true_eq]at Yp
 have ca:=Yp.2.2.2.2.1
 have w3:∀a∈s.arms,a.whole (d-1)=true:=by
  by_cases h6:(s.arms.length:Int)<=6
  .rw[zBx h6]at w3
   simpa using w3
  simp[zt,h6]at w3
 replace i1:=fun x hx=>i1 x hx ⟨_,w1 x hx⟩
 replace i2:=fun x hx=>i2 x hx ⟨_,w2 x hx⟩
 replace i3:=fun a ha x hx=>i3 a ha x hx (by
  have:=w3 a ha
  unfold Ar.whole at this;simp only[Bool.and_eq_true,List.all_eq_true]at this;exact⟨_,this.2.2 x hx⟩)
 have wl:zA1 s.op=false->∀x∈s.body,StG p x:=fun hf x hx=>by
  rcases Ou with hb|hb
  .rw[hf]at hb;cases hb
  rw[List.eq_nil_of_length_eq_zero hb]at hx;cases hx
 have vj:zAp s.op=false->∀x∈s.els,StG p x:=fun hf x hx=>by
  rcases Pu with hb|hb
  .rw[hf]at hb;cases hb
  rw[List.eq_nil_of_length_eq_zero hb]at hx;cases hx
 have wj:zAq s.op=false->∀a∈s.arms,∀x∈a.body,StG p x:=fun hf a ha=>by
  rcases Qu with hb|hb
  .rw[hf]at hb;cases hb
  rw[List.eq_nil_of_length_eq_zero hb]at ha;cases ha
 have Hh:∀{a:Nf} {l:List Flt},(a.add l).fl=[]->a.fl=[]/\l=[]:=fun {a l} h=>List.append_eq_nil_iff.1 h
 have pd:(s.op=2->zH6 p s.name s.names.length=true)->(∀x∈s.body,StG p x)->(∀x∈s.els,StG p x)->(∀a∈s.arms,∀x∈a.body,StG p x)->StG p s:=fun h2 b1 b2 b3=>by
  refine .mk s (fun e he=>⟨_,hx e he⟩) (fun ho=>?_) (fun ho=>?_) (fun ho=>?_) b1 b2 b3
  .have:zm s.op s.names.length=1:=by
    unfold zm;rw[if_neg (by omega),if_pos (by omega)]
   omega
  .have:zm s.op s.names.length=s.names.length:=by
    unfold zm;rw[if_pos ho]
   omega
  have:=h2 ho
  unfold zH6 zH5 at this;unfold zBB
  cases hf:zb p s.name with
  |none=>rw[hf]at this;cases this
  |some x=>
   rw[hf]at this
   by_cases hk:x.kind=1
   .simp only[hk,true_or,if_true,Option.getD_some]
    simp[hk]at this;omega
   simp[hk]at this
 rw[stNm]at hn;split at hn
 .rename_i h1
  exact pd (by omega) (wl (by rw[h1];rfl)) (vj (by rw[h1];rfl)) (wj (by rw[h1];rfl))
 rename_i h1
 split at hn
 .rename_i h2
  have k:=Hh (zF4 (zBC _ _ _).1 hn)
  exact pd (fun _=>zC3 k.2) (wl (by rw[h2];rfl)) (vj (by rw[h2];rfl)) (wj (by rw[h2];rfl))
 rename_i h2
 split at hn
 .rename_i h3
  exact pd (by omega) (wl (by rw[h3];rfl)) (vj (by rw[h3];rfl)) (wj (by rw[h3];rfl))
 rename_i h3
 split at hn
 .rename_i h5
  exact pd (by omega) (wl (by rw[h5];rfl)) (vj (by rw[h5];rfl)) (wj (by rw[h5];rfl))
 rename_i h5
 split at hn
 .rename_i xd
  exact pd (by omega) (wl (by rw[xd];rfl)) (vj (by rw[xd];rfl)) (wj (by rw[xd];rfl))
 rename_i xd
 split at hn
 .rename_i h8
  exact pd (by omega) (wl (by rw[h8];rfl)) (vj (by rw[h8];rfl)) (zL4 s.arms i3 _ hn).2
 rename_i h8
 split at hn
 .rename_i h10
  obtain⟨k1,_⟩:=List.append_eq_nil_iff.1 hn
  unfold zCa at k1;rw[zKP]at k1;exact pd (by omega) (zHP s.body i1 _ k1) (vj (by rw[h10];rfl)) (wj (by rw[h10];rfl))
 rename_i h10
 split at hn
 .rename_i h9
  obtain⟨b1,b2⟩:=zDq (p:=p) i1 hn
  have e6:zAp s.op=false:=by unfold zAp;simp;omega
  exact pd (by omega) b1 (vj e6) (wj (by unfold zAq;simp;omega))
 rename_i h9
 split at hn
 .rename_i Oi
  obtain⟨b1,b2⟩:=zDq (p:=p) i1 hn
  exact pd (by omega) b1 (vj (by rw[Oi];rfl)) (wj (by rw[Oi];rfl))
 rename_i Oi
 obtain⟨b1,b2⟩:=zDq (p:=p) i2 hn
 obtain⟨a1,a2⟩:=zDq (p:=p) i1 b2
 exact pd (by omega) a1 b1 (wj (by unfold zAq;simp;omega))
theorem zVm{p:List It}(hp:zAF p=true){env:List Fi}{x:Pl}(h:(plT p env x).kind=9):(plT p env x).args.length=1:=by
 unfold plT at h ⊢
 cases hx:zBf p env x with
 |none=>rw[hx]at h;cases h
 |some r=>
  rw[hx]at h;simp only[Option.map_some,Option.getD_some]at h ⊢;unfold zBf at hx
  obtain⟨f,hf,hw⟩:=Option.bind_eq_some_iff.1 hx
  unfold zIt at hw;split at hw
  .rename_i Ru
   have:=zIB hp Ru hw
   rw[zHF,h]at this;simp[zl]at this;exact this.2.1
  cases hw
end Go.Proofs.YtdflkegnmmkkoaaGreatDoor
namespace Go.Proofs.YtdflkegnmmkkoaaGreatDoor
open Go.RowKit _root_.Go.Proofs.Tryz
attribute [local simp] List.replicate List.range List.range.loop
attribute [local simp] zHq zLK zRe zRf zLJ zOy zRd zMQ zEY zGS zHr zMR zEZ zHu zD2 zFU zJA
attribute [local simp] zAd zw zA6 zAe zAD zAf zA7 zx zn zv zAb zA5 zAC zAc zAg zAh zA8 zA9 zCV
theorem zJf{P:Program}{α β:Type}(s:Sem α)(f:α->Sem β)(a:α)(h:zd P s=some a):zd P (s>>=f)=zd P (f a):=by
 induction s with
 |pure b=>simp[zd]at h;subst h;rfl
 |program k ih=>exact ih P (by simpa [zd]using h)
 |mark m k ih=>exact ih (by simpa [zd]using h)
 |_=>simp[zd]at h
def fltW(f:Int × Int):Value:=.iface 116 (.agg #[.int .i64 f.1,.int .i64 f.2])
section
variable(f:Int × Int)(dst:Option Tmp)(x:Operand)(ty:TypeId)(pos:String)(after:Array Edge)(guard:Option (Nat × Bool))(fr:List AV)
theorem za4(a b:Int)(hx:evA fr x= .agg [I a,I b]):genP Tryz.prog ⟨dst,.makeInterface 116 x,ty,pos,after,guard⟩ fr=some (.p (.v (fltW (a,b)))):=by
 have Su:zGP [I a,I b]=some [.int .i64 a,.int .i64 b]:=rfl
 have v1:zBj (evA fr x)=some (.agg #[.int .i64 a,.int .i64 b]):=by rw[hx];simp[zBj,Su]
 have h1:(zHW (.makeInterface 116 x)&&zZ fr (Op.operands (.makeInterface 116 x)).toList)=true:=by
  show(true&&zZ fr [x])=true
  rw[Bool.true_and,zZ,zZ,v1];rfl
 have ta:zd Tryz.prog (Instr.makeInterface 116 (.agg #[.int .i64 a,.int .i64 b]))=some (fltW (a,b)):=by kernel_rfl
 have h2:zd Tryz.prog (execOp (fun z=>(zBj (evA fr z)).getD undef) ⟨dst,.makeInterface 116 x,ty,pos,after,guard⟩)=some (.value (fltW (a,b))):=by
  have e1:(zBj (evA fr x)).getD undef= .agg #[.int .i64 a,.int .i64 b]:=by rw[v1];rfl
  unfold execOp;simp only[e1];exact zCK _ _ _ ta
 unfold genP;simp only;rw[if_pos h1,h2];rfl
theorem zcA(hx:evA fr x= .p (.v (fltW f))):genP Tryz.prog ⟨dst,.typeAssert x 20 116 true,ty,pos,after,guard⟩ fr=some (.tup [.agg [I f.1,I f.2],B true]):=by
 have v1:zBj (evA fr x)=some (fltW f):=by rw[hx];rfl
 have h1:(zHW (.typeAssert x 20 116 true)&&zZ fr (Op.operands (.typeAssert x 20 116 true)).toList)=true:=by
  show(true&&zZ fr [x])=true
  rw[Bool.true_and,zZ,zZ,v1];rfl
 have ta:zd Tryz.prog (Instr.typeAssert (fltW f) 20 116 true)=some (.tuple #[.agg #[.int .i64 f.1,.int .i64 f.2],.bool true]):=by
  obtain⟨a,b⟩:=f
  kernel_rfl
 have h2:zd Tryz.prog (execOp (fun z=>(zBj (evA fr z)).getD undef) ⟨dst,.typeAssert x 20 116 true,ty,pos,after,guard⟩)=some (.value (.tuple #[.agg #[.int .i64 f.1,.int .i64 f.2],.bool true])):=by
  have e1:(zBj (evA fr x)).getD undef=fltW f:=by rw[v1];rfl
  unfold execOp;simp only[e1];exact zCK _ _ _ ta
 unfold genP;simp only;rw[if_pos h1,h2];rfl
theorem zcB(y:Operand)(k:TypeId)(hx:evA fr x= .p (.v (fltW f)))(hy:evA fr y= .p (.v .nilIface)):genP Tryz.prog ⟨dst,.binOp .neq 20 x y k,ty,pos,after,guard⟩ fr=some (B true):=by
 have v1:zBj (evA fr x)=some (fltW f):=by rw[hx];rfl
 have v2:zBj (evA fr y)=some .nilIface:=by rw[hy];rfl
 have h1:(zHW (.binOp .neq 20 x y k)&&zZ fr (Op.operands (.binOp .neq 20 x y k)).toList)=true:=by
  show(true&&zZ fr [x,y])=true
  rw[Bool.true_and,zZ,zZ,zZ,v1,v2];rfl
 have ta:zd Tryz.prog (do eqGuard .neq 20 x y (fltW f) .nilIface;binOp .neq 20 (fltW f) .nilIface:Sem Value)=some (.bool true):=by
  obtain⟨a,b⟩:=f
  have h1:zd Tryz.prog (eqGuard .neq 20 x y (fltW (a,b)) .nilIface)=some ():=by kernel_rfl
  rw[zJf _ _ _ h1]
  show zd Tryz.prog (binOp .neq 20 (fltW (a,b)) .nilIface)=some (.bool true)
  kernel_rfl
 have h2:zd Tryz.prog (execOp (fun z=>(zBj (evA fr z)).getD undef) ⟨dst,.binOp .neq 20 x y k,ty,pos,after,guard⟩)=some (.value (.bool true)):=by
  have e1:(zBj (evA fr x)).getD undef=fltW f:=by rw[v1];rfl
  have e2:(zBj (evA fr y)).getD undef= .nilIface:=by rw[v2];rfl
  unfold execOp;simp only[e1,e2];exact zCK _ _ _ ta
 unfold genP;simp only;rw[if_pos h1,h2];rfl
theorem zcC(n:Nat)(k:TypeId)(hx:evA fr (.tmp n)= .p (.v .nilIface)):genP Tryz.prog ⟨dst,.binOp .neq 20 (.tmp n) (.const .nilIface) k,ty,pos,after,guard⟩ fr=some (B false):=by
 have v1:zBj (evA fr (.tmp n))=some .nilIface:=by rw[hx];rfl
 have v2:zBj (evA fr (.const .nilIface))=some .nilIface:=by rfl
 have h1:(zHW (.binOp .neq 20 (.tmp n) (.const .nilIface) k)&&zZ fr (Op.operands (.binOp .neq 20 (.tmp n) (.const .nilIface) k)).toList)=true:=by
  show(true&&zZ fr [.tmp n,.const .nilIface])=true
  rw[Bool.true_and,zZ,zZ,zZ,v1,v2];rfl
 have ta:zd Tryz.prog (do eqGuard .neq 20 (.tmp n) (.const .nilIface) .nilIface .nilIface;binOp .neq 20 .nilIface .nilIface:Sem Value)=some (.bool false):=by
  have h1:zd Tryz.prog (eqGuard .neq 20 (.tmp n) (.const .nilIface) .nilIface .nilIface)=some ():=by kernel_rfl
  rw[zJf _ _ _ h1]
  show zd Tryz.prog (binOp .neq 20 .nilIface .nilIface)=some (.bool false)
  kernel_rfl
 have h2:zd Tryz.prog (execOp (fun z=>(zBj (evA fr z)).getD undef) ⟨dst,.binOp .neq 20 (.tmp n) (.const .nilIface) k,ty,pos,after,guard⟩)=some (.value (.bool false)):=by
  have e1:(zBj (evA fr (.tmp n))).getD undef= .nilIface:=by rw[v1];rfl
  have e2:(zBj (evA fr (.const .nilIface))).getD undef= .nilIface:=by rw[v2];rfl
  unfold execOp;simp only[e1,e2];exact zCK _ _ _ ta
 unfold genP;simp only;rw[if_pos h1,h2];rfl
end
theorem zf(b:Bool)(e pos:Int)(S:ASt):zK Tryz.prog 37 [B b,I e,I pos] S (if b=true then .ret .un else .thr (fltW (e,pos))) S:=by
 refine zK.intro mixed call37 func37 rfl ?_
 have e1:=za4 (a:=e) (b:=pos)
 cases b with
 |true=>simp[ntmps37]
 |false=>simp[ntmps37,e1,fltW]
def zS6(u u':FrameMode)(x0:Value):Prop:=∀(c₀:Frame) (cs:List Frame),c₀.mode=u->recoverD (c₀::cs)=some (x0,{c₀ with mode:=u'}::cs)\/(recoverD (c₀::cs)=none/\x0= .nilIface/\u'=u)
theorem zLI.catch{P:Program}{K:FuncId}{args:List AV}{S S':ASt}{fn:Func}{u u':FrameMode}{x0:Value}{t s:Nat}{o0 o1:Oper}{y:Code}{id:Nat}{Tu:Array TypeId}(hm:P.follows .mixedOrders=true)(hK:∀xs w,(callFunc K xs).run P w= .ok (.enter K xs) w)(hf:P.funcs[K]? =some fn)(hb:fn.body=some (.seq (.region id #[o0,o1] false) y))(bc:fn.results= #[])
  (h0:o0.op= .call ⟨.builtin .recover,#[],Tu⟩) (Uu:o0.dst=some t) (Vu:o0.guard=none) (h1:o1.op= .assign (.tmp t)) (Wu:o1.dst=some s) (Xu:o1.guard=none) (Jk:zS6 u u' x0) (Kj:atom x0=true)
  (h:zBV P y (putA (putA (AV.ups 1 args++List.replicate (fn.ntmps-args.length) .un) (some t) (.p (.v x0))) (some s) (evA (putA (AV.ups 1 args++List.replicate (fn.ntmps-args.length) .un) (some t) (.p (.v x0))) (.tmp t))) ([]::S) (RetD S')):zLI P K args S u u' S':=by
 refine⟨hK,fun Pr φ xs w da hR hne=>?_⟩
 refine callsD_of_wpS hf hb fun c₀ cs hu=>?_
 refine wpS_seq ?_;refine wpS_region ?_
 have hr:List.range (#[o0,o1]:Array Oper).size=[0,1]:=rfl
 have w0:∀g,Region.wanted o0 g=true:=fun g=>by simp[Region.wanted,Vu]
 have w1:∀g,Region.wanted o1 g=true:=fun g=>by simp[Region.wanted,Xu]
 have Yu:∀(a:Act),(execOp a.eval o0).run P w= .ok .recover w:=fun a=>by simp[execOp,h0,resolve,invoke,builtin]
 have Zu:∀(a:Act),(execOp a.eval o1).run P w= .ok (.value (a.eval (.tmp t))) w:=fun a=>by simp[execOp,h1]
 have pd:∀cs',cs'={c₀ with mode:=u'}::cs->wpOpsS P #[o0,o1] (Exit.thenS (y.wpS P (bodyPostS P fn c₀ cs fun e v w'=>v=u'/\∃x Pr' φ',e= .returned x/\Stp Pr φ w Pr' φ' w'/\Rel Pr' φ' S' w')) (bodyPostS P fn c₀ cs fun e v w'=>v=u'/\∃x Pr' φ',e= .returned x/\Stp Pr φ w Pr' φ' w'/\Rel Pr' φ' S' w')) [1] (({tmps:=xs++Array.replicate (fn.ntmps-xs.size) undef,defers:=[]}:Act).put o0.dst x0) cs' w:=fun cs' qc=>by
  subst qc;simp only[wpOpsS]
  have e1:(#[o0,o1]:Array Oper)[1]? =some o1:=rfl
  rw[e1];simp only[w1,if_true,Zu,Oper.upon]
  show y.wpS P _ _ _ w
  refine wpS_of_wp ?_
  have Zp:=zD0 (n:=fn.ntmps) da
  have Wk:=Zp.put o0.dst (RA.p (RP.v (Pr:=Pr) Kj))
  have Xk:=Wk.put o1.dst (Wk.ev (.tmp t))
  rw[Uu]at Wk Xk ⊢;rw[Wu]at Xk ⊢;refine wp_mono (zC1 hm y _ Pr ([]::φ) _ _ ([]::S) w Xk (zCS hR) (by simp) h) fun e a' w' hp=>?_
  obtain⟨ja,S1,Pr',φ',⟨he,h3⟩,h4,h5,h6,h7⟩:=hp
  have Db:φ'≠ []:=zL h6 (by simp)
  obtain⟨l',φ1,rfl⟩:=List.exists_cons_of_ne_nil Db
  have tc:S1≠ []:=fun h0=>by have:=h5.shape;rw[h0]at this;simp at this
  obtain⟨L',S2,rfl⟩:=List.exists_cons_of_ne_nil tc
  simp only[List.tail_cons]at h3;subst h3
  have hd:a'.defers=[]:=by rw[h7,zAT,zAT]
  have key:a'.defers=[]/\∃v,{c₀ with mode:=u'}::cs={c₀ with mode:=v}::cs/\∃z,(results fn a'.tmps).run P w'= .ok z w'/\(v=u'/\∃x Pr' φ',Ending.returned z= .returned x/\Stp Pr φ w Pr' φ' w'/\Rel Pr' φ' S2 w'):=
   ⟨hd,u',rfl,_,zEX bc _ _,rfl,_,Pr',φ1,rfl,zCq h6,zB9 h5⟩
  rcases he with rfl|rfl
  .exact key
  exact key
 rw[hr];unfold wpOpsS
 have e0:(#[o0,o1]:Array Oper)[0]? =some o0:=rfl
 rw[e0];simp only[w0,if_true,Yu]
 rcases Jk c₀ cs hu with hc|⟨hc,rfl,rfl⟩
 .rw[hc]
  exact pd _ rfl
 rw[hc]
 refine pd _ ?_;rw[<-hu]
theorem zP9(v:Value):zS6 (.panicking (zDA v)) (.panicking [{v,recovered:=true}]) v:=fun c₀ cs hu=>.inl (by
 unfold recoverD;simp only[hu,zDA])
theorem zQA:zS6 .returning .returning .nilIface:=fun c₀ cs hu=>.inr ⟨by
 unfold recoverD;simp only[hu],rfl,rfl⟩
theorem zQB(j:Nat)(S:ASt):zLI Tryz.prog 72 [.ptr 0 j 0] S .returning .returning S:=by
 refine zLI.catch mixed call72 func72 rfl rfl rfl rfl rfl rfl rfl rfl zQA rfl ?_
 have e2:=zcC
 simp[ntmps72,zJy,e2]
theorem zQC(f:Int × Int)(j:Nat)(v0:AV)(S:ASt)(hj:get2 S 0 j=some (.cells [v0] 27)):zLI Tryz.prog 72 [.ptr 0 j 0] S (.panicking (zDA (fltW f))) (.panicking [{v:=fltW f,recovered:=true}]) (set2 S 0 j (.cells [.p (.sl 2 [[.v (.int .i64 f.1),.v (.int .i64 f.2)]])] 27)):=by
 refine zLI.catch mixed call72 func72 rfl rfl rfl rfl rfl rfl rfl rfl (zP9 (fltW f)) rfl ?_
 have e1:=zcA f
 have e2:=zcB f
 generalize fltW f=W at*
 simp[ntmps72,zJy,e1,e2,hj]
def za5(fc:ARes)(r:AV):Prop:=match fc with
 | .ret _=>r=nilS
 | .thr v=>∃f:Int × Int,v=fltW f/\r= .p (.sl 2 [[.v (.int .i64 f.1),.v (.int .i64 f.2)]])
attribute [local simp] zUZ zRg zOz zRb settle
theorem zKi(K:Nat)(caps:List AV)(S S':ASt)(fc:ARes)(r:AV)(bc:za5 fc r)(h:∀L,zK Tryz.prog K (AV.ups 1 caps) (L::S) fc (L::S')):ADet Tryz.prog 34 [.fn (.func K) [] caps] S r S':=by
 refine ADet.introRv mixed call34 func34 rfl ?_;simp[ntmps34];refine cq (h _) ?_
 cases fc with
 |ret x=>
  obtain rfl:r=nilS:=bc
  simp
  exact⟨_,⟨_,zQB 0 _,rfl⟩,_,rfl,rfl,rfl⟩
 |thr v=>
  obtain⟨f,rfl,rfl⟩:=bc
  simp;exact⟨_,⟨_,zQC f 0 _ _ rfl,rfl⟩,_,rfl,rfl,rfl⟩
end Go.Proofs.YtdflkegnmmkkoaaGreatDoor
namespace Go.Proofs.YtdflkegnmmkkoaaGreatDoor
open Go.RowKit _root_.Go.Proofs.Tryz
attribute [local simp] List.replicate List.range List.range.loop
theorem zK.sub{P:Program}{K:FuncId}{args ke:List AV}{S S':ASt}{fc:ARes}(hl:LeAs ke args)(h:zK P K args S fc S'):zK P K ke S fc S':=
 ⟨h.1,fun Pr φ xs w da hR hne=>h.2 Pr φ xs w (by
  obtain⟨h1,h2⟩:=(zDz (Pr:=Pr) (φ:=φ)).2 hl
  refine⟨by rw[<-h1];exact da.1,fun j c x hc hx=>?_⟩
  obtain⟨c',h3,h4⟩:=h2 j c hc
  exact h4 (da.2 j c' x h3 hx)) hR hne⟩
theorem ADet.lessTup{P:Program}{F:FuncId}{xs:List AV}{S S':ASt}{l l':List AV}(oa:LeAs l l')(h:ADet P F xs S (.tup l) S'):ADet P F xs S (.tup l') S':=
 ⟨h.1,fun Pr φ ys w da hR hne=>(h.2 Pr φ ys w da hR hne).mono fun e w' hp=>by
  obtain⟨x,Pr',φ',h1,h2,h3,h4⟩:=hp
  refine⟨x,Pr',φ',h1,h2,h3,?_⟩
  cases h4 with
  |tup k1 k2=>
   obtain⟨m1,m2⟩:=(zDz (Pr:=Pr') (φ:=φ')).2 oa
   refine .tup (by rw[<-m1];exact k1) fun j c y hc hy=>?_
   obtain⟨c',n1,n2⟩:=m2 j c hc
   exact n2 (k2 j c' y n1 hy)⟩
theorem za6{Pr:Prot}{φ:Fi2}{S:ASt}{w:World}(h:Rel Pr φ S w){d i:Nat}{cs cs':List AV}{t:TypeId}(ho:get2 S d i=some (.cells cs t))(oa:LeAs cs cs'):Rel Pr φ (set2 S d i (.cells cs' t)) w:=by
 obtain⟨e,he,Va,g,xs,hg,ma,hl,hc,mb⟩:=h.obj d i _ ho
 refine⟨fun d' j o hj=>?_,h.dis,h.lt,h.pr,h.tb,by rw[zBR];exact h.shape⟩
 rw[zQ _ ho]at hj;split at hj
 .rename_i hc'
  obtain⟨rfl,rfl⟩:=hc'
  cases hj
  obtain⟨m1,m2⟩:=(zDz (Pr:=Pr) (φ:=φ.drop d')).2 oa
  refine⟨e,he,Va,g,xs,hg,ma,by rw[<-m1];exact hl,fun j c x h1 h2=>?_,mb⟩
  obtain⟨c',n1,n2⟩:=m2 j c h1
  exact n2 (hc j c' x n1 h2)
 exact h.obj d' j o hj
theorem zK.subS{P:Program}{K:FuncId}{args:List AV}{S S':ASt}{fc:ARes}{d i:Nat}{cs cs':List AV}{t:TypeId}(ho:get2 S d i=some (.cells cs t))(oa:LeAs cs cs')(h:zK P K args (set2 S d i (.cells cs' t)) fc S'):zK P K args S fc S':=
 ⟨h.1,fun Pr φ xs w da hR hne=>h.2 Pr φ xs w da (za6 hR ho oa) hne⟩
theorem zCh{l m:List Ty}(h:l≠m):eqTs l m=false:=by
 cases he:eqTs l m with
 |false=>rfl
 |true=>exact absurd ((zHJ l m).1 he) h
theorem zEo{l m:List Ty}(h:l=m):eqTs l m=true:=(zHJ l m).2 h
theorem zVn(K:Nat)(l m:List Ty)(S:ASt)(hc:∀x∈l,∀(y:Ty) (L:List AObj),ADet Tryz.prog K [tyV x,tyV y] (L::S) (B (eqT x y)) (L::S)):ADet Tryz.prog 98 [.p (.sl 3 (l.map Ty.enc)),.p (.sl 3 (m.map Ty.enc)),.fn (.func K) [] []] S (B (eqTs l m)) S:=by
 refine ADet.okP call98 0 rfl fun na=>?_
 have ca:=okl na
 refine ADet.intro mixed call98 func98 rfl ?_
 by_cases hl:l.length=m.length
 .simp[ntmps98,hl]
  refine zH (fun q:Nat=>q<=m.length/\∀i (h:i<l.length) (h':i<m.length),i<q->l[i]=m[i]) (fun q=>([.p (.sl 3 (l.map Ty.enc)),.p (.sl 3 (m.map Ty.enc)),.fn (.func K) [] []]++(List.replicate 12 .any++([.p (.sl 3 (l.map Ty.enc)),I m.length,I q]++List.replicate 14 .any)))) (fun q=>[]::S) (fun q=>m.length-q) 0 ⟨Nat.zero_le _,fun i h h' hi=>by omega⟩ ?_ ?_ ?_
  .simp
  .simp
  rintro q ⟨hq,ia⟩
  by_cases hlt:q<m.length
  .have aa:(q:Int)<(m.length:Int):=by omega
   have ab:q<l.length:=by omega
   have hw:=zA hlt (by omega)
   have De:=hc l[q] (List.getElem_mem ab) m[q]
   have Za:l[q]=m[q]->∀i (h:i<l.length) (h':i<m.length),i<q+1->l[i]=m[i]:=fun he i h h' hi=>by
    by_cases Pg:i=q
    .subst Pg;exact he
    exact ia i h h' (by omega)
   have hne:l[q]≠m[q]->l≠m:=fun he xl=>by
    subst xl;exact he rfl
   have heq:=zGa l[q] m[q]
   generalize Jf:l[q]=x at*
   generalize ah:m[q]=y at*
   simp[hlt,aa,ab,Jf,ah,ze];refine cq (De _) ?_
   cases Wb:eqT x y with
   |true=>
    simp
    exact⟨q+1,⟨by omega,Za (heq.1 Wb)⟩,by omega,hw⟩
   |false=>
    rw[zCh (hne fun h=>by rw[heq.2 h]at Wb;cases Wb)]
    simp
  have aa:¬(q:Int)<(m.length:Int):=by omega
  rw[zEo (List.ext_getElem hl fun i h h'=>ia i h h' (by omega))]
  simp[aa]
 have rg:¬(l.length:Int)=(m.length:Int):=by omega
 rw[zCh fun h=>hl (by rw[h])]
 simp[ntmps98,hl,rg]
theorem za7(t u:Ty):eqT t u=((t.kind==u.kind)&&(sEq t.name u.name&&eqTs t.args u.args)):=by
 cases t;cases u;rw[eqT];rfl
theorem zcD:∀(t u:Ty) (S:ASt),ADet Tryz.prog 43 [tyV t,tyV u] S (B (eqT t u)) S:=by
 refine Ty.ind fun t ih u S=>?_
 have eC:=fun L=>zVn 43 t.args u.args (L::S) fun x hx y M=>ih x hx y _
 rw[za7];refine ADet.intro mixed call43 func43 rfl ?_
 by_cases hk:t.kind=u.kind
 .cases hs:sEq t.name u.name with
  |false=>simp[ntmps43,hk,hs]
  |true=>
   simp[ntmps43,hk,hs];refine cq (eC _) ?_;simp
 have Qb:(t.kind==u.kind)=false:=by simpa using hk
 simp[ntmps43,Qb]
theorem zCw(t u:Ty)(S:ASt):ADet Tryz.prog 16 [tyV t,tyV u] S (B (eqT t u)) S:=by
 have eC:=fun S=>zcD t u S
 refine ADet.intro mixed call16 func16 rfl ?_;simp[ntmps16];refine cq (eC _) ?_;simp
theorem zFi(k:Int)(t:Ty)(S:ASt):ADet Tryz.prog 77 [U k,tyV t] S (tyV (inTy k t)) S:=by
 refine ADet.intro mixed call77 func77 rfl ?_;simp[ntmps77,inTy,Ty.kind,Ty.name,Ty.args];rw[ze];rfl
theorem zL5(op:Int)(S:ASt):ADet Tryz.prog 80 [U op] S (U (zBs op)) S:=by
 refine ADet.intro mixed call80 func80 rfl ?_
 by_cases h1:op=21
 .simp[ntmps80,zBs,h1]
 by_cases h2:op=26
 .simp[ntmps80,zBs,h2]
 by_cases h3:op=27
 .simp[ntmps80,zBs,h3]
 by_cases h4:op=29
 .simp[ntmps80,zBs,h4]
 have e1:(op==21)=false:=by simpa using h1
 have e2:(op==26)=false:=by simpa using h2
 have e3:(op==27)=false:=by simpa using h3
 have e4:(op==29)=false:=by simpa using h4
 simp[ntmps80,zBs,e1,e2,e3,e4,h1,h2,h3,h4]
theorem zS7(op:Int)(S:ASt):ADet Tryz.prog 81 [U op] S (.tup [U (zBF op).1,B (zBF op).2]) S:=by
 refine ADet.intro mixed call81 func81 rfl ?_
 by_cases h1:op=22
 .simp[ntmps81,zBF,h1]
 by_cases h2:op=30
 .simp[ntmps81,zBF,h2]
 by_cases h3:op=24
 .simp[ntmps81,zBF,h3]
 by_cases h4:op=25
 .simp[ntmps81,zBF,h4]
 by_cases h5:op=35
 .simp[ntmps81,zBF,h5]
 by_cases h6:op=36
 .simp[ntmps81,zBF,h6]
 have e1:(op==22)=false:=by simpa using h1
 have e2:(op==30)=false:=by simpa using h2
 have e3:(op==24)=false:=by simpa using h3
 have e4:(op==25)=false:=by simpa using h4
 have e5:(op==35)=false:=by simpa using h5
 have e6:(op==36)=false:=by simpa using h6
 simp[ntmps81,zBF,e1,e2,e3,e4,e5,e6,h1,h2,h3,h4,h5,h6]
def zYg:AV:=.agg [U 1,U 1,U 2,U 2,U 1,U 1,U 1,U 1,U 1,U 1,U 1,U 1,U 1,U 1,U 1,U 2,U 1,U 2,U 2,U 2,U 2,U 2]
theorem za8(S:ASt):ADet Tryz.prog 78 [] S zYg S:=by
 refine ADet.intro mixed call78 func78 rfl ?_;simp[ntmps78,zYg]
def fnT(p:List It)(env:List Fi):AObj:=.cells [.p (prog p),.p (.sl 4 (env.map Fi.enc))] 76
def TAt(p:List It)(S:ASt)(d j:Nat)(env:List Fi):Prop:=get2 S d j=some (fnT p env)
theorem zVo{env:List Fi}{nm:BA}{q:Nat}(hq:q<env.length)(h:∀i (hi:i<env.length),q<i->sEq env[i].name nm=false)(hs:sEq env[q].name nm=true):zGb env nm=some env[q]:=by
 unfold zGb;rw[List.find?_eq_some_iff_getElem];refine⟨hs,env.length-1-q,by simp;omega,?_,fun j hj=>?_⟩
 .rw[List.getElem_reverse]
  congr 1
  omega
 rw[List.getElem_reverse]
 rw[h _ (by omega) (by omega)]
 rfl
theorem zS8{env:List Fi}{nm:BA}(h:∀i (hi:i<env.length),sEq env[i].name nm=false):zGb env nm=none:=by
 unfold zGb;rw[List.find?_eq_none];intro x hx
 obtain⟨i,hi,rfl⟩:=List.getElem_of_mem (by simpa using hx:x∈env)
 rw[h i hi];simp
attribute [local simp] List.forall_mem_cons List.contains_cons List.contains_nil List.find?
def jI:Nat->Int
 |0=>-1
 |i+1=>(i:Int)
theorem zS9{i:Nat}(h:i<=4000000000):IntKind.i64.wrap ((i:Int)-1)=jI i:=by
 cases i with
 |zero=>decide
 |succ i=>
  have:((i+1:Nat):Int)-1=(i:Int):=by omega
  rw[this,jI]
  have e:=zA (q:=i) (n:=i+1) (by omega) (by unfold maxLen;omega)
  unfold IntKind.wrap at e ⊢;simp[IntKind.bits,IntKind.signed]at e ⊢;omega
theorem zGH(p:List It)(hp:PrSm p)(env:List Fi)(he:zAu env)(hl:env.length<=4000000000)(x:Pl)(S:ASt)(d j:Nat)(h:TAt p S d j env):ADet Tryz.prog 54 [.ptr d j 0,plV x] S (zBm (zBf p env x)) S:=by
 unfold TAt fnT at h
 have hm:env.length<=maxLen:=by unfold maxLen;omega
 refine ADet.intro mixed call54 func54 rfl ?_
 have Qc:=zS9 (i:=env.length) hl
 simp[ntmps54,h,Qc,strs];refine zH (fun q:Nat=>q<=env.length/\∀i (hi:i<env.length),q<=i->sEq env[i].name x.name=false) (fun q=>([.ptr (d+1) j 0,.any,.any,.ptr 0 0 0,.ptr 0 1 0,B false,B false,I (jI q)]++List.replicate 40 .any)) (fun q=>[.cells [Sg x.name,.p (.sl 1 (x.path.map fun s=>[pS s]))] 40,.cells [U 0,Sg emS,nilS] 36]::S) (fun q=>q) env.length ⟨Nat.le_refl _,fun i hi h=>by omega⟩ ?_ ?_ ?_
 .simp
 .simp
 rintro q ⟨hq,ia⟩
 cases q with
 |zero=>
  have hn:zBf p env x=none:=by
   unfold zBf;rw[zS8 fun i hi=>ia i hi (Nat.zero_le _)]
   rfl
  rw[hn]
  simp[jI,zBm]
 |succ i=>
  have hi:i<env.length:=by omega
  have Gc:(0:Int)<=(i:Int):=by omega
  have Je:=zS9 (i:=i) (by omega)
  have Um:=zVo (nm:=x.name) hi fun k hk hik=>ia k hk (by omega)
  have aq:=he env[i] (List.getElem_mem hi)
  have Za:sEq env[i].name x.name=false->∀k (hk:k<env.length),i<=k->sEq env[k].name x.name=false:=fun hs k hk hik=>by
   by_cases bv:k=i
   .subst bv;exact hs
   exact ia k hk (by omega)
  generalize Qg:env[i]=f at*
  have wC:=fun S=>zbw p hp f.type aq x.path S
  simp only[strs]at wC;simp[jI,Gc];refine dB [] (by kernel_rfl) ?_
  cases hs:sEq f.name x.name with
  |false=>
   simp[h,hi,Gc,Qg,Fi.enc,hs,Je]
   exact⟨i,⟨by omega,Za hs⟩,by omega,rfl⟩
  |true=>
   have Na:zBf p env x=zIt p f.type x.path:=by
    unfold zBf;rw[Um hs];rfl
   simp[h,hi,Gc,Qg,Fi.enc,hs];refine dB [] (by kernel_rfl) ?_
   simp[h,hi,Gc,Qg,Fi.enc,ze,prog];refine cq (wC _) ?_;rw[Na]
   cases zIt p f.type x.path with
   |none=>simp[zBm]
   |some r=>
    obtain⟨u,w⟩:=r
    simp[zBm]
theorem za9(p:List It)(env:List Fi)(hl:env.length+1<=4294967296)(nm:BA)(t:Ty)(S:ASt)(d j:Nat)(h:TAt p S d j env):ADet Tryz.prog 73 [.ptr d j 0,Sg nm,tyV t] S .un (set2 S d j (fnT p (env++[⟨nm,t⟩]))):=by
 unfold TAt fnT at h;refine ADet.intro mixed call73 func73 rfl ?_;simp[ntmps73];refine dB [(4,19),(8,19),(13,19)] (by kernel_rfl) ?_
 have Be:env.length<=4294967295:=by omega
 simp[h,fnT,Fi.enc,ze,Be]
def isT(nm:BA)(x:It):Bool:=(decide (x.kind≠3))&&sEq x.name nm
theorem zOX(p:List It)(hp:PrSm p)(env:List Fi)(k:Int)(nm:BA)(S:ASt)(d j:Nat)(h:TAt p S d j env):ADet Tryz.prog 123 [.ptr d j 0,U k,Sg nm] S (.tup [.p (.sl 4 ((zBn p k nm).1.map Fi.enc)),B (zBn p k nm).2]) S:=by
 unfold TAt fnT at h
 have tC:∀S,ADet Tryz.prog 74 [.agg [.p (prog p)],Sg nm] S (.tup [.p (.sl 4 (((zBB p nm).getD []).map Fi.enc)),B (zBB p nm).isSome]) S:=fun S=>by
  have:=zGY p hp nm S
  cases hf:zBB p nm with
  |none=>rw[hf]at this;exact this.lessTup (.cons (.p (.nil 4)) (.refl _))
  |some l=>rw[hf]at this;exact this
 simp only[prog]at tC h
 have Em:p.length<=20000:=hp.1
 have key:∀(r:List AV),(∀x,zb p nm=some x->r=[.p (.sl 4 (((zBB p nm).getD []).map Fi.enc)),B (decide (x.kind=k))])->(zb p nm=none->r=[nilS,B false])->ADet Tryz.prog 123 [.ptr d j 0,U k,Sg nm] S (.tup r) S:=fun r Io Tc=>by
  refine ADet.intro mixed call123 func123 rfl ?_;simp[ntmps123,h];refine zH (fun q:Nat=>q<=p.length/\∀i (hi:i<p.length),i<q->isT nm p[i]=false) (fun q=>([.ptr (d+1) j 0,U k,Sg nm,.any,.any,.any,nilS,B false,.any,.any,.any,.any,.any,.any,.any,.any,.p (.sl 16 (p.map It.enc)),I p.length,I q]++List.replicate 27 .any)) (fun q=>[]::S) (fun q=>p.length-q) 0 ⟨Nat.zero_le _,fun i hi h=>by omega⟩ ?_ ?_ ?_
  .simp
  .simp
  rintro q ⟨hq,me⟩
  by_cases hlt:q<p.length
  .have aa:(q:Int)<(p.length:Int):=by omega
   have Ze:=zA hlt (by unfold maxLen;omega)
   have Za:isT nm p[q]=false->∀i (hi:i<p.length),i<q+1->isT nm p[i]=false:=fun hx i hi Pg=>by
    by_cases Fm:i=q
    .subst Fm;exact hx
    exact me i hi (by omega)
   have Zc:isT nm p[q]=true->zb p nm=some p[q]:=fun hx=>by
    show p.find? (isT nm)=_
    rw[List.find?_eq_some_iff_getElem];exact⟨hx,q,hlt,rfl,fun i hi=>by rw[me i (by omega) hi];rfl⟩
   generalize he:p[q]=x at*
   by_cases hk:x.kind=3
   .have Qb:(x.kind !=3)=false:=by simp[hk]
    simp[hlt,aa,It.enc,hk,Qb,he];exact⟨q+1,⟨by omega,Za (by simp[isT,hk])⟩,by omega,Ze⟩
   have Qb:(x.kind !=3)=true:=by simpa using hk
   cases hs:sEq x.name nm with
   |false=>
    simp[hlt,aa,It.enc,Qb,hs,he]
    exact⟨q+1,⟨by omega,Za (by simp[isT,hs])⟩,by omega,Ze⟩
   |true=>
    rw[Io x (Zc (by simp[isT,hk,hs]))]
    simp[hlt,aa,It.enc,Qb,hs,he,h];refine cq (tC _) ?_
    by_cases yf:x.kind=k
    .simp
     refine dB [] (by kernel_rfl) ?_
     simp[yf]
    have bq:(x.kind==k)=false:=by simpa using yf
    simp;refine dB [] (by kernel_rfl) ?_
    simp[yf,bq]
  have aa:¬(q:Int)<(p.length:Int):=by omega
  have Zc:zb p nm=none:=by
   show p.find? (isT nm)=_
   rw[List.find?_eq_none];intro x hx
   obtain⟨i,hi,rfl⟩:=List.getElem_of_mem hx
   rw[me i hi (by omega)]
   simp
  rw[Tc Zc];simp[aa]
 unfold zBn
 cases hf:zb p nm with
 |none=>exact(key [nilS,B false] (fun x h=>by rw[hf]at h;cases h) fun _=>rfl).lessTup (.cons (.p (.nil 4)) (.refl _))
 |some x=>exact key _ (fun y h=>by rw[hf]at h;cases h;rfl) fun h=>by rw[hf]at h;cases h
def payT:Option Ty->AV
 |some t=>.tup [tyV t,B true]
 |none=>.tup [tyZ,B false]
theorem zFF(p:List It)(hp:PrSm p)(env:List Fi)(Da v:BA)(S:ASt)(d j:Nat)(h:TAt p S d j env):ADet Tryz.prog 76 [.ptr d j 0,Sg Da,Sg v] S (payT (zAQ p Da v)) S:=by
 have fC:=fun L=>zOX p hp env 2 Da (L::S) (d+1) j h
 have wa:=zJd hp (k:=2) (nm:=Da)
 unfold zAQ
 generalize Ge:(zBn p 2 Da).1=l at*
 generalize (zBn p 2 Da).2=b at*
 have tf:l.length<=20000:=wa.1
 refine ADet.intro mixed call76 func76 rfl ?_;simp[ntmps76];refine cq (fC _) ?_;simp;refine zH (fun q:Nat=>q<=l.length/\(b=true->∀i (hi:i<l.length),i<q->sEq l[i].name v=false)) (fun q=>([.any,.any,Sg v,.any,.any,.any,.ptr 0 0 0,B false,.any,B b,.any,.any,.any,.any,.any,.any,.any,.any,.p (.sl 4 (l.map Fi.enc)),I l.length,I q]++List.replicate 14 .any)) (fun q=>[.cells [U 0,Sg emS,nilS] 36]::S) (fun q=>l.length-q) 0 ⟨Nat.zero_le _,fun hb i hi h=>by omega⟩ ?_ ?_ ?_
 .simp
 .simp
 rintro q ⟨hq,me⟩
 by_cases hlt:q<l.length
 .have aa:(q:Int)<(l.length:Int):=by omega
  have Ze:=zA hlt (by unfold maxLen;omega)
  have Za:(b=true->sEq l[q].name v=false)->b=true->∀i (hi:i<l.length),i<q+1->sEq l[i].name v=false:=fun hx hb i hi Pg=>by
   by_cases Fm:i=q
   .subst Fm;exact hx hb
   exact me hb i hi (by omega)
  have Zc:b=true->sEq l[q].name v=true->l.find? (fun w=>sEq w.name v)=some l[q]:=fun hb hx=>by
   rw[List.find?_eq_some_iff_getElem];exact⟨hx,q,hlt,rfl,fun i hi=>by rw[me hb i (by omega) hi];rfl⟩
  generalize he:l[q]=f at*
  cases hb:b with
  |false=>
   simp[hlt,aa,Fi.enc,he]
   exact⟨q+1,by omega,by omega,Ze⟩
  |true=>
   cases hs:sEq f.name v with
   |false=>
    simp[hlt,aa,Fi.enc,he,hs]
    exact⟨q+1,⟨by omega,fun i hi Pg=>Za (fun _=>hs) hb i hi Pg⟩,by omega,Ze⟩
   |true=>
    rw[if_pos rfl,Zc hb hs];simp[hlt,aa,Fi.enc,ze,he,hs,payT]
 have aa:¬(q:Int)<(l.length:Int):=by omega
 have Vm:(if b=true then(l.find? fun w=>sEq w.name v).map Fi.type else none)=none:=by
  split
  .rename_i hb
   have:l.find? (fun w=>sEq w.name v)=none:=by
    rw[List.find?_eq_none];intro x hx
    obtain⟨i,hi,rfl⟩:=List.getElem_of_mem hx
    rw[me hb i hi (by omega)]
    simp
   rw[this];rfl
  rfl
 rw[Vm];simp[aa,payT]
attribute [local simp] zAd zw zA6 zAe zAD zAf zA7 zx zn zv zAb zA5 zAC zAc zAg zAh zA8 zA9 zCV zAO zAP cutL cutO zBJ ThrK
def resT(r:Except Int Ty)(pos:Int):ARes:=match r with| .ok t=>.ret (tyV t)| .error n=>.thr (fltW (n,pos))
def zB8(r:Except Int Ty)(pos:Int):ARes:=match r with| .ok t=>.ret (.agg [U t.kind,Sg t.name,nilS])| .error n=>.thr (fltW (n,pos))
theorem zK.less{P:Program}{K:FuncId}{args:List AV}{S S':ASt}{r r':AV}(oa:LeA r r')(h:zK P K args S (.ret r) S'):zK P K args S (.ret r') S':=
 ⟨h.1,fun Pr φ xs w h1 h2 h3=>(h.2 Pr φ xs w h1 h2 h3).mono fun e w' he=>by
  obtain⟨Pr',φ',⟨x,rfl,s3⟩,s1,s2⟩:=he
  exact⟨Pr',φ',⟨x,rfl,zDz.1 oa s3⟩,s1,s2⟩⟩
theorem zK.bare{P:Program}{K:FuncId}{args:List AV}{S S':ASt}{t:Ty}(ht:t.args=[])(h:zK P K args S (.ret (.agg [U t.kind,Sg t.name,nilS])) S'):zK P K args S (.ret (tyV t)) S':=by
 have:tyV t= .agg [U t.kind,Sg t.name,.p (.sl 3 [])]:=by rw[tyV,ht];rfl
 rw[this];exact h.less (.agg (.cons (.refl _) (.cons (.refl _) (.cons (.p (.nil 3)) (.refl _)))))
theorem zK.bareT{P:Program}{K:FuncId}{args:List AV}{S S':ASt}{r:Except Int Ty}{pos:Int}(hr:∀t,r= .ok t->t.args=[])(h:zK P K args S (zB8 r pos) S'):zK P K args S (resT r pos) S':=by
 cases r with
 |error n=>exact h
 |ok t=>exact zK.bare (hr t rfl) h
theorem zL6{l:List Ty}(h:l.length=1):∃u,l=[u]:=by
 match l,h with
 | [u],_=>exact⟨u,rfl⟩
theorem zbA(p:List It)(env:List Fi)(op:Int)(pl:Pl)(l:List Ty)(t:Ty)(ht:(if(zBF op).2=true then plT p env pl else l.headD zTy)=t)(h:¬(t.kind=(zBF op).1/\t.args.length=1)):zDl p env op pl l= .error 100:=by
 subst ht;unfold zDl;exact if_pos h
theorem zbB(p:List It)(env:List Fi)(op:Int)(pl:Pl)(l:List Ty)(t u:Ty)(ht:(if(zBF op).2=true then plT p env pl else l.headD zTy)=t)(hk:t.kind=(zBF op).1)(hu:t.args=[u])(hl:¬((zBF op).2=true/\l.length=1)):zDl p env op pl l= .ok u:=by
 have h:¬ ¬(t.kind=(zBF op).1/\t.args.length=1):=by simp[hk,hu]
 have e:(Except.ok (t.args.headD zTy):Except Int Ty)= .ok u:=by rw[hu];rfl
 subst ht;unfold zDl;rw[<-e];exact(if_neg h).trans (if_neg hl)
theorem zbC(p:List It)(env:List Fi)(op:Int)(pl:Pl)(l:List Ty)(t u x:Ty)(ht:(if(zBF op).2=true then plT p env pl else l.headD zTy)=t)(hk:t.kind=(zBF op).1)(hu:t.args=[u])(hb:(zBF op).2=true)(hl:l=[x]):zDl p env op pl l=if eqT u x=true then .ok (zAG 3)else .error 100:=by
 have h:¬ ¬(t.kind=(zBF op).1/\t.args.length=1):=by simp[hk,hu]
 have h2:(zBF op).2=true/\l.length=1:=⟨hb,by rw[hl];rfl⟩
 have e1:t.args.headD zTy=u:=by rw[hu];rfl
 have e2:l.headD zTy=x:=by rw[hl];rfl
 subst ht;unfold zDl
 have hc:eqT ((if(zBF op).2=true then plT p env pl else l.headD zTy).args.headD zTy) (l.headD zTy)=eqT u x:=by rw[e1,e2]
 refine(if_neg h).trans ((if_pos h2).trans ?_)
 show(if eqT ((if(zBF op).2=true then plT p env pl else l.headD zTy).args.headD zTy) (l.headD zTy)=true then(.ok (zAG 3):Except Int Ty)else .error 100)=_
 rw[hc]
section
variable(p:List It)(hp:PrSm p)(env:List Fi)(he:zAu env)(hl:env.length<=4000000000)(e:Ex)(l:List Ty)(S:ASt)(d j:Nat)(h:TAt p S d j env)
include hp he hl h
theorem zcE(h0:0<(zBF e.op).1)(hne:(zBF e.op).2=false->1<=l.length):zK Tryz.prog 82 [.ptr d j 0,exV e,.p (.sl 3 (l.map Ty.enc)),U (zBF e.op).1,B (zBF e.op).2] S (resT (zDl p env e.op e.place l) e.pos) S:=by
 have pC:=fun L=>zGH p hp env he hl e.place (L::S) (d+1) j h
 have sC:=fun t u S=>zCw t u S
 have T1:=zbA p env e.op e.place l
 have T2:=zbB p env e.op e.place l
 have T3:=zbC p env e.op e.place l
 generalize zDl p env e.op e.place l=R at*
 generalize (zBF e.op).1=k at*
 generalize (zBF e.op).2=b at*
 cases b with
 |false=>
  have hne:=hne rfl
  obtain⟨v,l1,rfl⟩:∃v l1,l=v::l1:=by
   cases l with
   |nil=>simp at hne
   |cons v l1=>exact⟨v,l1,rfl⟩
  by_cases h1:v.kind=k
  .by_cases h2:v.args.length=1
   .obtain⟨u,hu⟩:=zL6 h2
    rw[T2 v u rfl h1 hu (by simp)]
    refine zK.intro mixed call82 func82 rfl ?_;simp[ntmps82,ze,h1,hu];refine cq (zf _ _ _ _) ?_;simp[ze,hu,resT]
   rw[T1 v rfl (by simp[h2])]
   have Gg:¬(v.args.length:Int)=1:=by omega
   refine zK.intro mixed call82 func82 rfl ?_;simp[ntmps82,ze,h1,h2,Gg];refine cq (zf _ _ _ _) ?_;simp[resT]
  rw[T1 v rfl (by simp[h1])]
  have ye:(v.kind==k)=false:=by simpa using h1
  refine zK.intro mixed call82 func82 rfl ?_;simp[ntmps82,ze,ye];refine cq (zf _ _ _ _) ?_
  simp[resT]
 |true=>
  cases Na:zBf p env e.place with
  |none=>
   have jd:((0:Int)==k)=false:=by simp;omega
   rw[Na]at pC
   have ym:¬(0:Int)=k:=by omega
   have Rg:plT p env e.place=zTy:=by unfold plT;rw[Na];rfl
   rw[T1 zTy Rg (fun h=>ym h.1)]
   refine zK.intro mixed call82 func82 rfl ?_;simp[ntmps82];refine cq ((pC _).call) ?_;simp[zBm,jd];refine cq (zf _ _ _ _) ?_
   simp[resT]
  |some r=>
   obtain⟨v,w⟩:=r
   rw[Na]at pC
   have Rg:plT p env e.place=v:=by unfold plT;rw[Na];rfl
   by_cases h1:v.kind=k
   .by_cases h2:v.args.length=1
    .obtain⟨u,hu⟩:=zL6 h2
     by_cases h3:l.length=1
     .obtain⟨x,rfl⟩:=zL6 h3
      rw[T3 v u x Rg h1 hu rfl rfl]
      cases Wb:eqT u x with
      |true=>
       rw[if_pos rfl];refine zK.bare (t:=zAG 3) rfl ?_
       refine zK.intro mixed call82 func82 rfl ?_;simp[ntmps82];refine cq ((pC _).call) ?_;simp[zBm,h1,hu];refine cq (zf _ _ _ _) ?_;simp;refine zU (dB [(9,7)] (by kernel_rfl) ?_)
       simp[ze,hu];refine cq (sC _ _ _) ?_;rw[Wb];simp;refine cq ((zf _ _ _ _).det) ?_
       simp[resT,zAG,Ty.kind,Ty.name,Ty.args]
      |false=>
       rw[if_neg (by simp)]
       refine zK.intro mixed call82 func82 rfl ?_;simp[ntmps82];refine cq ((pC _).call) ?_;simp[zBm,h1,hu];refine cq (zf _ _ _ _) ?_;simp;refine z6 10 [10] [(9,7)] (by kernel_rfl) (by kernel_rfl) (by kernel_rfl) ?_
       simp[ze,hu];refine cq (sC _ _ _) ?_;rw[Wb];simp;exact⟨_,_,zf _ _ _ _,by simp[resT]⟩
     have Fb:¬(l.length:Int)=1:=by omega
     rw[T2 v u Rg h1 hu (fun h=>h3 h.2)]
     refine zK.intro mixed call82 func82 rfl ?_;simp[ntmps82];refine cq ((pC _).call) ?_;simp[zBm,h1,hu];refine cq (zf _ _ _ _) ?_;simp[ze,hu,h3,Fb,resT]
    rw[T1 v Rg (by simp[h2])]
    have Gg:¬(v.args.length:Int)=1:=by omega
    refine zK.intro mixed call82 func82 rfl ?_;simp[ntmps82];refine cq ((pC _).call) ?_;simp[zBm,h1,h2,Gg];refine cq (zf _ _ _ _) ?_;simp[resT]
   rw[T1 v Rg (by simp[h1])]
   have ye:(v.kind==k)=false:=by simpa using h1
   refine zK.intro mixed call82 func82 rfl ?_;simp[ntmps82];refine cq ((pC _).call) ?_;simp[zBm,ye];refine cq (zf _ _ _ _) ?_;simp[resT]
end
end Go.Proofs.YtdflkegnmmkkoaaGreatDoor
