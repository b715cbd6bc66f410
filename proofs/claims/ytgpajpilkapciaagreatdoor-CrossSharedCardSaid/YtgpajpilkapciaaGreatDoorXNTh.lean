/- A part of the proof. -/
import Derived.Test.YtgpajpilkapciaaGreatDoorXNTg
import Derived.Test.YtgpajpilkapciaaGreatDoorXMLp
set_option linter.unusedVariables false
set_option linter.unusedSimpArgs false
set_option maxRecDepth 100000
set_option maxHeartbeats 32000000
namespace Go.Proofs.YtgpajpilkapciaaGreatDoor
open Go.RowKit _root_.Go.Proofs.Tryz
def fresh(p:List It)(g:List BA):Nat:=p.countP fun x=>!g.any fun y=>sEq x.name y
theorem zNa{p:List It}{g:List BA}(s:BA):fresh p (g++[s])<=fresh p g:=by
 unfold fresh;refine List.countP_mono_left fun x _ h=>?_
 simp only[List.any_append,Bool.not_or,Bool.and_eq_true]at h;exact h.1
theorem zUJ{p:List It}{g:List BA}{s:BA}{z:It}(hz:z∈p)(he:sEq z.name s=true)(hg:g.any (fun y=>sEq s y)=false):fresh p (g++[s])+1<=fresh p g:=by
 have e:z.name=s:=zB3.1 he
 subst e
 induction p with
 |nil=>cases hz
 |cons a p ih=>
  have hc:∀g,fresh (a::p) g=fresh p g+if(!g.any fun y=>sEq a.name y)=true then 1 else 0:=fun g=>by
   unfold fresh;rw[List.countP_cons]
  rw[hc,hc]
  rcases List.mem_cons.1 hz with rfl|hz
  .have h1:=zNa (p:=p) (g:=g) z.name
   have h2:(!(g++[z.name]).any fun y=>sEq z.name y)=false:=by simp[he]
   have h3:(!g.any fun y=>sEq z.name y)=true:=by rw[hg];rfl
   rw[h2,h3];simp;omega
  have:=ih hz
  by_cases h:(!g.any fun y=>sEq a.name y)=true
  .rw[if_pos h];split<;>omega
  have h':¬(!(g++[z.name]).any fun y=>sEq a.name y)=true:=by
   simp only[List.any_append,Bool.not_or,Bool.and_eq_true];exact fun k=>h k.1
  rw[if_neg h,if_neg h'];omega
theorem zMS{p:List It}{s:BA}{z:It}(h:zU p s=some z):z∈p/\sEq z.name s=true:=by
 unfold zU at h
 have h1:=List.mem_of_find?_eq_some h
 have h2:=List.find?_some h
 simp only[Bool.and_eq_true]at h2;exact⟨h1,h2.2⟩
theorem zCt(p:List It)(nm:BA)(B:Nat)(hB:∀x∈p,x.fields.length<=B):∀(n:Nat) (fs:List Fi) (wb:List BA),fs.length+(B+1)*fresh p wb<=n->∃r,zCR p nm n fs wb=some r/\fresh p r.2<=fresh p wb
 |_,[],wb,_=>⟨(false,wb),by unfold zCR;rfl,Nat.le_refl _⟩
 |0,f::fs,wb,h=>by simp at h
 |n+1,f::fs,wb,h=>by
  simp only[List.length_cons]at h
  have hn:fs.length+(B+1)*fresh p wb<=n:=by omega
  unfold zCR
  by_cases h4:f.type.kind≠4
  .rw[if_pos h4];exact zCt p nm B hB n fs wb hn
  rw[if_neg h4]
  by_cases hs:sEq f.type.name nm=true
  .rw[if_pos hs];exact⟨_,rfl,Nat.le_refl _⟩
  rw[if_neg hs]
  by_cases ha:(wb.any fun g=>sEq f.type.name g)=true
  .rw[if_pos ha];exact zCt p nm B hB n fs wb hn
  rw[if_neg ha]
  have ta:=zNa (p:=p) (g:=wb) f.type.name
  cases hz:zU p f.type.name with
  |none=>
   obtain⟨r,h1,h2⟩:=zCt p nm B hB n fs (wb++[f.type.name]) (by have:=Nat.mul_le_mul_left (B+1) ta;omega)
   exact⟨r,h1,by omega⟩
  |some z=>
   obtain⟨hm,he⟩:=zMS hz
   have hlt:=zUJ (g:=wb) hm he (by simpa using ha)
   have hb:=hB z hm
   have Yo:=Nat.mul_le_mul_left (B+1) hlt
   rw[Nat.mul_add,Nat.mul_one]at Yo
   obtain⟨r,h1,h2⟩:=zCt p nm B hB n z.fields (wb++[f.type.name]) (by omega)
   obtain⟨b,g⟩:=r
   simp only[h1]
   cases b with
   |true=>exact⟨_,rfl,by simp only at h2 ⊢;omega⟩
   |false=>
    simp only at h2 ⊢
    obtain⟨r,h3,h4⟩:=zCt p nm B hB n fs g (by have:=Nat.mul_le_mul_left (B+1) (show fresh p g<=fresh p wb by omega);omega)
    exact⟨r,h3,by omega⟩
theorem zLE{α:Type}{p:α->Bool}{l:List α}{m:Int}(h:zq p l m=true):(l.length:Int)<=m/\∀x∈l,p x=true:=by
 unfold zq at h;simp only[Bool.and_eq_true,decide_eq_true_eq]at h;rw[List.take_of_length_le (by omega)]at h
 exact⟨h.1,fun x hx=>List.all_eq_true.1 h.2 x hx⟩
def zh(env:List Fi):Prop:=∀f∈env,TySm f.type
theorem zUK{nm:BA}(h:nm.size<=20000)(k:Int):TySm (.mk k nm []):=.mk _ h (by simp[Ty.args]) (fun x hx=>by simp[Ty.args]at hx)
theorem zI1:emS.size<=20000:=by decide
theorem zFr(k:Int):TySm (zAN k):=zUK zI1 k
theorem sm_z:TySm zTy:=zUK zI1 0
theorem zJu(k:Int){t:Ty}(h:TySm t):TySm (inTy k t):=.mk _ zI1 (by simp[inTy,Ty.args]) (fun x hx=>by
 simp only[inTy,Ty.args,List.mem_singleton]at hx;subst hx;exact h)
theorem zRG{t:Ty}(h:TySm t):∀u∈t.args,TySm u:=by obtain⟨_,_,_,h⟩:=h;exact h
theorem zJv{l:List Ty}(h:∀u∈l,TySm u):TySm (l.headD zTy):=by
 cases l with
 |nil=>exact sm_z
 |cons u l=>exact h u (by simp)
section
variable{p:List It}(hp:PrSm p){env:List Fi}(he:zh env)
include hp in
theorem zCW{nm:BA}:zHn ((zW p nm).getD []):=by
 unfold zW
 cases hx:zU p nm with
 |none=>exact⟨by simp,by simp⟩
 |some x=>
  simp only;split
  .exact(zFm hp hx).2.1
  exact⟨by simp,by simp⟩
include hp in
theorem zI2{k:Int}{nm:BA}:zHn (zBh p k nm).1:=by
 unfold zBh
 cases hx:zU p nm with
 |none=>exact⟨by simp,by simp⟩
 |some x=>exact zCW hp
include hp in
theorem zOw{Ba v:BA}{t:Ty}(h:zAO p Ba v=some t):TySm t:=by
 unfold zAO at h;split at h
 .obtain⟨f,hf,rfl⟩:=Option.map_eq_some_iff.1 h
  exact((zI2 hp).2 f (List.mem_of_find?_eq_some hf)).2
 cases h
include hp in
theorem zMT(Ba v:BA):TySm ((zAO p Ba v).getD zTy):=by
 cases h:zAO p Ba v with
 |none=>exact sm_z
 |some t=>exact zOw hp h
include hp he in
theorem zNb{x:Pl}{r:Ty × Bool}(h:zBC p env x=some r):TySm r.1:=by
 unfold zBC zGO at h
 obtain⟨f,hf,hw⟩:=Option.bind_eq_some_iff.1 h
 have hm:=List.mem_of_find?_eq_some hf
 unfold zIT at hw;split at hw
 .obtain⟨u,w⟩:=r
  exact zJn hp (he f (by simpa using hm)) hw
 cases hw
include hp he in
theorem zRH(x:Pl):TySm (plT p env x):=by
 unfold plT
 cases h:zBC p env x with
 |none=>exact sm_z
 |some r=>exact zNb hp he h
include hp in
theorem zW6{op:Int}{nm sd:BA}(hn:nm.size<=20000):TySm (zJo p op nm sd).2.1:=by
 unfold zJo;split
 .split
  .rename_i x hx
   exact(hp.2 x (List.mem_of_find?_eq_some hx)).2.2.1
  exact sm_z
 split
 .exact zUK hn 4
 split<;>exact zUK hn 4
include hp he in
theorem zZF{op:Int}{nm sd:BA}{pl:Pl}{l:List Ty}(hn:nm.size<=20000)(hl:∀u∈l,TySm u){t:Ty}(h:ownT p env op nm sd pl l= .ok t):TySm t:=by
 have h0:=zJv hl
 unfold ownT at h;split at h
 .cases h;exact zFr _
 split at h
 .split at h
  .cases h;exact zFr _
  cases h
 split at h
 .unfold zHt at h
  split at h
  .cases h;exact zW6 hp hn
  cases h
 split at h
 .split at h
  .cases h;exact zJu _ h0
  cases h
 split at h
 .split at h
  .cases h;exact zJu _ h0
  cases h
 split at h
 .split at h
  .cases h;exact zFr _
  cases h
 split at h
 .have ht:TySm (if(zA1 op).2=true then((zBC p env pl).map Prod.fst).getD zTy else l.headD zTy):=by
   split
   .exact zRH hp he pl
   exact h0
  unfold zDY at h;simp only at h
  generalize (if(zA1 op).2=true then((zBC p env pl).map Prod.fst).getD zTy else l.headD zTy)=u at ht h
  split at h
  .cases h
  split at h
  .split at h
   .cases h;exact zFr _
   cases h
  cases h
  exact zJv (zRG ht)
 unfold zFM at h
 split at h
 .cases h
 rename_i t1 w1 Ua
 have h1:TySm t1:=zNb hp he Ua
 split at h
 .split at h
  .cases h;exact h1
  cases h
 split at h
 .cases h;exact zJu _ h1
 split at h
 .split at h
  .cases h;exact zJu _ h1
  cases h
 split at h
 .split at h
  .cases h;exact h1
  cases h
 split at h
 .cases h;exact zFr _
 cases h
end
theorem zI3(p:List It)(env:List Fi)(e:Ex):tyE p env e=match tyEs p env e.args with
  | .error f=>.error f
  | .ok l=>match ownT p env e.op e.name e.u4 e.place l with| .ok t=>.ok t| .error n=>.error (n,e.pos):=by
 cases e;rw[tyE]<;>rfl
theorem zJw{p:List It}{env:List Fi}{Q:Ty->Prop}:∀l:List Ex,(∀e∈l,∀t,tyE p env e= .ok t->Q t)->∀ts,tyEs p env l= .ok ts->(∀u∈ts,Q u)/\ts.length=l.length
 | [],_,ts,h=>by rw[tyEs]at h;cases h;exact⟨by simp,rfl⟩
 |e::l,hq,ts,h=>by
  rw[tyEs]at h;split at h
  .cases h
  rename_i t ht
  split at h
  .cases h
  rename_i us Kt
  cases h
  obtain⟨k1,k2⟩:=zJw l (fun x hx=>hq x (List.mem_cons_of_mem _ hx)) us Kt
  refine⟨fun u hu=>?_,by simp[k2]⟩
  rcases List.mem_cons.1 hu with rfl|hu
  .exact hq e (by simp) u ht
  exact k1 u hu
theorem zVP{p:List It}(hp:PrSm p){env:List Fi}(he:zh env):∀e:Ex,ExSm e->∀t,tyE p env e= .ok t->TySm t:=by
 refine Ex.ind fun e ih hs t h=>?_
 obtain⟨_,h1,_,_,_,h5⟩:=hs
 rw[zI3]at h;split at h
 .cases h
 rename_i l hl
 split at h
 .rename_i u hu
  cases h;exact zZF hp he h1 (zJw e.args (fun x hx=>ih x hx (h5 x hx)) l hl).1 hu
 cases h
theorem zRI{p:List It}(hp:PrSm p){env:List Fi}(he:zh env){l:List Ex}(hl:∀e∈l,ExSm e){ts:List Ty}(h:tyEs p env l= .ok ts):(∀u∈ts,TySm u)/\ts.length=l.length:=zJw l (fun e hx=>zVP hp he e (hl e hx)) ts h
theorem zG9(p:List It)(env:List Fi):∀a b:List Ex,tyEs p env (a++b)=match tyEs p env a with
  | .error f=>.error f
  | .ok l=>match tyEs p env b with| .error f=>.error f| .ok m=>.ok (l++m)
 | [],b=>by
  rw[List.nil_append,tyEs];simp only[List.nil_append]
  split<;>simp[*]
 |e::a,b=>by
  rw[List.cons_append,tyEs,tyEs,zG9 p env a b]
  cases tyE p env e with
  |error f=>rfl
  |ok t=>
   simp only
   cases tyEs p env a with
   |error f=>rfl
   |ok l=>
    simp only;cases tyEs p env b<;>rfl
theorem zNc(p:List It)(env:List Fi)(e:Ex):tyEs p env [e]=match tyE p env e with| .error f=>.error f| .ok t=>.ok [t]:=by
 rw[tyEs,tyEs];cases tyE p env e<;>rfl
theorem zAP{p:List It}{env:List Fi}{l:List Ex}{q:Nat}(hq:q<l.length){ts:List Ty}(h:tyEs p env (l.take q)= .ok ts):(∀t,tyE p env l[q]= .ok t->tyEs p env (l.take (q+1))= .ok (ts++[t]))/\∀f,tyE p env l[q]= .error f->tyEs p env l= .error f:=by
 have e1:l.take (q+1)=l.take q++[l[q]]:=List.take_succ_eq_append_getElem hq
 refine⟨fun t ht=>?_,fun f hf=>?_⟩
 .rw[e1,zG9,h,zNc,ht]
 have e2:l=(l.take q++[l[q]])++l.drop (q+1):=by rw[<-e1,List.take_append_drop]
 rw[e2,zG9,zG9,h,zNc,hf]
theorem zJx(p:List It):∀(a b:List St) (env:List Fi),tgSs p env (a++b)=match tgSs p env a with
  |(e,some f)=>(e,some f)
  |(e,none)=>tgSs p e b
 | [],b,env=>by rw[List.nil_append,tgSs]
 |s::a,b,env=>by
  rw[List.cons_append,tgSs,tgSs]
  generalize tgS p env s=r
  obtain⟨e,o⟩:=r
  cases o with
  |some f=>rfl
  |none=>exact zJx p a b e
theorem zUL(p:List It)(env:List Fi)(s:St):tgSs p env [s]=tgS p env s:=by
 rw[tgSs]
 generalize tgS p env s=r
 obtain⟨e,o⟩:=r
 cases o with
 |some f=>rfl
 |none=>simp only;rw[tgSs]
theorem zLF{p:List It}{env:List Fi}{l:List St}{q:Nat}(hq:q<l.length){env1:List Fi}(h:tgSs p env (l.take q)=(env1,none)):tgSs p env (l.take (q+1))=tgS p env1 l[q]/\∀f,(tgS p env1 l[q]).2=some f->tgSs p env l=tgS p env1 l[q]:=by
 have e1:l.take (q+1)=l.take q++[l[q]]:=List.take_succ_eq_append_getElem hq
 have e0:tgSs p env (l.take (q+1))=tgS p env1 l[q]:=by rw[e1,zJx,h];exact zUL p env1 _
 refine⟨e0,fun f hf=>?_⟩
 have e2:tgSs p env l=tgSs p env (l.take (q+1)++l.drop (q+1)):=by rw[List.take_append_drop]
 rw[e2,zJx,e0]
 generalize tgS p env1 l[q]=r at*
 obtain⟨e,o⟩:=r
 simp only at hf;subst hf;rfl
theorem zJy(p:List It)(Ba:BA):∀(a b:List Ar) (env:List Fi),tgAs p Ba env (a++b)=match tgAs p Ba env a with
  |(e,some f)=>(e,some f)
  |(e,none)=>tgAs p Ba env b
 | [],b,env=>by rw[List.nil_append,tgAs]
 |⟨v,n,l⟩::a,b,env=>by
  rw[List.cons_append,tgAs,tgAs]
  generalize tgSs p (if sEq n emS=true then env else env++[⟨n,(zAO p Ba v).getD zTy⟩]) l=r
  obtain⟨e,o⟩:=r
  cases o with
  |some f=>rfl
  |none=>exact zJy p Ba a b env
def armE(p:List It)(Ba:BA)(env:List Fi)(a:Ar):List Fi:=if sEq a.name emS=true then env else env++[⟨a.name,(zAO p Ba a.variant).getD zTy⟩]
theorem zUM(p:List It)(Ba:BA)(env:List Fi)(a:Ar):tgAs p Ba env [a]=match tgSs p (armE p Ba env a) a.body with
  |(e,some f)=>(e,some f)
  |(_,none)=>(env,none):=by
 obtain⟨v,n,b⟩:=a
 rw[tgAs];unfold armE
 generalize tgSs p (if sEq n emS=true then env else env++[⟨n,(zAO p Ba v).getD zTy⟩]) b=r
 obtain⟨e,o⟩:=r
 cases o with
 |some f=>rfl
 |none=>simp only;rw[tgAs]
theorem zLG(p:List It)(Ba:BA):∀(l:List Ar) (env:List Fi) {Yb:List Fi},tgAs p Ba env l=(Yb,none)->Yb=env
 | [],env,Yb,h=>by rw[tgAs]at h;cases h;rfl
 |⟨v,n,b⟩::l,env,Yb,h=>by
  rw[tgAs]at h;split at h
  .cases h
  exact zLG p Ba l env h
theorem zRJ{p:List It}{Ba:BA}{env:List Fi}{l:List Ar}{q:Nat}(hq:q<l.length)(h:tgAs p Ba env (l.take q)=(env,none)):((tgSs p (armE p Ba env l[q]) l[q].body).2=none->tgAs p Ba env (l.take (q+1))=(env,none))/\∀f,(tgSs p (armE p Ba env l[q]) l[q].body).2=some f->tgAs p Ba env l=tgSs p (armE p Ba env l[q]) l[q].body:=by
 have e1:l.take (q+1)=l.take q++[l[q]]:=List.take_succ_eq_append_getElem hq
 have e0:tgAs p Ba env (l.take (q+1))=tgAs p Ba env [l[q]]:=by rw[e1,zJy,h]
 have e2:l=l.take (q+1)++l.drop (q+1):=(List.take_append_drop _ _).symm
 rw[zUM]at e0
 generalize hr:tgSs p (armE p Ba env l[q]) l[q].body=r at*
 obtain⟨e,o⟩:=r
 refine⟨fun hn=>?_,fun f hf=>?_⟩
 .simp only at hn
  subst hn;exact e0
 simp only at hf
 subst hf;rw[e2,zJy,e0]
theorem zA7{a b:List Fi}(ha:zh a)(hb:zh b):zh (a++b):=fun f hf=>by
 rcases List.mem_append.1 hf with hf|hf
 .exact ha f hf
 exact hb f hf
theorem zC7{nm:BA}{t:Ty}(ht:TySm t):zh [⟨nm,t⟩]:=fun f hf=>by
 simp only[List.mem_singleton]at hf;subst hf;exact ht
theorem zFO:∀(nms:List BA) (fs:List Fi),zh fs->zh (zBc fs nms)
 | [],fs,h=>by intro f hf;simp[zBc]at hf
 |n::nms,[],h=>by intro f hf;simp[zBc]at hf
 |n::nms,g::fs,h=>by
  intro f hf;simp only[zBc,List.zip_cons_cons,List.map_cons,List.mem_cons]at hf
  rcases hf with rfl|hf
  .exact h g (by simp)
  exact zFO nms fs (fun y hy=>h y (List.mem_cons_of_mem _ hy)) f hf
theorem zD0:∀(nms:List BA) (l:List Ty),(∀u∈l,TySm u)->zh (zAg nms l)
 | [],l,h=>by intro f hf;simp[zAg]at hf
 |n::nms,[],h=>by intro f hf;simp[zAg]at hf
 |n::nms,g::l,h=>by
  intro f hf;simp only[zAg,List.zip_cons_cons,List.map_cons,List.mem_cons]at hf
  rcases hf with rfl|hf
  .exact h g (by simp)
  exact zD0 nms l (fun y hy=>h y (List.mem_cons_of_mem _ hy)) f hf
theorem zH1{env Yb:List Fi}{r:List Fi × Option Flt}(h:zCV env r=(Yb,none)):Yb=env:=by
 unfold zCV at h;split at h
 .rename_i f hf
  rw[h]at hf;cases hf
 cases h;rfl
theorem zUN{p:List It}(hp:PrSm p){env Yb:List Fi}(he:zh env){s:St}(hs:StSm s)(h:tgS p env s=(Yb,none)):zh Yb/\Yb.length<=env.length+s.nd:=by
 obtain⟨_,_,_,_,Eb,_,xa,_,_,_,_,_,_,_⟩:=hs
 have fb:=stNd s
 rw[zB7]at h;split at h
 .cases h
 rename_i l hl
 have vg:=(zRI hp he xa.2 hl).1
 have bc:zh env/\env.length<=env.length+s.nd:=⟨he,by omega⟩
 split at h
 .cases h
 split at h
 .cases h
  exact⟨zA7 he (zC7 (zJv vg)),by simp;omega⟩
 split at h
 .cases h
  refine⟨zA7 he (zFO _ _ fun f hf=>((zCW hp).2 f hf).2),?_⟩
  have:(zBc ((zW p s.name).getD []) s.names).length<=s.names.length:=by unfold zBc;simp;omega
  rw[List.length_append];omega
 split at h
 .cases h;exact bc
 split at h
 .split at h
  .cases h
  have:=zH1 h
  subst this;exact bc
 split at h
 .have:=zLG p _ _ _ h
  subst this;exact bc
 split at h
 .injection h with h1 h2
  subst h1;exact bc
 split at h
 .have:=zH1 h
  subst this;exact bc
 split at h
 .cases h
  refine⟨zA7 he fun f hf=>?_,by simp;omega⟩
  simp only[List.mem_cons,List.not_mem_nil,or_false]at hf
  rcases hf with rfl|rfl
  .exact zJu _ Eb
  exact zJu _ Eb
 have:=zH1 h
 subst this;exact bc
theorem zH2{p:List It}(hp:PrSm p):∀{l:List St} {env Yb:List Fi},zh env->(∀s∈l,StSm s)->tgSs p env l=(Yb,none)->zh Yb/\Yb.length<=env.length+(l.map St.nd).sum
 | [],env,Yb,he,hs,h=>by rw[tgSs]at h;cases h;exact⟨he,by simp⟩
 |s::l,env,Yb,he,hs,h=>by
  rw[tgSs]at h
  generalize hr:tgS p env s=r at h
  obtain⟨e,o⟩:=r
  cases o with
  |some f=>cases h
  |none=>
   simp only at h
   obtain⟨k1,k2⟩:=zUN hp he (hs s (by simp)) hr
   obtain⟨k3,k4⟩:=zH2 hp k1 (fun y hy=>hs y (List.mem_cons_of_mem _ hy)) h
   refine⟨k3,?_⟩;rw[List.map_cons,List.sum_cons];omega
theorem zFs(f:St->Nat):∀(l:List St) (q:Nat) (hq:q<l.length),((l.take q).map f).sum+f l[q]<=(l.map f).sum
 |s::l,0,hq=>by simp
 |s::l,q+1,hq=>by
  have:=zFs f l q (by simpa using hq)
  simp only[List.take_succ_cons,List.map_cons,List.sum_cons,List.getElem_cons_succ];omega
inductive StG (p:List It):St->Prop
 |mk (s:St):(∀e∈s.u5,∃d,e.whole d=true)->((s.op=1\/s.op=2\/s.op=3\/s.op=6\/s.op=7)->1<=s.u5.length)->(s.op=10->s.u5.length=s.names.length)->(s.op=2->s.names.length<=((zW p s.name).getD []).length)->
  (∀x∈s.body,StG p x)->(∀x∈s.els,StG p x)->(∀a∈s.arms,∀x∈a.body,StG p x)->StG p s
theorem zHA{p:List It}:∀(l:List St),(∀s∈l,∀σ:Nf,(s.nm p σ).1.fl=[]->StG p s)->∀σ:Nf,(St.nms p l σ).1.fl=[]->∀s∈l,StG p s
 | [],hs,σ,hn,s,h=>by cases h
 |x::l,hs,σ,hn,s,h=>by
  simp only[St.nms]at hn
  rcases List.mem_cons.1 h with rfl|h
  .exact hs s (by simp) σ (zFo (zCN p (fun s _ σ=>zC5 p s σ) (s.nm p σ).1 (l:=l)).1 hn)
  exact zHA l (fun y hy=>hs y (List.mem_cons_of_mem _ hy)) _ hn s h
theorem zDa{p:List It}{l:List St}(hs:∀s∈l,∀σ:Nf,(s.nm p σ).1.fl=[]->StG p s){pos:Int}{names:List BA}{σ:Nf}(hn:(zAT p l pos names σ).fl=[]):(∀s∈l,StG p s)/\σ.fl=[]:=by
 unfold zAT at hn;rw[zJp,zJp]at hn;exact⟨zHA l hs _ hn,zFo (zAy names pos σ).1 (zFo (zCN p (fun s _ σ=>zC5 p s σ) _).1 hn)⟩
theorem zLH{p:List It}{pos:Int}:∀(l:List Ar),(∀a∈l,∀s∈a.body,∀σ:Nf,(s.nm p σ).1.fl=[]->StG p s)->∀σ:Nf,(l.foldl (fun σ a=>a.nm p pos σ) σ).fl=[]->σ.fl=[]/\∀a∈l,∀s∈a.body,StG p s
 | [],hs,σ,hn=>⟨hn,fun a ha=>by cases ha⟩
 |⟨v,n,b⟩::l,hs,σ,hn=>by
  rw[List.foldl_cons]at hn
  obtain⟨k1,k2⟩:=zLH l (fun a ha=>hs a (List.mem_cons_of_mem _ ha)) _ hn
  obtain⟨b1,b2⟩:=zDa (p:=p) (l:=b) (fun s tm=>hs ⟨v,n,b⟩ (by simp) s tm) (pos:=pos) (names:=oneN n) (σ:=σ) k1
  refine⟨b2,fun a ha=>?_⟩
  rcases List.mem_cons.1 ha with rfl|ha
  .exact b1
  exact k2 a ha
theorem zW7{p:List It}:∀s:St,(∃d,s.whole d=true)->∀σ:Nf,(s.nm p σ).1.fl=[]->StG p s:=by
 refine St.ind fun s i1 i2 i3 hw σ hn=>?_
 obtain⟨d,hw⟩:=hw
 have hx:∀e∈s.u5,e.whole (d-1)=true:=fun e he=>by
  rw[zB]at hw;simp only[Bool.and_eq_true]at hw
  have hx:=hw.2.2.2.2.2.1
  unfold exsB at hx
  by_cases h6:(s.u5.length:Int)<=6
  .rw[zBs h6]at hx
   have:=List.all_eq_true.1 hx e he
   simp only[Bool.and_eq_true]at this;exact this.2
  simp[zq,h6]at hx
 rw[zB]at hw;simp only[Bool.and_eq_true,List.all_eq_true,Bool.or_eq_true,decide_eq_true_eq]at hw
 obtain⟨_,Zo,ym,ap,bp,_,w1,w2,w3⟩:=hw
 unfold zM at Zo;simp only[Bool.and_eq_true,decide_eq_true_eq]at Zo
 have ca:=Zo.2.2.2.2.1
 have w3:∀a∈s.arms,a.whole (d-1)=true:=by
  by_cases h6:(s.arms.length:Int)<=6
  .rw[zBs h6]at w3
   simpa using w3
  simp[zq,h6]at w3
 replace i1:=fun x hx=>i1 x hx ⟨_,w1 x hx⟩
 replace i2:=fun x hx=>i2 x hx ⟨_,w2 x hx⟩
 replace i3:=fun a ha x hx=>i3 a ha x hx (by
  have:=w3 a ha
  unfold Ar.whole at this;simp only[Bool.and_eq_true,List.all_eq_true]at this;exact⟨_,this.2.2 x hx⟩)
 have kl:zAm s.op=false->∀x∈s.body,StG p x:=fun hf x hx=>by
  rcases ym with hb|hb
  .rw[hf]at hb;cases hb
  rw[List.eq_nil_of_length_eq_zero hb]at hx;cases hx
 have fj:zAf s.op=false->∀x∈s.els,StG p x:=fun hf x hx=>by
  rcases ap with hb|hb
  .rw[hf]at hb;cases hb
  rw[List.eq_nil_of_length_eq_zero hb]at hx;cases hx
 have gj:zAS s.op=false->∀a∈s.arms,∀x∈a.body,StG p x:=fun hf a ha=>by
  rcases bp with hb|hb
  .rw[hf]at hb;cases hb
  rw[List.eq_nil_of_length_eq_zero hb]at ha;cases ha
 have yh:∀{a:Nf} {l:List Flt},(a.add l).fl=[]->a.fl=[]/\l=[]:=fun {a l} h=>List.append_eq_nil_iff.1 h
 have Yc:(s.op=2->zKy p s.name s.names.length=true)->(∀x∈s.body,StG p x)->(∀x∈s.els,StG p x)->(∀a∈s.arms,∀x∈a.body,StG p x)->StG p s:=fun h2 b1 b2 b3=>by
  refine .mk s (fun e he=>⟨_,hx e he⟩) (fun ho=>?_) (fun ho=>?_) (fun ho=>?_) b1 b2 b3
  .have:zg s.op s.names.length=1:=by
    unfold zg;rw[if_neg (by omega),if_pos (by omega)]
   omega
  .have:zg s.op s.names.length=s.names.length:=by
    unfold zg;rw[if_pos ho]
   omega
  have:=h2 ho
  unfold zKy zKx at this;unfold zW
  cases hf:zU p s.name with
  |none=>rw[hf]at this;cases this
  |some x=>
   rw[hf]at this
   by_cases hk:x.kind=1
   .simp only[hk,true_or,if_true,Option.getD_some]
    simp[hk]at this;omega
   simp[hk]at this
 rw[stNm]at hn;split at hn
 .rename_i h1
  exact Yc (by omega) (kl (by rw[h1];rfl)) (fj (by rw[h1];rfl)) (gj (by rw[h1];rfl))
 rename_i h1
 split at hn
 .rename_i h2
  have k:=yh (zFo (zAy _ _ _).1 hn)
  exact Yc (fun _=>zDd k.2) (kl (by rw[h2];rfl)) (fj (by rw[h2];rfl)) (gj (by rw[h2];rfl))
 rename_i h2
 split at hn
 .rename_i h3
  exact Yc (by omega) (kl (by rw[h3];rfl)) (fj (by rw[h3];rfl)) (gj (by rw[h3];rfl))
 rename_i h3
 split at hn
 .rename_i h5
  exact Yc (by omega) (kl (by rw[h5];rfl)) (fj (by rw[h5];rfl)) (gj (by rw[h5];rfl))
 rename_i h5
 split at hn
 .rename_i uc
  exact Yc (by omega) (kl (by rw[uc];rfl)) (fj (by rw[uc];rfl)) (gj (by rw[uc];rfl))
 rename_i uc
 split at hn
 .rename_i h8
  exact Yc (by omega) (kl (by rw[h8];rfl)) (fj (by rw[h8];rfl)) (zLH s.arms i3 _ hn).2
 rename_i h8
 split at hn
 .rename_i h10
  obtain⟨k1,_⟩:=List.append_eq_nil_iff.1 hn
  unfold zCp at k1;rw[zJp]at k1;exact Yc (by omega) (zHA s.body i1 _ k1) (fj (by rw[h10];rfl)) (gj (by rw[h10];rfl))
 rename_i h10
 split at hn
 .rename_i h9
  obtain⟨b1,b2⟩:=zDa (p:=p) i1 hn
  have e6:zAf s.op=false:=by unfold zAf;simp;omega
  exact Yc (by omega) b1 (fj e6) (gj (by unfold zAS;simp;omega))
 rename_i h9
 split at hn
 .rename_i oe
  obtain⟨b1,b2⟩:=zDa (p:=p) i1 hn
  exact Yc (by omega) b1 (fj (by rw[oe];rfl)) (gj (by rw[oe];rfl))
 rename_i oe
 obtain⟨b1,b2⟩:=zDa (p:=p) i2 hn
 obtain⟨a1,a2⟩:=zDa (p:=p) i1 b2
 exact Yc (by omega) a1 b1 (gj (by unfold zAS;simp;omega))
theorem zUO{p:List It}(hp:zx p=true){env:List Fi}{x:Pl}(h:(plT p env x).kind=9):(plT p env x).args.length=1:=by
 unfold plT at h ⊢
 cases hx:zBC p env x with
 |none=>rw[hx]at h;cases h
 |some r=>
  rw[hx]at h;simp only[Option.map_some,Option.getD_some]at h ⊢;unfold zBC at hx
  obtain⟨f,hf,hw⟩:=Option.bind_eq_some_iff.1 hx
  unfold zIT at hw;split at hw
  .rename_i Lt
   have:=zHs hp Lt hw
   rw[zFh,h]at this;simp[ze]at this;exact this.2.1
  cases hw
end Go.Proofs.YtgpajpilkapciaaGreatDoor
namespace Go.Proofs.YtgpajpilkapciaaGreatDoor
open Go.RowKit _root_.Go.Proofs.Tryz
attribute [local simp] List.replicate List.range List.range.loop
attribute [local simp] zHe zKk zQS zQT zKj zOM zQR zLy zEL zGJ zHf zLz zEM zHi zDo zFE zIk
attribute [local simp] zAa zu zAs zAb zAC zAc zAt zv zi zt zAY zAr zAB zAZ zAd zAe zAu zAv zCJ
theorem zI4{P:Program}{α β:Type}(s:Sem α)(f:α->Sem β)(a:α)(h:zT P s=some a):zT P (s>>=f)=zT P (f a):=by
 induction s with
 |pure b=>simp[zT]at h;subst h;rfl
 |program k ih=>exact ih P (by simpa [zT]using h)
 |mark m k ih=>exact ih (by simpa [zT]using h)
 |_=>simp[zT]at h
def fltW(f:Int × Int):Value:=.iface 130 (.agg #[.int .i64 f.1,.int .i64 f.2])
section
variable(f:Int × Int)(dst:Option Tmp)(x:Operand)(ty:TypeId)(pos:String)(after:Array Edge)(guard:Option (Nat × Bool))(fr:List AV)
theorem zZG(a b:Int)(hx:evA fr x= .agg [I a,I b]):genP Tryz.prog ⟨dst,.makeInterface 130 x,ty,pos,after,guard⟩ fr=some (.p (.v (fltW (a,b)))):=by
 have Mt:zGF [I a,I b]=some [.int .i64 a,.int .i64 b]:=rfl
 have v1:zBM (evA fr x)=some (.agg #[.int .i64 a,.int .i64 b]):=by rw[hx];simp[zBM,Mt]
 have h1:(zGo (.makeInterface 130 x)&&zR fr (Op.operands (.makeInterface 130 x)).toList)=true:=by
  show(true&&zR fr [x])=true
  rw[Bool.true_and,zR,zR,v1];rfl
 have ua:zT Tryz.prog (Instr.makeInterface 130 (.agg #[.int .i64 a,.int .i64 b]))=some (fltW (a,b)):=by kernel_rfl
 have h2:zT Tryz.prog (execOp (fun z=>(zBM (evA fr z)).getD undef) ⟨dst,.makeInterface 130 x,ty,pos,after,guard⟩)=some (.value (fltW (a,b))):=by
  have e1:(zBM (evA fr x)).getD undef= .agg #[.int .i64 a,.int .i64 b]:=by rw[v1];rfl
  unfold execOp;simp only[e1];exact zBp _ _ _ ua
 unfold genP;simp only;rw[if_pos h1,h2];rfl
theorem zaR(hx:evA fr x= .p (.v (fltW f))):genP Tryz.prog ⟨dst,.typeAssert x 20 130 true,ty,pos,after,guard⟩ fr=some (.tup [.agg [I f.1,I f.2],B true]):=by
 have v1:zBM (evA fr x)=some (fltW f):=by rw[hx];rfl
 have h1:(zGo (.typeAssert x 20 130 true)&&zR fr (Op.operands (.typeAssert x 20 130 true)).toList)=true:=by
  show(true&&zR fr [x])=true
  rw[Bool.true_and,zR,zR,v1];rfl
 have ua:zT Tryz.prog (Instr.typeAssert (fltW f) 20 130 true)=some (.tuple #[.agg #[.int .i64 f.1,.int .i64 f.2],.bool true]):=by
  obtain⟨a,b⟩:=f
  kernel_rfl
 have h2:zT Tryz.prog (execOp (fun z=>(zBM (evA fr z)).getD undef) ⟨dst,.typeAssert x 20 130 true,ty,pos,after,guard⟩)=some (.value (.tuple #[.agg #[.int .i64 f.1,.int .i64 f.2],.bool true])):=by
  have e1:(zBM (evA fr x)).getD undef=fltW f:=by rw[v1];rfl
  unfold execOp;simp only[e1];exact zBp _ _ _ ua
 unfold genP;simp only;rw[if_pos h1,h2];rfl
theorem zaS(y:Operand)(k:TypeId)(hx:evA fr x= .p (.v (fltW f)))(hy:evA fr y= .p (.v .nilIface)):genP Tryz.prog ⟨dst,.binOp .neq 20 x y k,ty,pos,after,guard⟩ fr=some (B true):=by
 have v1:zBM (evA fr x)=some (fltW f):=by rw[hx];rfl
 have v2:zBM (evA fr y)=some .nilIface:=by rw[hy];rfl
 have h1:(zGo (.binOp .neq 20 x y k)&&zR fr (Op.operands (.binOp .neq 20 x y k)).toList)=true:=by
  show(true&&zR fr [x,y])=true
  rw[Bool.true_and,zR,zR,zR,v1,v2];rfl
 have ua:zT Tryz.prog (do eqGuard .neq 20 x y (fltW f) .nilIface;binOp .neq 20 (fltW f) .nilIface:Sem Value)=some (.bool true):=by
  obtain⟨a,b⟩:=f
  have h1:zT Tryz.prog (eqGuard .neq 20 x y (fltW (a,b)) .nilIface)=some ():=by kernel_rfl
  rw[zI4 _ _ _ h1]
  show zT Tryz.prog (binOp .neq 20 (fltW (a,b)) .nilIface)=some (.bool true)
  kernel_rfl
 have h2:zT Tryz.prog (execOp (fun z=>(zBM (evA fr z)).getD undef) ⟨dst,.binOp .neq 20 x y k,ty,pos,after,guard⟩)=some (.value (.bool true)):=by
  have e1:(zBM (evA fr x)).getD undef=fltW f:=by rw[v1];rfl
  have e2:(zBM (evA fr y)).getD undef= .nilIface:=by rw[v2];rfl
  unfold execOp;simp only[e1,e2];exact zBp _ _ _ ua
 unfold genP;simp only;rw[if_pos h1,h2];rfl
theorem zaT(n:Nat)(k:TypeId)(hx:evA fr (.tmp n)= .p (.v .nilIface)):genP Tryz.prog ⟨dst,.binOp .neq 20 (.tmp n) (.const .nilIface) k,ty,pos,after,guard⟩ fr=some (B false):=by
 have v1:zBM (evA fr (.tmp n))=some .nilIface:=by rw[hx];rfl
 have v2:zBM (evA fr (.const .nilIface))=some .nilIface:=by rfl
 have h1:(zGo (.binOp .neq 20 (.tmp n) (.const .nilIface) k)&&zR fr (Op.operands (.binOp .neq 20 (.tmp n) (.const .nilIface) k)).toList)=true:=by
  show(true&&zR fr [.tmp n,.const .nilIface])=true
  rw[Bool.true_and,zR,zR,zR,v1,v2];rfl
 have ua:zT Tryz.prog (do eqGuard .neq 20 (.tmp n) (.const .nilIface) .nilIface .nilIface;binOp .neq 20 .nilIface .nilIface:Sem Value)=some (.bool false):=by
  have h1:zT Tryz.prog (eqGuard .neq 20 (.tmp n) (.const .nilIface) .nilIface .nilIface)=some ():=by kernel_rfl
  rw[zI4 _ _ _ h1]
  show zT Tryz.prog (binOp .neq 20 .nilIface .nilIface)=some (.bool false)
  kernel_rfl
 have h2:zT Tryz.prog (execOp (fun z=>(zBM (evA fr z)).getD undef) ⟨dst,.binOp .neq 20 (.tmp n) (.const .nilIface) k,ty,pos,after,guard⟩)=some (.value (.bool false)):=by
  have e1:(zBM (evA fr (.tmp n))).getD undef= .nilIface:=by rw[v1];rfl
  have e2:(zBM (evA fr (.const .nilIface))).getD undef= .nilIface:=by rw[v2];rfl
  unfold execOp;simp only[e1,e2];exact zBp _ _ _ ua
 unfold genP;simp only;rw[if_pos h1,h2];rfl
end
theorem zY(b:Bool)(e pos:Int)(S:ASt):zL Tryz.prog 43 [B b,I e,I pos] S (if b=true then .ret .un else .thr (fltW (e,pos))) S:=by
 refine zL.intro mixed call43 func43 rfl ?_
 have e1:=zZG (a:=e) (b:=pos)
 cases b with
 |true=>simp[ntmps43]
 |false=>simp[ntmps43,e1,fltW]
def zRK(u u':FrameMode)(x0:Value):Prop:=∀(c₀:Frame) (cs:List Frame),c₀.mode=u->recoverD (c₀::cs)=some (x0,{c₀ with mode:=u'}::cs)\/(recoverD (c₀::cs)=none/\x0= .nilIface/\u'=u)
theorem zKi.catch{P:Program}{K:FuncId}{args:List AV}{S S':ASt}{fn:Func}{u u':FrameMode}{x0:Value}{t s:Nat}{o0 o1:Oper}{y:Code}{id:Nat}{Nt:Array TypeId}(hm:P.follows .mixedOrders=true)(hK:∀xs w,(callFunc K xs).run P w= .ok (.enter K xs) w)(hf:P.funcs[K]? =some fn)(hb:fn.body=some (.seq (.region id #[o0,o1] false) y))(Tb:fn.results= #[])
  (h0:o0.op= .call ⟨.builtin .recover,#[],Nt⟩) (Ot:o0.dst=some t) (Pt:o0.guard=none) (h1:o1.op= .assign (.tmp t)) (Qt:o1.dst=some s) (Rt:o1.guard=none) (Ak:zRK u u' x0) (Xj:atom x0=true)
  (h:zBH P y (putA (putA (AV.ups 1 args++List.replicate (fn.ntmps-args.length) .un) (some t) (.p (.v x0))) (some s) (evA (putA (AV.ups 1 args++List.replicate (fn.ntmps-args.length) .un) (some t) (.p (.v x0))) (.tmp t))) ([]::S) (RetD S')):zKi P K args S u u' S':=by
 refine⟨hK,fun Pr φ xs w ea hR hne=>?_⟩
 refine callsD_of_wpS hf hb fun c₀ cs hu=>?_
 refine wpS_seq ?_;refine wpS_region ?_
 have hr:List.range (#[o0,o1]:Array Oper).size=[0,1]:=rfl
 have w0:∀g,Region.wanted o0 g=true:=fun g=>by simp[Region.wanted,Pt]
 have w1:∀g,Region.wanted o1 g=true:=fun g=>by simp[Region.wanted,Rt]
 have Tt:∀(a:Act),(execOp a.eval o0).run P w= .ok .recover w:=fun a=>by simp[execOp,h0,resolve,invoke,builtin]
 have Ut:∀(a:Act),(execOp a.eval o1).run P w= .ok (.value (a.eval (.tmp t))) w:=fun a=>by simp[execOp,h1]
 have Yc:∀cs',cs'={c₀ with mode:=u'}::cs->wpOpsS P #[o0,o1] (Exit.thenS (y.wpS P (bodyPostS P fn c₀ cs fun e v w'=>v=u'/\∃x Pr' φ',e= .returned x/\Stp Pr φ w Pr' φ' w'/\Rel Pr' φ' S' w')) (bodyPostS P fn c₀ cs fun e v w'=>v=u'/\∃x Pr' φ',e= .returned x/\Stp Pr φ w Pr' φ' w'/\Rel Pr' φ' S' w')) [1] (({tmps:=xs++Array.replicate (fn.ntmps-xs.size) undef,defers:=[]}:Act).put o0.dst x0) cs' w:=fun cs' ld=>by
  subst ld;simp only[wpOpsS]
  have e1:(#[o0,o1]:Array Oper)[1]? =some o1:=rfl
  rw[e1];simp only[w1,if_true,Ut,Oper.upon]
  show y.wpS P _ _ _ w
  refine wpS_of_wp ?_
  have cp:=zDm (n:=fn.ntmps) ea
  have Hk:=cp.put o0.dst (RA.p (RP.v (Pr:=Pr) Xj))
  have Ik:=Hk.put o1.dst (Hk.ev (.tmp t))
  rw[Ot]at Hk Ik ⊢;rw[Qt]at Ik ⊢;refine wp_mono (zCs hm y _ Pr ([]::φ) _ _ ([]::S) w Ik (zCa hR) (by simp) h) fun e a' w' hp=>?_
  obtain⟨ia,S1,Pr',φ',⟨he,h3⟩,h4,h5,h6,h7⟩:=hp
  have Wb:φ'≠ []:=zJ h6 (by simp)
  obtain⟨l',φ1,rfl⟩:=List.exists_cons_of_ne_nil Wb
  have lc:S1≠ []:=fun h0=>by have:=h5.shape;rw[h0]at this;simp at this
  obtain⟨L',S2,rfl⟩:=List.exists_cons_of_ne_nil lc
  simp only[List.tail_cons]at h3;subst h3
  have hd:a'.defers=[]:=by rw[h7,z8,z8]
  have key:a'.defers=[]/\∃v,{c₀ with mode:=u'}::cs={c₀ with mode:=v}::cs/\∃z,(results fn a'.tmps).run P w'= .ok z w'/\(v=u'/\∃x Pr' φ',Ending.returned z= .returned x/\Stp Pr φ w Pr' φ' w'/\Rel Pr' φ' S2 w'):=
   ⟨hd,u',rfl,_,zEK Tb _ _,rfl,_,Pr',φ1,rfl,zCw h6,zB1 h5⟩
  rcases he with rfl|rfl
  .exact key
  exact key
 rw[hr];unfold wpOpsS
 have e0:(#[o0,o1]:Array Oper)[0]? =some o0:=rfl
 rw[e0];simp only[w0,if_true,Tt]
 rcases Ak c₀ cs hu with hc|⟨hc,rfl,rfl⟩
 .rw[hc]
  exact Yc _ rfl
 rw[hc]
 refine Yc _ ?_;rw[<-hu]
theorem zOx(v:Value):zRK (.panicking (zC2 v)) (.panicking [{v,recovered:=true}]) v:=fun c₀ cs hu=>.inl (by
 unfold recoverD;simp only[hu,zC2])
theorem zOy:zRK .returning .returning .nilIface:=fun c₀ cs hu=>.inr ⟨by
 unfold recoverD;simp only[hu],rfl,rfl⟩
theorem zOz(j:Nat)(S:ASt):zKi Tryz.prog 60 [.ptr 0 j 0] S .returning .returning S:=by
 refine zKi.catch mixed call60 func60 rfl rfl rfl rfl rfl rfl rfl rfl zOy rfl ?_
 have e2:=zaT
 simp[ntmps60,zJW,e2]
theorem zO0(f:Int × Int)(j:Nat)(v0:AV)(S:ASt)(hj:get2 S 0 j=some (.cells [v0] 47)):zKi Tryz.prog 60 [.ptr 0 j 0] S (.panicking (zC2 (fltW f))) (.panicking [{v:=fltW f,recovered:=true}]) (set2 S 0 j (.cells [.p (.sl 2 [[.v (.int .i64 f.1),.v (.int .i64 f.2)]])] 47)):=by
 refine zKi.catch mixed call60 func60 rfl rfl rfl rfl rfl rfl rfl rfl (zOx (fltW f)) rfl ?_
 have e1:=zaR f
 have e2:=zaS f
 generalize fltW f=W at*
 simp[ntmps60,zJW,e1,e2,hj]
def zZH(Xb:ARes)(r:AV):Prop:=match Xb with
 | .ret _=>r=nilS
 | .thr v=>∃f:Int × Int,v=fltW f/\r= .p (.sl 2 [[.v (.int .i64 f.1),.v (.int .i64 f.2)]])
attribute [local simp] zTg zQU zON zQP settle
theorem zJz(K:Nat)(caps:List AV)(S S':ASt)(Xb:ARes)(r:AV)(Tb:zZH Xb r)(h:∀L,zL Tryz.prog K (AV.ups 1 caps) (L::S) Xb (L::S')):ADet Tryz.prog 40 [.fn (.func K) [] caps] S r S':=by
 refine ADet.introRv mixed call40 func40 rfl ?_;simp[ntmps40];refine cq (h _) ?_
 cases Xb with
 |ret x=>
  obtain rfl:r=nilS:=Tb
  simp
  exact⟨_,⟨_,zOz 0 _,rfl⟩,_,rfl,rfl,rfl⟩
 |thr v=>
  obtain⟨f,rfl,rfl⟩:=Tb
  simp;exact⟨_,⟨_,zO0 f 0 _ _ rfl,rfl⟩,_,rfl,rfl,rfl⟩
end Go.Proofs.YtgpajpilkapciaaGreatDoor
namespace Go.Proofs.YtgpajpilkapciaaGreatDoor
open Go.RowKit _root_.Go.Proofs.Tryz
attribute [local simp] List.replicate List.range List.range.loop
theorem zL.sub{P:Program}{K:FuncId}{args be:List AV}{S S':ASt}{Xb:ARes}(hl:LeAs be args)(h:zL P K args S Xb S'):zL P K be S Xb S':=
 ⟨h.1,fun Pr φ xs w ea hR hne=>h.2 Pr φ xs w (by
  obtain⟨h1,h2⟩:=(zCr (Pr:=Pr) (φ:=φ)).2 hl
  refine⟨by rw[<-h1];exact ea.1,fun j c x hc hx=>?_⟩
  obtain⟨c',h3,h4⟩:=h2 j c hc
  exact h4 (ea.2 j c' x h3 hx)) hR hne⟩
theorem ADet.lessTup{P:Program}{F:FuncId}{xs:List AV}{S S':ASt}{l l':List AV}(ta:LeAs l l')(h:ADet P F xs S (.tup l) S'):ADet P F xs S (.tup l') S':=
 ⟨h.1,fun Pr φ ys w ea hR hne=>(h.2 Pr φ ys w ea hR hne).mono fun e w' hp=>by
  obtain⟨x,Pr',φ',h1,h2,h3,h4⟩:=hp
  refine⟨x,Pr',φ',h1,h2,h3,?_⟩
  cases h4 with
  |tup k1 k2=>
   obtain⟨m1,m2⟩:=(zCr (Pr:=Pr') (φ:=φ')).2 ta
   refine .tup (by rw[<-m1];exact k1) fun j c y hc hy=>?_
   obtain⟨c',n1,n2⟩:=m2 j c hc
   exact n2 (k2 j c' y n1 hy)⟩
theorem zZI{Pr:Prot}{φ:Fi2}{S:ASt}{w:World}(h:Rel Pr φ S w){d i:Nat}{cs cs':List AV}{t:TypeId}(ho:get2 S d i=some (.cells cs t))(ta:LeAs cs cs'):Rel Pr φ (set2 S d i (.cells cs' t)) w:=by
 obtain⟨e,he,Oa,g,xs,hg,ma,hl,hc,Za⟩:=h.obj d i _ ho
 refine⟨fun d' j o hj=>?_,h.dis,h.lt,h.pr,h.tb,by rw[zAH];exact h.shape⟩
 rw[zF _ ho]at hj;split at hj
 .rename_i hc'
  obtain⟨rfl,rfl⟩:=hc'
  cases hj
  obtain⟨m1,m2⟩:=(zCr (Pr:=Pr) (φ:=φ.drop d')).2 ta
  refine⟨e,he,Oa,g,xs,hg,ma,by rw[<-m1];exact hl,fun j c x h1 h2=>?_,Za⟩
  obtain⟨c',n1,n2⟩:=m2 j c h1
  exact n2 (hc j c' x n1 h2)
 exact h.obj d' j o hj
theorem zL.subS{P:Program}{K:FuncId}{args:List AV}{S S':ASt}{Xb:ARes}{d i:Nat}{cs cs':List AV}{t:TypeId}(ho:get2 S d i=some (.cells cs t))(ta:LeAs cs cs')(h:zL P K args (set2 S d i (.cells cs' t)) Xb S'):zL P K args S Xb S':=
 ⟨h.1,fun Pr φ xs w ea hR hne=>h.2 Pr φ xs w ea (zZI hR ho ta) hne⟩
theorem zCX{l m:List Ty}(h:l≠m):eqTs l m=false:=by
 cases he:eqTs l m with
 |false=>rfl
 |true=>exact absurd ((zG7 l m).1 he) h
theorem zEX{l m:List Ty}(h:l=m):eqTs l m=true:=(zG7 l m).2 h
theorem zUP(K:Nat)(l m:List Ty)(S:ASt)(hc:∀x∈l,∀(y:Ty) (L:List AObj),ADet Tryz.prog K [tyV x,tyV y] (L::S) (B (eqT x y)) (L::S)):ADet Tryz.prog 104 [.p (.sl 3 (l.map Ty.enc)),.p (.sl 3 (m.map Ty.enc)),.fn (.func K) [] []] S (B (eqTs l m)) S:=by
 refine ADet.okP call104 0 rfl fun na=>?_
 have ca:=okl na
 refine ADet.intro mixed call104 func104 rfl ?_
 by_cases hl:l.length=m.length
 .simp[ntmps104,hl]
  refine zH (fun q:Nat=>q<=m.length/\∀i (h:i<l.length) (h':i<m.length),i<q->l[i]=m[i]) (fun q=>([.p (.sl 3 (l.map Ty.enc)),.p (.sl 3 (m.map Ty.enc)),.fn (.func K) [] []]++(List.replicate 12 .any++([.p (.sl 3 (l.map Ty.enc)),I m.length,I q]++List.replicate 14 .any)))) (fun q=>[]::S) (fun q=>m.length-q) 0 ⟨Nat.zero_le _,fun i h h' hi=>by omega⟩ ?_ ?_ ?_
  .simp
  .simp
  rintro q ⟨hq,ja⟩
  by_cases hlt:q<m.length
  .have aa:(q:Int)<(m.length:Int):=by omega
   have te:q<l.length:=by omega
   have hw:=zA hlt (by omega)
   have gf:=hc l[q] (List.getElem_mem te) m[q]
   have Ra:l[q]=m[q]->∀i (h:i<l.length) (h':i<m.length),i<q+1->l[i]=m[i]:=fun he i h h' hi=>by
    by_cases Dg:i=q
    .subst Dg;exact he
    exact ja i h h' (by omega)
   have hne:l[q]≠m[q]->l≠m:=fun he xi=>by
    subst xi;exact he rfl
   have heq:=zGN l[q] m[q]
   generalize Bf:l[q]=x at*
   generalize Pg:m[q]=y at*
   simp[hlt,aa,te,Bf,Pg,zP];refine cq (gf _) ?_
   cases Jb:eqT x y with
   |true=>
    simp
    exact⟨q+1,⟨by omega,Ra (heq.1 Jb)⟩,by omega,hw⟩
   |false=>
    rw[zCX (hne fun h=>by rw[heq.2 h]at Jb;cases Jb)]
    simp
  have aa:¬(q:Int)<(m.length:Int):=by omega
  rw[zEX (List.ext_getElem hl fun i h h'=>ja i h h' (by omega))]
  simp[aa]
 have xf:¬(l.length:Int)=(m.length:Int):=by omega
 rw[zCX fun h=>hl (by rw[h])]
 simp[ntmps104,hl,xf]
theorem zZJ(t u:Ty):eqT t u=((t.kind==u.kind)&&(sEq t.name u.name&&eqTs t.args u.args)):=by
 cases t;cases u;rw[eqT];rfl
theorem zaU:∀(t u:Ty) (S:ASt),ADet Tryz.prog 68 [tyV t,tyV u] S (B (eqT t u)) S:=by
 refine Ty.ind fun t ih u S=>?_
 have eC:=fun L=>zUP 68 t.args u.args (L::S) fun x hx y M=>ih x hx y _
 rw[zZJ];refine ADet.intro mixed call68 func68 rfl ?_
 by_cases hk:t.kind=u.kind
 .cases hs:sEq t.name u.name with
  |false=>simp[ntmps68,hk,hs]
  |true=>
   simp[ntmps68,hk,hs];refine cq (eC _) ?_;simp
 have Vb:(t.kind==u.kind)=false:=by simpa using hk
 simp[ntmps68,Vb]
theorem zC8(t u:Ty)(S:ASt):ADet Tryz.prog 44 [tyV t,tyV u] S (B (eqT t u)) S:=by
 have eC:=fun S=>zaU t u S
 refine ADet.intro mixed call44 func44 rfl ?_;simp[ntmps44];refine cq (eC _) ?_;simp
theorem zFP(k:Int)(t:Ty)(S:ASt):ADet Tryz.prog 67 [U k,tyV t] S (tyV (inTy k t)) S:=by
 refine ADet.intro mixed call67 func67 rfl ?_;simp[ntmps67,inTy,Ty.kind,Ty.name,Ty.args];rw[zP];rfl
theorem zLI(op:Int)(S:ASt):ADet Tryz.prog 71 [U op] S (U (zBl op)) S:=by
 refine ADet.intro mixed call71 func71 rfl ?_
 by_cases h1:op=21
 .simp[ntmps71,zBl,h1]
 by_cases h2:op=26
 .simp[ntmps71,zBl,h2]
 by_cases h3:op=27
 .simp[ntmps71,zBl,h3]
 by_cases h4:op=29
 .simp[ntmps71,zBl,h4]
 have e1:(op==21)=false:=by simpa using h1
 have e2:(op==26)=false:=by simpa using h2
 have e3:(op==27)=false:=by simpa using h3
 have e4:(op==29)=false:=by simpa using h4
 simp[ntmps71,zBl,e1,e2,e3,e4,h1,h2,h3,h4]
theorem zRL(op:Int)(S:ASt):ADet Tryz.prog 72 [U op] S (.tup [U (zA1 op).1,B (zA1 op).2]) S:=by
 refine ADet.intro mixed call72 func72 rfl ?_
 by_cases h1:op=22
 .simp[ntmps72,zA1,h1]
 by_cases h2:op=30
 .simp[ntmps72,zA1,h2]
 by_cases h3:op=24
 .simp[ntmps72,zA1,h3]
 by_cases h4:op=25
 .simp[ntmps72,zA1,h4]
 by_cases h5:op=35
 .simp[ntmps72,zA1,h5]
 by_cases h6:op=36
 .simp[ntmps72,zA1,h6]
 have e1:(op==22)=false:=by simpa using h1
 have e2:(op==30)=false:=by simpa using h2
 have e3:(op==24)=false:=by simpa using h3
 have e4:(op==25)=false:=by simpa using h4
 have e5:(op==35)=false:=by simpa using h5
 have e6:(op==36)=false:=by simpa using h6
 simp[ntmps72,zA1,e1,e2,e3,e4,e5,e6,h1,h2,h3,h4,h5,h6]
def zW8:AV:=.agg [U 1,U 1,U 2,U 2,U 1,U 1,U 1,U 1,U 1,U 1,U 1,U 1,U 1,U 1,U 1,U 2,U 1,U 2,U 2,U 2,U 2,U 2]
theorem zZK(S:ASt):ADet Tryz.prog 69 [] S zW8 S:=by
 refine ADet.intro mixed call69 func69 rfl ?_;simp[ntmps69,zW8]
def fnT(p:List It)(env:List Fi):AObj:=.cells [.p (prog p),.p (.sl 4 (env.map Fi.enc))] 106
def TAt(p:List It)(S:ASt)(d j:Nat)(env:List Fi):Prop:=get2 S d j=some (fnT p env)
theorem zUQ{env:List Fi}{nm:BA}{q:Nat}(hq:q<env.length)(h:∀i (hi:i<env.length),q<i->sEq env[i].name nm=false)(hs:sEq env[q].name nm=true):zGO env nm=some env[q]:=by
 unfold zGO;rw[List.find?_eq_some_iff_getElem];refine⟨hs,env.length-1-q,by simp;omega,?_,fun j hj=>?_⟩
 .rw[List.getElem_reverse]
  congr 1
  omega
 rw[List.getElem_reverse]
 rw[h _ (by omega) (by omega)]
 rfl
theorem zRM{env:List Fi}{nm:BA}(h:∀i (hi:i<env.length),sEq env[i].name nm=false):zGO env nm=none:=by
 unfold zGO;rw[List.find?_eq_none];intro x hx
 obtain⟨i,hi,rfl⟩:=List.getElem_of_mem (by simpa using hx:x∈env)
 rw[h i hi];simp
attribute [local simp] zf za zn zb List.forall_mem_cons List.contains_cons List.contains_nil List.find? zm zl zZ
def jI:Nat->Int
 |0=>-1
 |i+1=>(i:Int)
theorem zRN{i:Nat}(h:i<=4000000000):IntKind.i64.wrap ((i:Int)-1)=jI i:=by
 cases i with
 |zero=>decide
 |succ i=>
  have:((i+1:Nat):Int)-1=(i:Int):=by omega
  rw[this,jI]
  have e:=zA (q:=i) (n:=i+1) (by omega) (by unfold maxLen;omega)
  unfold IntKind.wrap at e ⊢;simp[IntKind.bits,IntKind.signed]at e ⊢;omega
theorem zEs(p:List It)(hp:PrSm p)(env:List Fi)(he:zh env)(hl:env.length<=4000000000)(x:Pl)(S:ASt)(d j:Nat)(h:TAt p S d j env):ADet Tryz.prog 63 [.ptr d j 0,plV x] S (zBP (zBC p env x)) S:=by
 unfold TAt fnT at h
 have hm:env.length<=maxLen:=by unfold maxLen;omega
 refine ADet.intro mixed call63 func63 rfl ?_
 have Hd:=zRN (i:=env.length) hl
 simp[ntmps63,h,Hd,strs];refine zH (fun q:Nat=>q<=env.length/\∀i (hi:i<env.length),q<=i->sEq env[i].name x.name=false) (fun q=>([.ptr (d+1) j 0,.any,.any,.ptr 0 0 0,.ptr 0 1 0,B false,B false,I (jI q)]++List.replicate 40 .any)) (fun q=>[.cells [Sg x.name,.p (.sl 1 (x.path.map fun s=>[pS s]))] 39,.cells [U 0,Sg emS,nilS] 35]::S) (fun q=>q) env.length ⟨Nat.le_refl _,fun i hi h=>by omega⟩ ?_ ?_ ?_
 .simp
 .simp
 rintro q ⟨hq,ja⟩
 cases q with
 |zero=>
  have hn:zBC p env x=none:=by
   unfold zBC;rw[zRM fun i hi=>ja i hi (Nat.zero_le _)]
   rfl
  rw[hn]
  simp[jI,zBP]
 |succ i=>
  have hi:i<env.length:=by omega
  have xc:(0:Int)<=(i:Int):=by omega
  have Ee:=zRN (i:=i) (by omega)
  have Am:=zUQ (nm:=x.name) hi fun k hk hik=>ja k hk (by omega)
  have qn:=he env[i] (List.getElem_mem hi)
  have Ra:sEq env[i].name x.name=false->∀k (hk:k<env.length),i<=k->sEq env[k].name x.name=false:=fun hs k hk hik=>by
   by_cases Vt:k=i
   .subst Vt;exact hs
   exact ja k hk (by omega)
  generalize Eg:env[i]=f at*
  have wC:=fun S=>zaN p hp f.type qn x.path S
  simp only[strs]at wC;simp[jI,xc];refine dB [] (by kernel_rfl) ?_
  cases hs:sEq f.name x.name with
  |false=>
   simp[h,hi,xc,Eg,Fi.enc,hs,Ee]
   exact⟨i,⟨by omega,Ra hs⟩,by omega,rfl⟩
  |true=>
   have Ua:zBC p env x=zIT p f.type x.path:=by
    unfold zBC;rw[Am hs];rfl
   simp[h,hi,xc,Eg,Fi.enc,hs];refine dB [] (by kernel_rfl) ?_
   simp[h,hi,xc,Eg,Fi.enc,zP,prog];refine cq (wC _) ?_;rw[Ua]
   cases zIT p f.type x.path with
   |none=>simp[zBP]
   |some r=>
    obtain⟨u,w⟩:=r
    simp[zBP]
theorem zZL(p:List It)(env:List Fi)(hl:env.length+1<=4294967296)(nm:BA)(t:Ty)(S:ASt)(d j:Nat)(h:TAt p S d j env):ADet Tryz.prog 61 [.ptr d j 0,Sg nm,tyV t] S .un (set2 S d j (fnT p (env++[⟨nm,t⟩]))):=by
 unfold TAt fnT at h;refine ADet.intro mixed call61 func61 rfl ?_;simp[ntmps61];refine dB [(4,19),(8,19),(13,19)] (by kernel_rfl) ?_
 have vg:env.length<=4294967295:=by omega
 simp[h,fnT,Fi.enc,zP,vg]
def isT(nm:BA)(x:It):Bool:=(decide (x.kind≠3))&&sEq x.name nm
theorem zNd(p:List It)(hp:PrSm p)(env:List Fi)(k:Int)(nm:BA)(S:ASt)(d j:Nat)(h:TAt p S d j env):ADet Tryz.prog 103 [.ptr d j 0,U k,Sg nm] S (.tup [.p (.sl 4 ((zBh p k nm).1.map Fi.enc)),B (zBh p k nm).2]) S:=by
 unfold TAt fnT at h
 have tC:∀S,ADet Tryz.prog 62 [.agg [.p (prog p)],Sg nm] S (.tup [.p (.sl 4 (((zW p nm).getD []).map Fi.enc)),B (zW p nm).isSome]) S:=fun S=>by
  have:=zDX p hp nm S
  cases hf:zW p nm with
  |none=>rw[hf]at this;exact this.lessTup (.cons (.p (.nil 4)) (.refl _))
  |some l=>rw[hf]at this;exact this
 simp only[prog]at tC h
 have pm:p.length<=20000:=hp.1
 have key:∀(r:List AV),(∀x,zU p nm=some x->r=[.p (.sl 4 (((zW p nm).getD []).map Fi.enc)),B (decide (x.kind=k))])->(zU p nm=none->r=[nilS,B false])->ADet Tryz.prog 103 [.ptr d j 0,U k,Sg nm] S (.tup r) S:=fun r gl Oc=>by
  refine ADet.intro mixed call103 func103 rfl ?_;simp[ntmps103,h];refine zH (fun q:Nat=>q<=p.length/\∀i (hi:i<p.length),i<q->isT nm p[i]=false) (fun q=>([.ptr (d+1) j 0,U k,Sg nm,.any,.any,.any,nilS,B false,.any,.any,.any,.any,.any,.any,.any,.any,.p (.sl 16 (p.map It.enc)),I p.length,I q]++List.replicate 27 .any)) (fun q=>[]::S) (fun q=>p.length-q) 0 ⟨Nat.zero_le _,fun i hi h=>by omega⟩ ?_ ?_ ?_
  .simp
  .simp
  rintro q ⟨hq,ce⟩
  by_cases hlt:q<p.length
  .have aa:(q:Int)<(p.length:Int):=by omega
   have Te:=zA hlt (by unfold maxLen;omega)
   have Ra:isT nm p[q]=false->∀i (hi:i<p.length),i<q+1->isT nm p[i]=false:=fun hx i hi Dg=>by
    by_cases qm:i=q
    .subst qm;exact hx
    exact ce i hi (by omega)
   have Uc:isT nm p[q]=true->zU p nm=some p[q]:=fun hx=>by
    show p.find? (isT nm)=_
    rw[List.find?_eq_some_iff_getElem];exact⟨hx,q,hlt,rfl,fun i hi=>by rw[ce i (by omega) hi];rfl⟩
   generalize he:p[q]=x at*
   by_cases hk:x.kind=3
   .have Vb:(x.kind !=3)=false:=by simp[hk]
    simp[hlt,aa,It.enc,hk,Vb,he];exact⟨q+1,⟨by omega,Ra (by simp[isT,hk])⟩,by omega,Te⟩
   have Vb:(x.kind !=3)=true:=by simpa using hk
   cases hs:sEq x.name nm with
   |false=>
    simp[hlt,aa,It.enc,Vb,hs,he]
    exact⟨q+1,⟨by omega,Ra (by simp[isT,hs])⟩,by omega,Te⟩
   |true=>
    rw[gl x (Uc (by simp[isT,hk,hs]))]
    simp[hlt,aa,It.enc,Vb,hs,he,h];refine cq (tC _) ?_
    by_cases Sf:x.kind=k
    .simp
     refine dB [] (by kernel_rfl) ?_
     simp[Sf]
    have dp:(x.kind==k)=false:=by simpa using Sf
    simp;refine dB [] (by kernel_rfl) ?_
    simp[Sf,dp]
  have aa:¬(q:Int)<(p.length:Int):=by omega
  have Uc:zU p nm=none:=by
   show p.find? (isT nm)=_
   rw[List.find?_eq_none];intro x hx
   obtain⟨i,hi,rfl⟩:=List.getElem_of_mem hx
   rw[ce i hi (by omega)]
   simp
  rw[Oc Uc];simp[aa]
 unfold zBh
 cases hf:zU p nm with
 |none=>exact(key [nilS,B false] (fun x h=>by rw[hf]at h;cases h) fun _=>rfl).lessTup (.cons (.p (.nil 4)) (.refl _))
 |some x=>exact key _ (fun y h=>by rw[hf]at h;cases h;rfl) fun h=>by rw[hf]at h;cases h
def payT:Option Ty->AV
 |some t=>.tup [tyV t,B true]
 |none=>.tup [tyZ,B false]
theorem zEt(p:List It)(hp:PrSm p)(env:List Fi)(Ba v:BA)(S:ASt)(d j:Nat)(h:TAt p S d j env):ADet Tryz.prog 66 [.ptr d j 0,Sg Ba,Sg v] S (payT (zAO p Ba v)) S:=by
 have fC:=fun L=>zNd p hp env 2 Ba (L::S) (d+1) j h
 have ka:=zI2 hp (k:=2) (nm:=Ba)
 unfold zAO
 generalize Ve:(zBh p 2 Ba).1=l at*
 generalize (zBh p 2 Ba).2=b at*
 have jd:l.length<=20000:=ka.1
 refine ADet.intro mixed call66 func66 rfl ?_;simp[ntmps66];refine cq (fC _) ?_;simp;refine zH (fun q:Nat=>q<=l.length/\(b=true->∀i (hi:i<l.length),i<q->sEq l[i].name v=false)) (fun q=>([.any,.any,Sg v,.any,.any,.any,.ptr 0 0 0,B false,.any,B b,.any,.any,.any,.any,.any,.any,.any,.any,.p (.sl 4 (l.map Fi.enc)),I l.length,I q]++List.replicate 14 .any)) (fun q=>[.cells [U 0,Sg emS,nilS] 35]::S) (fun q=>l.length-q) 0 ⟨Nat.zero_le _,fun hb i hi h=>by omega⟩ ?_ ?_ ?_
 .simp
 .simp
 rintro q ⟨hq,ce⟩
 by_cases hlt:q<l.length
 .have aa:(q:Int)<(l.length:Int):=by omega
  have Te:=zA hlt (by unfold maxLen;omega)
  have Ra:(b=true->sEq l[q].name v=false)->b=true->∀i (hi:i<l.length),i<q+1->sEq l[i].name v=false:=fun hx hb i hi Dg=>by
   by_cases qm:i=q
   .subst qm;exact hx hb
   exact ce hb i hi (by omega)
  have Uc:b=true->sEq l[q].name v=true->l.find? (fun w=>sEq w.name v)=some l[q]:=fun hb hx=>by
   rw[List.find?_eq_some_iff_getElem];exact⟨hx,q,hlt,rfl,fun i hi=>by rw[ce hb i (by omega) hi];rfl⟩
  generalize he:l[q]=f at*
  cases hb:b with
  |false=>
   simp[hlt,aa,Fi.enc,he]
   exact⟨q+1,by omega,by omega,Te⟩
  |true=>
   cases hs:sEq f.name v with
   |false=>
    simp[hlt,aa,Fi.enc,he,hs]
    exact⟨q+1,⟨by omega,fun i hi Dg=>Ra (fun _=>hs) hb i hi Dg⟩,by omega,Te⟩
   |true=>
    rw[if_pos rfl,Uc hb hs];simp[hlt,aa,Fi.enc,zP,he,hs,payT]
 have aa:¬(q:Int)<(l.length:Int):=by omega
 have Bm:(if b=true then(l.find? fun w=>sEq w.name v).map Fi.type else none)=none:=by
  split
  .rename_i hb
   have:l.find? (fun w=>sEq w.name v)=none:=by
    rw[List.find?_eq_none];intro x hx
    obtain⟨i,hi,rfl⟩:=List.getElem_of_mem hx
    rw[ce hb i hi (by omega)]
    simp
   rw[this];rfl
  rfl
 rw[Bm];simp[aa,payT]
attribute [local simp] zAa zu zAs zAb zAC zAc zAt zv zi zt zAY zAr zAB zAZ zAd zAe zAu zAv zCJ zAL zAM cutL cutO zA5 ThrK
def resT(r:Except Int Ty)(pos:Int):ARes:=match r with| .ok t=>.ret (tyV t)| .error n=>.thr (fltW (n,pos))
def zBx(r:Except Int Ty)(pos:Int):ARes:=match r with| .ok t=>.ret (.agg [U t.kind,Sg t.name,nilS])| .error n=>.thr (fltW (n,pos))
theorem zL.less{P:Program}{K:FuncId}{args:List AV}{S S':ASt}{r r':AV}(ta:LeA r r')(h:zL P K args S (.ret r) S'):zL P K args S (.ret r') S':=
 ⟨h.1,fun Pr φ xs w h1 h2 h3=>(h.2 Pr φ xs w h1 h2 h3).mono fun e w' he=>by
  obtain⟨Pr',φ',⟨x,rfl,s3⟩,s1,s2⟩:=he
  exact⟨Pr',φ',⟨x,rfl,zCr.1 ta s3⟩,s1,s2⟩⟩
theorem zL.bare{P:Program}{K:FuncId}{args:List AV}{S S':ASt}{t:Ty}(ht:t.args=[])(h:zL P K args S (.ret (.agg [U t.kind,Sg t.name,nilS])) S'):zL P K args S (.ret (tyV t)) S':=by
 have:tyV t= .agg [U t.kind,Sg t.name,.p (.sl 3 [])]:=by rw[tyV,ht];rfl
 rw[this];exact h.less (.agg (.cons (.refl _) (.cons (.refl _) (.cons (.p (.nil 3)) (.refl _)))))
theorem zL.bareT{P:Program}{K:FuncId}{args:List AV}{S S':ASt}{r:Except Int Ty}{pos:Int}(hr:∀t,r= .ok t->t.args=[])(h:zL P K args S (zBx r pos) S'):zL P K args S (resT r pos) S':=by
 cases r with
 |error n=>exact h
 |ok t=>exact zL.bare (hr t rfl) h
theorem zLJ{l:List Ty}(h:l.length=1):∃u,l=[u]:=by
 match l,h with
 | [u],_=>exact⟨u,rfl⟩
theorem zZM(p:List It)(env:List Fi)(op:Int)(pl:Pl)(l:List Ty)(t:Ty)(ht:(if(zA1 op).2=true then plT p env pl else l.headD zTy)=t)(h:¬(t.kind=(zA1 op).1/\t.args.length=1)):zDY p env op pl l= .error 100:=by
 subst ht;unfold zDY;exact if_pos h
theorem zZN(p:List It)(env:List Fi)(op:Int)(pl:Pl)(l:List Ty)(t u:Ty)(ht:(if(zA1 op).2=true then plT p env pl else l.headD zTy)=t)(hk:t.kind=(zA1 op).1)(hu:t.args=[u])(hl:¬((zA1 op).2=true/\l.length=1)):zDY p env op pl l= .ok u:=by
 have h:¬ ¬(t.kind=(zA1 op).1/\t.args.length=1):=by simp[hk,hu]
 have e:(Except.ok (t.args.headD zTy):Except Int Ty)= .ok u:=by rw[hu];rfl
 subst ht;unfold zDY;rw[<-e];exact(if_neg h).trans (if_neg hl)
theorem zZO(p:List It)(env:List Fi)(op:Int)(pl:Pl)(l:List Ty)(t u x:Ty)(ht:(if(zA1 op).2=true then plT p env pl else l.headD zTy)=t)(hk:t.kind=(zA1 op).1)(hu:t.args=[u])(hb:(zA1 op).2=true)(hl:l=[x]):zDY p env op pl l=if eqT u x=true then .ok (zAN 3)else .error 100:=by
 have h:¬ ¬(t.kind=(zA1 op).1/\t.args.length=1):=by simp[hk,hu]
 have h2:(zA1 op).2=true/\l.length=1:=⟨hb,by rw[hl];rfl⟩
 have e1:t.args.headD zTy=u:=by rw[hu];rfl
 have e2:l.headD zTy=x:=by rw[hl];rfl
 subst ht;unfold zDY
 have hc:eqT ((if(zA1 op).2=true then plT p env pl else l.headD zTy).args.headD zTy) (l.headD zTy)=eqT u x:=by rw[e1,e2]
 refine(if_neg h).trans ((if_pos h2).trans ?_)
 show(if eqT ((if(zA1 op).2=true then plT p env pl else l.headD zTy).args.headD zTy) (l.headD zTy)=true then(.ok (zAN 3):Except Int Ty)else .error 100)=_
 rw[hc]
section
variable(p:List It)(hp:PrSm p)(env:List Fi)(he:zh env)(hl:env.length<=4000000000)(e:Ex)(l:List Ty)(S:ASt)(d j:Nat)(h:TAt p S d j env)
include hp he hl h
theorem zaV(h0:0<(zA1 e.op).1)(hne:(zA1 e.op).2=false->1<=l.length):zL Tryz.prog 73 [.ptr d j 0,exV e,.p (.sl 3 (l.map Ty.enc)),U (zA1 e.op).1,B (zA1 e.op).2] S (resT (zDY p env e.op e.place l) e.pos) S:=by
 have pC:=fun L=>zEs p hp env he hl e.place (L::S) (d+1) j h
 have sC:=fun t u S=>zC8 t u S
 have T1:=zZM p env e.op e.place l
 have T2:=zZN p env e.op e.place l
 have T3:=zZO p env e.op e.place l
 generalize zDY p env e.op e.place l=R at*
 generalize (zA1 e.op).1=k at*
 generalize (zA1 e.op).2=b at*
 cases b with
 |false=>
  have hne:=hne rfl
  obtain⟨v,l1,rfl⟩:∃v l1,l=v::l1:=by
   cases l with
   |nil=>simp at hne
   |cons v l1=>exact⟨v,l1,rfl⟩
  by_cases h1:v.kind=k
  .by_cases h2:v.args.length=1
   .obtain⟨u,hu⟩:=zLJ h2
    rw[T2 v u rfl h1 hu (by simp)]
    refine zL.intro mixed call73 func73 rfl ?_;simp[ntmps73,zP,h1,hu];refine cq (zY _ _ _ _) ?_;simp[zP,hu,resT]
   rw[T1 v rfl (by simp[h2])]
   have ug:¬(v.args.length:Int)=1:=by omega
   refine zL.intro mixed call73 func73 rfl ?_;simp[ntmps73,zP,h1,h2,ug];refine cq (zY _ _ _ _) ?_;simp[resT]
  rw[T1 v rfl (by simp[h1])]
  have rd:(v.kind==k)=false:=by simpa using h1
  refine zL.intro mixed call73 func73 rfl ?_;simp[ntmps73,zP,rd];refine cq (zY _ _ _ _) ?_
  simp[resT]
 |true=>
  cases Ua:zBC p env e.place with
  |none=>
   have Wc:((0:Int)==k)=false:=by simp;omega
   rw[Ua]at pC
   have gm:¬(0:Int)=k:=by omega
   have Qf:plT p env e.place=zTy:=by unfold plT;rw[Ua];rfl
   rw[T1 zTy Qf (fun h=>gm h.1)]
   refine zL.intro mixed call73 func73 rfl ?_;simp[ntmps73];refine cq ((pC _).call) ?_;simp[zBP,Wc];refine cq (zY _ _ _ _) ?_
   simp[resT]
  |some r=>
   obtain⟨v,w⟩:=r
   rw[Ua]at pC
   have Qf:plT p env e.place=v:=by unfold plT;rw[Ua];rfl
   by_cases h1:v.kind=k
   .by_cases h2:v.args.length=1
    .obtain⟨u,hu⟩:=zLJ h2
     by_cases h3:l.length=1
     .obtain⟨x,rfl⟩:=zLJ h3
      rw[T3 v u x Qf h1 hu rfl rfl]
      cases Jb:eqT u x with
      |true=>
       rw[if_pos rfl];refine zL.bare (t:=zAN 3) rfl ?_
       refine zL.intro mixed call73 func73 rfl ?_;simp[ntmps73];refine cq ((pC _).call) ?_;simp[zBP,h1,hu];refine cq (zY _ _ _ _) ?_;simp;refine zQ (dB [(9,7)] (by kernel_rfl) ?_)
       simp[zP,hu];refine cq (sC _ _ _) ?_;rw[Jb];simp;refine cq ((zY _ _ _ _).det) ?_
       simp[resT,zAN,Ty.kind,Ty.name,Ty.args]
      |false=>
       rw[if_neg (by simp)]
       refine zL.intro mixed call73 func73 rfl ?_;simp[ntmps73];refine cq ((pC _).call) ?_;simp[zBP,h1,hu];refine cq (zY _ _ _ _) ?_;simp;refine z5 10 [10] [(9,7)] (by kernel_rfl) (by kernel_rfl) (by kernel_rfl) ?_
       simp[zP,hu];refine cq (sC _ _ _) ?_;rw[Jb];simp;exact⟨_,_,zY _ _ _ _,by simp[resT]⟩
     have yb:¬(l.length:Int)=1:=by omega
     rw[T2 v u Qf h1 hu (fun h=>h3 h.2)]
     refine zL.intro mixed call73 func73 rfl ?_;simp[ntmps73];refine cq ((pC _).call) ?_;simp[zBP,h1,hu];refine cq (zY _ _ _ _) ?_;simp[zP,hu,h3,yb,resT]
    rw[T1 v Qf (by simp[h2])]
    have ug:¬(v.args.length:Int)=1:=by omega
    refine zL.intro mixed call73 func73 rfl ?_;simp[ntmps73];refine cq ((pC _).call) ?_;simp[zBP,h1,h2,ug];refine cq (zY _ _ _ _) ?_;simp[resT]
   rw[T1 v Qf (by simp[h1])]
   have rd:(v.kind==k)=false:=by simpa using h1
   refine zL.intro mixed call73 func73 rfl ?_;simp[ntmps73];refine cq ((pC _).call) ?_;simp[zBP,rd];refine cq (zY _ _ _ _) ?_;simp[resT]
end
end Go.Proofs.YtgpajpilkapciaaGreatDoor
