/- A part of the proof. -/
import Derived.Test.YtdflkegnmmkkoaaGreatDoorWNTk
import Derived.Test.YtdflkegnmmkkoaaGreatDoorWMLe
set_option linter.unusedVariables false
set_option linter.unusedSimpArgs false
set_option maxRecDepth 100000
set_option maxHeartbeats 32000000
namespace Go.Proofs.YtdflkegnmmkkoaaGreatDoor
open Go.RowKit _root_.Go.Proofs.Tryz
attribute [local simp] List.replicate List.range List.range.loop List.forall_mem_cons List.contains_cons List.contains_nil List.find?
attribute [local simp] zAd zw zA6 zAe zAD zAf zA7 zx zn zv zAb zA5 zAC zAc zAg zAh zA8 zA9 zCV zAO zAP cutL cutO zBJ ThrK
variable{p:List It}
theorem zTB:∀(l:List Ar) (q:Nat) (h:q<l.length),l[q].nd<=(l.map Ar.nd).sum
 |a::l,0,h=>by simp
 |a::l,q+1,h=>by
  have:=zTB l q (by simpa using h)
  simp only[List.map_cons,List.sum_cons,List.getElem_cons_succ];omega
theorem zcQ(hp:PrSm p)(s:St)(wa:StSm s)(hG:StG p s)(ua:∀x∈s.u3,∀env,zAu env->env.length<=4000000000->ExC p env x)(i1:∀x∈s.body,StT p x)(i2:∀x∈s.els,StT p x)(i3:∀a∈s.arms,∀x∈a.body,StT p x)(hop:s.op=8):StT p s:=by
 intro env he hb S d j h
 have Ed:=stNd s
 obtain⟨_,Ma,Ra,Lf,Ua,lf,jc,Qf,Ei,Aj,ed,te,Me,ue⟩:=wa
 obtain⟨_,Gi,eg,Hi,Ii,Ji,Ki,Li⟩:=hG
 have xe:s.u3.length<=20000:=jc.1
 have hS:=zAN h
 have h2:=h
 have Xb:env.length<=4000000000:=by omega
 have gs:=fun o=>zQ o h d j
 simp only[and_self,if_true]at gs;unfold TAt fnT at h2
 have pC:∀L,∃b1 b2,ADet Tryz.prog 54 [.ptr (d+1) j 0,.agg [Sg s.name,nilS]] (L::S) (.tup [tyV (plT p env ⟨s.name,[]⟩),B b1,B b2]) (L::S):=fun L=>by
  have:=ADet.sub (.cons (.refl _) (.cons (.agg (.cons (.refl _) (.cons (.p (.nil 1)) (.refl _)))) (.refl _))) (zGH p hp env he Xb ⟨s.name,[]⟩ (L::S) (d+1) j h)
  unfold plT
  cases Na:zBf p env ⟨s.name,[]⟩with
  |none=>
   rw[Na]at this
   exact⟨false,false,this.lessTup (.cons (.agg (.cons (.refl _) (.cons (.refl _) (.cons (.p (.nil 3)) (.refl _))))) (.refl _))⟩
  |some r=>
   obtain⟨u,w⟩:=r
   rw[Na]at this;exact⟨w,true,this⟩
 have ec:s.u3.length<=maxLen:=by unfold maxLen;omega
 refine zK.intro mixed call36 func36 rfl ?_;simp[ntmps36];refine zo 36 3 (by decide) [.cells (stV s) 49] (fun a:Nat × List Ty=>a.1<=s.u3.length/\tyEs p env (s.u3.take a.1)= .ok a.2/\a.2.length=a.1) (fun a=>([.ptr (d+1) j 0,.any,.any,.ptr 0 0 0,.osl 3 (a.2.map Ty.enc) 0 1]++(List.replicate 25 .any++([.p (.sl 8 (s.u3.map Ex.enc)),I s.u3.length,I a.1]++List.replicate 250 .any)))) (fun a=>[.cells (stV s) 49,.tok 36 3 a.2.length]::S) (fun a=>s.u3.length-a.1) (0,[]) ⟨Nat.zero_le _,by rw[List.take_zero,tyEs],rfl⟩ ?_ ?_ ?_ ?_
 .simp
 .simp
 .rfl
 rintro⟨q,ts⟩ ⟨hq,pa,ca⟩
 simp only at hq pa ca
 by_cases hlt:q<s.u3.length
 .have aa:(q:Int)<(s.u3.length:Int):=by omega
  have hw:=zA hlt
  obtain⟨n1,n2⟩:=zAS hlt pa
  have hx:=ua _ (List.getElem_mem hlt) env he Xb
  have va:q+1<=4294967296:=by omega
  generalize hy:s.u3[q]=x at*
  have hx:=fun(L:List AObj)=>hx (L::S) (d+1) j h
  cases hr:tyE p env x with
  |error f=>
   rw[hr]at hx;rw[zCF,n2 f hr];simp only;rw[hS];simp[hlt,aa,hy,zg];refine cq (hx _) ?_
   simp[resE,resS]
  |ok t=>
   rw[hr]at hx;simp[hlt,aa,hy,zg];refine cq (hx _) ?_;simp[resE,va,ca];exact⟨q+1,ts++[t],⟨by omega,n1 t hr,by simp[ca]⟩,by omega,⟨by simp[ze],hw⟩,by simp[ca]⟩
 have aa:¬(q:Int)<(s.u3.length:Int):=by omega
 obtain rfl:q=s.u3.length:=by omega
 rw[List.take_length]at pa;clear hlt hq;rw[zCF,pa];simp only
 have vb:zDH p env s.op s.name s.u2 s.place ts=if eqT (plT p env ⟨s.name,[]⟩) (.mk 4 s.u2 [])=true then none else some 100:=by unfold zDH;rw[if_neg (by omega),if_neg (by omega),if_neg (by omega),if_pos hop]
 rw[vb]
 have sC:∀S,ADet Tryz.prog 16 [tyV (plT p env ⟨s.name,[]⟩),.agg [U 4,Sg s.u2,.p (.sl 3 [])]] S (B (eqT (plT p env ⟨s.name,[]⟩) (.mk 4 s.u2 []))) S:=fun S=>zCw (plT p env ⟨s.name,[]⟩) (.mk 4 s.u2 []) S
 try simp only[Ty.kind,Ty.name,Ty.args,List.map_nil]at sC
 have If:LeAs [U 4,Sg s.u2,nilS] [U 4,Sg s.u2,.p (.sl 3 [])]:=.cons (.refl _) (.cons (.refl _) (.cons (.p (.nil 3)) (.refl _)))
 have sC:=fun S=>ADet.sub (.cons (.refl _) (.cons (.agg If) (.refl _))) (sC S)
 generalize Rg:plT p env ⟨s.name,[]⟩=pt at*
 cases Wb:eqT pt (.mk 4 s.u2 [])with
 |false=>
  rw[Wb]at sC;simp only[Bool.false_eq_true,if_false];rw[hS];simp[aa,hop]
  obtain⟨b1,b2,pC⟩:=pC _
  refine cq pC.call ?_;simp;refine z6 7 [7] [(6,4)] (by kernel_rfl) (by kernel_rfl) (by kernel_rfl) ?_
  simp[ze];refine cq (sC _) ?_;simp
  exact⟨_,_,zf _ _ _ _,by simp[resS]⟩
 |true=>
  rw[Wb]at sC;simp only[if_true];simp only[if_neg (show ¬s.op=1 by omega),if_neg (show ¬s.op=2 by omega),if_neg (show ¬s.op=3 by omega),if_neg (show ¬(s.op=6\/s.op=7) by omega),if_pos hop]
  simp[aa,hop]
  obtain⟨b1,b2,pC⟩:=pC _
  refine cq pC.call ?_;simp;refine zU (dB [(6,4)] (by kernel_rfl) ?_)
  simp[ze];refine cq (sC _) ?_;simp;refine cq ((zf _ _ _ _).det) ?_;simp;refine zBi (fun q:Nat=>q<=s.arms.length/\tgAs p s.u2 env (s.arms.take q)=(env,none)) (fun q=>([.ptr (d+1) j 0,.any,.any,.ptr 0 0 0]++(List.replicate 162 .any++([.p (.sl 3 (s.arms.map Ar.enc)),I s.arms.length,I q]++List.replicate 114 .any)))) (fun q=>[.cells (stV s) 49,.tok 36 3 ts.length,.cells [U pt.kind,Sg pt.name,.p (.sl 3 (pt.args.map Ty.enc))] 36]::S) (fun q=>s.arms.length-q) 0 ⟨Nat.zero_le _,by rw[List.take_zero,tgAs]⟩ ?_ ?_ ?_
  .simp
  .simp
  rintro q ⟨hq,Lm⟩
  by_cases Ld:q<s.arms.length
  .have Bc:(q:Int)<(s.arms.length:Int):=by omega
   have hw:=zA Ld (by unfold maxLen;omega)
   obtain⟨n1,n2⟩:=zS5 Ld Lm
   have mq:=List.getElem_mem Ld
   have Pv:=zTB s.arms q Ld
   have Og:=i3 _ mq
   have cb:=Me _ mq
   have Lj:=ue _ mq
   generalize hy:s.arms[q]=a at*
   have nq:=arNd a
   have yC:=fun L=>zFF p hp env s.u2 a.variant (L::S) (d+1) j h
   have fv:=zNE hp s.u2 a.variant
   have yC:∀L,∃b,ADet Tryz.prog 76 [.ptr (d+1) j 0,Sg s.u2,Sg a.variant] (L::S) (.tup [tyV ((zAQ p s.u2 a.variant).getD zTy),B b]) (L::S):=fun L=>by
    have:=yC L
    cases hpk:zAQ p s.u2 a.variant with
    |none=>rw[hpk]at this;exact⟨false,this.lessTup (.cons (.agg (.cons (.refl _) (.cons (.refl _) (.cons (.p (.nil 3)) (.refl _))))) (.refl _))⟩
    |some t=>rw[hpk]at this;exact⟨true,this⟩
   cases hem:sEq a.name emS with
   |true=>
    have ee:armE p s.u2 env a=env:=by unfold armE;rw[if_pos hem]
    rw[ee]at n1 n2
    have bC:=fun L=>zIh hp Og Lj cb.2.2 he (by omega) h L
    generalize hr:tgSs p env a.body=r at*
    obtain⟨e2,o⟩:=r
    simp[Ld,Bc,hy,Ar.enc,hem,h2];refine cq (bC _) ?_
    cases o with
    |some f=>
     rw[n2 f rfl]
     simp[resS,zCg]
    |none=>
     have mh:=gs (fnT p env)
     unfold fnT at mh
     have tc:=hS
     unfold fnT at tc;simp[resS,zCg,fnT,mh,tc,h2]
     exact⟨q+1,⟨by omega,n1 rfl⟩,by omega,hw⟩
   |false=>
    have ee:armE p s.u2 env a=env++[⟨a.name,(zAQ p s.u2 a.variant).getD zTy⟩]:=by unfold armE;rw[if_neg (by rw[hem];simp)]
    rw[ee]at n1 n2
    generalize (zAQ p s.u2 a.variant).getD zTy=yt at*
    have Jf:zAu (env++[⟨a.name,yt⟩]):=zEn he (zIc fv)
    have db:(env++[(⟨a.name,yt⟩:Fi)]).length=env.length+1:=by simp
    have mC:=fun L=>zHR (p:=p) (env:=env) (by omega) a.name yt h L
    have bC:=fun L=>zHQ hp Og Lj cb.2.2 (env:=env) (env1:=env++[⟨a.name,yt⟩]) Jf (by omega) h L
    generalize hr:tgSs p (env++[⟨a.name,yt⟩]) a.body=r at*
    obtain⟨e2,o⟩:=r
    simp[Ld,Bc,hy,Ar.enc,hem,h2]
    obtain⟨b,yC⟩:=yC _
    refine cq yC.call ?_;simp;refine cq ((mC _).call) ?_;simp;refine cq (bC _) ?_
    cases o with
    |some f=>
     rw[n2 f rfl]
     simp[resS,zCg]
    |none=>
     have mh:=gs (fnT p (env++[⟨a.name,yt⟩]))
     unfold fnT at mh
     have tc:=hS
     unfold fnT at tc;simp only[List.map_append,List.map_cons,List.map_nil]at mh;simp[resS,zCg,fnT,mh,tc,h2];exact⟨q+1,⟨by omega,n1 rfl⟩,by omega,hw⟩
  have Bc:¬(q:Int)<(s.arms.length:Int):=by omega
  obtain rfl:q=s.arms.length:=by omega
  rw[List.take_length]at Lm;rw[Lm];simp only;rw[hS];simp[Bc,resS]
theorem zcR(hp:PrSm p)(s:St)(wa:StSm s)(hG:StG p s)(ua:∀x∈s.u3,∀env,zAu env->env.length<=4000000000->ExC p env x)(i1:∀x∈s.body,StT p x)(i2:∀x∈s.els,StT p x)(i3:∀a∈s.arms,∀x∈a.body,StT p x)(hop:s.op=11)(Lc:zAF p=true):StT p s:=by
 intro env he hb S d j h
 have Ed:=stNd s
 obtain⟨_,Ma,Ra,Lf,Ua,lf,jc,Qf,Ei,Aj,ed,te,Me,ue⟩:=wa
 obtain⟨_,Gi,eg,Hi,Ii,Ji,Ki,Li⟩:=hG
 have xe:s.u3.length<=20000:=jc.1
 have hS:=zAN h
 have h2:=h
 have Xb:env.length<=4000000000:=by omega
 have gs:=fun o=>zQ o h d j
 simp only[and_self,if_true]at gs;unfold TAt fnT at h2
 have pC:∀L,∃b1 b2,ADet Tryz.prog 54 [.ptr (d+1) j 0,plV s.place] (L::S) (.tup [tyV (plT p env s.place),B b1,B b2]) (L::S):=fun L=>by
  have:=zGH p hp env he Xb s.place (L::S) (d+1) j h
  unfold plT
  cases Na:zBf p env s.place with
  |none=>
   rw[Na]at this
   exact⟨false,false,this.lessTup (.cons (.agg (.cons (.refl _) (.cons (.refl _) (.cons (.p (.nil 3)) (.refl _))))) (.refl _))⟩
  |some r=>
   obtain⟨u,w⟩:=r
   rw[Na]at this;exact⟨w,true,this⟩
 have ec:s.u3.length<=maxLen:=by unfold maxLen;omega
 refine zK.intro mixed call36 func36 rfl ?_;simp[ntmps36];refine zo 36 3 (by decide) [.cells (stV s) 49] (fun a:Nat × List Ty=>a.1<=s.u3.length/\tyEs p env (s.u3.take a.1)= .ok a.2/\a.2.length=a.1) (fun a=>([.ptr (d+1) j 0,.any,.any,.ptr 0 0 0,.osl 3 (a.2.map Ty.enc) 0 1]++(List.replicate 25 .any++([.p (.sl 8 (s.u3.map Ex.enc)),I s.u3.length,I a.1]++List.replicate 250 .any)))) (fun a=>[.cells (stV s) 49,.tok 36 3 a.2.length]::S) (fun a=>s.u3.length-a.1) (0,[]) ⟨Nat.zero_le _,by rw[List.take_zero,tyEs],rfl⟩ ?_ ?_ ?_ ?_
 .simp
 .simp
 .rfl
 rintro⟨q,ts⟩ ⟨hq,pa,ca⟩
 simp only at hq pa ca
 by_cases hlt:q<s.u3.length
 .have aa:(q:Int)<(s.u3.length:Int):=by omega
  have hw:=zA hlt
  obtain⟨n1,n2⟩:=zAS hlt pa
  have hx:=ua _ (List.getElem_mem hlt) env he Xb
  have va:q+1<=4294967296:=by omega
  generalize hy:s.u3[q]=x at*
  have hx:=fun(L:List AObj)=>hx (L::S) (d+1) j h
  cases hr:tyE p env x with
  |error f=>
   rw[hr]at hx;rw[zCF,n2 f hr];simp only;rw[hS];simp[hlt,aa,hy,zg];refine cq (hx _) ?_
   simp[resE,resS]
  |ok t=>
   rw[hr]at hx;simp[hlt,aa,hy,zg];refine cq (hx _) ?_;simp[resE,va,ca];exact⟨q+1,ts++[t],⟨by omega,n1 t hr,by simp[ca]⟩,by omega,⟨by simp[ze],hw⟩,by simp[ca]⟩
 have aa:¬(q:Int)<(s.u3.length:Int):=by omega
 obtain rfl:q=s.u3.length:=by omega
 rw[List.take_length]at pa;clear hlt hq;rw[zCF,pa];simp only
 have vb:zDH p env s.op s.name s.u2 s.place ts=if(plT p env s.place).kind=9 then none else some 100:=by unfold zDH;rw[if_neg (by omega),if_neg (by omega),if_neg (by omega),if_neg (by omega),if_pos hop]
 rw[vb]
 have gv:=zVm Lc (env:=env) (x:=s.place)
 have oq:=zWV hp he s.place
 generalize Rg:plT p env s.place=pt at*
 by_cases hk:pt.kind=9
 .obtain⟨u,hu⟩:=zL6 (gv hk)
  have pq:=zS3 oq u (by rw[hu];simp)
  rw[if_pos hk];simp only[if_neg (show ¬s.op=1 by omega),if_neg (show ¬s.op=2 by omega),if_neg (show ¬s.op=3 by omega),if_neg (show ¬(s.op=6\/s.op=7) by omega),if_neg (show ¬s.op=8 by omega),if_neg (show ¬s.op=10 by omega),if_pos hop,hu,List.headD_cons]
  have Jf:zAu (env++[⟨s.name,inTy 14 u⟩]):=zEn he (zIc (zNC 14 pq))
  have db:(env++[(⟨s.name,inTy 14 u⟩:Fi)]).length=env.length+1:=by simp
  have mC:=fun L=>zHR (p:=p) (env:=env) (by omega) s.name (inTy 14 u) h L
  have bC:=fun L=>zHQ hp i1 ed Qf (env:=env) (env1:=env++[⟨s.name,inTy 14 u⟩]) Jf (by omega) h L
  generalize hr:tgSs p (env++[⟨s.name,inTy 14 u⟩]) s.body=r at*
  obtain⟨e2,o⟩:=r
  simp[aa,hop]
  obtain⟨b1,b2,pC⟩:=pC _
  refine cq pC.call ?_;simp[hk];refine cq (zf _ _ _ _) ?_;simp[h2];refine zU (dB [(2,7)] (by kernel_rfl) ?_)
  simp[ze,hu];refine cq (zFi _ u _) ?_;simp;refine cq (mC _) ?_;simp;refine cq (bC _) ?_
  cases o with
  |some f=>simp[resS,zCg]
  |none=>
   have mh:=gs (fnT p (env++[⟨s.name,inTy 14 u⟩]))
   unfold fnT at mh;simp only[List.map_append,List.map_cons,List.map_nil]at mh;simp[resS,zCg,fnT,mh]
 rw[if_neg hk]
 have Qb:(pt.kind==9)=false:=by simpa using hk
 simp only;rw[hS];simp[aa,hop]
 obtain⟨b1,b2,pC⟩:=pC _
 refine cq pC.call ?_;simp[Qb];refine cq (zf _ _ _ _) ?_;simp[resS]
def gE(l:List Fi):AV:=match l with| []=>nilS|l=>.p (.sl 4 (l.map Fi.enc))
def gO(p:List It)(l:List Fi):AObj:=.cells [.p (prog p),gE l] 76
theorem zYm(l:List Fi)(f:Fi):gE (l++[f])= .p (.sl 4 ((l++[f]).map Fi.enc)):=by
 cases l<;>rfl
theorem zbJ(p:List It)(l:List Fi):LeAs [.p (prog p),gE l] [.p (prog p),.p (.sl 4 (l.map Fi.enc))]:=by
 cases l with
 |nil=>exact .cons (.refl _) (.cons (.p (.nil 4)) (.refl _))
 |cons f l=>exact .refl _
theorem g_wk(p:List It)(l:List Fi):wkL [AObj.cut 3 (gO p l)] [gO p l]:=by
 cases l with
 |nil=>exact⟨⟨rfl,za _⟩,trivial⟩
 |cons f l=>exact⟨⟨rfl,za _⟩,trivial⟩
theorem zbK{l:List Fi}(hl:l.length+1<=4294967296)(nm:BA)(t:Ty)(a0 a1:AObj)(S:ASt):zK Tryz.prog 73 [.ptr 0 2 0,Sg nm,tyV t] ([a0,a1,gO p l]::S) (.ret .un) ([a0,a1,gO p (l++[⟨nm,t⟩])]::S):=by
 refine zK.subS (d:=0) (i:=2) (cs:=[.p (prog p),gE l]) (t:=76) rfl (zbJ p l) ?_
 have:=za9 p l hl nm t ([a0,a1,fnT p l]::S) 0 2 rfl
 unfold gO;rw[zYm];exact this.call
theorem zYn(hp:PrSm p){l:List St}(hs:∀s∈l,StT p s)(wa:∀s∈l,StSm s)(tf:l.length<=20000){env:List Fi}(he:zAu env)(hb:env.length+(l.map St.nd).sum<=4000000000)(a0 a1:AObj)(S:ASt):zK Tryz.prog 75 [.ptr 0 2 0,.p (.sl 15 (l.map St.enc))] ([a0,a1,gO p env]::S) (resS (tgSs p env l).2) ([a0,a1,fnT p (zCg env (tgSs p env l)).1]::S):=by
 refine zK.subS (d:=0) (i:=2) (cs:=[.p (prog p),gE env]) (t:=76) rfl (zbJ p env) ?_
 exact zWW hp hs wa tf he hb ([a0,a1,fnT p env]::S) 0 2 rfl
theorem zcS(hp:PrSm p)(s:St)(wa:StSm s)(hG:StG p s)(ua:∀x∈s.u3,∀env,zAu env->env.length<=4000000000->ExC p env x)(i1:∀x∈s.body,StT p x)(i2:∀x∈s.els,StT p x)(i3:∀a∈s.arms,∀x∈a.body,StT p x)(hop:s.op=10):StT p s:=by
 intro env he hb S d j h
 have Ed:=stNd s
 obtain⟨_,Ma,Ra,Lf,Ua,lf,jc,Qf,Ei,Aj,ed,te,Me,ue⟩:=wa
 obtain⟨_,Gi,eg,Hi,Ii,Ji,Ki,Li⟩:=hG
 have xe:s.u3.length<=20000:=jc.1
 have hS:=zAN h
 have h2:=h
 have Xb:env.length<=4000000000:=by omega
 have gs:=fun o=>zQ o h d j
 simp only[and_self,if_true]at gs;unfold TAt fnT at h2
 have ec:s.u3.length<=maxLen:=by unfold maxLen;omega
 refine zK.intro mixed call36 func36 rfl ?_;simp[ntmps36];refine zo 36 3 (by decide) [.cells (stV s) 49] (fun a:Nat × List Ty=>a.1<=s.u3.length/\tyEs p env (s.u3.take a.1)= .ok a.2/\a.2.length=a.1) (fun a=>([.ptr (d+1) j 0,.any,.any,.ptr 0 0 0,.osl 3 (a.2.map Ty.enc) 0 1]++(List.replicate 25 .any++([.p (.sl 8 (s.u3.map Ex.enc)),I s.u3.length,I a.1]++List.replicate 250 .any)))) (fun a=>[.cells (stV s) 49,.tok 36 3 a.2.length]::S) (fun a=>s.u3.length-a.1) (0,[]) ⟨Nat.zero_le _,by rw[List.take_zero,tyEs],rfl⟩ ?_ ?_ ?_ ?_
 .simp
 .simp
 .rfl
 rintro⟨q,ts⟩ ⟨hq,pa,ca⟩
 simp only at hq pa ca
 by_cases hlt:q<s.u3.length
 .have aa:(q:Int)<(s.u3.length:Int):=by omega
  have hw:=zA hlt
  obtain⟨n1,n2⟩:=zAS hlt pa
  have hx:=ua _ (List.getElem_mem hlt) env he Xb
  have va:q+1<=4294967296:=by omega
  generalize hy:s.u3[q]=x at*
  have hx:=fun(L:List AObj)=>hx (L::S) (d+1) j h
  cases hr:tyE p env x with
  |error f=>
   rw[hr]at hx;rw[zCF,n2 f hr];simp only;rw[hS];simp[hlt,aa,hy,zg];refine cq (hx _) ?_
   simp[resE,resS]
  |ok t=>
   rw[hr]at hx;simp[hlt,aa,hy,zg];refine cq (hx _) ?_;simp[resE,va,ca];exact⟨q+1,ts++[t],⟨by omega,n1 t hr,by simp[ca]⟩,by omega,⟨by simp[ze],hw⟩,by simp[ca]⟩
 have aa:¬(q:Int)<(s.u3.length:Int):=by omega
 obtain rfl:q=s.u3.length:=by omega
 rw[List.take_length]at pa;clear hlt hq;rw[zCF,pa];simp only
 have vb:zDH p env s.op s.name s.u2 s.place ts=none:=by unfold zDH;simp[hop]
 rw[vb];simp only[if_neg (show ¬s.op=1 by omega),if_neg (show ¬s.op=2 by omega),if_neg (show ¬s.op=3 by omega),if_neg (show ¬(s.op=6\/s.op=7) by omega),if_neg (show ¬s.op=8 by omega),if_pos hop]
 rw[hS]
 have Ce:=Hi hop
 have qq:=(zS4 hp he jc.2 pa).1
 simp[aa,hop,h2];simp only[strs];refine zBi (fun q:Nat=>q<=s.names.length) (fun q=>([.any,.any,.any,.ptr 0 0 0,.osl 3 (ts.map Ty.enc) 0 1]++(List.replicate 17 .any++([.ptr 0 2 0]++(List.replicate 188 .any++([.p (.sl 1 (s.names.map fun s=>[pS s])),I s.names.length,I q]++List.replicate 69 .any)))))) (fun q=>[.cells (stV s) 49,.tok 36 3 ts.length,gO p (zCz (s.names.take q) ts)]::S) (fun q=>s.names.length-q) 0 (Nat.zero_le _) ?_ ?_ ?_
 .simp[strs]
 .simp[gO,gE,zCz,strs]
 intro q hq
 have tg:zAu (zCz (s.names.take q) ts):=zIe _ _ qq
 have Yj:(zCz (s.names.take q) ts).length<=q:=by unfold zCz;simp;omega
 by_cases Ld:q<s.names.length
 .have Bc:(q:Int)<(s.names.length:Int):=by omega
  have Ym:q<ts.length:=by omega
  have hw:=zA Ld (by have:=Lf.1;unfold maxLen;omega)
  have He:=zQE ts s.names q Ld Ym
  have mC:=fun a0 a1=>zbK (p:=p) (l:=zCz (s.names.take q) ts) (by omega) s.names[q] ts[q] a0 a1 S
  rw[<-He]at mC
  generalize kd:s.names[q]=n1 at*
  generalize dg:ts[q]=f1 at*
  simp[Ld,Bc,kd,Ym,dg,ze];refine cq (mC _ _) ?_;simp;exact⟨q+1,by omega,by omega,hw,g_wk _ _⟩
 have Bc:¬(q:Int)<(s.names.length:Int):=by omega
 obtain rfl:q=s.names.length:=by omega
 rw[List.take_length]at tg Yj ⊢
 have bC:=fun a0 a1=>zYn (p:=p) hp i1 ed Qf tg (by omega) a0 a1 S
 generalize tgSs p (zCz s.names ts) s.body=r at*
 obtain⟨e2,o⟩:=r
 simp[Bc];refine cq (bC _ _) ?_;cases o<;>simp[resS]
end Go.Proofs.YtdflkegnmmkkoaaGreatDoor
namespace Go.Proofs.YtdflkegnmmkkoaaGreatDoor
open Go.RowKit _root_.Go.Proofs.Tryz
theorem zOY{e:Ex}{d:Int}(h:e.whole d=true):(∀x∈e.args,∃d',x.whole d'=true)/\shL e.op<=(e.args.length:Int)/\1<=e.op/\e.op<=36:=by
 rw[zE2]at h;simp only[Bool.and_eq_true,decide_eq_true_eq]at h
 obtain⟨_,hh,ha⟩:=h
 unfold zLS shO at hh;simp only[Bool.and_eq_true,decide_eq_true_eq]at hh
 obtain⟨⟨h1,h2⟩,_,h3,_⟩:=hh
 refine⟨fun x hx=>?_,h3,h1,h2⟩
 by_cases hl:(e.args.length:Int)<=shM e.op
 .rw[zBx hl]at ha
  have:=List.all_eq_true.1 ha x hx
  simp only[Bool.and_eq_true]at this;exact⟨_,this.2⟩
 simp[zt,hl]at ha
theorem zNH{p:List It}(hp:PrSm p){env:List Fi}(he:zAu env)(hl:env.length<=4000000000):∀e:Ex,ExSm e->(∃d,e.whole d=true)->ExC p env e:=by
 refine Ex.ind fun e ih hs hw=>?_
 obtain⟨_,h1,h2,h3,h4,h5⟩:=hs
 obtain⟨d,hw⟩:=hw
 obtain⟨w1,w2,w3,w4⟩:=zOY hw
 have Mi:∀x∈e.args,ExC p env x:=fun x hx=>ih x hx (h5 x hx) (w1 x hx)
 by_cases a1:e.op=1
 .exact zbG hp he hl e h4 Mi a1
 by_cases a2:e.op=2
 .exact zbH hp he hl e h4 Mi a2
 by_cases a3:e.op=3
 .exact zbI hp he hl e h4 Mi a3
 by_cases a7:7<=e.op/\e.op<=17
 .exact zcF hp he hl e h4 Mi a7.1 a7.2
 by_cases iv:e.op=18\/e.op=19\/e.op=20
 .exact zcG hp he hl e h4 Mi iv
 by_cases Ha:0<zBs e.op
 .refine zcH hp he hl e h4 Mi Ha ?_
  have hop:e.op=21\/e.op=26\/e.op=27\/e.op=29:=by
   unfold zBs at Ha
   repeat' split at Ha
   all_goals omega
  have:shL e.op=1:=by rcases hop with h|h|h|h<;>rw[h]<;>rfl
  omega
 have Zm:zBs e.op=0:=by
  unfold zBs at Ha ⊢
  repeat' split
  all_goals simp_all
 by_cases rq:e.op=23
 .refine zVr hp he hl e h4 Mi rq ?_
  have:shL e.op=1:=by rw[rq];rfl
  omega
 by_cases sq:e.op=31
 .refine zVs hp he hl e h4 Mi sq ?_
  have:shL e.op=1:=by rw[sq];rfl
  omega
 have hne:e.op≠1/\e.op≠2/\e.op≠3/\¬(7<=e.op/\e.op<=17)/\e.op≠18/\e.op≠19/\e.op≠20/\e.op≠23/\e.op≠31:=⟨a1,a2,a3,a7,by omega,by omega,by omega,rq,sq⟩
 by_cases ho:0<(zBF e.op).1
 .refine zcI hp he hl e h4 Mi Zm hne ho fun hb=>?_
  have hop:e.op=22\/e.op=30:=by
   unfold zBF at ho hb
   by_cases Lr:e.op=22
   .exact .inl Lr
   by_cases Up:e.op=30
   .exact .inr Up
   rw[if_neg Lr,if_neg Up]at ho hb;split at hb
   .cases hb
   split at hb
   .cases hb
   split at hb
   .cases hb
   rename_i x1 x2 x3
   rw[if_neg x1,if_neg x2,if_neg x3]at ho;simp at ho
  have:shL e.op=1:=by rcases hop with h|h<;>rw[h]<;>rfl
  omega
 exact zcJ hp he hl e h4 Mi Zm hne ho
theorem zYo{p:List It}(hp:PrSm p)(Lc:zAF p=true):∀s:St,StSm s->StG p s->StT p s:=by
 refine St.ind fun s i1 i2 i3 hs hg=>?_
 have vd:=hs
 have Gb:=hg
 obtain⟨_,Ma,Ra,Lf,Ua,lf,jc,Qf,Ei,Aj,ed,te,Me,ue⟩:=vd
 obtain⟨_,Gi,eg,Hi,Ii,Ji,Ki,Li⟩:=Gb
 have ua:∀x∈s.u3,∀env,zAu env->env.length<=4000000000->ExC p env x:=fun x hx env he hl=>zNH hp he hl x (jc.2 x hx) (Gi x hx)
 have j1:∀x∈s.body,StT p x:=fun x hx=>i1 x hx (ed x hx) (Ji x hx)
 have j2:∀x∈s.els,StT p x:=fun x hx=>i2 x hx (te x hx) (Ki x hx)
 have j3:∀a∈s.arms,∀x∈a.body,StT p x:=fun a ha x hx=>i3 a ha x hx (ue a ha x hx) (Li a ha x hx)
 by_cases a1:s.op=1
 .exact zcK hp s hs hg ua j1 j2 j3 a1
 by_cases a2:s.op=2
 .exact zcN hp s hs hg ua j1 j2 j3 a2
 by_cases a3:s.op=3
 .exact zcO hp s hs hg ua j1 j2 j3 a3
 by_cases a6:s.op=6\/s.op=7
 .exact zcP hp s hs hg ua j1 j2 j3 a6
 by_cases a8:s.op=8
 .exact zcQ hp s hs hg ua j1 j2 j3 a8
 by_cases ll:s.op=10
 .exact zcS hp s hs hg ua j1 j2 j3 ll
 by_cases Jn:s.op=11
 .exact zcR hp s hs hg ua j1 j2 j3 Jn Lc
 by_cases Mr:s.op=12
 .exact zcL hp s hs hg ua j1 j2 j3 Mr
 exact zcM hp s hs hg ua j1 j2 j3 ⟨a1,a2,a3,by omega,by omega,a8,ll,Jn,Mr⟩
end Go.Proofs.YtdflkegnmmkkoaaGreatDoor
