/- A part of the proof. -/
import Derived.Test.YtgpajpilkapciaaGreatDoorXNVd
set_option linter.unusedVariables false
set_option linter.unusedSimpArgs false
set_option maxRecDepth 100000
set_option maxHeartbeats 32000000
namespace Go.Proofs.YtgpajpilkapciaaGreatDoor
open Go.RowKit _root_.Go.Proofs.Tryz
attribute [local simp] List.replicate List.range List.range.loop zf za zn zb List.forall_mem_cons List.contains_cons List.contains_nil List.find? zm zl zZ
theorem ADet.toP2{P:Program}{F:FuncId}{as1 as2:List AV}{v:AV}{q:PV}{S S':ASt}{r:AV}(hv:v.toP=some q)(h:ADet P F (as1++ .p q::as2) S r S'):ADet P F (as1++v::as2) S r S':=by
 refine⟨h.1,fun Pr φ xs w ea hR hne=>h.2 Pr φ xs w ⟨by rw[<-ea.1];simp,fun j c x hc hx=>?_⟩ hR hne⟩
 rcases Nat.lt_trichotomy j as1.length with hj|hj|hj
 .rw[List.getElem?_append_left hj]at hc
  exact ea.2 j c x (by rw[List.getElem?_append_left hj];exact hc) hx
 .subst hj
  rw[List.getElem?_append_right (Nat.le_refl _),Nat.sub_self]at hc;cases hc;exact .p ((ea.2 as1.length v x (by rw[List.getElem?_append_right (Nat.le_refl _),Nat.sub_self];rfl) hx).toP hv)
 rw[List.getElem?_append_right (by omega),show j-as1.length=(j-as1.length-1)+1 by omega,List.getElem?_cons_succ]at hc
 exact ea.2 j c x (by rw[List.getElem?_append_right (by omega),show j-as1.length=(j-as1.length-1)+1 by omega,List.getElem?_cons_succ];exact hc) hx
theorem zZW(p:List It)(hp:∀x∈p,x.fields.length<=20000)(s:St)(fe:∀a∈s.arms,∀x∈a.body,StmC p x)(td:s.arms.length<=20000)(σ:Nf)(hb:BdN σ (1+(s.arms.map Ar.nd).sum)):
  FC p 93 [.agg (stV s)] σ (s.arms.foldl (fun σ a=>a.nm p s.pos σ) (σ.add (zI (mIs σ.made s.name&&zGk p s.u4 (s.arms.map armF)) 60 s.pos))):=fun S c h=>by
 have ca:s.arms.length<=maxLen:=by unfold maxLen;omega
 have hs:=zAQ h
 obtain⟨bb,Qe⟩:∃bb,bb=(mIs σ.made s.name&&zGk p s.u4 (s.arms.map armF)):=⟨_,rfl⟩
 rw[<-Qe]
 obtain⟨F,hF⟩:∃F:Nat->Nf,F=fun q=>(s.arms.take q).foldl (fun σ a=>a.nm p s.pos σ) (σ.add (zI bb 60 s.pos)):=⟨_,rfl⟩
 have mb:F 0=σ.add (zI bb 60 s.pos):=by rw[hF];simp
 have Qb:F s.arms.length=s.arms.foldl (fun σ a=>a.nm p s.pos σ) (σ.add (zI bb 60 s.pos)):=by rw[hF];simp
 have Gb:∀q (hq:q<s.arms.length),F (q+1)=s.arms[q].nm p s.pos (F q):=fun q hq=>by
  rw[hF];simp only[List.take_succ_eq_append_getElem hq,List.foldl_append,List.foldl_cons,List.foldl_nil]
 have Fb:∀q (hq:q<s.arms.length),BdN (F q) ((oneN s.arms[q].name).length+(s.arms[q].body.map St.nd).sum):=fun q hq=>by
  have e1:=zB4 Ar.nd hq
  have key:∀(l:List Ar) (τ:Nf),Near τ (l.map Ar.nd).sum (l.foldl (fun σ a=>a.nm p s.pos σ) τ):=by
   intro l
   induction l with
   |nil=>intro τ;exact Near.refl τ
   |cons a l ih=>
    intro τ
    have h1:=zCF p (l:=a.body) (fun x _ σ=>zC5 p x σ) s.pos (oneN a.name) τ
    have h2:=ih (a.nm p s.pos τ)
    have ho:=zJg a.name
    have hn:=arNd a
    rw[List.map_cons,List.sum_cons,List.foldl_cons];exact(Near.trans (b:=a.nm p s.pos τ) h1 h2).le (by omega)
  have e2:=(Near.add σ (zo bb 60 s.pos)).trans (key (s.arms.take q) (σ.add (zI bb 60 s.pos)))
  have ho:=zJg s.arms[q].name
  have hn:=arNd s.arms[q]
  rw[hF];exact hb.near e2 (by omega)
 clear hF;rw[<-Qb]
 have Ya:=fun b L=>(zD8 p b 60 s.pos σ.fl (by have:=hb.1;omega)).inF0 h L
 have Aa:∀X,(⟨σ.made,σ.count,σ.opn,σ.fl++X⟩:Nf)=σ.add X:=fun X=>rfl
 simp only[Aa]at Ya
 have ho:=h.n
 have hm:=h.m
 simp only[fnO]at ho;simp only[mdO]at hm
 have kd:=fun L=>zI5 p 2 s.u4 σ.fl (L::S) _ (h.k.cons L)
 simp only[Cf.e]at kd;unfold zO1 at kd;unfold zGk zKx at Qe;refine ADet.intro mixed call93 func93 rfl ?_;simp[ntmps93];refine zCe [(10,11,4)] [] (by kernel_rfl) (by kernel_rfl) (by kernel_rfl) (by simp) ?_
 cases Pc:zU p s.u4 with
 |none=>
  rw[Pc]at kd Qe
  have Ff:bb=false:=by rw[Qe];simp
  simp[ho];refine cq (kd _) ?_;simp;refine dB [(3,19),(22,19)] (by kernel_rfl) ?_
  rcases zDK s.name σ.made 0 with⟨h1,h2,h3⟩|⟨j,b,h1,h2,h3⟩
  .simp[ho,hm,h2]
   refine cq (Ya false _) ?_;simp;refine zH (fun q:Nat=>q<=s.arms.length) (fun q=>([.ptr (c.d+1) c.jF 0,.any,.any,.ptr 0 0 0]++(List.replicate 39 .any++([.p (.sl 3 (s.arms.map Ar.enc)),I s.arms.length,I q]++List.replicate 22 .any)))) (fun q=>[.cells (stV s) 57,.dead]::updF S c (F q)) (fun q=>s.arms.length-q) 0 (Nat.zero_le _) ?_ ?_ ?_
   .simp
   .simp[mb,Ff]
   intro q hq
   by_cases hlt:q<s.arms.length
   .have aa:(q:Int)<(s.arms.length:Int):=by omega
    have hw:=zA hlt ca
    have Qa:=Gb q hlt
    have ra:s.arms.length-(q+1)<s.arms.length-q:=by omega
    have La:=fun L=>(zF0 p s.arms[q].body (fe _ (List.getElem_mem hlt)) s.pos (oneN s.arms[q].name) (F q) (Fb q hlt)).at h L
    have e1:zAT p s.arms[q].body s.pos (oneN s.arms[q].name) (F q)=F (q+1):=Qa.symm
    rw[e1]at La;clear Qa e1
    generalize he:s.arms[q]=a at*
    cases hs:sEq a.name emS with
    |true=>
     have Ic:oneN a.name=[]:=by unfold oneN;rw[hs];rfl
     rw[Ic]at La
     have Rd:∀L,ADet Tryz.prog 95 [.ptr (c.d+1) c.jF 0,.p (.sl 15 (a.body.map St.enc)),I s.pos,nilS] (L::updF S c (F q)) .un (L::updF S c (F (q+1))):=fun L=>ADet.sub (by repeat' constructor) (La L)
     simp[hlt,aa,he,hs,Ar.enc];refine cq (Rd _) ?_;simp
     exact⟨q+1,hlt,ra,hw,rfl⟩
    |false=>
     have Ic:oneN a.name=[a.name]:=by unfold oneN;rw[hs];rfl
     rw[Ic]at La
     have va:∀L i,ADet Tryz.prog 95 [.ptr (c.d+1) c.jF 0,.p (.sl 15 (a.body.map St.enc)),I s.pos,.osl 1 [[pS a.name]] 0 i] (L::updF S c (F q)) .un (L::updF S c (F (q+1))):=fun L i=>ADet.toP2 (as1:=[.ptr (c.d+1) c.jF 0,.p (.sl 15 (a.body.map St.enc)),I s.pos]) (as2:=[]) (v:=.osl 1 [[pS a.name]] 0 i) rfl (La L)
     simp[hlt,aa,he,hs,Ar.enc];refine cq (va _ _) ?_;simp;exact⟨q+1,hlt,ra,hw,rfl⟩
   have aa:¬(q:Int)<(s.arms.length:Int):=by omega
   have Na:q=s.arms.length:=by omega
   subst Na;simp
  cases b with
  |false=>
   simp[ho,hm,h2];refine cq (Ya false _) ?_;simp;refine zH (fun q:Nat=>q<=s.arms.length) (fun q=>([.ptr (c.d+1) c.jF 0,.any,.any,.ptr 0 0 0]++(List.replicate 39 .any++([.p (.sl 3 (s.arms.map Ar.enc)),I s.arms.length,I q]++List.replicate 22 .any)))) (fun q=>[.cells (stV s) 57,.dead]::updF S c (F q)) (fun q=>s.arms.length-q) 0 (Nat.zero_le _) ?_ ?_ ?_
   .simp
   .simp[mb,Ff]
   intro q hq
   by_cases hlt:q<s.arms.length
   .have aa:(q:Int)<(s.arms.length:Int):=by omega
    have hw:=zA hlt ca
    have Qa:=Gb q hlt
    have ra:s.arms.length-(q+1)<s.arms.length-q:=by omega
    have La:=fun L=>(zF0 p s.arms[q].body (fe _ (List.getElem_mem hlt)) s.pos (oneN s.arms[q].name) (F q) (Fb q hlt)).at h L
    have e1:zAT p s.arms[q].body s.pos (oneN s.arms[q].name) (F q)=F (q+1):=Qa.symm
    rw[e1]at La;clear Qa e1
    generalize he:s.arms[q]=a at*
    cases hs:sEq a.name emS with
    |true=>
     have Ic:oneN a.name=[]:=by unfold oneN;rw[hs];rfl
     rw[Ic]at La
     have Rd:∀L,ADet Tryz.prog 95 [.ptr (c.d+1) c.jF 0,.p (.sl 15 (a.body.map St.enc)),I s.pos,nilS] (L::updF S c (F q)) .un (L::updF S c (F (q+1))):=fun L=>ADet.sub (by repeat' constructor) (La L)
     simp[hlt,aa,he,hs,Ar.enc];refine cq (Rd _) ?_;simp
     exact⟨q+1,hlt,ra,hw,rfl⟩
    |false=>
     have Ic:oneN a.name=[a.name]:=by unfold oneN;rw[hs];rfl
     rw[Ic]at La
     have va:∀L i,ADet Tryz.prog 95 [.ptr (c.d+1) c.jF 0,.p (.sl 15 (a.body.map St.enc)),I s.pos,.osl 1 [[pS a.name]] 0 i] (L::updF S c (F q)) .un (L::updF S c (F (q+1))):=fun L i=>ADet.toP2 (as1:=[.ptr (c.d+1) c.jF 0,.p (.sl 15 (a.body.map St.enc)),I s.pos]) (as2:=[]) (v:=.osl 1 [[pS a.name]] 0 i) rfl (La L)
     simp[hlt,aa,he,hs,Ar.enc];refine cq (va _ _) ?_;simp;exact⟨q+1,hlt,ra,hw,rfl⟩
   have aa:¬(q:Int)<(s.arms.length:Int):=by omega
   have Na:q=s.arms.length:=by omega
   subst Na
   simp
  |true=>
   simp[ho,hm,h2];refine cq (Ya false _) ?_;simp;refine zH (fun q:Nat=>q<=s.arms.length) (fun q=>([.ptr (c.d+1) c.jF 0,.any,.any,.ptr 0 0 0]++(List.replicate 39 .any++([.p (.sl 3 (s.arms.map Ar.enc)),I s.arms.length,I q]++List.replicate 22 .any)))) (fun q=>[.cells (stV s) 57,.dead]::updF S c (F q)) (fun q=>s.arms.length-q) 0 (Nat.zero_le _) ?_ ?_ ?_
   .simp
   .simp[mb,Ff]
   intro q hq
   by_cases hlt:q<s.arms.length
   .have aa:(q:Int)<(s.arms.length:Int):=by omega
    have hw:=zA hlt ca
    have Qa:=Gb q hlt
    have ra:s.arms.length-(q+1)<s.arms.length-q:=by omega
    have La:=fun L=>(zF0 p s.arms[q].body (fe _ (List.getElem_mem hlt)) s.pos (oneN s.arms[q].name) (F q) (Fb q hlt)).at h L
    have e1:zAT p s.arms[q].body s.pos (oneN s.arms[q].name) (F q)=F (q+1):=Qa.symm
    rw[e1]at La;clear Qa e1
    generalize he:s.arms[q]=a at*
    cases hs:sEq a.name emS with
    |true=>
     have Ic:oneN a.name=[]:=by unfold oneN;rw[hs];rfl
     rw[Ic]at La
     have Rd:∀L,ADet Tryz.prog 95 [.ptr (c.d+1) c.jF 0,.p (.sl 15 (a.body.map St.enc)),I s.pos,nilS] (L::updF S c (F q)) .un (L::updF S c (F (q+1))):=fun L=>ADet.sub (by repeat' constructor) (La L)
     simp[hlt,aa,he,hs,Ar.enc];refine cq (Rd _) ?_;simp
     exact⟨q+1,hlt,ra,hw,rfl⟩
    |false=>
     have Ic:oneN a.name=[a.name]:=by unfold oneN;rw[hs];rfl
     rw[Ic]at La
     have va:∀L i,ADet Tryz.prog 95 [.ptr (c.d+1) c.jF 0,.p (.sl 15 (a.body.map St.enc)),I s.pos,.osl 1 [[pS a.name]] 0 i] (L::updF S c (F q)) .un (L::updF S c (F (q+1))):=fun L i=>ADet.toP2 (as1:=[.ptr (c.d+1) c.jF 0,.p (.sl 15 (a.body.map St.enc)),I s.pos]) (as2:=[]) (v:=.osl 1 [[pS a.name]] 0 i) rfl (La L)
     simp[hlt,aa,he,hs,Ar.enc];refine cq (va _ _) ?_;simp;exact⟨q+1,hlt,ra,hw,rfl⟩
   have aa:¬(q:Int)<(s.arms.length:Int):=by omega
   have Na:q=s.arms.length:=by omega
   subst Na
   simp
 |some x=>
  rw[Pc]at kd Qe
  have om:x∈p:=by unfold zU at Pc;exact List.mem_of_find?_eq_some Pc
  have Tj:=fun S=>zXH x s.arms td (hp x om) S
  simp only[Option.bind_some]at Qe;simp[ho];refine cq (kd _) ?_;simp;refine dB [(3,19),(22,19)] (by kernel_rfl) ?_
  rcases zDK s.name σ.made 0 with⟨h1,h2,h3⟩|⟨j,b,h1,h2,h3⟩
  .have Ff:bb=false:=by rw[Qe];unfold mIs;rw[h1];rfl
   simp[ho,hm,h2];refine cq (Ya false _) ?_;simp;refine zH (fun q:Nat=>q<=s.arms.length) (fun q=>([.ptr (c.d+1) c.jF 0,.any,.any,.ptr 0 0 0]++(List.replicate 39 .any++([.p (.sl 3 (s.arms.map Ar.enc)),I s.arms.length,I q]++List.replicate 22 .any)))) (fun q=>[.cells (stV s) 57,.dead]::updF S c (F q)) (fun q=>s.arms.length-q) 0 (Nat.zero_le _) ?_ ?_ ?_
   .simp
   .simp[mb,Ff]
   intro q hq
   by_cases hlt:q<s.arms.length
   .have aa:(q:Int)<(s.arms.length:Int):=by omega
    have hw:=zA hlt ca
    have Qa:=Gb q hlt
    have ra:s.arms.length-(q+1)<s.arms.length-q:=by omega
    have La:=fun L=>(zF0 p s.arms[q].body (fe _ (List.getElem_mem hlt)) s.pos (oneN s.arms[q].name) (F q) (Fb q hlt)).at h L
    have e1:zAT p s.arms[q].body s.pos (oneN s.arms[q].name) (F q)=F (q+1):=Qa.symm
    rw[e1]at La;clear Qa e1
    generalize he:s.arms[q]=a at*
    cases hs:sEq a.name emS with
    |true=>
     have Ic:oneN a.name=[]:=by unfold oneN;rw[hs];rfl
     rw[Ic]at La
     have Rd:∀L,ADet Tryz.prog 95 [.ptr (c.d+1) c.jF 0,.p (.sl 15 (a.body.map St.enc)),I s.pos,nilS] (L::updF S c (F q)) .un (L::updF S c (F (q+1))):=fun L=>ADet.sub (by repeat' constructor) (La L)
     simp[hlt,aa,he,hs,Ar.enc];refine cq (Rd _) ?_;simp
     exact⟨q+1,hlt,ra,hw,rfl⟩
    |false=>
     have Ic:oneN a.name=[a.name]:=by unfold oneN;rw[hs];rfl
     rw[Ic]at La
     have va:∀L i,ADet Tryz.prog 95 [.ptr (c.d+1) c.jF 0,.p (.sl 15 (a.body.map St.enc)),I s.pos,.osl 1 [[pS a.name]] 0 i] (L::updF S c (F q)) .un (L::updF S c (F (q+1))):=fun L i=>ADet.toP2 (as1:=[.ptr (c.d+1) c.jF 0,.p (.sl 15 (a.body.map St.enc)),I s.pos]) (as2:=[]) (v:=.osl 1 [[pS a.name]] 0 i) rfl (La L)
     simp[hlt,aa,he,hs,Ar.enc];refine cq (va _ _) ?_;simp;exact⟨q+1,hlt,ra,hw,rfl⟩
   have aa:¬(q:Int)<(s.arms.length:Int):=by omega
   have Na:q=s.arms.length:=by omega
   subst Na;simp
  cases b with
  |false=>
   have Ff:bb=false:=by rw[Qe];unfold mIs;rw[h1];rfl
   simp[ho,hm,h2];refine cq (Ya false _) ?_;simp;refine zH (fun q:Nat=>q<=s.arms.length) (fun q=>([.ptr (c.d+1) c.jF 0,.any,.any,.ptr 0 0 0]++(List.replicate 39 .any++([.p (.sl 3 (s.arms.map Ar.enc)),I s.arms.length,I q]++List.replicate 22 .any)))) (fun q=>[.cells (stV s) 57,.dead]::updF S c (F q)) (fun q=>s.arms.length-q) 0 (Nat.zero_le _) ?_ ?_ ?_
   .simp
   .simp[mb,Ff]
   intro q hq
   by_cases hlt:q<s.arms.length
   .have aa:(q:Int)<(s.arms.length:Int):=by omega
    have hw:=zA hlt ca
    have Qa:=Gb q hlt
    have ra:s.arms.length-(q+1)<s.arms.length-q:=by omega
    have La:=fun L=>(zF0 p s.arms[q].body (fe _ (List.getElem_mem hlt)) s.pos (oneN s.arms[q].name) (F q) (Fb q hlt)).at h L
    have e1:zAT p s.arms[q].body s.pos (oneN s.arms[q].name) (F q)=F (q+1):=Qa.symm
    rw[e1]at La;clear Qa e1
    generalize he:s.arms[q]=a at*
    cases hs:sEq a.name emS with
    |true=>
     have Ic:oneN a.name=[]:=by unfold oneN;rw[hs];rfl
     rw[Ic]at La
     have Rd:∀L,ADet Tryz.prog 95 [.ptr (c.d+1) c.jF 0,.p (.sl 15 (a.body.map St.enc)),I s.pos,nilS] (L::updF S c (F q)) .un (L::updF S c (F (q+1))):=fun L=>ADet.sub (by repeat' constructor) (La L)
     simp[hlt,aa,he,hs,Ar.enc];refine cq (Rd _) ?_;simp
     exact⟨q+1,hlt,ra,hw,rfl⟩
    |false=>
     have Ic:oneN a.name=[a.name]:=by unfold oneN;rw[hs];rfl
     rw[Ic]at La
     have va:∀L i,ADet Tryz.prog 95 [.ptr (c.d+1) c.jF 0,.p (.sl 15 (a.body.map St.enc)),I s.pos,.osl 1 [[pS a.name]] 0 i] (L::updF S c (F q)) .un (L::updF S c (F (q+1))):=fun L i=>ADet.toP2 (as1:=[.ptr (c.d+1) c.jF 0,.p (.sl 15 (a.body.map St.enc)),I s.pos]) (as2:=[]) (v:=.osl 1 [[pS a.name]] 0 i) rfl (La L)
     simp[hlt,aa,he,hs,Ar.enc];refine cq (va _ _) ?_;simp;exact⟨q+1,hlt,ra,hw,rfl⟩
   have aa:¬(q:Int)<(s.arms.length:Int):=by omega
   have Na:q=s.arms.length:=by omega
   subst Na
   simp
  |true=>
   by_cases hk:x.kind=2
   .have Ff:bb=zFI x (s.arms.map armF):=by rw[Qe,if_pos hk];unfold mIs;rw[h1];rfl
    have Ip:decide (x.kind=2)=true:=decide_eq_true hk
    simp[ho,hm,h2,Ip];refine cq (Tj _) ?_;simp;refine cq (Ya _ _) ?_;simp;refine zH (fun q:Nat=>q<=s.arms.length) (fun q=>([.ptr (c.d+1) c.jF 0,.any,.any,.ptr 0 0 0]++(List.replicate 39 .any++([.p (.sl 3 (s.arms.map Ar.enc)),I s.arms.length,I q]++List.replicate 22 .any)))) (fun q=>[.cells (stV s) 57,.dead]::updF S c (F q)) (fun q=>s.arms.length-q) 0 (Nat.zero_le _) ?_ ?_ ?_
    .simp
    .simp[mb,Ff]
    intro q hq
    by_cases hlt:q<s.arms.length
    .have aa:(q:Int)<(s.arms.length:Int):=by omega
     have hw:=zA hlt ca
     have Qa:=Gb q hlt
     have ra:s.arms.length-(q+1)<s.arms.length-q:=by omega
     have La:=fun L=>(zF0 p s.arms[q].body (fe _ (List.getElem_mem hlt)) s.pos (oneN s.arms[q].name) (F q) (Fb q hlt)).at h L
     have e1:zAT p s.arms[q].body s.pos (oneN s.arms[q].name) (F q)=F (q+1):=Qa.symm
     rw[e1]at La;clear Qa e1
     generalize he:s.arms[q]=a at*
     cases hs:sEq a.name emS with
     |true=>
      have Ic:oneN a.name=[]:=by unfold oneN;rw[hs];rfl
      rw[Ic]at La
      have Rd:∀L,ADet Tryz.prog 95 [.ptr (c.d+1) c.jF 0,.p (.sl 15 (a.body.map St.enc)),I s.pos,nilS] (L::updF S c (F q)) .un (L::updF S c (F (q+1))):=fun L=>ADet.sub (by repeat' constructor) (La L)
      simp[hlt,aa,he,hs,Ar.enc];refine cq (Rd _) ?_;simp
      exact⟨q+1,hlt,ra,hw,rfl⟩
     |false=>
      have Ic:oneN a.name=[a.name]:=by unfold oneN;rw[hs];rfl
      rw[Ic]at La
      have va:∀L i,ADet Tryz.prog 95 [.ptr (c.d+1) c.jF 0,.p (.sl 15 (a.body.map St.enc)),I s.pos,.osl 1 [[pS a.name]] 0 i] (L::updF S c (F q)) .un (L::updF S c (F (q+1))):=fun L i=>ADet.toP2 (as1:=[.ptr (c.d+1) c.jF 0,.p (.sl 15 (a.body.map St.enc)),I s.pos]) (as2:=[]) (v:=.osl 1 [[pS a.name]] 0 i) rfl (La L)
      simp[hlt,aa,he,hs,Ar.enc];refine cq (va _ _) ?_;simp;exact⟨q+1,hlt,ra,hw,rfl⟩
    have aa:¬(q:Int)<(s.arms.length:Int):=by omega
    have Na:q=s.arms.length:=by omega
    subst Na;simp
   have Ff:bb=false:=by rw[Qe,if_neg hk];simp
   simp[ho,hm,h2,hk];refine cq (Ya false _) ?_;simp;refine zH (fun q:Nat=>q<=s.arms.length) (fun q=>([.ptr (c.d+1) c.jF 0,.any,.any,.ptr 0 0 0]++(List.replicate 39 .any++([.p (.sl 3 (s.arms.map Ar.enc)),I s.arms.length,I q]++List.replicate 22 .any)))) (fun q=>[.cells (stV s) 57,.dead]::updF S c (F q)) (fun q=>s.arms.length-q) 0 (Nat.zero_le _) ?_ ?_ ?_
   .simp
   .simp[mb,Ff]
   intro q hq
   by_cases hlt:q<s.arms.length
   .have aa:(q:Int)<(s.arms.length:Int):=by omega
    have hw:=zA hlt ca
    have Qa:=Gb q hlt
    have ra:s.arms.length-(q+1)<s.arms.length-q:=by omega
    have La:=fun L=>(zF0 p s.arms[q].body (fe _ (List.getElem_mem hlt)) s.pos (oneN s.arms[q].name) (F q) (Fb q hlt)).at h L
    have e1:zAT p s.arms[q].body s.pos (oneN s.arms[q].name) (F q)=F (q+1):=Qa.symm
    rw[e1]at La;clear Qa e1
    generalize he:s.arms[q]=a at*
    cases hs:sEq a.name emS with
    |true=>
     have Ic:oneN a.name=[]:=by unfold oneN;rw[hs];rfl
     rw[Ic]at La
     have Rd:∀L,ADet Tryz.prog 95 [.ptr (c.d+1) c.jF 0,.p (.sl 15 (a.body.map St.enc)),I s.pos,nilS] (L::updF S c (F q)) .un (L::updF S c (F (q+1))):=fun L=>ADet.sub (by repeat' constructor) (La L)
     simp[hlt,aa,he,hs,Ar.enc];refine cq (Rd _) ?_;simp
     exact⟨q+1,hlt,ra,hw,rfl⟩
    |false=>
     have Ic:oneN a.name=[a.name]:=by unfold oneN;rw[hs];rfl
     rw[Ic]at La
     have va:∀L i,ADet Tryz.prog 95 [.ptr (c.d+1) c.jF 0,.p (.sl 15 (a.body.map St.enc)),I s.pos,.osl 1 [[pS a.name]] 0 i] (L::updF S c (F q)) .un (L::updF S c (F (q+1))):=fun L i=>ADet.toP2 (as1:=[.ptr (c.d+1) c.jF 0,.p (.sl 15 (a.body.map St.enc)),I s.pos]) (as2:=[]) (v:=.osl 1 [[pS a.name]] 0 i) rfl (La L)
     simp[hlt,aa,he,hs,Ar.enc];refine cq (va _ _) ?_;simp;exact⟨q+1,hlt,ra,hw,rfl⟩
   have aa:¬(q:Int)<(s.arms.length:Int):=by omega
   have Na:q=s.arms.length:=by omega
   subst Na;simp
theorem zRV{p:List It}{S:ASt}{c:Cf}{σ:Nf}(h:NAt p S c σ)(s:St)(g:Nf):NAt p ([.cells (stV s) 57,mdO g.made,fnO ⟨0,c.k+c.d+1,2,1⟩ g]::updK S (c.k+c.d) g.fl) ⟨0,c.k+c.d+1,2,1⟩ g:=by
 have hk:=h.k
 refine⟨⟨(hk.updK g.fl).t,(hk.updK g.fl).f,(hk.updK g.fl).l,(hk.updK g.fl).r⟩,rfl,rfl,fun e=>by simp at e,fun e=>by simp at e,by simp⟩
theorem zNg{p:List It}{S:ASt}{c:Cf}{σ:Nf}(h:NAt p S c σ)(s:St)(g g':Nf):updF ([.cells (stV s) 57,mdO g.made,fnO ⟨0,c.k+c.d+1,2,1⟩ g]::updK S (c.k+c.d) g.fl) ⟨0,c.k+c.d+1,2,1⟩ g'=[.cells (stV s) 57,mdO g'.made,fnO ⟨0,c.k+c.d+1,2,1⟩ g']::updK S (c.k+c.d) g'.fl:=by
 have e:=zF4 [.cells (stV s) 57,mdO g.made,fnO ⟨0,c.k+c.d+1,2,1⟩ g] (updK S (c.k+c.d) g.fl) (c.k+c.d) g'.fl
 rw[zLS (e:=c.k+c.d) h.k]at e
 show set2 (set2 (updK ([.cells (stV s) 57,mdO g.made,fnO ⟨0,c.k+c.d+1,2,1⟩ g]::updK S (c.k+c.d) g.fl) (c.k+c.d+1) g'.fl) 0 1 (mdO g'.made)) 0 2 (fnO ⟨0,c.k+c.d+1,2,1⟩ g')=_
 rw[e,zFa,zFa];rfl
theorem zZX(p:List It)(s:St)(Hm:∀x∈s.body,StmC p x)(σ:Nf)(hb:BdN σ (2+(s.names.length+(s.body.map St.nd).sum))):
  FC p 94 [.agg (stV s)] σ ⟨σ.made,σ.count,σ.opn,(zCp p s.body s.pos s.names (σ.fl++zI (decide (0<σ.opn)) 61 s.pos)).fl++zI (decide ((zCp p s.body s.pos s.names (σ.fl++zI (decide (0<σ.opn)) 61 s.pos)).count<=60)) 4 s.pos⟩:=fun S c h=>by
 refine ADet.okA call94 1 3 rfl rfl fun na=>?_
 have ca:s.names.length<=maxLen:=okl na
 have hs:=zAQ h
 have ho:=h.n
 simp only[fnO]at ho
 obtain⟨g0,xk⟩:∃g0:Nf,g0=⟨[],0,0,σ.fl++zI (decide (0<σ.opn)) 61 s.pos⟩:=⟨_,rfl⟩
 obtain⟨F,hF⟩:∃F:Nat->Nf,F=fun q=>(Nf.mkS (s.names.take q) s.pos g0).1:=⟨_,rfl⟩
 have mb:F 0=g0:=by rw[hF];simp[Nf.mkS]
 have Qb:F s.names.length=(Nf.mkS s.names s.pos g0).1:=by rw[hF];simp
 have Gb:∀q (hq:q<s.names.length),F (q+1)=(F q).mk1 s.names[q] s.pos:=fun q hq=>by
  rw[hF];simp only[List.take_succ_eq_append_getElem hq,zJ3];simp[Nf.mkS]
 have If:BdN g0 (1+(s.names.length+(s.body.map St.nd).sum)):=by
  obtain⟨b1,b2,b3⟩:=hb
  have:=zo (decide (0<σ.opn)) 61 s.pos
  rw[xk];exact⟨by simp only[List.length_append];omega,by simp only;omega,by simp only;omega⟩
 have Fb:∀q,q<s.names.length->BdN (F q) 1:=fun q hq=>by
  have e2:=(zAy (s.names.take q) s.pos g0).1
  rw[hF];exact If.near e2 (by simp;omega)
 have Kf:BdN (F s.names.length) (s.body.map St.nd).sum:=by
  rw[Qb];exact If.near (zAy s.names s.pos g0).1 (by omega)
 obtain⟨G,hG⟩:∃G,G=Nf.undo (St.nms p s.body (F s.names.length)).2 (St.nms p s.body (F s.names.length)).1:=⟨_,rfl⟩
 have sn:G.fl.length+1<=4294967296:=by
  have e1:=(zCN p (l:=s.body) (fun x _ σ=>zC5 p x σ) (F s.names.length)).1
  have e2:=e1.trans (zER (St.nms p s.body (F s.names.length)).2 (St.nms p s.body (F s.names.length)).1)
  rw[<-hG]at e2
  have:=Kf.1
  have:=e2.2.1
  omega
 have Rg:zCp p s.body s.pos s.names (σ.fl++zI (decide (0<σ.opn)) 61 s.pos)=G:=by rw[hG,Qb,xk];rfl
 rw[Rg]
 have hE:∀S:ASt,ADet Tryz.prog 135 [] S .un S:=fun S=>by
  refine ADet.intro mixed call135 func135 rfl ?_;simp[ntmps135]
 have Ee:=fun b L=>(zD8 p b 61 s.pos σ.fl (by have:=hb.1;omega)).inF0 h L
 have e0:updF S c ⟨σ.made,σ.count,σ.opn,σ.fl++zI (decide (0<σ.opn)) 61 s.pos⟩=updK S (c.k+c.d) g0.fl:=by rw[<-zIC h,xk];rfl
 have e1:updF S c ⟨σ.made,σ.count,σ.opn,G.fl++zI (decide (G.count<=60)) 4 s.pos⟩=updK S (c.k+c.d) (G.fl++zI (decide (G.count<=60)) 4 s.pos):=by rw[<-zIC h];rfl
 rw[e1]
 have Aa:=zRU p s.body Hm (F s.names.length) Kf 135 [] (St.nms p s.body (F s.names.length)).1 _ ⟨0,c.k+c.d+1,2,1⟩ (zRV h s (F s.names.length)) (fun L=>hE _)
 rw[<-hG,zNg h]at Aa
 have Ka:∀q (hq:q<s.names.length),ADet Tryz.prog 90 [.ptr 0 2 0,Sg s.names[q],I s.pos] ([.cells (stV s) 57,mdO (F q).made,fnO ⟨0,c.k+c.d+1,2,1⟩ (F q)]::updK S (c.k+c.d) (F q).fl) (clo ⟨0,c.k+c.d+1,2,1⟩ (s.names[q],mIs (F q).made s.names[q])) ([.cells (stV s) 57,mdO (F (q+1)).made,fnO ⟨0,c.k+c.d+1,2,1⟩ (F (q+1))]::updK S (c.k+c.d) (F (q+1)).fl):=fun q hq=>by
  have va:=Fb q hq
  have:=zZV p s.names[q] s.pos (F q) (by have:=va.1;omega) (by have:=va.2.1;omega) _ ⟨0,c.k+c.d+1,2,1⟩ (zRV h s (F q))
  rw[zNg h,<-Gb q hq]at this;exact this
 have He:∀L:List AObj,ADet Tryz.prog 27 [.ptr (c.k+c.d+1) 3 0,B (decide (G.count<=60)),I 4,I s.pos] (L::updK S (c.k+c.d) G.fl) .un (L::updK S (c.k+c.d) (G.fl++zI (decide (G.count<=60)) 4 s.pos)):=fun L=>(zD8 p _ 4 s.pos G.fl sn).at h.k L
 refine ADet.intro mixed call94 func94 rfl ?_;simp[ntmps94];refine dB [] (by kernel_rfl) ?_
 have hA:=h.updF ⟨σ.made,σ.count,σ.opn,σ.fl++zI (decide (0<σ.opn)) 61 s.pos⟩
 rw[e0]at hA
 have Yq:=hA.n
 simp only[fnO]at Yq
 have Jp:∀L:List AObj,ADet Tryz.prog 27 [.ptr (c.k+c.d+1) 3 0,B (decide (0<σ.opn)),I 61,I s.pos] (L::S) .un (L::updK S (c.k+c.d) g0.fl):=fun L=>by
  have:=Ee (decide (0<σ.opn)) L
  rw[e0]at this;exact this
 simp[ho];refine cq (Jp _) ?_;simp[Yq];refine cq (zLK _ [.cells (stV s) 57] (c.k+c.d+1)) ?_;simp;refine zH (fun q:Nat=>q<=s.names.length) (fun q=>([.ptr (c.d+1) c.jF 0,.any,.any,.ptr 0 0 0,.ptr 0 2 0]++(List.replicate 20 .any++([.p (.sl 1 (s.names.map fun s=>[pS s])),I s.names.length,I q]++List.replicate 25 .any)))) (fun q=>[.cells (stV s) 57,mdO (F q).made,fnO ⟨0,c.k+c.d+1,2,1⟩ (F q)]::updK S (c.k+c.d) (F q).fl) (fun q=>s.names.length-q) 0 (Nat.zero_le _) ?_ ?_ ?_
 .simp[strs]
 .simp[mb]
  rw[xk];exact⟨rfl,⟨rfl,zS _⟩,trivial⟩
 intro q hq
 by_cases hlt:q<s.names.length
 .have aa:(q:Int)<(s.names.length:Int):=by omega
  have hw:=zA hlt
  have ra:s.names.length-(q+1)<s.names.length-q:=by omega
  have iu:=Ka q hlt
  have ju:∀n (τ:Nf),AObj.cut n (mdO τ.made)=mdO τ.made:=fun n τ=>by unfold mdO mdE AObj.cut;simp[AV.cut,AV.cuts]
  generalize he:s.names[q]=x at*
  simp[hlt,aa,he];refine cq iu ?_;simp;refine⟨q+1,hlt,ra,hw,?_,rfl⟩
  show wkL [AObj.cut 3 (mdO (F (q+1)).made),AObj.cut 3 (fnO ⟨0,c.k+c.d+1,2,1⟩ (F (q+1)))] _
  rw[ju];exact⟨rfl,⟨rfl,zS _⟩,trivial⟩
 have aa:¬(q:Int)<(s.names.length:Int):=by omega
 have Na:q=s.names.length:=by omega
 subst Na;simp;refine cq Aa ?_;simp;refine dB [] (by kernel_rfl) ?_
 have ku:get2 (updK S (c.k+c.d) G.fl) c.d c.jF=some (.cells [.ptr c.k 3 0,.mp 0 c.jM,I σ.count,I σ.opn] 97):=by
  have:=(h.updF ⟨σ.made,σ.count,σ.opn,G.fl⟩).n
  rw[<-zIC h]at this;exact this
 simp[ku,fnO]
 have Gk:decide ((G.count:Int)<=60)=decide (G.count<=60):=decide_eq_decide.2 (by omega)
 rw[Gk];refine cq (He _) ?_;simp
end Go.Proofs.YtgpajpilkapciaaGreatDoor
namespace Go.Proofs.YtgpajpilkapciaaGreatDoor
open Go.RowKit _root_.Go.Proofs.Tryz
attribute [local simp] List.replicate List.range List.range.loop
theorem zAj{s:St}{d:Int}(h:s.whole d=true):∀e∈s.u5,e.whole (d-1)=true:=fun e he=>by
 rw[zB]at h;simp only[Bool.and_eq_true]at h
 have hx:=h.2.2.2.2.2.1
 unfold exsB zq at hx;simp only[Bool.and_eq_true,decide_eq_true_eq]at hx;rw[List.take_of_length_le (by omega)]at hx
 have:=List.all_eq_true.1 hx.2 e he
 simp only[Bool.and_eq_true]at this;exact this.2
theorem zBJ:∀{L A B:List AObj},wkL L L->wkL A B->wkL (L++A) (L++B)
 | [],A,B,_,h=>h
 |o::L,A,B,hL,h=>by
  have key:wkL [o] [o]/\wkL L L:=by cases o<;>simp_all[wkL]
  exact zJ8 key.1 (zBJ key.2 h)
theorem zXK(p:List It)(hp:∀x∈p,x.fields.length<=20000)(s:St)(d:Int)(Mc:s.whole d=true)(i1:∀x∈s.body,StmC p x)(i2:∀x∈s.els,StmC p x)(i3:∀a∈s.arms,∀x∈a.body,StmC p x)(hop:s.op=3):StmC p s:=by
 intro σ hb S0 c0 h0 L Jc
 have xa:=zAj Mc
 obtain⟨c,hc⟩:∃c,c=c0.up:=⟨_,rfl⟩
 obtain⟨S,hS⟩:∃S,S=L::S0:=⟨_,rfl⟩
 have h:NAt p S c σ:=by rw[hc,hS];exact h0.cons L
 have vd:∀τ,updF S c τ=L::updF S0 c0 τ:=fun τ=>by rw[hc,hS];exact zAk L S0 c0 τ
 have ie:c0.d+1=c.d:=by rw[hc];rfl
 have cd:c0.jF=c.jF:=by rw[hc];rfl
 rw[ie,cd,<-hS]
 have hs:=zAQ h
 have df:=stNd s
 obtain⟨F,hF⟩:∃F:Nat->Nf,F=fun q=>σ.add ((s.u5.take q).flatMap (Ex.nm p σ.made)):=⟨_,rfl⟩
 have mb:F 0=σ:=by rw[hF];simp[Nf.add_nil]
 obtain⟨σ1,Ma⟩:∃σ1,σ1=σ.add (s.u5.flatMap (Ex.nm p σ.made)):=⟨_,rfl⟩
 have Qb:F s.u5.length=σ1:=by rw[hF,Ma];simp
 have Gb:∀q (hq:q<s.u5.length),F (q+1)=(F q).add (s.u5[q].nm p (F q).made):=fun q hq=>by
  rw[hF];simp only[List.take_succ_eq_append_getElem hq,List.flatMap_append,Nf.add_add];simp[Nf.add]
 have Fb:∀q (hq:q<s.u5.length),(F q).fl.length+s.u5[q].nd<=4000000000:=fun q hq=>by
  have e1:=zB4 Ex.nd hq
  have e2:=z9 p σ.made (s.u5.take q)
  have:=hb.1
  rw[hF];simp only[Nf.add,List.length_append];omega
 have va:BdN σ1 (s.nd-(s.u5.map Ex.nd).sum):=by
  rw[Ma];exact hb.near (Near.add σ (z9 p σ.made s.u5)) (by omega)
 have nb:σ1.made=σ.made:=by rw[Ma];rfl
 have gf:σ1.count=σ.count:=by rw[Ma];rfl
 have Da:σ1.opn=σ.opn:=by rw[Ma];rfl
 have Ha:=stNm p s σ
 rw[<-Ma]at Ha;clear hF
 have ee:(s.nm p σ).2=[]:=by rw[Ha];simp[hop]
 have Fa:(s.nm p σ).1=σ1.add (zI (mIs σ1.made s.place.name) 60 s.pos):=by rw[Ha];simp[hop,nb]
 rw[ee,Fa];refine⟨[.dead],.p (.sl 1 []),?_,.inl ⟨rfl,rfl,1,rfl⟩⟩;refine ADet.less (.p (.nil 1)) (ADet.after (S':=(L++[.cells ((stV s).map (AV.mrg L.length)) 57])::updF S0 c0 (σ1.add (zI (mIs σ1.made s.place.name) 60 s.pos))) ⟨zBJ Jc (by trivial),rfl⟩ ?_)
 have Im:=fun L=>(zRP p s.place.name s.pos σ1 (by have:=va.1;omega)).at h L
 refine ADet.okA call54 1 10 rfl rfl fun na=>?_
 have ca:=okl na
 refine ADet.merge mixed call54 func54 rfl ?_;simp[ntmps54];refine zH (fun q:Nat=>q<=s.u5.length) (fun q=>([.ptr (c.d+1) c.jF 0,.any,.any,.ptr 0 0 0,nilS,.any,.any,.any,.any,.any,.any,.any,.any,.p (.sl 8 (s.u5.map Ex.enc)),I s.u5.length,I q]++List.replicate 171 .any)) (fun q=>[.cells (stV s) 57]::updF S c (F q)) (fun q=>s.u5.length-q) 0 (Nat.zero_le _) ?_ ?_ ?_
 .simp
 .simp[mb,hs]
 intro q hq
 by_cases hlt:q<s.u5.length
 .have aa:(q:Int)<(s.u5.length:Int):=by omega
  have hw:=zA hlt
  have Qa:=Gb q hlt
  have ra:s.u5.length-(q+1)<s.u5.length-q:=by omega
  have mc:=fun L=>(zH4 p s.u5[q] _ (F q) (xa _ (List.getElem_mem hlt)) (Fb q hlt)).at h L
  rw[<-Qa]at mc
  generalize he:s.u5[q]=e at*
  simp[hlt,aa,he,zy];refine cq (mc _) ?_;simp;exact⟨q+1,hlt,ra,hw,rfl⟩
 have aa:¬(q:Int)<(s.u5.length:Int):=by omega
 have Na:q=s.u5.length:=by omega
 subst Na;rw[Qb];simp[hop];refine cq (Im _) ?_
 try simp
 rw[vd];simp[zBG,AObj.mrg,AV.mrg,AV.mrgs]
 try exact hop
theorem zXL(p:List It)(hp:∀x∈p,x.fields.length<=20000)(s:St)(d:Int)(Mc:s.whole d=true)(i1:∀x∈s.body,StmC p x)(i2:∀x∈s.els,StmC p x)(i3:∀a∈s.arms,∀x∈a.body,StmC p x)(hop:s.op=5):StmC p s:=by
 intro σ hb S0 c0 h0 L Jc
 have xa:=zAj Mc
 obtain⟨c,hc⟩:∃c,c=c0.up:=⟨_,rfl⟩
 obtain⟨S,hS⟩:∃S,S=L::S0:=⟨_,rfl⟩
 have h:NAt p S c σ:=by rw[hc,hS];exact h0.cons L
 have vd:∀τ,updF S c τ=L::updF S0 c0 τ:=fun τ=>by rw[hc,hS];exact zAk L S0 c0 τ
 have ie:c0.d+1=c.d:=by rw[hc];rfl
 have cd:c0.jF=c.jF:=by rw[hc];rfl
 rw[ie,cd,<-hS]
 have hs:=zAQ h
 have df:=stNd s
 obtain⟨F,hF⟩:∃F:Nat->Nf,F=fun q=>σ.add ((s.u5.take q).flatMap (Ex.nm p σ.made)):=⟨_,rfl⟩
 have mb:F 0=σ:=by rw[hF];simp[Nf.add_nil]
 obtain⟨σ1,Ma⟩:∃σ1,σ1=σ.add (s.u5.flatMap (Ex.nm p σ.made)):=⟨_,rfl⟩
 have Qb:F s.u5.length=σ1:=by rw[hF,Ma];simp
 have Gb:∀q (hq:q<s.u5.length),F (q+1)=(F q).add (s.u5[q].nm p (F q).made):=fun q hq=>by
  rw[hF];simp only[List.take_succ_eq_append_getElem hq,List.flatMap_append,Nf.add_add];simp[Nf.add]
 have Fb:∀q (hq:q<s.u5.length),(F q).fl.length+s.u5[q].nd<=4000000000:=fun q hq=>by
  have e1:=zB4 Ex.nd hq
  have e2:=z9 p σ.made (s.u5.take q)
  have:=hb.1
  rw[hF];simp only[Nf.add,List.length_append];omega
 have va:BdN σ1 (s.nd-(s.u5.map Ex.nd).sum):=by
  rw[Ma];exact hb.near (Near.add σ (z9 p σ.made s.u5)) (by omega)
 have nb:σ1.made=σ.made:=by rw[Ma];rfl
 have gf:σ1.count=σ.count:=by rw[Ma];rfl
 have Da:σ1.opn=σ.opn:=by rw[Ma];rfl
 have Ha:=stNm p s σ
 rw[<-Ma]at Ha;clear hF
 have ee:(s.nm p σ).2=[]:=by rw[Ha];simp[hop]
 have Fa:(s.nm p σ).1=σ1.add (zI (mIs σ1.made s.name) 60 s.pos):=by rw[Ha];simp[hop,nb]
 rw[ee,Fa];refine⟨[.dead],.p (.sl 1 []),?_,.inl ⟨rfl,rfl,1,rfl⟩⟩;refine ADet.less (.p (.nil 1)) (ADet.after (S':=(L++[.cells ((stV s).map (AV.mrg L.length)) 57])::updF S0 c0 (σ1.add (zI (mIs σ1.made s.name) 60 s.pos))) ⟨zBJ Jc (by trivial),rfl⟩ ?_)
 have Im:=fun L=>(zRP p s.name s.pos σ1 (by have:=va.1;omega)).at h L
 refine ADet.okA call54 1 10 rfl rfl fun na=>?_
 have ca:=okl na
 refine ADet.merge mixed call54 func54 rfl ?_;simp[ntmps54];refine zH (fun q:Nat=>q<=s.u5.length) (fun q=>([.ptr (c.d+1) c.jF 0,.any,.any,.ptr 0 0 0,nilS,.any,.any,.any,.any,.any,.any,.any,.any,.p (.sl 8 (s.u5.map Ex.enc)),I s.u5.length,I q]++List.replicate 171 .any)) (fun q=>[.cells (stV s) 57]::updF S c (F q)) (fun q=>s.u5.length-q) 0 (Nat.zero_le _) ?_ ?_ ?_
 .simp
 .simp[mb,hs]
 intro q hq
 by_cases hlt:q<s.u5.length
 .have aa:(q:Int)<(s.u5.length:Int):=by omega
  have hw:=zA hlt
  have Qa:=Gb q hlt
  have ra:s.u5.length-(q+1)<s.u5.length-q:=by omega
  have mc:=fun L=>(zH4 p s.u5[q] _ (F q) (xa _ (List.getElem_mem hlt)) (Fb q hlt)).at h L
  rw[<-Qa]at mc
  generalize he:s.u5[q]=e at*
  simp[hlt,aa,he,zy];refine cq (mc _) ?_;simp;exact⟨q+1,hlt,ra,hw,rfl⟩
 have aa:¬(q:Int)<(s.u5.length:Int):=by omega
 have Na:q=s.u5.length:=by omega
 subst Na;rw[Qb];simp[hop];refine cq (Im _) ?_
 try simp
 rw[vd];simp[zBG,AObj.mrg,AV.mrg,AV.mrgs]
 try exact hop
theorem zXM(p:List It)(hp:∀x∈p,x.fields.length<=20000)(s:St)(d:Int)(Mc:s.whole d=true)(i1:∀x∈s.body,StmC p x)(i2:∀x∈s.els,StmC p x)(i3:∀a∈s.arms,∀x∈a.body,StmC p x)(hop:s.op=8):StmC p s:=by
 intro σ hb S0 c0 h0 L Jc
 have xa:=zAj Mc
 obtain⟨c,hc⟩:∃c,c=c0.up:=⟨_,rfl⟩
 obtain⟨S,hS⟩:∃S,S=L::S0:=⟨_,rfl⟩
 have h:NAt p S c σ:=by rw[hc,hS];exact h0.cons L
 have vd:∀τ,updF S c τ=L::updF S0 c0 τ:=fun τ=>by rw[hc,hS];exact zAk L S0 c0 τ
 have ie:c0.d+1=c.d:=by rw[hc];rfl
 have cd:c0.jF=c.jF:=by rw[hc];rfl
 rw[ie,cd,<-hS]
 have hs:=zAQ h
 have df:=stNd s
 obtain⟨F,hF⟩:∃F:Nat->Nf,F=fun q=>σ.add ((s.u5.take q).flatMap (Ex.nm p σ.made)):=⟨_,rfl⟩
 have mb:F 0=σ:=by rw[hF];simp[Nf.add_nil]
 obtain⟨σ1,Ma⟩:∃σ1,σ1=σ.add (s.u5.flatMap (Ex.nm p σ.made)):=⟨_,rfl⟩
 have Qb:F s.u5.length=σ1:=by rw[hF,Ma];simp
 have Gb:∀q (hq:q<s.u5.length),F (q+1)=(F q).add (s.u5[q].nm p (F q).made):=fun q hq=>by
  rw[hF];simp only[List.take_succ_eq_append_getElem hq,List.flatMap_append,Nf.add_add];simp[Nf.add]
 have Fb:∀q (hq:q<s.u5.length),(F q).fl.length+s.u5[q].nd<=4000000000:=fun q hq=>by
  have e1:=zB4 Ex.nd hq
  have e2:=z9 p σ.made (s.u5.take q)
  have:=hb.1
  rw[hF];simp only[Nf.add,List.length_append];omega
 have va:BdN σ1 (s.nd-(s.u5.map Ex.nd).sum):=by
  rw[Ma];exact hb.near (Near.add σ (z9 p σ.made s.u5)) (by omega)
 have nb:σ1.made=σ.made:=by rw[Ma];rfl
 have gf:σ1.count=σ.count:=by rw[Ma];rfl
 have Da:σ1.opn=σ.opn:=by rw[Ma];rfl
 have Ha:=stNm p s σ
 rw[<-Ma]at Ha;clear hF
 have ee:(s.nm p σ).2=[]:=by rw[Ha];simp[hop]
 have Fa:(s.nm p σ).1=s.arms.foldl (fun σ a=>a.nm p s.pos σ) (σ1.add (zI (mIs σ1.made s.name&&zGk p s.u4 (s.arms.map armF)) 60 s.pos)):=by rw[Ha];simp[hop,nb]
 rw[ee,Fa];refine⟨[.dead],.p (.sl 1 []),?_,.inl ⟨rfl,rfl,1,rfl⟩⟩;refine ADet.less (.p (.nil 1)) (ADet.after (S':=(L++[.cells ((stV s).map (AV.mrg L.length)) 57])::updF S0 c0 (s.arms.foldl (fun σ a=>a.nm p s.pos σ) (σ1.add (zI (mIs σ1.made s.name&&zGk p s.u4 (s.arms.map armF)) 60 s.pos)))) ⟨zBJ Jc (by trivial),rfl⟩ ?_)
 have Ok:=Mc
 rw[zB]at Ok;simp only[Bool.and_eq_true,Bool.or_eq_true,decide_eq_true_eq]at Ok
 have td:s.arms.length<=20000:=by
  have:=Ok.2.2.2.2.2.2.2.2
  unfold zq at this;simp only[Bool.and_eq_true,decide_eq_true_eq]at this;omega
 have lu:=fun L=>(zZW p hp s i3 td σ1 (va.near (Near.refl σ1) (by omega))).at h L
 refine ADet.okA call54 1 10 rfl rfl fun na=>?_
 have ca:=okl na
 refine ADet.merge mixed call54 func54 rfl ?_;simp[ntmps54];refine zH (fun q:Nat=>q<=s.u5.length) (fun q=>([.ptr (c.d+1) c.jF 0,.any,.any,.ptr 0 0 0,nilS,.any,.any,.any,.any,.any,.any,.any,.any,.p (.sl 8 (s.u5.map Ex.enc)),I s.u5.length,I q]++List.replicate 171 .any)) (fun q=>[.cells (stV s) 57]::updF S c (F q)) (fun q=>s.u5.length-q) 0 (Nat.zero_le _) ?_ ?_ ?_
 .simp
 .simp[mb,hs]
 intro q hq
 by_cases hlt:q<s.u5.length
 .have aa:(q:Int)<(s.u5.length:Int):=by omega
  have hw:=zA hlt
  have Qa:=Gb q hlt
  have ra:s.u5.length-(q+1)<s.u5.length-q:=by omega
  have mc:=fun L=>(zH4 p s.u5[q] _ (F q) (xa _ (List.getElem_mem hlt)) (Fb q hlt)).at h L
  rw[<-Qa]at mc
  generalize he:s.u5[q]=e at*
  simp[hlt,aa,he,zy];refine cq (mc _) ?_;simp;exact⟨q+1,hlt,ra,hw,rfl⟩
 have aa:¬(q:Int)<(s.u5.length:Int):=by omega
 have Na:q=s.u5.length:=by omega
 subst Na;rw[Qb];simp[hop];rw[<-hop];refine cq (lu _) ?_
 try simp
 rw[vd];simp[zBG,AObj.mrg,AV.mrg,AV.mrgs]
 try exact hop
theorem zUW(p:List It)(hp:∀x∈p,x.fields.length<=20000)(s:St)(d:Int)(Mc:s.whole d=true)(i1:∀x∈s.body,StmC p x)(i2:∀x∈s.els,StmC p x)(i3:∀a∈s.arms,∀x∈a.body,StmC p x)(hop:s.op=10):StmC p s:=by
 intro σ hb S0 c0 h0 L Jc
 have xa:=zAj Mc
 obtain⟨c,hc⟩:∃c,c=c0.up:=⟨_,rfl⟩
 obtain⟨S,hS⟩:∃S,S=L::S0:=⟨_,rfl⟩
 have h:NAt p S c σ:=by rw[hc,hS];exact h0.cons L
 have vd:∀τ,updF S c τ=L::updF S0 c0 τ:=fun τ=>by rw[hc,hS];exact zAk L S0 c0 τ
 have ie:c0.d+1=c.d:=by rw[hc];rfl
 have cd:c0.jF=c.jF:=by rw[hc];rfl
 rw[ie,cd,<-hS]
 have hs:=zAQ h
 have df:=stNd s
 obtain⟨F,hF⟩:∃F:Nat->Nf,F=fun q=>σ.add ((s.u5.take q).flatMap (Ex.nm p σ.made)):=⟨_,rfl⟩
 have mb:F 0=σ:=by rw[hF];simp[Nf.add_nil]
 obtain⟨σ1,Ma⟩:∃σ1,σ1=σ.add (s.u5.flatMap (Ex.nm p σ.made)):=⟨_,rfl⟩
 have Qb:F s.u5.length=σ1:=by rw[hF,Ma];simp
 have Gb:∀q (hq:q<s.u5.length),F (q+1)=(F q).add (s.u5[q].nm p (F q).made):=fun q hq=>by
  rw[hF];simp only[List.take_succ_eq_append_getElem hq,List.flatMap_append,Nf.add_add];simp[Nf.add]
 have Fb:∀q (hq:q<s.u5.length),(F q).fl.length+s.u5[q].nd<=4000000000:=fun q hq=>by
  have e1:=zB4 Ex.nd hq
  have e2:=z9 p σ.made (s.u5.take q)
  have:=hb.1
  rw[hF];simp only[Nf.add,List.length_append];omega
 have va:BdN σ1 (s.nd-(s.u5.map Ex.nd).sum):=by
  rw[Ma];exact hb.near (Near.add σ (z9 p σ.made s.u5)) (by omega)
 have nb:σ1.made=σ.made:=by rw[Ma];rfl
 have gf:σ1.count=σ.count:=by rw[Ma];rfl
 have Da:σ1.opn=σ.opn:=by rw[Ma];rfl
 have Ha:=stNm p s σ
 rw[<-Ma]at Ha;clear hF
 have Kp:σ.fl++s.u5.flatMap (Ex.nm p σ.made)=σ1.fl:=by rw[Ma];rfl
 have ee:(s.nm p σ).2=[]:=by rw[Ha];simp[hop]
 have Fa:(s.nm p σ).1=⟨σ1.made,σ1.count,σ1.opn,(zCp p s.body s.pos s.names (σ1.fl++zI (decide (0<σ1.opn)) 61 s.pos)).fl++zI (decide ((zCp p s.body s.pos s.names (σ1.fl++zI (decide (0<σ1.opn)) 61 s.pos)).count<=60)) 4 s.pos⟩:=by rw[Ha];simp[hop,nb,gf,Da,Kp]
 rw[ee,Fa];refine⟨[.dead],.p (.sl 1 []),?_,.inl ⟨rfl,rfl,1,rfl⟩⟩;refine ADet.less (.p (.nil 1)) (ADet.after (S':=(L++[.cells ((stV s).map (AV.mrg L.length)) 57])::updF S0 c0 (⟨σ1.made,σ1.count,σ1.opn,(zCp p s.body s.pos s.names (σ1.fl++zI (decide (0<σ1.opn)) 61 s.pos)).fl++zI (decide ((zCp p s.body s.pos s.names (σ1.fl++zI (decide (0<σ1.opn)) 61 s.pos)).count<=60)) 4 s.pos⟩)) ⟨zBJ Jc (by trivial),rfl⟩ ?_)
 have mu:=fun L=>(zZX p s i1 σ1 (va.near (Near.refl σ1) (by omega))).at h L
 refine ADet.okA call54 1 10 rfl rfl fun na=>?_
 have ca:=okl na
 refine ADet.merge mixed call54 func54 rfl ?_;simp[ntmps54];refine zH (fun q:Nat=>q<=s.u5.length) (fun q=>([.ptr (c.d+1) c.jF 0,.any,.any,.ptr 0 0 0,nilS,.any,.any,.any,.any,.any,.any,.any,.any,.p (.sl 8 (s.u5.map Ex.enc)),I s.u5.length,I q]++List.replicate 171 .any)) (fun q=>[.cells (stV s) 57]::updF S c (F q)) (fun q=>s.u5.length-q) 0 (Nat.zero_le _) ?_ ?_ ?_
 .simp
 .simp[mb,hs]
 intro q hq
 by_cases hlt:q<s.u5.length
 .have aa:(q:Int)<(s.u5.length:Int):=by omega
  have hw:=zA hlt
  have Qa:=Gb q hlt
  have ra:s.u5.length-(q+1)<s.u5.length-q:=by omega
  have mc:=fun L=>(zH4 p s.u5[q] _ (F q) (xa _ (List.getElem_mem hlt)) (Fb q hlt)).at h L
  rw[<-Qa]at mc
  generalize he:s.u5[q]=e at*
  simp[hlt,aa,he,zy];refine cq (mc _) ?_;simp;exact⟨q+1,hlt,ra,hw,rfl⟩
 have aa:¬(q:Int)<(s.u5.length:Int):=by omega
 have Na:q=s.u5.length:=by omega
 subst Na;rw[Qb];simp[hop];rw[<-hop];refine cq (mu _) ?_
 try simp
 rw[vd];simp[zBG,AObj.mrg,AV.mrg,AV.mrgs]
 try exact hop
theorem zNh(S:ASt)(c:Cf)(σ:Nf)(n:Nat):set2 (updF S c σ) c.d c.jF (fnO c ⟨σ.made,σ.count,n,σ.fl⟩)=updF S c ⟨σ.made,σ.count,n,σ.fl⟩:=by
 unfold updF;rw[zB5]
theorem zMV{p:List It}{l:List St}{pos:Int}{σ τ:Nf}(hl:∀s∈l,StmC p s)(hb:BdN σ (l.map St.nd).sum)(hτ:τ=zAT p l pos [] σ){S:ASt}{c:Cf}{σ0:Nf}(h:NAt p S c σ0)(L:List AObj):ADet Tryz.prog 95 [.ptr (c.d+1) c.jF 0,.p (.sl 15 (l.map St.enc)),I pos,nilS] (L::updF S c σ) .un (L::updF S c τ):=by
 subst hτ;exact ADet.sub (by repeat' constructor) ((zF0 p l hl pos [] σ (by simpa using hb)).at h L)
theorem zXN{p:List It}{l:List St}{pos:Int}{s:BA}{σ τ:Nf}(hl:∀s∈l,StmC p s)(hb:BdN σ (1+(l.map St.nd).sum))(hτ:τ=zAT p l pos [s] σ){S:ASt}{c:Cf}{σ0:Nf}(h:NAt p S c σ0)(L:List AObj)(i:Nat):ADet Tryz.prog 95 [.ptr (c.d+1) c.jF 0,.p (.sl 15 (l.map St.enc)),I pos,.osl 1 [[pS s]] 0 i] (L::updF S c σ) .un (L::updF S c τ):=by
 subst hτ;exact ADet.toP2 (as1:=[.ptr (c.d+1) c.jF 0,.p (.sl 15 (l.map St.enc)),I pos]) (as2:=[]) (v:=.osl 1 [[pS s]] 0 i) rfl ((zF0 p l hl pos [s] σ hb).at h L)
theorem zUX(p:List It)(hp:∀x∈p,x.fields.length<=20000)(s:St)(d:Int)(Mc:s.whole d=true)(i1:∀x∈s.body,StmC p x)(i2:∀x∈s.els,StmC p x)(i3:∀a∈s.arms,∀x∈a.body,StmC p x)(hop:s.op=11):StmC p s:=by
 intro σ hb S0 c0 h0 L Jc
 have xa:=zAj Mc
 obtain⟨c,hc⟩:∃c,c=c0.up:=⟨_,rfl⟩
 obtain⟨S,hS⟩:∃S,S=L::S0:=⟨_,rfl⟩
 have h:NAt p S c σ:=by rw[hc,hS];exact h0.cons L
 have vd:∀τ,updF S c τ=L::updF S0 c0 τ:=fun τ=>by rw[hc,hS];exact zAk L S0 c0 τ
 have ie:c0.d+1=c.d:=by rw[hc];rfl
 have cd:c0.jF=c.jF:=by rw[hc];rfl
 rw[ie,cd,<-hS]
 have hs:=zAQ h
 have df:=stNd s
 obtain⟨F,hF⟩:∃F:Nat->Nf,F=fun q=>σ.add ((s.u5.take q).flatMap (Ex.nm p σ.made)):=⟨_,rfl⟩
 have mb:F 0=σ:=by rw[hF];simp[Nf.add_nil]
 obtain⟨σ1,Ma⟩:∃σ1,σ1=σ.add (s.u5.flatMap (Ex.nm p σ.made)):=⟨_,rfl⟩
 have Qb:F s.u5.length=σ1:=by rw[hF,Ma];simp
 have Gb:∀q (hq:q<s.u5.length),F (q+1)=(F q).add (s.u5[q].nm p (F q).made):=fun q hq=>by
  rw[hF];simp only[List.take_succ_eq_append_getElem hq,List.flatMap_append,Nf.add_add];simp[Nf.add]
 have Fb:∀q (hq:q<s.u5.length),(F q).fl.length+s.u5[q].nd<=4000000000:=fun q hq=>by
  have e1:=zB4 Ex.nd hq
  have e2:=z9 p σ.made (s.u5.take q)
  have:=hb.1
  rw[hF];simp only[Nf.add,List.length_append];omega
 have va:BdN σ1 (s.nd-(s.u5.map Ex.nd).sum):=by
  rw[Ma];exact hb.near (Near.add σ (z9 p σ.made s.u5)) (by omega)
 have nb:σ1.made=σ.made:=by rw[Ma];rfl
 have gf:σ1.count=σ.count:=by rw[Ma];rfl
 have Da:σ1.opn=σ.opn:=by rw[Ma];rfl
 have Ha:=stNm p s σ
 rw[<-Ma]at Ha;clear hF
 obtain⟨τ,hτ⟩:∃τ,τ=zAT p s.body s.pos [s.name] (σ1.add (zI (mIs σ1.made s.place.name) 60 s.pos)):=⟨_,rfl⟩
 have ee:(s.nm p σ).2=[]:=by rw[Ha];simp[hop]
 have Fa:(s.nm p σ).1=τ:=by rw[Ha];simp[hop,hτ,nb]
 rw[ee,Fa];refine⟨[.dead,.dead],.p (.sl 1 []),?_,.inl ⟨rfl,rfl,2,rfl⟩⟩;refine ADet.less (.p (.nil 1)) (ADet.after (S':=(L++[.cells ((stV s).map (AV.mrg L.length)) 57,.tok 9 1 1])::updF S0 c0 (τ)) ⟨zBJ Jc (by trivial),rfl⟩ ?_)
 have Im:=fun L=>(zRP p s.place.name s.pos σ1 (by have:=va.1;omega)).at h L
 have Jm:=fun L i=>zXN i1 (va.near (Near.add σ1 (zo (mIs σ1.made s.place.name) 60 s.pos)) (by omega)) hτ h L i
 refine ADet.okA call54 1 10 rfl rfl fun na=>?_
 have ca:=okl na
 refine ADet.merge mixed call54 func54 rfl ?_;simp[ntmps54];refine zH (fun q:Nat=>q<=s.u5.length) (fun q=>([.ptr (c.d+1) c.jF 0,.any,.any,.ptr 0 0 0,nilS,.any,.any,.any,.any,.any,.any,.any,.any,.p (.sl 8 (s.u5.map Ex.enc)),I s.u5.length,I q]++List.replicate 171 .any)) (fun q=>[.cells (stV s) 57]::updF S c (F q)) (fun q=>s.u5.length-q) 0 (Nat.zero_le _) ?_ ?_ ?_
 .simp
 .simp[mb,hs]
 intro q hq
 by_cases hlt:q<s.u5.length
 .have aa:(q:Int)<(s.u5.length:Int):=by omega
  have hw:=zA hlt
  have Qa:=Gb q hlt
  have ra:s.u5.length-(q+1)<s.u5.length-q:=by omega
  have mc:=fun L=>(zH4 p s.u5[q] _ (F q) (xa _ (List.getElem_mem hlt)) (Fb q hlt)).at h L
  rw[<-Qa]at mc
  generalize he:s.u5[q]=e at*
  simp[hlt,aa,he,zy];refine cq (mc _) ?_;simp;exact⟨q+1,hlt,ra,hw,rfl⟩
 have aa:¬(q:Int)<(s.u5.length:Int):=by omega
 have Na:q=s.u5.length:=by omega
 subst Na;rw[Qb];simp[hop];refine cq (Im _) ?_;simp;refine cq (Jm _ _) ?_
 try simp
 rw[vd];simp[zBG,AObj.mrg,AV.mrg,AV.mrgs]
 try exact hop
theorem zXO(p:List It)(hp:∀x∈p,x.fields.length<=20000)(s:St)(d:Int)(Mc:s.whole d=true)(i1:∀x∈s.body,StmC p x)(i2:∀x∈s.els,StmC p x)(i3:∀a∈s.arms,∀x∈a.body,StmC p x)(hop:s.op=9):StmC p s:=by
 intro σ hb S0 c0 h0 L Jc
 have xa:=zAj Mc
 obtain⟨c,hc⟩:∃c,c=c0.up:=⟨_,rfl⟩
 obtain⟨S,hS⟩:∃S,S=L::S0:=⟨_,rfl⟩
 have h:NAt p S c σ:=by rw[hc,hS];exact h0.cons L
 have vd:∀τ,updF S c τ=L::updF S0 c0 τ:=fun τ=>by rw[hc,hS];exact zAk L S0 c0 τ
 have ie:c0.d+1=c.d:=by rw[hc];rfl
 have cd:c0.jF=c.jF:=by rw[hc];rfl
 rw[ie,cd,<-hS]
 have hs:=zAQ h
 have df:=stNd s
 obtain⟨F,hF⟩:∃F:Nat->Nf,F=fun q=>σ.add ((s.u5.take q).flatMap (Ex.nm p σ.made)):=⟨_,rfl⟩
 have mb:F 0=σ:=by rw[hF];simp[Nf.add_nil]
 obtain⟨σ1,Ma⟩:∃σ1,σ1=σ.add (s.u5.flatMap (Ex.nm p σ.made)):=⟨_,rfl⟩
 have Qb:F s.u5.length=σ1:=by rw[hF,Ma];simp
 have Gb:∀q (hq:q<s.u5.length),F (q+1)=(F q).add (s.u5[q].nm p (F q).made):=fun q hq=>by
  rw[hF];simp only[List.take_succ_eq_append_getElem hq,List.flatMap_append,Nf.add_add];simp[Nf.add]
 have Fb:∀q (hq:q<s.u5.length),(F q).fl.length+s.u5[q].nd<=4000000000:=fun q hq=>by
  have e1:=zB4 Ex.nd hq
  have e2:=z9 p σ.made (s.u5.take q)
  have:=hb.1
  rw[hF];simp only[Nf.add,List.length_append];omega
 have va:BdN σ1 (s.nd-(s.u5.map Ex.nd).sum):=by
  rw[Ma];exact hb.near (Near.add σ (z9 p σ.made s.u5)) (by omega)
 have nb:σ1.made=σ.made:=by rw[Ma];rfl
 have gf:σ1.count=σ.count:=by rw[Ma];rfl
 have Da:σ1.opn=σ.opn:=by rw[Ma];rfl
 have Ha:=stNm p s σ
 rw[<-Ma]at Ha;clear hF
 obtain⟨τ,hτ⟩:∃τ,τ=zAT p s.body s.pos [] ⟨σ1.made,σ1.count,σ1.opn+1,σ1.fl⟩:=⟨_,rfl⟩
 have Kp:(⟨σ.made,σ.count,σ.opn+1,σ.fl++s.u5.flatMap (Ex.nm p σ.made)⟩:Nf)=⟨σ1.made,σ1.count,σ1.opn+1,σ1.fl⟩:=by rw[Ma];rfl
 have uv:τ.opn=σ1.opn+1:=by
  have:=zCF p (l:=s.body) (fun x _ σ=>zC5 p x σ) s.pos [] ⟨σ1.made,σ1.count,σ1.opn+1,σ1.fl⟩
  rw[hτ];exact this.2.2.2.2
 have ee:(s.nm p σ).2=[]:=by rw[Ha];simp[hop]
 have Fa:(s.nm p σ).1=⟨τ.made,τ.count,τ.opn-1,τ.fl⟩:=by rw[Ha];simp[hop,hτ,Kp]
 rw[ee,Fa];refine⟨[.dead],.p (.sl 1 []),?_,.inl ⟨rfl,rfl,1,rfl⟩⟩;refine ADet.less (.p (.nil 1)) (ADet.after (S':=(L++[.cells ((stV s).map (AV.mrg L.length)) 57])::updF S0 c0 (⟨τ.made,τ.count,τ.opn-1,τ.fl⟩)) ⟨zBJ Jc (by trivial),rfl⟩ ?_)
 have nu:BdN ⟨σ1.made,σ1.count,σ1.opn+1,σ1.fl⟩ (s.body.map St.nd).sum:=⟨by have:=va.1;simp only;omega,by have:=va.2.1;simp only;omega,by have:=va.2.2;simp only;omega⟩
 have Jm:=fun L=>zMV i1 nu hτ h L
 have Ym:=zNh S c σ1 (σ1.opn+1)
 have Zq:=zNh S c τ (τ.opn-1)
 simp only[fnO]at Ym Zq
 have g1:=(h.updF σ1).n
 have g2:=(h.updF τ).n
 simp only[fnO]at g1 g2
 have Ee:IntKind.i64.wrap ((σ1.opn:Int)+1)=((σ1.opn+1:Nat):Int):=zA (n:=4294967296) (by have:=va.2.2;omega) (by unfold maxLen;omega)
 have He:IntKind.i64.wrap ((τ.opn:Int)-1)=((τ.opn-1:Nat):Int):=by
  have:=va.2.2
  rw[IntWalk.i64_in _ (by omega)];omega
 refine ADet.okA call54 1 10 rfl rfl fun na=>?_
 have ca:=okl na
 refine ADet.merge mixed call54 func54 rfl ?_;simp[ntmps54];refine zH (fun q:Nat=>q<=s.u5.length) (fun q=>([.ptr (c.d+1) c.jF 0,.any,.any,.ptr 0 0 0,nilS,.any,.any,.any,.any,.any,.any,.any,.any,.p (.sl 8 (s.u5.map Ex.enc)),I s.u5.length,I q]++List.replicate 171 .any)) (fun q=>[.cells (stV s) 57]::updF S c (F q)) (fun q=>s.u5.length-q) 0 (Nat.zero_le _) ?_ ?_ ?_
 .simp
 .simp[mb,hs]
 intro q hq
 by_cases hlt:q<s.u5.length
 .have aa:(q:Int)<(s.u5.length:Int):=by omega
  have hw:=zA hlt
  have Qa:=Gb q hlt
  have ra:s.u5.length-(q+1)<s.u5.length-q:=by omega
  have mc:=fun L=>(zH4 p s.u5[q] _ (F q) (xa _ (List.getElem_mem hlt)) (Fb q hlt)).at h L
  rw[<-Qa]at mc
  generalize he:s.u5[q]=e at*
  simp[hlt,aa,he,zy];refine cq (mc _) ?_;simp;exact⟨q+1,hlt,ra,hw,rfl⟩
 have aa:¬(q:Int)<(s.u5.length:Int):=by omega
 have Na:q=s.u5.length:=by omega
 subst Na;rw[Qb];simp[hop,g1,Ee,zAi];rw[show((σ1.opn:Int)+1)=((σ1.opn+1:Nat):Int)from rfl,Ym]
 refine cq (Jm _) ?_;simp[g2,He,zAi];rw[Zq]
 try simp
 rw[vd];simp[zBG,AObj.mrg,AV.mrg,AV.mrgs]
 try exact hop
theorem zXP(p:List It)(hp:∀x∈p,x.fields.length<=20000)(s:St)(d:Int)(Mc:s.whole d=true)(i1:∀x∈s.body,StmC p x)(i2:∀x∈s.els,StmC p x)(i3:∀a∈s.arms,∀x∈a.body,StmC p x)(o1:¬s.op=1)(o2:¬s.op=2)(o3:¬s.op=3)(o5:¬s.op=5)(ui:¬s.op=12)(o8:¬s.op=8)(vi:¬s.op=10)(o9:¬s.op=9)(wi:¬s.op=11):StmC p s:=by
 intro σ hb S0 c0 h0 L Jc
 have xa:=zAj Mc
 obtain⟨c,hc⟩:∃c,c=c0.up:=⟨_,rfl⟩
 obtain⟨S,hS⟩:∃S,S=L::S0:=⟨_,rfl⟩
 have h:NAt p S c σ:=by rw[hc,hS];exact h0.cons L
 have vd:∀τ,updF S c τ=L::updF S0 c0 τ:=fun τ=>by rw[hc,hS];exact zAk L S0 c0 τ
 have ie:c0.d+1=c.d:=by rw[hc];rfl
 have cd:c0.jF=c.jF:=by rw[hc];rfl
 rw[ie,cd,<-hS]
 have hs:=zAQ h
 have df:=stNd s
 obtain⟨F,hF⟩:∃F:Nat->Nf,F=fun q=>σ.add ((s.u5.take q).flatMap (Ex.nm p σ.made)):=⟨_,rfl⟩
 have mb:F 0=σ:=by rw[hF];simp[Nf.add_nil]
 obtain⟨σ1,Ma⟩:∃σ1,σ1=σ.add (s.u5.flatMap (Ex.nm p σ.made)):=⟨_,rfl⟩
 have Qb:F s.u5.length=σ1:=by rw[hF,Ma];simp
 have Gb:∀q (hq:q<s.u5.length),F (q+1)=(F q).add (s.u5[q].nm p (F q).made):=fun q hq=>by
  rw[hF];simp only[List.take_succ_eq_append_getElem hq,List.flatMap_append,Nf.add_add];simp[Nf.add]
 have Fb:∀q (hq:q<s.u5.length),(F q).fl.length+s.u5[q].nd<=4000000000:=fun q hq=>by
  have e1:=zB4 Ex.nd hq
  have e2:=z9 p σ.made (s.u5.take q)
  have:=hb.1
  rw[hF];simp only[Nf.add,List.length_append];omega
 have va:BdN σ1 (s.nd-(s.u5.map Ex.nd).sum):=by
  rw[Ma];exact hb.near (Near.add σ (z9 p σ.made s.u5)) (by omega)
 have nb:σ1.made=σ.made:=by rw[Ma];rfl
 have gf:σ1.count=σ.count:=by rw[Ma];rfl
 have Da:σ1.opn=σ.opn:=by rw[Ma];rfl
 have Ha:=stNm p s σ
 rw[<-Ma]at Ha;clear hF
 obtain⟨τ1,Lp⟩:∃τ,τ=zAT p s.body s.pos [] σ1:=⟨_,rfl⟩
 obtain⟨τ,hτ⟩:∃τ,τ=zAT p s.els s.pos [] τ1:=⟨_,rfl⟩
 have ee:(s.nm p σ).2=[]:=by rw[Ha];simp[o1,o2,o3,o5,ui,o8,vi,o9,wi]
 have Fa:(s.nm p σ).1=τ:=by rw[Ha];simp[o1,o2,o3,o5,ui,o8,vi,o9,wi,hτ,Lp]
 rw[ee,Fa];refine⟨[.dead],.p (.sl 1 []),?_,.inl ⟨rfl,rfl,1,rfl⟩⟩;refine ADet.less (.p (.nil 1)) (ADet.after (S':=(L++[.cells ((stV s).map (AV.mrg L.length)) 57])::updF S0 c0 (τ)) ⟨zBJ Jc (by trivial),rfl⟩ ?_)
 have Jm:=fun L=>zMV i1 (va.near (Near.refl σ1) (by omega)) Lp h L
 have nf:=zCF p (l:=s.body) (fun x _ σ=>zC5 p x σ) s.pos [] σ1
 rw[<-Lp]at nf
 have Mp:=fun L=>zMV i2 (va.near nf (by simp;omega)) hτ h L
 have e1:(s.op==1)=false:=by simpa using o1
 have e2:(s.op==2)=false:=by simpa using o2
 have e3:(s.op==3)=false:=by simpa using o3
 have e5:(s.op==5)=false:=by simpa using o5
 have ou:(s.op==12)=false:=by simpa using ui
 have e8:(s.op==8)=false:=by simpa using o8
 have pu:(s.op==10)=false:=by simpa using vi
 have e9:(s.op==9)=false:=by simpa using o9
 have qu:(s.op==11)=false:=by simpa using wi
 refine ADet.okA call54 1 10 rfl rfl fun na=>?_
 have ca:=okl na
 refine ADet.merge mixed call54 func54 rfl ?_;simp[ntmps54];refine zH (fun q:Nat=>q<=s.u5.length) (fun q=>([.ptr (c.d+1) c.jF 0,.any,.any,.ptr 0 0 0,nilS,.any,.any,.any,.any,.any,.any,.any,.any,.p (.sl 8 (s.u5.map Ex.enc)),I s.u5.length,I q]++List.replicate 171 .any)) (fun q=>[.cells (stV s) 57]::updF S c (F q)) (fun q=>s.u5.length-q) 0 (Nat.zero_le _) ?_ ?_ ?_
 .simp
 .simp[mb,hs]
 intro q hq
 by_cases hlt:q<s.u5.length
 .have aa:(q:Int)<(s.u5.length:Int):=by omega
  have hw:=zA hlt
  have Qa:=Gb q hlt
  have ra:s.u5.length-(q+1)<s.u5.length-q:=by omega
  have mc:=fun L=>(zH4 p s.u5[q] _ (F q) (xa _ (List.getElem_mem hlt)) (Fb q hlt)).at h L
  rw[<-Qa]at mc
  generalize he:s.u5[q]=e at*
  simp[hlt,aa,he,zy];refine cq (mc _) ?_;simp;exact⟨q+1,hlt,ra,hw,rfl⟩
 have aa:¬(q:Int)<(s.u5.length:Int):=by omega
 have Na:q=s.u5.length:=by omega
 subst Na;rw[Qb];simp[o1,o2,o3,o5,ui,o8,vi,o9,wi,e1,e2,e3,e5,ou,e8,pu,e9,qu];refine cq (Jm _) ?_;simp;refine cq (Mp _) ?_
 try simp
 rw[vd];simp[zBG,AObj.mrg,AV.mrg,AV.mrgs]
 try exact hop
attribute [local simp] zf za zn zb List.forall_mem_cons List.contains_cons List.contains_nil List.find? zm zl zZ
theorem zXQ(p:List It)(hp:∀x∈p,x.fields.length<=20000)(s:St)(d:Int)(Mc:s.whole d=true)(i1:∀x∈s.body,StmC p x)(i2:∀x∈s.els,StmC p x)(i3:∀a∈s.arms,∀x∈a.body,StmC p x)(hop:s.op=1):StmC p s:=by
 intro σ hb S0 c0 h0 L Jc
 have xa:=zAj Mc
 obtain⟨c,hc⟩:∃c,c=c0.up:=⟨_,rfl⟩
 obtain⟨S,hS⟩:∃S,S=L::S0:=⟨_,rfl⟩
 have h:NAt p S c σ:=by rw[hc,hS];exact h0.cons L
 have vd:∀τ,updF S c τ=L::updF S0 c0 τ:=fun τ=>by rw[hc,hS];exact zAk L S0 c0 τ
 have ie:c0.d+1=c.d:=by rw[hc];rfl
 have cd:c0.jF=c.jF:=by rw[hc];rfl
 rw[ie,cd,<-hS]
 have hs:=zAQ h
 have df:=stNd s
 obtain⟨F,hF⟩:∃F:Nat->Nf,F=fun q=>σ.add ((s.u5.take q).flatMap (Ex.nm p σ.made)):=⟨_,rfl⟩
 have mb:F 0=σ:=by rw[hF];simp[Nf.add_nil]
 obtain⟨σ1,Ma⟩:∃σ1,σ1=σ.add (s.u5.flatMap (Ex.nm p σ.made)):=⟨_,rfl⟩
 have Qb:F s.u5.length=σ1:=by rw[hF,Ma];simp
 have Gb:∀q (hq:q<s.u5.length),F (q+1)=(F q).add (s.u5[q].nm p (F q).made):=fun q hq=>by
  rw[hF];simp only[List.take_succ_eq_append_getElem hq,List.flatMap_append,Nf.add_add];simp[Nf.add]
 have Fb:∀q (hq:q<s.u5.length),(F q).fl.length+s.u5[q].nd<=4000000000:=fun q hq=>by
  have e1:=zB4 Ex.nd hq
  have e2:=z9 p σ.made (s.u5.take q)
  have:=hb.1
  rw[hF];simp only[Nf.add,List.length_append];omega
 have va:BdN σ1 (s.nd-(s.u5.map Ex.nd).sum):=by
  rw[Ma];exact hb.near (Near.add σ (z9 p σ.made s.u5)) (by omega)
 have nb:σ1.made=σ.made:=by rw[Ma];rfl
 have gf:σ1.count=σ.count:=by rw[Ma];rfl
 have Da:σ1.opn=σ.opn:=by rw[Ma];rfl
 have Ha:=stNm p s σ
 rw[<-Ma]at Ha;clear hF
 have ee:(s.nm p σ).2=[(s.name,mIs σ1.made s.name)]:=by rw[Ha];simp[hop,Nf.mkS]
 have Fa:(s.nm p σ).1=σ1.mk1 s.name s.pos:=by rw[Ha];simp[hop,Nf.mkS]
 rw[ee,Fa];refine⟨List.replicate 2 .dead++[.row 1 1 1 [clo c0.up (s.name,mIs σ1.made s.name)]],.rsl 0 (L.length+2) 1 1,?_,.inr ⟨2,rfl,rfl⟩⟩;refine ADet.after (S':=(L++[.cells ((stV s).map (AV.mrg L.length)) 57,.cells [clo c0.up (s.name,mIs σ1.made s.name)] 1,.row 1 1 1 [clo c0.up (s.name,mIs σ1.made s.name)]])::updF S0 c0 (σ1.mk1 s.name s.pos)) ⟨zBJ Jc (by exact⟨⟨⟨rfl,rfl,rfl⟩,zS _⟩,trivial⟩),rfl⟩ ?_
 have Ka:=fun L=>zH5 (p:=p) (s:=s.name) (pos:=s.pos) (σ:=σ1) (by have:=va.1;omega) (by have:=va.2.1;omega) h L
 have Ab:∀n b,clo c.up (n,b)= .fn (.func 133) [] [.bx [B b],.bx [.ptr (c.d+1) c.jF 0],.bx [Sg n]]:=fun _ _=>rfl
 have lj:∀n b,clo c0.up (n,b)= .fn (.func 133) [] [.bx [B b],.bx [.ptr c.d c.jF 0],.bx [Sg n]]:=fun n b=>by rw[<-ie,<-cd];rfl
 refine ADet.okA call54 1 10 rfl rfl fun na=>?_
 have ca:=okl na
 refine ADet.merge mixed call54 func54 rfl ?_;simp[ntmps54];refine zH (fun q:Nat=>q<=s.u5.length) (fun q=>([.ptr (c.d+1) c.jF 0,.any,.any,.ptr 0 0 0,nilS,.any,.any,.any,.any,.any,.any,.any,.any,.p (.sl 8 (s.u5.map Ex.enc)),I s.u5.length,I q]++List.replicate 171 .any)) (fun q=>[.cells (stV s) 57]::updF S c (F q)) (fun q=>s.u5.length-q) 0 (Nat.zero_le _) ?_ ?_ ?_
 .simp
 .simp[mb,hs]
 intro q hq
 by_cases hlt:q<s.u5.length
 .have aa:(q:Int)<(s.u5.length:Int):=by omega
  have hw:=zA hlt
  have Qa:=Gb q hlt
  have ra:s.u5.length-(q+1)<s.u5.length-q:=by omega
  have mc:=fun L=>(zH4 p s.u5[q] _ (F q) (xa _ (List.getElem_mem hlt)) (Fb q hlt)).at h L
  rw[<-Qa]at mc
  generalize he:s.u5[q]=e at*
  simp[hlt,aa,he,zy];refine cq (mc _) ?_;simp;exact⟨q+1,hlt,ra,hw,rfl⟩
 have aa:¬(q:Int)<(s.u5.length:Int):=by omega
 have Na:q=s.u5.length:=by omega
 subst Na;rw[Qb];simp[hop];refine cq (Ka _) ?_;simp[Ab];rw[vd];rw[lj];rw[<-ie,<-cd];simp[zBG,AObj.mrg,AV.mrg,AV.mrgs]
 try exact hop
theorem zUY(p:List It)(hp:∀x∈p,x.fields.length<=20000)(s:St)(d:Int)(Mc:s.whole d=true)(i1:∀x∈s.body,StmC p x)(i2:∀x∈s.els,StmC p x)(i3:∀a∈s.arms,∀x∈a.body,StmC p x)(hop:s.op=12):StmC p s:=by
 intro σ hb S0 c0 h0 L Jc
 have xa:=zAj Mc
 obtain⟨c,hc⟩:∃c,c=c0.up:=⟨_,rfl⟩
 obtain⟨S,hS⟩:∃S,S=L::S0:=⟨_,rfl⟩
 have h:NAt p S c σ:=by rw[hc,hS];exact h0.cons L
 have vd:∀τ,updF S c τ=L::updF S0 c0 τ:=fun τ=>by rw[hc,hS];exact zAk L S0 c0 τ
 have ie:c0.d+1=c.d:=by rw[hc];rfl
 have cd:c0.jF=c.jF:=by rw[hc];rfl
 rw[ie,cd,<-hS]
 have hs:=zAQ h
 have df:=stNd s
 obtain⟨F,hF⟩:∃F:Nat->Nf,F=fun q=>σ.add ((s.u5.take q).flatMap (Ex.nm p σ.made)):=⟨_,rfl⟩
 have mb:F 0=σ:=by rw[hF];simp[Nf.add_nil]
 obtain⟨σ1,Ma⟩:∃σ1,σ1=σ.add (s.u5.flatMap (Ex.nm p σ.made)):=⟨_,rfl⟩
 have Qb:F s.u5.length=σ1:=by rw[hF,Ma];simp
 have Gb:∀q (hq:q<s.u5.length),F (q+1)=(F q).add (s.u5[q].nm p (F q).made):=fun q hq=>by
  rw[hF];simp only[List.take_succ_eq_append_getElem hq,List.flatMap_append,Nf.add_add];simp[Nf.add]
 have Fb:∀q (hq:q<s.u5.length),(F q).fl.length+s.u5[q].nd<=4000000000:=fun q hq=>by
  have e1:=zB4 Ex.nd hq
  have e2:=z9 p σ.made (s.u5.take q)
  have:=hb.1
  rw[hF];simp only[Nf.add,List.length_append];omega
 have va:BdN σ1 (s.nd-(s.u5.map Ex.nd).sum):=by
  rw[Ma];exact hb.near (Near.add σ (z9 p σ.made s.u5)) (by omega)
 have nb:σ1.made=σ.made:=by rw[Ma];rfl
 have gf:σ1.count=σ.count:=by rw[Ma];rfl
 have Da:σ1.opn=σ.opn:=by rw[Ma];rfl
 have Ha:=stNm p s σ
 rw[<-Ma]at Ha;clear hF
 obtain⟨σ2,fi⟩:∃σ2,σ2=σ1.add (s.type.nm p s.pos):=⟨_,rfl⟩
 obtain⟨σ3,tn⟩:∃σ3,σ3=σ2.mk1 s.name s.pos:=⟨_,rfl⟩
 have we:BdN σ2 2:=by rw[fi];exact va.near (Near.add σ1 (zEn p s.pos s.type)) (by omega)
 have fm:BdN σ3 1:=by
  have:=(zAy [s.name] s.pos σ2).1
  simp only[Nf.mkS]at this;rw[<-tn]at this;exact we.near this (by simp)
 have ee:(s.nm p σ).2=[(s.name,mIs σ2.made s.name),(s.u4,mIs σ3.made s.u4)]:=by rw[Ha,tn,fi];simp[hop,Nf.mkS]
 have Fa:(s.nm p σ).1=σ3.mk1 s.u4 s.pos:=by rw[Ha,tn,fi];simp[hop,Nf.mkS]
 rw[ee,Fa];refine⟨List.replicate 2 .dead++[.row 1 1 2 [clo c0.up (s.name,mIs σ2.made s.name),clo c0.up (s.u4,mIs σ3.made s.u4)]],.rsl 0 (L.length+2) 2 1,?_,.inr ⟨2,rfl,rfl⟩⟩;refine ADet.after (S':=(L++[.cells ((stV s).map (AV.mrg L.length)) 57,.cells [clo c0.up (s.name,mIs σ2.made s.name),clo c0.up (s.u4,mIs σ3.made s.u4)] 1,.row 1 1 2 [clo c0.up (s.name,mIs σ2.made s.name),clo c0.up (s.u4,mIs σ3.made s.u4)]])::updF S0 c0 (σ3.mk1 s.u4 s.pos)) ⟨zBJ Jc (by exact⟨⟨⟨rfl,rfl,rfl⟩,zS _⟩,trivial⟩),rfl⟩ ?_
 have Fk:∀L:List AObj,ADet Tryz.prog 29 [.ptr (c.k+c.d+1) 3 0,tyV s.type,I s.pos] (L::updF S c σ1) .un (L::updF S c σ2):=fun L=>by
  have:=(zXE p s.pos s.type σ1.fl (by have:=va.1;omega)).inF h L
  rw[fi];exact this
 have Ka:=fun L=>zH5 (p:=p) (s:=s.name) (pos:=s.pos) (σ:=σ2) (by have:=we.1;omega) (by have:=we.2.1;omega) h L
 rw[<-tn]at Ka
 have Wh:=fun L=>zH5 (p:=p) (s:=s.u4) (pos:=s.pos) (σ:=σ3) (by have:=fm.1;omega) (by have:=fm.2.1;omega) h L
 have g1:=(h.updF σ1).n
 simp only[fnO]at g1
 have Ab:∀n b,clo c.up (n,b)= .fn (.func 133) [] [.bx [B b],.bx [.ptr (c.d+1) c.jF 0],.bx [Sg n]]:=fun _ _=>rfl
 have lj:∀n b,clo c0.up (n,b)= .fn (.func 133) [] [.bx [B b],.bx [.ptr c.d c.jF 0],.bx [Sg n]]:=fun n b=>by rw[<-ie,<-cd];rfl
 refine ADet.okA call54 1 10 rfl rfl fun na=>?_
 have ca:=okl na
 refine ADet.merge mixed call54 func54 rfl ?_;simp[ntmps54];refine zH (fun q:Nat=>q<=s.u5.length) (fun q=>([.ptr (c.d+1) c.jF 0,.any,.any,.ptr 0 0 0,nilS,.any,.any,.any,.any,.any,.any,.any,.any,.p (.sl 8 (s.u5.map Ex.enc)),I s.u5.length,I q]++List.replicate 171 .any)) (fun q=>[.cells (stV s) 57]::updF S c (F q)) (fun q=>s.u5.length-q) 0 (Nat.zero_le _) ?_ ?_ ?_
 .simp
 .simp[mb,hs]
 intro q hq
 by_cases hlt:q<s.u5.length
 .have aa:(q:Int)<(s.u5.length:Int):=by omega
  have hw:=zA hlt
  have Qa:=Gb q hlt
  have ra:s.u5.length-(q+1)<s.u5.length-q:=by omega
  have mc:=fun L=>(zH4 p s.u5[q] _ (F q) (xa _ (List.getElem_mem hlt)) (Fb q hlt)).at h L
  rw[<-Qa]at mc
  generalize he:s.u5[q]=e at*
  simp[hlt,aa,he,zy];refine cq (mc _) ?_;simp;exact⟨q+1,hlt,ra,hw,rfl⟩
 have aa:¬(q:Int)<(s.u5.length:Int):=by omega
 have Na:q=s.u5.length:=by omega
 subst Na;rw[Qb];simp[hop];refine dB [] (by kernel_rfl) ?_
 simp[g1];refine cq (Fk _) ?_;simp;refine dB [(9,6),(11,6)] (by kernel_rfl) ?_
 simp;refine cq (Ka _) ?_;simp;refine cq (Wh _) ?_;simp[Ab];rw[vd];rw[lj,lj];rw[<-ie,<-cd];simp[zBG,AObj.mrg,AV.mrg,AV.mrgs]
 try exact hop
theorem zNi(n:Nat)(c:Cf):∀l:List Fg,AV.mrgs n (l.map (clo c.up.up))=l.map (clo c.up)
 | []=>rfl
 |g::l=>by
  rw[List.map_cons,List.map_cons,AV.mrgs,zNi n c l];rfl
abbrev anyI:List AV:=[.any,.any,.any,.any,.any,.any,.any,.any,.any,.any,.any,.any,.any,.any,.any,.any]
theorem zXR(p:List It)(hp:∀x∈p,x.fields.length<=20000)(s:St)(d:Int)(Mc:s.whole d=true)(i1:∀x∈s.body,StmC p x)(i2:∀x∈s.els,StmC p x)(i3:∀a∈s.arms,∀x∈a.body,StmC p x)(hop:s.op=2):StmC p s:=by
 intro σ hb S0 c0 h0 L Jc
 have xa:=zAj Mc
 obtain⟨c,hc⟩:∃c,c=c0.up:=⟨_,rfl⟩
 obtain⟨S,hS⟩:∃S,S=L::S0:=⟨_,rfl⟩
 have h:NAt p S c σ:=by rw[hc,hS];exact h0.cons L
 have vd:∀τ,updF S c τ=L::updF S0 c0 τ:=fun τ=>by rw[hc,hS];exact zAk L S0 c0 τ
 have ie:c0.d+1=c.d:=by rw[hc];rfl
 have cd:c0.jF=c.jF:=by rw[hc];rfl
 rw[ie,cd,<-hS]
 have hs:=zAQ h
 have df:=stNd s
 obtain⟨F,hF⟩:∃F:Nat->Nf,F=fun q=>σ.add ((s.u5.take q).flatMap (Ex.nm p σ.made)):=⟨_,rfl⟩
 have mb:F 0=σ:=by rw[hF];simp[Nf.add_nil]
 obtain⟨σ1,Ma⟩:∃σ1,σ1=σ.add (s.u5.flatMap (Ex.nm p σ.made)):=⟨_,rfl⟩
 have Qb:F s.u5.length=σ1:=by rw[hF,Ma];simp
 have Gb:∀q (hq:q<s.u5.length),F (q+1)=(F q).add (s.u5[q].nm p (F q).made):=fun q hq=>by
  rw[hF];simp only[List.take_succ_eq_append_getElem hq,List.flatMap_append,Nf.add_add];simp[Nf.add]
 have Fb:∀q (hq:q<s.u5.length),(F q).fl.length+s.u5[q].nd<=4000000000:=fun q hq=>by
  have e1:=zB4 Ex.nd hq
  have e2:=z9 p σ.made (s.u5.take q)
  have:=hb.1
  rw[hF];simp only[Nf.add,List.length_append];omega
 have va:BdN σ1 (s.nd-(s.u5.map Ex.nd).sum):=by
  rw[Ma];exact hb.near (Near.add σ (z9 p σ.made s.u5)) (by omega)
 have nb:σ1.made=σ.made:=by rw[Ma];rfl
 have gf:σ1.count=σ.count:=by rw[Ma];rfl
 have Da:σ1.opn=σ.opn:=by rw[Ma];rfl
 have Ha:=stNm p s σ
 rw[<-Ma]at Ha;clear hF
 obtain⟨bb,Qe⟩:∃bb,bb=zKy p s.name s.names.length:=⟨_,rfl⟩
 obtain⟨σ2,fi⟩:∃σ2,σ2=σ1.add (zI bb 60 s.pos):=⟨_,rfl⟩
 have ru:s.names.length<=4000000000:=by
  have:=hb.1
  omega
 have Gd:s.names.length<=maxLen:=by unfold maxLen;omega
 have we:BdN σ2 s.names.length:=by rw[fi];exact va.near (Near.add σ1 (zo bb 60 s.pos)) (by omega)
 obtain⟨G,hG⟩:∃G:Nat->Nf × List Fg,G=fun q=>Nf.mkS (s.names.take q) s.pos σ2:=⟨_,rfl⟩
 have Bg:G 0=(σ2,[]):=by rw[hG];simp[Nf.mkS]
 have qi:G s.names.length=Nf.mkS s.names s.pos σ2:=by rw[hG];simp
 have bj:∀q (hq:q<s.names.length),G (q+1)=((G q).1.mk1 s.names[q] s.pos,(G q).2++[(s.names[q],mIs (G q).1.made s.names[q])]):=fun q hq=>by
  rw[hG];simp only[List.take_succ_eq_append_getElem hq,zJ3];simp[Nf.mkS]
 have ri:∀q,q<s.names.length->BdN (G q).1 1:=fun q hq=>by
  have e2:=(zAy (s.names.take q) s.pos σ2).1
  rw[hG];exact we.near e2 (by simp;omega)
 have sn:(G s.names.length).2.length=s.names.length:=by rw[qi];exact(zAy s.names s.pos σ2).2
 have ee:(s.nm p σ).2=(G s.names.length).2:=by rw[qi,Ha,fi,Qe];simp[hop]
 have Fa:(s.nm p σ).1=(G s.names.length).1:=by rw[qi,Ha,fi,Qe];simp[hop]
 clear hG;rw[ee,Fa];refine⟨List.replicate 2 .dead++[.row 1 1 s.names.length ((G s.names.length).2.map (clo c0.up))],.rsl 0 (L.length+2) s.names.length 1,?_,.inr ⟨2,by rw[sn],by rw[sn]⟩⟩
 refine ADet.after (S':=(L++[.cells ((stV s).map (AV.mrg L.length)) 57,.cells anyI 44,.row 1 1 s.names.length ((G s.names.length).2.map (clo c0.up))])::updF S0 c0 (G s.names.length).1) ⟨zBJ Jc (by exact⟨⟨⟨rfl,rfl,rfl⟩,zS _⟩,trivial⟩),rfl⟩ ?_
 have Ya:=fun b L=>(zD8 p b 60 s.pos σ1.fl (by have:=va.1;omega)).inF h L
 have Aa:∀X,(⟨σ1.made,σ1.count,σ1.opn,σ1.fl++X⟩:Nf)=σ1.add X:=fun X=>rfl
 simp only[Aa]at Ya
 have g1:=(h.updF σ1).n
 simp only[fnO]at g1
 have kd:=fun L=>zI5 p 1 s.name σ1.fl (L::updF S c σ1) _ ((h.updF σ1).k.cons L)
 simp only[Cf.e]at kd;unfold zO1 at kd;unfold zKy zKx at Qe
 have yd:∀(n:Nat) (l:List Fg),AV.mrgs n (l.map (clo c.up))=l.map (clo c0.up):=fun n l=>by
  rw[hc];exact zNi n c0 l
 refine ADet.okA call54 1 10 rfl rfl fun na=>?_
 have ca:=okl na
 refine ADet.merge mixed call54 func54 rfl ?_;simp[ntmps54];refine zH (fun q:Nat=>q<=s.u5.length) (fun q=>([.ptr (c.d+1) c.jF 0,.any,.any,.ptr 0 0 0,nilS,.any,.any,.any,.any,.any,.any,.any,.any,.p (.sl 8 (s.u5.map Ex.enc)),I s.u5.length,I q]++List.replicate 171 .any)) (fun q=>[.cells (stV s) 57]::updF S c (F q)) (fun q=>s.u5.length-q) 0 (Nat.zero_le _) ?_ ?_ ?_
 .simp
 .simp[mb,hs]
 intro q hq
 by_cases hlt:q<s.u5.length
 .have aa:(q:Int)<(s.u5.length:Int):=by omega
  have hw:=zA hlt
  have Qa:=Gb q hlt
  have ra:s.u5.length-(q+1)<s.u5.length-q:=by omega
  have mc:=fun L=>(zH4 p s.u5[q] _ (F q) (xa _ (List.getElem_mem hlt)) (Fb q hlt)).at h L
  rw[<-Qa]at mc
  generalize he:s.u5[q]=e at*
  simp[hlt,aa,he,zy];refine cq (mc _) ?_;simp;exact⟨q+1,hlt,ra,hw,rfl⟩
 have aa:¬(q:Int)<(s.u5.length:Int):=by omega
 have Na:q=s.u5.length:=by omega
 subst Na;rw[Qb];simp[hop];refine zCe [(10,11,8)] [] (by kernel_rfl) (by kernel_rfl) (by kernel_rfl) (by simp) ?_
 cases Pc:zU p s.name with
 |none=>
  rw[Pc]at kd Qe
  have Ff:σ2=σ1.add (zI false 60 s.pos):=by rw[fi,Qe];simp
  simp[g1];refine cq (kd _) ?_;simp[strs];refine dB [] (by kernel_rfl) ?_
  simp[g1];refine cq (Ya false _) ?_;simp[strs];refine zFb 1 1 (by decide) [.cells (stV s) 57,.cells anyI 44] (fun q:Nat=>q<=s.names.length) (fun q=>([.ptr (c.d+1) c.jF 0,.any,.any,.ptr 0 0 0,.any,.any,.any,.rsl 0 2 q 1]++(List.replicate 70 .any++([.p (.sl 1 (s.names.map fun s=>[pS s])),I s.names.length,I q]++List.replicate 106 .any)))) (fun q=>[.cells (stV s) 57,.cells anyI 44,.row 1 1 q ((G q).2.map (clo c.up))]::updF S c (G q).1) (fun q=>s.names.length-q) (fun _=>3) 0 (Nat.zero_le _) ?_ ?_ ?_ ?_ ?_
  .intro q _;simp
  .simp
  .simp
  .simp[Bg,Ff]
  intro q hq
  by_cases hlt:q<s.names.length
  .have aa:(q:Int)<(s.names.length:Int):=by omega
   have hw:=zA hlt Gd
   have ud:=bj q hlt
   have ra:s.names.length-(q+1)<s.names.length-q:=by omega
   have ei:=ri q hlt
   have Ka:=fun L=>zH5 (p:=p) (s:=s.names[q]) (pos:=s.pos) (σ:=(G q).1) (by have:=ei.1;omega) (by have:=ei.2.1;omega) h L
   have ta:q+1<=4294967296:=by omega
   generalize he:s.names[q]=x at*
   have Ab:∀b,clo c.up (x,b)= .fn (.func 133) [] [.bx [B b],.bx [.ptr (c.d+1) c.jF 0],.bx [Sg x]]:=fun _=>rfl
   have e2:AV.cuts 3 ((G q).2.map (clo c.up)++[clo c.up (x,mIs (G q).1.made x)])=(G (q+1)).2.map (clo c.up):=by
    rw[show(G q).2.map (clo c.up)++[clo c.up (x,mIs (G q).1.made x)]=((G q).2++[(x,mIs (G q).1.made x)]).map (clo c.up) by simp,zEv,ud]
   have e3:(G (q+1)).1=(G q).1.mk1 x s.pos:=by rw[ud]
   rw[<-e3]at Ka
   generalize (G q).2.map (clo c.up)=rc at*
   simp[hlt,aa,he];refine cq (Ka _) ?_;simp[ta,Ab];refine⟨q+1,hlt,ra,⟨rfl,hw⟩,⟨rfl,?_⟩,rfl⟩;rw[<-e2,Ab];exact zS _
  have aa:¬(q:Int)<(s.names.length:Int):=by omega
  have Na:q=s.names.length:=by omega
  subst Na;simp;rw[vd];rw[<-hop];simp[zBG,AObj.mrg,AV.mrg,AV.mrgs,yd]
  exact⟨rfl,rfl⟩
 |some x=>
  rw[Pc]at kd Qe;simp only[Option.bind_some]at Qe;simp[g1];refine cq (kd _) ?_;simp[strs];refine dB [] (by kernel_rfl) ?_
  by_cases hk:x.kind=1
  .have Ip:decide (x.kind=1)=true:=decide_eq_true hk
   have br:((x.fields.length:Int)==(s.names.length:Int))=decide (x.fields.length=s.names.length):=by rw[Bool.eq_iff_iff];simp;omega
   have Ff:σ2=σ1.add (zI (decide (x.fields.length=s.names.length)) 60 s.pos):=by rw[fi,Qe,if_pos hk]
   simp[g1,Ip,strs,br];refine cq (Ya (decide (x.fields.length=s.names.length)) _) ?_;simp[strs];refine zFb 1 1 (by decide) [.cells (stV s) 57,.cells anyI 44] (fun q:Nat=>q<=s.names.length) (fun q=>([.ptr (c.d+1) c.jF 0,.any,.any,.ptr 0 0 0,.any,.any,.any,.rsl 0 2 q 1]++(List.replicate 70 .any++([.p (.sl 1 (s.names.map fun s=>[pS s])),I s.names.length,I q]++List.replicate 106 .any)))) (fun q=>[.cells (stV s) 57,.cells anyI 44,.row 1 1 q ((G q).2.map (clo c.up))]::updF S c (G q).1) (fun q=>s.names.length-q) (fun _=>3) 0 (Nat.zero_le _) ?_ ?_ ?_ ?_ ?_
   .intro q _;simp
   .simp
   .simp
   .simp[Bg,Ff]
   intro q hq
   by_cases hlt:q<s.names.length
   .have aa:(q:Int)<(s.names.length:Int):=by omega
    have hw:=zA hlt Gd
    have ud:=bj q hlt
    have ra:s.names.length-(q+1)<s.names.length-q:=by omega
    have ei:=ri q hlt
    have Ka:=fun L=>zH5 (p:=p) (s:=s.names[q]) (pos:=s.pos) (σ:=(G q).1) (by have:=ei.1;omega) (by have:=ei.2.1;omega) h L
    have ta:q+1<=4294967296:=by omega
    generalize he:s.names[q]=x at*
    have Ab:∀b,clo c.up (x,b)= .fn (.func 133) [] [.bx [B b],.bx [.ptr (c.d+1) c.jF 0],.bx [Sg x]]:=fun _=>rfl
    have e2:AV.cuts 3 ((G q).2.map (clo c.up)++[clo c.up (x,mIs (G q).1.made x)])=(G (q+1)).2.map (clo c.up):=by
     rw[show(G q).2.map (clo c.up)++[clo c.up (x,mIs (G q).1.made x)]=((G q).2++[(x,mIs (G q).1.made x)]).map (clo c.up) by simp,zEv,ud]
    have e3:(G (q+1)).1=(G q).1.mk1 x s.pos:=by rw[ud]
    rw[<-e3]at Ka
    generalize (G q).2.map (clo c.up)=rc at*
    simp[hlt,aa,he];refine cq (Ka _) ?_;simp[ta,Ab];refine⟨q+1,hlt,ra,⟨rfl,hw⟩,⟨rfl,?_⟩,rfl⟩;rw[<-e2,Ab];exact zS _
   have aa:¬(q:Int)<(s.names.length:Int):=by omega
   have Na:q=s.names.length:=by omega
   subst Na;simp;rw[vd];rw[<-hop];simp[zBG,AObj.mrg,AV.mrg,AV.mrgs,yd];exact⟨rfl,rfl⟩
  have Ff:σ2=σ1.add (zI false 60 s.pos):=by rw[fi,Qe,if_neg hk]
  simp[g1,hk];refine cq (Ya false _) ?_;simp[strs];refine zFb 1 1 (by decide) [.cells (stV s) 57,.cells anyI 44] (fun q:Nat=>q<=s.names.length) (fun q=>([.ptr (c.d+1) c.jF 0,.any,.any,.ptr 0 0 0,.any,.any,.any,.rsl 0 2 q 1]++(List.replicate 70 .any++([.p (.sl 1 (s.names.map fun s=>[pS s])),I s.names.length,I q]++List.replicate 106 .any)))) (fun q=>[.cells (stV s) 57,.cells anyI 44,.row 1 1 q ((G q).2.map (clo c.up))]::updF S c (G q).1) (fun q=>s.names.length-q) (fun _=>3) 0 (Nat.zero_le _) ?_ ?_ ?_ ?_ ?_
  .intro q _;simp
  .simp
  .simp
  .simp[Bg,Ff]
  intro q hq
  by_cases hlt:q<s.names.length
  .have aa:(q:Int)<(s.names.length:Int):=by omega
   have hw:=zA hlt Gd
   have ud:=bj q hlt
   have ra:s.names.length-(q+1)<s.names.length-q:=by omega
   have ei:=ri q hlt
   have Ka:=fun L=>zH5 (p:=p) (s:=s.names[q]) (pos:=s.pos) (σ:=(G q).1) (by have:=ei.1;omega) (by have:=ei.2.1;omega) h L
   have ta:q+1<=4294967296:=by omega
   generalize he:s.names[q]=x at*
   have Ab:∀b,clo c.up (x,b)= .fn (.func 133) [] [.bx [B b],.bx [.ptr (c.d+1) c.jF 0],.bx [Sg x]]:=fun _=>rfl
   have e2:AV.cuts 3 ((G q).2.map (clo c.up)++[clo c.up (x,mIs (G q).1.made x)])=(G (q+1)).2.map (clo c.up):=by
    rw[show(G q).2.map (clo c.up)++[clo c.up (x,mIs (G q).1.made x)]=((G q).2++[(x,mIs (G q).1.made x)]).map (clo c.up) by simp,zEv,ud]
   have e3:(G (q+1)).1=(G q).1.mk1 x s.pos:=by rw[ud]
   rw[<-e3]at Ka
   generalize (G q).2.map (clo c.up)=rc at*
   simp[hlt,aa,he];refine cq (Ka _) ?_;simp[ta,Ab];refine⟨q+1,hlt,ra,⟨rfl,hw⟩,⟨rfl,?_⟩,rfl⟩;rw[<-e2,Ab];exact zS _
  have aa:¬(q:Int)<(s.names.length:Int):=by omega
  have Na:q=s.names.length:=by omega
  subst Na;simp;rw[vd];rw[<-hop];simp[zBG,AObj.mrg,AV.mrg,AV.mrgs,yd];exact⟨rfl,rfl⟩
end Go.Proofs.YtgpajpilkapciaaGreatDoor
