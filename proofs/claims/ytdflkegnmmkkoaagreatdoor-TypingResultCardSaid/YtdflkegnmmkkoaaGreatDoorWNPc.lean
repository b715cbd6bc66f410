/- A part of the proof. -/
import Derived.Test.YtdflkegnmmkkoaaGreatDoorWNPb
set_option linter.unusedVariables false
set_option linter.unusedSimpArgs false
set_option maxRecDepth 100000
set_option maxHeartbeats 32000000
namespace Go.Proofs.YtdflkegnmmkkoaaGreatDoor
open Go.RowKit _root_.Go.Proofs.Tryz
attribute [local simp] List.replicate List.range List.range.loop List.forall_mem_cons List.contains_cons List.contains_nil List.find?
theorem ADet.toP2{P:Program}{F:FuncId}{as1 as2:List AV}{v:AV}{q:PV}{S S':ASt}{r:AV}(hv:v.toP=some q)(h:ADet P F (as1++ .p q::as2) S r S'):ADet P F (as1++v::as2) S r S':=by
 refine⟨h.1,fun Pr φ xs w da hR hne=>h.2 Pr φ xs w ⟨by rw[<-da.1];simp,fun j c x hc hx=>?_⟩ hR hne⟩
 rcases Nat.lt_trichotomy j as1.length with hj|hj|hj
 .rw[List.getElem?_append_left hj]at hc
  exact da.2 j c x (by rw[List.getElem?_append_left hj];exact hc) hx
 .subst hj
  rw[List.getElem?_append_right (Nat.le_refl _),Nat.sub_self]at hc;cases hc;exact .p ((da.2 as1.length v x (by rw[List.getElem?_append_right (Nat.le_refl _),Nat.sub_self];rfl) hx).toP hv)
 rw[List.getElem?_append_right (by omega),show j-as1.length=(j-as1.length-1)+1 by omega,List.getElem?_cons_succ]at hc
 exact da.2 j c x (by rw[List.getElem?_append_right (by omega),show j-as1.length=(j-as1.length-1)+1 by omega,List.getElem?_cons_succ];exact hc) hx
theorem zaV(p:List It)(hp:∀x∈p,x.fields.length<=20000)(s:St)(pe:∀a∈s.arms,∀x∈a.body,StmC p x)(Fd:s.arms.length<=20000)(σ:Nf)(hb:BdN σ (1+(s.arms.map Ar.nd).sum)):
  FC p 156 [.agg (stV s)] σ (s.arms.foldl (fun σ a=>a.nm p s.pos σ) (σ.add (zI (mIs σ.made s.name&&zEe p s.u2 (s.arms.map armF)) 60 s.pos))):=fun S c h=>by
 have ca:s.arms.length<=maxLen:=by unfold maxLen;omega
 have hs:=zAR h
 obtain⟨bb,We⟩:∃bb,bb=(mIs σ.made s.name&&zEe p s.u2 (s.arms.map armF)):=⟨_,rfl⟩
 rw[<-We]
 obtain⟨F,hF⟩:∃F:Nat->Nf,F=fun q=>(s.arms.take q).foldl (fun σ a=>a.nm p s.pos σ) (σ.add (zI bb 60 s.pos)):=⟨_,rfl⟩
 have Ab:F 0=σ.add (zI bb 60 s.pos):=by rw[hF];simp
 have Yb:F s.arms.length=s.arms.foldl (fun σ a=>a.nm p s.pos σ) (σ.add (zI bb 60 s.pos)):=by rw[hF];simp
 have Ib:∀q (hq:q<s.arms.length),F (q+1)=s.arms[q].nm p s.pos (F q):=fun q hq=>by
  rw[hF];simp only[List.take_succ_eq_append_getElem hq,List.foldl_append,List.foldl_cons,List.foldl_nil]
 have Hb:∀q (hq:q<s.arms.length),BdN (F q) ((oneN s.arms[q].name).length+(s.arms[q].body.map St.nd).sum):=fun q hq=>by
  have e1:=zCB Ar.nd hq
  have key:∀(l:List Ar) (τ:Nf),Near τ (l.map Ar.nd).sum (l.foldl (fun σ a=>a.nm p s.pos σ) τ):=by
   intro l
   induction l with
   |nil=>intro τ;exact Near.refl τ
   |cons a l ih=>
    intro τ
    have h1:=zCP p (l:=a.body) (fun x _ σ=>zCu p x σ) s.pos (oneN a.name) τ
    have h2:=ih (a.nm p s.pos τ)
    have ho:=zJ9 a.name
    have hn:=arNd a
    rw[List.map_cons,List.sum_cons,List.foldl_cons];exact(Near.trans (b:=a.nm p s.pos τ) h1 h2).le (by omega)
  have e2:=(Near.add σ (zq bb 60 s.pos)).trans (key (s.arms.take q) (σ.add (zI bb 60 s.pos)))
  have ho:=zJ9 s.arms[q].name
  have hn:=arNd s.arms[q]
  rw[hF];exact hb.near e2 (by omega)
 clear hF;rw[<-Yb]
 have gc:=fun b L=>(zEL p b 60 s.pos σ.fl (by have:=hb.1;omega)).inF0 h L
 have Ca:∀X,(⟨σ.made,σ.count,σ.opn,σ.fl++X⟩:Nf)=σ.add X:=fun X=>rfl
 simp only[Ca]at gc
 have ho:=h.n
 have hm:=h.m
 simp only[fnO]at ho;simp only[mdO]at hm
 have wd:=fun L=>zJW p 2 s.u2 σ.fl (L::S) _ (h.k.cons L)
 simp only[Cf.e]at wd;unfold zPr at wd;unfold zEe zH5 at We;refine ADet.intro mixed call156 func156 rfl ?_;simp[ntmps156];refine zEV [(10,11,4)] [] (by kernel_rfl) (by kernel_rfl) (by kernel_rfl) (by simp) ?_
 cases Uc:zb p s.u2 with
 |none=>
  rw[Uc]at wd We
  have Pf:bb=false:=by rw[We];simp
  simp[ho];refine cq (wd _) ?_;simp;refine dB [(3,19),(22,19)] (by kernel_rfl) ?_
  rcases zDU s.name σ.made 0 with⟨h1,h2,h3⟩|⟨j,b,h1,h2,h3⟩
  .simp[ho,hm,h2]
   refine cq (gc false _) ?_;simp;refine zH (fun q:Nat=>q<=s.arms.length) (fun q=>([.ptr (c.d+1) c.jF 0,.any,.any,.ptr 0 0 0]++(List.replicate 39 .any++([.p (.sl 3 (s.arms.map Ar.enc)),I s.arms.length,I q]++List.replicate 22 .any)))) (fun q=>[.cells (stV s) 49,.dead]::updF S c (F q)) (fun q=>s.arms.length-q) 0 (Nat.zero_le _) ?_ ?_ ?_
   .simp
   .simp[Ab,Pf]
   intro q hq
   by_cases hlt:q<s.arms.length
   .have aa:(q:Int)<(s.arms.length:Int):=by omega
    have hw:=zA hlt ca
    have Xa:=Ib q hlt
    have Aa:s.arms.length-(q+1)<s.arms.length-q:=by omega
    have db:=fun L=>(zGA p s.arms[q].body (pe _ (List.getElem_mem hlt)) s.pos (oneN s.arms[q].name) (F q) (Hb q hlt)).at h L
    have e1:zAB p s.arms[q].body s.pos (oneN s.arms[q].name) (F q)=F (q+1):=Xa.symm
    rw[e1]at db;clear Xa e1
    generalize he:s.arms[q]=a at*
    cases hs:sEq a.name emS with
    |true=>
     have nc:oneN a.name=[]:=by unfold oneN;rw[hs];rfl
     rw[nc]at db
     have Xd:∀L,ADet Tryz.prog 158 [.ptr (c.d+1) c.jF 0,.p (.sl 15 (a.body.map St.enc)),I s.pos,nilS] (L::updF S c (F q)) .un (L::updF S c (F (q+1))):=fun L=>ADet.sub (by repeat' constructor) (db L)
     simp[hlt,aa,he,hs,Ar.enc];refine cq (Xd _) ?_;simp
     exact⟨q+1,hlt,Aa,hw,rfl⟩
    |false=>
     have nc:oneN a.name=[a.name]:=by unfold oneN;rw[hs];rfl
     rw[nc]at db
     have va:∀L i,ADet Tryz.prog 158 [.ptr (c.d+1) c.jF 0,.p (.sl 15 (a.body.map St.enc)),I s.pos,.osl 1 [[pS a.name]] 0 i] (L::updF S c (F q)) .un (L::updF S c (F (q+1))):=fun L i=>ADet.toP2 (as1:=[.ptr (c.d+1) c.jF 0,.p (.sl 15 (a.body.map St.enc)),I s.pos]) (as2:=[]) (v:=.osl 1 [[pS a.name]] 0 i) rfl (db L)
     simp[hlt,aa,he,hs,Ar.enc];refine cq (va _ _) ?_;simp;exact⟨q+1,hlt,Aa,hw,rfl⟩
   have aa:¬(q:Int)<(s.arms.length:Int):=by omega
   have Ya:q=s.arms.length:=by omega
   subst Ya;simp
  cases b with
  |false=>
   simp[ho,hm,h2];refine cq (gc false _) ?_;simp;refine zH (fun q:Nat=>q<=s.arms.length) (fun q=>([.ptr (c.d+1) c.jF 0,.any,.any,.ptr 0 0 0]++(List.replicate 39 .any++([.p (.sl 3 (s.arms.map Ar.enc)),I s.arms.length,I q]++List.replicate 22 .any)))) (fun q=>[.cells (stV s) 49,.dead]::updF S c (F q)) (fun q=>s.arms.length-q) 0 (Nat.zero_le _) ?_ ?_ ?_
   .simp
   .simp[Ab,Pf]
   intro q hq
   by_cases hlt:q<s.arms.length
   .have aa:(q:Int)<(s.arms.length:Int):=by omega
    have hw:=zA hlt ca
    have Xa:=Ib q hlt
    have Aa:s.arms.length-(q+1)<s.arms.length-q:=by omega
    have db:=fun L=>(zGA p s.arms[q].body (pe _ (List.getElem_mem hlt)) s.pos (oneN s.arms[q].name) (F q) (Hb q hlt)).at h L
    have e1:zAB p s.arms[q].body s.pos (oneN s.arms[q].name) (F q)=F (q+1):=Xa.symm
    rw[e1]at db;clear Xa e1
    generalize he:s.arms[q]=a at*
    cases hs:sEq a.name emS with
    |true=>
     have nc:oneN a.name=[]:=by unfold oneN;rw[hs];rfl
     rw[nc]at db
     have Xd:∀L,ADet Tryz.prog 158 [.ptr (c.d+1) c.jF 0,.p (.sl 15 (a.body.map St.enc)),I s.pos,nilS] (L::updF S c (F q)) .un (L::updF S c (F (q+1))):=fun L=>ADet.sub (by repeat' constructor) (db L)
     simp[hlt,aa,he,hs,Ar.enc];refine cq (Xd _) ?_;simp
     exact⟨q+1,hlt,Aa,hw,rfl⟩
    |false=>
     have nc:oneN a.name=[a.name]:=by unfold oneN;rw[hs];rfl
     rw[nc]at db
     have va:∀L i,ADet Tryz.prog 158 [.ptr (c.d+1) c.jF 0,.p (.sl 15 (a.body.map St.enc)),I s.pos,.osl 1 [[pS a.name]] 0 i] (L::updF S c (F q)) .un (L::updF S c (F (q+1))):=fun L i=>ADet.toP2 (as1:=[.ptr (c.d+1) c.jF 0,.p (.sl 15 (a.body.map St.enc)),I s.pos]) (as2:=[]) (v:=.osl 1 [[pS a.name]] 0 i) rfl (db L)
     simp[hlt,aa,he,hs,Ar.enc];refine cq (va _ _) ?_;simp;exact⟨q+1,hlt,Aa,hw,rfl⟩
   have aa:¬(q:Int)<(s.arms.length:Int):=by omega
   have Ya:q=s.arms.length:=by omega
   subst Ya
   simp
  |true=>
   simp[ho,hm,h2];refine cq (gc false _) ?_;simp;refine zH (fun q:Nat=>q<=s.arms.length) (fun q=>([.ptr (c.d+1) c.jF 0,.any,.any,.ptr 0 0 0]++(List.replicate 39 .any++([.p (.sl 3 (s.arms.map Ar.enc)),I s.arms.length,I q]++List.replicate 22 .any)))) (fun q=>[.cells (stV s) 49,.dead]::updF S c (F q)) (fun q=>s.arms.length-q) 0 (Nat.zero_le _) ?_ ?_ ?_
   .simp
   .simp[Ab,Pf]
   intro q hq
   by_cases hlt:q<s.arms.length
   .have aa:(q:Int)<(s.arms.length:Int):=by omega
    have hw:=zA hlt ca
    have Xa:=Ib q hlt
    have Aa:s.arms.length-(q+1)<s.arms.length-q:=by omega
    have db:=fun L=>(zGA p s.arms[q].body (pe _ (List.getElem_mem hlt)) s.pos (oneN s.arms[q].name) (F q) (Hb q hlt)).at h L
    have e1:zAB p s.arms[q].body s.pos (oneN s.arms[q].name) (F q)=F (q+1):=Xa.symm
    rw[e1]at db;clear Xa e1
    generalize he:s.arms[q]=a at*
    cases hs:sEq a.name emS with
    |true=>
     have nc:oneN a.name=[]:=by unfold oneN;rw[hs];rfl
     rw[nc]at db
     have Xd:∀L,ADet Tryz.prog 158 [.ptr (c.d+1) c.jF 0,.p (.sl 15 (a.body.map St.enc)),I s.pos,nilS] (L::updF S c (F q)) .un (L::updF S c (F (q+1))):=fun L=>ADet.sub (by repeat' constructor) (db L)
     simp[hlt,aa,he,hs,Ar.enc];refine cq (Xd _) ?_;simp
     exact⟨q+1,hlt,Aa,hw,rfl⟩
    |false=>
     have nc:oneN a.name=[a.name]:=by unfold oneN;rw[hs];rfl
     rw[nc]at db
     have va:∀L i,ADet Tryz.prog 158 [.ptr (c.d+1) c.jF 0,.p (.sl 15 (a.body.map St.enc)),I s.pos,.osl 1 [[pS a.name]] 0 i] (L::updF S c (F q)) .un (L::updF S c (F (q+1))):=fun L i=>ADet.toP2 (as1:=[.ptr (c.d+1) c.jF 0,.p (.sl 15 (a.body.map St.enc)),I s.pos]) (as2:=[]) (v:=.osl 1 [[pS a.name]] 0 i) rfl (db L)
     simp[hlt,aa,he,hs,Ar.enc];refine cq (va _ _) ?_;simp;exact⟨q+1,hlt,Aa,hw,rfl⟩
   have aa:¬(q:Int)<(s.arms.length:Int):=by omega
   have Ya:q=s.arms.length:=by omega
   subst Ya
   simp
 |some x=>
  rw[Uc]at wd We
  have Cm:x∈p:=by unfold zb at Uc;exact List.mem_of_find?_eq_some Uc
  have nk:=fun S=>zYB x s.arms Fd (hp x Cm) S
  simp only[Option.bind_some]at We;simp[ho];refine cq (wd _) ?_;simp;refine dB [(3,19),(22,19)] (by kernel_rfl) ?_
  rcases zDU s.name σ.made 0 with⟨h1,h2,h3⟩|⟨j,b,h1,h2,h3⟩
  .have Pf:bb=false:=by rw[We];unfold mIs;rw[h1];rfl
   simp[ho,hm,h2];refine cq (gc false _) ?_;simp;refine zH (fun q:Nat=>q<=s.arms.length) (fun q=>([.ptr (c.d+1) c.jF 0,.any,.any,.ptr 0 0 0]++(List.replicate 39 .any++([.p (.sl 3 (s.arms.map Ar.enc)),I s.arms.length,I q]++List.replicate 22 .any)))) (fun q=>[.cells (stV s) 49,.dead]::updF S c (F q)) (fun q=>s.arms.length-q) 0 (Nat.zero_le _) ?_ ?_ ?_
   .simp
   .simp[Ab,Pf]
   intro q hq
   by_cases hlt:q<s.arms.length
   .have aa:(q:Int)<(s.arms.length:Int):=by omega
    have hw:=zA hlt ca
    have Xa:=Ib q hlt
    have Aa:s.arms.length-(q+1)<s.arms.length-q:=by omega
    have db:=fun L=>(zGA p s.arms[q].body (pe _ (List.getElem_mem hlt)) s.pos (oneN s.arms[q].name) (F q) (Hb q hlt)).at h L
    have e1:zAB p s.arms[q].body s.pos (oneN s.arms[q].name) (F q)=F (q+1):=Xa.symm
    rw[e1]at db;clear Xa e1
    generalize he:s.arms[q]=a at*
    cases hs:sEq a.name emS with
    |true=>
     have nc:oneN a.name=[]:=by unfold oneN;rw[hs];rfl
     rw[nc]at db
     have Xd:∀L,ADet Tryz.prog 158 [.ptr (c.d+1) c.jF 0,.p (.sl 15 (a.body.map St.enc)),I s.pos,nilS] (L::updF S c (F q)) .un (L::updF S c (F (q+1))):=fun L=>ADet.sub (by repeat' constructor) (db L)
     simp[hlt,aa,he,hs,Ar.enc];refine cq (Xd _) ?_;simp
     exact⟨q+1,hlt,Aa,hw,rfl⟩
    |false=>
     have nc:oneN a.name=[a.name]:=by unfold oneN;rw[hs];rfl
     rw[nc]at db
     have va:∀L i,ADet Tryz.prog 158 [.ptr (c.d+1) c.jF 0,.p (.sl 15 (a.body.map St.enc)),I s.pos,.osl 1 [[pS a.name]] 0 i] (L::updF S c (F q)) .un (L::updF S c (F (q+1))):=fun L i=>ADet.toP2 (as1:=[.ptr (c.d+1) c.jF 0,.p (.sl 15 (a.body.map St.enc)),I s.pos]) (as2:=[]) (v:=.osl 1 [[pS a.name]] 0 i) rfl (db L)
     simp[hlt,aa,he,hs,Ar.enc];refine cq (va _ _) ?_;simp;exact⟨q+1,hlt,Aa,hw,rfl⟩
   have aa:¬(q:Int)<(s.arms.length:Int):=by omega
   have Ya:q=s.arms.length:=by omega
   subst Ya;simp
  cases b with
  |false=>
   have Pf:bb=false:=by rw[We];unfold mIs;rw[h1];rfl
   simp[ho,hm,h2];refine cq (gc false _) ?_;simp;refine zH (fun q:Nat=>q<=s.arms.length) (fun q=>([.ptr (c.d+1) c.jF 0,.any,.any,.ptr 0 0 0]++(List.replicate 39 .any++([.p (.sl 3 (s.arms.map Ar.enc)),I s.arms.length,I q]++List.replicate 22 .any)))) (fun q=>[.cells (stV s) 49,.dead]::updF S c (F q)) (fun q=>s.arms.length-q) 0 (Nat.zero_le _) ?_ ?_ ?_
   .simp
   .simp[Ab,Pf]
   intro q hq
   by_cases hlt:q<s.arms.length
   .have aa:(q:Int)<(s.arms.length:Int):=by omega
    have hw:=zA hlt ca
    have Xa:=Ib q hlt
    have Aa:s.arms.length-(q+1)<s.arms.length-q:=by omega
    have db:=fun L=>(zGA p s.arms[q].body (pe _ (List.getElem_mem hlt)) s.pos (oneN s.arms[q].name) (F q) (Hb q hlt)).at h L
    have e1:zAB p s.arms[q].body s.pos (oneN s.arms[q].name) (F q)=F (q+1):=Xa.symm
    rw[e1]at db;clear Xa e1
    generalize he:s.arms[q]=a at*
    cases hs:sEq a.name emS with
    |true=>
     have nc:oneN a.name=[]:=by unfold oneN;rw[hs];rfl
     rw[nc]at db
     have Xd:∀L,ADet Tryz.prog 158 [.ptr (c.d+1) c.jF 0,.p (.sl 15 (a.body.map St.enc)),I s.pos,nilS] (L::updF S c (F q)) .un (L::updF S c (F (q+1))):=fun L=>ADet.sub (by repeat' constructor) (db L)
     simp[hlt,aa,he,hs,Ar.enc];refine cq (Xd _) ?_;simp
     exact⟨q+1,hlt,Aa,hw,rfl⟩
    |false=>
     have nc:oneN a.name=[a.name]:=by unfold oneN;rw[hs];rfl
     rw[nc]at db
     have va:∀L i,ADet Tryz.prog 158 [.ptr (c.d+1) c.jF 0,.p (.sl 15 (a.body.map St.enc)),I s.pos,.osl 1 [[pS a.name]] 0 i] (L::updF S c (F q)) .un (L::updF S c (F (q+1))):=fun L i=>ADet.toP2 (as1:=[.ptr (c.d+1) c.jF 0,.p (.sl 15 (a.body.map St.enc)),I s.pos]) (as2:=[]) (v:=.osl 1 [[pS a.name]] 0 i) rfl (db L)
     simp[hlt,aa,he,hs,Ar.enc];refine cq (va _ _) ?_;simp;exact⟨q+1,hlt,Aa,hw,rfl⟩
   have aa:¬(q:Int)<(s.arms.length:Int):=by omega
   have Ya:q=s.arms.length:=by omega
   subst Ya
   simp
  |true=>
   by_cases hk:x.kind=2
   .have Pf:bb=zFX x (s.arms.map armF):=by rw[We,if_pos hk];unfold mIs;rw[h1];rfl
    have Cp:decide (x.kind=2)=true:=decide_eq_true hk
    simp[ho,hm,h2,Cp];refine cq (nk _) ?_;simp;refine cq (gc _ _) ?_;simp;refine zH (fun q:Nat=>q<=s.arms.length) (fun q=>([.ptr (c.d+1) c.jF 0,.any,.any,.ptr 0 0 0]++(List.replicate 39 .any++([.p (.sl 3 (s.arms.map Ar.enc)),I s.arms.length,I q]++List.replicate 22 .any)))) (fun q=>[.cells (stV s) 49,.dead]::updF S c (F q)) (fun q=>s.arms.length-q) 0 (Nat.zero_le _) ?_ ?_ ?_
    .simp
    .simp[Ab,Pf]
    intro q hq
    by_cases hlt:q<s.arms.length
    .have aa:(q:Int)<(s.arms.length:Int):=by omega
     have hw:=zA hlt ca
     have Xa:=Ib q hlt
     have Aa:s.arms.length-(q+1)<s.arms.length-q:=by omega
     have db:=fun L=>(zGA p s.arms[q].body (pe _ (List.getElem_mem hlt)) s.pos (oneN s.arms[q].name) (F q) (Hb q hlt)).at h L
     have e1:zAB p s.arms[q].body s.pos (oneN s.arms[q].name) (F q)=F (q+1):=Xa.symm
     rw[e1]at db;clear Xa e1
     generalize he:s.arms[q]=a at*
     cases hs:sEq a.name emS with
     |true=>
      have nc:oneN a.name=[]:=by unfold oneN;rw[hs];rfl
      rw[nc]at db
      have Xd:∀L,ADet Tryz.prog 158 [.ptr (c.d+1) c.jF 0,.p (.sl 15 (a.body.map St.enc)),I s.pos,nilS] (L::updF S c (F q)) .un (L::updF S c (F (q+1))):=fun L=>ADet.sub (by repeat' constructor) (db L)
      simp[hlt,aa,he,hs,Ar.enc];refine cq (Xd _) ?_;simp
      exact⟨q+1,hlt,Aa,hw,rfl⟩
     |false=>
      have nc:oneN a.name=[a.name]:=by unfold oneN;rw[hs];rfl
      rw[nc]at db
      have va:∀L i,ADet Tryz.prog 158 [.ptr (c.d+1) c.jF 0,.p (.sl 15 (a.body.map St.enc)),I s.pos,.osl 1 [[pS a.name]] 0 i] (L::updF S c (F q)) .un (L::updF S c (F (q+1))):=fun L i=>ADet.toP2 (as1:=[.ptr (c.d+1) c.jF 0,.p (.sl 15 (a.body.map St.enc)),I s.pos]) (as2:=[]) (v:=.osl 1 [[pS a.name]] 0 i) rfl (db L)
      simp[hlt,aa,he,hs,Ar.enc];refine cq (va _ _) ?_;simp;exact⟨q+1,hlt,Aa,hw,rfl⟩
    have aa:¬(q:Int)<(s.arms.length:Int):=by omega
    have Ya:q=s.arms.length:=by omega
    subst Ya;simp
   have Pf:bb=false:=by rw[We,if_neg hk];simp
   simp[ho,hm,h2,hk];refine cq (gc false _) ?_;simp;refine zH (fun q:Nat=>q<=s.arms.length) (fun q=>([.ptr (c.d+1) c.jF 0,.any,.any,.ptr 0 0 0]++(List.replicate 39 .any++([.p (.sl 3 (s.arms.map Ar.enc)),I s.arms.length,I q]++List.replicate 22 .any)))) (fun q=>[.cells (stV s) 49,.dead]::updF S c (F q)) (fun q=>s.arms.length-q) 0 (Nat.zero_le _) ?_ ?_ ?_
   .simp
   .simp[Ab,Pf]
   intro q hq
   by_cases hlt:q<s.arms.length
   .have aa:(q:Int)<(s.arms.length:Int):=by omega
    have hw:=zA hlt ca
    have Xa:=Ib q hlt
    have Aa:s.arms.length-(q+1)<s.arms.length-q:=by omega
    have db:=fun L=>(zGA p s.arms[q].body (pe _ (List.getElem_mem hlt)) s.pos (oneN s.arms[q].name) (F q) (Hb q hlt)).at h L
    have e1:zAB p s.arms[q].body s.pos (oneN s.arms[q].name) (F q)=F (q+1):=Xa.symm
    rw[e1]at db;clear Xa e1
    generalize he:s.arms[q]=a at*
    cases hs:sEq a.name emS with
    |true=>
     have nc:oneN a.name=[]:=by unfold oneN;rw[hs];rfl
     rw[nc]at db
     have Xd:∀L,ADet Tryz.prog 158 [.ptr (c.d+1) c.jF 0,.p (.sl 15 (a.body.map St.enc)),I s.pos,nilS] (L::updF S c (F q)) .un (L::updF S c (F (q+1))):=fun L=>ADet.sub (by repeat' constructor) (db L)
     simp[hlt,aa,he,hs,Ar.enc];refine cq (Xd _) ?_;simp
     exact⟨q+1,hlt,Aa,hw,rfl⟩
    |false=>
     have nc:oneN a.name=[a.name]:=by unfold oneN;rw[hs];rfl
     rw[nc]at db
     have va:∀L i,ADet Tryz.prog 158 [.ptr (c.d+1) c.jF 0,.p (.sl 15 (a.body.map St.enc)),I s.pos,.osl 1 [[pS a.name]] 0 i] (L::updF S c (F q)) .un (L::updF S c (F (q+1))):=fun L i=>ADet.toP2 (as1:=[.ptr (c.d+1) c.jF 0,.p (.sl 15 (a.body.map St.enc)),I s.pos]) (as2:=[]) (v:=.osl 1 [[pS a.name]] 0 i) rfl (db L)
     simp[hlt,aa,he,hs,Ar.enc];refine cq (va _ _) ?_;simp;exact⟨q+1,hlt,Aa,hw,rfl⟩
   have aa:¬(q:Int)<(s.arms.length:Int):=by omega
   have Ya:q=s.arms.length:=by omega
   subst Ya;simp
theorem zSf{p:List It}{S:ASt}{c:Cf}{σ:Nf}(h:NAt p S c σ)(s:St)(g:Nf):NAt p ([.cells (stV s) 49,mdO g.made,fnO ⟨0,c.k+c.d+1,2,1⟩ g]::updK S (c.k+c.d) g.fl) ⟨0,c.k+c.d+1,2,1⟩ g:=by
 have hk:=h.k
 refine⟨⟨(hk.updK g.fl).t,(hk.updK g.fl).f,(hk.updK g.fl).l,(hk.updK g.fl).r⟩,rfl,rfl,fun e=>by simp at e,fun e=>by simp at e,by simp⟩
theorem zOL{p:List It}{S:ASt}{c:Cf}{σ:Nf}(h:NAt p S c σ)(s:St)(g g':Nf):updF ([.cells (stV s) 49,mdO g.made,fnO ⟨0,c.k+c.d+1,2,1⟩ g]::updK S (c.k+c.d) g.fl) ⟨0,c.k+c.d+1,2,1⟩ g'=[.cells (stV s) 49,mdO g'.made,fnO ⟨0,c.k+c.d+1,2,1⟩ g']::updK S (c.k+c.d) g'.fl:=by
 have e:=zF5 [.cells (stV s) 49,mdO g.made,fnO ⟨0,c.k+c.d+1,2,1⟩ g] (updK S (c.k+c.d) g.fl) (c.k+c.d) g'.fl
 rw[zLl (e:=c.k+c.d) h.k]at e
 show set2 (set2 (updK ([.cells (stV s) 49,mdO g.made,fnO ⟨0,c.k+c.d+1,2,1⟩ g]::updK S (c.k+c.d) g.fl) (c.k+c.d+1) g'.fl) 0 1 (mdO g'.made)) 0 2 (fnO ⟨0,c.k+c.d+1,2,1⟩ g')=_
 rw[e,zFp,zFp];rfl
theorem zaW(p:List It)(s:St)(Jm:∀x∈s.body,StmC p x)(σ:Nf)(hb:BdN σ (2+(s.names.length+(s.body.map St.nd).sum))):
  FC p 157 [.agg (stV s)] σ ⟨σ.made,σ.count,σ.opn,(zCa p s.body s.pos s.names (σ.fl++zI (decide (0<σ.opn)) 61 s.pos)).fl++zI (decide ((zCa p s.body s.pos s.names (σ.fl++zI (decide (0<σ.opn)) 61 s.pos)).count<=60)) 4 s.pos⟩:=fun S c h=>by
 refine ADet.okA call157 1 3 rfl rfl fun na=>?_
 have ca:s.names.length<=maxLen:=okl na
 have hs:=zAR h
 have ho:=h.n
 simp only[fnO]at ho
 obtain⟨g0,Ik⟩:∃g0:Nf,g0=⟨[],0,0,σ.fl++zI (decide (0<σ.opn)) 61 s.pos⟩:=⟨_,rfl⟩
 obtain⟨F,hF⟩:∃F:Nat->Nf,F=fun q=>(Nf.mkS (s.names.take q) s.pos g0).1:=⟨_,rfl⟩
 have Ab:F 0=g0:=by rw[hF];simp[Nf.mkS]
 have Yb:F s.names.length=(Nf.mkS s.names s.pos g0).1:=by rw[hF];simp
 have Ib:∀q (hq:q<s.names.length),F (q+1)=(F q).mk1 s.names[q] s.pos:=fun q hq=>by
  rw[hF];simp only[List.take_succ_eq_append_getElem hq,zKX];simp[Nf.mkS]
 have Xf:BdN g0 (1+(s.names.length+(s.body.map St.nd).sum)):=by
  obtain⟨b1,b2,b3⟩:=hb
  have:=zq (decide (0<σ.opn)) 61 s.pos
  rw[Ik];exact⟨by simp only[List.length_append];omega,by simp only;omega,by simp only;omega⟩
 have Hb:∀q,q<s.names.length->BdN (F q) 1:=fun q hq=>by
  have e2:=(zBC (s.names.take q) s.pos g0).1
  rw[hF];exact Xf.near e2 (by simp;omega)
 have bg:BdN (F s.names.length) (s.body.map St.nd).sum:=by
  rw[Yb];exact Xf.near (zBC s.names s.pos g0).1 (by omega)
 obtain⟨G,hG⟩:∃G,G=Nf.undo (St.nms p s.body (F s.names.length)).2 (St.nms p s.body (F s.names.length)).1:=⟨_,rfl⟩
 have Kn:G.fl.length+1<=4294967296:=by
  have e1:=(zCD p (l:=s.body) (fun x _ σ=>zCu p x σ) (F s.names.length)).1
  have e2:=e1.trans (zEf (St.nms p s.body (F s.names.length)).2 (St.nms p s.body (F s.names.length)).1)
  rw[<-hG]at e2
  have:=bg.1
  have:=e2.2.1
  omega
 have tg:zCa p s.body s.pos s.names (σ.fl++zI (decide (0<σ.opn)) 61 s.pos)=G:=by rw[hG,Yb,Ik];rfl
 rw[tg]
 have hE:∀S:ASt,ADet Tryz.prog 192 [] S .un S:=fun S=>by
  refine ADet.intro mixed call192 func192 rfl ?_;simp[ntmps192]
 have Je:=fun b L=>(zEL p b 61 s.pos σ.fl (by have:=hb.1;omega)).inF0 h L
 have e0:updF S c ⟨σ.made,σ.count,σ.opn,σ.fl++zI (decide (0<σ.opn)) 61 s.pos⟩=updK S (c.k+c.d) g0.fl:=by rw[<-zIL h,Ik];rfl
 have e1:updF S c ⟨σ.made,σ.count,σ.opn,G.fl++zI (decide (G.count<=60)) 4 s.pos⟩=updK S (c.k+c.d) (G.fl++zI (decide (G.count<=60)) 4 s.pos):=by rw[<-zIL h];rfl
 rw[e1]
 have Ca:=zSe p s.body Jm (F s.names.length) bg 192 [] (St.nms p s.body (F s.names.length)).1 _ ⟨0,c.k+c.d+1,2,1⟩ (zSf h s (F s.names.length)) (fun L=>hE _)
 rw[<-hG,zOL h]at Ca
 have Ha:∀q (hq:q<s.names.length),ADet Tryz.prog 153 [.ptr 0 2 0,Sg s.names[q],I s.pos] ([.cells (stV s) 49,mdO (F q).made,fnO ⟨0,c.k+c.d+1,2,1⟩ (F q)]::updK S (c.k+c.d) (F q).fl) (clo ⟨0,c.k+c.d+1,2,1⟩ (s.names[q],mIs (F q).made s.names[q])) ([.cells (stV s) 49,mdO (F (q+1)).made,fnO ⟨0,c.k+c.d+1,2,1⟩ (F (q+1))]::updK S (c.k+c.d) (F (q+1)).fl):=fun q hq=>by
  have va:=Hb q hq
  have:=zaU p s.names[q] s.pos (F q) (by have:=va.1;omega) (by have:=va.2.1;omega) _ ⟨0,c.k+c.d+1,2,1⟩ (zSf h s (F q))
  rw[zOL h,<-Ib q hq]at this;exact this
 have ve:∀L:List AObj,ADet Tryz.prog 60 [.ptr (c.k+c.d+1) 3 0,B (decide (G.count<=60)),I 4,I s.pos] (L::updK S (c.k+c.d) G.fl) .un (L::updK S (c.k+c.d) (G.fl++zI (decide (G.count<=60)) 4 s.pos)):=fun L=>(zEL p _ 4 s.pos G.fl Kn).at h.k L
 refine ADet.intro mixed call157 func157 rfl ?_;simp[ntmps157];refine dB [] (by kernel_rfl) ?_
 have hA:=h.updF ⟨σ.made,σ.count,σ.opn,σ.fl++zI (decide (0<σ.opn)) 61 s.pos⟩
 rw[e0]at hA
 have Br:=hA.n
 simp only[fnO]at Br
 have Dp:∀L:List AObj,ADet Tryz.prog 60 [.ptr (c.k+c.d+1) 3 0,B (decide (0<σ.opn)),I 61,I s.pos] (L::S) .un (L::updK S (c.k+c.d) g0.fl):=fun L=>by
  have:=Je (decide (0<σ.opn)) L
  rw[e0]at this;exact this
 simp[ho];refine cq (Dp _) ?_;simp[Br];refine cq (zLp _ [.cells (stV s) 49] (c.k+c.d+1)) ?_;simp;refine zH (fun q:Nat=>q<=s.names.length) (fun q=>([.ptr (c.d+1) c.jF 0,.any,.any,.ptr 0 0 0,.ptr 0 2 0]++(List.replicate 20 .any++([.p (.sl 1 (s.names.map fun s=>[pS s])),I s.names.length,I q]++List.replicate 25 .any)))) (fun q=>[.cells (stV s) 49,mdO (F q).made,fnO ⟨0,c.k+c.d+1,2,1⟩ (F q)]::updK S (c.k+c.d) (F q).fl) (fun q=>s.names.length-q) 0 (Nat.zero_le _) ?_ ?_ ?_
 .simp[strs]
 .simp[Ab]
  rw[Ik];exact⟨rfl,⟨rfl,za _⟩,trivial⟩
 intro q hq
 by_cases hlt:q<s.names.length
 .have aa:(q:Int)<(s.names.length:Int):=by omega
  have hw:=zA hlt
  have Aa:s.names.length-(q+1)<s.names.length-q:=by omega
  have Zt:=Ha q hlt
  have au:∀n (τ:Nf),AObj.cut n (mdO τ.made)=mdO τ.made:=fun n τ=>by unfold mdO mdE AObj.cut;simp[AV.cut,AV.cuts]
  generalize he:s.names[q]=x at*
  simp[hlt,aa,he];refine cq Zt ?_;simp;refine⟨q+1,hlt,Aa,hw,?_,rfl⟩
  show wkL [AObj.cut 3 (mdO (F (q+1)).made),AObj.cut 3 (fnO ⟨0,c.k+c.d+1,2,1⟩ (F (q+1)))] _
  rw[au];exact⟨rfl,⟨rfl,za _⟩,trivial⟩
 have aa:¬(q:Int)<(s.names.length:Int):=by omega
 have Ya:q=s.names.length:=by omega
 subst Ya;simp;refine cq Ca ?_;simp;refine dB [] (by kernel_rfl) ?_
 have bu:get2 (updK S (c.k+c.d) G.fl) c.d c.jF=some (.cells [.ptr c.k 3 0,.mp 0 c.jM,I σ.count,I σ.opn] 109):=by
  have:=(h.updF ⟨σ.made,σ.count,σ.opn,G.fl⟩).n
  rw[<-zIL h]at this;exact this
 simp[bu,fnO]
 have Tk:decide ((G.count:Int)<=60)=decide (G.count<=60):=decide_eq_decide.2 (by omega)
 rw[Tk];refine cq (ve _) ?_;simp
end Go.Proofs.YtdflkegnmmkkoaaGreatDoor
