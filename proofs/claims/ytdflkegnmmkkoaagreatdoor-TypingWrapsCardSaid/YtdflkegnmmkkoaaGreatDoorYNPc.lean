/- A part of the proof. -/
import Derived.Test.YtdflkegnmmkkoaaGreatDoorYNPb
set_option linter.unusedVariables false
set_option linter.unusedSimpArgs false
set_option maxRecDepth 100000
set_option maxHeartbeats 32000000
namespace Go.Proofs.YtdflkegnmmkkoaaGreatDoor
open Go.RowKit _root_.Go.Proofs.Tryz
attribute [local simp] List.replicate List.range List.range.loop List.forall_mem_cons List.contains_cons List.contains_nil List.find?
theorem ADet.toP2{P:Program}{F:FuncId}{as1 as2:List AV}{v:AV}{q:PV}{S S':ASt}{r:AV}(hv:v.toP=some q)(h:ADet P F (as1++ .p q::as2) S r S'):ADet P F (as1++v::as2) S r S':=by
 refine⟨h.1,fun Pr φ xs w da hR hne=>h.2 Pr φ xs w ⟨by rw[<-da.1];simp,fun j c x hc hx=>?_⟩ hR hne⟩
 rcases Nat.lt_trichotomy j as1.length with hj|hj|hj
 .rw[List.getElem?_append_left hj]at hc
  exact da.2 j c x (by rw[List.getElem?_append_left hj];exact hc) hx
 .subst hj
  rw[List.getElem?_append_right (Nat.le_refl _),Nat.sub_self]at hc;cases hc;exact .p ((da.2 as1.length v x (by rw[List.getElem?_append_right (Nat.le_refl _),Nat.sub_self];rfl) hx).toP hv)
 rw[List.getElem?_append_right (by omega),show j-as1.length=(j-as1.length-1)+1 by omega,List.getElem?_cons_succ]at hc
 exact da.2 j c x (by rw[List.getElem?_append_right (by omega),show j-as1.length=(j-as1.length-1)+1 by omega,List.getElem?_cons_succ];exact hc) hx
theorem zaD(p:List It)(hp:∀x∈p,x.fields.length<=20000)(s:St)(re:∀a∈s.arms,∀x∈a.body,StmC p x)(Ed:s.arms.length<=20000)(σ:Nf)(hb:BdN σ (1+(s.arms.map Ar.nd).sum)):
  FC p 156 [.agg (stV s)] σ (s.arms.foldl (fun σ a=>a.nm p s.pos σ) (σ.add (zJ (mIs σ.made s.name&&zG9 p s.u2 (s.arms.map armF)) 60 s.pos))):=fun S c h=>by
 have ca:s.arms.length<=maxLen:=by unfold maxLen;omega
 have hs:=zAU h
 obtain⟨bb,Ye⟩:∃bb,bb=(mIs σ.made s.name&&zG9 p s.u2 (s.arms.map armF)):=⟨_,rfl⟩
 rw[<-Ye]
 obtain⟨F,hF⟩:∃F:Nat->Nf,F=fun q=>(s.arms.take q).foldl (fun σ a=>a.nm p s.pos σ) (σ.add (zJ bb 60 s.pos)):=⟨_,rfl⟩
 have yb:F 0=σ.add (zJ bb 60 s.pos):=by rw[hF];simp
 have Zb:F s.arms.length=s.arms.foldl (fun σ a=>a.nm p s.pos σ) (σ.add (zJ bb 60 s.pos)):=by rw[hF];simp
 have Jb:∀q (hq:q<s.arms.length),F (q+1)=s.arms[q].nm p s.pos (F q):=fun q hq=>by
  rw[hF];simp only[List.take_succ_eq_append_getElem hq,List.foldl_append,List.foldl_cons,List.foldl_nil]
 have Ib:∀q (hq:q<s.arms.length),BdN (F q) ((oneN s.arms[q].name).length+(s.arms[q].body.map St.nd).sum):=fun q hq=>by
  have e1:=zCA Ar.nd hq
  have key:∀(l:List Ar) (τ:Nf),Near τ (l.map Ar.nd).sum (l.foldl (fun σ a=>a.nm p s.pos σ) τ):=by
   intro l
   induction l with
   |nil=>intro τ;exact Near.refl τ
   |cons a l ih=>
    intro τ
    have h1:=zCO p (l:=a.body) (fun x _ σ=>zDN p x σ) s.pos (oneN a.name) τ
    have h2:=ih (a.nm p s.pos τ)
    have ho:=zKK a.name
    have hn:=arNd a
    rw[List.map_cons,List.sum_cons,List.foldl_cons];exact(Near.trans (b:=a.nm p s.pos τ) h1 h2).le (by omega)
  have e2:=(Near.add σ (zu bb 60 s.pos)).trans (key (s.arms.take q) (σ.add (zJ bb 60 s.pos)))
  have ho:=zKK s.arms[q].name
  have hn:=arNd s.arms[q]
  rw[hF];exact hb.near e2 (by omega)
 clear hF;rw[<-Zb]
 have nc:=fun b L=>(zEX p b 60 s.pos σ.fl (by have:=hb.1;omega)).inF0 h L
 have Ba:∀X,(⟨σ.made,σ.count,σ.opn,σ.fl++X⟩:Nf)=σ.add X:=fun X=>rfl
 simp only[Ba]at nc
 have ho:=h.n
 have hm:=h.m
 simp only[fnO]at ho;simp only[mdO]at hm
 have yd:=fun L=>zJl p 2 s.u2 σ.fl (L::S) _ (h.k.cons L)
 simp only[Cf.e]at yd;unfold zPl at yd;unfold zG9 zLb at Ye;refine ADet.intro mixed call156 func156 rfl ?_;simp[ntmps156];refine zAs [(10,11,4)] [] (by kernel_rfl) (by kernel_rfl) (by kernel_rfl) (by simp) ?_
 cases Vc:zg p s.u2 with
 |none=>
  rw[Vc]at yd Ye
  have Lf:bb=false:=by rw[Ye];simp
  simp[ho];refine cq (yd _) ?_;simp;refine dB [(3,19),(22,19)] (by kernel_rfl) ?_
  rcases zDe s.name σ.made 0 with⟨h1,h2,h3⟩|⟨j,b,h1,h2,h3⟩
  .simp[ho,hm,h2]
   refine cq (nc false _) ?_;simp;refine zF (fun q:Nat=>q<=s.arms.length) (fun q=>([.ptr (c.d+1) c.jF 0,.any,.any,.ptr 0 0 0]++(List.replicate 39 .any++([.p (.sl 3 (s.arms.map Ar.enc)),I s.arms.length,I q]++List.replicate 22 .any)))) (fun q=>[.cells (stV s) 49,.dead]::updF S c (F q)) (fun q=>s.arms.length-q) 0 (Nat.zero_le _) ?_ ?_ ?_
   .simp
   .simp[yb,Lf]
   intro q hq
   by_cases hlt:q<s.arms.length
   .have aa:(q:Int)<(s.arms.length:Int):=by omega
    have hw:=zB hlt ca
    have Wa:=Jb q hlt
    have Ea:s.arms.length-(q+1)<s.arms.length-q:=by omega
    have db:=fun L=>(zGP p s.arms[q].body (re _ (List.getElem_mem hlt)) s.pos (oneN s.arms[q].name) (F q) (Ib q hlt)).at h L
    have e1:zAZ p s.arms[q].body s.pos (oneN s.arms[q].name) (F q)=F (q+1):=Wa.symm
    rw[e1]at db;clear Wa e1
    generalize he:s.arms[q]=a at*
    cases hs:sEq a.name emS with
    |true=>
     have mc:oneN a.name=[]:=by unfold oneN;rw[hs];rfl
     rw[mc]at db
     have be:∀L,ADet Tryz.prog 158 [.ptr (c.d+1) c.jF 0,.p (.sl 15 (a.body.map St.enc)),I s.pos,nilS] (L::updF S c (F q)) .un (L::updF S c (F (q+1))):=fun L=>ADet.sub (by repeat' constructor) (db L)
     simp[hlt,aa,he,hs,Ar.enc];refine cq (be _) ?_;simp
     exact⟨q+1,hlt,Ea,hw,rfl⟩
    |false=>
     have mc:oneN a.name=[a.name]:=by unfold oneN;rw[hs];rfl
     rw[mc]at db
     have va:∀L i,ADet Tryz.prog 158 [.ptr (c.d+1) c.jF 0,.p (.sl 15 (a.body.map St.enc)),I s.pos,.osl 1 [[pS a.name]] 0 i] (L::updF S c (F q)) .un (L::updF S c (F (q+1))):=fun L i=>ADet.toP2 (as1:=[.ptr (c.d+1) c.jF 0,.p (.sl 15 (a.body.map St.enc)),I s.pos]) (as2:=[]) (v:=.osl 1 [[pS a.name]] 0 i) rfl (db L)
     simp[hlt,aa,he,hs,Ar.enc];refine cq (va _ _) ?_;simp;exact⟨q+1,hlt,Ea,hw,rfl⟩
   have aa:¬(q:Int)<(s.arms.length:Int):=by omega
   have Oa:q=s.arms.length:=by omega
   subst Oa;simp
  cases b with
  |false=>
   simp[ho,hm,h2];refine cq (nc false _) ?_;simp;refine zF (fun q:Nat=>q<=s.arms.length) (fun q=>([.ptr (c.d+1) c.jF 0,.any,.any,.ptr 0 0 0]++(List.replicate 39 .any++([.p (.sl 3 (s.arms.map Ar.enc)),I s.arms.length,I q]++List.replicate 22 .any)))) (fun q=>[.cells (stV s) 49,.dead]::updF S c (F q)) (fun q=>s.arms.length-q) 0 (Nat.zero_le _) ?_ ?_ ?_
   .simp
   .simp[yb,Lf]
   intro q hq
   by_cases hlt:q<s.arms.length
   .have aa:(q:Int)<(s.arms.length:Int):=by omega
    have hw:=zB hlt ca
    have Wa:=Jb q hlt
    have Ea:s.arms.length-(q+1)<s.arms.length-q:=by omega
    have db:=fun L=>(zGP p s.arms[q].body (re _ (List.getElem_mem hlt)) s.pos (oneN s.arms[q].name) (F q) (Ib q hlt)).at h L
    have e1:zAZ p s.arms[q].body s.pos (oneN s.arms[q].name) (F q)=F (q+1):=Wa.symm
    rw[e1]at db;clear Wa e1
    generalize he:s.arms[q]=a at*
    cases hs:sEq a.name emS with
    |true=>
     have mc:oneN a.name=[]:=by unfold oneN;rw[hs];rfl
     rw[mc]at db
     have be:∀L,ADet Tryz.prog 158 [.ptr (c.d+1) c.jF 0,.p (.sl 15 (a.body.map St.enc)),I s.pos,nilS] (L::updF S c (F q)) .un (L::updF S c (F (q+1))):=fun L=>ADet.sub (by repeat' constructor) (db L)
     simp[hlt,aa,he,hs,Ar.enc];refine cq (be _) ?_;simp
     exact⟨q+1,hlt,Ea,hw,rfl⟩
    |false=>
     have mc:oneN a.name=[a.name]:=by unfold oneN;rw[hs];rfl
     rw[mc]at db
     have va:∀L i,ADet Tryz.prog 158 [.ptr (c.d+1) c.jF 0,.p (.sl 15 (a.body.map St.enc)),I s.pos,.osl 1 [[pS a.name]] 0 i] (L::updF S c (F q)) .un (L::updF S c (F (q+1))):=fun L i=>ADet.toP2 (as1:=[.ptr (c.d+1) c.jF 0,.p (.sl 15 (a.body.map St.enc)),I s.pos]) (as2:=[]) (v:=.osl 1 [[pS a.name]] 0 i) rfl (db L)
     simp[hlt,aa,he,hs,Ar.enc];refine cq (va _ _) ?_;simp;exact⟨q+1,hlt,Ea,hw,rfl⟩
   have aa:¬(q:Int)<(s.arms.length:Int):=by omega
   have Oa:q=s.arms.length:=by omega
   subst Oa
   simp
  |true=>
   simp[ho,hm,h2];refine cq (nc false _) ?_;simp;refine zF (fun q:Nat=>q<=s.arms.length) (fun q=>([.ptr (c.d+1) c.jF 0,.any,.any,.ptr 0 0 0]++(List.replicate 39 .any++([.p (.sl 3 (s.arms.map Ar.enc)),I s.arms.length,I q]++List.replicate 22 .any)))) (fun q=>[.cells (stV s) 49,.dead]::updF S c (F q)) (fun q=>s.arms.length-q) 0 (Nat.zero_le _) ?_ ?_ ?_
   .simp
   .simp[yb,Lf]
   intro q hq
   by_cases hlt:q<s.arms.length
   .have aa:(q:Int)<(s.arms.length:Int):=by omega
    have hw:=zB hlt ca
    have Wa:=Jb q hlt
    have Ea:s.arms.length-(q+1)<s.arms.length-q:=by omega
    have db:=fun L=>(zGP p s.arms[q].body (re _ (List.getElem_mem hlt)) s.pos (oneN s.arms[q].name) (F q) (Ib q hlt)).at h L
    have e1:zAZ p s.arms[q].body s.pos (oneN s.arms[q].name) (F q)=F (q+1):=Wa.symm
    rw[e1]at db;clear Wa e1
    generalize he:s.arms[q]=a at*
    cases hs:sEq a.name emS with
    |true=>
     have mc:oneN a.name=[]:=by unfold oneN;rw[hs];rfl
     rw[mc]at db
     have be:∀L,ADet Tryz.prog 158 [.ptr (c.d+1) c.jF 0,.p (.sl 15 (a.body.map St.enc)),I s.pos,nilS] (L::updF S c (F q)) .un (L::updF S c (F (q+1))):=fun L=>ADet.sub (by repeat' constructor) (db L)
     simp[hlt,aa,he,hs,Ar.enc];refine cq (be _) ?_;simp
     exact⟨q+1,hlt,Ea,hw,rfl⟩
    |false=>
     have mc:oneN a.name=[a.name]:=by unfold oneN;rw[hs];rfl
     rw[mc]at db
     have va:∀L i,ADet Tryz.prog 158 [.ptr (c.d+1) c.jF 0,.p (.sl 15 (a.body.map St.enc)),I s.pos,.osl 1 [[pS a.name]] 0 i] (L::updF S c (F q)) .un (L::updF S c (F (q+1))):=fun L i=>ADet.toP2 (as1:=[.ptr (c.d+1) c.jF 0,.p (.sl 15 (a.body.map St.enc)),I s.pos]) (as2:=[]) (v:=.osl 1 [[pS a.name]] 0 i) rfl (db L)
     simp[hlt,aa,he,hs,Ar.enc];refine cq (va _ _) ?_;simp;exact⟨q+1,hlt,Ea,hw,rfl⟩
   have aa:¬(q:Int)<(s.arms.length:Int):=by omega
   have Oa:q=s.arms.length:=by omega
   subst Oa
   simp
 |some x=>
  rw[Vc]at yd Ye
  have Gm:x∈p:=by unfold zg at Vc;exact List.mem_of_find?_eq_some Vc
  have vk:=fun S=>zXy x s.arms Ed (hp x Gm) S
  simp only[Option.bind_some]at Ye;simp[ho];refine cq (yd _) ?_;simp;refine dB [(3,19),(22,19)] (by kernel_rfl) ?_
  rcases zDe s.name σ.made 0 with⟨h1,h2,h3⟩|⟨j,b,h1,h2,h3⟩
  .have Lf:bb=false:=by rw[Ye];unfold mIs;rw[h1];rfl
   simp[ho,hm,h2];refine cq (nc false _) ?_;simp;refine zF (fun q:Nat=>q<=s.arms.length) (fun q=>([.ptr (c.d+1) c.jF 0,.any,.any,.ptr 0 0 0]++(List.replicate 39 .any++([.p (.sl 3 (s.arms.map Ar.enc)),I s.arms.length,I q]++List.replicate 22 .any)))) (fun q=>[.cells (stV s) 49,.dead]::updF S c (F q)) (fun q=>s.arms.length-q) 0 (Nat.zero_le _) ?_ ?_ ?_
   .simp
   .simp[yb,Lf]
   intro q hq
   by_cases hlt:q<s.arms.length
   .have aa:(q:Int)<(s.arms.length:Int):=by omega
    have hw:=zB hlt ca
    have Wa:=Jb q hlt
    have Ea:s.arms.length-(q+1)<s.arms.length-q:=by omega
    have db:=fun L=>(zGP p s.arms[q].body (re _ (List.getElem_mem hlt)) s.pos (oneN s.arms[q].name) (F q) (Ib q hlt)).at h L
    have e1:zAZ p s.arms[q].body s.pos (oneN s.arms[q].name) (F q)=F (q+1):=Wa.symm
    rw[e1]at db;clear Wa e1
    generalize he:s.arms[q]=a at*
    cases hs:sEq a.name emS with
    |true=>
     have mc:oneN a.name=[]:=by unfold oneN;rw[hs];rfl
     rw[mc]at db
     have be:∀L,ADet Tryz.prog 158 [.ptr (c.d+1) c.jF 0,.p (.sl 15 (a.body.map St.enc)),I s.pos,nilS] (L::updF S c (F q)) .un (L::updF S c (F (q+1))):=fun L=>ADet.sub (by repeat' constructor) (db L)
     simp[hlt,aa,he,hs,Ar.enc];refine cq (be _) ?_;simp
     exact⟨q+1,hlt,Ea,hw,rfl⟩
    |false=>
     have mc:oneN a.name=[a.name]:=by unfold oneN;rw[hs];rfl
     rw[mc]at db
     have va:∀L i,ADet Tryz.prog 158 [.ptr (c.d+1) c.jF 0,.p (.sl 15 (a.body.map St.enc)),I s.pos,.osl 1 [[pS a.name]] 0 i] (L::updF S c (F q)) .un (L::updF S c (F (q+1))):=fun L i=>ADet.toP2 (as1:=[.ptr (c.d+1) c.jF 0,.p (.sl 15 (a.body.map St.enc)),I s.pos]) (as2:=[]) (v:=.osl 1 [[pS a.name]] 0 i) rfl (db L)
     simp[hlt,aa,he,hs,Ar.enc];refine cq (va _ _) ?_;simp;exact⟨q+1,hlt,Ea,hw,rfl⟩
   have aa:¬(q:Int)<(s.arms.length:Int):=by omega
   have Oa:q=s.arms.length:=by omega
   subst Oa;simp
  cases b with
  |false=>
   have Lf:bb=false:=by rw[Ye];unfold mIs;rw[h1];rfl
   simp[ho,hm,h2];refine cq (nc false _) ?_;simp;refine zF (fun q:Nat=>q<=s.arms.length) (fun q=>([.ptr (c.d+1) c.jF 0,.any,.any,.ptr 0 0 0]++(List.replicate 39 .any++([.p (.sl 3 (s.arms.map Ar.enc)),I s.arms.length,I q]++List.replicate 22 .any)))) (fun q=>[.cells (stV s) 49,.dead]::updF S c (F q)) (fun q=>s.arms.length-q) 0 (Nat.zero_le _) ?_ ?_ ?_
   .simp
   .simp[yb,Lf]
   intro q hq
   by_cases hlt:q<s.arms.length
   .have aa:(q:Int)<(s.arms.length:Int):=by omega
    have hw:=zB hlt ca
    have Wa:=Jb q hlt
    have Ea:s.arms.length-(q+1)<s.arms.length-q:=by omega
    have db:=fun L=>(zGP p s.arms[q].body (re _ (List.getElem_mem hlt)) s.pos (oneN s.arms[q].name) (F q) (Ib q hlt)).at h L
    have e1:zAZ p s.arms[q].body s.pos (oneN s.arms[q].name) (F q)=F (q+1):=Wa.symm
    rw[e1]at db;clear Wa e1
    generalize he:s.arms[q]=a at*
    cases hs:sEq a.name emS with
    |true=>
     have mc:oneN a.name=[]:=by unfold oneN;rw[hs];rfl
     rw[mc]at db
     have be:∀L,ADet Tryz.prog 158 [.ptr (c.d+1) c.jF 0,.p (.sl 15 (a.body.map St.enc)),I s.pos,nilS] (L::updF S c (F q)) .un (L::updF S c (F (q+1))):=fun L=>ADet.sub (by repeat' constructor) (db L)
     simp[hlt,aa,he,hs,Ar.enc];refine cq (be _) ?_;simp
     exact⟨q+1,hlt,Ea,hw,rfl⟩
    |false=>
     have mc:oneN a.name=[a.name]:=by unfold oneN;rw[hs];rfl
     rw[mc]at db
     have va:∀L i,ADet Tryz.prog 158 [.ptr (c.d+1) c.jF 0,.p (.sl 15 (a.body.map St.enc)),I s.pos,.osl 1 [[pS a.name]] 0 i] (L::updF S c (F q)) .un (L::updF S c (F (q+1))):=fun L i=>ADet.toP2 (as1:=[.ptr (c.d+1) c.jF 0,.p (.sl 15 (a.body.map St.enc)),I s.pos]) (as2:=[]) (v:=.osl 1 [[pS a.name]] 0 i) rfl (db L)
     simp[hlt,aa,he,hs,Ar.enc];refine cq (va _ _) ?_;simp;exact⟨q+1,hlt,Ea,hw,rfl⟩
   have aa:¬(q:Int)<(s.arms.length:Int):=by omega
   have Oa:q=s.arms.length:=by omega
   subst Oa
   simp
  |true=>
   by_cases hk:x.kind=2
   .have Lf:bb=zFi x (s.arms.map armF):=by rw[Ye,if_pos hk];unfold mIs;rw[h1];rfl
    have yp:decide (x.kind=2)=true:=decide_eq_true hk
    simp[ho,hm,h2,yp];refine cq (vk _) ?_;simp;refine cq (nc _ _) ?_;simp;refine zF (fun q:Nat=>q<=s.arms.length) (fun q=>([.ptr (c.d+1) c.jF 0,.any,.any,.ptr 0 0 0]++(List.replicate 39 .any++([.p (.sl 3 (s.arms.map Ar.enc)),I s.arms.length,I q]++List.replicate 22 .any)))) (fun q=>[.cells (stV s) 49,.dead]::updF S c (F q)) (fun q=>s.arms.length-q) 0 (Nat.zero_le _) ?_ ?_ ?_
    .simp
    .simp[yb,Lf]
    intro q hq
    by_cases hlt:q<s.arms.length
    .have aa:(q:Int)<(s.arms.length:Int):=by omega
     have hw:=zB hlt ca
     have Wa:=Jb q hlt
     have Ea:s.arms.length-(q+1)<s.arms.length-q:=by omega
     have db:=fun L=>(zGP p s.arms[q].body (re _ (List.getElem_mem hlt)) s.pos (oneN s.arms[q].name) (F q) (Ib q hlt)).at h L
     have e1:zAZ p s.arms[q].body s.pos (oneN s.arms[q].name) (F q)=F (q+1):=Wa.symm
     rw[e1]at db;clear Wa e1
     generalize he:s.arms[q]=a at*
     cases hs:sEq a.name emS with
     |true=>
      have mc:oneN a.name=[]:=by unfold oneN;rw[hs];rfl
      rw[mc]at db
      have be:∀L,ADet Tryz.prog 158 [.ptr (c.d+1) c.jF 0,.p (.sl 15 (a.body.map St.enc)),I s.pos,nilS] (L::updF S c (F q)) .un (L::updF S c (F (q+1))):=fun L=>ADet.sub (by repeat' constructor) (db L)
      simp[hlt,aa,he,hs,Ar.enc];refine cq (be _) ?_;simp
      exact⟨q+1,hlt,Ea,hw,rfl⟩
     |false=>
      have mc:oneN a.name=[a.name]:=by unfold oneN;rw[hs];rfl
      rw[mc]at db
      have va:∀L i,ADet Tryz.prog 158 [.ptr (c.d+1) c.jF 0,.p (.sl 15 (a.body.map St.enc)),I s.pos,.osl 1 [[pS a.name]] 0 i] (L::updF S c (F q)) .un (L::updF S c (F (q+1))):=fun L i=>ADet.toP2 (as1:=[.ptr (c.d+1) c.jF 0,.p (.sl 15 (a.body.map St.enc)),I s.pos]) (as2:=[]) (v:=.osl 1 [[pS a.name]] 0 i) rfl (db L)
      simp[hlt,aa,he,hs,Ar.enc];refine cq (va _ _) ?_;simp;exact⟨q+1,hlt,Ea,hw,rfl⟩
    have aa:¬(q:Int)<(s.arms.length:Int):=by omega
    have Oa:q=s.arms.length:=by omega
    subst Oa;simp
   have Lf:bb=false:=by rw[Ye,if_neg hk];simp
   simp[ho,hm,h2,hk];refine cq (nc false _) ?_;simp;refine zF (fun q:Nat=>q<=s.arms.length) (fun q=>([.ptr (c.d+1) c.jF 0,.any,.any,.ptr 0 0 0]++(List.replicate 39 .any++([.p (.sl 3 (s.arms.map Ar.enc)),I s.arms.length,I q]++List.replicate 22 .any)))) (fun q=>[.cells (stV s) 49,.dead]::updF S c (F q)) (fun q=>s.arms.length-q) 0 (Nat.zero_le _) ?_ ?_ ?_
   .simp
   .simp[yb,Lf]
   intro q hq
   by_cases hlt:q<s.arms.length
   .have aa:(q:Int)<(s.arms.length:Int):=by omega
    have hw:=zB hlt ca
    have Wa:=Jb q hlt
    have Ea:s.arms.length-(q+1)<s.arms.length-q:=by omega
    have db:=fun L=>(zGP p s.arms[q].body (re _ (List.getElem_mem hlt)) s.pos (oneN s.arms[q].name) (F q) (Ib q hlt)).at h L
    have e1:zAZ p s.arms[q].body s.pos (oneN s.arms[q].name) (F q)=F (q+1):=Wa.symm
    rw[e1]at db;clear Wa e1
    generalize he:s.arms[q]=a at*
    cases hs:sEq a.name emS with
    |true=>
     have mc:oneN a.name=[]:=by unfold oneN;rw[hs];rfl
     rw[mc]at db
     have be:∀L,ADet Tryz.prog 158 [.ptr (c.d+1) c.jF 0,.p (.sl 15 (a.body.map St.enc)),I s.pos,nilS] (L::updF S c (F q)) .un (L::updF S c (F (q+1))):=fun L=>ADet.sub (by repeat' constructor) (db L)
     simp[hlt,aa,he,hs,Ar.enc];refine cq (be _) ?_;simp
     exact⟨q+1,hlt,Ea,hw,rfl⟩
    |false=>
     have mc:oneN a.name=[a.name]:=by unfold oneN;rw[hs];rfl
     rw[mc]at db
     have va:∀L i,ADet Tryz.prog 158 [.ptr (c.d+1) c.jF 0,.p (.sl 15 (a.body.map St.enc)),I s.pos,.osl 1 [[pS a.name]] 0 i] (L::updF S c (F q)) .un (L::updF S c (F (q+1))):=fun L i=>ADet.toP2 (as1:=[.ptr (c.d+1) c.jF 0,.p (.sl 15 (a.body.map St.enc)),I s.pos]) (as2:=[]) (v:=.osl 1 [[pS a.name]] 0 i) rfl (db L)
     simp[hlt,aa,he,hs,Ar.enc];refine cq (va _ _) ?_;simp;exact⟨q+1,hlt,Ea,hw,rfl⟩
   have aa:¬(q:Int)<(s.arms.length:Int):=by omega
   have Oa:q=s.arms.length:=by omega
   subst Oa;simp
theorem zSZ{p:List It}{S:ASt}{c:Cf}{σ:Nf}(h:NAt p S c σ)(s:St)(g:Nf):NAt p ([.cells (stV s) 49,mdO g.made,fnO ⟨0,c.k+c.d+1,2,1⟩ g]::updK S (c.k+c.d) g.fl) ⟨0,c.k+c.d+1,2,1⟩ g:=by
 have hk:=h.k
 refine⟨⟨(hk.updK g.fl).t,(hk.updK g.fl).f,(hk.updK g.fl).l,(hk.updK g.fl).r⟩,rfl,rfl,fun e=>by simp at e,fun e=>by simp at e,by simp⟩
theorem zON{p:List It}{S:ASt}{c:Cf}{σ:Nf}(h:NAt p S c σ)(s:St)(g g':Nf):updF ([.cells (stV s) 49,mdO g.made,fnO ⟨0,c.k+c.d+1,2,1⟩ g]::updK S (c.k+c.d) g.fl) ⟨0,c.k+c.d+1,2,1⟩ g'=[.cells (stV s) 49,mdO g'.made,fnO ⟨0,c.k+c.d+1,2,1⟩ g']::updK S (c.k+c.d) g'.fl:=by
 have e:=zGK [.cells (stV s) 49,mdO g.made,fnO ⟨0,c.k+c.d+1,2,1⟩ g] (updK S (c.k+c.d) g.fl) (c.k+c.d) g'.fl
 rw[zLt (e:=c.k+c.d) h.k]at e
 show set2 (set2 (updK ([.cells (stV s) 49,mdO g.made,fnO ⟨0,c.k+c.d+1,2,1⟩ g]::updK S (c.k+c.d) g.fl) (c.k+c.d+1) g'.fl) 0 1 (mdO g'.made)) 0 2 (fnO ⟨0,c.k+c.d+1,2,1⟩ g')=_
 rw[e,zF2,zF2];rfl
theorem zaE(p:List It)(s:St)(Nm:∀x∈s.body,StmC p x)(σ:Nf)(hb:BdN σ (2+(s.names.length+(s.body.map St.nd).sum))):
  FC p 157 [.agg (stV s)] σ ⟨σ.made,σ.count,σ.opn,(zC2 p s.body s.pos s.names (σ.fl++zJ (decide (0<σ.opn)) 61 s.pos)).fl++zJ (decide ((zC2 p s.body s.pos s.names (σ.fl++zJ (decide (0<σ.opn)) 61 s.pos)).count<=60)) 4 s.pos⟩:=fun S c h=>by
 refine ADet.okA call157 1 3 rfl rfl fun na=>?_
 have ca:s.names.length<=maxLen:=okl na
 have hs:=zAU h
 have ho:=h.n
 simp only[fnO]at ho
 obtain⟨g0,Pk⟩:∃g0:Nf,g0=⟨[],0,0,σ.fl++zJ (decide (0<σ.opn)) 61 s.pos⟩:=⟨_,rfl⟩
 obtain⟨F,hF⟩:∃F:Nat->Nf,F=fun q=>(Nf.mkS (s.names.take q) s.pos g0).1:=⟨_,rfl⟩
 have yb:F 0=g0:=by rw[hF];simp[Nf.mkS]
 have Zb:F s.names.length=(Nf.mkS s.names s.pos g0).1:=by rw[hF];simp
 have Jb:∀q (hq:q<s.names.length),F (q+1)=(F q).mk1 s.names[q] s.pos:=fun q hq=>by
  rw[hF];simp only[List.take_succ_eq_append_getElem hq,zKe];simp[Nf.mkS]
 have Tf:BdN g0 (1+(s.names.length+(s.body.map St.nd).sum)):=by
  obtain⟨b1,b2,b3⟩:=hb
  have:=zu (decide (0<σ.opn)) 61 s.pos
  rw[Pk];exact⟨by simp only[List.length_append];omega,by simp only;omega,by simp only;omega⟩
 have Ib:∀q,q<s.names.length->BdN (F q) 1:=fun q hq=>by
  have e2:=(zBJ (s.names.take q) s.pos g0).1
  rw[hF];exact Tf.near e2 (by simp;omega)
 have Xf:BdN (F s.names.length) (s.body.map St.nd).sum:=by
  rw[Zb];exact Tf.near (zBJ s.names s.pos g0).1 (by omega)
 obtain⟨G,hG⟩:∃G,G=Nf.undo (St.nms p s.body (F s.names.length)).2 (St.nms p s.body (F s.names.length)).1:=⟨_,rfl⟩
 have In:G.fl.length+1<=4294967296:=by
  have e1:=(zCY p (l:=s.body) (fun x _ σ=>zDN p x σ) (F s.names.length)).1
  have e2:=e1.trans (zEr (St.nms p s.body (F s.names.length)).2 (St.nms p s.body (F s.names.length)).1)
  rw[<-hG]at e2
  have:=Xf.1
  have:=e2.2.1
  omega
 have vg:zC2 p s.body s.pos s.names (σ.fl++zJ (decide (0<σ.opn)) 61 s.pos)=G:=by rw[hG,Zb,Pk];rfl
 rw[vg]
 have hE:∀S:ASt,ADet Tryz.prog 192 [] S .un S:=fun S=>by
  refine ADet.intro mixed call192 func192 rfl ?_;simp[ntmps192]
 have Le:=fun b L=>(zEX p b 61 s.pos σ.fl (by have:=hb.1;omega)).inF0 h L
 have e0:updF S c ⟨σ.made,σ.count,σ.opn,σ.fl++zJ (decide (0<σ.opn)) 61 s.pos⟩=updK S (c.k+c.d) g0.fl:=by rw[<-zIb h,Pk];rfl
 have e1:updF S c ⟨σ.made,σ.count,σ.opn,G.fl++zJ (decide (G.count<=60)) 4 s.pos⟩=updK S (c.k+c.d) (G.fl++zJ (decide (G.count<=60)) 4 s.pos):=by rw[<-zIb h];rfl
 rw[e1]
 have Ba:=zSY p s.body Nm (F s.names.length) Xf 192 [] (St.nms p s.body (F s.names.length)).1 _ ⟨0,c.k+c.d+1,2,1⟩ (zSZ h s (F s.names.length)) (fun L=>hE _)
 rw[<-hG,zON h]at Ba
 have Sa:∀q (hq:q<s.names.length),ADet Tryz.prog 153 [.ptr 0 2 0,Sg s.names[q],I s.pos] ([.cells (stV s) 49,mdO (F q).made,fnO ⟨0,c.k+c.d+1,2,1⟩ (F q)]::updK S (c.k+c.d) (F q).fl) (clo ⟨0,c.k+c.d+1,2,1⟩ (s.names[q],mIs (F q).made s.names[q])) ([.cells (stV s) 49,mdO (F (q+1)).made,fnO ⟨0,c.k+c.d+1,2,1⟩ (F (q+1))]::updK S (c.k+c.d) (F (q+1)).fl):=fun q hq=>by
  have va:=Ib q hq
  have:=zaC p s.names[q] s.pos (F q) (by have:=va.1;omega) (by have:=va.2.1;omega) _ ⟨0,c.k+c.d+1,2,1⟩ (zSZ h s (F q))
  rw[zON h,<-Jb q hq]at this;exact this
 have ye:∀L:List AObj,ADet Tryz.prog 60 [.ptr (c.k+c.d+1) 3 0,B (decide (G.count<=60)),I 4,I s.pos] (L::updK S (c.k+c.d) G.fl) .un (L::updK S (c.k+c.d) (G.fl++zJ (decide (G.count<=60)) 4 s.pos)):=fun L=>(zEX p _ 4 s.pos G.fl In).at h.k L
 refine ADet.intro mixed call157 func157 rfl ?_;simp[ntmps157];refine dB [] (by kernel_rfl) ?_
 have hA:=h.updF ⟨σ.made,σ.count,σ.opn,σ.fl++zJ (decide (0<σ.opn)) 61 s.pos⟩
 rw[e0]at hA
 have rr:=hA.n
 simp only[fnO]at rr
 have Ap:∀L:List AObj,ADet Tryz.prog 60 [.ptr (c.k+c.d+1) 3 0,B (decide (0<σ.opn)),I 61,I s.pos] (L::S) .un (L::updK S (c.k+c.d) g0.fl):=fun L=>by
  have:=Le (decide (0<σ.opn)) L
  rw[e0]at this;exact this
 simp[ho];refine cq (Ap _) ?_;simp[rr];refine cq (zLx _ [.cells (stV s) 49] (c.k+c.d+1)) ?_;simp;refine zF (fun q:Nat=>q<=s.names.length) (fun q=>([.ptr (c.d+1) c.jF 0,.any,.any,.ptr 0 0 0,.ptr 0 2 0]++(List.replicate 20 .any++([.p (.sl 1 (s.names.map fun s=>[pS s])),I s.names.length,I q]++List.replicate 25 .any)))) (fun q=>[.cells (stV s) 49,mdO (F q).made,fnO ⟨0,c.k+c.d+1,2,1⟩ (F q)]::updK S (c.k+c.d) (F q).fl) (fun q=>s.names.length-q) 0 (Nat.zero_le _) ?_ ?_ ?_
 .simp[strs]
 .simp[yb]
  rw[Pk];exact⟨rfl,⟨rfl,zh _⟩,trivial⟩
 intro q hq
 by_cases hlt:q<s.names.length
 .have aa:(q:Int)<(s.names.length:Int):=by omega
  have hw:=zB hlt
  have Ea:s.names.length-(q+1)<s.names.length-q:=by omega
  have Mt:=Sa q hlt
  have Nt:∀n (τ:Nf),AObj.cut n (mdO τ.made)=mdO τ.made:=fun n τ=>by unfold mdO mdE AObj.cut;simp[AV.cut,AV.cuts]
  generalize he:s.names[q]=x at*
  simp[hlt,aa,he];refine cq Mt ?_;simp;refine⟨q+1,hlt,Ea,hw,?_,rfl⟩
  show wkL [AObj.cut 3 (mdO (F (q+1)).made),AObj.cut 3 (fnO ⟨0,c.k+c.d+1,2,1⟩ (F (q+1)))] _
  rw[Nt];exact⟨rfl,⟨rfl,zh _⟩,trivial⟩
 have aa:¬(q:Int)<(s.names.length:Int):=by omega
 have Oa:q=s.names.length:=by omega
 subst Oa;simp;refine cq Ba ?_;simp;refine dB [] (by kernel_rfl) ?_
 have Ot:get2 (updK S (c.k+c.d) G.fl) c.d c.jF=some (.cells [.ptr c.k 3 0,.mp 0 c.jM,I σ.count,I σ.opn] 109):=by
  have:=(h.updF ⟨σ.made,σ.count,σ.opn,G.fl⟩).n
  rw[<-zIb h]at this;exact this
 simp[Ot,fnO]
 have cl:decide ((G.count:Int)<=60)=decide (G.count<=60):=decide_eq_decide.2 (by omega)
 rw[cl];refine cq (ye _) ?_;simp
end Go.Proofs.YtdflkegnmmkkoaaGreatDoor
