/- A part of the proof. -/
import Derived.Test.YtdflkegnmmkkoaaGreatDoorXNVd
set_option linter.unusedVariables false
set_option linter.unusedSimpArgs false
set_option maxRecDepth 100000
set_option maxHeartbeats 32000000
namespace Go.Proofs.YtdflkegnmmkkoaaGreatDoor
open Go.RowKit _root_.Go.Proofs.Tryz
attribute [local simp] List.replicate List.range List.range.loop List.forall_mem_cons List.contains_cons List.contains_nil List.find?
theorem ADet.toP2{P:Program}{F:FuncId}{as1 as2:List AV}{v:AV}{q:PV}{S S':ASt}{r:AV}(hv:v.toP=some q)(h:ADet P F (as1++ .p q::as2) S r S'):ADet P F (as1++v::as2) S r S':=by
 refine⟨h.1,fun Pr φ xs w da hR hne=>h.2 Pr φ xs w ⟨by rw[<-da.1];simp,fun j c x hc hx=>?_⟩ hR hne⟩
 rcases Nat.lt_trichotomy j as1.length with hj|hj|hj
 .rw[List.getElem?_append_left hj]at hc
  exact da.2 j c x (by rw[List.getElem?_append_left hj];exact hc) hx
 .subst hj
  rw[List.getElem?_append_right (Nat.le_refl _),Nat.sub_self]at hc;cases hc;exact .p ((da.2 as1.length v x (by rw[List.getElem?_append_right (Nat.le_refl _),Nat.sub_self];rfl) hx).toP hv)
 rw[List.getElem?_append_right (by omega),show j-as1.length=(j-as1.length-1)+1 by omega,List.getElem?_cons_succ]at hc
 exact da.2 j c x (by rw[List.getElem?_append_right (by omega),show j-as1.length=(j-as1.length-1)+1 by omega,List.getElem?_cons_succ];exact hc) hx
theorem zbe(p:List It)(hp:∀x∈p,x.fields.length<=20000)(s:St)(ke:∀a∈s.arms,∀x∈a.body,StmC p x)(Dd:s.arms.length<=20000)(σ:Nf)(hb:BdN σ (1+(s.arms.map Ar.nd).sum)):
  FC p 156 [.agg (stV s)] σ (s.arms.foldl (fun σ a=>a.nm p s.pos σ) (σ.add (zH (mIs σ.made s.name&&zDP p s.u2 (s.arms.map armF)) 60 s.pos))):=fun S c h=>by
 have ca:s.arms.length<=maxLen:=by unfold maxLen;omega
 have hs:=zAV h
 obtain⟨bb,Re⟩:∃bb,bb=(mIs σ.made s.name&&zDP p s.u2 (s.arms.map armF)):=⟨_,rfl⟩
 rw[<-Re]
 obtain⟨F,hF⟩:∃F:Nat->Nf,F=fun q=>(s.arms.take q).foldl (fun σ a=>a.nm p s.pos σ) (σ.add (zH bb 60 s.pos)):=⟨_,rfl⟩
 have rb:F 0=σ.add (zH bb 60 s.pos):=by rw[hF];simp
 have Xb:F s.arms.length=s.arms.foldl (fun σ a=>a.nm p s.pos σ) (σ.add (zH bb 60 s.pos)):=by rw[hF];simp
 have Gb:∀q (hq:q<s.arms.length),F (q+1)=s.arms[q].nm p s.pos (F q):=fun q hq=>by
  rw[hF];simp only[List.take_succ_eq_append_getElem hq,List.foldl_append,List.foldl_cons,List.foldl_nil]
 have Fb:∀q (hq:q<s.arms.length),BdN (F q) ((oneN s.arms[q].name).length+(s.arms[q].body.map St.nd).sum):=fun q hq=>by
  have e1:=zCJ Ar.nd hq
  have key:∀(l:List Ar) (τ:Nf),Near τ (l.map Ar.nd).sum (l.foldl (fun σ a=>a.nm p s.pos σ) τ):=by
   intro l
   induction l with
   |nil=>intro τ;exact Near.refl τ
   |cons a l ih=>
    intro τ
    have h1:=zCD p (l:=a.body) (fun x _ σ=>zCS p x σ) s.pos (oneN a.name) τ
    have h2:=ih (a.nm p s.pos τ)
    have ho:=zKT a.name
    have hn:=arNd a
    rw[List.map_cons,List.sum_cons,List.foldl_cons];exact(Near.trans (b:=a.nm p s.pos τ) h1 h2).le (by omega)
  have e2:=(Near.add σ (zr bb 60 s.pos)).trans (key (s.arms.take q) (σ.add (zH bb 60 s.pos)))
  have ho:=zKT s.arms[q].name
  have hn:=arNd s.arms[q]
  rw[hF];exact hb.near e2 (by omega)
 clear hF;rw[<-Xb]
 have pc:=fun b L=>(zEY p b 60 s.pos σ.fl (by have:=hb.1;omega)).inF0 h L
 have Ca:∀X,(⟨σ.made,σ.count,σ.opn,σ.fl++X⟩:Nf)=σ.add X:=fun X=>rfl
 simp only[Ca]at pc
 have ho:=h.n
 have hm:=h.m
 simp only[fnO]at ho;simp only[mdO]at hm
 have wd:=fun L=>zJz p 2 s.u2 σ.fl (L::S) _ (h.k.cons L)
 simp only[Cf.e]at wd;unfold zQC at wd;unfold zDP zDv at Re;refine ADet.intro mixed call156 func156 rfl ?_;simp[ntmps156];refine zEj [(10,11,4)] [] (by kernel_rfl) (by kernel_rfl) (by kernel_rfl) (by simp) ?_
 cases Wc:zK p s.u2 with
 |none=>
  rw[Wc]at wd Re
  have If:bb=false:=by rw[Re];simp
  simp[ho];refine cq (wd _) ?_;simp;refine dB [(3,19),(22,19)] (by kernel_rfl) ?_
  rcases zDi s.name σ.made 0 with⟨h1,h2,h3⟩|⟨j,b,h1,h2,h3⟩
  .simp[ho,hm,h2]
   refine cq (pc false _) ?_;simp;refine zF (fun q:Nat=>q<=s.arms.length) (fun q=>([.ptr (c.d+1) c.jF 0,.any,.any,.ptr 0 0 0]++(List.replicate 39 .any++([.p (.sl 3 (s.arms.map Ar.enc)),I s.arms.length,I q]++List.replicate 22 .any)))) (fun q=>[.cells (stV s) 49,.dead]::updF S c (F q)) (fun q=>s.arms.length-q) 0 (Nat.zero_le _) ?_ ?_ ?_
   .simp
   .simp[rb,If]
   intro q hq
   by_cases hlt:q<s.arms.length
   .have aa:(q:Int)<(s.arms.length:Int):=by omega
    have hw:=zB hlt ca
    have Wa:=Gb q hlt
    have Da:s.arms.length-(q+1)<s.arms.length-q:=by omega
    have db:=fun L=>(zGY p s.arms[q].body (ke _ (List.getElem_mem hlt)) s.pos (oneN s.arms[q].name) (F q) (Fb q hlt)).at h L
    have e1:z8 p s.arms[q].body s.pos (oneN s.arms[q].name) (F q)=F (q+1):=Wa.symm
    rw[e1]at db;clear Wa e1
    generalize he:s.arms[q]=a at*
    cases hs:sEq a.name emS with
    |true=>
     have nc:oneN a.name=[]:=by unfold oneN;rw[hs];rfl
     rw[nc]at db
     have Vd:∀L,ADet Tryz.prog 158 [.ptr (c.d+1) c.jF 0,.p (.sl 15 (a.body.map St.enc)),I s.pos,nilS] (L::updF S c (F q)) .un (L::updF S c (F (q+1))):=fun L=>ADet.sub (by repeat' constructor) (db L)
     simp[hlt,aa,he,hs,Ar.enc];refine cq (Vd _) ?_;simp
     exact⟨q+1,hlt,Da,hw,rfl⟩
    |false=>
     have nc:oneN a.name=[a.name]:=by unfold oneN;rw[hs];rfl
     rw[nc]at db
     have wa:∀L i,ADet Tryz.prog 158 [.ptr (c.d+1) c.jF 0,.p (.sl 15 (a.body.map St.enc)),I s.pos,.osl 1 [[pS a.name]] 0 i] (L::updF S c (F q)) .un (L::updF S c (F (q+1))):=fun L i=>ADet.toP2 (as1:=[.ptr (c.d+1) c.jF 0,.p (.sl 15 (a.body.map St.enc)),I s.pos]) (as2:=[]) (v:=.osl 1 [[pS a.name]] 0 i) rfl (db L)
     simp[hlt,aa,he,hs,Ar.enc];refine cq (wa _ _) ?_;simp;exact⟨q+1,hlt,Da,hw,rfl⟩
   have aa:¬(q:Int)<(s.arms.length:Int):=by omega
   have Pa:q=s.arms.length:=by omega
   subst Pa;simp
  cases b with
  |false=>
   simp[ho,hm,h2];refine cq (pc false _) ?_;simp;refine zF (fun q:Nat=>q<=s.arms.length) (fun q=>([.ptr (c.d+1) c.jF 0,.any,.any,.ptr 0 0 0]++(List.replicate 39 .any++([.p (.sl 3 (s.arms.map Ar.enc)),I s.arms.length,I q]++List.replicate 22 .any)))) (fun q=>[.cells (stV s) 49,.dead]::updF S c (F q)) (fun q=>s.arms.length-q) 0 (Nat.zero_le _) ?_ ?_ ?_
   .simp
   .simp[rb,If]
   intro q hq
   by_cases hlt:q<s.arms.length
   .have aa:(q:Int)<(s.arms.length:Int):=by omega
    have hw:=zB hlt ca
    have Wa:=Gb q hlt
    have Da:s.arms.length-(q+1)<s.arms.length-q:=by omega
    have db:=fun L=>(zGY p s.arms[q].body (ke _ (List.getElem_mem hlt)) s.pos (oneN s.arms[q].name) (F q) (Fb q hlt)).at h L
    have e1:z8 p s.arms[q].body s.pos (oneN s.arms[q].name) (F q)=F (q+1):=Wa.symm
    rw[e1]at db;clear Wa e1
    generalize he:s.arms[q]=a at*
    cases hs:sEq a.name emS with
    |true=>
     have nc:oneN a.name=[]:=by unfold oneN;rw[hs];rfl
     rw[nc]at db
     have Vd:∀L,ADet Tryz.prog 158 [.ptr (c.d+1) c.jF 0,.p (.sl 15 (a.body.map St.enc)),I s.pos,nilS] (L::updF S c (F q)) .un (L::updF S c (F (q+1))):=fun L=>ADet.sub (by repeat' constructor) (db L)
     simp[hlt,aa,he,hs,Ar.enc];refine cq (Vd _) ?_;simp
     exact⟨q+1,hlt,Da,hw,rfl⟩
    |false=>
     have nc:oneN a.name=[a.name]:=by unfold oneN;rw[hs];rfl
     rw[nc]at db
     have wa:∀L i,ADet Tryz.prog 158 [.ptr (c.d+1) c.jF 0,.p (.sl 15 (a.body.map St.enc)),I s.pos,.osl 1 [[pS a.name]] 0 i] (L::updF S c (F q)) .un (L::updF S c (F (q+1))):=fun L i=>ADet.toP2 (as1:=[.ptr (c.d+1) c.jF 0,.p (.sl 15 (a.body.map St.enc)),I s.pos]) (as2:=[]) (v:=.osl 1 [[pS a.name]] 0 i) rfl (db L)
     simp[hlt,aa,he,hs,Ar.enc];refine cq (wa _ _) ?_;simp;exact⟨q+1,hlt,Da,hw,rfl⟩
   have aa:¬(q:Int)<(s.arms.length:Int):=by omega
   have Pa:q=s.arms.length:=by omega
   subst Pa
   simp
  |true=>
   simp[ho,hm,h2];refine cq (pc false _) ?_;simp;refine zF (fun q:Nat=>q<=s.arms.length) (fun q=>([.ptr (c.d+1) c.jF 0,.any,.any,.ptr 0 0 0]++(List.replicate 39 .any++([.p (.sl 3 (s.arms.map Ar.enc)),I s.arms.length,I q]++List.replicate 22 .any)))) (fun q=>[.cells (stV s) 49,.dead]::updF S c (F q)) (fun q=>s.arms.length-q) 0 (Nat.zero_le _) ?_ ?_ ?_
   .simp
   .simp[rb,If]
   intro q hq
   by_cases hlt:q<s.arms.length
   .have aa:(q:Int)<(s.arms.length:Int):=by omega
    have hw:=zB hlt ca
    have Wa:=Gb q hlt
    have Da:s.arms.length-(q+1)<s.arms.length-q:=by omega
    have db:=fun L=>(zGY p s.arms[q].body (ke _ (List.getElem_mem hlt)) s.pos (oneN s.arms[q].name) (F q) (Fb q hlt)).at h L
    have e1:z8 p s.arms[q].body s.pos (oneN s.arms[q].name) (F q)=F (q+1):=Wa.symm
    rw[e1]at db;clear Wa e1
    generalize he:s.arms[q]=a at*
    cases hs:sEq a.name emS with
    |true=>
     have nc:oneN a.name=[]:=by unfold oneN;rw[hs];rfl
     rw[nc]at db
     have Vd:∀L,ADet Tryz.prog 158 [.ptr (c.d+1) c.jF 0,.p (.sl 15 (a.body.map St.enc)),I s.pos,nilS] (L::updF S c (F q)) .un (L::updF S c (F (q+1))):=fun L=>ADet.sub (by repeat' constructor) (db L)
     simp[hlt,aa,he,hs,Ar.enc];refine cq (Vd _) ?_;simp
     exact⟨q+1,hlt,Da,hw,rfl⟩
    |false=>
     have nc:oneN a.name=[a.name]:=by unfold oneN;rw[hs];rfl
     rw[nc]at db
     have wa:∀L i,ADet Tryz.prog 158 [.ptr (c.d+1) c.jF 0,.p (.sl 15 (a.body.map St.enc)),I s.pos,.osl 1 [[pS a.name]] 0 i] (L::updF S c (F q)) .un (L::updF S c (F (q+1))):=fun L i=>ADet.toP2 (as1:=[.ptr (c.d+1) c.jF 0,.p (.sl 15 (a.body.map St.enc)),I s.pos]) (as2:=[]) (v:=.osl 1 [[pS a.name]] 0 i) rfl (db L)
     simp[hlt,aa,he,hs,Ar.enc];refine cq (wa _ _) ?_;simp;exact⟨q+1,hlt,Da,hw,rfl⟩
   have aa:¬(q:Int)<(s.arms.length:Int):=by omega
   have Pa:q=s.arms.length:=by omega
   subst Pa
   simp
 |some x=>
  rw[Wc]at wd Re
  have xm:x∈p:=by unfold zK at Wc;exact List.mem_of_find?_eq_some Wc
  have nk:=fun S=>zZD x s.arms Dd (hp x xm) S
  simp only[Option.bind_some]at Re;simp[ho];refine cq (wd _) ?_;simp;refine dB [(3,19),(22,19)] (by kernel_rfl) ?_
  rcases zDi s.name σ.made 0 with⟨h1,h2,h3⟩|⟨j,b,h1,h2,h3⟩
  .have If:bb=false:=by rw[Re];unfold mIs;rw[h1];rfl
   simp[ho,hm,h2];refine cq (pc false _) ?_;simp;refine zF (fun q:Nat=>q<=s.arms.length) (fun q=>([.ptr (c.d+1) c.jF 0,.any,.any,.ptr 0 0 0]++(List.replicate 39 .any++([.p (.sl 3 (s.arms.map Ar.enc)),I s.arms.length,I q]++List.replicate 22 .any)))) (fun q=>[.cells (stV s) 49,.dead]::updF S c (F q)) (fun q=>s.arms.length-q) 0 (Nat.zero_le _) ?_ ?_ ?_
   .simp
   .simp[rb,If]
   intro q hq
   by_cases hlt:q<s.arms.length
   .have aa:(q:Int)<(s.arms.length:Int):=by omega
    have hw:=zB hlt ca
    have Wa:=Gb q hlt
    have Da:s.arms.length-(q+1)<s.arms.length-q:=by omega
    have db:=fun L=>(zGY p s.arms[q].body (ke _ (List.getElem_mem hlt)) s.pos (oneN s.arms[q].name) (F q) (Fb q hlt)).at h L
    have e1:z8 p s.arms[q].body s.pos (oneN s.arms[q].name) (F q)=F (q+1):=Wa.symm
    rw[e1]at db;clear Wa e1
    generalize he:s.arms[q]=a at*
    cases hs:sEq a.name emS with
    |true=>
     have nc:oneN a.name=[]:=by unfold oneN;rw[hs];rfl
     rw[nc]at db
     have Vd:∀L,ADet Tryz.prog 158 [.ptr (c.d+1) c.jF 0,.p (.sl 15 (a.body.map St.enc)),I s.pos,nilS] (L::updF S c (F q)) .un (L::updF S c (F (q+1))):=fun L=>ADet.sub (by repeat' constructor) (db L)
     simp[hlt,aa,he,hs,Ar.enc];refine cq (Vd _) ?_;simp
     exact⟨q+1,hlt,Da,hw,rfl⟩
    |false=>
     have nc:oneN a.name=[a.name]:=by unfold oneN;rw[hs];rfl
     rw[nc]at db
     have wa:∀L i,ADet Tryz.prog 158 [.ptr (c.d+1) c.jF 0,.p (.sl 15 (a.body.map St.enc)),I s.pos,.osl 1 [[pS a.name]] 0 i] (L::updF S c (F q)) .un (L::updF S c (F (q+1))):=fun L i=>ADet.toP2 (as1:=[.ptr (c.d+1) c.jF 0,.p (.sl 15 (a.body.map St.enc)),I s.pos]) (as2:=[]) (v:=.osl 1 [[pS a.name]] 0 i) rfl (db L)
     simp[hlt,aa,he,hs,Ar.enc];refine cq (wa _ _) ?_;simp;exact⟨q+1,hlt,Da,hw,rfl⟩
   have aa:¬(q:Int)<(s.arms.length:Int):=by omega
   have Pa:q=s.arms.length:=by omega
   subst Pa;simp
  cases b with
  |false=>
   have If:bb=false:=by rw[Re];unfold mIs;rw[h1];rfl
   simp[ho,hm,h2];refine cq (pc false _) ?_;simp;refine zF (fun q:Nat=>q<=s.arms.length) (fun q=>([.ptr (c.d+1) c.jF 0,.any,.any,.ptr 0 0 0]++(List.replicate 39 .any++([.p (.sl 3 (s.arms.map Ar.enc)),I s.arms.length,I q]++List.replicate 22 .any)))) (fun q=>[.cells (stV s) 49,.dead]::updF S c (F q)) (fun q=>s.arms.length-q) 0 (Nat.zero_le _) ?_ ?_ ?_
   .simp
   .simp[rb,If]
   intro q hq
   by_cases hlt:q<s.arms.length
   .have aa:(q:Int)<(s.arms.length:Int):=by omega
    have hw:=zB hlt ca
    have Wa:=Gb q hlt
    have Da:s.arms.length-(q+1)<s.arms.length-q:=by omega
    have db:=fun L=>(zGY p s.arms[q].body (ke _ (List.getElem_mem hlt)) s.pos (oneN s.arms[q].name) (F q) (Fb q hlt)).at h L
    have e1:z8 p s.arms[q].body s.pos (oneN s.arms[q].name) (F q)=F (q+1):=Wa.symm
    rw[e1]at db;clear Wa e1
    generalize he:s.arms[q]=a at*
    cases hs:sEq a.name emS with
    |true=>
     have nc:oneN a.name=[]:=by unfold oneN;rw[hs];rfl
     rw[nc]at db
     have Vd:∀L,ADet Tryz.prog 158 [.ptr (c.d+1) c.jF 0,.p (.sl 15 (a.body.map St.enc)),I s.pos,nilS] (L::updF S c (F q)) .un (L::updF S c (F (q+1))):=fun L=>ADet.sub (by repeat' constructor) (db L)
     simp[hlt,aa,he,hs,Ar.enc];refine cq (Vd _) ?_;simp
     exact⟨q+1,hlt,Da,hw,rfl⟩
    |false=>
     have nc:oneN a.name=[a.name]:=by unfold oneN;rw[hs];rfl
     rw[nc]at db
     have wa:∀L i,ADet Tryz.prog 158 [.ptr (c.d+1) c.jF 0,.p (.sl 15 (a.body.map St.enc)),I s.pos,.osl 1 [[pS a.name]] 0 i] (L::updF S c (F q)) .un (L::updF S c (F (q+1))):=fun L i=>ADet.toP2 (as1:=[.ptr (c.d+1) c.jF 0,.p (.sl 15 (a.body.map St.enc)),I s.pos]) (as2:=[]) (v:=.osl 1 [[pS a.name]] 0 i) rfl (db L)
     simp[hlt,aa,he,hs,Ar.enc];refine cq (wa _ _) ?_;simp;exact⟨q+1,hlt,Da,hw,rfl⟩
   have aa:¬(q:Int)<(s.arms.length:Int):=by omega
   have Pa:q=s.arms.length:=by omega
   subst Pa
   simp
  |true=>
   by_cases hk:x.kind=2
   .have If:bb=zDl x (s.arms.map armF):=by rw[Re,if_pos hk];unfold mIs;rw[h1];rfl
    have bq:decide (x.kind=2)=true:=decide_eq_true hk
    simp[ho,hm,h2,bq];refine cq (nk _) ?_;simp;refine cq (pc _ _) ?_;simp;refine zF (fun q:Nat=>q<=s.arms.length) (fun q=>([.ptr (c.d+1) c.jF 0,.any,.any,.ptr 0 0 0]++(List.replicate 39 .any++([.p (.sl 3 (s.arms.map Ar.enc)),I s.arms.length,I q]++List.replicate 22 .any)))) (fun q=>[.cells (stV s) 49,.dead]::updF S c (F q)) (fun q=>s.arms.length-q) 0 (Nat.zero_le _) ?_ ?_ ?_
    .simp
    .simp[rb,If]
    intro q hq
    by_cases hlt:q<s.arms.length
    .have aa:(q:Int)<(s.arms.length:Int):=by omega
     have hw:=zB hlt ca
     have Wa:=Gb q hlt
     have Da:s.arms.length-(q+1)<s.arms.length-q:=by omega
     have db:=fun L=>(zGY p s.arms[q].body (ke _ (List.getElem_mem hlt)) s.pos (oneN s.arms[q].name) (F q) (Fb q hlt)).at h L
     have e1:z8 p s.arms[q].body s.pos (oneN s.arms[q].name) (F q)=F (q+1):=Wa.symm
     rw[e1]at db;clear Wa e1
     generalize he:s.arms[q]=a at*
     cases hs:sEq a.name emS with
     |true=>
      have nc:oneN a.name=[]:=by unfold oneN;rw[hs];rfl
      rw[nc]at db
      have Vd:∀L,ADet Tryz.prog 158 [.ptr (c.d+1) c.jF 0,.p (.sl 15 (a.body.map St.enc)),I s.pos,nilS] (L::updF S c (F q)) .un (L::updF S c (F (q+1))):=fun L=>ADet.sub (by repeat' constructor) (db L)
      simp[hlt,aa,he,hs,Ar.enc];refine cq (Vd _) ?_;simp
      exact⟨q+1,hlt,Da,hw,rfl⟩
     |false=>
      have nc:oneN a.name=[a.name]:=by unfold oneN;rw[hs];rfl
      rw[nc]at db
      have wa:∀L i,ADet Tryz.prog 158 [.ptr (c.d+1) c.jF 0,.p (.sl 15 (a.body.map St.enc)),I s.pos,.osl 1 [[pS a.name]] 0 i] (L::updF S c (F q)) .un (L::updF S c (F (q+1))):=fun L i=>ADet.toP2 (as1:=[.ptr (c.d+1) c.jF 0,.p (.sl 15 (a.body.map St.enc)),I s.pos]) (as2:=[]) (v:=.osl 1 [[pS a.name]] 0 i) rfl (db L)
      simp[hlt,aa,he,hs,Ar.enc];refine cq (wa _ _) ?_;simp;exact⟨q+1,hlt,Da,hw,rfl⟩
    have aa:¬(q:Int)<(s.arms.length:Int):=by omega
    have Pa:q=s.arms.length:=by omega
    subst Pa;simp
   have If:bb=false:=by rw[Re,if_neg hk];simp
   simp[ho,hm,h2,hk];refine cq (pc false _) ?_;simp;refine zF (fun q:Nat=>q<=s.arms.length) (fun q=>([.ptr (c.d+1) c.jF 0,.any,.any,.ptr 0 0 0]++(List.replicate 39 .any++([.p (.sl 3 (s.arms.map Ar.enc)),I s.arms.length,I q]++List.replicate 22 .any)))) (fun q=>[.cells (stV s) 49,.dead]::updF S c (F q)) (fun q=>s.arms.length-q) 0 (Nat.zero_le _) ?_ ?_ ?_
   .simp
   .simp[rb,If]
   intro q hq
   by_cases hlt:q<s.arms.length
   .have aa:(q:Int)<(s.arms.length:Int):=by omega
    have hw:=zB hlt ca
    have Wa:=Gb q hlt
    have Da:s.arms.length-(q+1)<s.arms.length-q:=by omega
    have db:=fun L=>(zGY p s.arms[q].body (ke _ (List.getElem_mem hlt)) s.pos (oneN s.arms[q].name) (F q) (Fb q hlt)).at h L
    have e1:z8 p s.arms[q].body s.pos (oneN s.arms[q].name) (F q)=F (q+1):=Wa.symm
    rw[e1]at db;clear Wa e1
    generalize he:s.arms[q]=a at*
    cases hs:sEq a.name emS with
    |true=>
     have nc:oneN a.name=[]:=by unfold oneN;rw[hs];rfl
     rw[nc]at db
     have Vd:∀L,ADet Tryz.prog 158 [.ptr (c.d+1) c.jF 0,.p (.sl 15 (a.body.map St.enc)),I s.pos,nilS] (L::updF S c (F q)) .un (L::updF S c (F (q+1))):=fun L=>ADet.sub (by repeat' constructor) (db L)
     simp[hlt,aa,he,hs,Ar.enc];refine cq (Vd _) ?_;simp
     exact⟨q+1,hlt,Da,hw,rfl⟩
    |false=>
     have nc:oneN a.name=[a.name]:=by unfold oneN;rw[hs];rfl
     rw[nc]at db
     have wa:∀L i,ADet Tryz.prog 158 [.ptr (c.d+1) c.jF 0,.p (.sl 15 (a.body.map St.enc)),I s.pos,.osl 1 [[pS a.name]] 0 i] (L::updF S c (F q)) .un (L::updF S c (F (q+1))):=fun L i=>ADet.toP2 (as1:=[.ptr (c.d+1) c.jF 0,.p (.sl 15 (a.body.map St.enc)),I s.pos]) (as2:=[]) (v:=.osl 1 [[pS a.name]] 0 i) rfl (db L)
     simp[hlt,aa,he,hs,Ar.enc];refine cq (wa _ _) ?_;simp;exact⟨q+1,hlt,Da,hw,rfl⟩
   have aa:¬(q:Int)<(s.arms.length:Int):=by omega
   have Pa:q=s.arms.length:=by omega
   subst Pa;simp
theorem zTG{p:List It}{S:ASt}{c:Cf}{σ:Nf}(h:NAt p S c σ)(s:St)(g:Nf):NAt p ([.cells (stV s) 49,mdO g.made,fnO ⟨0,c.k+c.d+1,2,1⟩ g]::updK S (c.k+c.d) g.fl) ⟨0,c.k+c.d+1,2,1⟩ g:=by
 have hk:=h.k
 refine⟨⟨(hk.updK g.fl).t,(hk.updK g.fl).f,(hk.updK g.fl).l,(hk.updK g.fl).r⟩,rfl,rfl,fun e=>by simp at e,fun e=>by simp at e,by simp⟩
theorem zOe{p:List It}{S:ASt}{c:Cf}{σ:Nf}(h:NAt p S c σ)(s:St)(g g':Nf):updF ([.cells (stV s) 49,mdO g.made,fnO ⟨0,c.k+c.d+1,2,1⟩ g]::updK S (c.k+c.d) g.fl) ⟨0,c.k+c.d+1,2,1⟩ g'=[.cells (stV s) 49,mdO g'.made,fnO ⟨0,c.k+c.d+1,2,1⟩ g']::updK S (c.k+c.d) g'.fl:=by
 have e:=zGf [.cells (stV s) 49,mdO g.made,fnO ⟨0,c.k+c.d+1,2,1⟩ g] (updK S (c.k+c.d) g.fl) (c.k+c.d) g'.fl
 rw[zMK (e:=c.k+c.d) h.k]at e
 show set2 (set2 (updK ([.cells (stV s) 49,mdO g.made,fnO ⟨0,c.k+c.d+1,2,1⟩ g]::updK S (c.k+c.d) g.fl) (c.k+c.d+1) g'.fl) 0 1 (mdO g'.made)) 0 2 (fnO ⟨0,c.k+c.d+1,2,1⟩ g')=_
 rw[e,zF5,zF5];rfl
theorem zbf(p:List It)(s:St)(Sm:∀x∈s.body,StmC p x)(σ:Nf)(hb:BdN σ (2+(s.names.length+(s.body.map St.nd).sum))):
  FC p 157 [.agg (stV s)] σ ⟨σ.made,σ.count,σ.opn,(zB5 p s.body s.pos s.names (σ.fl++zH (decide (0<σ.opn)) 61 s.pos)).fl++zH (decide ((zB5 p s.body s.pos s.names (σ.fl++zH (decide (0<σ.opn)) 61 s.pos)).count<=60)) 4 s.pos⟩:=fun S c h=>by
 refine ADet.okA call157 1 3 rfl rfl fun na=>?_
 have ca:s.names.length<=maxLen:=okl na
 have hs:=zAV h
 have ho:=h.n
 simp only[fnO]at ho
 obtain⟨g0,Hk⟩:∃g0:Nf,g0=⟨[],0,0,σ.fl++zH (decide (0<σ.opn)) 61 s.pos⟩:=⟨_,rfl⟩
 obtain⟨F,hF⟩:∃F:Nat->Nf,F=fun q=>(Nf.mkS (s.names.take q) s.pos g0).1:=⟨_,rfl⟩
 have rb:F 0=g0:=by rw[hF];simp[Nf.mkS]
 have Xb:F s.names.length=(Nf.mkS s.names s.pos g0).1:=by rw[hF];simp
 have Gb:∀q (hq:q<s.names.length),F (q+1)=(F q).mk1 s.names[q] s.pos:=fun q hq=>by
  rw[hF];simp only[List.take_succ_eq_append_getElem hq,zKv];simp[Nf.mkS]
 have Lf:BdN g0 (1+(s.names.length+(s.body.map St.nd).sum)):=by
  obtain⟨b1,b2,b3⟩:=hb
  have:=zr (decide (0<σ.opn)) 61 s.pos
  rw[Hk];exact⟨by simp only[List.length_append];omega,by simp only;omega,by simp only;omega⟩
 have Fb:∀q,q<s.names.length->BdN (F q) 1:=fun q hq=>by
  have e2:=(zAT (s.names.take q) s.pos g0).1
  rw[hF];exact Lf.near e2 (by simp;omega)
 have Pf:BdN (F s.names.length) (s.body.map St.nd).sum:=by
  rw[Xb];exact Lf.near (zAT s.names s.pos g0).1 (by omega)
 obtain⟨G,hG⟩:∃G,G=Nf.undo (St.nms p s.body (F s.names.length)).2 (St.nms p s.body (F s.names.length)).1:=⟨_,rfl⟩
 have Gn:G.fl.length+1<=4294967296:=by
  have e1:=(zBj p (l:=s.body) (fun x _ σ=>zCS p x σ) (F s.names.length)).1
  have e2:=e1.trans (zEr (St.nms p s.body (F s.names.length)).2 (St.nms p s.body (F s.names.length)).1)
  rw[<-hG]at e2
  have:=Pf.1
  have:=e2.2.1
  omega
 have qg:zB5 p s.body s.pos s.names (σ.fl++zH (decide (0<σ.opn)) 61 s.pos)=G:=by rw[hG,Xb,Hk];rfl
 rw[qg]
 have hE:∀S:ASt,ADet Tryz.prog 192 [] S .un S:=fun S=>by
  refine ADet.intro mixed call192 func192 rfl ?_;simp[ntmps192]
 have Ee:=fun b L=>(zEY p b 61 s.pos σ.fl (by have:=hb.1;omega)).inF0 h L
 have e0:updF S c ⟨σ.made,σ.count,σ.opn,σ.fl++zH (decide (0<σ.opn)) 61 s.pos⟩=updK S (c.k+c.d) g0.fl:=by rw[<-zJA h,Hk];rfl
 have e1:updF S c ⟨σ.made,σ.count,σ.opn,G.fl++zH (decide (G.count<=60)) 4 s.pos⟩=updK S (c.k+c.d) (G.fl++zH (decide (G.count<=60)) 4 s.pos):=by rw[<-zJA h];rfl
 rw[e1]
 have Ca:=zTF p s.body Sm (F s.names.length) Pf 192 [] (St.nms p s.body (F s.names.length)).1 _ ⟨0,c.k+c.d+1,2,1⟩ (zTG h s (F s.names.length)) (fun L=>hE _)
 rw[<-hG,zOe h]at Ca
 have Sa:∀q (hq:q<s.names.length),ADet Tryz.prog 153 [.ptr 0 2 0,Sg s.names[q],I s.pos] ([.cells (stV s) 49,mdO (F q).made,fnO ⟨0,c.k+c.d+1,2,1⟩ (F q)]::updK S (c.k+c.d) (F q).fl) (clo ⟨0,c.k+c.d+1,2,1⟩ (s.names[q],mIs (F q).made s.names[q])) ([.cells (stV s) 49,mdO (F (q+1)).made,fnO ⟨0,c.k+c.d+1,2,1⟩ (F (q+1))]::updK S (c.k+c.d) (F (q+1)).fl):=fun q hq=>by
  have wa:=Fb q hq
  have:=zbd p s.names[q] s.pos (F q) (by have:=wa.1;omega) (by have:=wa.2.1;omega) _ ⟨0,c.k+c.d+1,2,1⟩ (zTG h s (F q))
  rw[zOe h,<-Gb q hq]at this;exact this
 have xd:∀L:List AObj,ADet Tryz.prog 60 [.ptr (c.k+c.d+1) 3 0,B (decide (G.count<=60)),I 4,I s.pos] (L::updK S (c.k+c.d) G.fl) .un (L::updK S (c.k+c.d) (G.fl++zH (decide (G.count<=60)) 4 s.pos)):=fun L=>(zEY p _ 4 s.pos G.fl Gn).at h.k L
 refine ADet.intro mixed call157 func157 rfl ?_;simp[ntmps157];refine dB [] (by kernel_rfl) ?_
 have hA:=h.updF ⟨σ.made,σ.count,σ.opn,σ.fl++zH (decide (0<σ.opn)) 61 s.pos⟩
 rw[e0]at hA
 have yr:=hA.n
 simp only[fnO]at yr
 have dq:∀L:List AObj,ADet Tryz.prog 60 [.ptr (c.k+c.d+1) 3 0,B (decide (0<σ.opn)),I 61,I s.pos] (L::S) .un (L::updK S (c.k+c.d) g0.fl):=fun L=>by
  have:=Ee (decide (0<σ.opn)) L
  rw[e0]at this;exact this
 simp[ho];refine cq (dq _) ?_;simp[yr];refine cq (zL6 _ [.cells (stV s) 49] (c.k+c.d+1)) ?_;simp;refine zF (fun q:Nat=>q<=s.names.length) (fun q=>([.ptr (c.d+1) c.jF 0,.any,.any,.ptr 0 0 0,.ptr 0 2 0]++(List.replicate 20 .any++([.p (.sl 1 (s.names.map fun s=>[pS s])),I s.names.length,I q]++List.replicate 25 .any)))) (fun q=>[.cells (stV s) 49,mdO (F q).made,fnO ⟨0,c.k+c.d+1,2,1⟩ (F q)]::updK S (c.k+c.d) (F q).fl) (fun q=>s.names.length-q) 0 (Nat.zero_le _) ?_ ?_ ?_
 .simp[strs]
 .simp[rb]
  rw[Hk];exact⟨rfl,⟨rfl,ze _⟩,trivial⟩
 intro q hq
 by_cases hlt:q<s.names.length
 .have aa:(q:Int)<(s.names.length:Int):=by omega
  have hw:=zB hlt
  have Da:s.names.length-(q+1)<s.names.length-q:=by omega
  have vu:=Sa q hlt
  have wu:∀n (τ:Nf),AObj.cut n (mdO τ.made)=mdO τ.made:=fun n τ=>by unfold mdO mdE AObj.cut;simp[AV.cut,AV.cuts]
  generalize he:s.names[q]=x at*
  simp[hlt,aa,he];refine cq vu ?_;simp;refine⟨q+1,hlt,Da,hw,?_,rfl⟩
  show wkL [AObj.cut 3 (mdO (F (q+1)).made),AObj.cut 3 (fnO ⟨0,c.k+c.d+1,2,1⟩ (F (q+1)))] _
  rw[wu];exact⟨rfl,⟨rfl,ze _⟩,trivial⟩
 have aa:¬(q:Int)<(s.names.length:Int):=by omega
 have Pa:q=s.names.length:=by omega
 subst Pa;simp;refine cq Ca ?_;simp;refine dB [] (by kernel_rfl) ?_
 have xu:get2 (updK S (c.k+c.d) G.fl) c.d c.jF=some (.cells [.ptr c.k 3 0,.mp 0 c.jM,I σ.count,I σ.opn] 109):=by
  have:=(h.updF ⟨σ.made,σ.count,σ.opn,G.fl⟩).n
  rw[<-zJA h]at this;exact this
 simp[xu,fnO]
 have Rk:decide ((G.count:Int)<=60)=decide (G.count<=60):=decide_eq_decide.2 (by omega)
 rw[Rk];refine cq (xd _) ?_;simp
end Go.Proofs.YtdflkegnmmkkoaaGreatDoor
namespace Go.Proofs.YtdflkegnmmkkoaaGreatDoor
open Go.RowKit _root_.Go.Proofs.Tryz
attribute [local simp] List.replicate List.range List.range.loop
theorem zAl{s:St}{d:Int}(h:s.whole d=true):∀e∈s.u3,e.whole (d-1)=true:=fun e he=>by
 rw[zC]at h;simp only[Bool.and_eq_true]at h
 have hx:=h.2.2.2.2.2.1
 unfold exsB zv at hx;simp only[Bool.and_eq_true,decide_eq_true_eq]at hx;rw[List.take_of_length_le (by omega)]at hx
 have:=List.all_eq_true.1 hx.2 e he
 simp only[Bool.and_eq_true]at this;exact this.2
theorem zBa:∀{L A B:List AObj},wkL L L->wkL A B->wkL (L++A) (L++B)
 | [],A,B,_,h=>h
 |o::L,A,B,hL,h=>by
  have key:wkL [o] [o]/\wkL L L:=by cases o<;>simp_all[wkL]
  exact zK0 key.1 (zBa key.2 h)
theorem zZG(p:List It)(hp:∀x∈p,x.fields.length<=20000)(s:St)(d:Int)(Rc:s.whole d=true)(i1:∀x∈s.body,StmC p x)(i2:∀x∈s.els,StmC p x)(i3:∀a∈s.arms,∀x∈a.body,StmC p x)(hop:s.op=3):StmC p s:=by
 intro σ hb S0 c0 h0 L gd
 have va:=zAl Rc
 obtain⟨c,hc⟩:∃c,c=c0.up:=⟨_,rfl⟩
 obtain⟨S,hS⟩:∃S,S=L::S0:=⟨_,rfl⟩
 have h:NAt p S c σ:=by rw[hc,hS];exact h0.cons L
 have kd:∀τ,updF S c τ=L::updF S0 c0 τ:=fun τ=>by rw[hc,hS];exact zAo L S0 c0 τ
 have me:c0.d+1=c.d:=by rw[hc];rfl
 have td:c0.jF=c.jF:=by rw[hc];rfl
 rw[me,td,<-hS]
 have hs:=zAV h
 have ef:=stNd s
 obtain⟨F,hF⟩:∃F:Nat->Nf,F=fun q=>σ.add ((s.u3.take q).flatMap (Ex.nm p σ.made)):=⟨_,rfl⟩
 have rb:F 0=σ:=by rw[hF];simp[Nf.add_nil]
 obtain⟨σ1,Ta⟩:∃σ1,σ1=σ.add (s.u3.flatMap (Ex.nm p σ.made)):=⟨_,rfl⟩
 have Xb:F s.u3.length=σ1:=by rw[hF,Ta];simp
 have Gb:∀q (hq:q<s.u3.length),F (q+1)=(F q).add (s.u3[q].nm p (F q).made):=fun q hq=>by
  rw[hF];simp only[List.take_succ_eq_append_getElem hq,List.flatMap_append,Nf.add_add];simp[Nf.add]
 have Fb:∀q (hq:q<s.u3.length),(F q).fl.length+s.u3[q].nd<=4000000000:=fun q hq=>by
  have e1:=zCJ Ex.nd hq
  have e2:=zAG p σ.made (s.u3.take q)
  have:=hb.1
  rw[hF];simp only[Nf.add,List.length_append];omega
 have wa:BdN σ1 (s.nd-(s.u3.map Ex.nd).sum):=by
  rw[Ta];exact hb.near (Near.add σ (zAG p σ.made s.u3)) (by omega)
 have ya:σ1.made=σ.made:=by rw[Ta];rfl
 have Ae:σ1.count=σ.count:=by rw[Ta];rfl
 have Fa:σ1.opn=σ.opn:=by rw[Ta];rfl
 have Ja:=stNm p s σ
 rw[<-Ta]at Ja;clear hF
 have Fe:(s.nm p σ).2=[]:=by rw[Ja];simp[hop]
 have Ha:(s.nm p σ).1=σ1.add (zH (mIs σ1.made s.place.name) 60 s.pos):=by rw[Ja];simp[hop,ya]
 rw[Fe,Ha];refine⟨[.dead],.p (.sl 1 []),?_,.inl ⟨rfl,rfl,1,rfl⟩⟩;refine ADet.less (.p (.nil 1)) (ADet.after (S':=(L++[.cells ((stV s).map (AV.mrg L.length)) 49])::updF S0 c0 (σ1.add (zH (mIs σ1.made s.place.name) 60 s.pos))) ⟨zBa gd (by trivial),rfl⟩ ?_)
 have Tm:=fun L=>(zTA p s.place.name s.pos σ1 (by have:=wa.1;omega)).at h L
 refine ADet.okA call118 1 10 rfl rfl fun na=>?_
 have ca:=okl na
 refine ADet.merge mixed call118 func118 rfl ?_;simp[ntmps118];refine zF (fun q:Nat=>q<=s.u3.length) (fun q=>([.ptr (c.d+1) c.jF 0,.any,.any,.ptr 0 0 0,nilS,.any,.any,.any,.any,.any,.any,.any,.any,.p (.sl 8 (s.u3.map Ex.enc)),I s.u3.length,I q]++List.replicate 171 .any)) (fun q=>[.cells (stV s) 49]::updF S c (F q)) (fun q=>s.u3.length-q) 0 (Nat.zero_le _) ?_ ?_ ?_
 .simp
 .simp[rb,hs]
 intro q hq
 by_cases hlt:q<s.u3.length
 .have aa:(q:Int)<(s.u3.length:Int):=by omega
  have hw:=zB hlt
  have Wa:=Gb q hlt
  have Da:s.u3.length-(q+1)<s.u3.length-q:=by omega
  have uc:=fun L=>(zIv p s.u3[q] _ (F q) (va _ (List.getElem_mem hlt)) (Fb q hlt)).at h L
  rw[<-Wa]at uc
  generalize he:s.u3[q]=e at*
  simp[hlt,aa,he,zm];refine cq (uc _) ?_;simp;exact⟨q+1,hlt,Da,hw,rfl⟩
 have aa:¬(q:Int)<(s.u3.length:Int):=by omega
 have Pa:q=s.u3.length:=by omega
 subst Pa;rw[Xb];simp[hop];refine cq (Tm _) ?_
 try simp
 rw[kd];simp[zBX,AObj.mrg,AV.mrg,AV.mrgs]
 try exact hop
theorem zZH(p:List It)(hp:∀x∈p,x.fields.length<=20000)(s:St)(d:Int)(Rc:s.whole d=true)(i1:∀x∈s.body,StmC p x)(i2:∀x∈s.els,StmC p x)(i3:∀a∈s.arms,∀x∈a.body,StmC p x)(hop:s.op=5):StmC p s:=by
 intro σ hb S0 c0 h0 L gd
 have va:=zAl Rc
 obtain⟨c,hc⟩:∃c,c=c0.up:=⟨_,rfl⟩
 obtain⟨S,hS⟩:∃S,S=L::S0:=⟨_,rfl⟩
 have h:NAt p S c σ:=by rw[hc,hS];exact h0.cons L
 have kd:∀τ,updF S c τ=L::updF S0 c0 τ:=fun τ=>by rw[hc,hS];exact zAo L S0 c0 τ
 have me:c0.d+1=c.d:=by rw[hc];rfl
 have td:c0.jF=c.jF:=by rw[hc];rfl
 rw[me,td,<-hS]
 have hs:=zAV h
 have ef:=stNd s
 obtain⟨F,hF⟩:∃F:Nat->Nf,F=fun q=>σ.add ((s.u3.take q).flatMap (Ex.nm p σ.made)):=⟨_,rfl⟩
 have rb:F 0=σ:=by rw[hF];simp[Nf.add_nil]
 obtain⟨σ1,Ta⟩:∃σ1,σ1=σ.add (s.u3.flatMap (Ex.nm p σ.made)):=⟨_,rfl⟩
 have Xb:F s.u3.length=σ1:=by rw[hF,Ta];simp
 have Gb:∀q (hq:q<s.u3.length),F (q+1)=(F q).add (s.u3[q].nm p (F q).made):=fun q hq=>by
  rw[hF];simp only[List.take_succ_eq_append_getElem hq,List.flatMap_append,Nf.add_add];simp[Nf.add]
 have Fb:∀q (hq:q<s.u3.length),(F q).fl.length+s.u3[q].nd<=4000000000:=fun q hq=>by
  have e1:=zCJ Ex.nd hq
  have e2:=zAG p σ.made (s.u3.take q)
  have:=hb.1
  rw[hF];simp only[Nf.add,List.length_append];omega
 have wa:BdN σ1 (s.nd-(s.u3.map Ex.nd).sum):=by
  rw[Ta];exact hb.near (Near.add σ (zAG p σ.made s.u3)) (by omega)
 have ya:σ1.made=σ.made:=by rw[Ta];rfl
 have Ae:σ1.count=σ.count:=by rw[Ta];rfl
 have Fa:σ1.opn=σ.opn:=by rw[Ta];rfl
 have Ja:=stNm p s σ
 rw[<-Ta]at Ja;clear hF
 have Fe:(s.nm p σ).2=[]:=by rw[Ja];simp[hop]
 have Ha:(s.nm p σ).1=σ1.add (zH (mIs σ1.made s.name) 60 s.pos):=by rw[Ja];simp[hop,ya]
 rw[Fe,Ha];refine⟨[.dead],.p (.sl 1 []),?_,.inl ⟨rfl,rfl,1,rfl⟩⟩;refine ADet.less (.p (.nil 1)) (ADet.after (S':=(L++[.cells ((stV s).map (AV.mrg L.length)) 49])::updF S0 c0 (σ1.add (zH (mIs σ1.made s.name) 60 s.pos))) ⟨zBa gd (by trivial),rfl⟩ ?_)
 have Tm:=fun L=>(zTA p s.name s.pos σ1 (by have:=wa.1;omega)).at h L
 refine ADet.okA call118 1 10 rfl rfl fun na=>?_
 have ca:=okl na
 refine ADet.merge mixed call118 func118 rfl ?_;simp[ntmps118];refine zF (fun q:Nat=>q<=s.u3.length) (fun q=>([.ptr (c.d+1) c.jF 0,.any,.any,.ptr 0 0 0,nilS,.any,.any,.any,.any,.any,.any,.any,.any,.p (.sl 8 (s.u3.map Ex.enc)),I s.u3.length,I q]++List.replicate 171 .any)) (fun q=>[.cells (stV s) 49]::updF S c (F q)) (fun q=>s.u3.length-q) 0 (Nat.zero_le _) ?_ ?_ ?_
 .simp
 .simp[rb,hs]
 intro q hq
 by_cases hlt:q<s.u3.length
 .have aa:(q:Int)<(s.u3.length:Int):=by omega
  have hw:=zB hlt
  have Wa:=Gb q hlt
  have Da:s.u3.length-(q+1)<s.u3.length-q:=by omega
  have uc:=fun L=>(zIv p s.u3[q] _ (F q) (va _ (List.getElem_mem hlt)) (Fb q hlt)).at h L
  rw[<-Wa]at uc
  generalize he:s.u3[q]=e at*
  simp[hlt,aa,he,zm];refine cq (uc _) ?_;simp;exact⟨q+1,hlt,Da,hw,rfl⟩
 have aa:¬(q:Int)<(s.u3.length:Int):=by omega
 have Pa:q=s.u3.length:=by omega
 subst Pa;rw[Xb];simp[hop];refine cq (Tm _) ?_
 try simp
 rw[kd];simp[zBX,AObj.mrg,AV.mrg,AV.mrgs]
 try exact hop
theorem zZI(p:List It)(hp:∀x∈p,x.fields.length<=20000)(s:St)(d:Int)(Rc:s.whole d=true)(i1:∀x∈s.body,StmC p x)(i2:∀x∈s.els,StmC p x)(i3:∀a∈s.arms,∀x∈a.body,StmC p x)(hop:s.op=8):StmC p s:=by
 intro σ hb S0 c0 h0 L gd
 have va:=zAl Rc
 obtain⟨c,hc⟩:∃c,c=c0.up:=⟨_,rfl⟩
 obtain⟨S,hS⟩:∃S,S=L::S0:=⟨_,rfl⟩
 have h:NAt p S c σ:=by rw[hc,hS];exact h0.cons L
 have kd:∀τ,updF S c τ=L::updF S0 c0 τ:=fun τ=>by rw[hc,hS];exact zAo L S0 c0 τ
 have me:c0.d+1=c.d:=by rw[hc];rfl
 have td:c0.jF=c.jF:=by rw[hc];rfl
 rw[me,td,<-hS]
 have hs:=zAV h
 have ef:=stNd s
 obtain⟨F,hF⟩:∃F:Nat->Nf,F=fun q=>σ.add ((s.u3.take q).flatMap (Ex.nm p σ.made)):=⟨_,rfl⟩
 have rb:F 0=σ:=by rw[hF];simp[Nf.add_nil]
 obtain⟨σ1,Ta⟩:∃σ1,σ1=σ.add (s.u3.flatMap (Ex.nm p σ.made)):=⟨_,rfl⟩
 have Xb:F s.u3.length=σ1:=by rw[hF,Ta];simp
 have Gb:∀q (hq:q<s.u3.length),F (q+1)=(F q).add (s.u3[q].nm p (F q).made):=fun q hq=>by
  rw[hF];simp only[List.take_succ_eq_append_getElem hq,List.flatMap_append,Nf.add_add];simp[Nf.add]
 have Fb:∀q (hq:q<s.u3.length),(F q).fl.length+s.u3[q].nd<=4000000000:=fun q hq=>by
  have e1:=zCJ Ex.nd hq
  have e2:=zAG p σ.made (s.u3.take q)
  have:=hb.1
  rw[hF];simp only[Nf.add,List.length_append];omega
 have wa:BdN σ1 (s.nd-(s.u3.map Ex.nd).sum):=by
  rw[Ta];exact hb.near (Near.add σ (zAG p σ.made s.u3)) (by omega)
 have ya:σ1.made=σ.made:=by rw[Ta];rfl
 have Ae:σ1.count=σ.count:=by rw[Ta];rfl
 have Fa:σ1.opn=σ.opn:=by rw[Ta];rfl
 have Ja:=stNm p s σ
 rw[<-Ta]at Ja;clear hF
 have Fe:(s.nm p σ).2=[]:=by rw[Ja];simp[hop]
 have Ha:(s.nm p σ).1=s.arms.foldl (fun σ a=>a.nm p s.pos σ) (σ1.add (zH (mIs σ1.made s.name&&zDP p s.u2 (s.arms.map armF)) 60 s.pos)):=by rw[Ja];simp[hop,ya]
 rw[Fe,Ha];refine⟨[.dead],.p (.sl 1 []),?_,.inl ⟨rfl,rfl,1,rfl⟩⟩;refine ADet.less (.p (.nil 1)) (ADet.after (S':=(L++[.cells ((stV s).map (AV.mrg L.length)) 49])::updF S0 c0 (s.arms.foldl (fun σ a=>a.nm p s.pos σ) (σ1.add (zH (mIs σ1.made s.name&&zDP p s.u2 (s.arms.map armF)) 60 s.pos)))) ⟨zBa gd (by trivial),rfl⟩ ?_)
 have cl:=Rc
 rw[zC]at cl;simp only[Bool.and_eq_true,Bool.or_eq_true,decide_eq_true_eq]at cl
 have Dd:s.arms.length<=20000:=by
  have:=cl.2.2.2.2.2.2.2.2
  unfold zv at this;simp only[Bool.and_eq_true,decide_eq_true_eq]at this;omega
 have yu:=fun L=>(zbe p hp s i3 Dd σ1 (wa.near (Near.refl σ1) (by omega))).at h L
 refine ADet.okA call118 1 10 rfl rfl fun na=>?_
 have ca:=okl na
 refine ADet.merge mixed call118 func118 rfl ?_;simp[ntmps118];refine zF (fun q:Nat=>q<=s.u3.length) (fun q=>([.ptr (c.d+1) c.jF 0,.any,.any,.ptr 0 0 0,nilS,.any,.any,.any,.any,.any,.any,.any,.any,.p (.sl 8 (s.u3.map Ex.enc)),I s.u3.length,I q]++List.replicate 171 .any)) (fun q=>[.cells (stV s) 49]::updF S c (F q)) (fun q=>s.u3.length-q) 0 (Nat.zero_le _) ?_ ?_ ?_
 .simp
 .simp[rb,hs]
 intro q hq
 by_cases hlt:q<s.u3.length
 .have aa:(q:Int)<(s.u3.length:Int):=by omega
  have hw:=zB hlt
  have Wa:=Gb q hlt
  have Da:s.u3.length-(q+1)<s.u3.length-q:=by omega
  have uc:=fun L=>(zIv p s.u3[q] _ (F q) (va _ (List.getElem_mem hlt)) (Fb q hlt)).at h L
  rw[<-Wa]at uc
  generalize he:s.u3[q]=e at*
  simp[hlt,aa,he,zm];refine cq (uc _) ?_;simp;exact⟨q+1,hlt,Da,hw,rfl⟩
 have aa:¬(q:Int)<(s.u3.length:Int):=by omega
 have Pa:q=s.u3.length:=by omega
 subst Pa;rw[Xb];simp[hop];rw[<-hop];refine cq (yu _) ?_
 try simp
 rw[kd];simp[zBX,AObj.mrg,AV.mrg,AV.mrgs]
 try exact hop
theorem zWH(p:List It)(hp:∀x∈p,x.fields.length<=20000)(s:St)(d:Int)(Rc:s.whole d=true)(i1:∀x∈s.body,StmC p x)(i2:∀x∈s.els,StmC p x)(i3:∀a∈s.arms,∀x∈a.body,StmC p x)(hop:s.op=10):StmC p s:=by
 intro σ hb S0 c0 h0 L gd
 have va:=zAl Rc
 obtain⟨c,hc⟩:∃c,c=c0.up:=⟨_,rfl⟩
 obtain⟨S,hS⟩:∃S,S=L::S0:=⟨_,rfl⟩
 have h:NAt p S c σ:=by rw[hc,hS];exact h0.cons L
 have kd:∀τ,updF S c τ=L::updF S0 c0 τ:=fun τ=>by rw[hc,hS];exact zAo L S0 c0 τ
 have me:c0.d+1=c.d:=by rw[hc];rfl
 have td:c0.jF=c.jF:=by rw[hc];rfl
 rw[me,td,<-hS]
 have hs:=zAV h
 have ef:=stNd s
 obtain⟨F,hF⟩:∃F:Nat->Nf,F=fun q=>σ.add ((s.u3.take q).flatMap (Ex.nm p σ.made)):=⟨_,rfl⟩
 have rb:F 0=σ:=by rw[hF];simp[Nf.add_nil]
 obtain⟨σ1,Ta⟩:∃σ1,σ1=σ.add (s.u3.flatMap (Ex.nm p σ.made)):=⟨_,rfl⟩
 have Xb:F s.u3.length=σ1:=by rw[hF,Ta];simp
 have Gb:∀q (hq:q<s.u3.length),F (q+1)=(F q).add (s.u3[q].nm p (F q).made):=fun q hq=>by
  rw[hF];simp only[List.take_succ_eq_append_getElem hq,List.flatMap_append,Nf.add_add];simp[Nf.add]
 have Fb:∀q (hq:q<s.u3.length),(F q).fl.length+s.u3[q].nd<=4000000000:=fun q hq=>by
  have e1:=zCJ Ex.nd hq
  have e2:=zAG p σ.made (s.u3.take q)
  have:=hb.1
  rw[hF];simp only[Nf.add,List.length_append];omega
 have wa:BdN σ1 (s.nd-(s.u3.map Ex.nd).sum):=by
  rw[Ta];exact hb.near (Near.add σ (zAG p σ.made s.u3)) (by omega)
 have ya:σ1.made=σ.made:=by rw[Ta];rfl
 have Ae:σ1.count=σ.count:=by rw[Ta];rfl
 have Fa:σ1.opn=σ.opn:=by rw[Ta];rfl
 have Ja:=stNm p s σ
 rw[<-Ta]at Ja;clear hF
 have eq:σ.fl++s.u3.flatMap (Ex.nm p σ.made)=σ1.fl:=by rw[Ta];rfl
 have Fe:(s.nm p σ).2=[]:=by rw[Ja];simp[hop]
 have Ha:(s.nm p σ).1=⟨σ1.made,σ1.count,σ1.opn,(zB5 p s.body s.pos s.names (σ1.fl++zH (decide (0<σ1.opn)) 61 s.pos)).fl++zH (decide ((zB5 p s.body s.pos s.names (σ1.fl++zH (decide (0<σ1.opn)) 61 s.pos)).count<=60)) 4 s.pos⟩:=by rw[Ja];simp[hop,ya,Ae,Fa,eq]
 rw[Fe,Ha];refine⟨[.dead],.p (.sl 1 []),?_,.inl ⟨rfl,rfl,1,rfl⟩⟩;refine ADet.less (.p (.nil 1)) (ADet.after (S':=(L++[.cells ((stV s).map (AV.mrg L.length)) 49])::updF S0 c0 (⟨σ1.made,σ1.count,σ1.opn,(zB5 p s.body s.pos s.names (σ1.fl++zH (decide (0<σ1.opn)) 61 s.pos)).fl++zH (decide ((zB5 p s.body s.pos s.names (σ1.fl++zH (decide (0<σ1.opn)) 61 s.pos)).count<=60)) 4 s.pos⟩)) ⟨zBa gd (by trivial),rfl⟩ ?_)
 have Au:=fun L=>(zbf p s i1 σ1 (wa.near (Near.refl σ1) (by omega))).at h L
 refine ADet.okA call118 1 10 rfl rfl fun na=>?_
 have ca:=okl na
 refine ADet.merge mixed call118 func118 rfl ?_;simp[ntmps118];refine zF (fun q:Nat=>q<=s.u3.length) (fun q=>([.ptr (c.d+1) c.jF 0,.any,.any,.ptr 0 0 0,nilS,.any,.any,.any,.any,.any,.any,.any,.any,.p (.sl 8 (s.u3.map Ex.enc)),I s.u3.length,I q]++List.replicate 171 .any)) (fun q=>[.cells (stV s) 49]::updF S c (F q)) (fun q=>s.u3.length-q) 0 (Nat.zero_le _) ?_ ?_ ?_
 .simp
 .simp[rb,hs]
 intro q hq
 by_cases hlt:q<s.u3.length
 .have aa:(q:Int)<(s.u3.length:Int):=by omega
  have hw:=zB hlt
  have Wa:=Gb q hlt
  have Da:s.u3.length-(q+1)<s.u3.length-q:=by omega
  have uc:=fun L=>(zIv p s.u3[q] _ (F q) (va _ (List.getElem_mem hlt)) (Fb q hlt)).at h L
  rw[<-Wa]at uc
  generalize he:s.u3[q]=e at*
  simp[hlt,aa,he,zm];refine cq (uc _) ?_;simp;exact⟨q+1,hlt,Da,hw,rfl⟩
 have aa:¬(q:Int)<(s.u3.length:Int):=by omega
 have Pa:q=s.u3.length:=by omega
 subst Pa;rw[Xb];simp[hop];rw[<-hop];refine cq (Au _) ?_
 try simp
 rw[kd];simp[zBX,AObj.mrg,AV.mrg,AV.mrgs]
 try exact hop
theorem zOf(S:ASt)(c:Cf)(σ:Nf)(n:Nat):set2 (updF S c σ) c.d c.jF (fnO c ⟨σ.made,σ.count,n,σ.fl⟩)=updF S c ⟨σ.made,σ.count,n,σ.fl⟩:=by
 unfold updF;rw[zBW]
theorem zNJ{p:List It}{l:List St}{pos:Int}{σ τ:Nf}(hl:∀s∈l,StmC p s)(hb:BdN σ (l.map St.nd).sum)(hτ:τ=z8 p l pos [] σ){S:ASt}{c:Cf}{σ0:Nf}(h:NAt p S c σ0)(L:List AObj):ADet Tryz.prog 158 [.ptr (c.d+1) c.jF 0,.p (.sl 15 (l.map St.enc)),I pos,nilS] (L::updF S c σ) .un (L::updF S c τ):=by
 subst hτ;exact ADet.sub (by repeat' constructor) ((zGY p l hl pos [] σ (by simpa using hb)).at h L)
theorem zZJ{p:List It}{l:List St}{pos:Int}{s:BA}{σ τ:Nf}(hl:∀s∈l,StmC p s)(hb:BdN σ (1+(l.map St.nd).sum))(hτ:τ=z8 p l pos [s] σ){S:ASt}{c:Cf}{σ0:Nf}(h:NAt p S c σ0)(L:List AObj)(i:Nat):ADet Tryz.prog 158 [.ptr (c.d+1) c.jF 0,.p (.sl 15 (l.map St.enc)),I pos,.osl 1 [[pS s]] 0 i] (L::updF S c σ) .un (L::updF S c τ):=by
 subst hτ;exact ADet.toP2 (as1:=[.ptr (c.d+1) c.jF 0,.p (.sl 15 (l.map St.enc)),I pos]) (as2:=[]) (v:=.osl 1 [[pS s]] 0 i) rfl ((zGY p l hl pos [s] σ hb).at h L)
theorem zWI(p:List It)(hp:∀x∈p,x.fields.length<=20000)(s:St)(d:Int)(Rc:s.whole d=true)(i1:∀x∈s.body,StmC p x)(i2:∀x∈s.els,StmC p x)(i3:∀a∈s.arms,∀x∈a.body,StmC p x)(hop:s.op=11):StmC p s:=by
 intro σ hb S0 c0 h0 L gd
 have va:=zAl Rc
 obtain⟨c,hc⟩:∃c,c=c0.up:=⟨_,rfl⟩
 obtain⟨S,hS⟩:∃S,S=L::S0:=⟨_,rfl⟩
 have h:NAt p S c σ:=by rw[hc,hS];exact h0.cons L
 have kd:∀τ,updF S c τ=L::updF S0 c0 τ:=fun τ=>by rw[hc,hS];exact zAo L S0 c0 τ
 have me:c0.d+1=c.d:=by rw[hc];rfl
 have td:c0.jF=c.jF:=by rw[hc];rfl
 rw[me,td,<-hS]
 have hs:=zAV h
 have ef:=stNd s
 obtain⟨F,hF⟩:∃F:Nat->Nf,F=fun q=>σ.add ((s.u3.take q).flatMap (Ex.nm p σ.made)):=⟨_,rfl⟩
 have rb:F 0=σ:=by rw[hF];simp[Nf.add_nil]
 obtain⟨σ1,Ta⟩:∃σ1,σ1=σ.add (s.u3.flatMap (Ex.nm p σ.made)):=⟨_,rfl⟩
 have Xb:F s.u3.length=σ1:=by rw[hF,Ta];simp
 have Gb:∀q (hq:q<s.u3.length),F (q+1)=(F q).add (s.u3[q].nm p (F q).made):=fun q hq=>by
  rw[hF];simp only[List.take_succ_eq_append_getElem hq,List.flatMap_append,Nf.add_add];simp[Nf.add]
 have Fb:∀q (hq:q<s.u3.length),(F q).fl.length+s.u3[q].nd<=4000000000:=fun q hq=>by
  have e1:=zCJ Ex.nd hq
  have e2:=zAG p σ.made (s.u3.take q)
  have:=hb.1
  rw[hF];simp only[Nf.add,List.length_append];omega
 have wa:BdN σ1 (s.nd-(s.u3.map Ex.nd).sum):=by
  rw[Ta];exact hb.near (Near.add σ (zAG p σ.made s.u3)) (by omega)
 have ya:σ1.made=σ.made:=by rw[Ta];rfl
 have Ae:σ1.count=σ.count:=by rw[Ta];rfl
 have Fa:σ1.opn=σ.opn:=by rw[Ta];rfl
 have Ja:=stNm p s σ
 rw[<-Ta]at Ja;clear hF
 obtain⟨τ,hτ⟩:∃τ,τ=z8 p s.body s.pos [s.name] (σ1.add (zH (mIs σ1.made s.place.name) 60 s.pos)):=⟨_,rfl⟩
 have Fe:(s.nm p σ).2=[]:=by rw[Ja];simp[hop]
 have Ha:(s.nm p σ).1=τ:=by rw[Ja];simp[hop,hτ,ya]
 rw[Fe,Ha];refine⟨[.dead,.dead],.p (.sl 1 []),?_,.inl ⟨rfl,rfl,2,rfl⟩⟩;refine ADet.less (.p (.nil 1)) (ADet.after (S':=(L++[.cells ((stV s).map (AV.mrg L.length)) 49,.tok 9 1 1])::updF S0 c0 (τ)) ⟨zBa gd (by trivial),rfl⟩ ?_)
 have Tm:=fun L=>(zTA p s.place.name s.pos σ1 (by have:=wa.1;omega)).at h L
 have si:=fun L i=>zZJ i1 (wa.near (Near.add σ1 (zr (mIs σ1.made s.place.name) 60 s.pos)) (by omega)) hτ h L i
 refine ADet.okA call118 1 10 rfl rfl fun na=>?_
 have ca:=okl na
 refine ADet.merge mixed call118 func118 rfl ?_;simp[ntmps118];refine zF (fun q:Nat=>q<=s.u3.length) (fun q=>([.ptr (c.d+1) c.jF 0,.any,.any,.ptr 0 0 0,nilS,.any,.any,.any,.any,.any,.any,.any,.any,.p (.sl 8 (s.u3.map Ex.enc)),I s.u3.length,I q]++List.replicate 171 .any)) (fun q=>[.cells (stV s) 49]::updF S c (F q)) (fun q=>s.u3.length-q) 0 (Nat.zero_le _) ?_ ?_ ?_
 .simp
 .simp[rb,hs]
 intro q hq
 by_cases hlt:q<s.u3.length
 .have aa:(q:Int)<(s.u3.length:Int):=by omega
  have hw:=zB hlt
  have Wa:=Gb q hlt
  have Da:s.u3.length-(q+1)<s.u3.length-q:=by omega
  have uc:=fun L=>(zIv p s.u3[q] _ (F q) (va _ (List.getElem_mem hlt)) (Fb q hlt)).at h L
  rw[<-Wa]at uc
  generalize he:s.u3[q]=e at*
  simp[hlt,aa,he,zm];refine cq (uc _) ?_;simp;exact⟨q+1,hlt,Da,hw,rfl⟩
 have aa:¬(q:Int)<(s.u3.length:Int):=by omega
 have Pa:q=s.u3.length:=by omega
 subst Pa;rw[Xb];simp[hop];refine cq (Tm _) ?_;simp;refine cq (si _ _) ?_
 try simp
 rw[kd];simp[zBX,AObj.mrg,AV.mrg,AV.mrgs]
 try exact hop
theorem zZK(p:List It)(hp:∀x∈p,x.fields.length<=20000)(s:St)(d:Int)(Rc:s.whole d=true)(i1:∀x∈s.body,StmC p x)(i2:∀x∈s.els,StmC p x)(i3:∀a∈s.arms,∀x∈a.body,StmC p x)(hop:s.op=9):StmC p s:=by
 intro σ hb S0 c0 h0 L gd
 have va:=zAl Rc
 obtain⟨c,hc⟩:∃c,c=c0.up:=⟨_,rfl⟩
 obtain⟨S,hS⟩:∃S,S=L::S0:=⟨_,rfl⟩
 have h:NAt p S c σ:=by rw[hc,hS];exact h0.cons L
 have kd:∀τ,updF S c τ=L::updF S0 c0 τ:=fun τ=>by rw[hc,hS];exact zAo L S0 c0 τ
 have me:c0.d+1=c.d:=by rw[hc];rfl
 have td:c0.jF=c.jF:=by rw[hc];rfl
 rw[me,td,<-hS]
 have hs:=zAV h
 have ef:=stNd s
 obtain⟨F,hF⟩:∃F:Nat->Nf,F=fun q=>σ.add ((s.u3.take q).flatMap (Ex.nm p σ.made)):=⟨_,rfl⟩
 have rb:F 0=σ:=by rw[hF];simp[Nf.add_nil]
 obtain⟨σ1,Ta⟩:∃σ1,σ1=σ.add (s.u3.flatMap (Ex.nm p σ.made)):=⟨_,rfl⟩
 have Xb:F s.u3.length=σ1:=by rw[hF,Ta];simp
 have Gb:∀q (hq:q<s.u3.length),F (q+1)=(F q).add (s.u3[q].nm p (F q).made):=fun q hq=>by
  rw[hF];simp only[List.take_succ_eq_append_getElem hq,List.flatMap_append,Nf.add_add];simp[Nf.add]
 have Fb:∀q (hq:q<s.u3.length),(F q).fl.length+s.u3[q].nd<=4000000000:=fun q hq=>by
  have e1:=zCJ Ex.nd hq
  have e2:=zAG p σ.made (s.u3.take q)
  have:=hb.1
  rw[hF];simp only[Nf.add,List.length_append];omega
 have wa:BdN σ1 (s.nd-(s.u3.map Ex.nd).sum):=by
  rw[Ta];exact hb.near (Near.add σ (zAG p σ.made s.u3)) (by omega)
 have ya:σ1.made=σ.made:=by rw[Ta];rfl
 have Ae:σ1.count=σ.count:=by rw[Ta];rfl
 have Fa:σ1.opn=σ.opn:=by rw[Ta];rfl
 have Ja:=stNm p s σ
 rw[<-Ta]at Ja;clear hF
 obtain⟨τ,hτ⟩:∃τ,τ=z8 p s.body s.pos [] ⟨σ1.made,σ1.count,σ1.opn+1,σ1.fl⟩:=⟨_,rfl⟩
 have eq:(⟨σ.made,σ.count,σ.opn+1,σ.fl++s.u3.flatMap (Ex.nm p σ.made)⟩:Nf)=⟨σ1.made,σ1.count,σ1.opn+1,σ1.fl⟩:=by rw[Ta];rfl
 have gv:τ.opn=σ1.opn+1:=by
  have:=zCD p (l:=s.body) (fun x _ σ=>zCS p x σ) s.pos [] ⟨σ1.made,σ1.count,σ1.opn+1,σ1.fl⟩
  rw[hτ];exact this.2.2.2.2
 have Fe:(s.nm p σ).2=[]:=by rw[Ja];simp[hop]
 have Ha:(s.nm p σ).1=⟨τ.made,τ.count,τ.opn-1,τ.fl⟩:=by rw[Ja];simp[hop,hτ,eq]
 rw[Fe,Ha];refine⟨[.dead],.p (.sl 1 []),?_,.inl ⟨rfl,rfl,1,rfl⟩⟩;refine ADet.less (.p (.nil 1)) (ADet.after (S':=(L++[.cells ((stV s).map (AV.mrg L.length)) 49])::updF S0 c0 (⟨τ.made,τ.count,τ.opn-1,τ.fl⟩)) ⟨zBa gd (by trivial),rfl⟩ ?_)
 have Bu:BdN ⟨σ1.made,σ1.count,σ1.opn+1,σ1.fl⟩ (s.body.map St.nd).sum:=⟨by have:=wa.1;simp only;omega,by have:=wa.2.1;simp only;omega,by have:=wa.2.2;simp only;omega⟩
 have si:=fun L=>zNJ i1 Bu hτ h L
 have jn:=zOf S c σ1 (σ1.opn+1)
 have Br:=zOf S c τ (τ.opn-1)
 simp only[fnO]at jn Br
 have g1:=(h.updF σ1).n
 have g2:=(h.updF τ).n
 simp only[fnO]at g1 g2
 have Ee:IntKind.i64.wrap ((σ1.opn:Int)+1)=((σ1.opn+1:Nat):Int):=zB (n:=4294967296) (by have:=wa.2.2;omega) (by unfold maxLen;omega)
 have xd:IntKind.i64.wrap ((τ.opn:Int)-1)=((τ.opn-1:Nat):Int):=by
  have:=wa.2.2
  rw[IntWalk.i64_in _ (by omega)];omega
 refine ADet.okA call118 1 10 rfl rfl fun na=>?_
 have ca:=okl na
 refine ADet.merge mixed call118 func118 rfl ?_;simp[ntmps118];refine zF (fun q:Nat=>q<=s.u3.length) (fun q=>([.ptr (c.d+1) c.jF 0,.any,.any,.ptr 0 0 0,nilS,.any,.any,.any,.any,.any,.any,.any,.any,.p (.sl 8 (s.u3.map Ex.enc)),I s.u3.length,I q]++List.replicate 171 .any)) (fun q=>[.cells (stV s) 49]::updF S c (F q)) (fun q=>s.u3.length-q) 0 (Nat.zero_le _) ?_ ?_ ?_
 .simp
 .simp[rb,hs]
 intro q hq
 by_cases hlt:q<s.u3.length
 .have aa:(q:Int)<(s.u3.length:Int):=by omega
  have hw:=zB hlt
  have Wa:=Gb q hlt
  have Da:s.u3.length-(q+1)<s.u3.length-q:=by omega
  have uc:=fun L=>(zIv p s.u3[q] _ (F q) (va _ (List.getElem_mem hlt)) (Fb q hlt)).at h L
  rw[<-Wa]at uc
  generalize he:s.u3[q]=e at*
  simp[hlt,aa,he,zm];refine cq (uc _) ?_;simp;exact⟨q+1,hlt,Da,hw,rfl⟩
 have aa:¬(q:Int)<(s.u3.length:Int):=by omega
 have Pa:q=s.u3.length:=by omega
 subst Pa;rw[Xb];simp[hop,g1,Ee,zBH];rw[show((σ1.opn:Int)+1)=((σ1.opn+1:Nat):Int)from rfl,jn]
 refine cq (si _) ?_;simp[g2,xd,zBH];rw[Br]
 try simp
 rw[kd];simp[zBX,AObj.mrg,AV.mrg,AV.mrgs]
 try exact hop
theorem zZL(p:List It)(hp:∀x∈p,x.fields.length<=20000)(s:St)(d:Int)(Rc:s.whole d=true)(i1:∀x∈s.body,StmC p x)(i2:∀x∈s.els,StmC p x)(i3:∀a∈s.arms,∀x∈a.body,StmC p x)(o1:¬s.op=1)(o2:¬s.op=2)(o3:¬s.op=3)(o5:¬s.op=5)(Uf:¬s.op=12)(o8:¬s.op=8)(Vf:¬s.op=10)(o9:¬s.op=9)(Xf:¬s.op=11):StmC p s:=by
 intro σ hb S0 c0 h0 L gd
 have va:=zAl Rc
 obtain⟨c,hc⟩:∃c,c=c0.up:=⟨_,rfl⟩
 obtain⟨S,hS⟩:∃S,S=L::S0:=⟨_,rfl⟩
 have h:NAt p S c σ:=by rw[hc,hS];exact h0.cons L
 have kd:∀τ,updF S c τ=L::updF S0 c0 τ:=fun τ=>by rw[hc,hS];exact zAo L S0 c0 τ
 have me:c0.d+1=c.d:=by rw[hc];rfl
 have td:c0.jF=c.jF:=by rw[hc];rfl
 rw[me,td,<-hS]
 have hs:=zAV h
 have ef:=stNd s
 obtain⟨F,hF⟩:∃F:Nat->Nf,F=fun q=>σ.add ((s.u3.take q).flatMap (Ex.nm p σ.made)):=⟨_,rfl⟩
 have rb:F 0=σ:=by rw[hF];simp[Nf.add_nil]
 obtain⟨σ1,Ta⟩:∃σ1,σ1=σ.add (s.u3.flatMap (Ex.nm p σ.made)):=⟨_,rfl⟩
 have Xb:F s.u3.length=σ1:=by rw[hF,Ta];simp
 have Gb:∀q (hq:q<s.u3.length),F (q+1)=(F q).add (s.u3[q].nm p (F q).made):=fun q hq=>by
  rw[hF];simp only[List.take_succ_eq_append_getElem hq,List.flatMap_append,Nf.add_add];simp[Nf.add]
 have Fb:∀q (hq:q<s.u3.length),(F q).fl.length+s.u3[q].nd<=4000000000:=fun q hq=>by
  have e1:=zCJ Ex.nd hq
  have e2:=zAG p σ.made (s.u3.take q)
  have:=hb.1
  rw[hF];simp only[Nf.add,List.length_append];omega
 have wa:BdN σ1 (s.nd-(s.u3.map Ex.nd).sum):=by
  rw[Ta];exact hb.near (Near.add σ (zAG p σ.made s.u3)) (by omega)
 have ya:σ1.made=σ.made:=by rw[Ta];rfl
 have Ae:σ1.count=σ.count:=by rw[Ta];rfl
 have Fa:σ1.opn=σ.opn:=by rw[Ta];rfl
 have Ja:=stNm p s σ
 rw[<-Ta]at Ja;clear hF
 obtain⟨τ1,fq⟩:∃τ,τ=z8 p s.body s.pos [] σ1:=⟨_,rfl⟩
 obtain⟨τ,hτ⟩:∃τ,τ=z8 p s.els s.pos [] τ1:=⟨_,rfl⟩
 have Fe:(s.nm p σ).2=[]:=by rw[Ja];simp[o1,o2,o3,o5,Uf,o8,Vf,o9,Xf]
 have Ha:(s.nm p σ).1=τ:=by rw[Ja];simp[o1,o2,o3,o5,Uf,o8,Vf,o9,Xf,hτ,fq]
 rw[Fe,Ha];refine⟨[.dead],.p (.sl 1 []),?_,.inl ⟨rfl,rfl,1,rfl⟩⟩;refine ADet.less (.p (.nil 1)) (ADet.after (S':=(L++[.cells ((stV s).map (AV.mrg L.length)) 49])::updF S0 c0 (τ)) ⟨zBa gd (by trivial),rfl⟩ ?_)
 have si:=fun L=>zNJ i1 (wa.near (Near.refl σ1) (by omega)) fq h L
 have pf:=zCD p (l:=s.body) (fun x _ σ=>zCS p x σ) s.pos [] σ1
 rw[<-fq]at pf
 have gq:=fun L=>zNJ i2 (wa.near pf (by simp;omega)) hτ h L
 have e1:(s.op==1)=false:=by simpa using o1
 have e2:(s.op==2)=false:=by simpa using o2
 have e3:(s.op==3)=false:=by simpa using o3
 have e5:(s.op==5)=false:=by simpa using o5
 have ep:(s.op==12)=false:=by simpa using Uf
 have e8:(s.op==8)=false:=by simpa using o8
 have Cm:(s.op==10)=false:=by simpa using Vf
 have e9:(s.op==9)=false:=by simpa using o9
 have Ok:(s.op==11)=false:=by simpa using Xf
 refine ADet.okA call118 1 10 rfl rfl fun na=>?_
 have ca:=okl na
 refine ADet.merge mixed call118 func118 rfl ?_;simp[ntmps118];refine zF (fun q:Nat=>q<=s.u3.length) (fun q=>([.ptr (c.d+1) c.jF 0,.any,.any,.ptr 0 0 0,nilS,.any,.any,.any,.any,.any,.any,.any,.any,.p (.sl 8 (s.u3.map Ex.enc)),I s.u3.length,I q]++List.replicate 171 .any)) (fun q=>[.cells (stV s) 49]::updF S c (F q)) (fun q=>s.u3.length-q) 0 (Nat.zero_le _) ?_ ?_ ?_
 .simp
 .simp[rb,hs]
 intro q hq
 by_cases hlt:q<s.u3.length
 .have aa:(q:Int)<(s.u3.length:Int):=by omega
  have hw:=zB hlt
  have Wa:=Gb q hlt
  have Da:s.u3.length-(q+1)<s.u3.length-q:=by omega
  have uc:=fun L=>(zIv p s.u3[q] _ (F q) (va _ (List.getElem_mem hlt)) (Fb q hlt)).at h L
  rw[<-Wa]at uc
  generalize he:s.u3[q]=e at*
  simp[hlt,aa,he,zm];refine cq (uc _) ?_;simp;exact⟨q+1,hlt,Da,hw,rfl⟩
 have aa:¬(q:Int)<(s.u3.length:Int):=by omega
 have Pa:q=s.u3.length:=by omega
 subst Pa;rw[Xb];simp[o1,o2,o3,o5,Uf,o8,Vf,o9,Xf,e1,e2,e3,e5,ep,e8,Cm,e9,Ok];refine cq (si _) ?_;simp;refine cq (gq _) ?_
 try simp
 rw[kd];simp[zBX,AObj.mrg,AV.mrg,AV.mrgs]
 try exact hop
attribute [local simp] List.forall_mem_cons List.contains_cons List.contains_nil List.find?
theorem zZM(p:List It)(hp:∀x∈p,x.fields.length<=20000)(s:St)(d:Int)(Rc:s.whole d=true)(i1:∀x∈s.body,StmC p x)(i2:∀x∈s.els,StmC p x)(i3:∀a∈s.arms,∀x∈a.body,StmC p x)(hop:s.op=1):StmC p s:=by
 intro σ hb S0 c0 h0 L gd
 have va:=zAl Rc
 obtain⟨c,hc⟩:∃c,c=c0.up:=⟨_,rfl⟩
 obtain⟨S,hS⟩:∃S,S=L::S0:=⟨_,rfl⟩
 have h:NAt p S c σ:=by rw[hc,hS];exact h0.cons L
 have kd:∀τ,updF S c τ=L::updF S0 c0 τ:=fun τ=>by rw[hc,hS];exact zAo L S0 c0 τ
 have me:c0.d+1=c.d:=by rw[hc];rfl
 have td:c0.jF=c.jF:=by rw[hc];rfl
 rw[me,td,<-hS]
 have hs:=zAV h
 have ef:=stNd s
 obtain⟨F,hF⟩:∃F:Nat->Nf,F=fun q=>σ.add ((s.u3.take q).flatMap (Ex.nm p σ.made)):=⟨_,rfl⟩
 have rb:F 0=σ:=by rw[hF];simp[Nf.add_nil]
 obtain⟨σ1,Ta⟩:∃σ1,σ1=σ.add (s.u3.flatMap (Ex.nm p σ.made)):=⟨_,rfl⟩
 have Xb:F s.u3.length=σ1:=by rw[hF,Ta];simp
 have Gb:∀q (hq:q<s.u3.length),F (q+1)=(F q).add (s.u3[q].nm p (F q).made):=fun q hq=>by
  rw[hF];simp only[List.take_succ_eq_append_getElem hq,List.flatMap_append,Nf.add_add];simp[Nf.add]
 have Fb:∀q (hq:q<s.u3.length),(F q).fl.length+s.u3[q].nd<=4000000000:=fun q hq=>by
  have e1:=zCJ Ex.nd hq
  have e2:=zAG p σ.made (s.u3.take q)
  have:=hb.1
  rw[hF];simp only[Nf.add,List.length_append];omega
 have wa:BdN σ1 (s.nd-(s.u3.map Ex.nd).sum):=by
  rw[Ta];exact hb.near (Near.add σ (zAG p σ.made s.u3)) (by omega)
 have ya:σ1.made=σ.made:=by rw[Ta];rfl
 have Ae:σ1.count=σ.count:=by rw[Ta];rfl
 have Fa:σ1.opn=σ.opn:=by rw[Ta];rfl
 have Ja:=stNm p s σ
 rw[<-Ta]at Ja;clear hF
 have Fe:(s.nm p σ).2=[(s.name,mIs σ1.made s.name)]:=by rw[Ja];simp[hop,Nf.mkS]
 have Ha:(s.nm p σ).1=σ1.mk1 s.name s.pos:=by rw[Ja];simp[hop,Nf.mkS]
 rw[Fe,Ha];refine⟨List.replicate 2 .dead++[.row 1 1 1 [clo c0.up (s.name,mIs σ1.made s.name)]],.rsl 0 (L.length+2) 1 1,?_,.inr ⟨2,rfl,rfl⟩⟩;refine ADet.after (S':=(L++[.cells ((stV s).map (AV.mrg L.length)) 49,.cells [clo c0.up (s.name,mIs σ1.made s.name)] 1,.row 1 1 1 [clo c0.up (s.name,mIs σ1.made s.name)]])::updF S0 c0 (σ1.mk1 s.name s.pos)) ⟨zBa gd (by exact⟨⟨⟨rfl,rfl,rfl⟩,ze _⟩,trivial⟩),rfl⟩ ?_
 have Sa:=fun L=>zIw (p:=p) (s:=s.name) (pos:=s.pos) (σ:=σ1) (by have:=wa.1;omega) (by have:=wa.2.1;omega) h L
 have Eb:∀n b,clo c.up (n,b)= .fn (.func 190) [] [.bx [B b],.bx [.ptr (c.d+1) c.jF 0],.bx [Sg n]]:=fun _ _=>rfl
 have Bj:∀n b,clo c0.up (n,b)= .fn (.func 190) [] [.bx [B b],.bx [.ptr c.d c.jF 0],.bx [Sg n]]:=fun n b=>by rw[<-me,<-td];rfl
 refine ADet.okA call118 1 10 rfl rfl fun na=>?_
 have ca:=okl na
 refine ADet.merge mixed call118 func118 rfl ?_;simp[ntmps118];refine zF (fun q:Nat=>q<=s.u3.length) (fun q=>([.ptr (c.d+1) c.jF 0,.any,.any,.ptr 0 0 0,nilS,.any,.any,.any,.any,.any,.any,.any,.any,.p (.sl 8 (s.u3.map Ex.enc)),I s.u3.length,I q]++List.replicate 171 .any)) (fun q=>[.cells (stV s) 49]::updF S c (F q)) (fun q=>s.u3.length-q) 0 (Nat.zero_le _) ?_ ?_ ?_
 .simp
 .simp[rb,hs]
 intro q hq
 by_cases hlt:q<s.u3.length
 .have aa:(q:Int)<(s.u3.length:Int):=by omega
  have hw:=zB hlt
  have Wa:=Gb q hlt
  have Da:s.u3.length-(q+1)<s.u3.length-q:=by omega
  have uc:=fun L=>(zIv p s.u3[q] _ (F q) (va _ (List.getElem_mem hlt)) (Fb q hlt)).at h L
  rw[<-Wa]at uc
  generalize he:s.u3[q]=e at*
  simp[hlt,aa,he,zm];refine cq (uc _) ?_;simp;exact⟨q+1,hlt,Da,hw,rfl⟩
 have aa:¬(q:Int)<(s.u3.length:Int):=by omega
 have Pa:q=s.u3.length:=by omega
 subst Pa;rw[Xb];simp[hop];refine cq (Sa _) ?_;simp[Eb];rw[kd];rw[Bj];rw[<-me,<-td];simp[zBX,AObj.mrg,AV.mrg,AV.mrgs]
 try exact hop
theorem zWJ(p:List It)(hp:∀x∈p,x.fields.length<=20000)(s:St)(d:Int)(Rc:s.whole d=true)(i1:∀x∈s.body,StmC p x)(i2:∀x∈s.els,StmC p x)(i3:∀a∈s.arms,∀x∈a.body,StmC p x)(hop:s.op=12):StmC p s:=by
 intro σ hb S0 c0 h0 L gd
 have va:=zAl Rc
 obtain⟨c,hc⟩:∃c,c=c0.up:=⟨_,rfl⟩
 obtain⟨S,hS⟩:∃S,S=L::S0:=⟨_,rfl⟩
 have h:NAt p S c σ:=by rw[hc,hS];exact h0.cons L
 have kd:∀τ,updF S c τ=L::updF S0 c0 τ:=fun τ=>by rw[hc,hS];exact zAo L S0 c0 τ
 have me:c0.d+1=c.d:=by rw[hc];rfl
 have td:c0.jF=c.jF:=by rw[hc];rfl
 rw[me,td,<-hS]
 have hs:=zAV h
 have ef:=stNd s
 obtain⟨F,hF⟩:∃F:Nat->Nf,F=fun q=>σ.add ((s.u3.take q).flatMap (Ex.nm p σ.made)):=⟨_,rfl⟩
 have rb:F 0=σ:=by rw[hF];simp[Nf.add_nil]
 obtain⟨σ1,Ta⟩:∃σ1,σ1=σ.add (s.u3.flatMap (Ex.nm p σ.made)):=⟨_,rfl⟩
 have Xb:F s.u3.length=σ1:=by rw[hF,Ta];simp
 have Gb:∀q (hq:q<s.u3.length),F (q+1)=(F q).add (s.u3[q].nm p (F q).made):=fun q hq=>by
  rw[hF];simp only[List.take_succ_eq_append_getElem hq,List.flatMap_append,Nf.add_add];simp[Nf.add]
 have Fb:∀q (hq:q<s.u3.length),(F q).fl.length+s.u3[q].nd<=4000000000:=fun q hq=>by
  have e1:=zCJ Ex.nd hq
  have e2:=zAG p σ.made (s.u3.take q)
  have:=hb.1
  rw[hF];simp only[Nf.add,List.length_append];omega
 have wa:BdN σ1 (s.nd-(s.u3.map Ex.nd).sum):=by
  rw[Ta];exact hb.near (Near.add σ (zAG p σ.made s.u3)) (by omega)
 have ya:σ1.made=σ.made:=by rw[Ta];rfl
 have Ae:σ1.count=σ.count:=by rw[Ta];rfl
 have Fa:σ1.opn=σ.opn:=by rw[Ta];rfl
 have Ja:=stNm p s σ
 rw[<-Ta]at Ja;clear hF
 obtain⟨σ2,ti⟩:∃σ2,σ2=σ1.add (s.type.nm p s.pos):=⟨_,rfl⟩
 obtain⟨σ3,In⟩:∃σ3,σ3=σ2.mk1 s.name s.pos:=⟨_,rfl⟩
 have xe:BdN σ2 2:=by rw[ti];exact wa.near (Near.add σ1 (zFH p s.pos s.type)) (by omega)
 have tm:BdN σ3 1:=by
  have:=(zAT [s.name] s.pos σ2).1
  simp only[Nf.mkS]at this;rw[<-In]at this;exact xe.near this (by simp)
 have Fe:(s.nm p σ).2=[(s.name,mIs σ2.made s.name),(s.u2,mIs σ3.made s.u2)]:=by rw[Ja,In,ti];simp[hop,Nf.mkS]
 have Ha:(s.nm p σ).1=σ3.mk1 s.u2 s.pos:=by rw[Ja,In,ti];simp[hop,Nf.mkS]
 rw[Fe,Ha];refine⟨List.replicate 2 .dead++[.row 1 1 2 [clo c0.up (s.name,mIs σ2.made s.name),clo c0.up (s.u2,mIs σ3.made s.u2)]],.rsl 0 (L.length+2) 2 1,?_,.inr ⟨2,rfl,rfl⟩⟩;refine ADet.after (S':=(L++[.cells ((stV s).map (AV.mrg L.length)) 49,.cells [clo c0.up (s.name,mIs σ2.made s.name),clo c0.up (s.u2,mIs σ3.made s.u2)] 1,.row 1 1 2 [clo c0.up (s.name,mIs σ2.made s.name),clo c0.up (s.u2,mIs σ3.made s.u2)]])::updF S0 c0 (σ3.mk1 s.u2 s.pos)) ⟨zBa gd (by exact⟨⟨⟨rfl,rfl,rfl⟩,ze _⟩,trivial⟩),rfl⟩ ?_
 have Gi:∀L:List AObj,ADet Tryz.prog 62 [.ptr (c.k+c.d+1) 3 0,tyV s.type,I s.pos] (L::updF S c σ1) .un (L::updF S c σ2):=fun L=>by
  have:=(zZA p s.pos s.type σ1.fl (by have:=wa.1;omega)).inF h L
  rw[ti];exact this
 have Sa:=fun L=>zIw (p:=p) (s:=s.name) (pos:=s.pos) (σ:=σ2) (by have:=xe.1;omega) (by have:=xe.2.1;omega) h L
 rw[<-In]at Sa
 have ci:=fun L=>zIw (p:=p) (s:=s.u2) (pos:=s.pos) (σ:=σ3) (by have:=tm.1;omega) (by have:=tm.2.1;omega) h L
 have g1:=(h.updF σ1).n
 simp only[fnO]at g1
 have Eb:∀n b,clo c.up (n,b)= .fn (.func 190) [] [.bx [B b],.bx [.ptr (c.d+1) c.jF 0],.bx [Sg n]]:=fun _ _=>rfl
 have Bj:∀n b,clo c0.up (n,b)= .fn (.func 190) [] [.bx [B b],.bx [.ptr c.d c.jF 0],.bx [Sg n]]:=fun n b=>by rw[<-me,<-td];rfl
 refine ADet.okA call118 1 10 rfl rfl fun na=>?_
 have ca:=okl na
 refine ADet.merge mixed call118 func118 rfl ?_;simp[ntmps118];refine zF (fun q:Nat=>q<=s.u3.length) (fun q=>([.ptr (c.d+1) c.jF 0,.any,.any,.ptr 0 0 0,nilS,.any,.any,.any,.any,.any,.any,.any,.any,.p (.sl 8 (s.u3.map Ex.enc)),I s.u3.length,I q]++List.replicate 171 .any)) (fun q=>[.cells (stV s) 49]::updF S c (F q)) (fun q=>s.u3.length-q) 0 (Nat.zero_le _) ?_ ?_ ?_
 .simp
 .simp[rb,hs]
 intro q hq
 by_cases hlt:q<s.u3.length
 .have aa:(q:Int)<(s.u3.length:Int):=by omega
  have hw:=zB hlt
  have Wa:=Gb q hlt
  have Da:s.u3.length-(q+1)<s.u3.length-q:=by omega
  have uc:=fun L=>(zIv p s.u3[q] _ (F q) (va _ (List.getElem_mem hlt)) (Fb q hlt)).at h L
  rw[<-Wa]at uc
  generalize he:s.u3[q]=e at*
  simp[hlt,aa,he,zm];refine cq (uc _) ?_;simp;exact⟨q+1,hlt,Da,hw,rfl⟩
 have aa:¬(q:Int)<(s.u3.length:Int):=by omega
 have Pa:q=s.u3.length:=by omega
 subst Pa;rw[Xb];simp[hop];refine dB [] (by kernel_rfl) ?_
 simp[g1];refine cq (Gi _) ?_;simp;refine dB [(9,6),(11,6)] (by kernel_rfl) ?_
 simp;refine cq (Sa _) ?_;simp;refine cq (ci _) ?_;simp[Eb];rw[kd];rw[Bj,Bj];rw[<-me,<-td];simp[zBX,AObj.mrg,AV.mrg,AV.mrgs]
 try exact hop
theorem zOg(n:Nat)(c:Cf):∀l:List Fg,AV.mrgs n (l.map (clo c.up.up))=l.map (clo c.up)
 | []=>rfl
 |g::l=>by
  rw[List.map_cons,List.map_cons,AV.mrgs,zOg n c l];rfl
abbrev anyI:List AV:=[.any,.any,.any,.any,.any,.any,.any,.any,.any,.any,.any,.any,.any,.any,.any,.any]
theorem zZN(p:List It)(hp:∀x∈p,x.fields.length<=20000)(s:St)(d:Int)(Rc:s.whole d=true)(i1:∀x∈s.body,StmC p x)(i2:∀x∈s.els,StmC p x)(i3:∀a∈s.arms,∀x∈a.body,StmC p x)(hop:s.op=2):StmC p s:=by
 intro σ hb S0 c0 h0 L gd
 have va:=zAl Rc
 obtain⟨c,hc⟩:∃c,c=c0.up:=⟨_,rfl⟩
 obtain⟨S,hS⟩:∃S,S=L::S0:=⟨_,rfl⟩
 have h:NAt p S c σ:=by rw[hc,hS];exact h0.cons L
 have kd:∀τ,updF S c τ=L::updF S0 c0 τ:=fun τ=>by rw[hc,hS];exact zAo L S0 c0 τ
 have me:c0.d+1=c.d:=by rw[hc];rfl
 have td:c0.jF=c.jF:=by rw[hc];rfl
 rw[me,td,<-hS]
 have hs:=zAV h
 have ef:=stNd s
 obtain⟨F,hF⟩:∃F:Nat->Nf,F=fun q=>σ.add ((s.u3.take q).flatMap (Ex.nm p σ.made)):=⟨_,rfl⟩
 have rb:F 0=σ:=by rw[hF];simp[Nf.add_nil]
 obtain⟨σ1,Ta⟩:∃σ1,σ1=σ.add (s.u3.flatMap (Ex.nm p σ.made)):=⟨_,rfl⟩
 have Xb:F s.u3.length=σ1:=by rw[hF,Ta];simp
 have Gb:∀q (hq:q<s.u3.length),F (q+1)=(F q).add (s.u3[q].nm p (F q).made):=fun q hq=>by
  rw[hF];simp only[List.take_succ_eq_append_getElem hq,List.flatMap_append,Nf.add_add];simp[Nf.add]
 have Fb:∀q (hq:q<s.u3.length),(F q).fl.length+s.u3[q].nd<=4000000000:=fun q hq=>by
  have e1:=zCJ Ex.nd hq
  have e2:=zAG p σ.made (s.u3.take q)
  have:=hb.1
  rw[hF];simp only[Nf.add,List.length_append];omega
 have wa:BdN σ1 (s.nd-(s.u3.map Ex.nd).sum):=by
  rw[Ta];exact hb.near (Near.add σ (zAG p σ.made s.u3)) (by omega)
 have ya:σ1.made=σ.made:=by rw[Ta];rfl
 have Ae:σ1.count=σ.count:=by rw[Ta];rfl
 have Fa:σ1.opn=σ.opn:=by rw[Ta];rfl
 have Ja:=stNm p s σ
 rw[<-Ta]at Ja;clear hF
 obtain⟨bb,Re⟩:∃bb,bb=zFk p s.name s.names.length:=⟨_,rfl⟩
 obtain⟨σ2,ti⟩:∃σ2,σ2=σ1.add (zH bb 60 s.pos):=⟨_,rfl⟩
 have Cu:s.names.length<=4000000000:=by
  have:=hb.1
  omega
 have ye:s.names.length<=maxLen:=by unfold maxLen;omega
 have xe:BdN σ2 s.names.length:=by rw[ti];exact wa.near (Near.add σ1 (zr bb 60 s.pos)) (by omega)
 obtain⟨G,hG⟩:∃G:Nat->Nf × List Fg,G=fun q=>Nf.mkS (s.names.take q) s.pos σ2:=⟨_,rfl⟩
 have Ig:G 0=(σ2,[]):=by rw[hG];simp[Nf.mkS]
 have Di:G s.names.length=Nf.mkS s.names s.pos σ2:=by rw[hG];simp
 have pj:∀q (hq:q<s.names.length),G (q+1)=((G q).1.mk1 s.names[q] s.pos,(G q).2++[(s.names[q],mIs (G q).1.made s.names[q])]):=fun q hq=>by
  rw[hG];simp only[List.take_succ_eq_append_getElem hq,zKv];simp[Nf.mkS]
 have Ei:∀q,q<s.names.length->BdN (G q).1 1:=fun q hq=>by
  have e2:=(zAT (s.names.take q) s.pos σ2).1
  rw[hG];exact xe.near e2 (by simp;omega)
 have Gn:(G s.names.length).2.length=s.names.length:=by rw[Di];exact(zAT s.names s.pos σ2).2
 have Fe:(s.nm p σ).2=(G s.names.length).2:=by rw[Di,Ja,ti,Re];simp[hop]
 have Ha:(s.nm p σ).1=(G s.names.length).1:=by rw[Di,Ja,ti,Re];simp[hop]
 clear hG;rw[Fe,Ha];refine⟨List.replicate 2 .dead++[.row 1 1 s.names.length ((G s.names.length).2.map (clo c0.up))],.rsl 0 (L.length+2) s.names.length 1,?_,.inr ⟨2,by rw[Gn],by rw[Gn]⟩⟩
 refine ADet.after (S':=(L++[.cells ((stV s).map (AV.mrg L.length)) 49,.cells anyI 45,.row 1 1 s.names.length ((G s.names.length).2.map (clo c0.up))])::updF S0 c0 (G s.names.length).1) ⟨zBa gd (by exact⟨⟨⟨rfl,rfl,rfl⟩,ze _⟩,trivial⟩),rfl⟩ ?_
 have pc:=fun b L=>(zEY p b 60 s.pos σ1.fl (by have:=wa.1;omega)).inF h L
 have Ca:∀X,(⟨σ1.made,σ1.count,σ1.opn,σ1.fl++X⟩:Nf)=σ1.add X:=fun X=>rfl
 simp only[Ca]at pc
 have g1:=(h.updF σ1).n
 simp only[fnO]at g1
 have wd:=fun L=>zJz p 1 s.name σ1.fl (L::updF S c σ1) _ ((h.updF σ1).k.cons L)
 simp only[Cf.e]at wd;unfold zQC at wd;unfold zFk zDv at Re
 have Fd:∀(n:Nat) (l:List Fg),AV.mrgs n (l.map (clo c.up))=l.map (clo c0.up):=fun n l=>by
  rw[hc];exact zOg n c0 l
 refine ADet.okA call118 1 10 rfl rfl fun na=>?_
 have ca:=okl na
 refine ADet.merge mixed call118 func118 rfl ?_;simp[ntmps118];refine zF (fun q:Nat=>q<=s.u3.length) (fun q=>([.ptr (c.d+1) c.jF 0,.any,.any,.ptr 0 0 0,nilS,.any,.any,.any,.any,.any,.any,.any,.any,.p (.sl 8 (s.u3.map Ex.enc)),I s.u3.length,I q]++List.replicate 171 .any)) (fun q=>[.cells (stV s) 49]::updF S c (F q)) (fun q=>s.u3.length-q) 0 (Nat.zero_le _) ?_ ?_ ?_
 .simp
 .simp[rb,hs]
 intro q hq
 by_cases hlt:q<s.u3.length
 .have aa:(q:Int)<(s.u3.length:Int):=by omega
  have hw:=zB hlt
  have Wa:=Gb q hlt
  have Da:s.u3.length-(q+1)<s.u3.length-q:=by omega
  have uc:=fun L=>(zIv p s.u3[q] _ (F q) (va _ (List.getElem_mem hlt)) (Fb q hlt)).at h L
  rw[<-Wa]at uc
  generalize he:s.u3[q]=e at*
  simp[hlt,aa,he,zm];refine cq (uc _) ?_;simp;exact⟨q+1,hlt,Da,hw,rfl⟩
 have aa:¬(q:Int)<(s.u3.length:Int):=by omega
 have Pa:q=s.u3.length:=by omega
 subst Pa;rw[Xb];simp[hop];refine zEj [(10,11,8)] [] (by kernel_rfl) (by kernel_rfl) (by kernel_rfl) (by simp) ?_
 cases Wc:zK p s.name with
 |none=>
  rw[Wc]at wd Re
  have If:σ2=σ1.add (zH false 60 s.pos):=by rw[ti,Re];simp
  simp[g1];refine cq (wd _) ?_;simp[strs];refine dB [] (by kernel_rfl) ?_
  simp[g1];refine cq (pc false _) ?_;simp[strs];refine zF6 1 1 (by decide) [.cells (stV s) 49,.cells anyI 45] (fun q:Nat=>q<=s.names.length) (fun q=>([.ptr (c.d+1) c.jF 0,.any,.any,.ptr 0 0 0,.any,.any,.any,.rsl 0 2 q 1]++(List.replicate 70 .any++([.p (.sl 1 (s.names.map fun s=>[pS s])),I s.names.length,I q]++List.replicate 106 .any)))) (fun q=>[.cells (stV s) 49,.cells anyI 45,.row 1 1 q ((G q).2.map (clo c.up))]::updF S c (G q).1) (fun q=>s.names.length-q) (fun _=>3) 0 (Nat.zero_le _) ?_ ?_ ?_ ?_ ?_
  .intro q _;simp
  .simp
  .simp
  .simp[Ig,If]
  intro q hq
  by_cases hlt:q<s.names.length
  .have aa:(q:Int)<(s.names.length:Int):=by omega
   have hw:=zB hlt ye
   have Ed:=pj q hlt
   have Da:s.names.length-(q+1)<s.names.length-q:=by omega
   have ri:=Ei q hlt
   have Sa:=fun L=>zIw (p:=p) (s:=s.names[q]) (pos:=s.pos) (σ:=(G q).1) (by have:=ri.1;omega) (by have:=ri.2.1;omega) h L
   have ta:q+1<=4294967296:=by omega
   generalize he:s.names[q]=x at*
   have Eb:∀b,clo c.up (x,b)= .fn (.func 190) [] [.bx [B b],.bx [.ptr (c.d+1) c.jF 0],.bx [Sg x]]:=fun _=>rfl
   have e2:AV.cuts 3 ((G q).2.map (clo c.up)++[clo c.up (x,mIs (G q).1.made x)])=(G (q+1)).2.map (clo c.up):=by
    rw[show(G q).2.map (clo c.up)++[clo c.up (x,mIs (G q).1.made x)]=((G q).2++[(x,mIs (G q).1.made x)]).map (clo c.up) by simp,zFS,Ed]
   have e3:(G (q+1)).1=(G q).1.mk1 x s.pos:=by rw[Ed]
   rw[<-e3]at Sa
   generalize (G q).2.map (clo c.up)=rc at*
   simp[hlt,aa,he];refine cq (Sa _) ?_;simp[ta,Eb];refine⟨q+1,hlt,Da,⟨rfl,hw⟩,⟨rfl,?_⟩,rfl⟩;rw[<-e2,Eb];exact ze _
  have aa:¬(q:Int)<(s.names.length:Int):=by omega
  have Pa:q=s.names.length:=by omega
  subst Pa;simp;rw[kd];rw[<-hop];simp[zBX,AObj.mrg,AV.mrg,AV.mrgs,Fd]
  exact⟨rfl,rfl⟩
 |some x=>
  rw[Wc]at wd Re;simp only[Option.bind_some]at Re;simp[g1];refine cq (wd _) ?_;simp[strs];refine dB [] (by kernel_rfl) ?_
  by_cases hk:x.kind=1
  .have bq:decide (x.kind=1)=true:=decide_eq_true hk
   have Du:((x.fields.length:Int)==(s.names.length:Int))=decide (x.fields.length=s.names.length):=by rw[Bool.eq_iff_iff];simp;omega
   have If:σ2=σ1.add (zH (decide (x.fields.length=s.names.length)) 60 s.pos):=by rw[ti,Re,if_pos hk]
   simp[g1,bq,strs,Du];refine cq (pc (decide (x.fields.length=s.names.length)) _) ?_;simp[strs];refine zF6 1 1 (by decide) [.cells (stV s) 49,.cells anyI 45] (fun q:Nat=>q<=s.names.length) (fun q=>([.ptr (c.d+1) c.jF 0,.any,.any,.ptr 0 0 0,.any,.any,.any,.rsl 0 2 q 1]++(List.replicate 70 .any++([.p (.sl 1 (s.names.map fun s=>[pS s])),I s.names.length,I q]++List.replicate 106 .any)))) (fun q=>[.cells (stV s) 49,.cells anyI 45,.row 1 1 q ((G q).2.map (clo c.up))]::updF S c (G q).1) (fun q=>s.names.length-q) (fun _=>3) 0 (Nat.zero_le _) ?_ ?_ ?_ ?_ ?_
   .intro q _;simp
   .simp
   .simp
   .simp[Ig,If]
   intro q hq
   by_cases hlt:q<s.names.length
   .have aa:(q:Int)<(s.names.length:Int):=by omega
    have hw:=zB hlt ye
    have Ed:=pj q hlt
    have Da:s.names.length-(q+1)<s.names.length-q:=by omega
    have ri:=Ei q hlt
    have Sa:=fun L=>zIw (p:=p) (s:=s.names[q]) (pos:=s.pos) (σ:=(G q).1) (by have:=ri.1;omega) (by have:=ri.2.1;omega) h L
    have ta:q+1<=4294967296:=by omega
    generalize he:s.names[q]=x at*
    have Eb:∀b,clo c.up (x,b)= .fn (.func 190) [] [.bx [B b],.bx [.ptr (c.d+1) c.jF 0],.bx [Sg x]]:=fun _=>rfl
    have e2:AV.cuts 3 ((G q).2.map (clo c.up)++[clo c.up (x,mIs (G q).1.made x)])=(G (q+1)).2.map (clo c.up):=by
     rw[show(G q).2.map (clo c.up)++[clo c.up (x,mIs (G q).1.made x)]=((G q).2++[(x,mIs (G q).1.made x)]).map (clo c.up) by simp,zFS,Ed]
    have e3:(G (q+1)).1=(G q).1.mk1 x s.pos:=by rw[Ed]
    rw[<-e3]at Sa
    generalize (G q).2.map (clo c.up)=rc at*
    simp[hlt,aa,he];refine cq (Sa _) ?_;simp[ta,Eb];refine⟨q+1,hlt,Da,⟨rfl,hw⟩,⟨rfl,?_⟩,rfl⟩;rw[<-e2,Eb];exact ze _
   have aa:¬(q:Int)<(s.names.length:Int):=by omega
   have Pa:q=s.names.length:=by omega
   subst Pa;simp;rw[kd];rw[<-hop];simp[zBX,AObj.mrg,AV.mrg,AV.mrgs,Fd];exact⟨rfl,rfl⟩
  have If:σ2=σ1.add (zH false 60 s.pos):=by rw[ti,Re,if_neg hk]
  simp[g1,hk];refine cq (pc false _) ?_;simp[strs];refine zF6 1 1 (by decide) [.cells (stV s) 49,.cells anyI 45] (fun q:Nat=>q<=s.names.length) (fun q=>([.ptr (c.d+1) c.jF 0,.any,.any,.ptr 0 0 0,.any,.any,.any,.rsl 0 2 q 1]++(List.replicate 70 .any++([.p (.sl 1 (s.names.map fun s=>[pS s])),I s.names.length,I q]++List.replicate 106 .any)))) (fun q=>[.cells (stV s) 49,.cells anyI 45,.row 1 1 q ((G q).2.map (clo c.up))]::updF S c (G q).1) (fun q=>s.names.length-q) (fun _=>3) 0 (Nat.zero_le _) ?_ ?_ ?_ ?_ ?_
  .intro q _;simp
  .simp
  .simp
  .simp[Ig,If]
  intro q hq
  by_cases hlt:q<s.names.length
  .have aa:(q:Int)<(s.names.length:Int):=by omega
   have hw:=zB hlt ye
   have Ed:=pj q hlt
   have Da:s.names.length-(q+1)<s.names.length-q:=by omega
   have ri:=Ei q hlt
   have Sa:=fun L=>zIw (p:=p) (s:=s.names[q]) (pos:=s.pos) (σ:=(G q).1) (by have:=ri.1;omega) (by have:=ri.2.1;omega) h L
   have ta:q+1<=4294967296:=by omega
   generalize he:s.names[q]=x at*
   have Eb:∀b,clo c.up (x,b)= .fn (.func 190) [] [.bx [B b],.bx [.ptr (c.d+1) c.jF 0],.bx [Sg x]]:=fun _=>rfl
   have e2:AV.cuts 3 ((G q).2.map (clo c.up)++[clo c.up (x,mIs (G q).1.made x)])=(G (q+1)).2.map (clo c.up):=by
    rw[show(G q).2.map (clo c.up)++[clo c.up (x,mIs (G q).1.made x)]=((G q).2++[(x,mIs (G q).1.made x)]).map (clo c.up) by simp,zFS,Ed]
   have e3:(G (q+1)).1=(G q).1.mk1 x s.pos:=by rw[Ed]
   rw[<-e3]at Sa
   generalize (G q).2.map (clo c.up)=rc at*
   simp[hlt,aa,he];refine cq (Sa _) ?_;simp[ta,Eb];refine⟨q+1,hlt,Da,⟨rfl,hw⟩,⟨rfl,?_⟩,rfl⟩;rw[<-e2,Eb];exact ze _
  have aa:¬(q:Int)<(s.names.length:Int):=by omega
  have Pa:q=s.names.length:=by omega
  subst Pa;simp;rw[kd];rw[<-hop];simp[zBX,AObj.mrg,AV.mrg,AV.mrgs,Fd];exact⟨rfl,rfl⟩
end Go.Proofs.YtdflkegnmmkkoaaGreatDoor
