/- A part of the proof. -/
import Derived.Test.YtdflkegnmmkkoaaGreatDoorWNPc
set_option linter.unusedVariables false
set_option linter.unusedSimpArgs false
set_option maxRecDepth 100000
set_option maxHeartbeats 32000000
namespace Go.Proofs.YtdflkegnmmkkoaaGreatDoor
open Go.RowKit _root_.Go.Proofs.Tryz
attribute [local simp] List.replicate List.range List.range.loop
theorem zAj{s:St}{d:Int}(h:s.whole d=true):∀e∈s.u3,e.whole (d-1)=true:=fun e he=>by
 rw[zC]at h;simp only[Bool.and_eq_true]at h
 have hx:=h.2.2.2.2.2.1
 unfold exsB zt at hx;simp only[Bool.and_eq_true,decide_eq_true_eq]at hx;rw[List.take_of_length_le (by omega)]at hx
 have:=List.all_eq_true.1 hx.2 e he
 simp only[Bool.and_eq_true]at this;exact this.2
theorem zBW:∀{L A B:List AObj},wkL L L->wkL A B->wkL (L++A) (L++B)
 | [],A,B,_,h=>h
 |o::L,A,B,hL,h=>by
  have key:wkL [o] [o]/\wkL L L:=by cases o<;>simp_all[wkL]
  exact zKR key.1 (zBW key.2 h)
theorem zYE(p:List It)(hp:∀x∈p,x.fields.length<=20000)(s:St)(d:Int)(Lc:s.whole d=true)(i1:∀x∈s.body,StmC p x)(i2:∀x∈s.els,StmC p x)(i3:∀a∈s.arms,∀x∈a.body,StmC p x)(hop:s.op=3):StmC p s:=by
 intro σ hb S0 c0 h0 L cd
 have ua:=zAj Lc
 obtain⟨c,hc⟩:∃c,c=c0.up:=⟨_,rfl⟩
 obtain⟨S,hS⟩:∃S,S=L::S0:=⟨_,rfl⟩
 have h:NAt p S c σ:=by rw[hc,hS];exact h0.cons L
 have gd:∀τ,updF S c τ=L::updF S0 c0 τ:=fun τ=>by rw[hc,hS];exact zAl L S0 c0 τ
 have re:c0.d+1=c.d:=by rw[hc];rfl
 have td:c0.jF=c.jF:=by rw[hc];rfl
 rw[re,td,<-hS]
 have hs:=zAR h
 have gf:=stNd s
 obtain⟨F,hF⟩:∃F:Nat->Nf,F=fun q=>σ.add ((s.u3.take q).flatMap (Ex.nm p σ.made)):=⟨_,rfl⟩
 have Ab:F 0=σ:=by rw[hF];simp[Nf.add_nil]
 obtain⟨σ1,Sa⟩:∃σ1,σ1=σ.add (s.u3.flatMap (Ex.nm p σ.made)):=⟨_,rfl⟩
 have Yb:F s.u3.length=σ1:=by rw[hF,Sa];simp
 have Ib:∀q (hq:q<s.u3.length),F (q+1)=(F q).add (s.u3[q].nm p (F q).made):=fun q hq=>by
  rw[hF];simp only[List.take_succ_eq_append_getElem hq,List.flatMap_append,Nf.add_add];simp[Nf.add]
 have Hb:∀q (hq:q<s.u3.length),(F q).fl.length+s.u3[q].nd<=4000000000:=fun q hq=>by
  have e1:=zCB Ex.nd hq
  have e2:=zAA p σ.made (s.u3.take q)
  have:=hb.1
  rw[hF];simp only[Nf.add,List.length_append];omega
 have va:BdN σ1 (s.nd-(s.u3.map Ex.nd).sum):=by
  rw[Sa];exact hb.near (Near.add σ (zAA p σ.made s.u3)) (by omega)
 have xa:σ1.made=σ.made:=by rw[Sa];rfl
 have De:σ1.count=σ.count:=by rw[Sa];rfl
 have Ga:σ1.opn=σ.opn:=by rw[Sa];rfl
 have Ka:=stNm p s σ
 rw[<-Sa]at Ka;clear hF
 have Ke:(s.nm p σ).2=[]:=by rw[Ka];simp[hop]
 have Ja:(s.nm p σ).1=σ1.add (zI (mIs σ1.made s.place.name) 60 s.pos):=by rw[Ka];simp[hop,xa]
 rw[Ke,Ja];refine⟨[.dead],.p (.sl 1 []),?_,.inl ⟨rfl,rfl,1,rfl⟩⟩;refine ADet.less (.p (.nil 1)) (ADet.after (S':=(L++[.cells ((stV s).map (AV.mrg L.length)) 49])::updF S0 c0 (σ1.add (zI (mIs σ1.made s.place.name) 60 s.pos))) ⟨zBW cd (by trivial),rfl⟩ ?_)
 have Km:=fun L=>(zSZ p s.place.name s.pos σ1 (by have:=va.1;omega)).at h L
 refine ADet.okA call118 1 10 rfl rfl fun na=>?_
 have ca:=okl na
 refine ADet.merge mixed call118 func118 rfl ?_;simp[ntmps118];refine zH (fun q:Nat=>q<=s.u3.length) (fun q=>([.ptr (c.d+1) c.jF 0,.any,.any,.ptr 0 0 0,nilS,.any,.any,.any,.any,.any,.any,.any,.any,.p (.sl 8 (s.u3.map Ex.enc)),I s.u3.length,I q]++List.replicate 171 .any)) (fun q=>[.cells (stV s) 49]::updF S c (F q)) (fun q=>s.u3.length-q) 0 (Nat.zero_le _) ?_ ?_ ?_
 .simp
 .simp[Ab,hs]
 intro q hq
 by_cases hlt:q<s.u3.length
 .have aa:(q:Int)<(s.u3.length:Int):=by omega
  have hw:=zA hlt
  have Xa:=Ib q hlt
  have Aa:s.u3.length-(q+1)<s.u3.length-q:=by omega
  have uc:=fun L=>(zIR p s.u3[q] _ (F q) (ua _ (List.getElem_mem hlt)) (Hb q hlt)).at h L
  rw[<-Xa]at uc
  generalize he:s.u3[q]=e at*
  simp[hlt,aa,he,zg];refine cq (uc _) ?_;simp;exact⟨q+1,hlt,Aa,hw,rfl⟩
 have aa:¬(q:Int)<(s.u3.length:Int):=by omega
 have Ya:q=s.u3.length:=by omega
 subst Ya;rw[Yb];simp[hop];refine cq (Km _) ?_
 try simp
 rw[gd];simp[zBU,AObj.mrg,AV.mrg,AV.mrgs]
 try exact hop
theorem zYF(p:List It)(hp:∀x∈p,x.fields.length<=20000)(s:St)(d:Int)(Lc:s.whole d=true)(i1:∀x∈s.body,StmC p x)(i2:∀x∈s.els,StmC p x)(i3:∀a∈s.arms,∀x∈a.body,StmC p x)(hop:s.op=5):StmC p s:=by
 intro σ hb S0 c0 h0 L cd
 have ua:=zAj Lc
 obtain⟨c,hc⟩:∃c,c=c0.up:=⟨_,rfl⟩
 obtain⟨S,hS⟩:∃S,S=L::S0:=⟨_,rfl⟩
 have h:NAt p S c σ:=by rw[hc,hS];exact h0.cons L
 have gd:∀τ,updF S c τ=L::updF S0 c0 τ:=fun τ=>by rw[hc,hS];exact zAl L S0 c0 τ
 have re:c0.d+1=c.d:=by rw[hc];rfl
 have td:c0.jF=c.jF:=by rw[hc];rfl
 rw[re,td,<-hS]
 have hs:=zAR h
 have gf:=stNd s
 obtain⟨F,hF⟩:∃F:Nat->Nf,F=fun q=>σ.add ((s.u3.take q).flatMap (Ex.nm p σ.made)):=⟨_,rfl⟩
 have Ab:F 0=σ:=by rw[hF];simp[Nf.add_nil]
 obtain⟨σ1,Sa⟩:∃σ1,σ1=σ.add (s.u3.flatMap (Ex.nm p σ.made)):=⟨_,rfl⟩
 have Yb:F s.u3.length=σ1:=by rw[hF,Sa];simp
 have Ib:∀q (hq:q<s.u3.length),F (q+1)=(F q).add (s.u3[q].nm p (F q).made):=fun q hq=>by
  rw[hF];simp only[List.take_succ_eq_append_getElem hq,List.flatMap_append,Nf.add_add];simp[Nf.add]
 have Hb:∀q (hq:q<s.u3.length),(F q).fl.length+s.u3[q].nd<=4000000000:=fun q hq=>by
  have e1:=zCB Ex.nd hq
  have e2:=zAA p σ.made (s.u3.take q)
  have:=hb.1
  rw[hF];simp only[Nf.add,List.length_append];omega
 have va:BdN σ1 (s.nd-(s.u3.map Ex.nd).sum):=by
  rw[Sa];exact hb.near (Near.add σ (zAA p σ.made s.u3)) (by omega)
 have xa:σ1.made=σ.made:=by rw[Sa];rfl
 have De:σ1.count=σ.count:=by rw[Sa];rfl
 have Ga:σ1.opn=σ.opn:=by rw[Sa];rfl
 have Ka:=stNm p s σ
 rw[<-Sa]at Ka;clear hF
 have Ke:(s.nm p σ).2=[]:=by rw[Ka];simp[hop]
 have Ja:(s.nm p σ).1=σ1.add (zI (mIs σ1.made s.name) 60 s.pos):=by rw[Ka];simp[hop,xa]
 rw[Ke,Ja];refine⟨[.dead],.p (.sl 1 []),?_,.inl ⟨rfl,rfl,1,rfl⟩⟩;refine ADet.less (.p (.nil 1)) (ADet.after (S':=(L++[.cells ((stV s).map (AV.mrg L.length)) 49])::updF S0 c0 (σ1.add (zI (mIs σ1.made s.name) 60 s.pos))) ⟨zBW cd (by trivial),rfl⟩ ?_)
 have Km:=fun L=>(zSZ p s.name s.pos σ1 (by have:=va.1;omega)).at h L
 refine ADet.okA call118 1 10 rfl rfl fun na=>?_
 have ca:=okl na
 refine ADet.merge mixed call118 func118 rfl ?_;simp[ntmps118];refine zH (fun q:Nat=>q<=s.u3.length) (fun q=>([.ptr (c.d+1) c.jF 0,.any,.any,.ptr 0 0 0,nilS,.any,.any,.any,.any,.any,.any,.any,.any,.p (.sl 8 (s.u3.map Ex.enc)),I s.u3.length,I q]++List.replicate 171 .any)) (fun q=>[.cells (stV s) 49]::updF S c (F q)) (fun q=>s.u3.length-q) 0 (Nat.zero_le _) ?_ ?_ ?_
 .simp
 .simp[Ab,hs]
 intro q hq
 by_cases hlt:q<s.u3.length
 .have aa:(q:Int)<(s.u3.length:Int):=by omega
  have hw:=zA hlt
  have Xa:=Ib q hlt
  have Aa:s.u3.length-(q+1)<s.u3.length-q:=by omega
  have uc:=fun L=>(zIR p s.u3[q] _ (F q) (ua _ (List.getElem_mem hlt)) (Hb q hlt)).at h L
  rw[<-Xa]at uc
  generalize he:s.u3[q]=e at*
  simp[hlt,aa,he,zg];refine cq (uc _) ?_;simp;exact⟨q+1,hlt,Aa,hw,rfl⟩
 have aa:¬(q:Int)<(s.u3.length:Int):=by omega
 have Ya:q=s.u3.length:=by omega
 subst Ya;rw[Yb];simp[hop];refine cq (Km _) ?_
 try simp
 rw[gd];simp[zBU,AObj.mrg,AV.mrg,AV.mrgs]
 try exact hop
theorem zYG(p:List It)(hp:∀x∈p,x.fields.length<=20000)(s:St)(d:Int)(Lc:s.whole d=true)(i1:∀x∈s.body,StmC p x)(i2:∀x∈s.els,StmC p x)(i3:∀a∈s.arms,∀x∈a.body,StmC p x)(hop:s.op=8):StmC p s:=by
 intro σ hb S0 c0 h0 L cd
 have ua:=zAj Lc
 obtain⟨c,hc⟩:∃c,c=c0.up:=⟨_,rfl⟩
 obtain⟨S,hS⟩:∃S,S=L::S0:=⟨_,rfl⟩
 have h:NAt p S c σ:=by rw[hc,hS];exact h0.cons L
 have gd:∀τ,updF S c τ=L::updF S0 c0 τ:=fun τ=>by rw[hc,hS];exact zAl L S0 c0 τ
 have re:c0.d+1=c.d:=by rw[hc];rfl
 have td:c0.jF=c.jF:=by rw[hc];rfl
 rw[re,td,<-hS]
 have hs:=zAR h
 have gf:=stNd s
 obtain⟨F,hF⟩:∃F:Nat->Nf,F=fun q=>σ.add ((s.u3.take q).flatMap (Ex.nm p σ.made)):=⟨_,rfl⟩
 have Ab:F 0=σ:=by rw[hF];simp[Nf.add_nil]
 obtain⟨σ1,Sa⟩:∃σ1,σ1=σ.add (s.u3.flatMap (Ex.nm p σ.made)):=⟨_,rfl⟩
 have Yb:F s.u3.length=σ1:=by rw[hF,Sa];simp
 have Ib:∀q (hq:q<s.u3.length),F (q+1)=(F q).add (s.u3[q].nm p (F q).made):=fun q hq=>by
  rw[hF];simp only[List.take_succ_eq_append_getElem hq,List.flatMap_append,Nf.add_add];simp[Nf.add]
 have Hb:∀q (hq:q<s.u3.length),(F q).fl.length+s.u3[q].nd<=4000000000:=fun q hq=>by
  have e1:=zCB Ex.nd hq
  have e2:=zAA p σ.made (s.u3.take q)
  have:=hb.1
  rw[hF];simp only[Nf.add,List.length_append];omega
 have va:BdN σ1 (s.nd-(s.u3.map Ex.nd).sum):=by
  rw[Sa];exact hb.near (Near.add σ (zAA p σ.made s.u3)) (by omega)
 have xa:σ1.made=σ.made:=by rw[Sa];rfl
 have De:σ1.count=σ.count:=by rw[Sa];rfl
 have Ga:σ1.opn=σ.opn:=by rw[Sa];rfl
 have Ka:=stNm p s σ
 rw[<-Sa]at Ka;clear hF
 have Ke:(s.nm p σ).2=[]:=by rw[Ka];simp[hop]
 have Ja:(s.nm p σ).1=s.arms.foldl (fun σ a=>a.nm p s.pos σ) (σ1.add (zI (mIs σ1.made s.name&&zEe p s.u2 (s.arms.map armF)) 60 s.pos)):=by rw[Ka];simp[hop,xa]
 rw[Ke,Ja];refine⟨[.dead],.p (.sl 1 []),?_,.inl ⟨rfl,rfl,1,rfl⟩⟩;refine ADet.less (.p (.nil 1)) (ADet.after (S':=(L++[.cells ((stV s).map (AV.mrg L.length)) 49])::updF S0 c0 (s.arms.foldl (fun σ a=>a.nm p s.pos σ) (σ1.add (zI (mIs σ1.made s.name&&zEe p s.u2 (s.arms.map armF)) 60 s.pos)))) ⟨zBW cd (by trivial),rfl⟩ ?_)
 have Uk:=Lc
 rw[zC]at Uk;simp only[Bool.and_eq_true,Bool.or_eq_true,decide_eq_true_eq]at Uk
 have Fd:s.arms.length<=20000:=by
  have:=Uk.2.2.2.2.2.2.2.2
  unfold zt at this;simp only[Bool.and_eq_true,decide_eq_true_eq]at this;omega
 have cu:=fun L=>(zaV p hp s i3 Fd σ1 (va.near (Near.refl σ1) (by omega))).at h L
 refine ADet.okA call118 1 10 rfl rfl fun na=>?_
 have ca:=okl na
 refine ADet.merge mixed call118 func118 rfl ?_;simp[ntmps118];refine zH (fun q:Nat=>q<=s.u3.length) (fun q=>([.ptr (c.d+1) c.jF 0,.any,.any,.ptr 0 0 0,nilS,.any,.any,.any,.any,.any,.any,.any,.any,.p (.sl 8 (s.u3.map Ex.enc)),I s.u3.length,I q]++List.replicate 171 .any)) (fun q=>[.cells (stV s) 49]::updF S c (F q)) (fun q=>s.u3.length-q) 0 (Nat.zero_le _) ?_ ?_ ?_
 .simp
 .simp[Ab,hs]
 intro q hq
 by_cases hlt:q<s.u3.length
 .have aa:(q:Int)<(s.u3.length:Int):=by omega
  have hw:=zA hlt
  have Xa:=Ib q hlt
  have Aa:s.u3.length-(q+1)<s.u3.length-q:=by omega
  have uc:=fun L=>(zIR p s.u3[q] _ (F q) (ua _ (List.getElem_mem hlt)) (Hb q hlt)).at h L
  rw[<-Xa]at uc
  generalize he:s.u3[q]=e at*
  simp[hlt,aa,he,zg];refine cq (uc _) ?_;simp;exact⟨q+1,hlt,Aa,hw,rfl⟩
 have aa:¬(q:Int)<(s.u3.length:Int):=by omega
 have Ya:q=s.u3.length:=by omega
 subst Ya;rw[Yb];simp[hop];rw[<-hop];refine cq (cu _) ?_
 try simp
 rw[gd];simp[zBU,AObj.mrg,AV.mrg,AV.mrgs]
 try exact hop
theorem zVT(p:List It)(hp:∀x∈p,x.fields.length<=20000)(s:St)(d:Int)(Lc:s.whole d=true)(i1:∀x∈s.body,StmC p x)(i2:∀x∈s.els,StmC p x)(i3:∀a∈s.arms,∀x∈a.body,StmC p x)(hop:s.op=10):StmC p s:=by
 intro σ hb S0 c0 h0 L cd
 have ua:=zAj Lc
 obtain⟨c,hc⟩:∃c,c=c0.up:=⟨_,rfl⟩
 obtain⟨S,hS⟩:∃S,S=L::S0:=⟨_,rfl⟩
 have h:NAt p S c σ:=by rw[hc,hS];exact h0.cons L
 have gd:∀τ,updF S c τ=L::updF S0 c0 τ:=fun τ=>by rw[hc,hS];exact zAl L S0 c0 τ
 have re:c0.d+1=c.d:=by rw[hc];rfl
 have td:c0.jF=c.jF:=by rw[hc];rfl
 rw[re,td,<-hS]
 have hs:=zAR h
 have gf:=stNd s
 obtain⟨F,hF⟩:∃F:Nat->Nf,F=fun q=>σ.add ((s.u3.take q).flatMap (Ex.nm p σ.made)):=⟨_,rfl⟩
 have Ab:F 0=σ:=by rw[hF];simp[Nf.add_nil]
 obtain⟨σ1,Sa⟩:∃σ1,σ1=σ.add (s.u3.flatMap (Ex.nm p σ.made)):=⟨_,rfl⟩
 have Yb:F s.u3.length=σ1:=by rw[hF,Sa];simp
 have Ib:∀q (hq:q<s.u3.length),F (q+1)=(F q).add (s.u3[q].nm p (F q).made):=fun q hq=>by
  rw[hF];simp only[List.take_succ_eq_append_getElem hq,List.flatMap_append,Nf.add_add];simp[Nf.add]
 have Hb:∀q (hq:q<s.u3.length),(F q).fl.length+s.u3[q].nd<=4000000000:=fun q hq=>by
  have e1:=zCB Ex.nd hq
  have e2:=zAA p σ.made (s.u3.take q)
  have:=hb.1
  rw[hF];simp only[Nf.add,List.length_append];omega
 have va:BdN σ1 (s.nd-(s.u3.map Ex.nd).sum):=by
  rw[Sa];exact hb.near (Near.add σ (zAA p σ.made s.u3)) (by omega)
 have xa:σ1.made=σ.made:=by rw[Sa];rfl
 have De:σ1.count=σ.count:=by rw[Sa];rfl
 have Ga:σ1.opn=σ.opn:=by rw[Sa];rfl
 have Ka:=stNm p s σ
 rw[<-Sa]at Ka;clear hF
 have Ep:σ.fl++s.u3.flatMap (Ex.nm p σ.made)=σ1.fl:=by rw[Sa];rfl
 have Ke:(s.nm p σ).2=[]:=by rw[Ka];simp[hop]
 have Ja:(s.nm p σ).1=⟨σ1.made,σ1.count,σ1.opn,(zCa p s.body s.pos s.names (σ1.fl++zI (decide (0<σ1.opn)) 61 s.pos)).fl++zI (decide ((zCa p s.body s.pos s.names (σ1.fl++zI (decide (0<σ1.opn)) 61 s.pos)).count<=60)) 4 s.pos⟩:=by rw[Ka];simp[hop,xa,De,Ga,Ep]
 rw[Ke,Ja];refine⟨[.dead],.p (.sl 1 []),?_,.inl ⟨rfl,rfl,1,rfl⟩⟩;refine ADet.less (.p (.nil 1)) (ADet.after (S':=(L++[.cells ((stV s).map (AV.mrg L.length)) 49])::updF S0 c0 (⟨σ1.made,σ1.count,σ1.opn,(zCa p s.body s.pos s.names (σ1.fl++zI (decide (0<σ1.opn)) 61 s.pos)).fl++zI (decide ((zCa p s.body s.pos s.names (σ1.fl++zI (decide (0<σ1.opn)) 61 s.pos)).count<=60)) 4 s.pos⟩)) ⟨zBW cd (by trivial),rfl⟩ ?_)
 have du:=fun L=>(zaW p s i1 σ1 (va.near (Near.refl σ1) (by omega))).at h L
 refine ADet.okA call118 1 10 rfl rfl fun na=>?_
 have ca:=okl na
 refine ADet.merge mixed call118 func118 rfl ?_;simp[ntmps118];refine zH (fun q:Nat=>q<=s.u3.length) (fun q=>([.ptr (c.d+1) c.jF 0,.any,.any,.ptr 0 0 0,nilS,.any,.any,.any,.any,.any,.any,.any,.any,.p (.sl 8 (s.u3.map Ex.enc)),I s.u3.length,I q]++List.replicate 171 .any)) (fun q=>[.cells (stV s) 49]::updF S c (F q)) (fun q=>s.u3.length-q) 0 (Nat.zero_le _) ?_ ?_ ?_
 .simp
 .simp[Ab,hs]
 intro q hq
 by_cases hlt:q<s.u3.length
 .have aa:(q:Int)<(s.u3.length:Int):=by omega
  have hw:=zA hlt
  have Xa:=Ib q hlt
  have Aa:s.u3.length-(q+1)<s.u3.length-q:=by omega
  have uc:=fun L=>(zIR p s.u3[q] _ (F q) (ua _ (List.getElem_mem hlt)) (Hb q hlt)).at h L
  rw[<-Xa]at uc
  generalize he:s.u3[q]=e at*
  simp[hlt,aa,he,zg];refine cq (uc _) ?_;simp;exact⟨q+1,hlt,Aa,hw,rfl⟩
 have aa:¬(q:Int)<(s.u3.length:Int):=by omega
 have Ya:q=s.u3.length:=by omega
 subst Ya;rw[Yb];simp[hop];rw[<-hop];refine cq (du _) ?_
 try simp
 rw[gd];simp[zBU,AObj.mrg,AV.mrg,AV.mrgs]
 try exact hop
end Go.Proofs.YtdflkegnmmkkoaaGreatDoor
