/- A part of the proof. -/
import Derived.Test.YtdflkegnmmkkoaaGreatDoorWNPd
set_option linter.unusedVariables false
set_option linter.unusedSimpArgs false
set_option maxRecDepth 100000
set_option maxHeartbeats 32000000
namespace Go.Proofs.YtdflkegnmmkkoaaGreatDoor
open Go.RowKit _root_.Go.Proofs.Tryz
attribute [local simp] List.replicate List.range List.range.loop
theorem zOM(S:ASt)(c:Cf)(σ:Nf)(n:Nat):set2 (updF S c σ) c.d c.jF (fnO c ⟨σ.made,σ.count,n,σ.fl⟩)=updF S c ⟨σ.made,σ.count,n,σ.fl⟩:=by
 unfold updF;rw[zBT]
theorem zMz{p:List It}{l:List St}{pos:Int}{σ τ:Nf}(hl:∀s∈l,StmC p s)(hb:BdN σ (l.map St.nd).sum)(hτ:τ=zAB p l pos [] σ){S:ASt}{c:Cf}{σ0:Nf}(h:NAt p S c σ0)(L:List AObj):ADet Tryz.prog 158 [.ptr (c.d+1) c.jF 0,.p (.sl 15 (l.map St.enc)),I pos,nilS] (L::updF S c σ) .un (L::updF S c τ):=by
 subst hτ;exact ADet.sub (by repeat' constructor) ((zGA p l hl pos [] σ (by simpa using hb)).at h L)
theorem zYH{p:List It}{l:List St}{pos:Int}{s:BA}{σ τ:Nf}(hl:∀s∈l,StmC p s)(hb:BdN σ (1+(l.map St.nd).sum))(hτ:τ=zAB p l pos [s] σ){S:ASt}{c:Cf}{σ0:Nf}(h:NAt p S c σ0)(L:List AObj)(i:Nat):ADet Tryz.prog 158 [.ptr (c.d+1) c.jF 0,.p (.sl 15 (l.map St.enc)),I pos,.osl 1 [[pS s]] 0 i] (L::updF S c σ) .un (L::updF S c τ):=by
 subst hτ;exact ADet.toP2 (as1:=[.ptr (c.d+1) c.jF 0,.p (.sl 15 (l.map St.enc)),I pos]) (as2:=[]) (v:=.osl 1 [[pS s]] 0 i) rfl ((zGA p l hl pos [s] σ hb).at h L)
theorem zVU(p:List It)(hp:∀x∈p,x.fields.length<=20000)(s:St)(d:Int)(Lc:s.whole d=true)(i1:∀x∈s.body,StmC p x)(i2:∀x∈s.els,StmC p x)(i3:∀a∈s.arms,∀x∈a.body,StmC p x)(hop:s.op=11):StmC p s:=by
 intro σ hb S0 c0 h0 L cd
 have ua:=zAj Lc
 obtain⟨c,hc⟩:∃c,c=c0.up:=⟨_,rfl⟩
 obtain⟨S,hS⟩:∃S,S=L::S0:=⟨_,rfl⟩
 have h:NAt p S c σ:=by rw[hc,hS];exact h0.cons L
 have gd:∀τ,updF S c τ=L::updF S0 c0 τ:=fun τ=>by rw[hc,hS];exact zAl L S0 c0 τ
 have re:c0.d+1=c.d:=by rw[hc];rfl
 have td:c0.jF=c.jF:=by rw[hc];rfl
 rw[re,td,<-hS]
 have hs:=zAR h
 have gf:=stNd s
 obtain⟨F,hF⟩:∃F:Nat->Nf,F=fun q=>σ.add ((s.u3.take q).flatMap (Ex.nm p σ.made)):=⟨_,rfl⟩
 have Ab:F 0=σ:=by rw[hF];simp[Nf.add_nil]
 obtain⟨σ1,Sa⟩:∃σ1,σ1=σ.add (s.u3.flatMap (Ex.nm p σ.made)):=⟨_,rfl⟩
 have Yb:F s.u3.length=σ1:=by rw[hF,Sa];simp
 have Ib:∀q (hq:q<s.u3.length),F (q+1)=(F q).add (s.u3[q].nm p (F q).made):=fun q hq=>by
  rw[hF];simp only[List.take_succ_eq_append_getElem hq,List.flatMap_append,Nf.add_add];simp[Nf.add]
 have Hb:∀q (hq:q<s.u3.length),(F q).fl.length+s.u3[q].nd<=4000000000:=fun q hq=>by
  have e1:=zCB Ex.nd hq
  have e2:=zAA p σ.made (s.u3.take q)
  have:=hb.1
  rw[hF];simp only[Nf.add,List.length_append];omega
 have va:BdN σ1 (s.nd-(s.u3.map Ex.nd).sum):=by
  rw[Sa];exact hb.near (Near.add σ (zAA p σ.made s.u3)) (by omega)
 have xa:σ1.made=σ.made:=by rw[Sa];rfl
 have De:σ1.count=σ.count:=by rw[Sa];rfl
 have Ga:σ1.opn=σ.opn:=by rw[Sa];rfl
 have Ka:=stNm p s σ
 rw[<-Sa]at Ka;clear hF
 obtain⟨τ,hτ⟩:∃τ,τ=zAB p s.body s.pos [s.name] (σ1.add (zI (mIs σ1.made s.place.name) 60 s.pos)):=⟨_,rfl⟩
 have Ke:(s.nm p σ).2=[]:=by rw[Ka];simp[hop]
 have Ja:(s.nm p σ).1=τ:=by rw[Ka];simp[hop,hτ,xa]
 rw[Ke,Ja];refine⟨[.dead,.dead],.p (.sl 1 []),?_,.inl ⟨rfl,rfl,2,rfl⟩⟩;refine ADet.less (.p (.nil 1)) (ADet.after (S':=(L++[.cells ((stV s).map (AV.mrg L.length)) 49,.tok 9 1 1])::updF S0 c0 (τ)) ⟨zBW cd (by trivial),rfl⟩ ?_)
 have Km:=fun L=>(zSZ p s.place.name s.pos σ1 (by have:=va.1;omega)).at h L
 have ni:=fun L i=>zYH i1 (va.near (Near.add σ1 (zq (mIs σ1.made s.place.name) 60 s.pos)) (by omega)) hτ h L i
 refine ADet.okA call118 1 10 rfl rfl fun na=>?_
 have ca:=okl na
 refine ADet.merge mixed call118 func118 rfl ?_;simp[ntmps118];refine zH (fun q:Nat=>q<=s.u3.length) (fun q=>([.ptr (c.d+1) c.jF 0,.any,.any,.ptr 0 0 0,nilS,.any,.any,.any,.any,.any,.any,.any,.any,.p (.sl 8 (s.u3.map Ex.enc)),I s.u3.length,I q]++List.replicate 171 .any)) (fun q=>[.cells (stV s) 49]::updF S c (F q)) (fun q=>s.u3.length-q) 0 (Nat.zero_le _) ?_ ?_ ?_
 .simp
 .simp[Ab,hs]
 intro q hq
 by_cases hlt:q<s.u3.length
 .have aa:(q:Int)<(s.u3.length:Int):=by omega
  have hw:=zA hlt
  have Xa:=Ib q hlt
  have Aa:s.u3.length-(q+1)<s.u3.length-q:=by omega
  have uc:=fun L=>(zIR p s.u3[q] _ (F q) (ua _ (List.getElem_mem hlt)) (Hb q hlt)).at h L
  rw[<-Xa]at uc
  generalize he:s.u3[q]=e at*
  simp[hlt,aa,he,zg];refine cq (uc _) ?_;simp;exact⟨q+1,hlt,Aa,hw,rfl⟩
 have aa:¬(q:Int)<(s.u3.length:Int):=by omega
 have Ya:q=s.u3.length:=by omega
 subst Ya;rw[Yb];simp[hop];refine cq (Km _) ?_;simp;refine cq (ni _ _) ?_
 try simp
 rw[gd];simp[zBU,AObj.mrg,AV.mrg,AV.mrgs]
 try exact hop
theorem zYI(p:List It)(hp:∀x∈p,x.fields.length<=20000)(s:St)(d:Int)(Lc:s.whole d=true)(i1:∀x∈s.body,StmC p x)(i2:∀x∈s.els,StmC p x)(i3:∀a∈s.arms,∀x∈a.body,StmC p x)(hop:s.op=9):StmC p s:=by
 intro σ hb S0 c0 h0 L cd
 have ua:=zAj Lc
 obtain⟨c,hc⟩:∃c,c=c0.up:=⟨_,rfl⟩
 obtain⟨S,hS⟩:∃S,S=L::S0:=⟨_,rfl⟩
 have h:NAt p S c σ:=by rw[hc,hS];exact h0.cons L
 have gd:∀τ,updF S c τ=L::updF S0 c0 τ:=fun τ=>by rw[hc,hS];exact zAl L S0 c0 τ
 have re:c0.d+1=c.d:=by rw[hc];rfl
 have td:c0.jF=c.jF:=by rw[hc];rfl
 rw[re,td,<-hS]
 have hs:=zAR h
 have gf:=stNd s
 obtain⟨F,hF⟩:∃F:Nat->Nf,F=fun q=>σ.add ((s.u3.take q).flatMap (Ex.nm p σ.made)):=⟨_,rfl⟩
 have Ab:F 0=σ:=by rw[hF];simp[Nf.add_nil]
 obtain⟨σ1,Sa⟩:∃σ1,σ1=σ.add (s.u3.flatMap (Ex.nm p σ.made)):=⟨_,rfl⟩
 have Yb:F s.u3.length=σ1:=by rw[hF,Sa];simp
 have Ib:∀q (hq:q<s.u3.length),F (q+1)=(F q).add (s.u3[q].nm p (F q).made):=fun q hq=>by
  rw[hF];simp only[List.take_succ_eq_append_getElem hq,List.flatMap_append,Nf.add_add];simp[Nf.add]
 have Hb:∀q (hq:q<s.u3.length),(F q).fl.length+s.u3[q].nd<=4000000000:=fun q hq=>by
  have e1:=zCB Ex.nd hq
  have e2:=zAA p σ.made (s.u3.take q)
  have:=hb.1
  rw[hF];simp only[Nf.add,List.length_append];omega
 have va:BdN σ1 (s.nd-(s.u3.map Ex.nd).sum):=by
  rw[Sa];exact hb.near (Near.add σ (zAA p σ.made s.u3)) (by omega)
 have xa:σ1.made=σ.made:=by rw[Sa];rfl
 have De:σ1.count=σ.count:=by rw[Sa];rfl
 have Ga:σ1.opn=σ.opn:=by rw[Sa];rfl
 have Ka:=stNm p s σ
 rw[<-Sa]at Ka;clear hF
 obtain⟨τ,hτ⟩:∃τ,τ=zAB p s.body s.pos [] ⟨σ1.made,σ1.count,σ1.opn+1,σ1.fl⟩:=⟨_,rfl⟩
 have Ep:(⟨σ.made,σ.count,σ.opn+1,σ.fl++s.u3.flatMap (Ex.nm p σ.made)⟩:Nf)=⟨σ1.made,σ1.count,σ1.opn+1,σ1.fl⟩:=by rw[Sa];rfl
 have Jv:τ.opn=σ1.opn+1:=by
  have:=zCP p (l:=s.body) (fun x _ σ=>zCu p x σ) s.pos [] ⟨σ1.made,σ1.count,σ1.opn+1,σ1.fl⟩
  rw[hτ];exact this.2.2.2.2
 have Ke:(s.nm p σ).2=[]:=by rw[Ka];simp[hop]
 have Ja:(s.nm p σ).1=⟨τ.made,τ.count,τ.opn-1,τ.fl⟩:=by rw[Ka];simp[hop,hτ,Ep]
 rw[Ke,Ja];refine⟨[.dead],.p (.sl 1 []),?_,.inl ⟨rfl,rfl,1,rfl⟩⟩;refine ADet.less (.p (.nil 1)) (ADet.after (S':=(L++[.cells ((stV s).map (AV.mrg L.length)) 49])::updF S0 c0 (⟨τ.made,τ.count,τ.opn-1,τ.fl⟩)) ⟨zBW cd (by trivial),rfl⟩ ?_)
 have eu:BdN ⟨σ1.made,σ1.count,σ1.opn+1,σ1.fl⟩ (s.body.map St.nd).sum:=⟨by have:=va.1;simp only;omega,by have:=va.2.1;simp only;omega,by have:=va.2.2;simp only;omega⟩
 have ni:=fun L=>zMz i1 eu hτ h L
 have sn:=zOM S c σ1 (σ1.opn+1)
 have Cr:=zOM S c τ (τ.opn-1)
 simp only[fnO]at sn Cr
 have g1:=(h.updF σ1).n
 have g2:=(h.updF τ).n
 simp only[fnO]at g1 g2
 have Je:IntKind.i64.wrap ((σ1.opn:Int)+1)=((σ1.opn+1:Nat):Int):=zA (n:=4294967296) (by have:=va.2.2;omega) (by unfold maxLen;omega)
 have ve:IntKind.i64.wrap ((τ.opn:Int)-1)=((τ.opn-1:Nat):Int):=by
  have:=va.2.2
  rw[IntWalk.i64_in _ (by omega)];omega
 refine ADet.okA call118 1 10 rfl rfl fun na=>?_
 have ca:=okl na
 refine ADet.merge mixed call118 func118 rfl ?_;simp[ntmps118];refine zH (fun q:Nat=>q<=s.u3.length) (fun q=>([.ptr (c.d+1) c.jF 0,.any,.any,.ptr 0 0 0,nilS,.any,.any,.any,.any,.any,.any,.any,.any,.p (.sl 8 (s.u3.map Ex.enc)),I s.u3.length,I q]++List.replicate 171 .any)) (fun q=>[.cells (stV s) 49]::updF S c (F q)) (fun q=>s.u3.length-q) 0 (Nat.zero_le _) ?_ ?_ ?_
 .simp
 .simp[Ab,hs]
 intro q hq
 by_cases hlt:q<s.u3.length
 .have aa:(q:Int)<(s.u3.length:Int):=by omega
  have hw:=zA hlt
  have Xa:=Ib q hlt
  have Aa:s.u3.length-(q+1)<s.u3.length-q:=by omega
  have uc:=fun L=>(zIR p s.u3[q] _ (F q) (ua _ (List.getElem_mem hlt)) (Hb q hlt)).at h L
  rw[<-Xa]at uc
  generalize he:s.u3[q]=e at*
  simp[hlt,aa,he,zg];refine cq (uc _) ?_;simp;exact⟨q+1,hlt,Aa,hw,rfl⟩
 have aa:¬(q:Int)<(s.u3.length:Int):=by omega
 have Ya:q=s.u3.length:=by omega
 subst Ya;rw[Yb];simp[hop,g1,Je,zAy];rw[show((σ1.opn:Int)+1)=((σ1.opn+1:Nat):Int)from rfl,sn]
 refine cq (ni _) ?_;simp[g2,ve,zAy];rw[Cr]
 try simp
 rw[gd];simp[zBU,AObj.mrg,AV.mrg,AV.mrgs]
 try exact hop
theorem zYJ(p:List It)(hp:∀x∈p,x.fields.length<=20000)(s:St)(d:Int)(Lc:s.whole d=true)(i1:∀x∈s.body,StmC p x)(i2:∀x∈s.els,StmC p x)(i3:∀a∈s.arms,∀x∈a.body,StmC p x)(o1:¬s.op=1)(o2:¬s.op=2)(o3:¬s.op=3)(o5:¬s.op=5)(Ai:¬s.op=12)(o8:¬s.op=8)(Bi:¬s.op=10)(o9:¬s.op=9)(Ci:¬s.op=11):StmC p s:=by
 intro σ hb S0 c0 h0 L cd
 have ua:=zAj Lc
 obtain⟨c,hc⟩:∃c,c=c0.up:=⟨_,rfl⟩
 obtain⟨S,hS⟩:∃S,S=L::S0:=⟨_,rfl⟩
 have h:NAt p S c σ:=by rw[hc,hS];exact h0.cons L
 have gd:∀τ,updF S c τ=L::updF S0 c0 τ:=fun τ=>by rw[hc,hS];exact zAl L S0 c0 τ
 have re:c0.d+1=c.d:=by rw[hc];rfl
 have td:c0.jF=c.jF:=by rw[hc];rfl
 rw[re,td,<-hS]
 have hs:=zAR h
 have gf:=stNd s
 obtain⟨F,hF⟩:∃F:Nat->Nf,F=fun q=>σ.add ((s.u3.take q).flatMap (Ex.nm p σ.made)):=⟨_,rfl⟩
 have Ab:F 0=σ:=by rw[hF];simp[Nf.add_nil]
 obtain⟨σ1,Sa⟩:∃σ1,σ1=σ.add (s.u3.flatMap (Ex.nm p σ.made)):=⟨_,rfl⟩
 have Yb:F s.u3.length=σ1:=by rw[hF,Sa];simp
 have Ib:∀q (hq:q<s.u3.length),F (q+1)=(F q).add (s.u3[q].nm p (F q).made):=fun q hq=>by
  rw[hF];simp only[List.take_succ_eq_append_getElem hq,List.flatMap_append,Nf.add_add];simp[Nf.add]
 have Hb:∀q (hq:q<s.u3.length),(F q).fl.length+s.u3[q].nd<=4000000000:=fun q hq=>by
  have e1:=zCB Ex.nd hq
  have e2:=zAA p σ.made (s.u3.take q)
  have:=hb.1
  rw[hF];simp only[Nf.add,List.length_append];omega
 have va:BdN σ1 (s.nd-(s.u3.map Ex.nd).sum):=by
  rw[Sa];exact hb.near (Near.add σ (zAA p σ.made s.u3)) (by omega)
 have xa:σ1.made=σ.made:=by rw[Sa];rfl
 have De:σ1.count=σ.count:=by rw[Sa];rfl
 have Ga:σ1.opn=σ.opn:=by rw[Sa];rfl
 have Ka:=stNm p s σ
 rw[<-Sa]at Ka;clear hF
 obtain⟨τ1,Fp⟩:∃τ,τ=zAB p s.body s.pos [] σ1:=⟨_,rfl⟩
 obtain⟨τ,hτ⟩:∃τ,τ=zAB p s.els s.pos [] τ1:=⟨_,rfl⟩
 have Ke:(s.nm p σ).2=[]:=by rw[Ka];simp[o1,o2,o3,o5,Ai,o8,Bi,o9,Ci]
 have Ja:(s.nm p σ).1=τ:=by rw[Ka];simp[o1,o2,o3,o5,Ai,o8,Bi,o9,Ci,hτ,Fp]
 rw[Ke,Ja];refine⟨[.dead],.p (.sl 1 []),?_,.inl ⟨rfl,rfl,1,rfl⟩⟩;refine ADet.less (.p (.nil 1)) (ADet.after (S':=(L++[.cells ((stV s).map (AV.mrg L.length)) 49])::updF S0 c0 (τ)) ⟨zBW cd (by trivial),rfl⟩ ?_)
 have ni:=fun L=>zMz i1 (va.near (Near.refl σ1) (by omega)) Fp h L
 have vf:=zCP p (l:=s.body) (fun x _ σ=>zCu p x σ) s.pos [] σ1
 rw[<-Fp]at vf
 have Gp:=fun L=>zMz i2 (va.near vf (by simp;omega)) hτ h L
 have e1:(s.op==1)=false:=by simpa using o1
 have e2:(s.op==2)=false:=by simpa using o2
 have e3:(s.op==3)=false:=by simpa using o3
 have e5:(s.op==5)=false:=by simpa using o5
 have fu:(s.op==12)=false:=by simpa using Ai
 have e8:(s.op==8)=false:=by simpa using o8
 have gu:(s.op==10)=false:=by simpa using Bi
 have e9:(s.op==9)=false:=by simpa using o9
 have iu:(s.op==11)=false:=by simpa using Ci
 refine ADet.okA call118 1 10 rfl rfl fun na=>?_
 have ca:=okl na
 refine ADet.merge mixed call118 func118 rfl ?_;simp[ntmps118];refine zH (fun q:Nat=>q<=s.u3.length) (fun q=>([.ptr (c.d+1) c.jF 0,.any,.any,.ptr 0 0 0,nilS,.any,.any,.any,.any,.any,.any,.any,.any,.p (.sl 8 (s.u3.map Ex.enc)),I s.u3.length,I q]++List.replicate 171 .any)) (fun q=>[.cells (stV s) 49]::updF S c (F q)) (fun q=>s.u3.length-q) 0 (Nat.zero_le _) ?_ ?_ ?_
 .simp
 .simp[Ab,hs]
 intro q hq
 by_cases hlt:q<s.u3.length
 .have aa:(q:Int)<(s.u3.length:Int):=by omega
  have hw:=zA hlt
  have Xa:=Ib q hlt
  have Aa:s.u3.length-(q+1)<s.u3.length-q:=by omega
  have uc:=fun L=>(zIR p s.u3[q] _ (F q) (ua _ (List.getElem_mem hlt)) (Hb q hlt)).at h L
  rw[<-Xa]at uc
  generalize he:s.u3[q]=e at*
  simp[hlt,aa,he,zg];refine cq (uc _) ?_;simp;exact⟨q+1,hlt,Aa,hw,rfl⟩
 have aa:¬(q:Int)<(s.u3.length:Int):=by omega
 have Ya:q=s.u3.length:=by omega
 subst Ya;rw[Yb];simp[o1,o2,o3,o5,Ai,o8,Bi,o9,Ci,e1,e2,e3,e5,fu,e8,gu,e9,iu];refine cq (ni _) ?_;simp;refine cq (Gp _) ?_
 try simp
 rw[gd];simp[zBU,AObj.mrg,AV.mrg,AV.mrgs]
 try exact hop
attribute [local simp] List.forall_mem_cons List.contains_cons List.contains_nil List.find?
theorem zYK(p:List It)(hp:∀x∈p,x.fields.length<=20000)(s:St)(d:Int)(Lc:s.whole d=true)(i1:∀x∈s.body,StmC p x)(i2:∀x∈s.els,StmC p x)(i3:∀a∈s.arms,∀x∈a.body,StmC p x)(hop:s.op=1):StmC p s:=by
 intro σ hb S0 c0 h0 L cd
 have ua:=zAj Lc
 obtain⟨c,hc⟩:∃c,c=c0.up:=⟨_,rfl⟩
 obtain⟨S,hS⟩:∃S,S=L::S0:=⟨_,rfl⟩
 have h:NAt p S c σ:=by rw[hc,hS];exact h0.cons L
 have gd:∀τ,updF S c τ=L::updF S0 c0 τ:=fun τ=>by rw[hc,hS];exact zAl L S0 c0 τ
 have re:c0.d+1=c.d:=by rw[hc];rfl
 have td:c0.jF=c.jF:=by rw[hc];rfl
 rw[re,td,<-hS]
 have hs:=zAR h
 have gf:=stNd s
 obtain⟨F,hF⟩:∃F:Nat->Nf,F=fun q=>σ.add ((s.u3.take q).flatMap (Ex.nm p σ.made)):=⟨_,rfl⟩
 have Ab:F 0=σ:=by rw[hF];simp[Nf.add_nil]
 obtain⟨σ1,Sa⟩:∃σ1,σ1=σ.add (s.u3.flatMap (Ex.nm p σ.made)):=⟨_,rfl⟩
 have Yb:F s.u3.length=σ1:=by rw[hF,Sa];simp
 have Ib:∀q (hq:q<s.u3.length),F (q+1)=(F q).add (s.u3[q].nm p (F q).made):=fun q hq=>by
  rw[hF];simp only[List.take_succ_eq_append_getElem hq,List.flatMap_append,Nf.add_add];simp[Nf.add]
 have Hb:∀q (hq:q<s.u3.length),(F q).fl.length+s.u3[q].nd<=4000000000:=fun q hq=>by
  have e1:=zCB Ex.nd hq
  have e2:=zAA p σ.made (s.u3.take q)
  have:=hb.1
  rw[hF];simp only[Nf.add,List.length_append];omega
 have va:BdN σ1 (s.nd-(s.u3.map Ex.nd).sum):=by
  rw[Sa];exact hb.near (Near.add σ (zAA p σ.made s.u3)) (by omega)
 have xa:σ1.made=σ.made:=by rw[Sa];rfl
 have De:σ1.count=σ.count:=by rw[Sa];rfl
 have Ga:σ1.opn=σ.opn:=by rw[Sa];rfl
 have Ka:=stNm p s σ
 rw[<-Sa]at Ka;clear hF
 have Ke:(s.nm p σ).2=[(s.name,mIs σ1.made s.name)]:=by rw[Ka];simp[hop,Nf.mkS]
 have Ja:(s.nm p σ).1=σ1.mk1 s.name s.pos:=by rw[Ka];simp[hop,Nf.mkS]
 rw[Ke,Ja];refine⟨List.replicate 2 .dead++[.row 1 1 1 [clo c0.up (s.name,mIs σ1.made s.name)]],.rsl 0 (L.length+2) 1 1,?_,.inr ⟨2,rfl,rfl⟩⟩;refine ADet.after (S':=(L++[.cells ((stV s).map (AV.mrg L.length)) 49,.cells [clo c0.up (s.name,mIs σ1.made s.name)] 1,.row 1 1 1 [clo c0.up (s.name,mIs σ1.made s.name)]])::updF S0 c0 (σ1.mk1 s.name s.pos)) ⟨zBW cd (by exact⟨⟨⟨rfl,rfl,rfl⟩,za _⟩,trivial⟩),rfl⟩ ?_
 have Ha:=fun L=>zIS (p:=p) (s:=s.name) (pos:=s.pos) (σ:=σ1) (by have:=va.1;omega) (by have:=va.2.1;omega) h L
 have kb:∀n b,clo c.up (n,b)= .fn (.func 190) [] [.bx [B b],.bx [.ptr (c.d+1) c.jF 0],.bx [Sg n]]:=fun _ _=>rfl
 have tj:∀n b,clo c0.up (n,b)= .fn (.func 190) [] [.bx [B b],.bx [.ptr c.d c.jF 0],.bx [Sg n]]:=fun n b=>by rw[<-re,<-td];rfl
 refine ADet.okA call118 1 10 rfl rfl fun na=>?_
 have ca:=okl na
 refine ADet.merge mixed call118 func118 rfl ?_;simp[ntmps118];refine zH (fun q:Nat=>q<=s.u3.length) (fun q=>([.ptr (c.d+1) c.jF 0,.any,.any,.ptr 0 0 0,nilS,.any,.any,.any,.any,.any,.any,.any,.any,.p (.sl 8 (s.u3.map Ex.enc)),I s.u3.length,I q]++List.replicate 171 .any)) (fun q=>[.cells (stV s) 49]::updF S c (F q)) (fun q=>s.u3.length-q) 0 (Nat.zero_le _) ?_ ?_ ?_
 .simp
 .simp[Ab,hs]
 intro q hq
 by_cases hlt:q<s.u3.length
 .have aa:(q:Int)<(s.u3.length:Int):=by omega
  have hw:=zA hlt
  have Xa:=Ib q hlt
  have Aa:s.u3.length-(q+1)<s.u3.length-q:=by omega
  have uc:=fun L=>(zIR p s.u3[q] _ (F q) (ua _ (List.getElem_mem hlt)) (Hb q hlt)).at h L
  rw[<-Xa]at uc
  generalize he:s.u3[q]=e at*
  simp[hlt,aa,he,zg];refine cq (uc _) ?_;simp;exact⟨q+1,hlt,Aa,hw,rfl⟩
 have aa:¬(q:Int)<(s.u3.length:Int):=by omega
 have Ya:q=s.u3.length:=by omega
 subst Ya;rw[Yb];simp[hop];refine cq (Ha _) ?_;simp[kb];rw[gd];rw[tj];rw[<-re,<-td];simp[zBU,AObj.mrg,AV.mrg,AV.mrgs]
 try exact hop
theorem zVV(p:List It)(hp:∀x∈p,x.fields.length<=20000)(s:St)(d:Int)(Lc:s.whole d=true)(i1:∀x∈s.body,StmC p x)(i2:∀x∈s.els,StmC p x)(i3:∀a∈s.arms,∀x∈a.body,StmC p x)(hop:s.op=12):StmC p s:=by
 intro σ hb S0 c0 h0 L cd
 have ua:=zAj Lc
 obtain⟨c,hc⟩:∃c,c=c0.up:=⟨_,rfl⟩
 obtain⟨S,hS⟩:∃S,S=L::S0:=⟨_,rfl⟩
 have h:NAt p S c σ:=by rw[hc,hS];exact h0.cons L
 have gd:∀τ,updF S c τ=L::updF S0 c0 τ:=fun τ=>by rw[hc,hS];exact zAl L S0 c0 τ
 have re:c0.d+1=c.d:=by rw[hc];rfl
 have td:c0.jF=c.jF:=by rw[hc];rfl
 rw[re,td,<-hS]
 have hs:=zAR h
 have gf:=stNd s
 obtain⟨F,hF⟩:∃F:Nat->Nf,F=fun q=>σ.add ((s.u3.take q).flatMap (Ex.nm p σ.made)):=⟨_,rfl⟩
 have Ab:F 0=σ:=by rw[hF];simp[Nf.add_nil]
 obtain⟨σ1,Sa⟩:∃σ1,σ1=σ.add (s.u3.flatMap (Ex.nm p σ.made)):=⟨_,rfl⟩
 have Yb:F s.u3.length=σ1:=by rw[hF,Sa];simp
 have Ib:∀q (hq:q<s.u3.length),F (q+1)=(F q).add (s.u3[q].nm p (F q).made):=fun q hq=>by
  rw[hF];simp only[List.take_succ_eq_append_getElem hq,List.flatMap_append,Nf.add_add];simp[Nf.add]
 have Hb:∀q (hq:q<s.u3.length),(F q).fl.length+s.u3[q].nd<=4000000000:=fun q hq=>by
  have e1:=zCB Ex.nd hq
  have e2:=zAA p σ.made (s.u3.take q)
  have:=hb.1
  rw[hF];simp only[Nf.add,List.length_append];omega
 have va:BdN σ1 (s.nd-(s.u3.map Ex.nd).sum):=by
  rw[Sa];exact hb.near (Near.add σ (zAA p σ.made s.u3)) (by omega)
 have xa:σ1.made=σ.made:=by rw[Sa];rfl
 have De:σ1.count=σ.count:=by rw[Sa];rfl
 have Ga:σ1.opn=σ.opn:=by rw[Sa];rfl
 have Ka:=stNm p s σ
 rw[<-Sa]at Ka;clear hF
 obtain⟨σ2,oi⟩:∃σ2,σ2=σ1.add (s.type.nm p s.pos):=⟨_,rfl⟩
 obtain⟨σ3,Ln⟩:∃σ3,σ3=σ2.mk1 s.name s.pos:=⟨_,rfl⟩
 have Cd:BdN σ2 2:=by rw[oi];exact va.near (Near.add σ1 (zE4 p s.pos s.type)) (by omega)
 have Vj:BdN σ3 1:=by
  have:=(zBC [s.name] s.pos σ2).1
  simp only[Nf.mkS]at this;rw[<-Ln]at this;exact Cd.near this (by simp)
 have Ke:(s.nm p σ).2=[(s.name,mIs σ2.made s.name),(s.u2,mIs σ3.made s.u2)]:=by rw[Ka,Ln,oi];simp[hop,Nf.mkS]
 have Ja:(s.nm p σ).1=σ3.mk1 s.u2 s.pos:=by rw[Ka,Ln,oi];simp[hop,Nf.mkS]
 rw[Ke,Ja];refine⟨List.replicate 2 .dead++[.row 1 1 2 [clo c0.up (s.name,mIs σ2.made s.name),clo c0.up (s.u2,mIs σ3.made s.u2)]],.rsl 0 (L.length+2) 2 1,?_,.inr ⟨2,rfl,rfl⟩⟩;refine ADet.after (S':=(L++[.cells ((stV s).map (AV.mrg L.length)) 49,.cells [clo c0.up (s.name,mIs σ2.made s.name),clo c0.up (s.u2,mIs σ3.made s.u2)] 1,.row 1 1 2 [clo c0.up (s.name,mIs σ2.made s.name),clo c0.up (s.u2,mIs σ3.made s.u2)]])::updF S0 c0 (σ3.mk1 s.u2 s.pos)) ⟨zBW cd (by exact⟨⟨⟨rfl,rfl,rfl⟩,za _⟩,trivial⟩),rfl⟩ ?_
 have Di:∀L:List AObj,ADet Tryz.prog 62 [.ptr (c.k+c.d+1) 3 0,tyV s.type,I s.pos] (L::updF S c σ1) .un (L::updF S c σ2):=fun L=>by
  have:=(zX8 p s.pos s.type σ1.fl (by have:=va.1;omega)).inF h L
  rw[oi];exact this
 have Ha:=fun L=>zIS (p:=p) (s:=s.name) (pos:=s.pos) (σ:=σ2) (by have:=Cd.1;omega) (by have:=Cd.2.1;omega) h L
 rw[<-Ln]at Ha
 have di:=fun L=>zIS (p:=p) (s:=s.u2) (pos:=s.pos) (σ:=σ3) (by have:=Vj.1;omega) (by have:=Vj.2.1;omega) h L
 have g1:=(h.updF σ1).n
 simp only[fnO]at g1
 have kb:∀n b,clo c.up (n,b)= .fn (.func 190) [] [.bx [B b],.bx [.ptr (c.d+1) c.jF 0],.bx [Sg n]]:=fun _ _=>rfl
 have tj:∀n b,clo c0.up (n,b)= .fn (.func 190) [] [.bx [B b],.bx [.ptr c.d c.jF 0],.bx [Sg n]]:=fun n b=>by rw[<-re,<-td];rfl
 refine ADet.okA call118 1 10 rfl rfl fun na=>?_
 have ca:=okl na
 refine ADet.merge mixed call118 func118 rfl ?_;simp[ntmps118];refine zH (fun q:Nat=>q<=s.u3.length) (fun q=>([.ptr (c.d+1) c.jF 0,.any,.any,.ptr 0 0 0,nilS,.any,.any,.any,.any,.any,.any,.any,.any,.p (.sl 8 (s.u3.map Ex.enc)),I s.u3.length,I q]++List.replicate 171 .any)) (fun q=>[.cells (stV s) 49]::updF S c (F q)) (fun q=>s.u3.length-q) 0 (Nat.zero_le _) ?_ ?_ ?_
 .simp
 .simp[Ab,hs]
 intro q hq
 by_cases hlt:q<s.u3.length
 .have aa:(q:Int)<(s.u3.length:Int):=by omega
  have hw:=zA hlt
  have Xa:=Ib q hlt
  have Aa:s.u3.length-(q+1)<s.u3.length-q:=by omega
  have uc:=fun L=>(zIR p s.u3[q] _ (F q) (ua _ (List.getElem_mem hlt)) (Hb q hlt)).at h L
  rw[<-Xa]at uc
  generalize he:s.u3[q]=e at*
  simp[hlt,aa,he,zg];refine cq (uc _) ?_;simp;exact⟨q+1,hlt,Aa,hw,rfl⟩
 have aa:¬(q:Int)<(s.u3.length:Int):=by omega
 have Ya:q=s.u3.length:=by omega
 subst Ya;rw[Yb];simp[hop];refine dB [] (by kernel_rfl) ?_
 simp[g1];refine cq (Di _) ?_;simp;refine dB [(9,6),(11,6)] (by kernel_rfl) ?_
 simp;refine cq (Ha _) ?_;simp;refine cq (di _) ?_;simp[kb];rw[gd];rw[tj,tj];rw[<-re,<-td];simp[zBU,AObj.mrg,AV.mrg,AV.mrgs]
 try exact hop
theorem zON(n:Nat)(c:Cf):∀l:List Fg,AV.mrgs n (l.map (clo c.up.up))=l.map (clo c.up)
 | []=>rfl
 |g::l=>by
  rw[List.map_cons,List.map_cons,AV.mrgs,zON n c l];rfl
abbrev anyI:List AV:=[.any,.any,.any,.any,.any,.any,.any,.any,.any,.any,.any,.any,.any,.any,.any,.any]
theorem zYL(p:List It)(hp:∀x∈p,x.fields.length<=20000)(s:St)(d:Int)(Lc:s.whole d=true)(i1:∀x∈s.body,StmC p x)(i2:∀x∈s.els,StmC p x)(i3:∀a∈s.arms,∀x∈a.body,StmC p x)(hop:s.op=2):StmC p s:=by
 intro σ hb S0 c0 h0 L cd
 have ua:=zAj Lc
 obtain⟨c,hc⟩:∃c,c=c0.up:=⟨_,rfl⟩
 obtain⟨S,hS⟩:∃S,S=L::S0:=⟨_,rfl⟩
 have h:NAt p S c σ:=by rw[hc,hS];exact h0.cons L
 have gd:∀τ,updF S c τ=L::updF S0 c0 τ:=fun τ=>by rw[hc,hS];exact zAl L S0 c0 τ
 have re:c0.d+1=c.d:=by rw[hc];rfl
 have td:c0.jF=c.jF:=by rw[hc];rfl
 rw[re,td,<-hS]
 have hs:=zAR h
 have gf:=stNd s
 obtain⟨F,hF⟩:∃F:Nat->Nf,F=fun q=>σ.add ((s.u3.take q).flatMap (Ex.nm p σ.made)):=⟨_,rfl⟩
 have Ab:F 0=σ:=by rw[hF];simp[Nf.add_nil]
 obtain⟨σ1,Sa⟩:∃σ1,σ1=σ.add (s.u3.flatMap (Ex.nm p σ.made)):=⟨_,rfl⟩
 have Yb:F s.u3.length=σ1:=by rw[hF,Sa];simp
 have Ib:∀q (hq:q<s.u3.length),F (q+1)=(F q).add (s.u3[q].nm p (F q).made):=fun q hq=>by
  rw[hF];simp only[List.take_succ_eq_append_getElem hq,List.flatMap_append,Nf.add_add];simp[Nf.add]
 have Hb:∀q (hq:q<s.u3.length),(F q).fl.length+s.u3[q].nd<=4000000000:=fun q hq=>by
  have e1:=zCB Ex.nd hq
  have e2:=zAA p σ.made (s.u3.take q)
  have:=hb.1
  rw[hF];simp only[Nf.add,List.length_append];omega
 have va:BdN σ1 (s.nd-(s.u3.map Ex.nd).sum):=by
  rw[Sa];exact hb.near (Near.add σ (zAA p σ.made s.u3)) (by omega)
 have xa:σ1.made=σ.made:=by rw[Sa];rfl
 have De:σ1.count=σ.count:=by rw[Sa];rfl
 have Ga:σ1.opn=σ.opn:=by rw[Sa];rfl
 have Ka:=stNm p s σ
 rw[<-Sa]at Ka;clear hF
 obtain⟨bb,We⟩:∃bb,bb=zH6 p s.name s.names.length:=⟨_,rfl⟩
 obtain⟨σ2,oi⟩:∃σ2,σ2=σ1.add (zI bb 60 s.pos):=⟨_,rfl⟩
 have ju:s.names.length<=4000000000:=by
  have:=hb.1
  omega
 have Ce:s.names.length<=maxLen:=by unfold maxLen;omega
 have Cd:BdN σ2 s.names.length:=by rw[oi];exact va.near (Near.add σ1 (zq bb 60 s.pos)) (by omega)
 obtain⟨G,hG⟩:∃G:Nat->Nf × List Fg,G=fun q=>Nf.mkS (s.names.take q) s.pos σ2:=⟨_,rfl⟩
 have Lg:G 0=(σ2,[]):=by rw[hG];simp[Nf.mkS]
 have xi:G s.names.length=Nf.mkS s.names s.pos σ2:=by rw[hG];simp
 have oj:∀q (hq:q<s.names.length),G (q+1)=((G q).1.mk1 s.names[q] s.pos,(G q).2++[(s.names[q],mIs (G q).1.made s.names[q])]):=fun q hq=>by
  rw[hG];simp only[List.take_succ_eq_append_getElem hq,zKX];simp[Nf.mkS]
 have yi:∀q,q<s.names.length->BdN (G q).1 1:=fun q hq=>by
  have e2:=(zBC (s.names.take q) s.pos σ2).1
  rw[hG];exact Cd.near e2 (by simp;omega)
 have Kn:(G s.names.length).2.length=s.names.length:=by rw[xi];exact(zBC s.names s.pos σ2).2
 have Ke:(s.nm p σ).2=(G s.names.length).2:=by rw[xi,Ka,oi,We];simp[hop]
 have Ja:(s.nm p σ).1=(G s.names.length).1:=by rw[xi,Ka,oi,We];simp[hop]
 clear hG;rw[Ke,Ja];refine⟨List.replicate 2 .dead++[.row 1 1 s.names.length ((G s.names.length).2.map (clo c0.up))],.rsl 0 (L.length+2) s.names.length 1,?_,.inr ⟨2,by rw[Kn],by rw[Kn]⟩⟩
 refine ADet.after (S':=(L++[.cells ((stV s).map (AV.mrg L.length)) 49,.cells anyI 45,.row 1 1 s.names.length ((G s.names.length).2.map (clo c0.up))])::updF S0 c0 (G s.names.length).1) ⟨zBW cd (by exact⟨⟨⟨rfl,rfl,rfl⟩,za _⟩,trivial⟩),rfl⟩ ?_
 have gc:=fun b L=>(zEL p b 60 s.pos σ1.fl (by have:=va.1;omega)).inF h L
 have Ca:∀X,(⟨σ1.made,σ1.count,σ1.opn,σ1.fl++X⟩:Nf)=σ1.add X:=fun X=>rfl
 simp only[Ca]at gc
 have g1:=(h.updF σ1).n
 simp only[fnO]at g1
 have wd:=fun L=>zJW p 1 s.name σ1.fl (L::updF S c σ1) _ ((h.updF σ1).k.cons L)
 simp only[Cf.e]at wd;unfold zPr at wd;unfold zH6 zH5 at We
 have Id:∀(n:Nat) (l:List Fg),AV.mrgs n (l.map (clo c.up))=l.map (clo c0.up):=fun n l=>by
  rw[hc];exact zON n c0 l
 refine ADet.okA call118 1 10 rfl rfl fun na=>?_
 have ca:=okl na
 refine ADet.merge mixed call118 func118 rfl ?_;simp[ntmps118];refine zH (fun q:Nat=>q<=s.u3.length) (fun q=>([.ptr (c.d+1) c.jF 0,.any,.any,.ptr 0 0 0,nilS,.any,.any,.any,.any,.any,.any,.any,.any,.p (.sl 8 (s.u3.map Ex.enc)),I s.u3.length,I q]++List.replicate 171 .any)) (fun q=>[.cells (stV s) 49]::updF S c (F q)) (fun q=>s.u3.length-q) 0 (Nat.zero_le _) ?_ ?_ ?_
 .simp
 .simp[Ab,hs]
 intro q hq
 by_cases hlt:q<s.u3.length
 .have aa:(q:Int)<(s.u3.length:Int):=by omega
  have hw:=zA hlt
  have Xa:=Ib q hlt
  have Aa:s.u3.length-(q+1)<s.u3.length-q:=by omega
  have uc:=fun L=>(zIR p s.u3[q] _ (F q) (ua _ (List.getElem_mem hlt)) (Hb q hlt)).at h L
  rw[<-Xa]at uc
  generalize he:s.u3[q]=e at*
  simp[hlt,aa,he,zg];refine cq (uc _) ?_;simp;exact⟨q+1,hlt,Aa,hw,rfl⟩
 have aa:¬(q:Int)<(s.u3.length:Int):=by omega
 have Ya:q=s.u3.length:=by omega
 subst Ya;rw[Yb];simp[hop];refine zEV [(10,11,8)] [] (by kernel_rfl) (by kernel_rfl) (by kernel_rfl) (by simp) ?_
 cases Uc:zb p s.name with
 |none=>
  rw[Uc]at wd We
  have Pf:σ2=σ1.add (zI false 60 s.pos):=by rw[oi,We];simp
  simp[g1];refine cq (wd _) ?_;simp[strs];refine dB [] (by kernel_rfl) ?_
  simp[g1];refine cq (gc false _) ?_;simp[strs];refine zET 1 1 (by decide) [.cells (stV s) 49,.cells anyI 45] (fun q:Nat=>q<=s.names.length) (fun q=>([.ptr (c.d+1) c.jF 0,.any,.any,.ptr 0 0 0,.any,.any,.any,.rsl 0 2 q 1]++(List.replicate 70 .any++([.p (.sl 1 (s.names.map fun s=>[pS s])),I s.names.length,I q]++List.replicate 106 .any)))) (fun q=>[.cells (stV s) 49,.cells anyI 45,.row 1 1 q ((G q).2.map (clo c.up))]::updF S c (G q).1) (fun q=>s.names.length-q) (fun _=>3) 0 (Nat.zero_le _) ?_ ?_ ?_ ?_ ?_
  .intro q _;simp
  .simp
  .simp
  .simp[Lg,Pf]
  intro q hq
  by_cases hlt:q<s.names.length
  .have aa:(q:Int)<(s.names.length:Int):=by omega
   have hw:=zA hlt Ce
   have Gd:=oj q hlt
   have Aa:s.names.length-(q+1)<s.names.length-q:=by omega
   have mi:=yi q hlt
   have Ha:=fun L=>zIS (p:=p) (s:=s.names[q]) (pos:=s.pos) (σ:=(G q).1) (by have:=mi.1;omega) (by have:=mi.2.1;omega) h L
   have oa:q+1<=4294967296:=by omega
   generalize he:s.names[q]=x at*
   have kb:∀b,clo c.up (x,b)= .fn (.func 190) [] [.bx [B b],.bx [.ptr (c.d+1) c.jF 0],.bx [Sg x]]:=fun _=>rfl
   have e2:AV.cuts 3 ((G q).2.map (clo c.up)++[clo c.up (x,mIs (G q).1.made x)])=(G (q+1)).2.map (clo c.up):=by
    rw[show(G q).2.map (clo c.up)++[clo c.up (x,mIs (G q).1.made x)]=((G q).2++[(x,mIs (G q).1.made x)]).map (clo c.up) by simp,zFD,Gd]
   have e3:(G (q+1)).1=(G q).1.mk1 x s.pos:=by rw[Gd]
   rw[<-e3]at Ha
   generalize (G q).2.map (clo c.up)=rc at*
   simp[hlt,aa,he];refine cq (Ha _) ?_;simp[oa,kb];refine⟨q+1,hlt,Aa,⟨rfl,hw⟩,⟨rfl,?_⟩,rfl⟩;rw[<-e2,kb];exact za _
  have aa:¬(q:Int)<(s.names.length:Int):=by omega
  have Ya:q=s.names.length:=by omega
  subst Ya;simp;rw[gd];rw[<-hop];simp[zBU,AObj.mrg,AV.mrg,AV.mrgs,Id]
  exact⟨rfl,rfl⟩
 |some x=>
  rw[Uc]at wd We;simp only[Option.bind_some]at We;simp[g1];refine cq (wd _) ?_;simp[strs];refine dB [] (by kernel_rfl) ?_
  by_cases hk:x.kind=1
  .have Cp:decide (x.kind=1)=true:=decide_eq_true hk
   have ku:((x.fields.length:Int)==(s.names.length:Int))=decide (x.fields.length=s.names.length):=by rw[Bool.eq_iff_iff];simp;omega
   have Pf:σ2=σ1.add (zI (decide (x.fields.length=s.names.length)) 60 s.pos):=by rw[oi,We,if_pos hk]
   simp[g1,Cp,strs,ku];refine cq (gc (decide (x.fields.length=s.names.length)) _) ?_;simp[strs];refine zET 1 1 (by decide) [.cells (stV s) 49,.cells anyI 45] (fun q:Nat=>q<=s.names.length) (fun q=>([.ptr (c.d+1) c.jF 0,.any,.any,.ptr 0 0 0,.any,.any,.any,.rsl 0 2 q 1]++(List.replicate 70 .any++([.p (.sl 1 (s.names.map fun s=>[pS s])),I s.names.length,I q]++List.replicate 106 .any)))) (fun q=>[.cells (stV s) 49,.cells anyI 45,.row 1 1 q ((G q).2.map (clo c.up))]::updF S c (G q).1) (fun q=>s.names.length-q) (fun _=>3) 0 (Nat.zero_le _) ?_ ?_ ?_ ?_ ?_
   .intro q _;simp
   .simp
   .simp
   .simp[Lg,Pf]
   intro q hq
   by_cases hlt:q<s.names.length
   .have aa:(q:Int)<(s.names.length:Int):=by omega
    have hw:=zA hlt Ce
    have Gd:=oj q hlt
    have Aa:s.names.length-(q+1)<s.names.length-q:=by omega
    have mi:=yi q hlt
    have Ha:=fun L=>zIS (p:=p) (s:=s.names[q]) (pos:=s.pos) (σ:=(G q).1) (by have:=mi.1;omega) (by have:=mi.2.1;omega) h L
    have oa:q+1<=4294967296:=by omega
    generalize he:s.names[q]=x at*
    have kb:∀b,clo c.up (x,b)= .fn (.func 190) [] [.bx [B b],.bx [.ptr (c.d+1) c.jF 0],.bx [Sg x]]:=fun _=>rfl
    have e2:AV.cuts 3 ((G q).2.map (clo c.up)++[clo c.up (x,mIs (G q).1.made x)])=(G (q+1)).2.map (clo c.up):=by
     rw[show(G q).2.map (clo c.up)++[clo c.up (x,mIs (G q).1.made x)]=((G q).2++[(x,mIs (G q).1.made x)]).map (clo c.up) by simp,zFD,Gd]
    have e3:(G (q+1)).1=(G q).1.mk1 x s.pos:=by rw[Gd]
    rw[<-e3]at Ha
    generalize (G q).2.map (clo c.up)=rc at*
    simp[hlt,aa,he];refine cq (Ha _) ?_;simp[oa,kb];refine⟨q+1,hlt,Aa,⟨rfl,hw⟩,⟨rfl,?_⟩,rfl⟩;rw[<-e2,kb];exact za _
   have aa:¬(q:Int)<(s.names.length:Int):=by omega
   have Ya:q=s.names.length:=by omega
   subst Ya;simp;rw[gd];rw[<-hop];simp[zBU,AObj.mrg,AV.mrg,AV.mrgs,Id];exact⟨rfl,rfl⟩
  have Pf:σ2=σ1.add (zI false 60 s.pos):=by rw[oi,We,if_neg hk]
  simp[g1,hk];refine cq (gc false _) ?_;simp[strs];refine zET 1 1 (by decide) [.cells (stV s) 49,.cells anyI 45] (fun q:Nat=>q<=s.names.length) (fun q=>([.ptr (c.d+1) c.jF 0,.any,.any,.ptr 0 0 0,.any,.any,.any,.rsl 0 2 q 1]++(List.replicate 70 .any++([.p (.sl 1 (s.names.map fun s=>[pS s])),I s.names.length,I q]++List.replicate 106 .any)))) (fun q=>[.cells (stV s) 49,.cells anyI 45,.row 1 1 q ((G q).2.map (clo c.up))]::updF S c (G q).1) (fun q=>s.names.length-q) (fun _=>3) 0 (Nat.zero_le _) ?_ ?_ ?_ ?_ ?_
  .intro q _;simp
  .simp
  .simp
  .simp[Lg,Pf]
  intro q hq
  by_cases hlt:q<s.names.length
  .have aa:(q:Int)<(s.names.length:Int):=by omega
   have hw:=zA hlt Ce
   have Gd:=oj q hlt
   have Aa:s.names.length-(q+1)<s.names.length-q:=by omega
   have mi:=yi q hlt
   have Ha:=fun L=>zIS (p:=p) (s:=s.names[q]) (pos:=s.pos) (σ:=(G q).1) (by have:=mi.1;omega) (by have:=mi.2.1;omega) h L
   have oa:q+1<=4294967296:=by omega
   generalize he:s.names[q]=x at*
   have kb:∀b,clo c.up (x,b)= .fn (.func 190) [] [.bx [B b],.bx [.ptr (c.d+1) c.jF 0],.bx [Sg x]]:=fun _=>rfl
   have e2:AV.cuts 3 ((G q).2.map (clo c.up)++[clo c.up (x,mIs (G q).1.made x)])=(G (q+1)).2.map (clo c.up):=by
    rw[show(G q).2.map (clo c.up)++[clo c.up (x,mIs (G q).1.made x)]=((G q).2++[(x,mIs (G q).1.made x)]).map (clo c.up) by simp,zFD,Gd]
   have e3:(G (q+1)).1=(G q).1.mk1 x s.pos:=by rw[Gd]
   rw[<-e3]at Ha
   generalize (G q).2.map (clo c.up)=rc at*
   simp[hlt,aa,he];refine cq (Ha _) ?_;simp[oa,kb];refine⟨q+1,hlt,Aa,⟨rfl,hw⟩,⟨rfl,?_⟩,rfl⟩;rw[<-e2,kb];exact za _
  have aa:¬(q:Int)<(s.names.length:Int):=by omega
  have Ya:q=s.names.length:=by omega
  subst Ya;simp;rw[gd];rw[<-hop];simp[zBU,AObj.mrg,AV.mrg,AV.mrgs,Id];exact⟨rfl,rfl⟩
end Go.Proofs.YtdflkegnmmkkoaaGreatDoor
