/- A part of the proof. -/
import Derived.Test.YtdflkegnmmkkoaaGreatDoorYNPd
set_option linter.unusedVariables false
set_option linter.unusedSimpArgs false
set_option maxRecDepth 100000
set_option maxHeartbeats 32000000
namespace Go.Proofs.YtdflkegnmmkkoaaGreatDoor
open Go.RowKit _root_.Go.Proofs.Tryz
attribute [local simp] List.replicate List.range List.range.loop
theorem zOO(S:ASt)(c:Cf)(σ:Nf)(n:Nat):set2 (updF S c σ) c.d c.jF (fnO c ⟨σ.made,σ.count,n,σ.fl⟩)=updF S c ⟨σ.made,σ.count,n,σ.fl⟩:=by
 unfold updF;rw[zBW]
theorem zM4{p:List It}{l:List St}{pos:Int}{σ τ:Nf}(hl:∀s∈l,StmC p s)(hb:BdN σ (l.map St.nd).sum)(hτ:τ=zAZ p l pos [] σ){S:ASt}{c:Cf}{σ0:Nf}(h:NAt p S c σ0)(L:List AObj):ADet Tryz.prog 158 [.ptr (c.d+1) c.jF 0,.p (.sl 15 (l.map St.enc)),I pos,nilS] (L::updF S c σ) .un (L::updF S c τ):=by
 subst hτ;exact ADet.sub (by repeat' constructor) ((zGP p l hl pos [] σ (by simpa using hb)).at h L)
theorem zX4{p:List It}{l:List St}{pos:Int}{s:BA}{σ τ:Nf}(hl:∀s∈l,StmC p s)(hb:BdN σ (1+(l.map St.nd).sum))(hτ:τ=zAZ p l pos [s] σ){S:ASt}{c:Cf}{σ0:Nf}(h:NAt p S c σ0)(L:List AObj)(i:Nat):ADet Tryz.prog 158 [.ptr (c.d+1) c.jF 0,.p (.sl 15 (l.map St.enc)),I pos,.osl 1 [[pS s]] 0 i] (L::updF S c σ) .un (L::updF S c τ):=by
 subst hτ;exact ADet.toP2 (as1:=[.ptr (c.d+1) c.jF 0,.p (.sl 15 (l.map St.enc)),I pos]) (as2:=[]) (v:=.osl 1 [[pS s]] 0 i) rfl ((zGP p l hl pos [s] σ hb).at h L)
theorem zVM(p:List It)(hp:∀x∈p,x.fields.length<=20000)(s:St)(d:Int)(Za:s.whole d=true)(i1:∀x∈s.body,StmC p x)(i2:∀x∈s.els,StmC p x)(i3:∀a∈s.arms,∀x∈a.body,StmC p x)(hop:s.op=11):StmC p s:=by
 intro σ hb S0 c0 h0 L Gd
 have ta:=zAq Za
 obtain⟨c,hc⟩:∃c,c=c0.up:=⟨_,rfl⟩
 obtain⟨S,hS⟩:∃S,S=L::S0:=⟨_,rfl⟩
 have h:NAt p S c σ:=by rw[hc,hS];exact h0.cons L
 have gd:∀τ,updF S c τ=L::updF S0 c0 τ:=fun τ=>by rw[hc,hS];exact zAt L S0 c0 τ
 have te:c0.d+1=c.d:=by rw[hc];rfl
 have td:c0.jF=c.jF:=by rw[hc];rfl
 rw[te,td,<-hS]
 have hs:=zAU h
 have mf:=stNd s
 obtain⟨F,hF⟩:∃F:Nat->Nf,F=fun q=>σ.add ((s.u3.take q).flatMap (Ex.nm p σ.made)):=⟨_,rfl⟩
 have yb:F 0=σ:=by rw[hF];simp[Nf.add_nil]
 obtain⟨σ1,Ta⟩:∃σ1,σ1=σ.add (s.u3.flatMap (Ex.nm p σ.made)):=⟨_,rfl⟩
 have Zb:F s.u3.length=σ1:=by rw[hF,Ta];simp
 have Jb:∀q (hq:q<s.u3.length),F (q+1)=(F q).add (s.u3[q].nm p (F q).made):=fun q hq=>by
  rw[hF];simp only[List.take_succ_eq_append_getElem hq,List.flatMap_append,Nf.add_add];simp[Nf.add]
 have Ib:∀q (hq:q<s.u3.length),(F q).fl.length+s.u3[q].nd<=4000000000:=fun q hq=>by
  have e1:=zCA Ex.nd hq
  have e2:=zAD p σ.made (s.u3.take q)
  have:=hb.1
  rw[hF];simp only[Nf.add,List.length_append];omega
 have va:BdN σ1 (s.nd-(s.u3.map Ex.nd).sum):=by
  rw[Ta];exact hb.near (Near.add σ (zAD p σ.made s.u3)) (by omega)
 have xa:σ1.made=σ.made:=by rw[Ta];rfl
 have Ge:σ1.count=σ.count:=by rw[Ta];rfl
 have Ga:σ1.opn=σ.opn:=by rw[Ta];rfl
 have Ja:=stNm p s σ
 rw[<-Ta]at Ja;clear hF
 obtain⟨τ,hτ⟩:∃τ,τ=zAZ p s.body s.pos [s.name] (σ1.add (zJ (mIs σ1.made s.place.name) 60 s.pos)):=⟨_,rfl⟩
 have Me:(s.nm p σ).2=[]:=by rw[Ja];simp[hop]
 have Fa:(s.nm p σ).1=τ:=by rw[Ja];simp[hop,hτ,xa]
 rw[Me,Fa];refine⟨[.dead,.dead],.p (.sl 1 []),?_,.inl ⟨rfl,rfl,2,rfl⟩⟩;refine ADet.less (.p (.nil 1)) (ADet.after (S':=(L++[.cells ((stV s).map (AV.mrg L.length)) 49,.tok 9 1 1])::updF S0 c0 (τ)) ⟨zBb Gd (by trivial),rfl⟩ ?_)
 have Om:=fun L=>(zST p s.place.name s.pos σ1 (by have:=va.1;omega)).at h L
 have ri:=fun L i=>zX4 i1 (va.near (Near.add σ1 (zu (mIs σ1.made s.place.name) 60 s.pos)) (by omega)) hτ h L i
 refine ADet.okA call118 1 10 rfl rfl fun na=>?_
 have ca:=okl na
 refine ADet.merge mixed call118 func118 rfl ?_;simp[ntmps118];refine zF (fun q:Nat=>q<=s.u3.length) (fun q=>([.ptr (c.d+1) c.jF 0,.any,.any,.ptr 0 0 0,nilS,.any,.any,.any,.any,.any,.any,.any,.any,.p (.sl 8 (s.u3.map Ex.enc)),I s.u3.length,I q]++List.replicate 171 .any)) (fun q=>[.cells (stV s) 49]::updF S c (F q)) (fun q=>s.u3.length-q) 0 (Nat.zero_le _) ?_ ?_ ?_
 .simp
 .simp[yb,hs]
 intro q hq
 by_cases hlt:q<s.u3.length
 .have aa:(q:Int)<(s.u3.length:Int):=by omega
  have hw:=zB hlt
  have Wa:=Jb q hlt
  have Ea:s.u3.length-(q+1)<s.u3.length-q:=by omega
  have tc:=fun L=>(zIj p s.u3[q] _ (F q) (ta _ (List.getElem_mem hlt)) (Ib q hlt)).at h L
  rw[<-Wa]at tc
  generalize he:s.u3[q]=e at*
  simp[hlt,aa,he,zf];refine cq (tc _) ?_;simp;exact⟨q+1,hlt,Ea,hw,rfl⟩
 have aa:¬(q:Int)<(s.u3.length:Int):=by omega
 have Oa:q=s.u3.length:=by omega
 subst Oa;rw[Zb];simp[hop];refine cq (Om _) ?_;simp;refine cq (ri _ _) ?_
 try simp
 rw[gd];simp[zBX,AObj.mrg,AV.mrg,AV.mrgs]
 try exact hop
theorem zX5(p:List It)(hp:∀x∈p,x.fields.length<=20000)(s:St)(d:Int)(Za:s.whole d=true)(i1:∀x∈s.body,StmC p x)(i2:∀x∈s.els,StmC p x)(i3:∀a∈s.arms,∀x∈a.body,StmC p x)(hop:s.op=9):StmC p s:=by
 intro σ hb S0 c0 h0 L Gd
 have ta:=zAq Za
 obtain⟨c,hc⟩:∃c,c=c0.up:=⟨_,rfl⟩
 obtain⟨S,hS⟩:∃S,S=L::S0:=⟨_,rfl⟩
 have h:NAt p S c σ:=by rw[hc,hS];exact h0.cons L
 have gd:∀τ,updF S c τ=L::updF S0 c0 τ:=fun τ=>by rw[hc,hS];exact zAt L S0 c0 τ
 have te:c0.d+1=c.d:=by rw[hc];rfl
 have td:c0.jF=c.jF:=by rw[hc];rfl
 rw[te,td,<-hS]
 have hs:=zAU h
 have mf:=stNd s
 obtain⟨F,hF⟩:∃F:Nat->Nf,F=fun q=>σ.add ((s.u3.take q).flatMap (Ex.nm p σ.made)):=⟨_,rfl⟩
 have yb:F 0=σ:=by rw[hF];simp[Nf.add_nil]
 obtain⟨σ1,Ta⟩:∃σ1,σ1=σ.add (s.u3.flatMap (Ex.nm p σ.made)):=⟨_,rfl⟩
 have Zb:F s.u3.length=σ1:=by rw[hF,Ta];simp
 have Jb:∀q (hq:q<s.u3.length),F (q+1)=(F q).add (s.u3[q].nm p (F q).made):=fun q hq=>by
  rw[hF];simp only[List.take_succ_eq_append_getElem hq,List.flatMap_append,Nf.add_add];simp[Nf.add]
 have Ib:∀q (hq:q<s.u3.length),(F q).fl.length+s.u3[q].nd<=4000000000:=fun q hq=>by
  have e1:=zCA Ex.nd hq
  have e2:=zAD p σ.made (s.u3.take q)
  have:=hb.1
  rw[hF];simp only[Nf.add,List.length_append];omega
 have va:BdN σ1 (s.nd-(s.u3.map Ex.nd).sum):=by
  rw[Ta];exact hb.near (Near.add σ (zAD p σ.made s.u3)) (by omega)
 have xa:σ1.made=σ.made:=by rw[Ta];rfl
 have Ge:σ1.count=σ.count:=by rw[Ta];rfl
 have Ga:σ1.opn=σ.opn:=by rw[Ta];rfl
 have Ja:=stNm p s σ
 rw[<-Ta]at Ja;clear hF
 obtain⟨τ,hτ⟩:∃τ,τ=zAZ p s.body s.pos [] ⟨σ1.made,σ1.count,σ1.opn+1,σ1.fl⟩:=⟨_,rfl⟩
 have Bp:(⟨σ.made,σ.count,σ.opn+1,σ.fl++s.u3.flatMap (Ex.nm p σ.made)⟩:Nf)=⟨σ1.made,σ1.count,σ1.opn+1,σ1.fl⟩:=by rw[Ta];rfl
 have pv:τ.opn=σ1.opn+1:=by
  have:=zCO p (l:=s.body) (fun x _ σ=>zDN p x σ) s.pos [] ⟨σ1.made,σ1.count,σ1.opn+1,σ1.fl⟩
  rw[hτ];exact this.2.2.2.2
 have Me:(s.nm p σ).2=[]:=by rw[Ja];simp[hop]
 have Fa:(s.nm p σ).1=⟨τ.made,τ.count,τ.opn-1,τ.fl⟩:=by rw[Ja];simp[hop,hτ,Bp]
 rw[Me,Fa];refine⟨[.dead],.p (.sl 1 []),?_,.inl ⟨rfl,rfl,1,rfl⟩⟩;refine ADet.less (.p (.nil 1)) (ADet.after (S':=(L++[.cells ((stV s).map (AV.mrg L.length)) 49])::updF S0 c0 (⟨τ.made,τ.count,τ.opn-1,τ.fl⟩)) ⟨zBb Gd (by trivial),rfl⟩ ?_)
 have Rt:BdN ⟨σ1.made,σ1.count,σ1.opn+1,σ1.fl⟩ (s.body.map St.nd).sum:=⟨by have:=va.1;simp only;omega,by have:=va.2.1;simp only;omega,by have:=va.2.2;simp only;omega⟩
 have ri:=fun L=>zM4 i1 Rt hτ h L
 have sn:=zOO S c σ1 (σ1.opn+1)
 have sr:=zOO S c τ (τ.opn-1)
 simp only[fnO]at sn sr
 have g1:=(h.updF σ1).n
 have g2:=(h.updF τ).n
 simp only[fnO]at g1 g2
 have Le:IntKind.i64.wrap ((σ1.opn:Int)+1)=((σ1.opn+1:Nat):Int):=zB (n:=4294967296) (by have:=va.2.2;omega) (by unfold maxLen;omega)
 have ye:IntKind.i64.wrap ((τ.opn:Int)-1)=((τ.opn-1:Nat):Int):=by
  have:=va.2.2
  rw[IntWalk.i64_in _ (by omega)];omega
 refine ADet.okA call118 1 10 rfl rfl fun na=>?_
 have ca:=okl na
 refine ADet.merge mixed call118 func118 rfl ?_;simp[ntmps118];refine zF (fun q:Nat=>q<=s.u3.length) (fun q=>([.ptr (c.d+1) c.jF 0,.any,.any,.ptr 0 0 0,nilS,.any,.any,.any,.any,.any,.any,.any,.any,.p (.sl 8 (s.u3.map Ex.enc)),I s.u3.length,I q]++List.replicate 171 .any)) (fun q=>[.cells (stV s) 49]::updF S c (F q)) (fun q=>s.u3.length-q) 0 (Nat.zero_le _) ?_ ?_ ?_
 .simp
 .simp[yb,hs]
 intro q hq
 by_cases hlt:q<s.u3.length
 .have aa:(q:Int)<(s.u3.length:Int):=by omega
  have hw:=zB hlt
  have Wa:=Jb q hlt
  have Ea:s.u3.length-(q+1)<s.u3.length-q:=by omega
  have tc:=fun L=>(zIj p s.u3[q] _ (F q) (ta _ (List.getElem_mem hlt)) (Ib q hlt)).at h L
  rw[<-Wa]at tc
  generalize he:s.u3[q]=e at*
  simp[hlt,aa,he,zf];refine cq (tc _) ?_;simp;exact⟨q+1,hlt,Ea,hw,rfl⟩
 have aa:¬(q:Int)<(s.u3.length:Int):=by omega
 have Oa:q=s.u3.length:=by omega
 subst Oa;rw[Zb];simp[hop,g1,Le,zA5];rw[show((σ1.opn:Int)+1)=((σ1.opn+1:Nat):Int)from rfl,sn]
 refine cq (ri _) ?_;simp[g2,ye,zA5];rw[sr]
 try simp
 rw[gd];simp[zBX,AObj.mrg,AV.mrg,AV.mrgs]
 try exact hop
theorem zX6(p:List It)(hp:∀x∈p,x.fields.length<=20000)(s:St)(d:Int)(Za:s.whole d=true)(i1:∀x∈s.body,StmC p x)(i2:∀x∈s.els,StmC p x)(i3:∀a∈s.arms,∀x∈a.body,StmC p x)(o1:¬s.op=1)(o2:¬s.op=2)(o3:¬s.op=3)(o5:¬s.op=5)(Ji:¬s.op=12)(o8:¬s.op=8)(Ki:¬s.op=10)(o9:¬s.op=9)(Li:¬s.op=11):StmC p s:=by
 intro σ hb S0 c0 h0 L Gd
 have ta:=zAq Za
 obtain⟨c,hc⟩:∃c,c=c0.up:=⟨_,rfl⟩
 obtain⟨S,hS⟩:∃S,S=L::S0:=⟨_,rfl⟩
 have h:NAt p S c σ:=by rw[hc,hS];exact h0.cons L
 have gd:∀τ,updF S c τ=L::updF S0 c0 τ:=fun τ=>by rw[hc,hS];exact zAt L S0 c0 τ
 have te:c0.d+1=c.d:=by rw[hc];rfl
 have td:c0.jF=c.jF:=by rw[hc];rfl
 rw[te,td,<-hS]
 have hs:=zAU h
 have mf:=stNd s
 obtain⟨F,hF⟩:∃F:Nat->Nf,F=fun q=>σ.add ((s.u3.take q).flatMap (Ex.nm p σ.made)):=⟨_,rfl⟩
 have yb:F 0=σ:=by rw[hF];simp[Nf.add_nil]
 obtain⟨σ1,Ta⟩:∃σ1,σ1=σ.add (s.u3.flatMap (Ex.nm p σ.made)):=⟨_,rfl⟩
 have Zb:F s.u3.length=σ1:=by rw[hF,Ta];simp
 have Jb:∀q (hq:q<s.u3.length),F (q+1)=(F q).add (s.u3[q].nm p (F q).made):=fun q hq=>by
  rw[hF];simp only[List.take_succ_eq_append_getElem hq,List.flatMap_append,Nf.add_add];simp[Nf.add]
 have Ib:∀q (hq:q<s.u3.length),(F q).fl.length+s.u3[q].nd<=4000000000:=fun q hq=>by
  have e1:=zCA Ex.nd hq
  have e2:=zAD p σ.made (s.u3.take q)
  have:=hb.1
  rw[hF];simp only[Nf.add,List.length_append];omega
 have va:BdN σ1 (s.nd-(s.u3.map Ex.nd).sum):=by
  rw[Ta];exact hb.near (Near.add σ (zAD p σ.made s.u3)) (by omega)
 have xa:σ1.made=σ.made:=by rw[Ta];rfl
 have Ge:σ1.count=σ.count:=by rw[Ta];rfl
 have Ga:σ1.opn=σ.opn:=by rw[Ta];rfl
 have Ja:=stNm p s σ
 rw[<-Ta]at Ja;clear hF
 obtain⟨τ1,Cp⟩:∃τ,τ=zAZ p s.body s.pos [] σ1:=⟨_,rfl⟩
 obtain⟨τ,hτ⟩:∃τ,τ=zAZ p s.els s.pos [] τ1:=⟨_,rfl⟩
 have Me:(s.nm p σ).2=[]:=by rw[Ja];simp[o1,o2,o3,o5,Ji,o8,Ki,o9,Li]
 have Fa:(s.nm p σ).1=τ:=by rw[Ja];simp[o1,o2,o3,o5,Ji,o8,Ki,o9,Li,hτ,Cp]
 rw[Me,Fa];refine⟨[.dead],.p (.sl 1 []),?_,.inl ⟨rfl,rfl,1,rfl⟩⟩;refine ADet.less (.p (.nil 1)) (ADet.after (S':=(L++[.cells ((stV s).map (AV.mrg L.length)) 49])::updF S0 c0 (τ)) ⟨zBb Gd (by trivial),rfl⟩ ?_)
 have ri:=fun L=>zM4 i1 (va.near (Near.refl σ1) (by omega)) Cp h L
 have vf:=zCO p (l:=s.body) (fun x _ σ=>zDN p x σ) s.pos [] σ1
 rw[<-Cp]at vf
 have Dp:=fun L=>zM4 i2 (va.near vf (by simp;omega)) hτ h L
 have e1:(s.op==1)=false:=by simpa using o1
 have e2:(s.op==2)=false:=by simpa using o2
 have e3:(s.op==3)=false:=by simpa using o3
 have e5:(s.op==5)=false:=by simpa using o5
 have Tt:(s.op==12)=false:=by simpa using Ji
 have e8:(s.op==8)=false:=by simpa using o8
 have Ut:(s.op==10)=false:=by simpa using Ki
 have e9:(s.op==9)=false:=by simpa using o9
 have Vt:(s.op==11)=false:=by simpa using Li
 refine ADet.okA call118 1 10 rfl rfl fun na=>?_
 have ca:=okl na
 refine ADet.merge mixed call118 func118 rfl ?_;simp[ntmps118];refine zF (fun q:Nat=>q<=s.u3.length) (fun q=>([.ptr (c.d+1) c.jF 0,.any,.any,.ptr 0 0 0,nilS,.any,.any,.any,.any,.any,.any,.any,.any,.p (.sl 8 (s.u3.map Ex.enc)),I s.u3.length,I q]++List.replicate 171 .any)) (fun q=>[.cells (stV s) 49]::updF S c (F q)) (fun q=>s.u3.length-q) 0 (Nat.zero_le _) ?_ ?_ ?_
 .simp
 .simp[yb,hs]
 intro q hq
 by_cases hlt:q<s.u3.length
 .have aa:(q:Int)<(s.u3.length:Int):=by omega
  have hw:=zB hlt
  have Wa:=Jb q hlt
  have Ea:s.u3.length-(q+1)<s.u3.length-q:=by omega
  have tc:=fun L=>(zIj p s.u3[q] _ (F q) (ta _ (List.getElem_mem hlt)) (Ib q hlt)).at h L
  rw[<-Wa]at tc
  generalize he:s.u3[q]=e at*
  simp[hlt,aa,he,zf];refine cq (tc _) ?_;simp;exact⟨q+1,hlt,Ea,hw,rfl⟩
 have aa:¬(q:Int)<(s.u3.length:Int):=by omega
 have Oa:q=s.u3.length:=by omega
 subst Oa;rw[Zb];simp[o1,o2,o3,o5,Ji,o8,Ki,o9,Li,e1,e2,e3,e5,Tt,e8,Ut,e9,Vt];refine cq (ri _) ?_;simp;refine cq (Dp _) ?_
 try simp
 rw[gd];simp[zBX,AObj.mrg,AV.mrg,AV.mrgs]
 try exact hop
attribute [local simp] List.forall_mem_cons List.contains_cons List.contains_nil List.find?
theorem zX7(p:List It)(hp:∀x∈p,x.fields.length<=20000)(s:St)(d:Int)(Za:s.whole d=true)(i1:∀x∈s.body,StmC p x)(i2:∀x∈s.els,StmC p x)(i3:∀a∈s.arms,∀x∈a.body,StmC p x)(hop:s.op=1):StmC p s:=by
 intro σ hb S0 c0 h0 L Gd
 have ta:=zAq Za
 obtain⟨c,hc⟩:∃c,c=c0.up:=⟨_,rfl⟩
 obtain⟨S,hS⟩:∃S,S=L::S0:=⟨_,rfl⟩
 have h:NAt p S c σ:=by rw[hc,hS];exact h0.cons L
 have gd:∀τ,updF S c τ=L::updF S0 c0 τ:=fun τ=>by rw[hc,hS];exact zAt L S0 c0 τ
 have te:c0.d+1=c.d:=by rw[hc];rfl
 have td:c0.jF=c.jF:=by rw[hc];rfl
 rw[te,td,<-hS]
 have hs:=zAU h
 have mf:=stNd s
 obtain⟨F,hF⟩:∃F:Nat->Nf,F=fun q=>σ.add ((s.u3.take q).flatMap (Ex.nm p σ.made)):=⟨_,rfl⟩
 have yb:F 0=σ:=by rw[hF];simp[Nf.add_nil]
 obtain⟨σ1,Ta⟩:∃σ1,σ1=σ.add (s.u3.flatMap (Ex.nm p σ.made)):=⟨_,rfl⟩
 have Zb:F s.u3.length=σ1:=by rw[hF,Ta];simp
 have Jb:∀q (hq:q<s.u3.length),F (q+1)=(F q).add (s.u3[q].nm p (F q).made):=fun q hq=>by
  rw[hF];simp only[List.take_succ_eq_append_getElem hq,List.flatMap_append,Nf.add_add];simp[Nf.add]
 have Ib:∀q (hq:q<s.u3.length),(F q).fl.length+s.u3[q].nd<=4000000000:=fun q hq=>by
  have e1:=zCA Ex.nd hq
  have e2:=zAD p σ.made (s.u3.take q)
  have:=hb.1
  rw[hF];simp only[Nf.add,List.length_append];omega
 have va:BdN σ1 (s.nd-(s.u3.map Ex.nd).sum):=by
  rw[Ta];exact hb.near (Near.add σ (zAD p σ.made s.u3)) (by omega)
 have xa:σ1.made=σ.made:=by rw[Ta];rfl
 have Ge:σ1.count=σ.count:=by rw[Ta];rfl
 have Ga:σ1.opn=σ.opn:=by rw[Ta];rfl
 have Ja:=stNm p s σ
 rw[<-Ta]at Ja;clear hF
 have Me:(s.nm p σ).2=[(s.name,mIs σ1.made s.name)]:=by rw[Ja];simp[hop,Nf.mkS]
 have Fa:(s.nm p σ).1=σ1.mk1 s.name s.pos:=by rw[Ja];simp[hop,Nf.mkS]
 rw[Me,Fa];refine⟨List.replicate 2 .dead++[.row 1 1 1 [clo c0.up (s.name,mIs σ1.made s.name)]],.rsl 0 (L.length+2) 1 1,?_,.inr ⟨2,rfl,rfl⟩⟩;refine ADet.after (S':=(L++[.cells ((stV s).map (AV.mrg L.length)) 49,.cells [clo c0.up (s.name,mIs σ1.made s.name)] 1,.row 1 1 1 [clo c0.up (s.name,mIs σ1.made s.name)]])::updF S0 c0 (σ1.mk1 s.name s.pos)) ⟨zBb Gd (by exact⟨⟨⟨rfl,rfl,rfl⟩,zh _⟩,trivial⟩),rfl⟩ ?_
 have Sa:=fun L=>zIk (p:=p) (s:=s.name) (pos:=s.pos) (σ:=σ1) (by have:=va.1;omega) (by have:=va.2.1;omega) h L
 have Hb:∀n b,clo c.up (n,b)= .fn (.func 190) [] [.bx [B b],.bx [.ptr (c.d+1) c.jF 0],.bx [Sg n]]:=fun _ _=>rfl
 have Dj:∀n b,clo c0.up (n,b)= .fn (.func 190) [] [.bx [B b],.bx [.ptr c.d c.jF 0],.bx [Sg n]]:=fun n b=>by rw[<-te,<-td];rfl
 refine ADet.okA call118 1 10 rfl rfl fun na=>?_
 have ca:=okl na
 refine ADet.merge mixed call118 func118 rfl ?_;simp[ntmps118];refine zF (fun q:Nat=>q<=s.u3.length) (fun q=>([.ptr (c.d+1) c.jF 0,.any,.any,.ptr 0 0 0,nilS,.any,.any,.any,.any,.any,.any,.any,.any,.p (.sl 8 (s.u3.map Ex.enc)),I s.u3.length,I q]++List.replicate 171 .any)) (fun q=>[.cells (stV s) 49]::updF S c (F q)) (fun q=>s.u3.length-q) 0 (Nat.zero_le _) ?_ ?_ ?_
 .simp
 .simp[yb,hs]
 intro q hq
 by_cases hlt:q<s.u3.length
 .have aa:(q:Int)<(s.u3.length:Int):=by omega
  have hw:=zB hlt
  have Wa:=Jb q hlt
  have Ea:s.u3.length-(q+1)<s.u3.length-q:=by omega
  have tc:=fun L=>(zIj p s.u3[q] _ (F q) (ta _ (List.getElem_mem hlt)) (Ib q hlt)).at h L
  rw[<-Wa]at tc
  generalize he:s.u3[q]=e at*
  simp[hlt,aa,he,zf];refine cq (tc _) ?_;simp;exact⟨q+1,hlt,Ea,hw,rfl⟩
 have aa:¬(q:Int)<(s.u3.length:Int):=by omega
 have Oa:q=s.u3.length:=by omega
 subst Oa;rw[Zb];simp[hop];refine cq (Sa _) ?_;simp[Hb];rw[gd];rw[Dj];rw[<-te,<-td];simp[zBX,AObj.mrg,AV.mrg,AV.mrgs]
 try exact hop
theorem zVN(p:List It)(hp:∀x∈p,x.fields.length<=20000)(s:St)(d:Int)(Za:s.whole d=true)(i1:∀x∈s.body,StmC p x)(i2:∀x∈s.els,StmC p x)(i3:∀a∈s.arms,∀x∈a.body,StmC p x)(hop:s.op=12):StmC p s:=by
 intro σ hb S0 c0 h0 L Gd
 have ta:=zAq Za
 obtain⟨c,hc⟩:∃c,c=c0.up:=⟨_,rfl⟩
 obtain⟨S,hS⟩:∃S,S=L::S0:=⟨_,rfl⟩
 have h:NAt p S c σ:=by rw[hc,hS];exact h0.cons L
 have gd:∀τ,updF S c τ=L::updF S0 c0 τ:=fun τ=>by rw[hc,hS];exact zAt L S0 c0 τ
 have te:c0.d+1=c.d:=by rw[hc];rfl
 have td:c0.jF=c.jF:=by rw[hc];rfl
 rw[te,td,<-hS]
 have hs:=zAU h
 have mf:=stNd s
 obtain⟨F,hF⟩:∃F:Nat->Nf,F=fun q=>σ.add ((s.u3.take q).flatMap (Ex.nm p σ.made)):=⟨_,rfl⟩
 have yb:F 0=σ:=by rw[hF];simp[Nf.add_nil]
 obtain⟨σ1,Ta⟩:∃σ1,σ1=σ.add (s.u3.flatMap (Ex.nm p σ.made)):=⟨_,rfl⟩
 have Zb:F s.u3.length=σ1:=by rw[hF,Ta];simp
 have Jb:∀q (hq:q<s.u3.length),F (q+1)=(F q).add (s.u3[q].nm p (F q).made):=fun q hq=>by
  rw[hF];simp only[List.take_succ_eq_append_getElem hq,List.flatMap_append,Nf.add_add];simp[Nf.add]
 have Ib:∀q (hq:q<s.u3.length),(F q).fl.length+s.u3[q].nd<=4000000000:=fun q hq=>by
  have e1:=zCA Ex.nd hq
  have e2:=zAD p σ.made (s.u3.take q)
  have:=hb.1
  rw[hF];simp only[Nf.add,List.length_append];omega
 have va:BdN σ1 (s.nd-(s.u3.map Ex.nd).sum):=by
  rw[Ta];exact hb.near (Near.add σ (zAD p σ.made s.u3)) (by omega)
 have xa:σ1.made=σ.made:=by rw[Ta];rfl
 have Ge:σ1.count=σ.count:=by rw[Ta];rfl
 have Ga:σ1.opn=σ.opn:=by rw[Ta];rfl
 have Ja:=stNm p s σ
 rw[<-Ta]at Ja;clear hF
 obtain⟨σ2,si⟩:∃σ2,σ2=σ1.add (s.type.nm p s.pos):=⟨_,rfl⟩
 obtain⟨σ3,Jn⟩:∃σ3,σ3=σ2.mk1 s.name s.pos:=⟨_,rfl⟩
 have bf:BdN σ2 2:=by rw[si];exact va.near (Near.add σ1 (zFD p s.pos s.type)) (by omega)
 have Cm:BdN σ3 1:=by
  have:=(zBJ [s.name] s.pos σ2).1
  simp only[Nf.mkS]at this;rw[<-Jn]at this;exact bf.near this (by simp)
 have Me:(s.nm p σ).2=[(s.name,mIs σ2.made s.name),(s.u2,mIs σ3.made s.u2)]:=by rw[Ja,Jn,si];simp[hop,Nf.mkS]
 have Fa:(s.nm p σ).1=σ3.mk1 s.u2 s.pos:=by rw[Ja,Jn,si];simp[hop,Nf.mkS]
 rw[Me,Fa];refine⟨List.replicate 2 .dead++[.row 1 1 2 [clo c0.up (s.name,mIs σ2.made s.name),clo c0.up (s.u2,mIs σ3.made s.u2)]],.rsl 0 (L.length+2) 2 1,?_,.inr ⟨2,rfl,rfl⟩⟩;refine ADet.after (S':=(L++[.cells ((stV s).map (AV.mrg L.length)) 49,.cells [clo c0.up (s.name,mIs σ2.made s.name),clo c0.up (s.u2,mIs σ3.made s.u2)] 1,.row 1 1 2 [clo c0.up (s.name,mIs σ2.made s.name),clo c0.up (s.u2,mIs σ3.made s.u2)]])::updF S0 c0 (σ3.mk1 s.u2 s.pos)) ⟨zBb Gd (by exact⟨⟨⟨rfl,rfl,rfl⟩,zh _⟩,trivial⟩),rfl⟩ ?_
 have Mi:∀L:List AObj,ADet Tryz.prog 62 [.ptr (c.k+c.d+1) 3 0,tyV s.type,I s.pos] (L::updF S c σ1) .un (L::updF S c σ2):=fun L=>by
  have:=(zXv p s.pos s.type σ1.fl (by have:=va.1;omega)).inF h L
  rw[si];exact this
 have Sa:=fun L=>zIk (p:=p) (s:=s.name) (pos:=s.pos) (σ:=σ2) (by have:=bf.1;omega) (by have:=bf.2.1;omega) h L
 rw[<-Jn]at Sa
 have ii:=fun L=>zIk (p:=p) (s:=s.u2) (pos:=s.pos) (σ:=σ3) (by have:=Cm.1;omega) (by have:=Cm.2.1;omega) h L
 have g1:=(h.updF σ1).n
 simp only[fnO]at g1
 have Hb:∀n b,clo c.up (n,b)= .fn (.func 190) [] [.bx [B b],.bx [.ptr (c.d+1) c.jF 0],.bx [Sg n]]:=fun _ _=>rfl
 have Dj:∀n b,clo c0.up (n,b)= .fn (.func 190) [] [.bx [B b],.bx [.ptr c.d c.jF 0],.bx [Sg n]]:=fun n b=>by rw[<-te,<-td];rfl
 refine ADet.okA call118 1 10 rfl rfl fun na=>?_
 have ca:=okl na
 refine ADet.merge mixed call118 func118 rfl ?_;simp[ntmps118];refine zF (fun q:Nat=>q<=s.u3.length) (fun q=>([.ptr (c.d+1) c.jF 0,.any,.any,.ptr 0 0 0,nilS,.any,.any,.any,.any,.any,.any,.any,.any,.p (.sl 8 (s.u3.map Ex.enc)),I s.u3.length,I q]++List.replicate 171 .any)) (fun q=>[.cells (stV s) 49]::updF S c (F q)) (fun q=>s.u3.length-q) 0 (Nat.zero_le _) ?_ ?_ ?_
 .simp
 .simp[yb,hs]
 intro q hq
 by_cases hlt:q<s.u3.length
 .have aa:(q:Int)<(s.u3.length:Int):=by omega
  have hw:=zB hlt
  have Wa:=Jb q hlt
  have Ea:s.u3.length-(q+1)<s.u3.length-q:=by omega
  have tc:=fun L=>(zIj p s.u3[q] _ (F q) (ta _ (List.getElem_mem hlt)) (Ib q hlt)).at h L
  rw[<-Wa]at tc
  generalize he:s.u3[q]=e at*
  simp[hlt,aa,he,zf];refine cq (tc _) ?_;simp;exact⟨q+1,hlt,Ea,hw,rfl⟩
 have aa:¬(q:Int)<(s.u3.length:Int):=by omega
 have Oa:q=s.u3.length:=by omega
 subst Oa;rw[Zb];simp[hop];refine dB [] (by kernel_rfl) ?_
 simp[g1];refine cq (Mi _) ?_;simp;refine dB [(9,6),(11,6)] (by kernel_rfl) ?_
 simp;refine cq (Sa _) ?_;simp;refine cq (ii _) ?_;simp[Hb];rw[gd];rw[Dj,Dj];rw[<-te,<-td];simp[zBX,AObj.mrg,AV.mrg,AV.mrgs]
 try exact hop
theorem zOP(n:Nat)(c:Cf):∀l:List Fg,AV.mrgs n (l.map (clo c.up.up))=l.map (clo c.up)
 | []=>rfl
 |g::l=>by
  rw[List.map_cons,List.map_cons,AV.mrgs,zOP n c l];rfl
abbrev anyI:List AV:=[.any,.any,.any,.any,.any,.any,.any,.any,.any,.any,.any,.any,.any,.any,.any,.any]
theorem zX8(p:List It)(hp:∀x∈p,x.fields.length<=20000)(s:St)(d:Int)(Za:s.whole d=true)(i1:∀x∈s.body,StmC p x)(i2:∀x∈s.els,StmC p x)(i3:∀a∈s.arms,∀x∈a.body,StmC p x)(hop:s.op=2):StmC p s:=by
 intro σ hb S0 c0 h0 L Gd
 have ta:=zAq Za
 obtain⟨c,hc⟩:∃c,c=c0.up:=⟨_,rfl⟩
 obtain⟨S,hS⟩:∃S,S=L::S0:=⟨_,rfl⟩
 have h:NAt p S c σ:=by rw[hc,hS];exact h0.cons L
 have gd:∀τ,updF S c τ=L::updF S0 c0 τ:=fun τ=>by rw[hc,hS];exact zAt L S0 c0 τ
 have te:c0.d+1=c.d:=by rw[hc];rfl
 have td:c0.jF=c.jF:=by rw[hc];rfl
 rw[te,td,<-hS]
 have hs:=zAU h
 have mf:=stNd s
 obtain⟨F,hF⟩:∃F:Nat->Nf,F=fun q=>σ.add ((s.u3.take q).flatMap (Ex.nm p σ.made)):=⟨_,rfl⟩
 have yb:F 0=σ:=by rw[hF];simp[Nf.add_nil]
 obtain⟨σ1,Ta⟩:∃σ1,σ1=σ.add (s.u3.flatMap (Ex.nm p σ.made)):=⟨_,rfl⟩
 have Zb:F s.u3.length=σ1:=by rw[hF,Ta];simp
 have Jb:∀q (hq:q<s.u3.length),F (q+1)=(F q).add (s.u3[q].nm p (F q).made):=fun q hq=>by
  rw[hF];simp only[List.take_succ_eq_append_getElem hq,List.flatMap_append,Nf.add_add];simp[Nf.add]
 have Ib:∀q (hq:q<s.u3.length),(F q).fl.length+s.u3[q].nd<=4000000000:=fun q hq=>by
  have e1:=zCA Ex.nd hq
  have e2:=zAD p σ.made (s.u3.take q)
  have:=hb.1
  rw[hF];simp only[Nf.add,List.length_append];omega
 have va:BdN σ1 (s.nd-(s.u3.map Ex.nd).sum):=by
  rw[Ta];exact hb.near (Near.add σ (zAD p σ.made s.u3)) (by omega)
 have xa:σ1.made=σ.made:=by rw[Ta];rfl
 have Ge:σ1.count=σ.count:=by rw[Ta];rfl
 have Ga:σ1.opn=σ.opn:=by rw[Ta];rfl
 have Ja:=stNm p s σ
 rw[<-Ta]at Ja;clear hF
 obtain⟨bb,Ye⟩:∃bb,bb=zLc p s.name s.names.length:=⟨_,rfl⟩
 obtain⟨σ2,si⟩:∃σ2,σ2=σ1.add (zJ bb 60 s.pos):=⟨_,rfl⟩
 have Wt:s.names.length<=4000000000:=by
  have:=hb.1
  omega
 have Fe:s.names.length<=maxLen:=by unfold maxLen;omega
 have bf:BdN σ2 s.names.length:=by rw[si];exact va.near (Near.add σ1 (zu bb 60 s.pos)) (by omega)
 obtain⟨G,hG⟩:∃G:Nat->Nf × List Fg,G=fun q=>Nf.mkS (s.names.take q) s.pos σ2:=⟨_,rfl⟩
 have Pg:G 0=(σ2,[]):=by rw[hG];simp[Nf.mkS]
 have Hi:G s.names.length=Nf.mkS s.names s.pos σ2:=by rw[hG];simp
 have vj:∀q (hq:q<s.names.length),G (q+1)=((G q).1.mk1 s.names[q] s.pos,(G q).2++[(s.names[q],mIs (G q).1.made s.names[q])]):=fun q hq=>by
  rw[hG];simp only[List.take_succ_eq_append_getElem hq,zKe];simp[Nf.mkS]
 have Ii:∀q,q<s.names.length->BdN (G q).1 1:=fun q hq=>by
  have e2:=(zBJ (s.names.take q) s.pos σ2).1
  rw[hG];exact bf.near e2 (by simp;omega)
 have In:(G s.names.length).2.length=s.names.length:=by rw[Hi];exact(zBJ s.names s.pos σ2).2
 have Me:(s.nm p σ).2=(G s.names.length).2:=by rw[Hi,Ja,si,Ye];simp[hop]
 have Fa:(s.nm p σ).1=(G s.names.length).1:=by rw[Hi,Ja,si,Ye];simp[hop]
 clear hG;rw[Me,Fa];refine⟨List.replicate 2 .dead++[.row 1 1 s.names.length ((G s.names.length).2.map (clo c0.up))],.rsl 0 (L.length+2) s.names.length 1,?_,.inr ⟨2,by rw[In],by rw[In]⟩⟩
 refine ADet.after (S':=(L++[.cells ((stV s).map (AV.mrg L.length)) 49,.cells anyI 45,.row 1 1 s.names.length ((G s.names.length).2.map (clo c0.up))])::updF S0 c0 (G s.names.length).1) ⟨zBb Gd (by exact⟨⟨⟨rfl,rfl,rfl⟩,zh _⟩,trivial⟩),rfl⟩ ?_
 have nc:=fun b L=>(zEX p b 60 s.pos σ1.fl (by have:=va.1;omega)).inF h L
 have Ba:∀X,(⟨σ1.made,σ1.count,σ1.opn,σ1.fl++X⟩:Nf)=σ1.add X:=fun X=>rfl
 simp only[Ba]at nc
 have g1:=(h.updF σ1).n
 simp only[fnO]at g1
 have yd:=fun L=>zJl p 1 s.name σ1.fl (L::updF S c σ1) _ ((h.updF σ1).k.cons L)
 simp only[Cf.e]at yd;unfold zPl at yd;unfold zLc zLb at Ye
 have Id:∀(n:Nat) (l:List Fg),AV.mrgs n (l.map (clo c.up))=l.map (clo c0.up):=fun n l=>by
  rw[hc];exact zOP n c0 l
 refine ADet.okA call118 1 10 rfl rfl fun na=>?_
 have ca:=okl na
 refine ADet.merge mixed call118 func118 rfl ?_;simp[ntmps118];refine zF (fun q:Nat=>q<=s.u3.length) (fun q=>([.ptr (c.d+1) c.jF 0,.any,.any,.ptr 0 0 0,nilS,.any,.any,.any,.any,.any,.any,.any,.any,.p (.sl 8 (s.u3.map Ex.enc)),I s.u3.length,I q]++List.replicate 171 .any)) (fun q=>[.cells (stV s) 49]::updF S c (F q)) (fun q=>s.u3.length-q) 0 (Nat.zero_le _) ?_ ?_ ?_
 .simp
 .simp[yb,hs]
 intro q hq
 by_cases hlt:q<s.u3.length
 .have aa:(q:Int)<(s.u3.length:Int):=by omega
  have hw:=zB hlt
  have Wa:=Jb q hlt
  have Ea:s.u3.length-(q+1)<s.u3.length-q:=by omega
  have tc:=fun L=>(zIj p s.u3[q] _ (F q) (ta _ (List.getElem_mem hlt)) (Ib q hlt)).at h L
  rw[<-Wa]at tc
  generalize he:s.u3[q]=e at*
  simp[hlt,aa,he,zf];refine cq (tc _) ?_;simp;exact⟨q+1,hlt,Ea,hw,rfl⟩
 have aa:¬(q:Int)<(s.u3.length:Int):=by omega
 have Oa:q=s.u3.length:=by omega
 subst Oa;rw[Zb];simp[hop];refine zAs [(10,11,8)] [] (by kernel_rfl) (by kernel_rfl) (by kernel_rfl) (by simp) ?_
 cases Vc:zg p s.name with
 |none=>
  rw[Vc]at yd Ye
  have Lf:σ2=σ1.add (zJ false 60 s.pos):=by rw[si,Ye];simp
  simp[g1];refine cq (yd _) ?_;simp[strs];refine dB [] (by kernel_rfl) ?_
  simp[g1];refine cq (nc false _) ?_;simp[strs];refine zF3 1 1 (by decide) [.cells (stV s) 49,.cells anyI 45] (fun q:Nat=>q<=s.names.length) (fun q=>([.ptr (c.d+1) c.jF 0,.any,.any,.ptr 0 0 0,.any,.any,.any,.rsl 0 2 q 1]++(List.replicate 70 .any++([.p (.sl 1 (s.names.map fun s=>[pS s])),I s.names.length,I q]++List.replicate 106 .any)))) (fun q=>[.cells (stV s) 49,.cells anyI 45,.row 1 1 q ((G q).2.map (clo c.up))]::updF S c (G q).1) (fun q=>s.names.length-q) (fun _=>3) 0 (Nat.zero_le _) ?_ ?_ ?_ ?_ ?_
  .intro q _;simp
  .simp
  .simp
  .simp[Pg,Lf]
  intro q hq
  by_cases hlt:q<s.names.length
  .have aa:(q:Int)<(s.names.length:Int):=by omega
   have hw:=zB hlt Fe
   have Fd:=vj q hlt
   have Ea:s.names.length-(q+1)<s.names.length-q:=by omega
   have qi:=Ii q hlt
   have Sa:=fun L=>zIk (p:=p) (s:=s.names[q]) (pos:=s.pos) (σ:=(G q).1) (by have:=qi.1;omega) (by have:=qi.2.1;omega) h L
   have ra:q+1<=4294967296:=by omega
   generalize he:s.names[q]=x at*
   have Hb:∀b,clo c.up (x,b)= .fn (.func 190) [] [.bx [B b],.bx [.ptr (c.d+1) c.jF 0],.bx [Sg x]]:=fun _=>rfl
   have e2:AV.cuts 3 ((G q).2.map (clo c.up)++[clo c.up (x,mIs (G q).1.made x)])=(G (q+1)).2.map (clo c.up):=by
    rw[show(G q).2.map (clo c.up)++[clo c.up (x,mIs (G q).1.made x)]=((G q).2++[(x,mIs (G q).1.made x)]).map (clo c.up) by simp,zFN,Fd]
   have e3:(G (q+1)).1=(G q).1.mk1 x s.pos:=by rw[Fd]
   rw[<-e3]at Sa
   generalize (G q).2.map (clo c.up)=rc at*
   simp[hlt,aa,he];refine cq (Sa _) ?_;simp[ra,Hb];refine⟨q+1,hlt,Ea,⟨rfl,hw⟩,⟨rfl,?_⟩,rfl⟩;rw[<-e2,Hb];exact zh _
  have aa:¬(q:Int)<(s.names.length:Int):=by omega
  have Oa:q=s.names.length:=by omega
  subst Oa;simp;rw[gd];rw[<-hop];simp[zBX,AObj.mrg,AV.mrg,AV.mrgs,Id]
  exact⟨rfl,rfl⟩
 |some x=>
  rw[Vc]at yd Ye;simp only[Option.bind_some]at Ye;simp[g1];refine cq (yd _) ?_;simp[strs];refine dB [] (by kernel_rfl) ?_
  by_cases hk:x.kind=1
  .have yp:decide (x.kind=1)=true:=decide_eq_true hk
   have Xt:((x.fields.length:Int)==(s.names.length:Int))=decide (x.fields.length=s.names.length):=by rw[Bool.eq_iff_iff];simp;omega
   have Lf:σ2=σ1.add (zJ (decide (x.fields.length=s.names.length)) 60 s.pos):=by rw[si,Ye,if_pos hk]
   simp[g1,yp,strs,Xt];refine cq (nc (decide (x.fields.length=s.names.length)) _) ?_;simp[strs];refine zF3 1 1 (by decide) [.cells (stV s) 49,.cells anyI 45] (fun q:Nat=>q<=s.names.length) (fun q=>([.ptr (c.d+1) c.jF 0,.any,.any,.ptr 0 0 0,.any,.any,.any,.rsl 0 2 q 1]++(List.replicate 70 .any++([.p (.sl 1 (s.names.map fun s=>[pS s])),I s.names.length,I q]++List.replicate 106 .any)))) (fun q=>[.cells (stV s) 49,.cells anyI 45,.row 1 1 q ((G q).2.map (clo c.up))]::updF S c (G q).1) (fun q=>s.names.length-q) (fun _=>3) 0 (Nat.zero_le _) ?_ ?_ ?_ ?_ ?_
   .intro q _;simp
   .simp
   .simp
   .simp[Pg,Lf]
   intro q hq
   by_cases hlt:q<s.names.length
   .have aa:(q:Int)<(s.names.length:Int):=by omega
    have hw:=zB hlt Fe
    have Fd:=vj q hlt
    have Ea:s.names.length-(q+1)<s.names.length-q:=by omega
    have qi:=Ii q hlt
    have Sa:=fun L=>zIk (p:=p) (s:=s.names[q]) (pos:=s.pos) (σ:=(G q).1) (by have:=qi.1;omega) (by have:=qi.2.1;omega) h L
    have ra:q+1<=4294967296:=by omega
    generalize he:s.names[q]=x at*
    have Hb:∀b,clo c.up (x,b)= .fn (.func 190) [] [.bx [B b],.bx [.ptr (c.d+1) c.jF 0],.bx [Sg x]]:=fun _=>rfl
    have e2:AV.cuts 3 ((G q).2.map (clo c.up)++[clo c.up (x,mIs (G q).1.made x)])=(G (q+1)).2.map (clo c.up):=by
     rw[show(G q).2.map (clo c.up)++[clo c.up (x,mIs (G q).1.made x)]=((G q).2++[(x,mIs (G q).1.made x)]).map (clo c.up) by simp,zFN,Fd]
    have e3:(G (q+1)).1=(G q).1.mk1 x s.pos:=by rw[Fd]
    rw[<-e3]at Sa
    generalize (G q).2.map (clo c.up)=rc at*
    simp[hlt,aa,he];refine cq (Sa _) ?_;simp[ra,Hb];refine⟨q+1,hlt,Ea,⟨rfl,hw⟩,⟨rfl,?_⟩,rfl⟩;rw[<-e2,Hb];exact zh _
   have aa:¬(q:Int)<(s.names.length:Int):=by omega
   have Oa:q=s.names.length:=by omega
   subst Oa;simp;rw[gd];rw[<-hop];simp[zBX,AObj.mrg,AV.mrg,AV.mrgs,Id];exact⟨rfl,rfl⟩
  have Lf:σ2=σ1.add (zJ false 60 s.pos):=by rw[si,Ye,if_neg hk]
  simp[g1,hk];refine cq (nc false _) ?_;simp[strs];refine zF3 1 1 (by decide) [.cells (stV s) 49,.cells anyI 45] (fun q:Nat=>q<=s.names.length) (fun q=>([.ptr (c.d+1) c.jF 0,.any,.any,.ptr 0 0 0,.any,.any,.any,.rsl 0 2 q 1]++(List.replicate 70 .any++([.p (.sl 1 (s.names.map fun s=>[pS s])),I s.names.length,I q]++List.replicate 106 .any)))) (fun q=>[.cells (stV s) 49,.cells anyI 45,.row 1 1 q ((G q).2.map (clo c.up))]::updF S c (G q).1) (fun q=>s.names.length-q) (fun _=>3) 0 (Nat.zero_le _) ?_ ?_ ?_ ?_ ?_
  .intro q _;simp
  .simp
  .simp
  .simp[Pg,Lf]
  intro q hq
  by_cases hlt:q<s.names.length
  .have aa:(q:Int)<(s.names.length:Int):=by omega
   have hw:=zB hlt Fe
   have Fd:=vj q hlt
   have Ea:s.names.length-(q+1)<s.names.length-q:=by omega
   have qi:=Ii q hlt
   have Sa:=fun L=>zIk (p:=p) (s:=s.names[q]) (pos:=s.pos) (σ:=(G q).1) (by have:=qi.1;omega) (by have:=qi.2.1;omega) h L
   have ra:q+1<=4294967296:=by omega
   generalize he:s.names[q]=x at*
   have Hb:∀b,clo c.up (x,b)= .fn (.func 190) [] [.bx [B b],.bx [.ptr (c.d+1) c.jF 0],.bx [Sg x]]:=fun _=>rfl
   have e2:AV.cuts 3 ((G q).2.map (clo c.up)++[clo c.up (x,mIs (G q).1.made x)])=(G (q+1)).2.map (clo c.up):=by
    rw[show(G q).2.map (clo c.up)++[clo c.up (x,mIs (G q).1.made x)]=((G q).2++[(x,mIs (G q).1.made x)]).map (clo c.up) by simp,zFN,Fd]
   have e3:(G (q+1)).1=(G q).1.mk1 x s.pos:=by rw[Fd]
   rw[<-e3]at Sa
   generalize (G q).2.map (clo c.up)=rc at*
   simp[hlt,aa,he];refine cq (Sa _) ?_;simp[ra,Hb];refine⟨q+1,hlt,Ea,⟨rfl,hw⟩,⟨rfl,?_⟩,rfl⟩;rw[<-e2,Hb];exact zh _
  have aa:¬(q:Int)<(s.names.length:Int):=by omega
  have Oa:q=s.names.length:=by omega
  subst Oa;simp;rw[gd];rw[<-hop];simp[zBX,AObj.mrg,AV.mrg,AV.mrgs,Id];exact⟨rfl,rfl⟩
end Go.Proofs.YtdflkegnmmkkoaaGreatDoor
