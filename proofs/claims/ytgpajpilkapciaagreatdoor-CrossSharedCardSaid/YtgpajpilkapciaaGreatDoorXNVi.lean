/- A part of the proof. -/
import Derived.Test.YtgpajpilkapciaaGreatDoorXNTj
import Derived.Test.YtgpajpilkapciaaGreatDoorXNVl
set_option linter.unusedVariables false
set_option linter.unusedSimpArgs false
set_option maxRecDepth 100000
set_option maxHeartbeats 32000000
namespace Go.Proofs.YtgpajpilkapciaaGreatDoor
open Go.RowKit _root_.Go.Proofs.Tryz
attribute [local simp] List.replicate List.range List.range.loop zf za zn zb List.forall_mem_cons List.contains_cons List.contains_nil List.find? zm zl zZ
attribute [local simp] zAa zu zAs zAb zAC zAc zAt zv zi zt zAY zAr zAB zAZ zAd zAe zAu zAv zCJ zAL zAM cutL cutO zA5 ThrK
variable{S:ASt}{env:List Fi}{l:List St}{p:List It}
def resS(r:Option Flt):ARes:=match r with|none=>.ret .un|some f=>.thr (fltW f)
def StT(p:List It)(s:St):Prop:=∀(env:List Fi),zh env->env.length+s.nd<=4000000000->∀(S:ASt) (d j:Nat),TAt p S d j env->zL Tryz.prog 42 [.ptr d j 0,stmV s] S (resS (tgS p env s).2) (set2 S d j (fnT p (tgS p env s).1))
theorem TAt.set{d j:Nat}(h:TAt p S d j env)(env1:List Fi):TAt p (set2 S d j (fnT p env1)) d j env1:=by
 unfold TAt at*;rw[zF _ h,if_pos ⟨rfl,rfl⟩]
theorem StT.at{s:St}(hw:StT p s){d j:Nat}(h:TAt p S d j env){env1:List Fi}(he:zh env1)(hb:env1.length+s.nd<=4000000000)(L:List AObj):zL Tryz.prog 42 [.ptr (d+1) j 0,stmV s] (L::set2 S d j (fnT p env1)) (resS (tgS p env1 s).2) (L::set2 S d j (fnT p (tgS p env1 s).1)):=by
 have:=hw env1 he hb (L::set2 S d j (fnT p env1)) (d+1) j (h.set env1)
 rw[zAi,zB5]at this;exact this
theorem zVR(hp:PrSm p)(hs:∀s∈l,StT p s)(ka:∀s∈l,StSm s)(jd:l.length<=20000)(he:zh env)(hb:env.length+(l.map St.nd).sum<=4000000000)(S:ASt)(d j:Nat)(h:TAt p S d j env):zL Tryz.prog 65 [.ptr d j 0,.p (.sl 15 (l.map St.enc))] S (resS (tgSs p env l).2) (set2 S d j (fnT p (zCV env (tgSs p env l)).1)):=by
 have hS:=zAG h
 have gs:=fun o=>zF o h d j
 simp only[and_self,if_true]at gs
 have h2:=h
 unfold TAt fnT at h2
 have xb:l.length<=maxLen:=by unfold maxLen;omega
 refine zL.intro mixed call65 func65 rfl ?_;simp[ntmps65,h2];refine zBg (fun a:Nat × List Fi=>a.1<=l.length/\tgSs p env (l.take a.1)=(a.2,none)) (fun a=>[.ptr (d+1) j 0,.any,.any,.any,.p (.sl 4 (env.map Fi.enc)),.any,.any,.any,.any,.any,.any,.p (.sl 15 (l.map St.enc)),I l.length,I a.1,.any,.any,.any,.any,.any,.any,.any,.any,.any,.any,.any]) (fun a=>[]::set2 S d j (fnT p a.2)) (fun a=>l.length-a.1) (0,env) ⟨Nat.zero_le _,by rw[List.take_zero,tgSs]⟩ ?_ ?_ ?_
 .simp
 .simp[hS]
 rintro⟨q,env1⟩ ⟨hq,pa⟩
 simp only at hq pa
 obtain⟨g1,g2⟩:=zH2 hp he (fun s hs=>ka s (List.mem_of_mem_take hs)) pa
 by_cases hlt:q<l.length
 .have aa:(q:Int)<(l.length:Int):=by omega
  have hw:=zA hlt
  obtain⟨n1,n2⟩:=zLF hlt pa
  have fb:=zFs St.nd l q hlt
  have hx:=(hs _ (List.getElem_mem hlt)).at h g1 (by omega)
  generalize hy:l[q]=x at*
  generalize hr:tgS p env1 x=r at*
  obtain⟨e2,o⟩:=r
  cases o with
  |some f=>
   rw[n2 f rfl];simp[hlt,aa,hy,zBN];refine cq (hx _) ?_
   simp[resS,zCV]
  |none=>
   simp[hlt,aa,hy,zBN];refine cq (hx _) ?_;simp[resS];exact⟨q+1,e2,⟨by omega,n1⟩,by omega,hw,rfl⟩
 have aa:¬(q:Int)<(l.length:Int):=by omega
 obtain rfl:q=l.length:=by omega
 rw[List.take_length]at pa;rw[pa]
 have bh:=gs (fnT p env1)
 unfold fnT at bh;simp[aa,fnT,bh,resS,zCV]
theorem zHC(hp:PrSm p)(hs:∀s∈l,StT p s)(ka:∀s∈l,StSm s)(jd:l.length<=20000){env env1:List Fi}(he:zh env1)(hb:env1.length+(l.map St.nd).sum<=4000000000){d j:Nat}(h:TAt p S d j env)(L:List AObj):zL Tryz.prog 65 [.ptr (d+1) j 0,.p (.sl 15 (l.map St.enc))] (L::set2 S d j (fnT p env1)) (resS (tgSs p env1 l).2) (L::set2 S d j (fnT p (zCV env1 (tgSs p env1 l)).1)):=by
 have:=zVR hp hs ka jd he hb (L::set2 S d j (fnT p env1)) (d+1) j (h.set env1)
 rw[zAi,zB5]at this;exact this
theorem zMW{env1:List Fi}(hl:env1.length+1<=4294967296)(nm:BA)(t:Ty){d j:Nat}(h:TAt p S d j env)(L:List AObj):ADet Tryz.prog 61 [.ptr (d+1) j 0,Sg nm,tyV t] (L::set2 S d j (fnT p env1)) .un (L::set2 S d j (fnT p (env1++[⟨nm,t⟩]))):=by
 have:=zZL p env1 hl nm t (L::set2 S d j (fnT p env1)) (d+1) j (h.set env1)
 rw[zAi,zB5]at this;exact this
theorem zHD(hl:env.length+1<=4294967296)(nm:BA)(t:Ty){d j:Nat}(h:TAt p S d j env)(L:List AObj):ADet Tryz.prog 61 [.ptr (d+1) j 0,Sg nm,tyV t] (L::S) .un (L::set2 S d j (fnT p (env++[⟨nm,t⟩]))):=by
 have:=zMW hl nm t h L
 rw[zAG h]at this;exact this
theorem zH6(hp:PrSm p)(hs:∀s∈l,StT p s)(ka:∀s∈l,StSm s)(jd:l.length<=20000)(he:zh env)(hb:env.length+(l.map St.nd).sum<=4000000000){d j:Nat}(h:TAt p S d j env)(L:List AObj):zL Tryz.prog 65 [.ptr (d+1) j 0,.p (.sl 15 (l.map St.enc))] (L::S) (resS (tgSs p env l).2) (L::set2 S d j (fnT p (zCV env (tgSs p env l)).1)):=by
 have:=zHC hp hs ka jd he hb h L
 rw[zAG h]at this;exact this
theorem zac(hp:PrSm p)(s:St)(ka:StSm s)(hG:StG p s)(xa:∀x∈s.u5,∀env,zh env->env.length<=4000000000->ExC p env x)(i1:∀x∈s.body,StT p x)(i2:∀x∈s.els,StT p x)(i3:∀a∈s.arms,∀x∈a.body,StT p x)(hop:s.op=1):StT p s:=by
 intro env he hb S d j h
 have fb:=stNd s
 obtain⟨_,bg,pb,gg,mj,nj,Re,dh,yi,oj,Vc,je,Fe,ke⟩:=ka
 obtain⟨_,lf,Ld,Ai,Bi,Ci,Di,Ei⟩:=hG
 have xe:s.u5.length<=20000:=Re.1
 have hS:=zAG h
 have h2:=h
 have jb:env.length<=4000000000:=by omega
 have gs:=fun o=>zF o h d j
 simp only[and_self,if_true]at gs;unfold TAt fnT at h2
 have xb:s.u5.length<=maxLen:=by unfold maxLen;omega
 refine zL.intro mixed call42 func42 rfl ?_;simp[ntmps42];refine zj 35 3 (by decide) [.cells (stV s) 57] (fun a:Nat × List Ty=>a.1<=s.u5.length/\tyEs p env (s.u5.take a.1)= .ok a.2/\a.2.length=a.1) (fun a=>([.ptr (d+1) j 0,.any,.any,.ptr 0 0 0,.osl 3 (a.2.map Ty.enc) 0 1]++(List.replicate 25 .any++([.p (.sl 8 (s.u5.map Ex.enc)),I s.u5.length,I a.1]++List.replicate 250 .any)))) (fun a=>[.cells (stV s) 57,.tok 35 3 a.2.length]::S) (fun a=>s.u5.length-a.1) (0,[]) ⟨Nat.zero_le _,by rw[List.take_zero,tyEs],rfl⟩ ?_ ?_ ?_ ?_
 .simp
 .simp
 .rfl
 rintro⟨q,ts⟩ ⟨hq,pa,ca⟩
 simp only at hq pa ca
 by_cases hlt:q<s.u5.length
 .have aa:(q:Int)<(s.u5.length:Int):=by omega
  have hw:=zA hlt
  obtain⟨n1,n2⟩:=zAP hlt pa
  have hx:=xa _ (List.getElem_mem hlt) env he jb
  have va:q+1<=4294967296:=by omega
  generalize hy:s.u5[q]=x at*
  have hx:=fun(L:List AObj)=>hx (L::S) (d+1) j h
  cases hr:tyE p env x with
  |error f=>
   rw[hr]at hx;rw[zB7,n2 f hr];simp only;rw[hS];simp[hlt,aa,hy,zy];refine cq (hx _) ?_
   simp[resE,resS]
  |ok t=>
   rw[hr]at hx;simp[hlt,aa,hy,zy];refine cq (hx _) ?_;simp[resE,va,ca];exact⟨q+1,ts++[t],⟨by omega,n1 t hr,by simp[ca]⟩,by omega,⟨by simp[zP],hw⟩,by simp[ca]⟩
 have aa:¬(q:Int)<(s.u5.length:Int):=by omega
 obtain rfl:q=s.u5.length:=by omega
 rw[List.take_length]at pa;clear hlt hq;rw[zB7,pa];simp only
 obtain⟨v,l1,rfl⟩:∃v l1,ts=v::l1:=by
  cases ts with
  |nil=>have:=Ld (by omega);simp at ca;omega
  |cons v l1=>exact⟨v,l1,rfl⟩
 try simp only[List.headD_cons]
 have Sa:zC6 p env s.op s.name s.u4 s.place (v::l1)=none:=by unfold zC6;simp[hop]
 rw[Sa];simp only[if_pos hop]
 have mC:=fun L=>zHD (p:=p) (env:=env) (by omega) s.name v h L
 simp[aa,hop];refine zQ (dB [] (by kernel_rfl) ?_)
 simp[zP];refine cq (mC _) ?_;simp[resS]
theorem zad(hp:PrSm p)(s:St)(ka:StSm s)(hG:StG p s)(xa:∀x∈s.u5,∀env,zh env->env.length<=4000000000->ExC p env x)(i1:∀x∈s.body,StT p x)(i2:∀x∈s.els,StT p x)(i3:∀a∈s.arms,∀x∈a.body,StT p x)(hop:s.op=12):StT p s:=by
 intro env he hb S d j h
 have fb:=stNd s
 obtain⟨_,bg,pb,gg,mj,nj,Re,dh,yi,oj,Vc,je,Fe,ke⟩:=ka
 obtain⟨_,lf,Ld,Ai,Bi,Ci,Di,Ei⟩:=hG
 have xe:s.u5.length<=20000:=Re.1
 have hS:=zAG h
 have h2:=h
 have jb:env.length<=4000000000:=by omega
 have gs:=fun o=>zF o h d j
 simp only[and_self,if_true]at gs;unfold TAt fnT at h2
 have xb:s.u5.length<=maxLen:=by unfold maxLen;omega
 refine zL.intro mixed call42 func42 rfl ?_;simp[ntmps42];refine zj 35 3 (by decide) [.cells (stV s) 57] (fun a:Nat × List Ty=>a.1<=s.u5.length/\tyEs p env (s.u5.take a.1)= .ok a.2/\a.2.length=a.1) (fun a=>([.ptr (d+1) j 0,.any,.any,.ptr 0 0 0,.osl 3 (a.2.map Ty.enc) 0 1]++(List.replicate 25 .any++([.p (.sl 8 (s.u5.map Ex.enc)),I s.u5.length,I a.1]++List.replicate 250 .any)))) (fun a=>[.cells (stV s) 57,.tok 35 3 a.2.length]::S) (fun a=>s.u5.length-a.1) (0,[]) ⟨Nat.zero_le _,by rw[List.take_zero,tyEs],rfl⟩ ?_ ?_ ?_ ?_
 .simp
 .simp
 .rfl
 rintro⟨q,ts⟩ ⟨hq,pa,ca⟩
 simp only at hq pa ca
 by_cases hlt:q<s.u5.length
 .have aa:(q:Int)<(s.u5.length:Int):=by omega
  have hw:=zA hlt
  obtain⟨n1,n2⟩:=zAP hlt pa
  have hx:=xa _ (List.getElem_mem hlt) env he jb
  have va:q+1<=4294967296:=by omega
  generalize hy:s.u5[q]=x at*
  have hx:=fun(L:List AObj)=>hx (L::S) (d+1) j h
  cases hr:tyE p env x with
  |error f=>
   rw[hr]at hx;rw[zB7,n2 f hr];simp only;rw[hS];simp[hlt,aa,hy,zy];refine cq (hx _) ?_
   simp[resE,resS]
  |ok t=>
   rw[hr]at hx;simp[hlt,aa,hy,zy];refine cq (hx _) ?_;simp[resE,va,ca];exact⟨q+1,ts++[t],⟨by omega,n1 t hr,by simp[ca]⟩,by omega,⟨by simp[zP],hw⟩,by simp[ca]⟩
 have aa:¬(q:Int)<(s.u5.length:Int):=by omega
 obtain rfl:q=s.u5.length:=by omega
 rw[List.take_length]at pa;clear hlt hq;rw[zB7,pa];simp only
 have Sa:zC6 p env s.op s.name s.u4 s.place ts=none:=by unfold zC6;simp[hop]
 rw[Sa];simp only[if_neg (show ¬s.op=1 by omega),if_neg (show ¬s.op=2 by omega),if_neg (show ¬s.op=3 by omega),if_neg (show ¬(s.op=6\/s.op=7) by omega),if_neg (show ¬s.op=8 by omega),if_neg (show ¬s.op=10 by omega),if_neg (show ¬s.op=11 by omega),if_pos hop]
 have mC:=fun L=>zHD (p:=p) (env:=env) (by omega) s.name (inTy 11 s.type) h L
 have mD:=fun L=>zMW (p:=p) (env1:=env++[⟨s.name,inTy 11 s.type⟩]) (by simp;omega) s.u4 (inTy 12 s.type) h L
 simp only[List.append_assoc,List.cons_append,List.nil_append]at mD;simp[aa,hop];refine zQ (dB [(2,5)] (by kernel_rfl) ?_)
 simp[zP];refine cq (zFP _ s.type _) ?_;simp;refine cq (mC _) ?_;simp;refine zQ (dB [(2,5)] (by kernel_rfl) ?_)
 simp[zP];refine cq (zFP _ s.type _) ?_;simp;refine cq (mD _) ?_;simp[resS]
theorem zae(hp:PrSm p)(s:St)(ka:StSm s)(hG:StG p s)(xa:∀x∈s.u5,∀env,zh env->env.length<=4000000000->ExC p env x)(i1:∀x∈s.body,StT p x)(i2:∀x∈s.els,StT p x)(i3:∀a∈s.arms,∀x∈a.body,StT p x)(hne:s.op≠1/\s.op≠2/\s.op≠3/\s.op≠6/\s.op≠7/\s.op≠8/\s.op≠10/\s.op≠11/\s.op≠12):StT p s:=by
 intro env he hb S d j h
 have fb:=stNd s
 obtain⟨_,bg,pb,gg,mj,nj,Re,dh,yi,oj,Vc,je,Fe,ke⟩:=ka
 obtain⟨_,lf,Ld,Ai,Bi,Ci,Di,Ei⟩:=hG
 have xe:s.u5.length<=20000:=Re.1
 have hS:=zAG h
 have h2:=h
 have jb:env.length<=4000000000:=by omega
 have gs:=fun o=>zF o h d j
 simp only[and_self,if_true]at gs;unfold TAt fnT at h2
 have f1:(s.op==1)=false:=by simp;omega
 have f2:(s.op==2)=false:=by simp;omega
 have f3:(s.op==3)=false:=by simp;omega
 have f6:(s.op==6)=false:=by simp;omega
 have f7:(s.op==7)=false:=by simp;omega
 have f8:(s.op==8)=false:=by simp;omega
 have qp:(s.op==10)=false:=by simp;omega
 have jp:(s.op==11)=false:=by simp;omega
 have kp:(s.op==12)=false:=by simp;omega
 have xb:s.u5.length<=maxLen:=by unfold maxLen;omega
 refine zL.intro mixed call42 func42 rfl ?_;simp[ntmps42];refine zj 35 3 (by decide) [.cells (stV s) 57] (fun a:Nat × List Ty=>a.1<=s.u5.length/\tyEs p env (s.u5.take a.1)= .ok a.2/\a.2.length=a.1) (fun a=>([.ptr (d+1) j 0,.any,.any,.ptr 0 0 0,.osl 3 (a.2.map Ty.enc) 0 1]++(List.replicate 25 .any++([.p (.sl 8 (s.u5.map Ex.enc)),I s.u5.length,I a.1]++List.replicate 250 .any)))) (fun a=>[.cells (stV s) 57,.tok 35 3 a.2.length]::S) (fun a=>s.u5.length-a.1) (0,[]) ⟨Nat.zero_le _,by rw[List.take_zero,tyEs],rfl⟩ ?_ ?_ ?_ ?_
 .simp
 .simp
 .rfl
 rintro⟨q,ts⟩ ⟨hq,pa,ca⟩
 simp only at hq pa ca
 by_cases hlt:q<s.u5.length
 .have aa:(q:Int)<(s.u5.length:Int):=by omega
  have hw:=zA hlt
  obtain⟨n1,n2⟩:=zAP hlt pa
  have hx:=xa _ (List.getElem_mem hlt) env he jb
  have va:q+1<=4294967296:=by omega
  generalize hy:s.u5[q]=x at*
  have hx:=fun(L:List AObj)=>hx (L::S) (d+1) j h
  cases hr:tyE p env x with
  |error f=>
   rw[hr]at hx;rw[zB7,n2 f hr];simp only;rw[hS];simp[hlt,aa,hy,zy];refine cq (hx _) ?_
   simp[resE,resS]
  |ok t=>
   rw[hr]at hx;simp[hlt,aa,hy,zy];refine cq (hx _) ?_;simp[resE,va,ca];exact⟨q+1,ts++[t],⟨by omega,n1 t hr,by simp[ca]⟩,by omega,⟨by simp[zP],hw⟩,by simp[ca]⟩
 have aa:¬(q:Int)<(s.u5.length:Int):=by omega
 obtain rfl:q=s.u5.length:=by omega
 rw[List.take_length]at pa;clear hlt hq;rw[zB7,pa];simp only
 have Sa:zC6 p env s.op s.name s.u4 s.place ts=none:=by unfold zC6;simp[hne]
 rw[Sa];simp only[if_neg hne.1,if_neg hne.2.1,if_neg hne.2.2.1,if_neg (show ¬(s.op=6\/s.op=7) by omega),if_neg hne.2.2.2.2.2.1,if_neg hne.2.2.2.2.2.2.1,if_neg hne.2.2.2.2.2.2.2.1,if_neg hne.2.2.2.2.2.2.2.2]
 have bC:=fun L=>zH6 hp i1 Vc dh he (by omega) h L
 generalize tgSs p env s.body=r at*
 obtain⟨e1,o⟩:=r
 simp[aa,f1,f2,f3,f6,f7,f8,qp,jp,kp];refine cq (bC _) ?_;cases o<;>simp[resS,zCV]
theorem zI7(fs:List Fi)(nms:List BA)(q:Nat)(h1:q<nms.length)(h2:q<fs.length):zBc fs (nms.take (q+1))=zBc fs (nms.take q)++[⟨nms[q],fs[q].type⟩]:=by
 unfold zBc
 apply List.ext_getElem
 .simp;omega
 intro i a b;simp at a
 by_cases hi:i=q
 .subst hi
  rw[List.getElem_append_right (by simp;omega)]
  simp
 rw[List.getElem_append_left (by simp;omega)]
 simp
theorem zI8(l:List Ty)(nms:List BA)(q:Nat)(h1:q<nms.length)(h2:q<l.length):zAg (nms.take (q+1)) l=zAg (nms.take q) l++[⟨nms[q],l[q]⟩]:=by
 unfold zAg
 apply List.ext_getElem
 .simp;omega
 intro i a b;simp at a
 by_cases hi:i=q
 .subst hi
  rw[List.getElem_append_right (by simp;omega)]
  simp
 rw[List.getElem_append_left (by simp;omega)]
 simp
theorem zaf(hp:PrSm p)(s:St)(ka:StSm s)(hG:StG p s)(xa:∀x∈s.u5,∀env,zh env->env.length<=4000000000->ExC p env x)(i1:∀x∈s.body,StT p x)(i2:∀x∈s.els,StT p x)(i3:∀a∈s.arms,∀x∈a.body,StT p x)(hop:s.op=2):StT p s:=by
 intro env he hb S d j h
 have fb:=stNd s
 obtain⟨_,bg,pb,gg,mj,nj,Re,dh,yi,oj,Vc,je,Fe,ke⟩:=ka
 obtain⟨_,lf,Ld,Ai,Bi,Ci,Di,Ei⟩:=hG
 have xe:s.u5.length<=20000:=Re.1
 have hS:=zAG h
 have h2:=h
 have jb:env.length<=4000000000:=by omega
 have gs:=fun o=>zF o h d j
 simp only[and_self,if_true]at gs;unfold TAt fnT at h2
 have tC:∀S,ADet Tryz.prog 62 [.agg [.p (prog p)],Sg s.name] S (.tup [.p (.sl 4 (((zW p s.name).getD []).map Fi.enc)),B (zW p s.name).isSome]) S:=fun S=>by
  have:=zDX p hp s.name S
  cases hf:zW p s.name with
  |none=>rw[hf]at this;exact this.lessTup (.cons (.p (.nil 4)) (.refl _))
  |some l=>rw[hf]at this;exact this
 have xb:s.u5.length<=maxLen:=by unfold maxLen;omega
 refine zL.intro mixed call42 func42 rfl ?_;simp[ntmps42];refine zj 35 3 (by decide) [.cells (stV s) 57] (fun a:Nat × List Ty=>a.1<=s.u5.length/\tyEs p env (s.u5.take a.1)= .ok a.2/\a.2.length=a.1) (fun a=>([.ptr (d+1) j 0,.any,.any,.ptr 0 0 0,.osl 3 (a.2.map Ty.enc) 0 1]++(List.replicate 25 .any++([.p (.sl 8 (s.u5.map Ex.enc)),I s.u5.length,I a.1]++List.replicate 250 .any)))) (fun a=>[.cells (stV s) 57,.tok 35 3 a.2.length]::S) (fun a=>s.u5.length-a.1) (0,[]) ⟨Nat.zero_le _,by rw[List.take_zero,tyEs],rfl⟩ ?_ ?_ ?_ ?_
 .simp
 .simp
 .rfl
 rintro⟨q,ts⟩ ⟨hq,pa,ca⟩
 simp only at hq pa ca
 by_cases hlt:q<s.u5.length
 .have aa:(q:Int)<(s.u5.length:Int):=by omega
  have hw:=zA hlt
  obtain⟨n1,n2⟩:=zAP hlt pa
  have hx:=xa _ (List.getElem_mem hlt) env he jb
  have va:q+1<=4294967296:=by omega
  generalize hy:s.u5[q]=x at*
  have hx:=fun(L:List AObj)=>hx (L::S) (d+1) j h
  cases hr:tyE p env x with
  |error f=>
   rw[hr]at hx;rw[zB7,n2 f hr];simp only;rw[hS];simp[hlt,aa,hy,zy];refine cq (hx _) ?_
   simp[resE,resS]
  |ok t=>
   rw[hr]at hx;simp[hlt,aa,hy,zy];refine cq (hx _) ?_;simp[resE,va,ca];exact⟨q+1,ts++[t],⟨by omega,n1 t hr,by simp[ca]⟩,by omega,⟨by simp[zP],hw⟩,by simp[ca]⟩
 have aa:¬(q:Int)<(s.u5.length:Int):=by omega
 obtain rfl:q=s.u5.length:=by omega
 rw[List.take_length]at pa;clear hlt hq;rw[zB7,pa];simp only
 obtain⟨v,l1,rfl⟩:∃v l1,ts=v::l1:=by
  cases ts with
  |nil=>have:=Ld (by omega);simp at ca;omega
  |cons v l1=>exact⟨v,l1,rfl⟩
 try simp only[List.headD_cons]
 have Sa:zC6 p env s.op s.name s.u4 s.place (v::l1)=if eqT v (.mk 4 s.name [])=true then none else some 100:=by unfold zC6;rw[if_pos hop];rfl
 rw[Sa]
 have sC:∀S,ADet Tryz.prog 44 [tyV v,.agg [U 4,Sg s.name,.p (.sl 3 [])]] S (B (eqT v (.mk 4 s.name []))) S:=fun S=>zC8 v (.mk 4 s.name []) S
 try simp only[Ty.kind,Ty.name,Ty.args,List.map_nil]at sC
 have Si:LeAs [U 4,Sg s.name,nilS] [U 4,Sg s.name,.p (.sl 3 [])]:=.cons (.refl _) (.cons (.refl _) (.cons (.p (.nil 3)) (.refl _)))
 have sC:=fun S=>ADet.sub (.cons (.refl _) (.cons (.agg Si) (.refl _))) (sC S)
 cases Jb:eqT v (.mk 4 s.name [])with
 |false=>
  rw[Jb]at sC;simp only[Bool.false_eq_true,if_false];rw[hS];simp[aa,hop];refine z5 9 [9] [(8,6)] (by kernel_rfl) (by kernel_rfl) (by kernel_rfl) ?_
  simp[zP];refine cq (sC _) ?_;simp
  exact⟨_,_,zY _ _ _ _,by simp[resS]⟩
 |true=>
  rw[Jb]at sC;simp only[if_true];simp only[if_neg (show ¬s.op=1 by omega),if_pos hop]
  have ta:=Bi hop
  generalize Db:(zW p s.name).getD []=fs at*
  simp[aa,hop];refine zQ (dB [(8,6)] (by kernel_rfl) ?_)
  simp[zP];refine cq (sC _) ?_;simp;refine cq ((zY _ _ _ _).det) ?_;simp;refine zQ (dB [] (by kernel_rfl) ?_)
  simp[h2];refine cq (tC _) ?_;simp[strs];refine zBg (fun q:Nat=>q<=s.names.length) (fun q=>([.ptr (d+1) j 0,.any,.any,.ptr 0 0 0,.any,.any,.any,.p (.sl 4 (fs.map Fi.enc))]++(List.replicate 73 .any++([.p (.sl 1 (s.names.map fun s=>[pS s])),I s.names.length,I q]++List.replicate 199 .any)))) (fun q=>[.cells (stV s) 57,.tok 35 3 (l1.length+1)]::set2 S d j (fnT p (env++zBc fs (s.names.take q)))) (fun q=>s.names.length-q) 0 (Nat.zero_le _) ?_ ?_ ?_
  .simp[strs]
  .simp[zBc,hS,strs]
  intro q hq
  by_cases Lc:q<s.names.length
  .have tc:(q:Int)<(s.names.length:Int):=by omega
   have Cc:q<fs.length:=by omega
   have hw:=zA Lc (by have:=gg.1;unfold maxLen;omega)
   have Ye:=zI7 fs s.names q Lc Cc
   have mh:(zBc fs (s.names.take q)).length<=q:=by unfold zBc;simp;omega
   have mC:=fun L=>zMW (p:=p) (env1:=env++zBc fs (s.names.take q)) (by simp;omega) s.names[q] fs[q].type h L
   rw[List.append_assoc,<-Ye]at mC
   generalize vc:s.names[q]=n1 at*
   generalize Pf:fs[q]=f1 at*
   simp[Lc,tc,vc,Cc,Pf,Fi.enc,zP];refine cq ((mC _).call) ?_;simp;exact⟨q+1,by omega,by omega,hw,rfl⟩
  have tc:¬(q:Int)<(s.names.length:Int):=by omega
  obtain rfl:q=s.names.length:=by omega
  simp[tc,resS]
theorem zag(hp:PrSm p)(s:St)(ka:StSm s)(hG:StG p s)(xa:∀x∈s.u5,∀env,zh env->env.length<=4000000000->ExC p env x)(i1:∀x∈s.body,StT p x)(i2:∀x∈s.els,StT p x)(i3:∀a∈s.arms,∀x∈a.body,StT p x)(hop:s.op=3):StT p s:=by
 intro env he hb S d j h
 have fb:=stNd s
 obtain⟨_,bg,pb,gg,mj,nj,Re,dh,yi,oj,Vc,je,Fe,ke⟩:=ka
 obtain⟨_,lf,Ld,Ai,Bi,Ci,Di,Ei⟩:=hG
 have xe:s.u5.length<=20000:=Re.1
 have hS:=zAG h
 have h2:=h
 have jb:env.length<=4000000000:=by omega
 have gs:=fun o=>zF o h d j
 simp only[and_self,if_true]at gs;unfold TAt fnT at h2
 have pC:=fun L=>zEs p hp env he jb s.place (L::S) (d+1) j h
 have oC:=fun t S=>zNU t S
 have sC:=fun t u S=>zC8 t u S
 have xb:s.u5.length<=maxLen:=by unfold maxLen;omega
 refine zL.intro mixed call42 func42 rfl ?_;simp[ntmps42];refine zj 35 3 (by decide) [.cells (stV s) 57] (fun a:Nat × List Ty=>a.1<=s.u5.length/\tyEs p env (s.u5.take a.1)= .ok a.2/\a.2.length=a.1) (fun a=>([.ptr (d+1) j 0,.any,.any,.ptr 0 0 0,.osl 3 (a.2.map Ty.enc) 0 1]++(List.replicate 25 .any++([.p (.sl 8 (s.u5.map Ex.enc)),I s.u5.length,I a.1]++List.replicate 250 .any)))) (fun a=>[.cells (stV s) 57,.tok 35 3 a.2.length]::S) (fun a=>s.u5.length-a.1) (0,[]) ⟨Nat.zero_le _,by rw[List.take_zero,tyEs],rfl⟩ ?_ ?_ ?_ ?_
 .simp
 .simp
 .rfl
 rintro⟨q,ts⟩ ⟨hq,pa,ca⟩
 simp only at hq pa ca
 by_cases hlt:q<s.u5.length
 .have aa:(q:Int)<(s.u5.length:Int):=by omega
  have hw:=zA hlt
  obtain⟨n1,n2⟩:=zAP hlt pa
  have hx:=xa _ (List.getElem_mem hlt) env he jb
  have va:q+1<=4294967296:=by omega
  generalize hy:s.u5[q]=x at*
  have hx:=fun(L:List AObj)=>hx (L::S) (d+1) j h
  cases hr:tyE p env x with
  |error f=>
   rw[hr]at hx;rw[zB7,n2 f hr];simp only;rw[hS];simp[hlt,aa,hy,zy];refine cq (hx _) ?_
   simp[resE,resS]
  |ok t=>
   rw[hr]at hx;simp[hlt,aa,hy,zy];refine cq (hx _) ?_;simp[resE,va,ca];exact⟨q+1,ts++[t],⟨by omega,n1 t hr,by simp[ca]⟩,by omega,⟨by simp[zP],hw⟩,by simp[ca]⟩
 have aa:¬(q:Int)<(s.u5.length:Int):=by omega
 obtain rfl:q=s.u5.length:=by omega
 rw[List.take_length]at pa;clear hlt hq;rw[zB7,pa];simp only
 obtain⟨v,l1,rfl⟩:∃v l1,ts=v::l1:=by
  cases ts with
  |nil=>have:=Ld (by omega);simp at ca;omega
  |cons v l1=>exact⟨v,l1,rfl⟩
 try simp only[List.headD_cons]
 have Sa:zC6 p env s.op s.name s.u4 s.place (v::l1)=match zBC p env s.place with|none=>some 100|some (t,w)=>if t.owned=false then some 101 else if w=true/\eqT t v=true then none else some 100:=by unfold zC6;rw[if_neg (by omega),if_pos hop];rfl
 rw[Sa]
 cases Ua:zBC p env s.place with
 |none=>
  rw[Ua]at pC;simp only;rw[hS];simp[aa,hop];refine cq ((pC _).call) ?_;simp[zBP];refine cq (zY _ _ _ _) ?_
  simp[resS]
 |some r=>
  obtain⟨t,wr⟩:=r
  rw[Ua]at pC;simp only
  cases ho:t.owned with
  |false=>
   simp only[if_true];rw[hS];simp[aa,hop];refine cq ((pC _).call) ?_;simp[zBP];refine cq (zY _ _ _ _) ?_;simp;refine z5 4 [4] [(3,1)] (by kernel_rfl) (by kernel_rfl) (by kernel_rfl) ?_
   simp;refine cq (oC _ _) ?_;rw[ho];simp
   exact⟨_,_,zY _ _ _ _,by simp[resS]⟩
  |true=>
   simp only[Bool.true_eq_false,if_false]
   cases wr with
   |false=>
    simp only[Bool.false_eq_true,false_and,if_false];rw[hS];simp[aa,hop];refine cq ((pC _).call) ?_;simp[zBP];refine cq (zY _ _ _ _) ?_;simp;refine zQ (dB [(3,1)] (by kernel_rfl) ?_)
    simp;refine cq (oC _ _) ?_;rw[ho];simp;refine cq ((zY _ _ _ _).det) ?_;simp;refine z5 10 [10] [(9,6)] (by kernel_rfl) (by kernel_rfl) (by kernel_rfl) ?_
    simp
    exact⟨_,_,zY _ _ _ _,by simp[resS]⟩
   |true=>
    simp only[true_and]
    cases Jb:eqT t v with
    |false=>
     simp only[Bool.false_eq_true,if_false];rw[hS];simp[aa,hop];refine cq ((pC _).call) ?_;simp[zBP];refine cq (zY _ _ _ _) ?_;simp;refine zQ (dB [(3,1)] (by kernel_rfl) ?_)
     simp;refine cq (oC _ _) ?_;rw[ho];simp;refine cq ((zY _ _ _ _).det) ?_;simp;refine z5 10 [10] [(9,6)] (by kernel_rfl) (by kernel_rfl) (by kernel_rfl) ?_
     simp[zP];refine cq (sC _ _ _) ?_;rw[Jb];simp
     exact⟨_,_,zY _ _ _ _,by simp[resS]⟩
    |true=>
     simp only[if_true];simp only[if_neg (show ¬s.op=1 by omega),if_neg (show ¬s.op=2 by omega),if_pos hop]
     rw[hS];simp[aa,hop];refine cq ((pC _).call) ?_;simp[zBP];refine cq (zY _ _ _ _) ?_;simp;refine zQ (dB [(3,1)] (by kernel_rfl) ?_)
     simp;refine cq (oC _ _) ?_;rw[ho];simp;refine cq ((zY _ _ _ _).det) ?_;simp;refine zQ (dB [(9,6)] (by kernel_rfl) ?_)
     simp[zP];refine cq (sC _ _ _) ?_;rw[Jb];simp;refine cq ((zY _ _ _ _).det) ?_;simp[resS]
theorem zah(hp:PrSm p)(s:St)(ka:StSm s)(hG:StG p s)(xa:∀x∈s.u5,∀env,zh env->env.length<=4000000000->ExC p env x)(i1:∀x∈s.body,StT p x)(i2:∀x∈s.els,StT p x)(i3:∀a∈s.arms,∀x∈a.body,StT p x)(hop:s.op=6\/s.op=7):StT p s:=by
 intro env he hb S d j h
 have fb:=stNd s
 obtain⟨_,bg,pb,gg,mj,nj,Re,dh,yi,oj,Vc,je,Fe,ke⟩:=ka
 obtain⟨_,lf,Ld,Ai,Bi,Ci,Di,Ei⟩:=hG
 have xe:s.u5.length<=20000:=Re.1
 have hS:=zAG h
 have h2:=h
 have jb:env.length<=4000000000:=by omega
 have gs:=fun o=>zF o h d j
 simp only[and_self,if_true]at gs;unfold TAt fnT at h2
 have xb:s.u5.length<=maxLen:=by unfold maxLen;omega
 refine zL.intro mixed call42 func42 rfl ?_;simp[ntmps42];refine zj 35 3 (by decide) [.cells (stV s) 57] (fun a:Nat × List Ty=>a.1<=s.u5.length/\tyEs p env (s.u5.take a.1)= .ok a.2/\a.2.length=a.1) (fun a=>([.ptr (d+1) j 0,.any,.any,.ptr 0 0 0,.osl 3 (a.2.map Ty.enc) 0 1]++(List.replicate 25 .any++([.p (.sl 8 (s.u5.map Ex.enc)),I s.u5.length,I a.1]++List.replicate 250 .any)))) (fun a=>[.cells (stV s) 57,.tok 35 3 a.2.length]::S) (fun a=>s.u5.length-a.1) (0,[]) ⟨Nat.zero_le _,by rw[List.take_zero,tyEs],rfl⟩ ?_ ?_ ?_ ?_
 .simp
 .simp
 .rfl
 rintro⟨q,ts⟩ ⟨hq,pa,ca⟩
 simp only at hq pa ca
 by_cases hlt:q<s.u5.length
 .have aa:(q:Int)<(s.u5.length:Int):=by omega
  have hw:=zA hlt
  obtain⟨n1,n2⟩:=zAP hlt pa
  have hx:=xa _ (List.getElem_mem hlt) env he jb
  have va:q+1<=4294967296:=by omega
  generalize hy:s.u5[q]=x at*
  have hx:=fun(L:List AObj)=>hx (L::S) (d+1) j h
  cases hr:tyE p env x with
  |error f=>
   rw[hr]at hx;rw[zB7,n2 f hr];simp only;rw[hS];simp[hlt,aa,hy,zy];refine cq (hx _) ?_
   simp[resE,resS]
  |ok t=>
   rw[hr]at hx;simp[hlt,aa,hy,zy];refine cq (hx _) ?_;simp[resE,va,ca];exact⟨q+1,ts++[t],⟨by omega,n1 t hr,by simp[ca]⟩,by omega,⟨by simp[zP],hw⟩,by simp[ca]⟩
 have aa:¬(q:Int)<(s.u5.length:Int):=by omega
 obtain rfl:q=s.u5.length:=by omega
 rw[List.take_length]at pa;clear hlt hq;rw[zB7,pa];simp only
 obtain⟨v,l1,rfl⟩:∃v l1,ts=v::l1:=by
  cases ts with
  |nil=>have:=Ld (by omega);simp at ca;omega
  |cons v l1=>exact⟨v,l1,rfl⟩
 try simp only[List.headD_cons]
 have Sa:zC6 p env s.op s.name s.u4 s.place (v::l1)=if v.kind=2 then none else some 100:=by unfold zC6;rw[if_neg (by omega),if_neg (by omega),if_pos hop];rfl
 rw[Sa]
 by_cases hk:v.kind=2
 .rw[if_pos hk]
  simp only[if_neg (show ¬s.op=1 by omega),if_neg (show ¬s.op=2 by omega),if_neg (show ¬s.op=3 by omega),if_pos hop]
  have bC:=fun L=>zH6 hp i1 Vc dh he (by omega) h L
  have cC:=fun L=>zHC hp i2 je yi (env:=env) (env1:=env) he (by omega) h L
  generalize tgSs p env s.body=r at*
  generalize tgSs p env s.els=r2 at*
  obtain⟨e1,o⟩:=r
  obtain⟨e2,o2⟩:=r2
  rcases hop with hop|hop
  .simp[aa,hop]
   refine zQ (dB [] (by kernel_rfl) ?_)
   simp[zP,hk];refine cq ((zY _ _ _ _).det) ?_;simp;refine cq (bC _) ?_
   cases o with
   |some f=>simp[resS,zCV]
   |none=>
    simp[resS,zCV];refine cq (cC _) ?_;cases o2<;>simp[resS,zCV]
  simp[aa,hop]
  refine zQ (dB [] (by kernel_rfl) ?_)
  simp[zP,hk];refine cq ((zY _ _ _ _).det) ?_;simp;refine cq (bC _) ?_
  cases o with
  |some f=>simp[resS,zCV]
  |none=>
   simp[resS,zCV];refine cq (cC _) ?_;cases o2<;>simp[resS,zCV]
 rw[if_neg hk]
 have Vb:(v.kind==2)=false:=by simpa using hk
 simp only;rw[hS]
 rcases hop with hop|hop
 .simp[aa,hop]
  refine z5 7 [7] [] (by kernel_rfl) (by kernel_rfl) (by kernel_rfl) ?_
  simp[zP,Vb];exact⟨_,_,zY _ _ _ _,by simp[resS]⟩
 simp[aa,hop]
 refine z5 7 [7] [] (by kernel_rfl) (by kernel_rfl) (by kernel_rfl) ?_
 simp[zP,Vb];exact⟨_,_,zY _ _ _ _,by simp[resS]⟩
theorem zRW:∀(l:List Ar) (q:Nat) (h:q<l.length),l[q].nd<=(l.map Ar.nd).sum
 |a::l,0,h=>by simp
 |a::l,q+1,h=>by
  have:=zRW l q (by simpa using h)
  simp only[List.map_cons,List.sum_cons,List.getElem_cons_succ];omega
theorem zai(hp:PrSm p)(s:St)(ka:StSm s)(hG:StG p s)(xa:∀x∈s.u5,∀env,zh env->env.length<=4000000000->ExC p env x)(i1:∀x∈s.body,StT p x)(i2:∀x∈s.els,StT p x)(i3:∀a∈s.arms,∀x∈a.body,StT p x)(hop:s.op=8):StT p s:=by
 intro env he hb S d j h
 have fb:=stNd s
 obtain⟨_,bg,pb,gg,mj,nj,Re,dh,yi,oj,Vc,je,Fe,ke⟩:=ka
 obtain⟨_,lf,Ld,Ai,Bi,Ci,Di,Ei⟩:=hG
 have xe:s.u5.length<=20000:=Re.1
 have hS:=zAG h
 have h2:=h
 have jb:env.length<=4000000000:=by omega
 have gs:=fun o=>zF o h d j
 simp only[and_self,if_true]at gs;unfold TAt fnT at h2
 have pC:∀L,∃b1 b2,ADet Tryz.prog 63 [.ptr (d+1) j 0,.agg [Sg s.name,nilS]] (L::S) (.tup [tyV (plT p env ⟨s.name,[]⟩),B b1,B b2]) (L::S):=fun L=>by
  have:=ADet.sub (.cons (.refl _) (.cons (.agg (.cons (.refl _) (.cons (.p (.nil 1)) (.refl _)))) (.refl _))) (zEs p hp env he jb ⟨s.name,[]⟩ (L::S) (d+1) j h)
  unfold plT
  cases Ua:zBC p env ⟨s.name,[]⟩with
  |none=>
   rw[Ua]at this
   exact⟨false,false,this.lessTup (.cons (.agg (.cons (.refl _) (.cons (.refl _) (.cons (.p (.nil 3)) (.refl _))))) (.refl _))⟩
  |some r=>
   obtain⟨u,w⟩:=r
   rw[Ua]at this;exact⟨w,true,this⟩
 have xb:s.u5.length<=maxLen:=by unfold maxLen;omega
 refine zL.intro mixed call42 func42 rfl ?_;simp[ntmps42];refine zj 35 3 (by decide) [.cells (stV s) 57] (fun a:Nat × List Ty=>a.1<=s.u5.length/\tyEs p env (s.u5.take a.1)= .ok a.2/\a.2.length=a.1) (fun a=>([.ptr (d+1) j 0,.any,.any,.ptr 0 0 0,.osl 3 (a.2.map Ty.enc) 0 1]++(List.replicate 25 .any++([.p (.sl 8 (s.u5.map Ex.enc)),I s.u5.length,I a.1]++List.replicate 250 .any)))) (fun a=>[.cells (stV s) 57,.tok 35 3 a.2.length]::S) (fun a=>s.u5.length-a.1) (0,[]) ⟨Nat.zero_le _,by rw[List.take_zero,tyEs],rfl⟩ ?_ ?_ ?_ ?_
 .simp
 .simp
 .rfl
 rintro⟨q,ts⟩ ⟨hq,pa,ca⟩
 simp only at hq pa ca
 by_cases hlt:q<s.u5.length
 .have aa:(q:Int)<(s.u5.length:Int):=by omega
  have hw:=zA hlt
  obtain⟨n1,n2⟩:=zAP hlt pa
  have hx:=xa _ (List.getElem_mem hlt) env he jb
  have va:q+1<=4294967296:=by omega
  generalize hy:s.u5[q]=x at*
  have hx:=fun(L:List AObj)=>hx (L::S) (d+1) j h
  cases hr:tyE p env x with
  |error f=>
   rw[hr]at hx;rw[zB7,n2 f hr];simp only;rw[hS];simp[hlt,aa,hy,zy];refine cq (hx _) ?_
   simp[resE,resS]
  |ok t=>
   rw[hr]at hx;simp[hlt,aa,hy,zy];refine cq (hx _) ?_;simp[resE,va,ca];exact⟨q+1,ts++[t],⟨by omega,n1 t hr,by simp[ca]⟩,by omega,⟨by simp[zP],hw⟩,by simp[ca]⟩
 have aa:¬(q:Int)<(s.u5.length:Int):=by omega
 obtain rfl:q=s.u5.length:=by omega
 rw[List.take_length]at pa;clear hlt hq;rw[zB7,pa];simp only
 have Sa:zC6 p env s.op s.name s.u4 s.place ts=if eqT (plT p env ⟨s.name,[]⟩) (.mk 4 s.u4 [])=true then none else some 100:=by unfold zC6;rw[if_neg (by omega),if_neg (by omega),if_neg (by omega),if_pos hop]
 rw[Sa]
 have sC:∀S,ADet Tryz.prog 44 [tyV (plT p env ⟨s.name,[]⟩),.agg [U 4,Sg s.u4,.p (.sl 3 [])]] S (B (eqT (plT p env ⟨s.name,[]⟩) (.mk 4 s.u4 []))) S:=fun S=>zC8 (plT p env ⟨s.name,[]⟩) (.mk 4 s.u4 []) S
 try simp only[Ty.kind,Ty.name,Ty.args,List.map_nil]at sC
 have Si:LeAs [U 4,Sg s.u4,nilS] [U 4,Sg s.u4,.p (.sl 3 [])]:=.cons (.refl _) (.cons (.refl _) (.cons (.p (.nil 3)) (.refl _)))
 have sC:=fun S=>ADet.sub (.cons (.refl _) (.cons (.agg Si) (.refl _))) (sC S)
 generalize Qf:plT p env ⟨s.name,[]⟩=pt at*
 cases Jb:eqT pt (.mk 4 s.u4 [])with
 |false=>
  rw[Jb]at sC;simp only[Bool.false_eq_true,if_false];rw[hS];simp[aa,hop]
  obtain⟨b1,b2,pC⟩:=pC _
  refine cq pC.call ?_;simp;refine z5 7 [7] [(6,4)] (by kernel_rfl) (by kernel_rfl) (by kernel_rfl) ?_
  simp[zP];refine cq (sC _) ?_;simp
  exact⟨_,_,zY _ _ _ _,by simp[resS]⟩
 |true=>
  rw[Jb]at sC;simp only[if_true];simp only[if_neg (show ¬s.op=1 by omega),if_neg (show ¬s.op=2 by omega),if_neg (show ¬s.op=3 by omega),if_neg (show ¬(s.op=6\/s.op=7) by omega),if_pos hop]
  simp[aa,hop]
  obtain⟨b1,b2,pC⟩:=pC _
  refine cq pC.call ?_;simp;refine zQ (dB [(6,4)] (by kernel_rfl) ?_)
  simp[zP];refine cq (sC _) ?_;simp;refine cq ((zY _ _ _ _).det) ?_;simp;refine zBg (fun q:Nat=>q<=s.arms.length/\tgAs p s.u4 env (s.arms.take q)=(env,none)) (fun q=>([.ptr (d+1) j 0,.any,.any,.ptr 0 0 0]++(List.replicate 162 .any++([.p (.sl 3 (s.arms.map Ar.enc)),I s.arms.length,I q]++List.replicate 114 .any)))) (fun q=>[.cells (stV s) 57,.tok 35 3 ts.length,.cells [U pt.kind,Sg pt.name,.p (.sl 3 (pt.args.map Ty.enc))] 35]::S) (fun q=>s.arms.length-q) 0 ⟨Nat.zero_le _,by rw[List.take_zero,tgAs]⟩ ?_ ?_ ?_
  .simp
  .simp
  rintro q ⟨hq,um⟩
  by_cases Lc:q<s.arms.length
  .have tc:(q:Int)<(s.arms.length:Int):=by omega
   have hw:=zA Lc (by unfold maxLen;omega)
   obtain⟨n1,n2⟩:=zRJ Lc um
   have Np:=List.getElem_mem Lc
   have vv:=zRW s.arms q Lc
   have ah:=i3 _ Np
   have Xa:=Fe _ Np
   have Lf:=ke _ Np
   generalize hy:s.arms[q]=a at*
   have Pp:=arNd a
   have yC:=fun L=>zEt p hp env s.u4 a.variant (L::S) (d+1) j h
   have su:=zMT hp s.u4 a.variant
   have yC:∀L,∃b,ADet Tryz.prog 66 [.ptr (d+1) j 0,Sg s.u4,Sg a.variant] (L::S) (.tup [tyV ((zAO p s.u4 a.variant).getD zTy),B b]) (L::S):=fun L=>by
    have:=yC L
    cases hpk:zAO p s.u4 a.variant with
    |none=>rw[hpk]at this;exact⟨false,this.lessTup (.cons (.agg (.cons (.refl _) (.cons (.refl _) (.cons (.p (.nil 3)) (.refl _))))) (.refl _))⟩
    |some t=>rw[hpk]at this;exact⟨true,this⟩
   cases Km:sEq a.name emS with
   |true=>
    have Jd:armE p s.u4 env a=env:=by unfold armE;rw[if_pos Km]
    rw[Jd]at n1 n2
    have bC:=fun L=>zH6 hp ah Lf Xa.2.2 he (by omega) h L
    generalize hr:tgSs p env a.body=r at*
    obtain⟨e2,o⟩:=r
    simp[Lc,tc,hy,Ar.enc,Km,h2];refine cq (bC _) ?_
    cases o with
    |some f=>
     rw[n2 f rfl]
     simp[resS,zCV]
    |none=>
     have bh:=gs (fnT p env)
     unfold fnT at bh
     have lc:=hS
     unfold fnT at lc;simp[resS,zCV,fnT,bh,lc,h2]
     exact⟨q+1,⟨by omega,n1 rfl⟩,by omega,hw⟩
   |false=>
    have Jd:armE p s.u4 env a=env++[⟨a.name,(zAO p s.u4 a.variant).getD zTy⟩]:=by unfold armE;rw[if_neg (by rw[Km];simp)]
    rw[Jd]at n1 n2
    generalize (zAO p s.u4 a.variant).getD zTy=yt at*
    have Bf:zh (env++[⟨a.name,yt⟩]):=zA7 he (zC7 su)
    have La:(env++[(⟨a.name,yt⟩:Fi)]).length=env.length+1:=by simp
    have mC:=fun L=>zHD (p:=p) (env:=env) (by omega) a.name yt h L
    have bC:=fun L=>zHC hp ah Lf Xa.2.2 (env:=env) (env1:=env++[⟨a.name,yt⟩]) Bf (by omega) h L
    generalize hr:tgSs p (env++[⟨a.name,yt⟩]) a.body=r at*
    obtain⟨e2,o⟩:=r
    simp[Lc,tc,hy,Ar.enc,Km,h2]
    obtain⟨b,yC⟩:=yC _
    refine cq yC.call ?_;simp;refine cq ((mC _).call) ?_;simp;refine cq (bC _) ?_
    cases o with
    |some f=>
     rw[n2 f rfl]
     simp[resS,zCV]
    |none=>
     have bh:=gs (fnT p (env++[⟨a.name,yt⟩]))
     unfold fnT at bh
     have lc:=hS
     unfold fnT at lc;simp only[List.map_append,List.map_cons,List.map_nil]at bh;simp[resS,zCV,fnT,bh,lc,h2];exact⟨q+1,⟨by omega,n1 rfl⟩,by omega,hw⟩
  have tc:¬(q:Int)<(s.arms.length:Int):=by omega
  obtain rfl:q=s.arms.length:=by omega
  rw[List.take_length]at um;rw[um];simp only;rw[hS];simp[tc,resS]
theorem zaj(hp:PrSm p)(s:St)(ka:StSm s)(hG:StG p s)(xa:∀x∈s.u5,∀env,zh env->env.length<=4000000000->ExC p env x)(i1:∀x∈s.body,StT p x)(i2:∀x∈s.els,StT p x)(i3:∀a∈s.arms,∀x∈a.body,StT p x)(hop:s.op=11)(Mc:zx p=true):StT p s:=by
 intro env he hb S d j h
 have fb:=stNd s
 obtain⟨_,bg,pb,gg,mj,nj,Re,dh,yi,oj,Vc,je,Fe,ke⟩:=ka
 obtain⟨_,lf,Ld,Ai,Bi,Ci,Di,Ei⟩:=hG
 have xe:s.u5.length<=20000:=Re.1
 have hS:=zAG h
 have h2:=h
 have jb:env.length<=4000000000:=by omega
 have gs:=fun o=>zF o h d j
 simp only[and_self,if_true]at gs;unfold TAt fnT at h2
 have pC:∀L,∃b1 b2,ADet Tryz.prog 63 [.ptr (d+1) j 0,plV s.place] (L::S) (.tup [tyV (plT p env s.place),B b1,B b2]) (L::S):=fun L=>by
  have:=zEs p hp env he jb s.place (L::S) (d+1) j h
  unfold plT
  cases Ua:zBC p env s.place with
  |none=>
   rw[Ua]at this
   exact⟨false,false,this.lessTup (.cons (.agg (.cons (.refl _) (.cons (.refl _) (.cons (.p (.nil 3)) (.refl _))))) (.refl _))⟩
  |some r=>
   obtain⟨u,w⟩:=r
   rw[Ua]at this;exact⟨w,true,this⟩
 have xb:s.u5.length<=maxLen:=by unfold maxLen;omega
 refine zL.intro mixed call42 func42 rfl ?_;simp[ntmps42];refine zj 35 3 (by decide) [.cells (stV s) 57] (fun a:Nat × List Ty=>a.1<=s.u5.length/\tyEs p env (s.u5.take a.1)= .ok a.2/\a.2.length=a.1) (fun a=>([.ptr (d+1) j 0,.any,.any,.ptr 0 0 0,.osl 3 (a.2.map Ty.enc) 0 1]++(List.replicate 25 .any++([.p (.sl 8 (s.u5.map Ex.enc)),I s.u5.length,I a.1]++List.replicate 250 .any)))) (fun a=>[.cells (stV s) 57,.tok 35 3 a.2.length]::S) (fun a=>s.u5.length-a.1) (0,[]) ⟨Nat.zero_le _,by rw[List.take_zero,tyEs],rfl⟩ ?_ ?_ ?_ ?_
 .simp
 .simp
 .rfl
 rintro⟨q,ts⟩ ⟨hq,pa,ca⟩
 simp only at hq pa ca
 by_cases hlt:q<s.u5.length
 .have aa:(q:Int)<(s.u5.length:Int):=by omega
  have hw:=zA hlt
  obtain⟨n1,n2⟩:=zAP hlt pa
  have hx:=xa _ (List.getElem_mem hlt) env he jb
  have va:q+1<=4294967296:=by omega
  generalize hy:s.u5[q]=x at*
  have hx:=fun(L:List AObj)=>hx (L::S) (d+1) j h
  cases hr:tyE p env x with
  |error f=>
   rw[hr]at hx;rw[zB7,n2 f hr];simp only;rw[hS];simp[hlt,aa,hy,zy];refine cq (hx _) ?_
   simp[resE,resS]
  |ok t=>
   rw[hr]at hx;simp[hlt,aa,hy,zy];refine cq (hx _) ?_;simp[resE,va,ca];exact⟨q+1,ts++[t],⟨by omega,n1 t hr,by simp[ca]⟩,by omega,⟨by simp[zP],hw⟩,by simp[ca]⟩
 have aa:¬(q:Int)<(s.u5.length:Int):=by omega
 obtain rfl:q=s.u5.length:=by omega
 rw[List.take_length]at pa;clear hlt hq;rw[zB7,pa];simp only
 have Sa:zC6 p env s.op s.name s.u4 s.place ts=if(plT p env s.place).kind=9 then none else some 100:=by unfold zC6;rw[if_neg (by omega),if_neg (by omega),if_neg (by omega),if_neg (by omega),if_pos hop]
 rw[Sa]
 have tu:=zUO Mc (env:=env) (x:=s.place)
 have Qp:=zRH hp he s.place
 generalize Qf:plT p env s.place=pt at*
 by_cases hk:pt.kind=9
 .obtain⟨u,hu⟩:=zLJ (tu hk)
  have Rp:=zRG Qp u (by rw[hu];simp)
  rw[if_pos hk];simp only[if_neg (show ¬s.op=1 by omega),if_neg (show ¬s.op=2 by omega),if_neg (show ¬s.op=3 by omega),if_neg (show ¬(s.op=6\/s.op=7) by omega),if_neg (show ¬s.op=8 by omega),if_neg (show ¬s.op=10 by omega),if_pos hop,hu,List.headD_cons]
  have Bf:zh (env++[⟨s.name,inTy 14 u⟩]):=zA7 he (zC7 (zJu 14 Rp))
  have La:(env++[(⟨s.name,inTy 14 u⟩:Fi)]).length=env.length+1:=by simp
  have mC:=fun L=>zHD (p:=p) (env:=env) (by omega) s.name (inTy 14 u) h L
  have bC:=fun L=>zHC hp i1 Vc dh (env:=env) (env1:=env++[⟨s.name,inTy 14 u⟩]) Bf (by omega) h L
  generalize hr:tgSs p (env++[⟨s.name,inTy 14 u⟩]) s.body=r at*
  obtain⟨e2,o⟩:=r
  simp[aa,hop]
  obtain⟨b1,b2,pC⟩:=pC _
  refine cq pC.call ?_;simp[hk];refine cq (zY _ _ _ _) ?_;simp[h2];refine zQ (dB [(2,7)] (by kernel_rfl) ?_)
  simp[zP,hu];refine cq (zFP _ u _) ?_;simp;refine cq (mC _) ?_;simp;refine cq (bC _) ?_
  cases o with
  |some f=>simp[resS,zCV]
  |none=>
   have bh:=gs (fnT p (env++[⟨s.name,inTy 14 u⟩]))
   unfold fnT at bh;simp only[List.map_append,List.map_cons,List.map_nil]at bh;simp[resS,zCV,fnT,bh]
 rw[if_neg hk]
 have Vb:(pt.kind==9)=false:=by simpa using hk
 simp only;rw[hS];simp[aa,hop]
 obtain⟨b1,b2,pC⟩:=pC _
 refine cq pC.call ?_;simp[Vb];refine cq (zY _ _ _ _) ?_;simp[resS]
def gE(l:List Fi):AV:=match l with| []=>nilS|l=>.p (.sl 4 (l.map Fi.enc))
def gO(p:List It)(l:List Fi):AObj:=.cells [.p (prog p),gE l] 106
theorem zXS(l:List Fi)(f:Fi):gE (l++[f])= .p (.sl 4 ((l++[f]).map Fi.enc)):=by
 cases l<;>rfl
theorem zZY(p:List It)(l:List Fi):LeAs [.p (prog p),gE l] [.p (prog p),.p (.sl 4 (l.map Fi.enc))]:=by
 cases l with
 |nil=>exact .cons (.refl _) (.cons (.p (.nil 4)) (.refl _))
 |cons f l=>exact .refl _
theorem g_wk(p:List It)(l:List Fi):wkL [AObj.cut 3 (gO p l)] [gO p l]:=by
 cases l with
 |nil=>exact⟨⟨rfl,zS _⟩,trivial⟩
 |cons f l=>exact⟨⟨rfl,zS _⟩,trivial⟩
theorem zZZ{l:List Fi}(hl:l.length+1<=4294967296)(nm:BA)(t:Ty)(a0 a1:AObj)(S:ASt):zL Tryz.prog 61 [.ptr 0 2 0,Sg nm,tyV t] ([a0,a1,gO p l]::S) (.ret .un) ([a0,a1,gO p (l++[⟨nm,t⟩])]::S):=by
 refine zL.subS (d:=0) (i:=2) (cs:=[.p (prog p),gE l]) (t:=106) rfl (zZY p l) ?_
 have:=zZL p l hl nm t ([a0,a1,fnT p l]::S) 0 2 rfl
 unfold gO;rw[zXS];exact this.call
theorem zXT(hp:PrSm p)(hs:∀s∈l,StT p s)(ka:∀s∈l,StSm s)(jd:l.length<=20000)(he:zh env)(hb:env.length+(l.map St.nd).sum<=4000000000)(a0 a1:AObj)(S:ASt):zL Tryz.prog 65 [.ptr 0 2 0,.p (.sl 15 (l.map St.enc))] ([a0,a1,gO p env]::S) (resS (tgSs p env l).2) ([a0,a1,fnT p (zCV env (tgSs p env l)).1]::S):=by
 refine zL.subS (d:=0) (i:=2) (cs:=[.p (prog p),gE env]) (t:=106) rfl (zZY p env) ?_
 exact zVR hp hs ka jd he hb ([a0,a1,fnT p env]::S) 0 2 rfl
theorem zak(hp:PrSm p)(s:St)(ka:StSm s)(hG:StG p s)(xa:∀x∈s.u5,∀env,zh env->env.length<=4000000000->ExC p env x)(i1:∀x∈s.body,StT p x)(i2:∀x∈s.els,StT p x)(i3:∀a∈s.arms,∀x∈a.body,StT p x)(hop:s.op=10):StT p s:=by
 intro env he hb S d j h
 have fb:=stNd s
 obtain⟨_,bg,pb,gg,mj,nj,Re,dh,yi,oj,Vc,je,Fe,ke⟩:=ka
 obtain⟨_,lf,Ld,Ai,Bi,Ci,Di,Ei⟩:=hG
 have xe:s.u5.length<=20000:=Re.1
 have hS:=zAG h
 have h2:=h
 have jb:env.length<=4000000000:=by omega
 have gs:=fun o=>zF o h d j
 simp only[and_self,if_true]at gs;unfold TAt fnT at h2
 have xb:s.u5.length<=maxLen:=by unfold maxLen;omega
 refine zL.intro mixed call42 func42 rfl ?_;simp[ntmps42];refine zj 35 3 (by decide) [.cells (stV s) 57] (fun a:Nat × List Ty=>a.1<=s.u5.length/\tyEs p env (s.u5.take a.1)= .ok a.2/\a.2.length=a.1) (fun a=>([.ptr (d+1) j 0,.any,.any,.ptr 0 0 0,.osl 3 (a.2.map Ty.enc) 0 1]++(List.replicate 25 .any++([.p (.sl 8 (s.u5.map Ex.enc)),I s.u5.length,I a.1]++List.replicate 250 .any)))) (fun a=>[.cells (stV s) 57,.tok 35 3 a.2.length]::S) (fun a=>s.u5.length-a.1) (0,[]) ⟨Nat.zero_le _,by rw[List.take_zero,tyEs],rfl⟩ ?_ ?_ ?_ ?_
 .simp
 .simp
 .rfl
 rintro⟨q,ts⟩ ⟨hq,pa,ca⟩
 simp only at hq pa ca
 by_cases hlt:q<s.u5.length
 .have aa:(q:Int)<(s.u5.length:Int):=by omega
  have hw:=zA hlt
  obtain⟨n1,n2⟩:=zAP hlt pa
  have hx:=xa _ (List.getElem_mem hlt) env he jb
  have va:q+1<=4294967296:=by omega
  generalize hy:s.u5[q]=x at*
  have hx:=fun(L:List AObj)=>hx (L::S) (d+1) j h
  cases hr:tyE p env x with
  |error f=>
   rw[hr]at hx;rw[zB7,n2 f hr];simp only;rw[hS];simp[hlt,aa,hy,zy];refine cq (hx _) ?_
   simp[resE,resS]
  |ok t=>
   rw[hr]at hx;simp[hlt,aa,hy,zy];refine cq (hx _) ?_;simp[resE,va,ca];exact⟨q+1,ts++[t],⟨by omega,n1 t hr,by simp[ca]⟩,by omega,⟨by simp[zP],hw⟩,by simp[ca]⟩
 have aa:¬(q:Int)<(s.u5.length:Int):=by omega
 obtain rfl:q=s.u5.length:=by omega
 rw[List.take_length]at pa;clear hlt hq;rw[zB7,pa];simp only
 have Sa:zC6 p env s.op s.name s.u4 s.place ts=none:=by unfold zC6;simp[hop]
 rw[Sa];simp only[if_neg (show ¬s.op=1 by omega),if_neg (show ¬s.op=2 by omega),if_neg (show ¬s.op=3 by omega),if_neg (show ¬(s.op=6\/s.op=7) by omega),if_neg (show ¬s.op=8 by omega),if_pos hop]
 rw[hS]
 have Gd:=Ai hop
 have Sp:=(zRI hp he Re.2 pa).1
 simp[aa,hop,h2];simp only[strs];refine zBg (fun q:Nat=>q<=s.names.length) (fun q=>([.any,.any,.any,.ptr 0 0 0,.osl 3 (ts.map Ty.enc) 0 1]++(List.replicate 17 .any++([.ptr 0 2 0]++(List.replicate 188 .any++([.p (.sl 1 (s.names.map fun s=>[pS s])),I s.names.length,I q]++List.replicate 69 .any)))))) (fun q=>[.cells (stV s) 57,.tok 35 3 ts.length,gO p (zAg (s.names.take q) ts)]::S) (fun q=>s.names.length-q) 0 (Nat.zero_le _) ?_ ?_ ?_
 .simp[strs]
 .simp[gO,gE,zAg,strs]
 intro q hq
 have Rg:zh (zAg (s.names.take q) ts):=zD0 _ _ Sp
 have mh:(zAg (s.names.take q) ts).length<=q:=by unfold zAg;simp;omega
 by_cases Lc:q<s.names.length
 .have tc:(q:Int)<(s.names.length:Int):=by omega
  have Cc:q<ts.length:=by omega
  have hw:=zA Lc (by have:=gg.1;unfold maxLen;omega)
  have Ye:=zI8 ts s.names q Lc Cc
  have mC:=fun a0 a1=>zZZ (p:=p) (l:=zAg (s.names.take q) ts) (by omega) s.names[q] ts[q] a0 a1 S
  rw[<-Ye]at mC
  generalize vc:s.names[q]=n1 at*
  generalize Pf:ts[q]=f1 at*
  simp[Lc,tc,vc,Cc,Pf,zP];refine cq (mC _ _) ?_;simp;exact⟨q+1,by omega,by omega,hw,g_wk _ _⟩
 have tc:¬(q:Int)<(s.names.length:Int):=by omega
 obtain rfl:q=s.names.length:=by omega
 rw[List.take_length]at Rg mh ⊢
 have bC:=fun a0 a1=>zXT (p:=p) hp i1 Vc dh Rg (by omega) a0 a1 S
 generalize tgSs p (zAg s.names ts) s.body=r at*
 obtain⟨e2,o⟩:=r
 simp[tc];refine cq (bC _ _) ?_;cases o<;>simp[resS]
end Go.Proofs.YtgpajpilkapciaaGreatDoor
namespace Go.Proofs.YtgpajpilkapciaaGreatDoor
open Go.RowKit _root_.Go.Proofs.Tryz
theorem zNj{e:Ex}{d:Int}(h:e.whole d=true):(∀x∈e.args,∃d',x.whole d'=true)/\shL e.op<=(e.args.length:Int)/\1<=e.op/\e.op<=36:=by
 rw[zGK]at h;simp only[Bool.and_eq_true,decide_eq_true_eq]at h
 obtain⟨_,hh,ha⟩:=h
 unfold zKv shO at hh;simp only[Bool.and_eq_true,decide_eq_true_eq]at hh
 obtain⟨⟨h1,h2⟩,_,h3,_⟩:=hh
 refine⟨fun x hx=>?_,h3,h1,h2⟩
 by_cases hl:(e.args.length:Int)<=shM e.op
 .rw[zBs hl]at ha
  have:=List.all_eq_true.1 ha x hx
  simp only[Bool.and_eq_true]at this;exact⟨_,this.2⟩
 simp[zq,hl]at ha
theorem zMX{p:List It}(hp:PrSm p){env:List Fi}(he:zh env)(hl:env.length<=4000000000):∀e:Ex,ExSm e->(∃d,e.whole d=true)->ExC p env e:=by
 refine Ex.ind fun e ih hs hw=>?_
 obtain⟨_,h1,h2,h3,h4,h5⟩:=hs
 obtain⟨d,hw⟩:=hw
 obtain⟨w1,w2,w3,w4⟩:=zNj hw
 have Gi:∀x∈e.args,ExC p env x:=fun x hx=>ih x hx (h5 x hx) (w1 x hx)
 by_cases a1:e.op=1
 .exact zZS hp he hl e h4 Gi a1
 by_cases a2:e.op=2
 .exact zZT hp he hl e h4 Gi a2
 by_cases a3:e.op=3
 .exact zZU hp he hl e h4 Gi a3
 by_cases a7:7<=e.op/\e.op<=17
 .exact zaW hp he hl e h4 Gi a7.1 a7.2
 by_cases uu:e.op=18\/e.op=19\/e.op=20
 .exact zaX hp he hl e h4 Gi uu
 by_cases Ka:0<zBl e.op
 .refine zaY hp he hl e h4 Gi Ka ?_
  have hop:e.op=21\/e.op=26\/e.op=27\/e.op=29:=by
   unfold zBl at Ka
   repeat' split at Ka
   all_goals omega
  have:shL e.op=1:=by rcases hop with h|h|h|h<;>rw[h]<;>rfl
  omega
 have Lm:zBl e.op=0:=by
  unfold zBl at Ka ⊢
  repeat' split
  all_goals simp_all
 by_cases Tp:e.op=23
 .refine zUT hp he hl e h4 Gi Tp ?_
  have:shL e.op=1:=by rw[Tp];rfl
  omega
 by_cases Up:e.op=31
 .refine zUU hp he hl e h4 Gi Up ?_
  have:shL e.op=1:=by rw[Up];rfl
  omega
 have hne:e.op≠1/\e.op≠2/\e.op≠3/\¬(7<=e.op/\e.op<=17)/\e.op≠18/\e.op≠19/\e.op≠20/\e.op≠23/\e.op≠31:=⟨a1,a2,a3,a7,by omega,by omega,by omega,Tp,Up⟩
 by_cases ho:0<(zA1 e.op).1
 .refine zaZ hp he hl e h4 Gi Lm hne ho fun hb=>?_
  have hop:e.op=22\/e.op=30:=by
   unfold zA1 at ho hb
   by_cases cr:e.op=22
   .exact .inl cr
   by_cases dr:e.op=30
   .exact .inr dr
   rw[if_neg cr,if_neg dr]at ho hb;split at hb
   .cases hb
   split at hb
   .cases hb
   split at hb
   .cases hb
   rename_i x1 x2 x3
   rw[if_neg x1,if_neg x2,if_neg x3]at ho;simp at ho
  have:shL e.op=1:=by rcases hop with h|h<;>rw[h]<;>rfl
  omega
 exact zaa hp he hl e h4 Gi Lm hne ho
theorem zXU{p:List It}(hp:PrSm p)(Mc:zx p=true):∀s:St,StSm s->StG p s->StT p s:=by
 refine St.ind fun s i1 i2 i3 hs hg=>?_
 have tm:=hs
 have Cb:=hg
 obtain⟨_,bg,pb,gg,mj,nj,Re,dh,yi,oj,Vc,je,Fe,ke⟩:=tm
 obtain⟨_,lf,Ld,Ai,Bi,Ci,Di,Ei⟩:=Cb
 have xa:∀x∈s.u5,∀env,zh env->env.length<=4000000000->ExC p env x:=fun x hx env he hl=>zMX hp he hl x (Re.2 x hx) (lf x hx)
 have j1:∀x∈s.body,StT p x:=fun x hx=>i1 x hx (Vc x hx) (Ci x hx)
 have j2:∀x∈s.els,StT p x:=fun x hx=>i2 x hx (je x hx) (Di x hx)
 have j3:∀a∈s.arms,∀x∈a.body,StT p x:=fun a ha x hx=>i3 a ha x hx (ke a ha x hx) (Ei a ha x hx)
 by_cases a1:s.op=1
 .exact zac hp s hs hg xa j1 j2 j3 a1
 by_cases a2:s.op=2
 .exact zaf hp s hs hg xa j1 j2 j3 a2
 by_cases a3:s.op=3
 .exact zag hp s hs hg xa j1 j2 j3 a3
 by_cases a6:s.op=6\/s.op=7
 .exact zah hp s hs hg xa j1 j2 j3 a6
 by_cases a8:s.op=8
 .exact zai hp s hs hg xa j1 j2 j3 a8
 by_cases Uk:s.op=10
 .exact zak hp s hs hg xa j1 j2 j3 Uk
 by_cases kn:s.op=11
 .exact zaj hp s hs hg xa j1 j2 j3 kn Mc
 by_cases er:s.op=12
 .exact zad hp s hs hg xa j1 j2 j3 er
 exact zae hp s hs hg xa j1 j2 j3 ⟨a1,a2,a3,by omega,by omega,a8,Uk,kn,er⟩
end Go.Proofs.YtgpajpilkapciaaGreatDoor
