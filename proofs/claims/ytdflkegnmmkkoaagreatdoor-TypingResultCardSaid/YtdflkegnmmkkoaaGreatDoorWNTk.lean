/- A part of the proof. -/
import Derived.Test.YtdflkegnmmkkoaaGreatDoorWNTj
set_option linter.unusedVariables false
set_option linter.unusedSimpArgs false
set_option maxRecDepth 100000
set_option maxHeartbeats 32000000
namespace Go.Proofs.YtdflkegnmmkkoaaGreatDoor
open Go.RowKit _root_.Go.Proofs.Tryz
attribute [local simp] List.replicate List.range List.range.loop List.forall_mem_cons List.contains_cons List.contains_nil List.find?
attribute [local simp] zAd zw zA6 zAe zAD zAf zA7 zx zn zv zAb zA5 zAC zAc zAg zAh zA8 zA9 zCV zAO zAP cutL cutO zBJ ThrK
variable{S:ASt}{env:List Fi}{p:List It}
def resS(r:Option Flt):ARes:=match r with|none=>.ret .un|some f=>.thr (fltW f)
def StT(p:List It)(s:St):Prop:=∀(env:List Fi),zAu env->env.length+s.nd<=4000000000->∀(S:ASt) (d j:Nat),TAt p S d j env->zK Tryz.prog 36 [.ptr d j 0,stmV s] S (resS (tgS p env s).2) (set2 S d j (fnT p (tgS p env s).1))
theorem TAt.set{d j:Nat}(h:TAt p S d j env)(env1:List Fi):TAt p (set2 S d j (fnT p env1)) d j env1:=by
 unfold TAt at*;rw[zQ _ h,if_pos ⟨rfl,rfl⟩]
theorem StT.at{s:St}(hw:StT p s){d j:Nat}(h:TAt p S d j env){env1:List Fi}(he:zAu env1)(hb:env1.length+s.nd<=4000000000)(L:List AObj):zK Tryz.prog 36 [.ptr (d+1) j 0,stmV s] (L::set2 S d j (fnT p env1)) (resS (tgS p env1 s).2) (L::set2 S d j (fnT p (tgS p env1 s).1)):=by
 have:=hw env1 he hb (L::set2 S d j (fnT p env1)) (d+1) j (h.set env1)
 rw[zAy,zBT]at this;exact this
theorem zWW(hp:PrSm p){l:List St}(hs:∀s∈l,StT p s)(wa:∀s∈l,StSm s)(tf:l.length<=20000)(he:zAu env)(hb:env.length+(l.map St.nd).sum<=4000000000)(S:ASt)(d j:Nat)(h:TAt p S d j env):zK Tryz.prog 75 [.ptr d j 0,.p (.sl 15 (l.map St.enc))] S (resS (tgSs p env l).2) (set2 S d j (fnT p (zCg env (tgSs p env l)).1)):=by
 have hS:=zAN h
 have gs:=fun o=>zQ o h d j
 simp only[and_self,if_true]at gs
 have h2:=h
 unfold TAt fnT at h2
 have ec:l.length<=maxLen:=by unfold maxLen;omega
 refine zK.intro mixed call75 func75 rfl ?_;simp[ntmps75,h2];refine zBi (fun a:Nat × List Fi=>a.1<=l.length/\tgSs p env (l.take a.1)=(a.2,none)) (fun a=>[.ptr (d+1) j 0,.any,.any,.any,.p (.sl 4 (env.map Fi.enc)),.any,.any,.any,.any,.any,.any,.p (.sl 15 (l.map St.enc)),I l.length,I a.1,.any,.any,.any,.any,.any,.any,.any,.any,.any,.any,.any]) (fun a=>[]::set2 S d j (fnT p a.2)) (fun a=>l.length-a.1) (0,env) ⟨Nat.zero_le _,by rw[List.take_zero,tgSs]⟩ ?_ ?_ ?_
 .simp
 .simp[hS]
 rintro⟨q,env1⟩ ⟨hq,pa⟩
 simp only at hq pa
 obtain⟨g1,g2⟩:=zIg hp he (fun s hs=>wa s (List.mem_of_mem_take hs)) pa
 by_cases hlt:q<l.length
 .have aa:(q:Int)<(l.length:Int):=by omega
  have hw:=zA hlt
  obtain⟨n1,n2⟩:=zL2 hlt pa
  have Ed:=zKh St.nd l q hlt
  have hx:=(hs _ (List.getElem_mem hlt)).at h g1 (by omega)
  generalize hy:l[q]=x at*
  generalize hr:tgS p env1 x=r at*
  obtain⟨e2,o⟩:=r
  cases o with
  |some f=>
   rw[n2 f rfl];simp[hlt,aa,hy,zCR];refine cq (hx _) ?_
   simp[resS,zCg]
  |none=>
   simp[hlt,aa,hy,zCR];refine cq (hx _) ?_;simp[resS];exact⟨q+1,e2,⟨by omega,n1⟩,by omega,hw,rfl⟩
 have aa:¬(q:Int)<(l.length:Int):=by omega
 obtain rfl:q=l.length:=by omega
 rw[List.take_length]at pa;rw[pa]
 have mh:=gs (fnT p env1)
 unfold fnT at mh;simp[aa,fnT,mh,resS,zCg]
theorem zHQ(hp:PrSm p){l:List St}(hs:∀s∈l,StT p s)(wa:∀s∈l,StSm s)(tf:l.length<=20000){env env1:List Fi}(he:zAu env1)(hb:env1.length+(l.map St.nd).sum<=4000000000){d j:Nat}(h:TAt p S d j env)(L:List AObj):zK Tryz.prog 75 [.ptr (d+1) j 0,.p (.sl 15 (l.map St.enc))] (L::set2 S d j (fnT p env1)) (resS (tgSs p env1 l).2) (L::set2 S d j (fnT p (zCg env1 (tgSs p env1 l)).1)):=by
 have:=zWW hp hs wa tf he hb (L::set2 S d j (fnT p env1)) (d+1) j (h.set env1)
 rw[zAy,zBT]at this;exact this
theorem zNG{env1:List Fi}(hl:env1.length+1<=4294967296)(nm:BA)(t:Ty){d j:Nat}(h:TAt p S d j env)(L:List AObj):ADet Tryz.prog 73 [.ptr (d+1) j 0,Sg nm,tyV t] (L::set2 S d j (fnT p env1)) .un (L::set2 S d j (fnT p (env1++[⟨nm,t⟩]))):=by
 have:=za9 p env1 hl nm t (L::set2 S d j (fnT p env1)) (d+1) j (h.set env1)
 rw[zAy,zBT]at this;exact this
theorem zHR(hl:env.length+1<=4294967296)(nm:BA)(t:Ty){d j:Nat}(h:TAt p S d j env)(L:List AObj):ADet Tryz.prog 73 [.ptr (d+1) j 0,Sg nm,tyV t] (L::S) .un (L::set2 S d j (fnT p (env++[⟨nm,t⟩]))):=by
 have:=zNG hl nm t h L
 rw[zAN h]at this;exact this
theorem zIh(hp:PrSm p){l:List St}(hs:∀s∈l,StT p s)(wa:∀s∈l,StSm s)(tf:l.length<=20000)(he:zAu env)(hb:env.length+(l.map St.nd).sum<=4000000000){d j:Nat}(h:TAt p S d j env)(L:List AObj):zK Tryz.prog 75 [.ptr (d+1) j 0,.p (.sl 15 (l.map St.enc))] (L::S) (resS (tgSs p env l).2) (L::set2 S d j (fnT p (zCg env (tgSs p env l)).1)):=by
 have:=zHQ hp hs wa tf he hb h L
 rw[zAN h]at this;exact this
theorem zcK(hp:PrSm p)(s:St)(wa:StSm s)(hG:StG p s)(ua:∀x∈s.u3,∀env,zAu env->env.length<=4000000000->ExC p env x)(i1:∀x∈s.body,StT p x)(i2:∀x∈s.els,StT p x)(i3:∀a∈s.arms,∀x∈a.body,StT p x)(hop:s.op=1):StT p s:=by
 intro env he hb S d j h
 have Ed:=stNd s
 obtain⟨_,Ma,Ra,Lf,Ua,lf,jc,Qf,Ei,Aj,ed,te,Me,ue⟩:=wa
 obtain⟨_,Gi,eg,Hi,Ii,Ji,Ki,Li⟩:=hG
 have xe:s.u3.length<=20000:=jc.1
 have hS:=zAN h
 have h2:=h
 have Xb:env.length<=4000000000:=by omega
 have gs:=fun o=>zQ o h d j
 simp only[and_self,if_true]at gs;unfold TAt fnT at h2
 have ec:s.u3.length<=maxLen:=by unfold maxLen;omega
 refine zK.intro mixed call36 func36 rfl ?_;simp[ntmps36];refine zo 36 3 (by decide) [.cells (stV s) 49] (fun a:Nat × List Ty=>a.1<=s.u3.length/\tyEs p env (s.u3.take a.1)= .ok a.2/\a.2.length=a.1) (fun a=>([.ptr (d+1) j 0,.any,.any,.ptr 0 0 0,.osl 3 (a.2.map Ty.enc) 0 1]++(List.replicate 25 .any++([.p (.sl 8 (s.u3.map Ex.enc)),I s.u3.length,I a.1]++List.replicate 250 .any)))) (fun a=>[.cells (stV s) 49,.tok 36 3 a.2.length]::S) (fun a=>s.u3.length-a.1) (0,[]) ⟨Nat.zero_le _,by rw[List.take_zero,tyEs],rfl⟩ ?_ ?_ ?_ ?_
 .simp
 .simp
 .rfl
 rintro⟨q,ts⟩ ⟨hq,pa,ca⟩
 simp only at hq pa ca
 by_cases hlt:q<s.u3.length
 .have aa:(q:Int)<(s.u3.length:Int):=by omega
  have hw:=zA hlt
  obtain⟨n1,n2⟩:=zAS hlt pa
  have hx:=ua _ (List.getElem_mem hlt) env he Xb
  have va:q+1<=4294967296:=by omega
  generalize hy:s.u3[q]=x at*
  have hx:=fun(L:List AObj)=>hx (L::S) (d+1) j h
  cases hr:tyE p env x with
  |error f=>
   rw[hr]at hx;rw[zCF,n2 f hr];simp only;rw[hS];simp[hlt,aa,hy,zg];refine cq (hx _) ?_
   simp[resE,resS]
  |ok t=>
   rw[hr]at hx;simp[hlt,aa,hy,zg];refine cq (hx _) ?_;simp[resE,va,ca];exact⟨q+1,ts++[t],⟨by omega,n1 t hr,by simp[ca]⟩,by omega,⟨by simp[ze],hw⟩,by simp[ca]⟩
 have aa:¬(q:Int)<(s.u3.length:Int):=by omega
 obtain rfl:q=s.u3.length:=by omega
 rw[List.take_length]at pa;clear hlt hq;rw[zCF,pa];simp only
 obtain⟨v,l1,rfl⟩:∃v l1,ts=v::l1:=by
  cases ts with
  |nil=>have:=eg (by omega);simp at ca;omega
  |cons v l1=>exact⟨v,l1,rfl⟩
 try simp only[List.headD_cons]
 have vb:zDH p env s.op s.name s.u2 s.place (v::l1)=none:=by unfold zDH;simp[hop]
 rw[vb];simp only[if_pos hop]
 have mC:=fun L=>zHR (p:=p) (env:=env) (by omega) s.name v h L
 simp[aa,hop];refine zU (dB [] (by kernel_rfl) ?_)
 simp[ze];refine cq (mC _) ?_;simp[resS]
theorem zcL(hp:PrSm p)(s:St)(wa:StSm s)(hG:StG p s)(ua:∀x∈s.u3,∀env,zAu env->env.length<=4000000000->ExC p env x)(i1:∀x∈s.body,StT p x)(i2:∀x∈s.els,StT p x)(i3:∀a∈s.arms,∀x∈a.body,StT p x)(hop:s.op=12):StT p s:=by
 intro env he hb S d j h
 have Ed:=stNd s
 obtain⟨_,Ma,Ra,Lf,Ua,lf,jc,Qf,Ei,Aj,ed,te,Me,ue⟩:=wa
 obtain⟨_,Gi,eg,Hi,Ii,Ji,Ki,Li⟩:=hG
 have xe:s.u3.length<=20000:=jc.1
 have hS:=zAN h
 have h2:=h
 have Xb:env.length<=4000000000:=by omega
 have gs:=fun o=>zQ o h d j
 simp only[and_self,if_true]at gs;unfold TAt fnT at h2
 have ec:s.u3.length<=maxLen:=by unfold maxLen;omega
 refine zK.intro mixed call36 func36 rfl ?_;simp[ntmps36];refine zo 36 3 (by decide) [.cells (stV s) 49] (fun a:Nat × List Ty=>a.1<=s.u3.length/\tyEs p env (s.u3.take a.1)= .ok a.2/\a.2.length=a.1) (fun a=>([.ptr (d+1) j 0,.any,.any,.ptr 0 0 0,.osl 3 (a.2.map Ty.enc) 0 1]++(List.replicate 25 .any++([.p (.sl 8 (s.u3.map Ex.enc)),I s.u3.length,I a.1]++List.replicate 250 .any)))) (fun a=>[.cells (stV s) 49,.tok 36 3 a.2.length]::S) (fun a=>s.u3.length-a.1) (0,[]) ⟨Nat.zero_le _,by rw[List.take_zero,tyEs],rfl⟩ ?_ ?_ ?_ ?_
 .simp
 .simp
 .rfl
 rintro⟨q,ts⟩ ⟨hq,pa,ca⟩
 simp only at hq pa ca
 by_cases hlt:q<s.u3.length
 .have aa:(q:Int)<(s.u3.length:Int):=by omega
  have hw:=zA hlt
  obtain⟨n1,n2⟩:=zAS hlt pa
  have hx:=ua _ (List.getElem_mem hlt) env he Xb
  have va:q+1<=4294967296:=by omega
  generalize hy:s.u3[q]=x at*
  have hx:=fun(L:List AObj)=>hx (L::S) (d+1) j h
  cases hr:tyE p env x with
  |error f=>
   rw[hr]at hx;rw[zCF,n2 f hr];simp only;rw[hS];simp[hlt,aa,hy,zg];refine cq (hx _) ?_
   simp[resE,resS]
  |ok t=>
   rw[hr]at hx;simp[hlt,aa,hy,zg];refine cq (hx _) ?_;simp[resE,va,ca];exact⟨q+1,ts++[t],⟨by omega,n1 t hr,by simp[ca]⟩,by omega,⟨by simp[ze],hw⟩,by simp[ca]⟩
 have aa:¬(q:Int)<(s.u3.length:Int):=by omega
 obtain rfl:q=s.u3.length:=by omega
 rw[List.take_length]at pa;clear hlt hq;rw[zCF,pa];simp only
 have vb:zDH p env s.op s.name s.u2 s.place ts=none:=by unfold zDH;simp[hop]
 rw[vb];simp only[if_neg (show ¬s.op=1 by omega),if_neg (show ¬s.op=2 by omega),if_neg (show ¬s.op=3 by omega),if_neg (show ¬(s.op=6\/s.op=7) by omega),if_neg (show ¬s.op=8 by omega),if_neg (show ¬s.op=10 by omega),if_neg (show ¬s.op=11 by omega),if_pos hop]
 have mC:=fun L=>zHR (p:=p) (env:=env) (by omega) s.name (inTy 11 s.type) h L
 have mD:=fun L=>zNG (p:=p) (env1:=env++[⟨s.name,inTy 11 s.type⟩]) (by simp;omega) s.u2 (inTy 12 s.type) h L
 simp only[List.append_assoc,List.cons_append,List.nil_append]at mD;simp[aa,hop];refine zU (dB [(2,5)] (by kernel_rfl) ?_)
 simp[ze];refine cq (zFi _ s.type _) ?_;simp;refine cq (mC _) ?_;simp;refine zU (dB [(2,5)] (by kernel_rfl) ?_)
 simp[ze];refine cq (zFi _ s.type _) ?_;simp;refine cq (mD _) ?_;simp[resS]
theorem zcM(hp:PrSm p)(s:St)(wa:StSm s)(hG:StG p s)(ua:∀x∈s.u3,∀env,zAu env->env.length<=4000000000->ExC p env x)(i1:∀x∈s.body,StT p x)(i2:∀x∈s.els,StT p x)(i3:∀a∈s.arms,∀x∈a.body,StT p x)(hne:s.op≠1/\s.op≠2/\s.op≠3/\s.op≠6/\s.op≠7/\s.op≠8/\s.op≠10/\s.op≠11/\s.op≠12):StT p s:=by
 intro env he hb S d j h
 have Ed:=stNd s
 obtain⟨_,Ma,Ra,Lf,Ua,lf,jc,Qf,Ei,Aj,ed,te,Me,ue⟩:=wa
 obtain⟨_,Gi,eg,Hi,Ii,Ji,Ki,Li⟩:=hG
 have xe:s.u3.length<=20000:=jc.1
 have hS:=zAN h
 have h2:=h
 have Xb:env.length<=4000000000:=by omega
 have gs:=fun o=>zQ o h d j
 simp only[and_self,if_true]at gs;unfold TAt fnT at h2
 have f1:(s.op==1)=false:=by simp;omega
 have f2:(s.op==2)=false:=by simp;omega
 have f3:(s.op==3)=false:=by simp;omega
 have f6:(s.op==6)=false:=by simp;omega
 have f7:(s.op==7)=false:=by simp;omega
 have f8:(s.op==8)=false:=by simp;omega
 have kq:(s.op==10)=false:=by simp;omega
 have gq:(s.op==11)=false:=by simp;omega
 have iq:(s.op==12)=false:=by simp;omega
 have ec:s.u3.length<=maxLen:=by unfold maxLen;omega
 refine zK.intro mixed call36 func36 rfl ?_;simp[ntmps36];refine zo 36 3 (by decide) [.cells (stV s) 49] (fun a:Nat × List Ty=>a.1<=s.u3.length/\tyEs p env (s.u3.take a.1)= .ok a.2/\a.2.length=a.1) (fun a=>([.ptr (d+1) j 0,.any,.any,.ptr 0 0 0,.osl 3 (a.2.map Ty.enc) 0 1]++(List.replicate 25 .any++([.p (.sl 8 (s.u3.map Ex.enc)),I s.u3.length,I a.1]++List.replicate 250 .any)))) (fun a=>[.cells (stV s) 49,.tok 36 3 a.2.length]::S) (fun a=>s.u3.length-a.1) (0,[]) ⟨Nat.zero_le _,by rw[List.take_zero,tyEs],rfl⟩ ?_ ?_ ?_ ?_
 .simp
 .simp
 .rfl
 rintro⟨q,ts⟩ ⟨hq,pa,ca⟩
 simp only at hq pa ca
 by_cases hlt:q<s.u3.length
 .have aa:(q:Int)<(s.u3.length:Int):=by omega
  have hw:=zA hlt
  obtain⟨n1,n2⟩:=zAS hlt pa
  have hx:=ua _ (List.getElem_mem hlt) env he Xb
  have va:q+1<=4294967296:=by omega
  generalize hy:s.u3[q]=x at*
  have hx:=fun(L:List AObj)=>hx (L::S) (d+1) j h
  cases hr:tyE p env x with
  |error f=>
   rw[hr]at hx;rw[zCF,n2 f hr];simp only;rw[hS];simp[hlt,aa,hy,zg];refine cq (hx _) ?_
   simp[resE,resS]
  |ok t=>
   rw[hr]at hx;simp[hlt,aa,hy,zg];refine cq (hx _) ?_;simp[resE,va,ca];exact⟨q+1,ts++[t],⟨by omega,n1 t hr,by simp[ca]⟩,by omega,⟨by simp[ze],hw⟩,by simp[ca]⟩
 have aa:¬(q:Int)<(s.u3.length:Int):=by omega
 obtain rfl:q=s.u3.length:=by omega
 rw[List.take_length]at pa;clear hlt hq;rw[zCF,pa];simp only
 have vb:zDH p env s.op s.name s.u2 s.place ts=none:=by unfold zDH;simp[hne]
 rw[vb];simp only[if_neg hne.1,if_neg hne.2.1,if_neg hne.2.2.1,if_neg (show ¬(s.op=6\/s.op=7) by omega),if_neg hne.2.2.2.2.2.1,if_neg hne.2.2.2.2.2.2.1,if_neg hne.2.2.2.2.2.2.2.1,if_neg hne.2.2.2.2.2.2.2.2]
 have bC:=fun L=>zIh hp i1 ed Qf he (by omega) h L
 generalize tgSs p env s.body=r at*
 obtain⟨e1,o⟩:=r
 simp[aa,f1,f2,f3,f6,f7,f8,kq,gq,iq];refine cq (bC _) ?_;cases o<;>simp[resS,zCg]
theorem zQD(fs:List Fi)(nms:List BA)(q:Nat)(h1:q<nms.length)(h2:q<fs.length):zCy fs (nms.take (q+1))=zCy fs (nms.take q)++[⟨nms[q],fs[q].type⟩]:=by
 unfold zCy
 apply List.ext_getElem
 .simp;omega
 intro i a b;simp at a
 by_cases hi:i=q
 .subst hi
  rw[List.getElem_append_right (by simp;omega)]
  simp
 rw[List.getElem_append_left (by simp;omega)]
 simp
theorem zQE(l:List Ty)(nms:List BA)(q:Nat)(h1:q<nms.length)(h2:q<l.length):zCz (nms.take (q+1)) l=zCz (nms.take q) l++[⟨nms[q],l[q]⟩]:=by
 unfold zCz
 apply List.ext_getElem
 .simp;omega
 intro i a b;simp at a
 by_cases hi:i=q
 .subst hi
  rw[List.getElem_append_right (by simp;omega)]
  simp
 rw[List.getElem_append_left (by simp;omega)]
 simp
theorem zcN(hp:PrSm p)(s:St)(wa:StSm s)(hG:StG p s)(ua:∀x∈s.u3,∀env,zAu env->env.length<=4000000000->ExC p env x)(i1:∀x∈s.body,StT p x)(i2:∀x∈s.els,StT p x)(i3:∀a∈s.arms,∀x∈a.body,StT p x)(hop:s.op=2):StT p s:=by
 intro env he hb S d j h
 have Ed:=stNd s
 obtain⟨_,Ma,Ra,Lf,Ua,lf,jc,Qf,Ei,Aj,ed,te,Me,ue⟩:=wa
 obtain⟨_,Gi,eg,Hi,Ii,Ji,Ki,Li⟩:=hG
 have xe:s.u3.length<=20000:=jc.1
 have hS:=zAN h
 have h2:=h
 have Xb:env.length<=4000000000:=by omega
 have gs:=fun o=>zQ o h d j
 simp only[and_self,if_true]at gs;unfold TAt fnT at h2
 have tC:∀S,ADet Tryz.prog 74 [.agg [.p (prog p)],Sg s.name] S (.tup [.p (.sl 4 (((zBB p s.name).getD []).map Fi.enc)),B (zBB p s.name).isSome]) S:=fun S=>by
  have:=zGY p hp s.name S
  cases hf:zBB p s.name with
  |none=>rw[hf]at this;exact this.lessTup (.cons (.p (.nil 4)) (.refl _))
  |some l=>rw[hf]at this;exact this
 have ec:s.u3.length<=maxLen:=by unfold maxLen;omega
 refine zK.intro mixed call36 func36 rfl ?_;simp[ntmps36];refine zo 36 3 (by decide) [.cells (stV s) 49] (fun a:Nat × List Ty=>a.1<=s.u3.length/\tyEs p env (s.u3.take a.1)= .ok a.2/\a.2.length=a.1) (fun a=>([.ptr (d+1) j 0,.any,.any,.ptr 0 0 0,.osl 3 (a.2.map Ty.enc) 0 1]++(List.replicate 25 .any++([.p (.sl 8 (s.u3.map Ex.enc)),I s.u3.length,I a.1]++List.replicate 250 .any)))) (fun a=>[.cells (stV s) 49,.tok 36 3 a.2.length]::S) (fun a=>s.u3.length-a.1) (0,[]) ⟨Nat.zero_le _,by rw[List.take_zero,tyEs],rfl⟩ ?_ ?_ ?_ ?_
 .simp
 .simp
 .rfl
 rintro⟨q,ts⟩ ⟨hq,pa,ca⟩
 simp only at hq pa ca
 by_cases hlt:q<s.u3.length
 .have aa:(q:Int)<(s.u3.length:Int):=by omega
  have hw:=zA hlt
  obtain⟨n1,n2⟩:=zAS hlt pa
  have hx:=ua _ (List.getElem_mem hlt) env he Xb
  have va:q+1<=4294967296:=by omega
  generalize hy:s.u3[q]=x at*
  have hx:=fun(L:List AObj)=>hx (L::S) (d+1) j h
  cases hr:tyE p env x with
  |error f=>
   rw[hr]at hx;rw[zCF,n2 f hr];simp only;rw[hS];simp[hlt,aa,hy,zg];refine cq (hx _) ?_
   simp[resE,resS]
  |ok t=>
   rw[hr]at hx;simp[hlt,aa,hy,zg];refine cq (hx _) ?_;simp[resE,va,ca];exact⟨q+1,ts++[t],⟨by omega,n1 t hr,by simp[ca]⟩,by omega,⟨by simp[ze],hw⟩,by simp[ca]⟩
 have aa:¬(q:Int)<(s.u3.length:Int):=by omega
 obtain rfl:q=s.u3.length:=by omega
 rw[List.take_length]at pa;clear hlt hq;rw[zCF,pa];simp only
 obtain⟨v,l1,rfl⟩:∃v l1,ts=v::l1:=by
  cases ts with
  |nil=>have:=eg (by omega);simp at ca;omega
  |cons v l1=>exact⟨v,l1,rfl⟩
 try simp only[List.headD_cons]
 have vb:zDH p env s.op s.name s.u2 s.place (v::l1)=if eqT v (.mk 4 s.name [])=true then none else some 100:=by unfold zDH;rw[if_pos hop];rfl
 rw[vb]
 have sC:∀S,ADet Tryz.prog 16 [tyV v,.agg [U 4,Sg s.name,.p (.sl 3 [])]] S (B (eqT v (.mk 4 s.name []))) S:=fun S=>zCw v (.mk 4 s.name []) S
 try simp only[Ty.kind,Ty.name,Ty.args,List.map_nil]at sC
 have If:LeAs [U 4,Sg s.name,nilS] [U 4,Sg s.name,.p (.sl 3 [])]:=.cons (.refl _) (.cons (.refl _) (.cons (.p (.nil 3)) (.refl _)))
 have sC:=fun S=>ADet.sub (.cons (.refl _) (.cons (.agg If) (.refl _))) (sC S)
 cases Wb:eqT v (.mk 4 s.name [])with
 |false=>
  rw[Wb]at sC;simp only[Bool.false_eq_true,if_false];rw[hS];simp[aa,hop];refine z6 9 [9] [(8,6)] (by kernel_rfl) (by kernel_rfl) (by kernel_rfl) ?_
  simp[ze];refine cq (sC _) ?_;simp
  exact⟨_,_,zf _ _ _ _,by simp[resS]⟩
 |true=>
  rw[Wb]at sC;simp only[if_true];simp only[if_neg (show ¬s.op=1 by omega),if_pos hop]
  have oa:=Ii hop
  generalize Tb:(zBB p s.name).getD []=fs at*
  simp[aa,hop];refine zU (dB [(8,6)] (by kernel_rfl) ?_)
  simp[ze];refine cq (sC _) ?_;simp;refine cq ((zf _ _ _ _).det) ?_;simp;refine zU (dB [] (by kernel_rfl) ?_)
  simp[h2];refine cq (tC _) ?_;simp[strs];refine zBi (fun q:Nat=>q<=s.names.length) (fun q=>([.ptr (d+1) j 0,.any,.any,.ptr 0 0 0,.any,.any,.any,.p (.sl 4 (fs.map Fi.enc))]++(List.replicate 73 .any++([.p (.sl 1 (s.names.map fun s=>[pS s])),I s.names.length,I q]++List.replicate 199 .any)))) (fun q=>[.cells (stV s) 49,.tok 36 3 (l1.length+1)]::set2 S d j (fnT p (env++zCy fs (s.names.take q)))) (fun q=>s.names.length-q) 0 (Nat.zero_le _) ?_ ?_ ?_
  .simp[strs]
  .simp[zCy,hS,strs]
  intro q hq
  by_cases Ld:q<s.names.length
  .have Bc:(q:Int)<(s.names.length:Int):=by omega
   have Ym:q<fs.length:=by omega
   have hw:=zA Ld (by have:=Lf.1;unfold maxLen;omega)
   have He:=zQD fs s.names q Ld Ym
   have Yj:(zCy fs (s.names.take q)).length<=q:=by unfold zCy;simp;omega
   have mC:=fun L=>zNG (p:=p) (env1:=env++zCy fs (s.names.take q)) (by simp;omega) s.names[q] fs[q].type h L
   rw[List.append_assoc,<-He]at mC
   generalize kd:s.names[q]=n1 at*
   generalize dg:fs[q]=f1 at*
   simp[Ld,Bc,kd,Ym,dg,Fi.enc,ze];refine cq ((mC _).call) ?_;simp;exact⟨q+1,by omega,by omega,hw,rfl⟩
  have Bc:¬(q:Int)<(s.names.length:Int):=by omega
  obtain rfl:q=s.names.length:=by omega
  simp[Bc,resS]
theorem zcO(hp:PrSm p)(s:St)(wa:StSm s)(hG:StG p s)(ua:∀x∈s.u3,∀env,zAu env->env.length<=4000000000->ExC p env x)(i1:∀x∈s.body,StT p x)(i2:∀x∈s.els,StT p x)(i3:∀a∈s.arms,∀x∈a.body,StT p x)(hop:s.op=3):StT p s:=by
 intro env he hb S d j h
 have Ed:=stNd s
 obtain⟨_,Ma,Ra,Lf,Ua,lf,jc,Qf,Ei,Aj,ed,te,Me,ue⟩:=wa
 obtain⟨_,Gi,eg,Hi,Ii,Ji,Ki,Li⟩:=hG
 have xe:s.u3.length<=20000:=jc.1
 have hS:=zAN h
 have h2:=h
 have Xb:env.length<=4000000000:=by omega
 have gs:=fun o=>zQ o h d j
 simp only[and_self,if_true]at gs;unfold TAt fnT at h2
 have pC:=fun L=>zGH p hp env he Xb s.place (L::S) (d+1) j h
 have oC:=fun t S=>zOB t S
 have sC:=fun t u S=>zCw t u S
 have ec:s.u3.length<=maxLen:=by unfold maxLen;omega
 refine zK.intro mixed call36 func36 rfl ?_;simp[ntmps36];refine zo 36 3 (by decide) [.cells (stV s) 49] (fun a:Nat × List Ty=>a.1<=s.u3.length/\tyEs p env (s.u3.take a.1)= .ok a.2/\a.2.length=a.1) (fun a=>([.ptr (d+1) j 0,.any,.any,.ptr 0 0 0,.osl 3 (a.2.map Ty.enc) 0 1]++(List.replicate 25 .any++([.p (.sl 8 (s.u3.map Ex.enc)),I s.u3.length,I a.1]++List.replicate 250 .any)))) (fun a=>[.cells (stV s) 49,.tok 36 3 a.2.length]::S) (fun a=>s.u3.length-a.1) (0,[]) ⟨Nat.zero_le _,by rw[List.take_zero,tyEs],rfl⟩ ?_ ?_ ?_ ?_
 .simp
 .simp
 .rfl
 rintro⟨q,ts⟩ ⟨hq,pa,ca⟩
 simp only at hq pa ca
 by_cases hlt:q<s.u3.length
 .have aa:(q:Int)<(s.u3.length:Int):=by omega
  have hw:=zA hlt
  obtain⟨n1,n2⟩:=zAS hlt pa
  have hx:=ua _ (List.getElem_mem hlt) env he Xb
  have va:q+1<=4294967296:=by omega
  generalize hy:s.u3[q]=x at*
  have hx:=fun(L:List AObj)=>hx (L::S) (d+1) j h
  cases hr:tyE p env x with
  |error f=>
   rw[hr]at hx;rw[zCF,n2 f hr];simp only;rw[hS];simp[hlt,aa,hy,zg];refine cq (hx _) ?_
   simp[resE,resS]
  |ok t=>
   rw[hr]at hx;simp[hlt,aa,hy,zg];refine cq (hx _) ?_;simp[resE,va,ca];exact⟨q+1,ts++[t],⟨by omega,n1 t hr,by simp[ca]⟩,by omega,⟨by simp[ze],hw⟩,by simp[ca]⟩
 have aa:¬(q:Int)<(s.u3.length:Int):=by omega
 obtain rfl:q=s.u3.length:=by omega
 rw[List.take_length]at pa;clear hlt hq;rw[zCF,pa];simp only
 obtain⟨v,l1,rfl⟩:∃v l1,ts=v::l1:=by
  cases ts with
  |nil=>have:=eg (by omega);simp at ca;omega
  |cons v l1=>exact⟨v,l1,rfl⟩
 try simp only[List.headD_cons]
 have vb:zDH p env s.op s.name s.u2 s.place (v::l1)=match zBf p env s.place with|none=>some 100|some (t,w)=>if t.owned=false then some 101 else if w=true/\eqT t v=true then none else some 100:=by unfold zDH;rw[if_neg (by omega),if_pos hop];rfl
 rw[vb]
 cases Na:zBf p env s.place with
 |none=>
  rw[Na]at pC;simp only;rw[hS];simp[aa,hop];refine cq ((pC _).call) ?_;simp[zBm];refine cq (zf _ _ _ _) ?_
  simp[resS]
 |some r=>
  obtain⟨t,wr⟩:=r
  rw[Na]at pC;simp only
  cases ho:t.owned with
  |false=>
   simp only[if_true];rw[hS];simp[aa,hop];refine cq ((pC _).call) ?_;simp[zBm];refine cq (zf _ _ _ _) ?_;simp;refine z6 4 [4] [(3,1)] (by kernel_rfl) (by kernel_rfl) (by kernel_rfl) ?_
   simp;refine cq (oC _ _) ?_;rw[ho];simp
   exact⟨_,_,zf _ _ _ _,by simp[resS]⟩
  |true=>
   simp only[Bool.true_eq_false,if_false]
   cases wr with
   |false=>
    simp only[Bool.false_eq_true,false_and,if_false];rw[hS];simp[aa,hop];refine cq ((pC _).call) ?_;simp[zBm];refine cq (zf _ _ _ _) ?_;simp;refine zU (dB [(3,1)] (by kernel_rfl) ?_)
    simp;refine cq (oC _ _) ?_;rw[ho];simp;refine cq ((zf _ _ _ _).det) ?_;simp;refine z6 10 [10] [(9,6)] (by kernel_rfl) (by kernel_rfl) (by kernel_rfl) ?_
    simp
    exact⟨_,_,zf _ _ _ _,by simp[resS]⟩
   |true=>
    simp only[true_and]
    cases Wb:eqT t v with
    |false=>
     simp only[Bool.false_eq_true,if_false];rw[hS];simp[aa,hop];refine cq ((pC _).call) ?_;simp[zBm];refine cq (zf _ _ _ _) ?_;simp;refine zU (dB [(3,1)] (by kernel_rfl) ?_)
     simp;refine cq (oC _ _) ?_;rw[ho];simp;refine cq ((zf _ _ _ _).det) ?_;simp;refine z6 10 [10] [(9,6)] (by kernel_rfl) (by kernel_rfl) (by kernel_rfl) ?_
     simp[ze];refine cq (sC _ _ _) ?_;rw[Wb];simp
     exact⟨_,_,zf _ _ _ _,by simp[resS]⟩
    |true=>
     simp only[if_true];simp only[if_neg (show ¬s.op=1 by omega),if_neg (show ¬s.op=2 by omega),if_pos hop]
     rw[hS];simp[aa,hop];refine cq ((pC _).call) ?_;simp[zBm];refine cq (zf _ _ _ _) ?_;simp;refine zU (dB [(3,1)] (by kernel_rfl) ?_)
     simp;refine cq (oC _ _) ?_;rw[ho];simp;refine cq ((zf _ _ _ _).det) ?_;simp;refine zU (dB [(9,6)] (by kernel_rfl) ?_)
     simp[ze];refine cq (sC _ _ _) ?_;rw[Wb];simp;refine cq ((zf _ _ _ _).det) ?_;simp[resS]
theorem zcP(hp:PrSm p)(s:St)(wa:StSm s)(hG:StG p s)(ua:∀x∈s.u3,∀env,zAu env->env.length<=4000000000->ExC p env x)(i1:∀x∈s.body,StT p x)(i2:∀x∈s.els,StT p x)(i3:∀a∈s.arms,∀x∈a.body,StT p x)(hop:s.op=6\/s.op=7):StT p s:=by
 intro env he hb S d j h
 have Ed:=stNd s
 obtain⟨_,Ma,Ra,Lf,Ua,lf,jc,Qf,Ei,Aj,ed,te,Me,ue⟩:=wa
 obtain⟨_,Gi,eg,Hi,Ii,Ji,Ki,Li⟩:=hG
 have xe:s.u3.length<=20000:=jc.1
 have hS:=zAN h
 have h2:=h
 have Xb:env.length<=4000000000:=by omega
 have gs:=fun o=>zQ o h d j
 simp only[and_self,if_true]at gs;unfold TAt fnT at h2
 have ec:s.u3.length<=maxLen:=by unfold maxLen;omega
 refine zK.intro mixed call36 func36 rfl ?_;simp[ntmps36];refine zo 36 3 (by decide) [.cells (stV s) 49] (fun a:Nat × List Ty=>a.1<=s.u3.length/\tyEs p env (s.u3.take a.1)= .ok a.2/\a.2.length=a.1) (fun a=>([.ptr (d+1) j 0,.any,.any,.ptr 0 0 0,.osl 3 (a.2.map Ty.enc) 0 1]++(List.replicate 25 .any++([.p (.sl 8 (s.u3.map Ex.enc)),I s.u3.length,I a.1]++List.replicate 250 .any)))) (fun a=>[.cells (stV s) 49,.tok 36 3 a.2.length]::S) (fun a=>s.u3.length-a.1) (0,[]) ⟨Nat.zero_le _,by rw[List.take_zero,tyEs],rfl⟩ ?_ ?_ ?_ ?_
 .simp
 .simp
 .rfl
 rintro⟨q,ts⟩ ⟨hq,pa,ca⟩
 simp only at hq pa ca
 by_cases hlt:q<s.u3.length
 .have aa:(q:Int)<(s.u3.length:Int):=by omega
  have hw:=zA hlt
  obtain⟨n1,n2⟩:=zAS hlt pa
  have hx:=ua _ (List.getElem_mem hlt) env he Xb
  have va:q+1<=4294967296:=by omega
  generalize hy:s.u3[q]=x at*
  have hx:=fun(L:List AObj)=>hx (L::S) (d+1) j h
  cases hr:tyE p env x with
  |error f=>
   rw[hr]at hx;rw[zCF,n2 f hr];simp only;rw[hS];simp[hlt,aa,hy,zg];refine cq (hx _) ?_
   simp[resE,resS]
  |ok t=>
   rw[hr]at hx;simp[hlt,aa,hy,zg];refine cq (hx _) ?_;simp[resE,va,ca];exact⟨q+1,ts++[t],⟨by omega,n1 t hr,by simp[ca]⟩,by omega,⟨by simp[ze],hw⟩,by simp[ca]⟩
 have aa:¬(q:Int)<(s.u3.length:Int):=by omega
 obtain rfl:q=s.u3.length:=by omega
 rw[List.take_length]at pa;clear hlt hq;rw[zCF,pa];simp only
 obtain⟨v,l1,rfl⟩:∃v l1,ts=v::l1:=by
  cases ts with
  |nil=>have:=eg (by omega);simp at ca;omega
  |cons v l1=>exact⟨v,l1,rfl⟩
 try simp only[List.headD_cons]
 have vb:zDH p env s.op s.name s.u2 s.place (v::l1)=if v.kind=2 then none else some 100:=by unfold zDH;rw[if_neg (by omega),if_neg (by omega),if_pos hop];rfl
 rw[vb]
 by_cases hk:v.kind=2
 .rw[if_pos hk]
  simp only[if_neg (show ¬s.op=1 by omega),if_neg (show ¬s.op=2 by omega),if_neg (show ¬s.op=3 by omega),if_pos hop]
  have bC:=fun L=>zIh hp i1 ed Qf he (by omega) h L
  have cC:=fun L=>zHQ hp i2 te Ei (env:=env) (env1:=env) he (by omega) h L
  generalize tgSs p env s.body=r at*
  generalize tgSs p env s.els=r2 at*
  obtain⟨e1,o⟩:=r
  obtain⟨e2,o2⟩:=r2
  rcases hop with hop|hop
  .simp[aa,hop]
   refine zU (dB [] (by kernel_rfl) ?_)
   simp[ze,hk];refine cq ((zf _ _ _ _).det) ?_;simp;refine cq (bC _) ?_
   cases o with
   |some f=>simp[resS,zCg]
   |none=>
    simp[resS,zCg];refine cq (cC _) ?_;cases o2<;>simp[resS,zCg]
  simp[aa,hop]
  refine zU (dB [] (by kernel_rfl) ?_)
  simp[ze,hk];refine cq ((zf _ _ _ _).det) ?_;simp;refine cq (bC _) ?_
  cases o with
  |some f=>simp[resS,zCg]
  |none=>
   simp[resS,zCg];refine cq (cC _) ?_;cases o2<;>simp[resS,zCg]
 rw[if_neg hk]
 have Qb:(v.kind==2)=false:=by simpa using hk
 simp only;rw[hS]
 rcases hop with hop|hop
 .simp[aa,hop]
  refine z6 7 [7] [] (by kernel_rfl) (by kernel_rfl) (by kernel_rfl) ?_
  simp[ze,Qb];exact⟨_,_,zf _ _ _ _,by simp[resS]⟩
 simp[aa,hop]
 refine z6 7 [7] [] (by kernel_rfl) (by kernel_rfl) (by kernel_rfl) ?_
 simp[ze,Qb];exact⟨_,_,zf _ _ _ _,by simp[resS]⟩
end Go.Proofs.YtdflkegnmmkkoaaGreatDoor
