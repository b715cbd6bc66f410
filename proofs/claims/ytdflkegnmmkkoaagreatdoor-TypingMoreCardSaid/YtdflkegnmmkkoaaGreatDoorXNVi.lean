/- A part of the proof. -/
import Derived.Test.YtdflkegnmmkkoaaGreatDoorXNTj
import Derived.Test.YtdflkegnmmkkoaaGreatDoorXNVl
set_option linter.unusedVariables false
set_option linter.unusedSimpArgs false
set_option maxRecDepth 100000
set_option maxHeartbeats 32000000
namespace Go.Proofs.YtdflkegnmmkkoaaGreatDoor
open Go.RowKit _root_.Go.Proofs.Tryz
attribute [local simp] List.replicate List.range List.range.loop List.forall_mem_cons List.contains_cons List.contains_nil List.find?
attribute [local simp] zAg zy zBB zAh zAI zAi zBC z5 zo zx zAe zBA zAH zAf zAj zAk zBD zBE zCe zAR zAS cutL cutO zBM ThrK
variable{S:ASt}{env:List Fi}{l:List St}{p:List It}
def resS(r:Option Flt):ARes:=match r with|none=>.ret .un|some f=>.thr (fltW f)
def StT(p:List It)(s:St):Prop:=∀(env:List Fi),zA3 env->env.length+s.nd<=4000000000->∀(S:ASt) (d j:Nat),TAt p S d j env->zM Tryz.prog 36 [.ptr d j 0,stmV s] S (resS (tgS p env s).2) (set2 S d j (fnT p (tgS p env s).1))
theorem TAt.set{d j:Nat}(h:TAt p S d j env)(env1:List Fi):TAt p (set2 S d j (fnT p env1)) d j env1:=by
 unfold TAt at*;rw[zQ _ h,if_pos ⟨rfl,rfl⟩]
theorem StT.at{s:St}(hw:StT p s){d j:Nat}(h:TAt p S d j env){env1:List Fi}(he:zA3 env1)(hb:env1.length+s.nd<=4000000000)(L:List AObj):zM Tryz.prog 36 [.ptr (d+1) j 0,stmV s] (L::set2 S d j (fnT p env1)) (resS (tgS p env1 s).2) (L::set2 S d j (fnT p (tgS p env1 s).1)):=by
 have:=hw env1 he hb (L::set2 S d j (fnT p env1)) (d+1) j (h.set env1)
 rw[zBH,zBW]at this;exact this
theorem zXF(hp:PrSm p)(hs:∀s∈l,StT p s)(xa:∀s∈l,StSm s)(mf:l.length<=20000)(he:zA3 env)(hb:env.length+(l.map St.nd).sum<=4000000000)(S:ASt)(d j:Nat)(h:TAt p S d j env):zM Tryz.prog 75 [.ptr d j 0,.p (.sl 15 (l.map St.enc))] S (resS (tgSs p env l).2) (set2 S d j (fnT p (zBb env (tgSs p env l)).1)):=by
 have hS:=zAQ h
 have gs:=fun o=>zQ o h d j
 simp only[and_self,if_true]at gs
 have h2:=h
 unfold TAt fnT at h2
 have cc:l.length<=maxLen:=by unfold maxLen;omega
 refine zM.intro mixed call75 func75 rfl ?_;simp[ntmps75,h2];refine zBq (fun a:Nat × List Fi=>a.1<=l.length/\tgSs p env (l.take a.1)=(a.2,none)) (fun a=>[.ptr (d+1) j 0,.any,.any,.any,.p (.sl 4 (env.map Fi.enc)),.any,.any,.any,.any,.any,.any,.p (.sl 15 (l.map St.enc)),I l.length,I a.1,.any,.any,.any,.any,.any,.any,.any,.any,.any,.any,.any]) (fun a=>[]::set2 S d j (fnT p a.2)) (fun a=>l.length-a.1) (0,env) ⟨Nat.zero_le _,by rw[List.take_zero,tgSs]⟩ ?_ ?_ ?_
 .simp
 .simp[hS]
 rintro⟨q,env1⟩ ⟨hq,pa⟩
 simp only at hq pa
 obtain⟨g1,g2⟩:=zIr hp he (fun s hs=>xa s (List.mem_of_mem_take hs)) pa
 by_cases hlt:q<l.length
 .have aa:(q:Int)<(l.length:Int):=by omega
  have hw:=zB hlt
  obtain⟨n1,n2⟩:=zL0 hlt pa
  have Cd:=zKp St.nd l q hlt
  have hx:=(hs _ (List.getElem_mem hlt)).at h g1 (by omega)
  generalize hy:l[q]=x at*
  generalize hr:tgS p env1 x=r at*
  obtain⟨e2,o⟩:=r
  cases o with
  |some f=>
   rw[n2 f rfl];simp[hlt,aa,hy,zCd];refine cq (hx _) ?_
   simp[resS,zBb]
  |none=>
   simp[hlt,aa,hy,zCd];refine cq (hx _) ?_;simp[resS];exact⟨q+1,e2,⟨by omega,n1⟩,by omega,hw,rfl⟩
 have aa:¬(q:Int)<(l.length:Int):=by omega
 obtain rfl:q=l.length:=by omega
 rw[List.take_length]at pa;rw[pa]
 have eh:=gs (fnT p env1)
 unfold fnT at eh;simp[aa,fnT,eh,resS,zBb]
theorem zHm(hp:PrSm p)(hs:∀s∈l,StT p s)(xa:∀s∈l,StSm s)(mf:l.length<=20000){env env1:List Fi}(he:zA3 env1)(hb:env1.length+(l.map St.nd).sum<=4000000000){d j:Nat}(h:TAt p S d j env)(L:List AObj):zM Tryz.prog 75 [.ptr (d+1) j 0,.p (.sl 15 (l.map St.enc))] (L::set2 S d j (fnT p env1)) (resS (tgSs p env1 l).2) (L::set2 S d j (fnT p (zBb env1 (tgSs p env1 l)).1)):=by
 have:=zXF hp hs xa mf he hb (L::set2 S d j (fnT p env1)) (d+1) j (h.set env1)
 rw[zBH,zBW]at this;exact this
theorem zNQ{env1:List Fi}(hl:env1.length+1<=4294967296)(nm:BA)(t:Ty){d j:Nat}(h:TAt p S d j env)(L:List AObj):ADet Tryz.prog 73 [.ptr (d+1) j 0,Sg nm,tyV t] (L::set2 S d j (fnT p env1)) .un (L::set2 S d j (fnT p (env1++[⟨nm,t⟩]))):=by
 have:=zbQ p env1 hl nm t (L::set2 S d j (fnT p env1)) (d+1) j (h.set env1)
 rw[zBH,zBW]at this;exact this
theorem zHn(hl:env.length+1<=4294967296)(nm:BA)(t:Ty){d j:Nat}(h:TAt p S d j env)(L:List AObj):ADet Tryz.prog 73 [.ptr (d+1) j 0,Sg nm,tyV t] (L::S) .un (L::set2 S d j (fnT p (env++[⟨nm,t⟩]))):=by
 have:=zNQ hl nm t h L
 rw[zAQ h]at this;exact this
theorem zI2(hp:PrSm p)(hs:∀s∈l,StT p s)(xa:∀s∈l,StSm s)(mf:l.length<=20000)(he:zA3 env)(hb:env.length+(l.map St.nd).sum<=4000000000){d j:Nat}(h:TAt p S d j env)(L:List AObj):zM Tryz.prog 75 [.ptr (d+1) j 0,.p (.sl 15 (l.map St.enc))] (L::S) (resS (tgSs p env l).2) (L::set2 S d j (fnT p (zBb env (tgSs p env l)).1)):=by
 have:=zHm hp hs xa mf he hb h L
 rw[zAQ h]at this;exact this
def StH(p:List It)(s:St):Prop:=PrSm p/\StSm s/\StG p s/\(∀x∈s.u3,∀env,zA3 env->env.length<=4000000000->ExC p env x)/\(∀x∈s.body,StT p x)/\(∀x∈s.els,StT p x)/\∀a∈s.arms,∀x∈a.body,StT p x
abbrev sI(p:List It)(env:List Fi)(s:St)(a:Nat × List Ty):Prop:=a.1<=s.u3.length/\tyEs p env (s.u3.take a.1)= .ok a.2/\a.2.length=a.1
@[simp]abbrev sF(s:St)(d j:Nat)(a:Nat × List Ty):List AV:=[.ptr (d+1) j 0,.any,.any,.ptr 0 0 0,.osl 3 (a.2.map Ty.enc) 0 1]++(List.replicate 25 .any++([.p (.sl 8 (s.u3.map Ex.enc)),I s.u3.length,I a.1]++List.replicate 250 .any))
theorem zc4{s:St}(H:StH p s)(hop:s.op=1):StT p s:=by
 obtain⟨hp,xa,hG,va,i1,i2,i3⟩:=H
 intro env he hb S d j h
 have Cd:=stNd s
 obtain⟨_,La,Ra,Bf,Va,bf,kc,Jf,Hi,Cj,jd,oe,He,pe⟩:=xa
 obtain⟨_,Ii,af,Ji,Ki,Li,Mi,Ni⟩:=hG
 have te:s.u3.length<=20000:=kc.1
 have hS:=zAQ h
 have h2:=h
 have Wb:env.length<=4000000000:=by omega
 have gs:=fun o=>zQ o h d j
 simp only[and_self,if_true]at gs;unfold TAt fnT at h2
 have cc:s.u3.length<=maxLen:=by unfold maxLen;omega
 refine zM.intro mixed call36 func36 rfl ?_;simp[ntmps36];refine zp 36 3 (by decide) [.cells (stV s) 49] (sI p env s) (sF s d j) (fun a=>[.cells (stV s) 49,.tok 36 3 a.2.length]::S) (fun a=>s.u3.length-a.1) (0,[]) ⟨Nat.zero_le _,by rw[List.take_zero,tyEs],rfl⟩ ?_ ?_ ?_ ?_
 .simp
 .simp
 .rfl
 rintro⟨q,ts⟩ ⟨hq,pa,ca⟩
 simp only at hq pa ca
 by_cases hlt:q<s.u3.length
 .have aa:(q:Int)<(s.u3.length:Int):=by omega
  have hw:=zB hlt
  obtain⟨n1,n2⟩:=zAU hlt pa
  have hx:=va _ (List.getElem_mem hlt) env he Wb
  have wa:q+1<=4294967296:=by omega
  generalize hy:s.u3[q]=x at*
  have hx:=fun(L:List AObj)=>hx (L::S) (d+1) j h
  cases hr:tyE p env x with
  |error f=>
   rw[hr]at hx;rw[zBm,n2 f hr];simp only;rw[hS];simp[hlt,aa,hy,zm];refine cq (hx _) ?_
   simp[resE,resS]
  |ok t=>
   rw[hr]at hx;simp[hlt,aa,hy,zm];refine cq (hx _) ?_;simp[resE,wa,ca];exact⟨q+1,ts++[t],⟨by omega,n1 t hr,by simp[ca]⟩,by omega,⟨by simp[zd],hw⟩,by simp[ca]⟩
 have aa:¬(q:Int)<(s.u3.length:Int):=by omega
 obtain rfl:q=s.u3.length:=by omega
 rw[List.take_length]at pa;clear hlt hq;rw[zBm,pa];simp only
 obtain⟨v,l1,rfl⟩:∃v l1,ts=v::l1:=by
  cases ts with
  |nil=>have:=af (by omega);simp at ca;omega
  |cons v l1=>exact⟨v,l1,rfl⟩
 try simp only[List.headD_cons]
 have nb:zCl p env s.op s.name s.u2 s.place (v::l1)=none:=by unfold zCl;simp[hop]
 rw[nb];simp only[if_pos hop]
 have mC:=fun L=>zHn (p:=p) (env:=env) (by omega) s.name v h L
 simp[aa,hop];refine zX (dB [] (by kernel_rfl) ?_)
 simp[zd];refine cq (mC _) ?_;simp[resS]
theorem zc5{s:St}(H:StH p s)(hop:s.op=12):StT p s:=by
 obtain⟨hp,xa,hG,va,i1,i2,i3⟩:=H
 intro env he hb S d j h
 have Cd:=stNd s
 obtain⟨_,La,Ra,Bf,Va,bf,kc,Jf,Hi,Cj,jd,oe,He,pe⟩:=xa
 obtain⟨_,Ii,af,Ji,Ki,Li,Mi,Ni⟩:=hG
 have te:s.u3.length<=20000:=kc.1
 have hS:=zAQ h
 have h2:=h
 have Wb:env.length<=4000000000:=by omega
 have gs:=fun o=>zQ o h d j
 simp only[and_self,if_true]at gs;unfold TAt fnT at h2
 have cc:s.u3.length<=maxLen:=by unfold maxLen;omega
 refine zM.intro mixed call36 func36 rfl ?_;simp[ntmps36];refine zp 36 3 (by decide) [.cells (stV s) 49] (sI p env s) (sF s d j) (fun a=>[.cells (stV s) 49,.tok 36 3 a.2.length]::S) (fun a=>s.u3.length-a.1) (0,[]) ⟨Nat.zero_le _,by rw[List.take_zero,tyEs],rfl⟩ ?_ ?_ ?_ ?_
 .simp
 .simp
 .rfl
 rintro⟨q,ts⟩ ⟨hq,pa,ca⟩
 simp only at hq pa ca
 by_cases hlt:q<s.u3.length
 .have aa:(q:Int)<(s.u3.length:Int):=by omega
  have hw:=zB hlt
  obtain⟨n1,n2⟩:=zAU hlt pa
  have hx:=va _ (List.getElem_mem hlt) env he Wb
  have wa:q+1<=4294967296:=by omega
  generalize hy:s.u3[q]=x at*
  have hx:=fun(L:List AObj)=>hx (L::S) (d+1) j h
  cases hr:tyE p env x with
  |error f=>
   rw[hr]at hx;rw[zBm,n2 f hr];simp only;rw[hS];simp[hlt,aa,hy,zm];refine cq (hx _) ?_
   simp[resE,resS]
  |ok t=>
   rw[hr]at hx;simp[hlt,aa,hy,zm];refine cq (hx _) ?_;simp[resE,wa,ca];exact⟨q+1,ts++[t],⟨by omega,n1 t hr,by simp[ca]⟩,by omega,⟨by simp[zd],hw⟩,by simp[ca]⟩
 have aa:¬(q:Int)<(s.u3.length:Int):=by omega
 obtain rfl:q=s.u3.length:=by omega
 rw[List.take_length]at pa;clear hlt hq;rw[zBm,pa];simp only
 have nb:zCl p env s.op s.name s.u2 s.place ts=none:=by unfold zCl;simp[hop]
 rw[nb];simp only[if_neg (show ¬s.op=1 by omega),if_neg (show ¬s.op=2 by omega),if_neg (show ¬s.op=3 by omega),if_neg (show ¬(s.op=6\/s.op=7) by omega),if_neg (show ¬s.op=8 by omega),if_neg (show ¬s.op=10 by omega),if_neg (show ¬s.op=11 by omega),if_pos hop]
 have mC:=fun L=>zHn (p:=p) (env:=env) (by omega) s.name (inTy 11 s.type) h L
 have mD:=fun L=>zNQ (p:=p) (env1:=env++[⟨s.name,inTy 11 s.type⟩]) (by simp;omega) s.u2 (inTy 12 s.type) h L
 simp only[List.append_assoc,List.cons_append,List.nil_append]at mD;simp[aa,hop];refine zX (dB [(2,5)] (by kernel_rfl) ?_)
 simp[zd];refine cq (zFv _ s.type _) ?_;simp;refine cq (mC _) ?_;simp;refine zX (dB [(2,5)] (by kernel_rfl) ?_)
 simp[zd];refine cq (zFv _ s.type _) ?_;simp;refine cq (mD _) ?_;simp[resS]
theorem zc6{s:St}(H:StH p s)(hne:s.op≠1/\s.op≠2/\s.op≠3/\s.op≠6/\s.op≠7/\s.op≠8/\s.op≠10/\s.op≠11/\s.op≠12):StT p s:=by
 obtain⟨hp,xa,hG,va,i1,i2,i3⟩:=H
 intro env he hb S d j h
 have Cd:=stNd s
 obtain⟨_,La,Ra,Bf,Va,bf,kc,Jf,Hi,Cj,jd,oe,He,pe⟩:=xa
 obtain⟨_,Ii,af,Ji,Ki,Li,Mi,Ni⟩:=hG
 have te:s.u3.length<=20000:=kc.1
 have hS:=zAQ h
 have h2:=h
 have Wb:env.length<=4000000000:=by omega
 have gs:=fun o=>zQ o h d j
 simp only[and_self,if_true]at gs;unfold TAt fnT at h2
 have f1:(s.op==1)=false:=by simp;omega
 have f2:(s.op==2)=false:=by simp;omega
 have f3:(s.op==3)=false:=by simp;omega
 have f6:(s.op==6)=false:=by simp;omega
 have f7:(s.op==7)=false:=by simp;omega
 have f8:(s.op==8)=false:=by simp;omega
 have Tp:(s.op==10)=false:=by simp;omega
 have Qp:(s.op==11)=false:=by simp;omega
 have Rp:(s.op==12)=false:=by simp;omega
 have cc:s.u3.length<=maxLen:=by unfold maxLen;omega
 refine zM.intro mixed call36 func36 rfl ?_;simp[ntmps36];refine zp 36 3 (by decide) [.cells (stV s) 49] (sI p env s) (sF s d j) (fun a=>[.cells (stV s) 49,.tok 36 3 a.2.length]::S) (fun a=>s.u3.length-a.1) (0,[]) ⟨Nat.zero_le _,by rw[List.take_zero,tyEs],rfl⟩ ?_ ?_ ?_ ?_
 .simp
 .simp
 .rfl
 rintro⟨q,ts⟩ ⟨hq,pa,ca⟩
 simp only at hq pa ca
 by_cases hlt:q<s.u3.length
 .have aa:(q:Int)<(s.u3.length:Int):=by omega
  have hw:=zB hlt
  obtain⟨n1,n2⟩:=zAU hlt pa
  have hx:=va _ (List.getElem_mem hlt) env he Wb
  have wa:q+1<=4294967296:=by omega
  generalize hy:s.u3[q]=x at*
  have hx:=fun(L:List AObj)=>hx (L::S) (d+1) j h
  cases hr:tyE p env x with
  |error f=>
   rw[hr]at hx;rw[zBm,n2 f hr];simp only;rw[hS];simp[hlt,aa,hy,zm];refine cq (hx _) ?_
   simp[resE,resS]
  |ok t=>
   rw[hr]at hx;simp[hlt,aa,hy,zm];refine cq (hx _) ?_;simp[resE,wa,ca];exact⟨q+1,ts++[t],⟨by omega,n1 t hr,by simp[ca]⟩,by omega,⟨by simp[zd],hw⟩,by simp[ca]⟩
 have aa:¬(q:Int)<(s.u3.length:Int):=by omega
 obtain rfl:q=s.u3.length:=by omega
 rw[List.take_length]at pa;clear hlt hq;rw[zBm,pa];simp only
 have nb:zCl p env s.op s.name s.u2 s.place ts=none:=by unfold zCl;simp[hne]
 rw[nb];simp only[if_neg hne.1,if_neg hne.2.1,if_neg hne.2.2.1,if_neg (show ¬(s.op=6\/s.op=7) by omega),if_neg hne.2.2.2.2.2.1,if_neg hne.2.2.2.2.2.2.1,if_neg hne.2.2.2.2.2.2.2.1,if_neg hne.2.2.2.2.2.2.2.2]
 have bC:=fun L=>zI2 hp i1 jd Jf he (by omega) h L
 generalize tgSs p env s.body=r at*
 obtain⟨e1,o⟩:=r
 simp[aa,f1,f2,f3,f6,f7,f8,Tp,Qp,Rp];refine cq (bC _) ?_;cases o<;>simp[resS,zBb]
theorem zQJ(fs:List Fi)(nms:List BA)(q:Nat)(h1:q<nms.length)(h2:q<fs.length):zB9 fs (nms.take (q+1))=zB9 fs (nms.take q)++[⟨nms[q],fs[q].type⟩]:=by
 unfold zB9
 apply List.ext_getElem
 .simp;omega
 intro i a b;simp at a
 by_cases hi:i=q
 .subst hi
  rw[List.getElem_append_right (by simp;omega)]
  simp
 rw[List.getElem_append_left (by simp;omega)]
 simp
theorem zQK(l:List Ty)(nms:List BA)(q:Nat)(h1:q<nms.length)(h2:q<l.length):zCA (nms.take (q+1)) l=zCA (nms.take q) l++[⟨nms[q],l[q]⟩]:=by
 unfold zCA
 apply List.ext_getElem
 .simp;omega
 intro i a b;simp at a
 by_cases hi:i=q
 .subst hi
  rw[List.getElem_append_right (by simp;omega)]
  simp
 rw[List.getElem_append_left (by simp;omega)]
 simp
theorem zc7{s:St}(H:StH p s)(hop:s.op=2):StT p s:=by
 obtain⟨hp,xa,hG,va,i1,i2,i3⟩:=H
 intro env he hb S d j h
 have Cd:=stNd s
 obtain⟨_,La,Ra,Bf,Va,bf,kc,Jf,Hi,Cj,jd,oe,He,pe⟩:=xa
 obtain⟨_,Ii,af,Ji,Ki,Li,Mi,Ni⟩:=hG
 have te:s.u3.length<=20000:=kc.1
 have hS:=zAQ h
 have h2:=h
 have Wb:env.length<=4000000000:=by omega
 have gs:=fun o=>zQ o h d j
 simp only[and_self,if_true]at gs;unfold TAt fnT at h2
 have tC:∀S,ADet Tryz.prog 74 [.agg [.p (prog p)],Sg s.name] S (.tup [.p (.sl 4 (((zAD p s.name).getD []).map Fi.enc)),B (zAD p s.name).isSome]) S:=fun S=>by
  have:=zGp p hp s.name S
  cases hf:zAD p s.name with
  |none=>rw[hf]at this;exact this.lessTup (.cons (.p (.nil 4)) (.refl _))
  |some l=>rw[hf]at this;exact this
 have cc:s.u3.length<=maxLen:=by unfold maxLen;omega
 refine zM.intro mixed call36 func36 rfl ?_;simp[ntmps36];refine zp 36 3 (by decide) [.cells (stV s) 49] (sI p env s) (sF s d j) (fun a=>[.cells (stV s) 49,.tok 36 3 a.2.length]::S) (fun a=>s.u3.length-a.1) (0,[]) ⟨Nat.zero_le _,by rw[List.take_zero,tyEs],rfl⟩ ?_ ?_ ?_ ?_
 .simp
 .simp
 .rfl
 rintro⟨q,ts⟩ ⟨hq,pa,ca⟩
 simp only at hq pa ca
 by_cases hlt:q<s.u3.length
 .have aa:(q:Int)<(s.u3.length:Int):=by omega
  have hw:=zB hlt
  obtain⟨n1,n2⟩:=zAU hlt pa
  have hx:=va _ (List.getElem_mem hlt) env he Wb
  have wa:q+1<=4294967296:=by omega
  generalize hy:s.u3[q]=x at*
  have hx:=fun(L:List AObj)=>hx (L::S) (d+1) j h
  cases hr:tyE p env x with
  |error f=>
   rw[hr]at hx;rw[zBm,n2 f hr];simp only;rw[hS];simp[hlt,aa,hy,zm];refine cq (hx _) ?_
   simp[resE,resS]
  |ok t=>
   rw[hr]at hx;simp[hlt,aa,hy,zm];refine cq (hx _) ?_;simp[resE,wa,ca];exact⟨q+1,ts++[t],⟨by omega,n1 t hr,by simp[ca]⟩,by omega,⟨by simp[zd],hw⟩,by simp[ca]⟩
 have aa:¬(q:Int)<(s.u3.length:Int):=by omega
 obtain rfl:q=s.u3.length:=by omega
 rw[List.take_length]at pa;clear hlt hq;rw[zBm,pa];simp only
 obtain⟨v,l1,rfl⟩:∃v l1,ts=v::l1:=by
  cases ts with
  |nil=>have:=af (by omega);simp at ca;omega
  |cons v l1=>exact⟨v,l1,rfl⟩
 try simp only[List.headD_cons]
 have nb:zCl p env s.op s.name s.u2 s.place (v::l1)=if eqT v (.mk 4 s.name [])=true then none else some 100:=by unfold zCl;rw[if_pos hop];rfl
 rw[nb]
 have sC:∀S,ADet Tryz.prog 16 [tyV v,.agg [U 4,Sg s.name,.p (.sl 3 [])]] S (B (eqT v (.mk 4 s.name []))) S:=fun S=>zDQ v (.mk 4 s.name []) S
 try simp only[Ty.kind,Ty.name,Ty.args,List.map_nil]at sC
 have Vg:LeAs [U 4,Sg s.name,nilS] [U 4,Sg s.name,.p (.sl 3 [])]:=.cons (.refl _) (.cons (.refl _) (.cons (.p (.nil 3)) (.refl _)))
 have sC:=fun S=>ADet.sub (.cons (.refl _) (.cons (.agg Vg) (.refl _))) (sC S)
 cases Ub:eqT v (.mk 4 s.name [])with
 |false=>
  rw[Ub]at sC;simp only[Bool.false_eq_true,if_false];rw[hS];simp[aa,hop];refine z9 9 [9] [(8,6)] (by kernel_rfl) (by kernel_rfl) (by kernel_rfl) ?_
  simp[zd];refine cq (sC _) ?_;simp
  exact⟨_,_,zf _ _ _ _,by simp[resS]⟩
 |true=>
  rw[Ub]at sC;simp only[if_true];simp only[if_neg (show ¬s.op=1 by omega),if_pos hop]
  have ta:=Ki hop
  generalize Rb:(zAD p s.name).getD []=fs at*
  simp[aa,hop];refine zX (dB [(8,6)] (by kernel_rfl) ?_)
  simp[zd];refine cq (sC _) ?_;simp;refine cq ((zf _ _ _ _).det) ?_;simp;refine zX (dB [] (by kernel_rfl) ?_)
  simp[h2];refine cq (tC _) ?_;simp[strs];refine zBq (fun q:Nat=>q<=s.names.length) (fun q=>([.ptr (d+1) j 0,.any,.any,.ptr 0 0 0,.any,.any,.any,.p (.sl 4 (fs.map Fi.enc))]++(List.replicate 73 .any++([.p (.sl 1 (s.names.map fun s=>[pS s])),I s.names.length,I q]++List.replicate 199 .any)))) (fun q=>[.cells (stV s) 49,.tok 36 3 (l1.length+1)]::set2 S d j (fnT p (env++zB9 fs (s.names.take q)))) (fun q=>s.names.length-q) 0 (Nat.zero_le _) ?_ ?_ ?_
  .simp[strs]
  .simp[zB9,hS,strs]
  intro q hq
  by_cases Id:q<s.names.length
  .have Ac:(q:Int)<(s.names.length:Int):=by omega
   have Vm:q<fs.length:=by omega
   have hw:=zB Id (by have:=Bf.1;unfold maxLen;omega)
   have De:=zQJ fs s.names q Id Vm
   have Xj:(zB9 fs (s.names.take q)).length<=q:=by unfold zB9;simp;omega
   have mC:=fun L=>zNQ (p:=p) (env1:=env++zB9 fs (s.names.take q)) (by simp;omega) s.names[q] fs[q].type h L
   rw[List.append_assoc,<-De]at mC
   generalize ld:s.names[q]=n1 at*
   generalize pg:fs[q]=f1 at*
   simp[Id,Ac,ld,Vm,pg,Fi.enc,zd];refine cq ((mC _).call) ?_;simp;exact⟨q+1,by omega,by omega,hw,rfl⟩
  have Ac:¬(q:Int)<(s.names.length:Int):=by omega
  obtain rfl:q=s.names.length:=by omega
  simp[Ac,resS]
theorem zc8{s:St}(H:StH p s)(hop:s.op=3):StT p s:=by
 obtain⟨hp,xa,hG,va,i1,i2,i3⟩:=H
 intro env he hb S d j h
 have Cd:=stNd s
 obtain⟨_,La,Ra,Bf,Va,bf,kc,Jf,Hi,Cj,jd,oe,He,pe⟩:=xa
 obtain⟨_,Ii,af,Ji,Ki,Li,Mi,Ni⟩:=hG
 have te:s.u3.length<=20000:=kc.1
 have hS:=zAQ h
 have h2:=h
 have Wb:env.length<=4000000000:=by omega
 have gs:=fun o=>zQ o h d j
 simp only[and_self,if_true]at gs;unfold TAt fnT at h2
 have pC:=fun L=>zGN p hp env he Wb s.place (L::S) (d+1) j h
 have oC:=fun t S=>zOO t S
 have sC:=fun t u S=>zDQ t u S
 have cc:s.u3.length<=maxLen:=by unfold maxLen;omega
 refine zM.intro mixed call36 func36 rfl ?_;simp[ntmps36];refine zp 36 3 (by decide) [.cells (stV s) 49] (sI p env s) (sF s d j) (fun a=>[.cells (stV s) 49,.tok 36 3 a.2.length]::S) (fun a=>s.u3.length-a.1) (0,[]) ⟨Nat.zero_le _,by rw[List.take_zero,tyEs],rfl⟩ ?_ ?_ ?_ ?_
 .simp
 .simp
 .rfl
 rintro⟨q,ts⟩ ⟨hq,pa,ca⟩
 simp only at hq pa ca
 by_cases hlt:q<s.u3.length
 .have aa:(q:Int)<(s.u3.length:Int):=by omega
  have hw:=zB hlt
  obtain⟨n1,n2⟩:=zAU hlt pa
  have hx:=va _ (List.getElem_mem hlt) env he Wb
  have wa:q+1<=4294967296:=by omega
  generalize hy:s.u3[q]=x at*
  have hx:=fun(L:List AObj)=>hx (L::S) (d+1) j h
  cases hr:tyE p env x with
  |error f=>
   rw[hr]at hx;rw[zBm,n2 f hr];simp only;rw[hS];simp[hlt,aa,hy,zm];refine cq (hx _) ?_
   simp[resE,resS]
  |ok t=>
   rw[hr]at hx;simp[hlt,aa,hy,zm];refine cq (hx _) ?_;simp[resE,wa,ca];exact⟨q+1,ts++[t],⟨by omega,n1 t hr,by simp[ca]⟩,by omega,⟨by simp[zd],hw⟩,by simp[ca]⟩
 have aa:¬(q:Int)<(s.u3.length:Int):=by omega
 obtain rfl:q=s.u3.length:=by omega
 rw[List.take_length]at pa;clear hlt hq;rw[zBm,pa];simp only
 obtain⟨v,l1,rfl⟩:∃v l1,ts=v::l1:=by
  cases ts with
  |nil=>have:=af (by omega);simp at ca;omega
  |cons v l1=>exact⟨v,l1,rfl⟩
 try simp only[List.headD_cons]
 have nb:zCl p env s.op s.name s.u2 s.place (v::l1)=match zAz p env s.place with|none=>some 100|some (t,w)=>if t.owned=false then some 101 else if w=true/\eqT t v=true then none else some 100:=by unfold zCl;rw[if_neg (by omega),if_pos hop];rfl
 rw[nb]
 cases Ma:zAz p env s.place with
 |none=>
  rw[Ma]at pC;simp only;rw[hS];simp[aa,hop];refine cq ((pC _).call) ?_;simp[zBv];refine cq (zf _ _ _ _) ?_
  simp[resS]
 |some r=>
  obtain⟨t,wr⟩:=r
  rw[Ma]at pC;simp only
  cases ho:t.owned with
  |false=>
   simp only[if_true];rw[hS];simp[aa,hop];refine cq ((pC _).call) ?_;simp[zBv];refine cq (zf _ _ _ _) ?_;simp;refine z9 4 [4] [(3,1)] (by kernel_rfl) (by kernel_rfl) (by kernel_rfl) ?_
   simp;refine cq (oC _ _) ?_;rw[ho];simp
   exact⟨_,_,zf _ _ _ _,by simp[resS]⟩
  |true=>
   simp only[Bool.true_eq_false,if_false]
   cases wr with
   |false=>
    simp only[Bool.false_eq_true,false_and,if_false];rw[hS];simp[aa,hop];refine cq ((pC _).call) ?_;simp[zBv];refine cq (zf _ _ _ _) ?_;simp;refine zX (dB [(3,1)] (by kernel_rfl) ?_)
    simp;refine cq (oC _ _) ?_;rw[ho];simp;refine cq ((zf _ _ _ _).det) ?_;simp;refine z9 10 [10] [(9,6)] (by kernel_rfl) (by kernel_rfl) (by kernel_rfl) ?_
    simp
    exact⟨_,_,zf _ _ _ _,by simp[resS]⟩
   |true=>
    simp only[true_and]
    cases Ub:eqT t v with
    |false=>
     simp only[Bool.false_eq_true,if_false];rw[hS];simp[aa,hop];refine cq ((pC _).call) ?_;simp[zBv];refine cq (zf _ _ _ _) ?_;simp;refine zX (dB [(3,1)] (by kernel_rfl) ?_)
     simp;refine cq (oC _ _) ?_;rw[ho];simp;refine cq ((zf _ _ _ _).det) ?_;simp;refine z9 10 [10] [(9,6)] (by kernel_rfl) (by kernel_rfl) (by kernel_rfl) ?_
     simp[zd];refine cq (sC _ _ _) ?_;rw[Ub];simp
     exact⟨_,_,zf _ _ _ _,by simp[resS]⟩
    |true=>
     simp only[if_true];simp only[if_neg (show ¬s.op=1 by omega),if_neg (show ¬s.op=2 by omega),if_pos hop]
     rw[hS];simp[aa,hop];refine cq ((pC _).call) ?_;simp[zBv];refine cq (zf _ _ _ _) ?_;simp;refine zX (dB [(3,1)] (by kernel_rfl) ?_)
     simp;refine cq (oC _ _) ?_;rw[ho];simp;refine cq ((zf _ _ _ _).det) ?_;simp;refine zX (dB [(9,6)] (by kernel_rfl) ?_)
     simp[zd];refine cq (sC _ _ _) ?_;rw[Ub];simp;refine cq ((zf _ _ _ _).det) ?_;simp[resS]
theorem zc9{s:St}(H:StH p s)(hop:s.op=6\/s.op=7):StT p s:=by
 obtain⟨hp,xa,hG,va,i1,i2,i3⟩:=H
 intro env he hb S d j h
 have Cd:=stNd s
 obtain⟨_,La,Ra,Bf,Va,bf,kc,Jf,Hi,Cj,jd,oe,He,pe⟩:=xa
 obtain⟨_,Ii,af,Ji,Ki,Li,Mi,Ni⟩:=hG
 have te:s.u3.length<=20000:=kc.1
 have hS:=zAQ h
 have h2:=h
 have Wb:env.length<=4000000000:=by omega
 have gs:=fun o=>zQ o h d j
 simp only[and_self,if_true]at gs;unfold TAt fnT at h2
 have cc:s.u3.length<=maxLen:=by unfold maxLen;omega
 refine zM.intro mixed call36 func36 rfl ?_;simp[ntmps36];refine zp 36 3 (by decide) [.cells (stV s) 49] (sI p env s) (sF s d j) (fun a=>[.cells (stV s) 49,.tok 36 3 a.2.length]::S) (fun a=>s.u3.length-a.1) (0,[]) ⟨Nat.zero_le _,by rw[List.take_zero,tyEs],rfl⟩ ?_ ?_ ?_ ?_
 .simp
 .simp
 .rfl
 rintro⟨q,ts⟩ ⟨hq,pa,ca⟩
 simp only at hq pa ca
 by_cases hlt:q<s.u3.length
 .have aa:(q:Int)<(s.u3.length:Int):=by omega
  have hw:=zB hlt
  obtain⟨n1,n2⟩:=zAU hlt pa
  have hx:=va _ (List.getElem_mem hlt) env he Wb
  have wa:q+1<=4294967296:=by omega
  generalize hy:s.u3[q]=x at*
  have hx:=fun(L:List AObj)=>hx (L::S) (d+1) j h
  cases hr:tyE p env x with
  |error f=>
   rw[hr]at hx;rw[zBm,n2 f hr];simp only;rw[hS];simp[hlt,aa,hy,zm];refine cq (hx _) ?_
   simp[resE,resS]
  |ok t=>
   rw[hr]at hx;simp[hlt,aa,hy,zm];refine cq (hx _) ?_;simp[resE,wa,ca];exact⟨q+1,ts++[t],⟨by omega,n1 t hr,by simp[ca]⟩,by omega,⟨by simp[zd],hw⟩,by simp[ca]⟩
 have aa:¬(q:Int)<(s.u3.length:Int):=by omega
 obtain rfl:q=s.u3.length:=by omega
 rw[List.take_length]at pa;clear hlt hq;rw[zBm,pa];simp only
 obtain⟨v,l1,rfl⟩:∃v l1,ts=v::l1:=by
  cases ts with
  |nil=>have:=af (by omega);simp at ca;omega
  |cons v l1=>exact⟨v,l1,rfl⟩
 try simp only[List.headD_cons]
 have nb:zCl p env s.op s.name s.u2 s.place (v::l1)=if v.kind=2 then none else some 100:=by unfold zCl;rw[if_neg (by omega),if_neg (by omega),if_pos hop];rfl
 rw[nb]
 by_cases hk:v.kind=2
 .rw[if_pos hk]
  simp only[if_neg (show ¬s.op=1 by omega),if_neg (show ¬s.op=2 by omega),if_neg (show ¬s.op=3 by omega),if_pos hop]
  have bC:=fun L=>zI2 hp i1 jd Jf he (by omega) h L
  have cC:=fun L=>zHm hp i2 oe Hi (env:=env) (env1:=env) he (by omega) h L
  generalize tgSs p env s.body=r at*
  generalize tgSs p env s.els=r2 at*
  obtain⟨e1,o⟩:=r
  obtain⟨e2,o2⟩:=r2
  rcases hop with hop|hop
  .simp[aa,hop]
   refine zX (dB [] (by kernel_rfl) ?_)
   simp[zd,hk];refine cq ((zf _ _ _ _).det) ?_;simp;refine cq (bC _) ?_
   cases o with
   |some f=>simp[resS,zBb]
   |none=>
    simp[resS,zBb];refine cq (cC _) ?_;cases o2<;>simp[resS,zBb]
  simp[aa,hop]
  refine zX (dB [] (by kernel_rfl) ?_)
  simp[zd,hk];refine cq ((zf _ _ _ _).det) ?_;simp;refine cq (bC _) ?_
  cases o with
  |some f=>simp[resS,zBb]
  |none=>
   simp[resS,zBb];refine cq (cC _) ?_;cases o2<;>simp[resS,zBb]
 rw[if_neg hk]
 have dc:(v.kind==2)=false:=by simpa using hk
 simp only;rw[hS]
 rcases hop with hop|hop
 .simp[aa,hop]
  refine z9 7 [7] [] (by kernel_rfl) (by kernel_rfl) (by kernel_rfl) ?_
  simp[zd,dc];exact⟨_,_,zf _ _ _ _,by simp[resS]⟩
 simp[aa,hop]
 refine z9 7 [7] [] (by kernel_rfl) (by kernel_rfl) (by kernel_rfl) ?_
 simp[zd,dc];exact⟨_,_,zf _ _ _ _,by simp[resS]⟩
theorem zTR:∀(l:List Ar) (q:Nat) (h:q<l.length),l[q].nd<=(l.map Ar.nd).sum
 |a::l,0,h=>by simp
 |a::l,q+1,h=>by
  have:=zTR l q (by simpa using h)
  simp only[List.map_cons,List.sum_cons,List.getElem_cons_succ];omega
theorem zdA{s:St}(H:StH p s)(hop:s.op=8):StT p s:=by
 obtain⟨hp,xa,hG,va,i1,i2,i3⟩:=H
 intro env he hb S d j h
 have Cd:=stNd s
 obtain⟨_,La,Ra,Bf,Va,bf,kc,Jf,Hi,Cj,jd,oe,He,pe⟩:=xa
 obtain⟨_,Ii,af,Ji,Ki,Li,Mi,Ni⟩:=hG
 have te:s.u3.length<=20000:=kc.1
 have hS:=zAQ h
 have h2:=h
 have Wb:env.length<=4000000000:=by omega
 have gs:=fun o=>zQ o h d j
 simp only[and_self,if_true]at gs;unfold TAt fnT at h2
 have pC:∀L,∃b1 b2,ADet Tryz.prog 54 [.ptr (d+1) j 0,.agg [Sg s.name,nilS]] (L::S) (.tup [tyV (plT p env ⟨s.name,[]⟩),B b1,B b2]) (L::S):=fun L=>by
  have:=ADet.sub (.cons (.refl _) (.cons (.agg (.cons (.refl _) (.cons (.p (.nil 1)) (.refl _)))) (.refl _))) (zGN p hp env he Wb ⟨s.name,[]⟩ (L::S) (d+1) j h)
  unfold plT
  cases Ma:zAz p env ⟨s.name,[]⟩with
  |none=>
   rw[Ma]at this
   exact⟨false,false,this.lessTup (.cons (.agg (.cons (.refl _) (.cons (.refl _) (.cons (.p (.nil 3)) (.refl _))))) (.refl _))⟩
  |some r=>
   obtain⟨u,w⟩:=r
   rw[Ma]at this;exact⟨w,true,this⟩
 have cc:s.u3.length<=maxLen:=by unfold maxLen;omega
 refine zM.intro mixed call36 func36 rfl ?_;simp[ntmps36];refine zp 36 3 (by decide) [.cells (stV s) 49] (sI p env s) (sF s d j) (fun a=>[.cells (stV s) 49,.tok 36 3 a.2.length]::S) (fun a=>s.u3.length-a.1) (0,[]) ⟨Nat.zero_le _,by rw[List.take_zero,tyEs],rfl⟩ ?_ ?_ ?_ ?_
 .simp
 .simp
 .rfl
 rintro⟨q,ts⟩ ⟨hq,pa,ca⟩
 simp only at hq pa ca
 by_cases hlt:q<s.u3.length
 .have aa:(q:Int)<(s.u3.length:Int):=by omega
  have hw:=zB hlt
  obtain⟨n1,n2⟩:=zAU hlt pa
  have hx:=va _ (List.getElem_mem hlt) env he Wb
  have wa:q+1<=4294967296:=by omega
  generalize hy:s.u3[q]=x at*
  have hx:=fun(L:List AObj)=>hx (L::S) (d+1) j h
  cases hr:tyE p env x with
  |error f=>
   rw[hr]at hx;rw[zBm,n2 f hr];simp only;rw[hS];simp[hlt,aa,hy,zm];refine cq (hx _) ?_
   simp[resE,resS]
  |ok t=>
   rw[hr]at hx;simp[hlt,aa,hy,zm];refine cq (hx _) ?_;simp[resE,wa,ca];exact⟨q+1,ts++[t],⟨by omega,n1 t hr,by simp[ca]⟩,by omega,⟨by simp[zd],hw⟩,by simp[ca]⟩
 have aa:¬(q:Int)<(s.u3.length:Int):=by omega
 obtain rfl:q=s.u3.length:=by omega
 rw[List.take_length]at pa;clear hlt hq;rw[zBm,pa];simp only
 have nb:zCl p env s.op s.name s.u2 s.place ts=if eqT (plT p env ⟨s.name,[]⟩) (.mk 4 s.u2 [])=true then none else some 100:=by unfold zCl;rw[if_neg (by omega),if_neg (by omega),if_neg (by omega),if_pos hop]
 rw[nb]
 have sC:∀S,ADet Tryz.prog 16 [tyV (plT p env ⟨s.name,[]⟩),.agg [U 4,Sg s.u2,.p (.sl 3 [])]] S (B (eqT (plT p env ⟨s.name,[]⟩) (.mk 4 s.u2 []))) S:=fun S=>zDQ (plT p env ⟨s.name,[]⟩) (.mk 4 s.u2 []) S
 try simp only[Ty.kind,Ty.name,Ty.args,List.map_nil]at sC
 have Vg:LeAs [U 4,Sg s.u2,nilS] [U 4,Sg s.u2,.p (.sl 3 [])]:=.cons (.refl _) (.cons (.refl _) (.cons (.p (.nil 3)) (.refl _)))
 have sC:=fun S=>ADet.sub (.cons (.refl _) (.cons (.agg Vg) (.refl _))) (sC S)
 generalize Og:plT p env ⟨s.name,[]⟩=pt at*
 cases Ub:eqT pt (.mk 4 s.u2 [])with
 |false=>
  rw[Ub]at sC;simp only[Bool.false_eq_true,if_false];rw[hS];simp[aa,hop]
  obtain⟨b1,b2,pC⟩:=pC _
  refine cq pC.call ?_;simp;refine z9 7 [7] [(6,4)] (by kernel_rfl) (by kernel_rfl) (by kernel_rfl) ?_
  simp[zd];refine cq (sC _) ?_;simp
  exact⟨_,_,zf _ _ _ _,by simp[resS]⟩
 |true=>
  rw[Ub]at sC;simp only[if_true];simp only[if_neg (show ¬s.op=1 by omega),if_neg (show ¬s.op=2 by omega),if_neg (show ¬s.op=3 by omega),if_neg (show ¬(s.op=6\/s.op=7) by omega),if_pos hop]
  simp[aa,hop]
  obtain⟨b1,b2,pC⟩:=pC _
  refine cq pC.call ?_;simp;refine zX (dB [(6,4)] (by kernel_rfl) ?_)
  simp[zd];refine cq (sC _) ?_;simp;refine cq ((zf _ _ _ _).det) ?_;simp;refine zBq (fun q:Nat=>q<=s.arms.length/\tgAs p s.u2 env (s.arms.take q)=(env,none)) (fun q=>([.ptr (d+1) j 0,.any,.any,.ptr 0 0 0]++(List.replicate 162 .any++([.p (.sl 3 (s.arms.map Ar.enc)),I s.arms.length,I q]++List.replicate 114 .any)))) (fun q=>[.cells (stV s) 49,.tok 36 3 ts.length,.cells [U pt.kind,Sg pt.name,.p (.sl 3 (pt.args.map Ty.enc))] 36]::S) (fun q=>s.arms.length-q) 0 ⟨Nat.zero_le _,by rw[List.take_zero,tgAs]⟩ ?_ ?_ ?_
  .simp
  .simp
  rintro q ⟨hq,Em⟩
  by_cases Id:q<s.arms.length
  .have Ac:(q:Int)<(s.arms.length:Int):=by omega
   have hw:=zB Id (by unfold maxLen;omega)
   obtain⟨n1,n2⟩:=zSy Id Em
   have jq:=List.getElem_mem Id
   have iv:=zTR s.arms q Id
   have Lg:=i3 _ jq
   have cb:=He _ jq
   have Lj:=pe _ jq
   generalize hy:s.arms[q]=a at*
   have kq:=arNd a
   have yC:=fun L=>zFP p hp env s.u2 a.variant (L::S) (d+1) j h
   have Eu:=zND hp s.u2 a.variant
   have yC:∀L,∃b,ADet Tryz.prog 76 [.ptr (d+1) j 0,Sg s.u2,Sg a.variant] (L::S) (.tup [tyV ((zh p s.u2 a.variant).getD zTy),B b]) (L::S):=fun L=>by
    have:=yC L
    cases hpk:zh p s.u2 a.variant with
    |none=>rw[hpk]at this;exact⟨false,this.lessTup (.cons (.agg (.cons (.refl _) (.cons (.refl _) (.cons (.p (.nil 3)) (.refl _))))) (.refl _))⟩
    |some t=>rw[hpk]at this;exact⟨true,this⟩
   cases hem:sEq a.name emS with
   |true=>
    have be:armE p s.u2 env a=env:=by unfold armE;rw[if_pos hem]
    rw[be]at n1 n2
    have bC:=fun L=>zI2 hp Lg Lj cb.2.2 he (by omega) h L
    generalize hr:tgSs p env a.body=r at*
    obtain⟨e2,o⟩:=r
    simp[Id,Ac,hy,Ar.enc,hem,h2];refine cq (bC _) ?_
    cases o with
    |some f=>
     rw[n2 f rfl]
     simp[resS,zBb]
    |none=>
     have eh:=gs (fnT p env)
     unfold fnT at eh
     have Ic:=hS
     unfold fnT at Ic;simp[resS,zBb,fnT,eh,Ic,h2]
     exact⟨q+1,⟨by omega,n1 rfl⟩,by omega,hw⟩
   |false=>
    have be:armE p s.u2 env a=env++[⟨a.name,(zh p s.u2 a.variant).getD zTy⟩]:=by unfold armE;rw[if_neg (by rw[hem];simp)]
    rw[be]at n1 n2
    generalize (zh p s.u2 a.variant).getD zTy=yt at*
    have yf:zA3 (env++[⟨a.name,yt⟩]):=zE0 he (zIn Eu)
    have db:(env++[(⟨a.name,yt⟩:Fi)]).length=env.length+1:=by simp
    have mC:=fun L=>zHn (p:=p) (env:=env) (by omega) a.name yt h L
    have bC:=fun L=>zHm hp Lg Lj cb.2.2 (env:=env) (env1:=env++[⟨a.name,yt⟩]) yf (by omega) h L
    generalize hr:tgSs p (env++[⟨a.name,yt⟩]) a.body=r at*
    obtain⟨e2,o⟩:=r
    simp[Id,Ac,hy,Ar.enc,hem,h2]
    obtain⟨b,yC⟩:=yC _
    refine cq yC.call ?_;simp;refine cq ((mC _).call) ?_;simp;refine cq (bC _) ?_
    cases o with
    |some f=>
     rw[n2 f rfl]
     simp[resS,zBb]
    |none=>
     have eh:=gs (fnT p (env++[⟨a.name,yt⟩]))
     unfold fnT at eh
     have Ic:=hS
     unfold fnT at Ic;simp only[List.map_append,List.map_cons,List.map_nil]at eh;simp[resS,zBb,fnT,eh,Ic,h2];exact⟨q+1,⟨by omega,n1 rfl⟩,by omega,hw⟩
  have Ac:¬(q:Int)<(s.arms.length:Int):=by omega
  obtain rfl:q=s.arms.length:=by omega
  rw[List.take_length]at Em;rw[Em];simp only;rw[hS];simp[Ac,resS]
theorem zdB{s:St}(H:StH p s)(hop:s.op=11)(Rc:zAC p=true):StT p s:=by
 obtain⟨hp,xa,hG,va,i1,i2,i3⟩:=H
 intro env he hb S d j h
 have Cd:=stNd s
 obtain⟨_,La,Ra,Bf,Va,bf,kc,Jf,Hi,Cj,jd,oe,He,pe⟩:=xa
 obtain⟨_,Ii,af,Ji,Ki,Li,Mi,Ni⟩:=hG
 have te:s.u3.length<=20000:=kc.1
 have hS:=zAQ h
 have h2:=h
 have Wb:env.length<=4000000000:=by omega
 have gs:=fun o=>zQ o h d j
 simp only[and_self,if_true]at gs;unfold TAt fnT at h2
 have pC:∀L,∃b1 b2,ADet Tryz.prog 54 [.ptr (d+1) j 0,plV s.place] (L::S) (.tup [tyV (plT p env s.place),B b1,B b2]) (L::S):=fun L=>by
  have:=zGN p hp env he Wb s.place (L::S) (d+1) j h
  unfold plT
  cases Ma:zAz p env s.place with
  |none=>
   rw[Ma]at this
   exact⟨false,false,this.lessTup (.cons (.agg (.cons (.refl _) (.cons (.refl _) (.cons (.p (.nil 3)) (.refl _))))) (.refl _))⟩
  |some r=>
   obtain⟨u,w⟩:=r
   rw[Ma]at this;exact⟨w,true,this⟩
 have cc:s.u3.length<=maxLen:=by unfold maxLen;omega
 refine zM.intro mixed call36 func36 rfl ?_;simp[ntmps36];refine zp 36 3 (by decide) [.cells (stV s) 49] (sI p env s) (sF s d j) (fun a=>[.cells (stV s) 49,.tok 36 3 a.2.length]::S) (fun a=>s.u3.length-a.1) (0,[]) ⟨Nat.zero_le _,by rw[List.take_zero,tyEs],rfl⟩ ?_ ?_ ?_ ?_
 .simp
 .simp
 .rfl
 rintro⟨q,ts⟩ ⟨hq,pa,ca⟩
 simp only at hq pa ca
 by_cases hlt:q<s.u3.length
 .have aa:(q:Int)<(s.u3.length:Int):=by omega
  have hw:=zB hlt
  obtain⟨n1,n2⟩:=zAU hlt pa
  have hx:=va _ (List.getElem_mem hlt) env he Wb
  have wa:q+1<=4294967296:=by omega
  generalize hy:s.u3[q]=x at*
  have hx:=fun(L:List AObj)=>hx (L::S) (d+1) j h
  cases hr:tyE p env x with
  |error f=>
   rw[hr]at hx;rw[zBm,n2 f hr];simp only;rw[hS];simp[hlt,aa,hy,zm];refine cq (hx _) ?_
   simp[resE,resS]
  |ok t=>
   rw[hr]at hx;simp[hlt,aa,hy,zm];refine cq (hx _) ?_;simp[resE,wa,ca];exact⟨q+1,ts++[t],⟨by omega,n1 t hr,by simp[ca]⟩,by omega,⟨by simp[zd],hw⟩,by simp[ca]⟩
 have aa:¬(q:Int)<(s.u3.length:Int):=by omega
 obtain rfl:q=s.u3.length:=by omega
 rw[List.take_length]at pa;clear hlt hq;rw[zBm,pa];simp only
 have nb:zCl p env s.op s.name s.u2 s.place ts=if(plT p env s.place).kind=9 then none else some 100:=by unfold zCl;rw[if_neg (by omega),if_neg (by omega),if_neg (by omega),if_neg (by omega),if_pos hop]
 rw[nb]
 have Fu:=zV8 Rc (env:=env) (x:=s.place)
 have lq:=zW7 hp he s.place
 generalize Og:plT p env s.place=pt at*
 by_cases hk:pt.kind=9
 .obtain⟨u,hu⟩:=zL4 (Fu hk)
  have mq:=zSw lq u (by rw[hu];simp)
  rw[if_pos hk];simp only[if_neg (show ¬s.op=1 by omega),if_neg (show ¬s.op=2 by omega),if_neg (show ¬s.op=3 by omega),if_neg (show ¬(s.op=6\/s.op=7) by omega),if_neg (show ¬s.op=8 by omega),if_neg (show ¬s.op=10 by omega),if_pos hop,hu,List.headD_cons]
  have yf:zA3 (env++[⟨s.name,inTy 14 u⟩]):=zE0 he (zIn (zNB 14 mq))
  have db:(env++[(⟨s.name,inTy 14 u⟩:Fi)]).length=env.length+1:=by simp
  have mC:=fun L=>zHn (p:=p) (env:=env) (by omega) s.name (inTy 14 u) h L
  have bC:=fun L=>zHm hp i1 jd Jf (env:=env) (env1:=env++[⟨s.name,inTy 14 u⟩]) yf (by omega) h L
  generalize hr:tgSs p (env++[⟨s.name,inTy 14 u⟩]) s.body=r at*
  obtain⟨e2,o⟩:=r
  simp[aa,hop]
  obtain⟨b1,b2,pC⟩:=pC _
  refine cq pC.call ?_;simp[hk];refine cq (zf _ _ _ _) ?_;simp[h2];refine zX (dB [(2,7)] (by kernel_rfl) ?_)
  simp[zd,hu];refine cq (zFv _ u _) ?_;simp;refine cq (mC _) ?_;simp;refine cq (bC _) ?_
  cases o with
  |some f=>simp[resS,zBb]
  |none=>
   have eh:=gs (fnT p (env++[⟨s.name,inTy 14 u⟩]))
   unfold fnT at eh;simp only[List.map_append,List.map_cons,List.map_nil]at eh;simp[resS,zBb,fnT,eh]
 rw[if_neg hk]
 have dc:(pt.kind==9)=false:=by simpa using hk
 simp only;rw[hS];simp[aa,hop]
 obtain⟨b1,b2,pC⟩:=pC _
 refine cq pC.call ?_;simp[dc];refine cq (zf _ _ _ _) ?_;simp[resS]
def gE(l:List Fi):AV:=match l with| []=>nilS|l=>.p (.sl 4 (l.map Fi.enc))
def gO(p:List It)(l:List Fi):AObj:=.cells [.p (prog p),gE l] 76
theorem zZY(l:List Fi)(f:Fi):gE (l++[f])= .p (.sl 4 ((l++[f]).map Fi.enc)):=by
 cases l<;>rfl
theorem zb5(p:List It)(l:List Fi):LeAs [.p (prog p),gE l] [.p (prog p),.p (.sl 4 (l.map Fi.enc))]:=by
 cases l with
 |nil=>exact .cons (.refl _) (.cons (.p (.nil 4)) (.refl _))
 |cons f l=>exact .refl _
theorem g_wk(p:List It)(l:List Fi):wkL [AObj.cut 3 (gO p l)] [gO p l]:=by
 cases l with
 |nil=>exact⟨⟨rfl,ze _⟩,trivial⟩
 |cons f l=>exact⟨⟨rfl,ze _⟩,trivial⟩
theorem zb6{l:List Fi}(hl:l.length+1<=4294967296)(nm:BA)(t:Ty)(a0 a1:AObj)(S:ASt):zM Tryz.prog 73 [.ptr 0 2 0,Sg nm,tyV t] ([a0,a1,gO p l]::S) (.ret .un) ([a0,a1,gO p (l++[⟨nm,t⟩])]::S):=by
 refine zM.subS (d:=0) (i:=2) (cs:=[.p (prog p),gE l]) (t:=76) rfl (zb5 p l) ?_
 have:=zbQ p l hl nm t ([a0,a1,fnT p l]::S) 0 2 rfl
 unfold gO;rw[zZY];exact this.call
theorem zZZ(hp:PrSm p)(hs:∀s∈l,StT p s)(xa:∀s∈l,StSm s)(mf:l.length<=20000)(he:zA3 env)(hb:env.length+(l.map St.nd).sum<=4000000000)(a0 a1:AObj)(S:ASt):zM Tryz.prog 75 [.ptr 0 2 0,.p (.sl 15 (l.map St.enc))] ([a0,a1,gO p env]::S) (resS (tgSs p env l).2) ([a0,a1,fnT p (zBb env (tgSs p env l)).1]::S):=by
 refine zM.subS (d:=0) (i:=2) (cs:=[.p (prog p),gE env]) (t:=76) rfl (zb5 p env) ?_
 exact zXF hp hs xa mf he hb ([a0,a1,fnT p env]::S) 0 2 rfl
theorem zdC{s:St}(H:StH p s)(hop:s.op=10):StT p s:=by
 obtain⟨hp,xa,hG,va,i1,i2,i3⟩:=H
 intro env he hb S d j h
 have Cd:=stNd s
 obtain⟨_,La,Ra,Bf,Va,bf,kc,Jf,Hi,Cj,jd,oe,He,pe⟩:=xa
 obtain⟨_,Ii,af,Ji,Ki,Li,Mi,Ni⟩:=hG
 have te:s.u3.length<=20000:=kc.1
 have hS:=zAQ h
 have h2:=h
 have Wb:env.length<=4000000000:=by omega
 have gs:=fun o=>zQ o h d j
 simp only[and_self,if_true]at gs;unfold TAt fnT at h2
 have cc:s.u3.length<=maxLen:=by unfold maxLen;omega
 refine zM.intro mixed call36 func36 rfl ?_;simp[ntmps36];refine zp 36 3 (by decide) [.cells (stV s) 49] (sI p env s) (sF s d j) (fun a=>[.cells (stV s) 49,.tok 36 3 a.2.length]::S) (fun a=>s.u3.length-a.1) (0,[]) ⟨Nat.zero_le _,by rw[List.take_zero,tyEs],rfl⟩ ?_ ?_ ?_ ?_
 .simp
 .simp
 .rfl
 rintro⟨q,ts⟩ ⟨hq,pa,ca⟩
 simp only at hq pa ca
 by_cases hlt:q<s.u3.length
 .have aa:(q:Int)<(s.u3.length:Int):=by omega
  have hw:=zB hlt
  obtain⟨n1,n2⟩:=zAU hlt pa
  have hx:=va _ (List.getElem_mem hlt) env he Wb
  have wa:q+1<=4294967296:=by omega
  generalize hy:s.u3[q]=x at*
  have hx:=fun(L:List AObj)=>hx (L::S) (d+1) j h
  cases hr:tyE p env x with
  |error f=>
   rw[hr]at hx;rw[zBm,n2 f hr];simp only;rw[hS];simp[hlt,aa,hy,zm];refine cq (hx _) ?_
   simp[resE,resS]
  |ok t=>
   rw[hr]at hx;simp[hlt,aa,hy,zm];refine cq (hx _) ?_;simp[resE,wa,ca];exact⟨q+1,ts++[t],⟨by omega,n1 t hr,by simp[ca]⟩,by omega,⟨by simp[zd],hw⟩,by simp[ca]⟩
 have aa:¬(q:Int)<(s.u3.length:Int):=by omega
 obtain rfl:q=s.u3.length:=by omega
 rw[List.take_length]at pa;clear hlt hq;rw[zBm,pa];simp only
 have nb:zCl p env s.op s.name s.u2 s.place ts=none:=by unfold zCl;simp[hop]
 rw[nb];simp only[if_neg (show ¬s.op=1 by omega),if_neg (show ¬s.op=2 by omega),if_neg (show ¬s.op=3 by omega),if_neg (show ¬(s.op=6\/s.op=7) by omega),if_neg (show ¬s.op=8 by omega),if_pos hop]
 rw[hS]
 have ye:=Ji hop
 have nq:=(zSx hp he kc.2 pa).1
 simp[aa,hop,h2];simp only[strs];refine zBq (fun q:Nat=>q<=s.names.length) (fun q=>([.any,.any,.any,.ptr 0 0 0,.osl 3 (ts.map Ty.enc) 0 1]++(List.replicate 17 .any++([.ptr 0 2 0]++(List.replicate 188 .any++([.p (.sl 1 (s.names.map fun s=>[pS s])),I s.names.length,I q]++List.replicate 69 .any)))))) (fun q=>[.cells (stV s) 49,.tok 36 3 ts.length,gO p (zCA (s.names.take q) ts)]::S) (fun q=>s.names.length-q) 0 (Nat.zero_le _) ?_ ?_ ?_
 .simp[strs]
 .simp[gO,gE,zCA,strs]
 intro q hq
 have qg:zA3 (zCA (s.names.take q) ts):=zIp _ _ nq
 have Xj:(zCA (s.names.take q) ts).length<=q:=by unfold zCA;simp;omega
 by_cases Id:q<s.names.length
 .have Ac:(q:Int)<(s.names.length:Int):=by omega
  have Vm:q<ts.length:=by omega
  have hw:=zB Id (by have:=Bf.1;unfold maxLen;omega)
  have De:=zQK ts s.names q Id Vm
  have mC:=fun a0 a1=>zb6 (p:=p) (l:=zCA (s.names.take q) ts) (by omega) s.names[q] ts[q] a0 a1 S
  rw[<-De]at mC
  generalize ld:s.names[q]=n1 at*
  generalize pg:ts[q]=f1 at*
  simp[Id,Ac,ld,Vm,pg,zd];refine cq (mC _ _) ?_;simp;exact⟨q+1,by omega,by omega,hw,g_wk _ _⟩
 have Ac:¬(q:Int)<(s.names.length:Int):=by omega
 obtain rfl:q=s.names.length:=by omega
 rw[List.take_length]at qg Xj ⊢
 have bC:=fun a0 a1=>zZZ (p:=p) hp i1 jd Jf qg (by omega) a0 a1 S
 generalize tgSs p (zCA s.names ts) s.body=r at*
 obtain⟨e2,o⟩:=r
 simp[Ac];refine cq (bC _ _) ?_;cases o<;>simp[resS]
end Go.Proofs.YtdflkegnmmkkoaaGreatDoor
namespace Go.Proofs.YtdflkegnmmkkoaaGreatDoor
open Go.RowKit _root_.Go.Proofs.Tryz
theorem zWQ{e:Ex}{d:Int}(h:e.whole d=true):(∀x∈e.args,∃d',x.whole d'=true)/\shL e.op<=(e.args.length:Int)/\1<=e.op/\e.op<=36:=by
 rw[zDu]at h;simp only[Bool.and_eq_true,decide_eq_true_eq]at h
 obtain⟨_,hh,ha⟩:=h
 unfold zLh shO at hh;simp only[Bool.and_eq_true,decide_eq_true_eq]at hh
 obtain⟨⟨h1,h2⟩,_,h3,_⟩:=hh
 refine⟨fun x hx=>?_,h3,h1,h2⟩
 by_cases hl:(e.args.length:Int)<=shM e.op
 .rw[zB4 hl]at ha
  have:=List.all_eq_true.1 ha x hx
  simp only[Bool.and_eq_true]at this;exact⟨_,this.2⟩
 simp[zv,hl]at ha
theorem zTS{p:List It}(hp:PrSm p){env:List Fi}(he:zA3 env)(hl:env.length<=4000000000):∀e:Ex,ExSm e->(∃d,e.whole d=true)->ExC p env e:=by
 refine Ex.ind fun e ih hs hw=>?_
 obtain⟨_,h1,h2,h3,h4,h5⟩:=hs
 obtain⟨d,hw⟩:=hw
 obtain⟨w1,w2,w3,w4⟩:=zWQ hw
 have Oi:∀x∈e.args,ExC p env x:=fun x hx=>ih x hx (h5 x hx) (w1 x hx)
 by_cases a1:e.op=1
 .exact zbX hp he hl e h4 Oi a1
 by_cases a2:e.op=2
 .exact zbY hp he hl e h4 Oi a2
 by_cases a3:e.op=3
 .exact zbZ hp he hl e h4 Oi a3
 by_cases a7:7<=e.op/\e.op<=17
 .exact zcp hp he hl e h4 Oi a7.1 a7.2
 by_cases Gu:e.op=18\/e.op=19\/e.op=20
 .exact zcq hp he hl e h4 Oi Gu
 by_cases Sa:0<zBl e.op
 .refine zcr hp he hl e h4 Oi Sa ?_
  have hop:e.op=21\/e.op=26\/e.op=27\/e.op=29:=by
   unfold zBl at Sa
   repeat' split at Sa
   all_goals omega
  have:shL e.op=1:=by rcases hop with h|h|h|h<;>rw[h]<;>rfl
  omega
 have Wm:zBl e.op=0:=by
  unfold zBl at Sa ⊢
  repeat' split
  all_goals simp_all
 by_cases oq:e.op=23
 .refine zWD hp he hl e h4 Oi oq ?_
  have:shL e.op=1:=by rw[oq];rfl
  omega
 by_cases pq:e.op=31
 .refine zWE hp he hl e h4 Oi pq ?_
  have:shL e.op=1:=by rw[pq];rfl
  omega
 have hne:e.op≠1/\e.op≠2/\e.op≠3/\¬(7<=e.op/\e.op<=17)/\e.op≠18/\e.op≠19/\e.op≠20/\e.op≠23/\e.op≠31:=⟨a1,a2,a3,a7,by omega,by omega,by omega,oq,pq⟩
 by_cases ho:0<(zBF e.op).1
 .refine zcs hp he hl e h4 Oi Wm hne ho fun hb=>?_
  have hop:e.op=22\/e.op=30:=by
   unfold zBF at ho hb
   by_cases Cr:e.op=22
   .exact .inl Cr
   by_cases Dp:e.op=30
   .exact .inr Dp
   rw[if_neg Cr,if_neg Dp]at ho hb;split at hb
   .cases hb
   split at hb
   .cases hb
   split at hb
   .cases hb
   rename_i x1 x2 x3
   rw[if_neg x1,if_neg x2,if_neg x3]at ho;simp at ho
  have:shL e.op=1:=by rcases hop with h|h<;>rw[h]<;>rfl
  omega
 exact zct hp he hl e h4 Oi Wm hne ho
theorem zZa{p:List It}(hp:PrSm p)(Rc:zAC p=true):∀s:St,StSm s->StG p s->StT p s:=by
 refine St.ind fun s i1 i2 i3 hs hg=>?_
 have Qc:=hs
 have Hb:=hg
 obtain⟨_,La,Ra,Bf,Va,bf,kc,Jf,Hi,Cj,jd,oe,He,pe⟩:=Qc
 obtain⟨_,Ii,af,Ji,Ki,Li,Mi,Ni⟩:=Hb
 have va:∀x∈s.u3,∀env,zA3 env->env.length<=4000000000->ExC p env x:=fun x hx env he hl=>zTS hp he hl x (kc.2 x hx) (Ii x hx)
 have j1:∀x∈s.body,StT p x:=fun x hx=>i1 x hx (jd x hx) (Li x hx)
 have j2:∀x∈s.els,StT p x:=fun x hx=>i2 x hx (oe x hx) (Mi x hx)
 have j3:∀a∈s.arms,∀x∈a.body,StT p x:=fun a ha x hx=>i3 a ha x hx (pe a ha x hx) (Ni a ha x hx)
 have H:StH p s:=⟨hp,hs,hg,va,j1,j2,j3⟩
 by_cases a1:s.op=1
 .exact zc4 H a1
 by_cases a2:s.op=2
 .exact zc7 H a2
 by_cases a3:s.op=3
 .exact zc8 H a3
 by_cases a6:s.op=6\/s.op=7
 .exact zc9 H a6
 by_cases a8:s.op=8
 .exact zdA H a8
 by_cases Gj:s.op=10
 .exact zdC H Gj
 by_cases ol:s.op=11
 .exact zdB H ol Rc
 by_cases Dr:s.op=12
 .exact zc5 H Dr
 exact zc6 H ⟨a1,a2,a3,by omega,by omega,a8,Gj,ol,Dr⟩
end Go.Proofs.YtdflkegnmmkkoaaGreatDoor
