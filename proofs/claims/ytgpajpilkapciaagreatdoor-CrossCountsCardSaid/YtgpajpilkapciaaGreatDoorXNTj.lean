/- A part of the proof. -/
import Derived.Test.YtgpajpilkapciaaGreatDoorXNTi
set_option linter.unusedVariables false
set_option linter.unusedSimpArgs false
set_option maxRecDepth 100000
set_option maxHeartbeats 32000000
namespace Go.Proofs.YtgpajpilkapciaaGreatDoor
open Go.RowKit _root_.Go.Proofs.Tryz
attribute [local simp] List.replicate List.range List.range.loop zf za zn zb List.forall_mem_cons List.contains_cons List.contains_nil List.find? zm zl zZ
attribute [local simp] zAa zu zAs zAb zAC zAc zAt zv zi zt zAY zAr zAB zAZ zAd zAe zAu zAv zCJ zAL zAM cutL cutO zA5 ThrK
def resE(r:Except Flt Ty):ARes:=match r with| .ok t=>.ret (tyV t)| .error f=>.thr (fltW f)
def ExC(p:List It)(env:List Fi)(x:Ex):Prop:=∀(S:ASt) (d j:Nat),TAt p S d j env->zL Tryz.prog 45 [.ptr d j 0,exV x] S (resE (tyE p env x)) S
theorem zFt{p:List It}{env:List Fi}{e:Ex}{f:Flt}(h:tyEs p env e.args= .error f):resE (tyE p env e)= .thr (fltW f):=by rw[zI3,h];rfl
theorem zFu{p:List It}{env:List Fi}{e:Ex}{ts:List Ty}(h:tyEs p env e.args= .ok ts):resE (tyE p env e)=resT (ownT p env e.op e.name e.u4 e.place ts) e.pos:=by
 rw[zI3,h];simp only;cases ownT p env e.op e.name e.u4 e.place ts<;>rfl
def zXD(r:Except Flt Ty):ARes:=match r with| .ok t=>.ret (.agg [U t.kind,Sg t.name,nilS])| .error f=>.thr (fltW f)
theorem zL.bareE{P:Program}{K:FuncId}{args:List AV}{S S':ASt}{r:Except Flt Ty}(hr:∀t,r= .ok t->t.args=[])(h:zL P K args S (zXD r) S'):zL P K args S (resE r) S':=by
 cases r with
 |error n=>exact h
 |ok t=>exact zL.bare (hr t rfl) h
theorem zEY{p:List It}{env:List Fi}{e:Ex}{f:Flt}(h:tyEs p env e.args= .error f):zXD (tyE p env e)= .thr (fltW f):=by rw[zI3,h];rfl
theorem zEZ{p:List It}{env:List Fi}{e:Ex}{ts:List Ty}(h:tyEs p env e.args= .ok ts):zXD (tyE p env e)=zBx (ownT p env e.op e.name e.u4 e.place ts) e.pos:=by
 rw[zI3,h];simp only;cases ownT p env e.op e.name e.u4 e.place ts<;>rfl
theorem zFv{p:List It}{env:List Fi}{e:Ex}(hop:(e.op=1\/e.op=2\/e.op=3)\/(7<=e.op/\e.op<=17)\/e.op=31):∀t,tyE p env e= .ok t->t.args=[]:=fun t ht=>by
 rw[zI3]at ht;split at ht
 .cases ht
 rename_i l hl
 split at ht
 .rename_i u hu
  cases ht;unfold ownT at hu
  have Ka:¬0<zBl e.op:=by
   unfold zBl;rw[if_neg (by omega),if_neg (by omega),if_neg (by omega),if_neg (by omega)]
   omega
  rcases hop with h|h|h
  .rw[if_pos h]at hu;cases hu;rfl
  .rw[if_neg (by omega),if_pos h]at hu
   split at hu
   .cases hu;rfl
   cases hu
  rw[if_neg (by omega),if_neg (by omega),if_neg (by omega),if_neg Ka,if_neg (by omega),if_pos h]at hu
  split at hu
  .cases hu;rfl
  cases hu
 cases ht
def zFw:Value:=.agg #[.int .u8 1,.int .u8 1,.int .u8 2,.int .u8 2,.int .u8 1,.int .u8 1,.int .u8 1,.int .u8 1,.int .u8 1,.int .u8 1,.int .u8 1,.int .u8 1,.int .u8 1,.int .u8 1,.int .u8 1,.int .u8 2,.int .u8 1,.int .u8 2,.int .u8 2,.int .u8 2,.int .u8 2,.int .u8 2]
section
variable(op:Int)(dst:Option Tmp)(x ix:Operand)(ty:TypeId)(pos:String)(after:Array Edge)(guard:Option (Nat × Bool))(fr:List AV)
theorem zZR(h7:7<=op)(h17:op<=17)(hx:evA fr x=zW8)(hy:evA fr ix=U (op-7)):genP Tryz.prog ⟨dst,.index 142 x ix,ty,pos,after,guard⟩ fr=some (.agg [U (zGr op).1,U (zGr op).2]):=by
 have v1:zBM (evA fr x)=some zFw:=by rw[hx];rfl
 have v2:zBM (evA fr ix)=some (.int .u8 (op-7)):=by rw[hy];rfl
 have h1:(zGo (.index 142 x ix)&&zR fr (Op.operands (.index 142 x ix)).toList)=true:=by
  show(true&&zR fr [x,ix])=true
  rw[Bool.true_and,zR,zR,zR,v1,v2];rfl
 have k0:zT Tryz.prog (Instr.index 142 zFw (.int .u8 0))=some (.agg #[.int .u8 1,.int .u8 1]):=by kernel_rfl
 have k1:zT Tryz.prog (Instr.index 142 zFw (.int .u8 1))=some (.agg #[.int .u8 2,.int .u8 2]):=by kernel_rfl
 have k2:zT Tryz.prog (Instr.index 142 zFw (.int .u8 2))=some (.agg #[.int .u8 1,.int .u8 1]):=by kernel_rfl
 have k3:zT Tryz.prog (Instr.index 142 zFw (.int .u8 3))=some (.agg #[.int .u8 1,.int .u8 1]):=by kernel_rfl
 have k4:zT Tryz.prog (Instr.index 142 zFw (.int .u8 4))=some (.agg #[.int .u8 1,.int .u8 1]):=by kernel_rfl
 have k5:zT Tryz.prog (Instr.index 142 zFw (.int .u8 5))=some (.agg #[.int .u8 1,.int .u8 1]):=by kernel_rfl
 have k6:zT Tryz.prog (Instr.index 142 zFw (.int .u8 6))=some (.agg #[.int .u8 1,.int .u8 1]):=by kernel_rfl
 have k7:zT Tryz.prog (Instr.index 142 zFw (.int .u8 7))=some (.agg #[.int .u8 1,.int .u8 2]):=by kernel_rfl
 have k8:zT Tryz.prog (Instr.index 142 zFw (.int .u8 8))=some (.agg #[.int .u8 1,.int .u8 2]):=by kernel_rfl
 have k9:zT Tryz.prog (Instr.index 142 zFw (.int .u8 9))=some (.agg #[.int .u8 2,.int .u8 2]):=by kernel_rfl
 have bi:zT Tryz.prog (Instr.index 142 zFw (.int .u8 10))=some (.agg #[.int .u8 2,.int .u8 2]):=by kernel_rfl
 have ua:zT Tryz.prog (Instr.index 142 zFw (.int .u8 (op-7)))=some (.agg #[.int .u8 (zGr op).1,.int .u8 (zGr op).2]):=by
  have ho:op=7\/op=8\/op=9\/op=10\/op=11\/op=12\/op=13\/op=14\/op=15\/op=16\/op=17:=by omega
  rcases ho with rfl|rfl|rfl|rfl|rfl|rfl|rfl|rfl|rfl|rfl|rfl
  .exact k0
  .exact k1
  .exact k2
  .exact k3
  .exact k4
  .exact k5
  .exact k6
  .exact k7
  .exact k8
  .exact k9
  exact bi
 have h2:zT Tryz.prog (execOp (fun z=>(zBM (evA fr z)).getD undef) ⟨dst,.index 142 x ix,ty,pos,after,guard⟩)=some (.value (.agg #[.int .u8 (zGr op).1,.int .u8 (zGr op).2])):=by
  have e1:(zBM (evA fr x)).getD undef=zFw:=by rw[v1];rfl
  have e2:(zBM (evA fr ix)).getD undef= .int .u8 (op-7):=by rw[v2];rfl
  unfold execOp;simp only[e1,e2];exact zBp _ _ _ ua
 unfold genP;simp only;rw[if_pos h1,h2];rfl
end
theorem zZS{p:List It}(hp:PrSm p){env:List Fi}(he:zh env)(hl:env.length<=4000000000)(e:Ex)(ka:e.args.length<=20000)(ih:∀x∈e.args,ExC p env x)(hop:e.op=1):ExC p env e:=by
 intro S d j h;refine zL.bareE (zFv (.inl (by omega))) ?_
 have h2:=h
 unfold TAt fnT at h2
 have xb:e.args.length<=maxLen:=by unfold maxLen;omega
 refine zL.intro mixed call45 func45 rfl ?_;simp[ntmps45];refine zj 35 3 (by decide) [.cells [U e.op,I e.int,Sg e.name,Sg e.u4,Sg e.place.name,.p (strs e.place.path),.p (.sl 8 (e.args.map Ex.enc)),I e.pos] 42,.cells [U 0,Sg emS,nilS] 35] (fun a:Nat × List Ty=>a.1<=e.args.length/\tyEs p env (e.args.take a.1)= .ok a.2/\a.2.length=a.1) (fun a=>([.ptr (d+1) j 0,.any,.any,.ptr 0 0 0,.ptr 0 1 0,.osl 3 (a.2.map Ty.enc) 0 2,.any,.any,.any,.any,.any,.any,.any,.any,.p (.sl 8 (e.args.map Ex.enc)),I e.args.length,I a.1]++List.replicate 141 .any)) (fun a=>[.cells [U e.op,I e.int,Sg e.name,Sg e.u4,Sg e.place.name,.p (strs e.place.path),.p (.sl 8 (e.args.map Ex.enc)),I e.pos] 42,.cells [U 0,Sg emS,nilS] 35,.tok 35 3 a.2.length]::S) (fun a=>e.args.length-a.1) (0,[]) ⟨Nat.zero_le _,by rw[List.take_zero,tyEs],rfl⟩ ?_ ?_ ?_ ?_
 .simp
 .simp
 .rfl
 rintro⟨q,ts⟩ ⟨hq,pa,ca⟩
 simp only at hq pa ca
 by_cases hlt:q<e.args.length
 .have aa:(q:Int)<(e.args.length:Int):=by omega
  have hw:=zA hlt
  obtain⟨n1,n2⟩:=zAP hlt pa
  have hx:=ih _ (List.getElem_mem hlt)
  have va:q+1<=4294967296:=by omega
  generalize hy:e.args[q]=x at*
  have hx:=fun(L:List AObj)=>hx (L::S) (d+1) j h
  cases hr:tyE p env x with
  |error f=>
   rw[hr]at hx;rw[zEY (n2 f hr)];simp[hlt,aa,hy,zy];refine cq (hx _) ?_
   simp[resE]
  |ok t=>
   rw[hr]at hx;simp[hlt,aa,hy,zy];refine cq (hx _) ?_;simp[resE,va,ca];exact⟨q+1,ts++[t],⟨by omega,n1 t hr,by simp[ca]⟩,by omega,⟨by simp[zP],hw⟩,by simp[ca]⟩
 have aa:¬(q:Int)<(e.args.length:Int):=by omega
 obtain rfl:q=e.args.length:=by omega
 rw[List.take_length]at pa;rw[zEZ pa];clear hlt hq
 have oa:ownT p env e.op e.name e.u4 e.place ts= .ok (zAN 1):=by unfold ownT;rw[if_pos (by omega),hop]
 rw[oa];simp[aa,hop,resT,zBx,zAN,Ty.kind,Ty.name,Ty.args]
theorem zZT{p:List It}(hp:PrSm p){env:List Fi}(he:zh env)(hl:env.length<=4000000000)(e:Ex)(ka:e.args.length<=20000)(ih:∀x∈e.args,ExC p env x)(hop:e.op=2):ExC p env e:=by
 intro S d j h;refine zL.bareE (zFv (.inl (by omega))) ?_
 have h2:=h
 unfold TAt fnT at h2
 have xb:e.args.length<=maxLen:=by unfold maxLen;omega
 refine zL.intro mixed call45 func45 rfl ?_;simp[ntmps45];refine zj 35 3 (by decide) [.cells [U e.op,I e.int,Sg e.name,Sg e.u4,Sg e.place.name,.p (strs e.place.path),.p (.sl 8 (e.args.map Ex.enc)),I e.pos] 42,.cells [U 0,Sg emS,nilS] 35] (fun a:Nat × List Ty=>a.1<=e.args.length/\tyEs p env (e.args.take a.1)= .ok a.2/\a.2.length=a.1) (fun a=>([.ptr (d+1) j 0,.any,.any,.ptr 0 0 0,.ptr 0 1 0,.osl 3 (a.2.map Ty.enc) 0 2,.any,.any,.any,.any,.any,.any,.any,.any,.p (.sl 8 (e.args.map Ex.enc)),I e.args.length,I a.1]++List.replicate 141 .any)) (fun a=>[.cells [U e.op,I e.int,Sg e.name,Sg e.u4,Sg e.place.name,.p (strs e.place.path),.p (.sl 8 (e.args.map Ex.enc)),I e.pos] 42,.cells [U 0,Sg emS,nilS] 35,.tok 35 3 a.2.length]::S) (fun a=>e.args.length-a.1) (0,[]) ⟨Nat.zero_le _,by rw[List.take_zero,tyEs],rfl⟩ ?_ ?_ ?_ ?_
 .simp
 .simp
 .rfl
 rintro⟨q,ts⟩ ⟨hq,pa,ca⟩
 simp only at hq pa ca
 by_cases hlt:q<e.args.length
 .have aa:(q:Int)<(e.args.length:Int):=by omega
  have hw:=zA hlt
  obtain⟨n1,n2⟩:=zAP hlt pa
  have hx:=ih _ (List.getElem_mem hlt)
  have va:q+1<=4294967296:=by omega
  generalize hy:e.args[q]=x at*
  have hx:=fun(L:List AObj)=>hx (L::S) (d+1) j h
  cases hr:tyE p env x with
  |error f=>
   rw[hr]at hx;rw[zEY (n2 f hr)];simp[hlt,aa,hy,zy];refine cq (hx _) ?_
   simp[resE]
  |ok t=>
   rw[hr]at hx;simp[hlt,aa,hy,zy];refine cq (hx _) ?_;simp[resE,va,ca];exact⟨q+1,ts++[t],⟨by omega,n1 t hr,by simp[ca]⟩,by omega,⟨by simp[zP],hw⟩,by simp[ca]⟩
 have aa:¬(q:Int)<(e.args.length:Int):=by omega
 obtain rfl:q=e.args.length:=by omega
 rw[List.take_length]at pa;rw[zEZ pa];clear hlt hq
 have oa:ownT p env e.op e.name e.u4 e.place ts= .ok (zAN 2):=by unfold ownT;rw[if_pos (by omega),hop]
 rw[oa];simp[aa,hop,resT,zBx,zAN,Ty.kind,Ty.name,Ty.args]
theorem zZU{p:List It}(hp:PrSm p){env:List Fi}(he:zh env)(hl:env.length<=4000000000)(e:Ex)(ka:e.args.length<=20000)(ih:∀x∈e.args,ExC p env x)(hop:e.op=3):ExC p env e:=by
 intro S d j h;refine zL.bareE (zFv (.inl (by omega))) ?_
 have h2:=h
 unfold TAt fnT at h2
 have xb:e.args.length<=maxLen:=by unfold maxLen;omega
 refine zL.intro mixed call45 func45 rfl ?_;simp[ntmps45];refine zj 35 3 (by decide) [.cells [U e.op,I e.int,Sg e.name,Sg e.u4,Sg e.place.name,.p (strs e.place.path),.p (.sl 8 (e.args.map Ex.enc)),I e.pos] 42,.cells [U 0,Sg emS,nilS] 35] (fun a:Nat × List Ty=>a.1<=e.args.length/\tyEs p env (e.args.take a.1)= .ok a.2/\a.2.length=a.1) (fun a=>([.ptr (d+1) j 0,.any,.any,.ptr 0 0 0,.ptr 0 1 0,.osl 3 (a.2.map Ty.enc) 0 2,.any,.any,.any,.any,.any,.any,.any,.any,.p (.sl 8 (e.args.map Ex.enc)),I e.args.length,I a.1]++List.replicate 141 .any)) (fun a=>[.cells [U e.op,I e.int,Sg e.name,Sg e.u4,Sg e.place.name,.p (strs e.place.path),.p (.sl 8 (e.args.map Ex.enc)),I e.pos] 42,.cells [U 0,Sg emS,nilS] 35,.tok 35 3 a.2.length]::S) (fun a=>e.args.length-a.1) (0,[]) ⟨Nat.zero_le _,by rw[List.take_zero,tyEs],rfl⟩ ?_ ?_ ?_ ?_
 .simp
 .simp
 .rfl
 rintro⟨q,ts⟩ ⟨hq,pa,ca⟩
 simp only at hq pa ca
 by_cases hlt:q<e.args.length
 .have aa:(q:Int)<(e.args.length:Int):=by omega
  have hw:=zA hlt
  obtain⟨n1,n2⟩:=zAP hlt pa
  have hx:=ih _ (List.getElem_mem hlt)
  have va:q+1<=4294967296:=by omega
  generalize hy:e.args[q]=x at*
  have hx:=fun(L:List AObj)=>hx (L::S) (d+1) j h
  cases hr:tyE p env x with
  |error f=>
   rw[hr]at hx;rw[zEY (n2 f hr)];simp[hlt,aa,hy,zy];refine cq (hx _) ?_
   simp[resE]
  |ok t=>
   rw[hr]at hx;simp[hlt,aa,hy,zy];refine cq (hx _) ?_;simp[resE,va,ca];exact⟨q+1,ts++[t],⟨by omega,n1 t hr,by simp[ca]⟩,by omega,⟨by simp[zP],hw⟩,by simp[ca]⟩
 have aa:¬(q:Int)<(e.args.length:Int):=by omega
 obtain rfl:q=e.args.length:=by omega
 rw[List.take_length]at pa;rw[zEZ pa];clear hlt hq
 have oa:ownT p env e.op e.name e.u4 e.place ts= .ok (zAN 3):=by unfold ownT;rw[if_pos (by omega),hop]
 rw[oa];simp[aa,hop,resT,zBx,zAN,Ty.kind,Ty.name,Ty.args]
theorem zaW{p:List It}(hp:PrSm p){env:List Fi}(he:zh env)(hl:env.length<=4000000000)(e:Ex)(ka:e.args.length<=20000)(ih:∀x∈e.args,ExC p env x)(h7:7<=e.op)(h17:e.op<=17):ExC p env e:=by
 intro S d j h
 have f1:(e.op==1)=false:=by simp;omega
 have f2:(e.op==2)=false:=by simp;omega
 have f3:(e.op==3)=false:=by simp;omega
 have rC:=fun S=>zZK S
 have Wt:IntKind.u8.wrap (e.op-7)=e.op-7:=by unfold IntKind.wrap;simp[IntKind.bits,IntKind.signed];omega
 refine zL.bareE (zFv (.inr (.inl ⟨h7,h17⟩))) ?_
 have h2:=h
 unfold TAt fnT at h2
 have xb:e.args.length<=maxLen:=by unfold maxLen;omega
 refine zL.intro mixed call45 func45 rfl ?_;simp[ntmps45];refine zj 35 3 (by decide) [.cells [U e.op,I e.int,Sg e.name,Sg e.u4,Sg e.place.name,.p (strs e.place.path),.p (.sl 8 (e.args.map Ex.enc)),I e.pos] 42,.cells [U 0,Sg emS,nilS] 35] (fun a:Nat × List Ty=>a.1<=e.args.length/\tyEs p env (e.args.take a.1)= .ok a.2/\a.2.length=a.1) (fun a=>([.ptr (d+1) j 0,.any,.any,.ptr 0 0 0,.ptr 0 1 0,.osl 3 (a.2.map Ty.enc) 0 2,.any,.any,.any,.any,.any,.any,.any,.any,.p (.sl 8 (e.args.map Ex.enc)),I e.args.length,I a.1]++List.replicate 141 .any)) (fun a=>[.cells [U e.op,I e.int,Sg e.name,Sg e.u4,Sg e.place.name,.p (strs e.place.path),.p (.sl 8 (e.args.map Ex.enc)),I e.pos] 42,.cells [U 0,Sg emS,nilS] 35,.tok 35 3 a.2.length]::S) (fun a=>e.args.length-a.1) (0,[]) ⟨Nat.zero_le _,by rw[List.take_zero,tyEs],rfl⟩ ?_ ?_ ?_ ?_
 .simp
 .simp
 .rfl
 rintro⟨q,ts⟩ ⟨hq,pa,ca⟩
 simp only at hq pa ca
 by_cases hlt:q<e.args.length
 .have aa:(q:Int)<(e.args.length:Int):=by omega
  have hw:=zA hlt
  obtain⟨n1,n2⟩:=zAP hlt pa
  have hx:=ih _ (List.getElem_mem hlt)
  have va:q+1<=4294967296:=by omega
  generalize hy:e.args[q]=x at*
  have hx:=fun(L:List AObj)=>hx (L::S) (d+1) j h
  cases hr:tyE p env x with
  |error f=>
   rw[hr]at hx;rw[zEY (n2 f hr)];simp[hlt,aa,hy,zy];refine cq (hx _) ?_
   simp[resE]
  |ok t=>
   rw[hr]at hx;simp[hlt,aa,hy,zy];refine cq (hx _) ?_;simp[resE,va,ca];exact⟨q+1,ts++[t],⟨by omega,n1 t hr,by simp[ca]⟩,by omega,⟨by simp[zP],hw⟩,by simp[ca]⟩
 have aa:¬(q:Int)<(e.args.length:Int):=by omega
 obtain rfl:q=e.args.length:=by omega
 rw[List.take_length]at pa;rw[zEZ pa];clear hlt hq
 have oa:ownT p env e.op e.name e.u4 e.place ts=if(ts.all fun t=>t.kind==(zGr e.op).1)=true then .ok (zAN (zGr e.op).2)else .error 100:=by unfold ownT;rw[if_neg (by omega),if_pos ⟨h7,h17⟩]
 rw[oa]
 have i1:=zZR e.op (h7:=h7) (h17:=h17)
 generalize (zGr e.op).1=r1 at*
 generalize (zGr e.op).2=r2 at*
 generalize td:(ts.all fun t=>t.kind==r1)=al
 simp[aa,f1,f2,f3,h7,h17];refine zQ (zCe [(5,6,8)] [(2,0)] (by kernel_rfl) (by kernel_rfl) (by kernel_rfl) (by simp) ?_)
 simp;refine cq (rC _) ?_;simp[Wt,i1];refine zBg (fun q:Nat=>q<=ts.length/\∀i (h:i<ts.length),i<q->ts[i].kind=r1) (fun q=>([.any,.any,.any,.ptr 0 0 0,.ptr 0 1 0,.any,.any,.any,.ptr 0 3 0]++(List.replicate 47 .any++([.osl 3 (ts.map Ty.enc) 0 2,I ts.length,I q]++List.replicate 99 .any)))) (fun q=>[.cells [U e.op,I e.int,Sg e.name,Sg e.u4,Sg e.place.name,.p (strs e.place.path),.p (.sl 8 (e.args.map Ex.enc)),I e.pos] 42,.cells [U 0,Sg emS,nilS] 35,.tok 35 3 ts.length,.cells [U r1,U r2] 141]::S) (fun q=>ts.length-q) 0 ⟨Nat.zero_le _,fun i h hi=>by omega⟩ ?_ ?_ ?_
 .simp
 .simp
 rintro q ⟨hq,ja⟩
 by_cases Lc:q<ts.length
 .have tc:(q:Int)<(ts.length:Int):=by omega
  have hw:=zA Lc (by omega)
  have Ra:ts[q].kind=r1->∀i (h:i<ts.length),i<q+1->ts[i].kind=r1:=fun he i h hi=>by
   by_cases Dg:i=q
   .subst Dg;exact he
   exact ja i h (by omega)
  have Mb:ts[q].kind≠r1->al=false:=fun he=>by
   rw[<-td,List.all_eq_false];exact⟨ts[q],List.getElem_mem Lc,by simpa using he⟩
  generalize hy:ts[q]=u at*
  by_cases hk:u.kind=r1
  .simp[Lc,tc,hy,zP,hk]
   refine cq (zY _ _ _ _) ?_;simp;exact⟨q+1,⟨by omega,Ra hk⟩,by omega,hw⟩
  have Vb:(u.kind==r1)=false:=by simpa using hk
  rw[Mb hk];simp[Lc,tc,hy,zP,Vb];refine cq (zY _ _ _ _) ?_;simp[resT,zBx]
 have tc:¬(q:Int)<(ts.length:Int):=by omega
 have Dm:al=true:=by
  rw[<-td,List.all_eq_true];intro t ht
  obtain⟨i,hi,rfl⟩:=List.getElem_of_mem ht
  simpa using ja i hi (by omega)
 rw[Dm];simp[tc,resT,zBx,zAN,Ty.kind,Ty.name,Ty.args]
end Go.Proofs.YtgpajpilkapciaaGreatDoor
namespace Go.Proofs.YtgpajpilkapciaaGreatDoor
open Go.RowKit _root_.Go.Proofs.Tryz
attribute [local simp] List.replicate List.range List.range.loop zf za zn zb List.forall_mem_cons List.contains_cons List.contains_nil List.find? zm zl zZ
attribute [local simp] zAa zu zAs zAb zAC zAc zAt zv zi zt zAY zAr zAB zAZ zAd zAe zAu zAv zCJ zAL zAM cutL cutO zA5 ThrK
variable{env:List Fi}{p:List It}
theorem zaX(hp:PrSm p)(he:zh env)(hl:env.length<=4000000000)(e:Ex)(ka:e.args.length<=20000)(ih:∀x∈e.args,ExC p env x)(hop:e.op=18\/e.op=19\/e.op=20):ExC p env e:=by
 intro S d j h
 have h2:=h
 unfold TAt fnT at h2
 have xb:e.args.length<=maxLen:=by unfold maxLen;omega
 refine zL.intro mixed call45 func45 rfl ?_;simp[ntmps45];refine zj 35 3 (by decide) [.cells [U e.op,I e.int,Sg e.name,Sg e.u4,Sg e.place.name,.p (strs e.place.path),.p (.sl 8 (e.args.map Ex.enc)),I e.pos] 42,.cells [U 0,Sg emS,nilS] 35] (fun a:Nat × List Ty=>a.1<=e.args.length/\tyEs p env (e.args.take a.1)= .ok a.2/\a.2.length=a.1) (fun a=>([.ptr (d+1) j 0,.any,.any,.ptr 0 0 0,.ptr 0 1 0,.osl 3 (a.2.map Ty.enc) 0 2,.any,.any,.any,.any,.any,.any,.any,.any,.p (.sl 8 (e.args.map Ex.enc)),I e.args.length,I a.1]++List.replicate 141 .any)) (fun a=>[.cells [U e.op,I e.int,Sg e.name,Sg e.u4,Sg e.place.name,.p (strs e.place.path),.p (.sl 8 (e.args.map Ex.enc)),I e.pos] 42,.cells [U 0,Sg emS,nilS] 35,.tok 35 3 a.2.length]::S) (fun a=>e.args.length-a.1) (0,[]) ⟨Nat.zero_le _,by rw[List.take_zero,tyEs],rfl⟩ ?_ ?_ ?_ ?_
 .simp
 .simp
 .rfl
 rintro⟨q,ts⟩ ⟨hq,pa,ca⟩
 simp only at hq pa ca
 by_cases hlt:q<e.args.length
 .have aa:(q:Int)<(e.args.length:Int):=by omega
  have hw:=zA hlt
  obtain⟨n1,n2⟩:=zAP hlt pa
  have hx:=ih _ (List.getElem_mem hlt)
  have va:q+1<=4294967296:=by omega
  generalize hy:e.args[q]=x at*
  have hx:=fun(L:List AObj)=>hx (L::S) (d+1) j h
  cases hr:tyE p env x with
  |error f=>
   rw[hr]at hx;rw[zFt (n2 f hr)];simp[hlt,aa,hy,zy];refine cq (hx _) ?_
   simp[resE]
  |ok t=>
   rw[hr]at hx;simp[hlt,aa,hy,zy];refine cq (hx _) ?_;simp[resE,va,ca];exact⟨q+1,ts++[t],⟨by omega,n1 t hr,by simp[ca]⟩,by omega,⟨by simp[zP],hw⟩,by simp[ca]⟩
 have aa:¬(q:Int)<(e.args.length:Int):=by omega
 obtain rfl:q=e.args.length:=by omega
 rw[List.take_length]at pa;rw[zFu pa];clear hlt hq
 have oa:ownT p env e.op e.name e.u4 e.place ts=zHt p e.op e.name e.u4 ts:=by unfold ownT;rw[if_neg (by omega),if_neg (by omega),if_pos hop]
 rw[oa]
 have nC:=fun(i1 i2:Nat) (L:List AObj)=>zL.sub (.cons (.refl _) (.cons (.refl _) (.cons (.osl (d:=i1) (i:=i2) (.refl _)) (.refl _)))) (zUS p hp env e ts (by omega) (L::S) (d+1) j h hop)
 generalize zHt p e.op e.name e.u4 ts=r at*
 rcases hop with hop|hop|hop
 .simp[aa,hop]
  simp only[exV,hop]at nC;refine cq (nC _ _ _) ?_;cases r<;>simp[resT,zBx]
 .simp[aa,hop]
  simp only[exV,hop]at nC;refine cq (nC _ _ _) ?_;cases r<;>simp[resT,zBx]
 simp[aa,hop]
 simp only[exV,hop]at nC;refine cq (nC _ _ _) ?_;cases r<;>simp[resT,zBx]
theorem zaY(hp:PrSm p)(he:zh env)(hl:env.length<=4000000000)(e:Ex)(ka:e.args.length<=20000)(ih:∀x∈e.args,ExC p env x)(Ka:0<zBl e.op)(Jd:1<=e.args.length):ExC p env e:=by
 intro S d j h
 have hop:e.op=21\/e.op=26\/e.op=27\/e.op=29:=by
  unfold zBl at Ka
  repeat' split at Ka
  all_goals omega
 have f1:(e.op==1)=false:=by simp;omega
 have f2:(e.op==2)=false:=by simp;omega
 have f3:(e.op==3)=false:=by simp;omega
 have oh:(e.op==18)=false:=by simp;omega
 have ph:(e.op==19)=false:=by simp;omega
 have qh:(e.op==20)=false:=by simp;omega
 have h7:7<=e.op:=by omega
 have h17:¬e.op<=17:=by omega
 have mC:=fun S=>zLI e.op S
 have oC:=fun t S=>zNU t S
 have wC:=fun k t S=>zFP k t S
 have h2:=h
 unfold TAt fnT at h2
 have xb:e.args.length<=maxLen:=by unfold maxLen;omega
 refine zL.intro mixed call45 func45 rfl ?_;simp[ntmps45];refine zj 35 3 (by decide) [.cells [U e.op,I e.int,Sg e.name,Sg e.u4,Sg e.place.name,.p (strs e.place.path),.p (.sl 8 (e.args.map Ex.enc)),I e.pos] 42,.cells [U 0,Sg emS,nilS] 35] (fun a:Nat × List Ty=>a.1<=e.args.length/\tyEs p env (e.args.take a.1)= .ok a.2/\a.2.length=a.1) (fun a=>([.ptr (d+1) j 0,.any,.any,.ptr 0 0 0,.ptr 0 1 0,.osl 3 (a.2.map Ty.enc) 0 2,.any,.any,.any,.any,.any,.any,.any,.any,.p (.sl 8 (e.args.map Ex.enc)),I e.args.length,I a.1]++List.replicate 141 .any)) (fun a=>[.cells [U e.op,I e.int,Sg e.name,Sg e.u4,Sg e.place.name,.p (strs e.place.path),.p (.sl 8 (e.args.map Ex.enc)),I e.pos] 42,.cells [U 0,Sg emS,nilS] 35,.tok 35 3 a.2.length]::S) (fun a=>e.args.length-a.1) (0,[]) ⟨Nat.zero_le _,by rw[List.take_zero,tyEs],rfl⟩ ?_ ?_ ?_ ?_
 .simp
 .simp
 .rfl
 rintro⟨q,ts⟩ ⟨hq,pa,ca⟩
 simp only at hq pa ca
 by_cases hlt:q<e.args.length
 .have aa:(q:Int)<(e.args.length:Int):=by omega
  have hw:=zA hlt
  obtain⟨n1,n2⟩:=zAP hlt pa
  have hx:=ih _ (List.getElem_mem hlt)
  have va:q+1<=4294967296:=by omega
  generalize hy:e.args[q]=x at*
  have hx:=fun(L:List AObj)=>hx (L::S) (d+1) j h
  cases hr:tyE p env x with
  |error f=>
   rw[hr]at hx;rw[zFt (n2 f hr)];simp[hlt,aa,hy,zy];refine cq (hx _) ?_
   simp[resE]
  |ok t=>
   rw[hr]at hx;simp[hlt,aa,hy,zy];refine cq (hx _) ?_;simp[resE,va,ca];exact⟨q+1,ts++[t],⟨by omega,n1 t hr,by simp[ca]⟩,by omega,⟨by simp[zP],hw⟩,by simp[ca]⟩
 have aa:¬(q:Int)<(e.args.length:Int):=by omega
 obtain rfl:q=e.args.length:=by omega
 rw[List.take_length]at pa;rw[zFu pa];clear hlt hq
 have oa:ownT p env e.op e.name e.u4 e.place ts=if(ts.headD zTy).owned=true then .ok (inTy (zBl e.op) (ts.headD zTy))else .error 101:=by unfold ownT;rw[if_neg (by omega),if_neg (by omega),if_neg (by omega),if_pos Ka]
 generalize Xt:zBl e.op=mk at*
 cases ts with
 |nil=>simp at ca;omega
 |cons v l1=>
 cases ho:v.owned with
 |true=>
  rw[show ownT p env e.op e.name e.u4 e.place (v::l1)= .ok (inTy mk v)from oa.trans (if_pos ho)]
  simp[aa,f1,f2,f3,oh,ph,qh,h7,h17];refine cq ((mC _).call) ?_;simp[Ka];refine zQ (dB [(5,3)] (by kernel_rfl) ?_)
  simp[zP];refine cq (oC _ _) ?_;rw[ho];simp;refine cq ((zY _ _ _ _).det) ?_;simp;refine zQ (dB [(5,2)] (by kernel_rfl) ?_)
  simp[zP];refine cq (mC _) ?_;simp;refine cq (wC _ _ _) ?_
  simp[resT,zBx]
 |false=>
  rw[show ownT p env e.op e.name e.u4 e.place (v::l1)= .error 101 from oa.trans (if_neg (by rw[List.headD_cons,ho];simp))]
  simp[aa,f1,f2,f3,oh,ph,qh,h7,h17];refine cq ((mC _).call) ?_;simp[Ka];refine z5 6 [6] [(5,3)] (by kernel_rfl) (by kernel_rfl) (by kernel_rfl) ?_
  simp[zP];refine cq (oC _ _) ?_;rw[ho];simp;exact⟨_,_,zY _ _ _ _,by simp[resT,zBx]⟩
theorem zUT(hp:PrSm p)(he:zh env)(hl:env.length<=4000000000)(e:Ex)(ka:e.args.length<=20000)(ih:∀x∈e.args,ExC p env x)(hop:e.op=23)(Jd:1<=e.args.length):ExC p env e:=by
 intro S d j h
 have Ka:zBl e.op=0:=by rw[hop];rfl
 have mC:=fun S=>zLI e.op S
 rw[Ka,hop]at mC
 have wC:=fun k t S=>zFP k t S
 have xp:¬0<zBl e.op:=by omega
 have h2:=h
 unfold TAt fnT at h2
 have xb:e.args.length<=maxLen:=by unfold maxLen;omega
 refine zL.intro mixed call45 func45 rfl ?_;simp[ntmps45];refine zj 35 3 (by decide) [.cells [U e.op,I e.int,Sg e.name,Sg e.u4,Sg e.place.name,.p (strs e.place.path),.p (.sl 8 (e.args.map Ex.enc)),I e.pos] 42,.cells [U 0,Sg emS,nilS] 35] (fun a:Nat × List Ty=>a.1<=e.args.length/\tyEs p env (e.args.take a.1)= .ok a.2/\a.2.length=a.1) (fun a=>([.ptr (d+1) j 0,.any,.any,.ptr 0 0 0,.ptr 0 1 0,.osl 3 (a.2.map Ty.enc) 0 2,.any,.any,.any,.any,.any,.any,.any,.any,.p (.sl 8 (e.args.map Ex.enc)),I e.args.length,I a.1]++List.replicate 141 .any)) (fun a=>[.cells [U e.op,I e.int,Sg e.name,Sg e.u4,Sg e.place.name,.p (strs e.place.path),.p (.sl 8 (e.args.map Ex.enc)),I e.pos] 42,.cells [U 0,Sg emS,nilS] 35,.tok 35 3 a.2.length]::S) (fun a=>e.args.length-a.1) (0,[]) ⟨Nat.zero_le _,by rw[List.take_zero,tyEs],rfl⟩ ?_ ?_ ?_ ?_
 .simp
 .simp
 .rfl
 rintro⟨q,ts⟩ ⟨hq,pa,ca⟩
 simp only at hq pa ca
 by_cases hlt:q<e.args.length
 .have aa:(q:Int)<(e.args.length:Int):=by omega
  have hw:=zA hlt
  obtain⟨n1,n2⟩:=zAP hlt pa
  have hx:=ih _ (List.getElem_mem hlt)
  have va:q+1<=4294967296:=by omega
  generalize hy:e.args[q]=x at*
  have hx:=fun(L:List AObj)=>hx (L::S) (d+1) j h
  cases hr:tyE p env x with
  |error f=>
   rw[hr]at hx;rw[zFt (n2 f hr)];simp[hlt,aa,hy,zy];refine cq (hx _) ?_
   simp[resE]
  |ok t=>
   rw[hr]at hx;simp[hlt,aa,hy,zy];refine cq (hx _) ?_;simp[resE,va,ca];exact⟨q+1,ts++[t],⟨by omega,n1 t hr,by simp[ca]⟩,by omega,⟨by simp[zP],hw⟩,by simp[ca]⟩
 have aa:¬(q:Int)<(e.args.length:Int):=by omega
 obtain rfl:q=e.args.length:=by omega
 rw[List.take_length]at pa;rw[zFu pa];clear hlt hq
 have oa:ownT p env e.op e.name e.u4 e.place ts=if(ts.headD zTy).kind<=3 then .ok (inTy 6 (ts.headD zTy))else .error 100:=by unfold ownT;rw[if_neg (by omega),if_neg (by omega),if_neg (by omega),if_neg (by omega),if_pos hop]
 cases ts with
 |nil=>simp at ca;omega
 |cons v l1=>
 by_cases hk:v.kind<=3
 .rw[show ownT p env e.op e.name e.u4 e.place (v::l1)= .ok (inTy 6 v)from oa.trans (if_pos hk)]
  simp[aa,hop];refine cq ((mC _).call) ?_;simp[hop];refine zQ (dB [] (by kernel_rfl) ?_)
  simp[zP,hk];refine cq ((zY _ _ _ _).det) ?_;simp[zP];refine cq ((wC _ _ _).call) ?_;simp[resT,zBx]
 rw[show ownT p env e.op e.name e.u4 e.place (v::l1)= .error 100 from oa.trans (if_neg hk)]
 simp[aa,hop];refine cq ((mC _).call) ?_;simp[hop];refine z5 7 [7] [] (by kernel_rfl) (by kernel_rfl) (by kernel_rfl) ?_
 simp[zP,hk];exact⟨_,_,zY _ _ _ _,by simp[resT,zBx]⟩
theorem zUU(hp:PrSm p)(he:zh env)(hl:env.length<=4000000000)(e:Ex)(ka:e.args.length<=20000)(ih:∀x∈e.args,ExC p env x)(hop:e.op=31)(Jd:1<=e.args.length):ExC p env e:=by
 intro S d j h
 have Ka:zBl e.op=0:=by rw[hop];rfl
 have mC:=fun S=>zLI e.op S
 rw[Ka,hop]at mC
 have wC:=fun k t S=>zFP k t S
 have xp:¬0<zBl e.op:=by omega
 refine zL.bareE (zFv (.inr (.inr hop))) ?_
 have h2:=h
 unfold TAt fnT at h2
 have xb:e.args.length<=maxLen:=by unfold maxLen;omega
 refine zL.intro mixed call45 func45 rfl ?_;simp[ntmps45];refine zj 35 3 (by decide) [.cells [U e.op,I e.int,Sg e.name,Sg e.u4,Sg e.place.name,.p (strs e.place.path),.p (.sl 8 (e.args.map Ex.enc)),I e.pos] 42,.cells [U 0,Sg emS,nilS] 35] (fun a:Nat × List Ty=>a.1<=e.args.length/\tyEs p env (e.args.take a.1)= .ok a.2/\a.2.length=a.1) (fun a=>([.ptr (d+1) j 0,.any,.any,.ptr 0 0 0,.ptr 0 1 0,.osl 3 (a.2.map Ty.enc) 0 2,.any,.any,.any,.any,.any,.any,.any,.any,.p (.sl 8 (e.args.map Ex.enc)),I e.args.length,I a.1]++List.replicate 141 .any)) (fun a=>[.cells [U e.op,I e.int,Sg e.name,Sg e.u4,Sg e.place.name,.p (strs e.place.path),.p (.sl 8 (e.args.map Ex.enc)),I e.pos] 42,.cells [U 0,Sg emS,nilS] 35,.tok 35 3 a.2.length]::S) (fun a=>e.args.length-a.1) (0,[]) ⟨Nat.zero_le _,by rw[List.take_zero,tyEs],rfl⟩ ?_ ?_ ?_ ?_
 .simp
 .simp
 .rfl
 rintro⟨q,ts⟩ ⟨hq,pa,ca⟩
 simp only at hq pa ca
 by_cases hlt:q<e.args.length
 .have aa:(q:Int)<(e.args.length:Int):=by omega
  have hw:=zA hlt
  obtain⟨n1,n2⟩:=zAP hlt pa
  have hx:=ih _ (List.getElem_mem hlt)
  have va:q+1<=4294967296:=by omega
  generalize hy:e.args[q]=x at*
  have hx:=fun(L:List AObj)=>hx (L::S) (d+1) j h
  cases hr:tyE p env x with
  |error f=>
   rw[hr]at hx;rw[zEY (n2 f hr)];simp[hlt,aa,hy,zy];refine cq (hx _) ?_
   simp[resE]
  |ok t=>
   rw[hr]at hx;simp[hlt,aa,hy,zy];refine cq (hx _) ?_;simp[resE,va,ca];exact⟨q+1,ts++[t],⟨by omega,n1 t hr,by simp[ca]⟩,by omega,⟨by simp[zP],hw⟩,by simp[ca]⟩
 have aa:¬(q:Int)<(e.args.length:Int):=by omega
 obtain rfl:q=e.args.length:=by omega
 rw[List.take_length]at pa;rw[zEZ pa];clear hlt hq
 have oa:ownT p env e.op e.name e.u4 e.place ts=if(ts.headD zTy).kind=1 then .ok (zAN 10)else .error 100:=by unfold ownT;rw[if_neg (by omega),if_neg (by omega),if_neg (by omega),if_neg (by omega),if_neg (by omega),if_pos hop]
 cases ts with
 |nil=>simp at ca;omega
 |cons v l1=>
 by_cases hk:v.kind=1
 .rw[show ownT p env e.op e.name e.u4 e.place (v::l1)= .ok (zAN 10)from oa.trans (if_pos hk)]
  simp[aa,hop];refine cq ((mC _).call) ?_;simp[hop];refine zQ (dB [] (by kernel_rfl) ?_)
  simp[zP,hk];refine cq ((zY _ _ _ _).det) ?_;simp[zP];simp[resT,zBx,zAN,Ty.kind,Ty.name,Ty.args]
 rw[show ownT p env e.op e.name e.u4 e.place (v::l1)= .error 100 from oa.trans (if_neg hk)]
 have Vb:(v.kind==1)=false:=by simpa using hk
 simp[aa,hop];refine cq ((mC _).call) ?_;simp[hop];refine z5 7 [7] [] (by kernel_rfl) (by kernel_rfl) (by kernel_rfl) ?_
 simp[zP,Vb];exact⟨_,_,zY _ _ _ _,by simp[resT,zBx]⟩
end Go.Proofs.YtgpajpilkapciaaGreatDoor
namespace Go.Proofs.YtgpajpilkapciaaGreatDoor
open Go.RowKit _root_.Go.Proofs.Tryz
attribute [local simp] List.replicate List.range List.range.loop
attribute [local simp] zAa zu zAs zAb zAC zAc zAt zv zi zt zAY zAr zAB zAZ zAd zAe zAu zAv zCJ zAL zAM cutL cutO zA5 ThrK
theorem zaZ{p:List It}(hp:PrSm p){env:List Fi}(he:zh env)(hl:env.length<=4000000000)(e:Ex)(ka:e.args.length<=20000)(ih:∀x∈e.args,ExC p env x)(Ka:zBl e.op=0)(hne:e.op≠1/\e.op≠2/\e.op≠3/\¬(7<=e.op/\e.op<=17)/\e.op≠18/\e.op≠19/\e.op≠20/\e.op≠23/\e.op≠31)(ho:0<(zA1 e.op).1)(Jd:(zA1 e.op).2=false->1<=e.args.length):ExC p env e:=by
 intro S d j h
 have f1:(e.op==1)=false:=by simp;omega
 have f2:(e.op==2)=false:=by simp;omega
 have f3:(e.op==3)=false:=by simp;omega
 have oh:(e.op==18)=false:=by simp;omega
 have ph:(e.op==19)=false:=by simp;omega
 have qh:(e.op==20)=false:=by simp;omega
 have ij:(e.op==23)=false:=by simp;omega
 have kj:(e.op==31)=false:=by simp;omega
 have Mk:e.op<7\/(7<=e.op/\¬e.op<=17):=by omega
 have mC:=fun S=>zLI e.op S
 rw[Ka]at mC
 have oC:=fun S=>zRL e.op S
 have h2:=h
 unfold TAt fnT at h2
 have xb:e.args.length<=maxLen:=by unfold maxLen;omega
 refine zL.intro mixed call45 func45 rfl ?_;simp[ntmps45];refine zj 35 3 (by decide) [.cells [U e.op,I e.int,Sg e.name,Sg e.u4,Sg e.place.name,.p (strs e.place.path),.p (.sl 8 (e.args.map Ex.enc)),I e.pos] 42,.cells [U 0,Sg emS,nilS] 35] (fun a:Nat × List Ty=>a.1<=e.args.length/\tyEs p env (e.args.take a.1)= .ok a.2/\a.2.length=a.1) (fun a=>([.ptr (d+1) j 0,.any,.any,.ptr 0 0 0,.ptr 0 1 0,.osl 3 (a.2.map Ty.enc) 0 2,.any,.any,.any,.any,.any,.any,.any,.any,.p (.sl 8 (e.args.map Ex.enc)),I e.args.length,I a.1]++List.replicate 141 .any)) (fun a=>[.cells [U e.op,I e.int,Sg e.name,Sg e.u4,Sg e.place.name,.p (strs e.place.path),.p (.sl 8 (e.args.map Ex.enc)),I e.pos] 42,.cells [U 0,Sg emS,nilS] 35,.tok 35 3 a.2.length]::S) (fun a=>e.args.length-a.1) (0,[]) ⟨Nat.zero_le _,by rw[List.take_zero,tyEs],rfl⟩ ?_ ?_ ?_ ?_
 .simp
 .simp
 .rfl
 rintro⟨q,ts⟩ ⟨hq,pa,ca⟩
 simp only at hq pa ca
 by_cases hlt:q<e.args.length
 .have aa:(q:Int)<(e.args.length:Int):=by omega
  have hw:=zA hlt
  obtain⟨n1,n2⟩:=zAP hlt pa
  have hx:=ih _ (List.getElem_mem hlt)
  have va:q+1<=4294967296:=by omega
  generalize hy:e.args[q]=x at*
  have hx:=fun(L:List AObj)=>hx (L::S) (d+1) j h
  cases hr:tyE p env x with
  |error f=>
   rw[hr]at hx;rw[zFt (n2 f hr)];simp[hlt,aa,hy,zy];refine cq (hx _) ?_
   simp[resE]
  |ok t=>
   rw[hr]at hx;simp[hlt,aa,hy,zy];refine cq (hx _) ?_;simp[resE,va,ca];exact⟨q+1,ts++[t],⟨by omega,n1 t hr,by simp[ca]⟩,by omega,⟨by simp[zP],hw⟩,by simp[ca]⟩
 have aa:¬(q:Int)<(e.args.length:Int):=by omega
 obtain rfl:q=e.args.length:=by omega
 rw[List.take_length]at pa;rw[zFu pa];clear hlt hq
 have oa:ownT p env e.op e.name e.u4 e.place ts=zDY p env e.op e.place ts:=by unfold ownT;rw[if_neg (by omega),if_neg (by omega),if_neg (by omega),if_neg (by omega),if_neg (by omega),if_neg (by omega),if_pos ho]
 rw[oa]
 have nC:=fun(i1 i2:Nat) (L:List AObj)=>zL.sub (.cons (.refl _) (.cons (.refl _) (.cons (.osl (d:=i1) (i:=i2) (.refl _)) (.refl _)))) (zaV p hp env he hl e ts (L::S) (d+1) j h ho fun hb=>by have:=Jd hb;omega)
 generalize zDY p env e.op e.place ts=r at*
 generalize (zA1 e.op).1=ok at*
 generalize (zA1 e.op).2=ob at*
 rcases Mk with h7|h7
 .have ti:¬7<=e.op:=by omega
  simp[aa,f1,f2,f3,oh,ph,qh,ij,kj,ti];refine cq ((mC _).call) ?_;simp[f1,f2,f3,oh,ph,qh,ij,kj];refine cq ((oC _).call) ?_;simp[ho];refine cq (nC _ _ _) ?_;cases r<;>simp[resT,zBx]
 simp[aa,f1,f2,f3,oh,ph,qh,ij,kj,h7]
 refine cq ((mC _).call) ?_;simp[f1,f2,f3,oh,ph,qh,ij,kj];refine cq ((oC _).call) ?_;simp[ho];refine cq (nC _ _ _) ?_;cases r<;>simp[resT,zBx]
theorem zaa{p:List It}(hp:PrSm p){env:List Fi}(he:zh env)(hl:env.length<=4000000000)(e:Ex)(ka:e.args.length<=20000)(ih:∀x∈e.args,ExC p env x)(Ka:zBl e.op=0)(hne:e.op≠1/\e.op≠2/\e.op≠3/\¬(7<=e.op/\e.op<=17)/\e.op≠18/\e.op≠19/\e.op≠20/\e.op≠23/\e.op≠31)(ho:¬0<(zA1 e.op).1):ExC p env e:=by
 intro S d j h
 have f1:(e.op==1)=false:=by simp;omega
 have f2:(e.op==2)=false:=by simp;omega
 have f3:(e.op==3)=false:=by simp;omega
 have oh:(e.op==18)=false:=by simp;omega
 have ph:(e.op==19)=false:=by simp;omega
 have qh:(e.op==20)=false:=by simp;omega
 have ij:(e.op==23)=false:=by simp;omega
 have kj:(e.op==31)=false:=by simp;omega
 have Mk:e.op<7\/(7<=e.op/\¬e.op<=17):=by omega
 have mC:=fun S=>zLI e.op S
 rw[Ka]at mC
 have oC:=fun S=>zRL e.op S
 have Cg:(zA1 e.op).1=0:=by
  unfold zA1 at ho ⊢
  repeat' split
  all_goals simp_all
 have h2:=h
 unfold TAt fnT at h2
 have xb:e.args.length<=maxLen:=by unfold maxLen;omega
 refine zL.intro mixed call45 func45 rfl ?_;simp[ntmps45];refine zj 35 3 (by decide) [.cells [U e.op,I e.int,Sg e.name,Sg e.u4,Sg e.place.name,.p (strs e.place.path),.p (.sl 8 (e.args.map Ex.enc)),I e.pos] 42,.cells [U 0,Sg emS,nilS] 35] (fun a:Nat × List Ty=>a.1<=e.args.length/\tyEs p env (e.args.take a.1)= .ok a.2/\a.2.length=a.1) (fun a=>([.ptr (d+1) j 0,.any,.any,.ptr 0 0 0,.ptr 0 1 0,.osl 3 (a.2.map Ty.enc) 0 2,.any,.any,.any,.any,.any,.any,.any,.any,.p (.sl 8 (e.args.map Ex.enc)),I e.args.length,I a.1]++List.replicate 141 .any)) (fun a=>[.cells [U e.op,I e.int,Sg e.name,Sg e.u4,Sg e.place.name,.p (strs e.place.path),.p (.sl 8 (e.args.map Ex.enc)),I e.pos] 42,.cells [U 0,Sg emS,nilS] 35,.tok 35 3 a.2.length]::S) (fun a=>e.args.length-a.1) (0,[]) ⟨Nat.zero_le _,by rw[List.take_zero,tyEs],rfl⟩ ?_ ?_ ?_ ?_
 .simp
 .simp
 .rfl
 rintro⟨q,ts⟩ ⟨hq,pa,ca⟩
 simp only at hq pa ca
 by_cases hlt:q<e.args.length
 .have aa:(q:Int)<(e.args.length:Int):=by omega
  have hw:=zA hlt
  obtain⟨n1,n2⟩:=zAP hlt pa
  have hx:=ih _ (List.getElem_mem hlt)
  have va:q+1<=4294967296:=by omega
  generalize hy:e.args[q]=x at*
  have hx:=fun(L:List AObj)=>hx (L::S) (d+1) j h
  cases hr:tyE p env x with
  |error f=>
   rw[hr]at hx;rw[zFt (n2 f hr)];simp[hlt,aa,hy,zy];refine cq (hx _) ?_
   simp[resE]
  |ok t=>
   rw[hr]at hx;simp[hlt,aa,hy,zy];refine cq (hx _) ?_;simp[resE,va,ca];exact⟨q+1,ts++[t],⟨by omega,n1 t hr,by simp[ca]⟩,by omega,⟨by simp[zP],hw⟩,by simp[ca]⟩
 have aa:¬(q:Int)<(e.args.length:Int):=by omega
 obtain rfl:q=e.args.length:=by omega
 rw[List.take_length]at pa;rw[zFu pa];clear hlt hq
 have oa:ownT p env e.op e.name e.u4 e.place ts=zFM p env e.op e.place ts:=by unfold ownT;rw[if_neg (by omega),if_neg (by omega),if_neg (by omega),if_neg (by omega),if_neg (by omega),if_neg (by omega),if_neg (by omega)]
 rw[oa]
 have nC:=fun(i1 i2:Nat) (L:List AObj)=>zL.sub (.cons (.refl _) (.cons (.refl _) (.cons (.osl (d:=i1) (i:=i2) (.refl _)) (.refl _)))) (zRO p hp env he hl e ts (L::S) (d+1) j h)
 generalize zFM p env e.op e.place ts=r at*
 generalize (zA1 e.op).1=ok at*
 generalize (zA1 e.op).2=ob at*
 rcases Mk with h7|h7
 .have ti:¬7<=e.op:=by omega
  simp[aa,f1,f2,f3,oh,ph,qh,ij,kj,ti];refine cq ((mC _).call) ?_;simp[f1,f2,f3,oh,ph,qh,ij,kj];refine cq ((oC _).call) ?_;simp[Cg];refine cq (nC _ _ _) ?_;cases r<;>simp[resT,zBx]
 simp[aa,f1,f2,f3,oh,ph,qh,ij,kj,h7]
 refine cq ((mC _).call) ?_;simp[f1,f2,f3,oh,ph,qh,ij,kj];refine cq ((oC _).call) ?_;simp[Cg];refine cq (nC _ _ _) ?_;cases r<;>simp[resT,zBx]
end Go.Proofs.YtgpajpilkapciaaGreatDoor
