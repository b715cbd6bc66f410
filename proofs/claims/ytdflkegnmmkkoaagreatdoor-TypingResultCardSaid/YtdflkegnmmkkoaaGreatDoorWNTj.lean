/- A part of the proof. -/
import Derived.Test.YtdflkegnmmkkoaaGreatDoorWNTi
set_option linter.unusedVariables false
set_option linter.unusedSimpArgs false
set_option maxRecDepth 100000
set_option maxHeartbeats 32000000
namespace Go.Proofs.YtdflkegnmmkkoaaGreatDoor
open Go.RowKit _root_.Go.Proofs.Tryz
attribute [local simp] List.replicate List.range List.range.loop List.forall_mem_cons List.contains_cons List.contains_nil List.find?
attribute [local simp] zAd zw zA6 zAe zAD zAf zA7 zx zn zv zAb zA5 zAC zAc zAg zAh zA8 zA9 zCV zAO zAP cutL cutO zBJ ThrK
def resE(r:Except Flt Ty):ARes:=match r with| .ok t=>.ret (tyV t)| .error f=>.thr (fltW f)
def ExC(p:List It)(env:List Fi)(x:Ex):Prop:=∀(S:ASt) (d j:Nat),TAt p S d j env->zK Tryz.prog 38 [.ptr d j 0,exV x] S (resE (tyE p env x)) S
theorem zGI{p:List It}{env:List Fi}{e:Ex}{f:Flt}(h:tyEs p env e.args= .error f):resE (tyE p env e)= .thr (fltW f):=by rw[zJe,h];rfl
theorem zGJ{p:List It}{env:List Fi}{e:Ex}{ts:List Ty}(h:tyEs p env e.args= .ok ts):resE (tyE p env e)=resT (ownT p env e.op e.name e.u2 e.place ts) e.pos:=by
 rw[zJe,h];simp only;cases ownT p env e.op e.name e.u2 e.place ts<;>rfl
def zYl(r:Except Flt Ty):ARes:=match r with| .ok t=>.ret (.agg [U t.kind,Sg t.name,nilS])| .error f=>.thr (fltW f)
theorem zK.bareE{P:Program}{K:FuncId}{args:List AV}{S S':ASt}{r:Except Flt Ty}(hr:∀t,r= .ok t->t.args=[])(h:zK P K args S (zYl r) S'):zK P K args S (resE r) S':=by
 cases r with
 |error n=>exact h
 |ok t=>exact zK.bare (hr t rfl) h
theorem zEp{p:List It}{env:List Fi}{e:Ex}{f:Flt}(h:tyEs p env e.args= .error f):zYl (tyE p env e)= .thr (fltW f):=by rw[zJe,h];rfl
theorem zEq{p:List It}{env:List Fi}{e:Ex}{ts:List Ty}(h:tyEs p env e.args= .ok ts):zYl (tyE p env e)=zB8 (ownT p env e.op e.name e.u2 e.place ts) e.pos:=by
 rw[zJe,h];simp only;cases ownT p env e.op e.name e.u2 e.place ts<;>rfl
theorem zGK{p:List It}{env:List Fi}{e:Ex}(hop:(e.op=1\/e.op=2\/e.op=3)\/(7<=e.op/\e.op<=17)\/e.op=31):∀t,tyE p env e= .ok t->t.args=[]:=fun t ht=>by
 rw[zJe]at ht;split at ht
 .cases ht
 rename_i l hl
 split at ht
 .rename_i u hu
  cases ht;unfold ownT at hu
  have Ha:¬0<zBs e.op:=by
   unfold zBs;rw[if_neg (by omega),if_neg (by omega),if_neg (by omega),if_neg (by omega)]
   omega
  rcases hop with h|h|h
  .rw[if_pos h]at hu;cases hu;rfl
  .rw[if_neg (by omega),if_pos h]at hu
   split at hu
   .cases hu;rfl
   cases hu
  rw[if_neg (by omega),if_neg (by omega),if_neg (by omega),if_neg Ha,if_neg (by omega),if_pos h]at hu
  split at hu
  .cases hu;rfl
  cases hu
 cases ht
def zGL:Value:=.agg #[.int .u8 1,.int .u8 1,.int .u8 2,.int .u8 2,.int .u8 1,.int .u8 1,.int .u8 1,.int .u8 1,.int .u8 1,.int .u8 1,.int .u8 1,.int .u8 1,.int .u8 1,.int .u8 1,.int .u8 1,.int .u8 2,.int .u8 1,.int .u8 2,.int .u8 2,.int .u8 2,.int .u8 2,.int .u8 2]
section
variable(op:Int)(dst:Option Tmp)(x ix:Operand)(ty:TypeId)(pos:String)(after:Array Edge)(guard:Option (Nat × Bool))(fr:List AV)
theorem zbF(h7:7<=op)(h17:op<=17)(hx:evA fr x=zYg)(hy:evA fr ix=U (op-7)):genP Tryz.prog ⟨dst,.index 125 x ix,ty,pos,after,guard⟩ fr=some (.agg [U (zG1 op).1,U (zG1 op).2]):=by
 have v1:zBj (evA fr x)=some zGL:=by rw[hx];rfl
 have v2:zBj (evA fr ix)=some (.int .u8 (op-7)):=by rw[hy];rfl
 have h1:(zHW (.index 125 x ix)&&zZ fr (Op.operands (.index 125 x ix)).toList)=true:=by
  show(true&&zZ fr [x,ix])=true
  rw[Bool.true_and,zZ,zZ,zZ,v1,v2];rfl
 have k0:zd Tryz.prog (Instr.index 125 zGL (.int .u8 0))=some (.agg #[.int .u8 1,.int .u8 1]):=by kernel_rfl
 have k1:zd Tryz.prog (Instr.index 125 zGL (.int .u8 1))=some (.agg #[.int .u8 2,.int .u8 2]):=by kernel_rfl
 have k2:zd Tryz.prog (Instr.index 125 zGL (.int .u8 2))=some (.agg #[.int .u8 1,.int .u8 1]):=by kernel_rfl
 have k3:zd Tryz.prog (Instr.index 125 zGL (.int .u8 3))=some (.agg #[.int .u8 1,.int .u8 1]):=by kernel_rfl
 have k4:zd Tryz.prog (Instr.index 125 zGL (.int .u8 4))=some (.agg #[.int .u8 1,.int .u8 1]):=by kernel_rfl
 have k5:zd Tryz.prog (Instr.index 125 zGL (.int .u8 5))=some (.agg #[.int .u8 1,.int .u8 1]):=by kernel_rfl
 have k6:zd Tryz.prog (Instr.index 125 zGL (.int .u8 6))=some (.agg #[.int .u8 1,.int .u8 1]):=by kernel_rfl
 have k7:zd Tryz.prog (Instr.index 125 zGL (.int .u8 7))=some (.agg #[.int .u8 1,.int .u8 2]):=by kernel_rfl
 have k8:zd Tryz.prog (Instr.index 125 zGL (.int .u8 8))=some (.agg #[.int .u8 1,.int .u8 2]):=by kernel_rfl
 have k9:zd Tryz.prog (Instr.index 125 zGL (.int .u8 9))=some (.agg #[.int .u8 2,.int .u8 2]):=by kernel_rfl
 have ri:zd Tryz.prog (Instr.index 125 zGL (.int .u8 10))=some (.agg #[.int .u8 2,.int .u8 2]):=by kernel_rfl
 have ta:zd Tryz.prog (Instr.index 125 zGL (.int .u8 (op-7)))=some (.agg #[.int .u8 (zG1 op).1,.int .u8 (zG1 op).2]):=by
  have ho:op=7\/op=8\/op=9\/op=10\/op=11\/op=12\/op=13\/op=14\/op=15\/op=16\/op=17:=by omega
  rcases ho with rfl|rfl|rfl|rfl|rfl|rfl|rfl|rfl|rfl|rfl|rfl
  .exact k0
  .exact k1
  .exact k2
  .exact k3
  .exact k4
  .exact k5
  .exact k6
  .exact k7
  .exact k8
  .exact k9
  exact ri
 have h2:zd Tryz.prog (execOp (fun z=>(zBj (evA fr z)).getD undef) ⟨dst,.index 125 x ix,ty,pos,after,guard⟩)=some (.value (.agg #[.int .u8 (zG1 op).1,.int .u8 (zG1 op).2])):=by
  have e1:(zBj (evA fr x)).getD undef=zGL:=by rw[v1];rfl
  have e2:(zBj (evA fr ix)).getD undef= .int .u8 (op-7):=by rw[v2];rfl
  unfold execOp;simp only[e1,e2];exact zCK _ _ _ ta
 unfold genP;simp only;rw[if_pos h1,h2];rfl
end
theorem zbG{p:List It}(hp:PrSm p){env:List Fi}(he:zAu env)(hl:env.length<=4000000000)(e:Ex)(wa:e.args.length<=20000)(ih:∀x∈e.args,ExC p env x)(hop:e.op=1):ExC p env e:=by
 intro S d j h;refine zK.bareE (zGK (.inl (by omega))) ?_
 have h2:=h
 unfold TAt fnT at h2
 have ec:e.args.length<=maxLen:=by unfold maxLen;omega
 refine zK.intro mixed call38 func38 rfl ?_;simp[ntmps38];refine zo 36 3 (by decide) [.cells [U e.op,I e.int,Sg e.name,Sg e.u2,Sg e.place.name,.p (strs e.place.path),.p (.sl 8 (e.args.map Ex.enc)),I e.pos] 43,.cells [U 0,Sg emS,nilS] 36] (fun a:Nat × List Ty=>a.1<=e.args.length/\tyEs p env (e.args.take a.1)= .ok a.2/\a.2.length=a.1) (fun a=>([.ptr (d+1) j 0,.any,.any,.ptr 0 0 0,.ptr 0 1 0,.osl 3 (a.2.map Ty.enc) 0 2,.any,.any,.any,.any,.any,.any,.any,.any,.p (.sl 8 (e.args.map Ex.enc)),I e.args.length,I a.1]++List.replicate 141 .any)) (fun a=>[.cells [U e.op,I e.int,Sg e.name,Sg e.u2,Sg e.place.name,.p (strs e.place.path),.p (.sl 8 (e.args.map Ex.enc)),I e.pos] 43,.cells [U 0,Sg emS,nilS] 36,.tok 36 3 a.2.length]::S) (fun a=>e.args.length-a.1) (0,[]) ⟨Nat.zero_le _,by rw[List.take_zero,tyEs],rfl⟩ ?_ ?_ ?_ ?_
 .simp
 .simp
 .rfl
 rintro⟨q,ts⟩ ⟨hq,pa,ca⟩
 simp only at hq pa ca
 by_cases hlt:q<e.args.length
 .have aa:(q:Int)<(e.args.length:Int):=by omega
  have hw:=zA hlt
  obtain⟨n1,n2⟩:=zAS hlt pa
  have hx:=ih _ (List.getElem_mem hlt)
  have va:q+1<=4294967296:=by omega
  generalize hy:e.args[q]=x at*
  have hx:=fun(L:List AObj)=>hx (L::S) (d+1) j h
  cases hr:tyE p env x with
  |error f=>
   rw[hr]at hx;rw[zEp (n2 f hr)];simp[hlt,aa,hy,zg];refine cq (hx _) ?_
   simp[resE]
  |ok t=>
   rw[hr]at hx;simp[hlt,aa,hy,zg];refine cq (hx _) ?_;simp[resE,va,ca];exact⟨q+1,ts++[t],⟨by omega,n1 t hr,by simp[ca]⟩,by omega,⟨by simp[ze],hw⟩,by simp[ca]⟩
 have aa:¬(q:Int)<(e.args.length:Int):=by omega
 obtain rfl:q=e.args.length:=by omega
 rw[List.take_length]at pa;rw[zEq pa];clear hlt hq
 have ra:ownT p env e.op e.name e.u2 e.place ts= .ok (zAG 1):=by unfold ownT;rw[if_pos (by omega),hop]
 rw[ra];simp[aa,hop,resT,zB8,zAG,Ty.kind,Ty.name,Ty.args]
theorem zbH{p:List It}(hp:PrSm p){env:List Fi}(he:zAu env)(hl:env.length<=4000000000)(e:Ex)(wa:e.args.length<=20000)(ih:∀x∈e.args,ExC p env x)(hop:e.op=2):ExC p env e:=by
 intro S d j h;refine zK.bareE (zGK (.inl (by omega))) ?_
 have h2:=h
 unfold TAt fnT at h2
 have ec:e.args.length<=maxLen:=by unfold maxLen;omega
 refine zK.intro mixed call38 func38 rfl ?_;simp[ntmps38];refine zo 36 3 (by decide) [.cells [U e.op,I e.int,Sg e.name,Sg e.u2,Sg e.place.name,.p (strs e.place.path),.p (.sl 8 (e.args.map Ex.enc)),I e.pos] 43,.cells [U 0,Sg emS,nilS] 36] (fun a:Nat × List Ty=>a.1<=e.args.length/\tyEs p env (e.args.take a.1)= .ok a.2/\a.2.length=a.1) (fun a=>([.ptr (d+1) j 0,.any,.any,.ptr 0 0 0,.ptr 0 1 0,.osl 3 (a.2.map Ty.enc) 0 2,.any,.any,.any,.any,.any,.any,.any,.any,.p (.sl 8 (e.args.map Ex.enc)),I e.args.length,I a.1]++List.replicate 141 .any)) (fun a=>[.cells [U e.op,I e.int,Sg e.name,Sg e.u2,Sg e.place.name,.p (strs e.place.path),.p (.sl 8 (e.args.map Ex.enc)),I e.pos] 43,.cells [U 0,Sg emS,nilS] 36,.tok 36 3 a.2.length]::S) (fun a=>e.args.length-a.1) (0,[]) ⟨Nat.zero_le _,by rw[List.take_zero,tyEs],rfl⟩ ?_ ?_ ?_ ?_
 .simp
 .simp
 .rfl
 rintro⟨q,ts⟩ ⟨hq,pa,ca⟩
 simp only at hq pa ca
 by_cases hlt:q<e.args.length
 .have aa:(q:Int)<(e.args.length:Int):=by omega
  have hw:=zA hlt
  obtain⟨n1,n2⟩:=zAS hlt pa
  have hx:=ih _ (List.getElem_mem hlt)
  have va:q+1<=4294967296:=by omega
  generalize hy:e.args[q]=x at*
  have hx:=fun(L:List AObj)=>hx (L::S) (d+1) j h
  cases hr:tyE p env x with
  |error f=>
   rw[hr]at hx;rw[zEp (n2 f hr)];simp[hlt,aa,hy,zg];refine cq (hx _) ?_
   simp[resE]
  |ok t=>
   rw[hr]at hx;simp[hlt,aa,hy,zg];refine cq (hx _) ?_;simp[resE,va,ca];exact⟨q+1,ts++[t],⟨by omega,n1 t hr,by simp[ca]⟩,by omega,⟨by simp[ze],hw⟩,by simp[ca]⟩
 have aa:¬(q:Int)<(e.args.length:Int):=by omega
 obtain rfl:q=e.args.length:=by omega
 rw[List.take_length]at pa;rw[zEq pa];clear hlt hq
 have ra:ownT p env e.op e.name e.u2 e.place ts= .ok (zAG 2):=by unfold ownT;rw[if_pos (by omega),hop]
 rw[ra];simp[aa,hop,resT,zB8,zAG,Ty.kind,Ty.name,Ty.args]
theorem zbI{p:List It}(hp:PrSm p){env:List Fi}(he:zAu env)(hl:env.length<=4000000000)(e:Ex)(wa:e.args.length<=20000)(ih:∀x∈e.args,ExC p env x)(hop:e.op=3):ExC p env e:=by
 intro S d j h;refine zK.bareE (zGK (.inl (by omega))) ?_
 have h2:=h
 unfold TAt fnT at h2
 have ec:e.args.length<=maxLen:=by unfold maxLen;omega
 refine zK.intro mixed call38 func38 rfl ?_;simp[ntmps38];refine zo 36 3 (by decide) [.cells [U e.op,I e.int,Sg e.name,Sg e.u2,Sg e.place.name,.p (strs e.place.path),.p (.sl 8 (e.args.map Ex.enc)),I e.pos] 43,.cells [U 0,Sg emS,nilS] 36] (fun a:Nat × List Ty=>a.1<=e.args.length/\tyEs p env (e.args.take a.1)= .ok a.2/\a.2.length=a.1) (fun a=>([.ptr (d+1) j 0,.any,.any,.ptr 0 0 0,.ptr 0 1 0,.osl 3 (a.2.map Ty.enc) 0 2,.any,.any,.any,.any,.any,.any,.any,.any,.p (.sl 8 (e.args.map Ex.enc)),I e.args.length,I a.1]++List.replicate 141 .any)) (fun a=>[.cells [U e.op,I e.int,Sg e.name,Sg e.u2,Sg e.place.name,.p (strs e.place.path),.p (.sl 8 (e.args.map Ex.enc)),I e.pos] 43,.cells [U 0,Sg emS,nilS] 36,.tok 36 3 a.2.length]::S) (fun a=>e.args.length-a.1) (0,[]) ⟨Nat.zero_le _,by rw[List.take_zero,tyEs],rfl⟩ ?_ ?_ ?_ ?_
 .simp
 .simp
 .rfl
 rintro⟨q,ts⟩ ⟨hq,pa,ca⟩
 simp only at hq pa ca
 by_cases hlt:q<e.args.length
 .have aa:(q:Int)<(e.args.length:Int):=by omega
  have hw:=zA hlt
  obtain⟨n1,n2⟩:=zAS hlt pa
  have hx:=ih _ (List.getElem_mem hlt)
  have va:q+1<=4294967296:=by omega
  generalize hy:e.args[q]=x at*
  have hx:=fun(L:List AObj)=>hx (L::S) (d+1) j h
  cases hr:tyE p env x with
  |error f=>
   rw[hr]at hx;rw[zEp (n2 f hr)];simp[hlt,aa,hy,zg];refine cq (hx _) ?_
   simp[resE]
  |ok t=>
   rw[hr]at hx;simp[hlt,aa,hy,zg];refine cq (hx _) ?_;simp[resE,va,ca];exact⟨q+1,ts++[t],⟨by omega,n1 t hr,by simp[ca]⟩,by omega,⟨by simp[ze],hw⟩,by simp[ca]⟩
 have aa:¬(q:Int)<(e.args.length:Int):=by omega
 obtain rfl:q=e.args.length:=by omega
 rw[List.take_length]at pa;rw[zEq pa];clear hlt hq
 have ra:ownT p env e.op e.name e.u2 e.place ts= .ok (zAG 3):=by unfold ownT;rw[if_pos (by omega),hop]
 rw[ra];simp[aa,hop,resT,zB8,zAG,Ty.kind,Ty.name,Ty.args]
theorem zcF{p:List It}(hp:PrSm p){env:List Fi}(he:zAu env)(hl:env.length<=4000000000)(e:Ex)(wa:e.args.length<=20000)(ih:∀x∈e.args,ExC p env x)(h7:7<=e.op)(h17:e.op<=17):ExC p env e:=by
 intro S d j h
 have f1:(e.op==1)=false:=by simp;omega
 have f2:(e.op==2)=false:=by simp;omega
 have f3:(e.op==3)=false:=by simp;omega
 have rC:=fun S=>za8 S
 have cv:IntKind.u8.wrap (e.op-7)=e.op-7:=by unfold IntKind.wrap;simp[IntKind.bits,IntKind.signed];omega
 refine zK.bareE (zGK (.inr (.inl ⟨h7,h17⟩))) ?_
 have h2:=h
 unfold TAt fnT at h2
 have ec:e.args.length<=maxLen:=by unfold maxLen;omega
 refine zK.intro mixed call38 func38 rfl ?_;simp[ntmps38];refine zo 36 3 (by decide) [.cells [U e.op,I e.int,Sg e.name,Sg e.u2,Sg e.place.name,.p (strs e.place.path),.p (.sl 8 (e.args.map Ex.enc)),I e.pos] 43,.cells [U 0,Sg emS,nilS] 36] (fun a:Nat × List Ty=>a.1<=e.args.length/\tyEs p env (e.args.take a.1)= .ok a.2/\a.2.length=a.1) (fun a=>([.ptr (d+1) j 0,.any,.any,.ptr 0 0 0,.ptr 0 1 0,.osl 3 (a.2.map Ty.enc) 0 2,.any,.any,.any,.any,.any,.any,.any,.any,.p (.sl 8 (e.args.map Ex.enc)),I e.args.length,I a.1]++List.replicate 141 .any)) (fun a=>[.cells [U e.op,I e.int,Sg e.name,Sg e.u2,Sg e.place.name,.p (strs e.place.path),.p (.sl 8 (e.args.map Ex.enc)),I e.pos] 43,.cells [U 0,Sg emS,nilS] 36,.tok 36 3 a.2.length]::S) (fun a=>e.args.length-a.1) (0,[]) ⟨Nat.zero_le _,by rw[List.take_zero,tyEs],rfl⟩ ?_ ?_ ?_ ?_
 .simp
 .simp
 .rfl
 rintro⟨q,ts⟩ ⟨hq,pa,ca⟩
 simp only at hq pa ca
 by_cases hlt:q<e.args.length
 .have aa:(q:Int)<(e.args.length:Int):=by omega
  have hw:=zA hlt
  obtain⟨n1,n2⟩:=zAS hlt pa
  have hx:=ih _ (List.getElem_mem hlt)
  have va:q+1<=4294967296:=by omega
  generalize hy:e.args[q]=x at*
  have hx:=fun(L:List AObj)=>hx (L::S) (d+1) j h
  cases hr:tyE p env x with
  |error f=>
   rw[hr]at hx;rw[zEp (n2 f hr)];simp[hlt,aa,hy,zg];refine cq (hx _) ?_
   simp[resE]
  |ok t=>
   rw[hr]at hx;simp[hlt,aa,hy,zg];refine cq (hx _) ?_;simp[resE,va,ca];exact⟨q+1,ts++[t],⟨by omega,n1 t hr,by simp[ca]⟩,by omega,⟨by simp[ze],hw⟩,by simp[ca]⟩
 have aa:¬(q:Int)<(e.args.length:Int):=by omega
 obtain rfl:q=e.args.length:=by omega
 rw[List.take_length]at pa;rw[zEq pa];clear hlt hq
 have ra:ownT p env e.op e.name e.u2 e.place ts=if(ts.all fun t=>t.kind==(zG1 e.op).1)=true then .ok (zAG (zG1 e.op).2)else .error 100:=by unfold ownT;rw[if_neg (by omega),if_pos ⟨h7,h17⟩]
 rw[ra]
 have i1:=zbF e.op (h7:=h7) (h17:=h17)
 generalize (zG1 e.op).1=r1 at*
 generalize (zG1 e.op).2=r2 at*
 generalize Fd:(ts.all fun t=>t.kind==r1)=al
 simp[aa,f1,f2,f3,h7,h17];refine zU (zEV [(5,6,8)] [(2,0)] (by kernel_rfl) (by kernel_rfl) (by kernel_rfl) (by simp) ?_)
 simp;refine cq (rC _) ?_;simp[cv,i1];refine zBi (fun q:Nat=>q<=ts.length/\∀i (h:i<ts.length),i<q->ts[i].kind=r1) (fun q=>([.any,.any,.any,.ptr 0 0 0,.ptr 0 1 0,.any,.any,.any,.ptr 0 3 0]++(List.replicate 47 .any++([.osl 3 (ts.map Ty.enc) 0 2,I ts.length,I q]++List.replicate 99 .any)))) (fun q=>[.cells [U e.op,I e.int,Sg e.name,Sg e.u2,Sg e.place.name,.p (strs e.place.path),.p (.sl 8 (e.args.map Ex.enc)),I e.pos] 43,.cells [U 0,Sg emS,nilS] 36,.tok 36 3 ts.length,.cells [U r1,U r2] 124]::S) (fun q=>ts.length-q) 0 ⟨Nat.zero_le _,fun i h hi=>by omega⟩ ?_ ?_ ?_
 .simp
 .simp
 rintro q ⟨hq,ia⟩
 by_cases Ld:q<ts.length
 .have Bc:(q:Int)<(ts.length:Int):=by omega
  have hw:=zA Ld (by omega)
  have Za:ts[q].kind=r1->∀i (h:i<ts.length),i<q+1->ts[i].kind=r1:=fun he i h hi=>by
   by_cases Pg:i=q
   .subst Pg;exact he
   exact ia i h (by omega)
  have xb:ts[q].kind≠r1->al=false:=fun he=>by
   rw[<-Fd,List.all_eq_false];exact⟨ts[q],List.getElem_mem Ld,by simpa using he⟩
  generalize hy:ts[q]=u at*
  by_cases hk:u.kind=r1
  .simp[Ld,Bc,hy,ze,hk]
   refine cq (zf _ _ _ _) ?_;simp;exact⟨q+1,⟨by omega,Za hk⟩,by omega,hw⟩
  have Qb:(u.kind==r1)=false:=by simpa using hk
  rw[xb hk];simp[Ld,Bc,hy,ze,Qb];refine cq (zf _ _ _ _) ?_;simp[resT,zB8]
 have Bc:¬(q:Int)<(ts.length:Int):=by omega
 have Xm:al=true:=by
  rw[<-Fd,List.all_eq_true];intro t ht
  obtain⟨i,hi,rfl⟩:=List.getElem_of_mem ht
  simpa using ia i hi (by omega)
 rw[Xm];simp[Bc,resT,zB8,zAG,Ty.kind,Ty.name,Ty.args]
end Go.Proofs.YtdflkegnmmkkoaaGreatDoor
namespace Go.Proofs.YtdflkegnmmkkoaaGreatDoor
open Go.RowKit _root_.Go.Proofs.Tryz
attribute [local simp] List.replicate List.range List.range.loop List.forall_mem_cons List.contains_cons List.contains_nil List.find?
attribute [local simp] zAd zw zA6 zAe zAD zAf zA7 zx zn zv zAb zA5 zAC zAc zAg zAh zA8 zA9 zCV zAO zAP cutL cutO zBJ ThrK
variable{env:List Fi}{p:List It}
theorem zcG(hp:PrSm p)(he:zAu env)(hl:env.length<=4000000000)(e:Ex)(wa:e.args.length<=20000)(ih:∀x∈e.args,ExC p env x)(hop:e.op=18\/e.op=19\/e.op=20):ExC p env e:=by
 intro S d j h
 have h2:=h
 unfold TAt fnT at h2
 have ec:e.args.length<=maxLen:=by unfold maxLen;omega
 refine zK.intro mixed call38 func38 rfl ?_;simp[ntmps38];refine zo 36 3 (by decide) [.cells [U e.op,I e.int,Sg e.name,Sg e.u2,Sg e.place.name,.p (strs e.place.path),.p (.sl 8 (e.args.map Ex.enc)),I e.pos] 43,.cells [U 0,Sg emS,nilS] 36] (fun a:Nat × List Ty=>a.1<=e.args.length/\tyEs p env (e.args.take a.1)= .ok a.2/\a.2.length=a.1) (fun a=>([.ptr (d+1) j 0,.any,.any,.ptr 0 0 0,.ptr 0 1 0,.osl 3 (a.2.map Ty.enc) 0 2,.any,.any,.any,.any,.any,.any,.any,.any,.p (.sl 8 (e.args.map Ex.enc)),I e.args.length,I a.1]++List.replicate 141 .any)) (fun a=>[.cells [U e.op,I e.int,Sg e.name,Sg e.u2,Sg e.place.name,.p (strs e.place.path),.p (.sl 8 (e.args.map Ex.enc)),I e.pos] 43,.cells [U 0,Sg emS,nilS] 36,.tok 36 3 a.2.length]::S) (fun a=>e.args.length-a.1) (0,[]) ⟨Nat.zero_le _,by rw[List.take_zero,tyEs],rfl⟩ ?_ ?_ ?_ ?_
 .simp
 .simp
 .rfl
 rintro⟨q,ts⟩ ⟨hq,pa,ca⟩
 simp only at hq pa ca
 by_cases hlt:q<e.args.length
 .have aa:(q:Int)<(e.args.length:Int):=by omega
  have hw:=zA hlt
  obtain⟨n1,n2⟩:=zAS hlt pa
  have hx:=ih _ (List.getElem_mem hlt)
  have va:q+1<=4294967296:=by omega
  generalize hy:e.args[q]=x at*
  have hx:=fun(L:List AObj)=>hx (L::S) (d+1) j h
  cases hr:tyE p env x with
  |error f=>
   rw[hr]at hx;rw[zGI (n2 f hr)];simp[hlt,aa,hy,zg];refine cq (hx _) ?_
   simp[resE]
  |ok t=>
   rw[hr]at hx;simp[hlt,aa,hy,zg];refine cq (hx _) ?_;simp[resE,va,ca];exact⟨q+1,ts++[t],⟨by omega,n1 t hr,by simp[ca]⟩,by omega,⟨by simp[ze],hw⟩,by simp[ca]⟩
 have aa:¬(q:Int)<(e.args.length:Int):=by omega
 obtain rfl:q=e.args.length:=by omega
 rw[List.take_length]at pa;rw[zGJ pa];clear hlt hq
 have ra:ownT p env e.op e.name e.u2 e.place ts=zIE p e.op e.name e.u2 ts:=by unfold ownT;rw[if_neg (by omega),if_neg (by omega),if_pos hop]
 rw[ra]
 have nC:=fun(i1 i2:Nat) (L:List AObj)=>zK.sub (.cons (.refl _) (.cons (.refl _) (.cons (.osl (d:=i1) (i:=i2) (.refl _)) (.refl _)))) (zVq p hp env e ts (by omega) (L::S) (d+1) j h hop)
 generalize zIE p e.op e.name e.u2 ts=r at*
 rcases hop with hop|hop|hop
 .simp[aa,hop]
  simp only[exV,hop]at nC;refine cq (nC _ _ _) ?_;cases r<;>simp[resT,zB8]
 .simp[aa,hop]
  simp only[exV,hop]at nC;refine cq (nC _ _ _) ?_;cases r<;>simp[resT,zB8]
 simp[aa,hop]
 simp only[exV,hop]at nC;refine cq (nC _ _ _) ?_;cases r<;>simp[resT,zB8]
theorem zcH(hp:PrSm p)(he:zAu env)(hl:env.length<=4000000000)(e:Ex)(wa:e.args.length<=20000)(ih:∀x∈e.args,ExC p env x)(Ha:0<zBs e.op)(ee:1<=e.args.length):ExC p env e:=by
 intro S d j h
 have hop:e.op=21\/e.op=26\/e.op=27\/e.op=29:=by
  unfold zBs at Ha
  repeat' split at Ha
  all_goals omega
 have f1:(e.op==1)=false:=by simp;omega
 have f2:(e.op==2)=false:=by simp;omega
 have f3:(e.op==3)=false:=by simp;omega
 have th:(e.op==18)=false:=by simp;omega
 have uh:(e.op==19)=false:=by simp;omega
 have vh:(e.op==20)=false:=by simp;omega
 have h7:7<=e.op:=by omega
 have h17:¬e.op<=17:=by omega
 have mC:=fun S=>zL5 e.op S
 have oC:=fun t S=>zOB t S
 have wC:=fun k t S=>zFi k t S
 have h2:=h
 unfold TAt fnT at h2
 have ec:e.args.length<=maxLen:=by unfold maxLen;omega
 refine zK.intro mixed call38 func38 rfl ?_;simp[ntmps38];refine zo 36 3 (by decide) [.cells [U e.op,I e.int,Sg e.name,Sg e.u2,Sg e.place.name,.p (strs e.place.path),.p (.sl 8 (e.args.map Ex.enc)),I e.pos] 43,.cells [U 0,Sg emS,nilS] 36] (fun a:Nat × List Ty=>a.1<=e.args.length/\tyEs p env (e.args.take a.1)= .ok a.2/\a.2.length=a.1) (fun a=>([.ptr (d+1) j 0,.any,.any,.ptr 0 0 0,.ptr 0 1 0,.osl 3 (a.2.map Ty.enc) 0 2,.any,.any,.any,.any,.any,.any,.any,.any,.p (.sl 8 (e.args.map Ex.enc)),I e.args.length,I a.1]++List.replicate 141 .any)) (fun a=>[.cells [U e.op,I e.int,Sg e.name,Sg e.u2,Sg e.place.name,.p (strs e.place.path),.p (.sl 8 (e.args.map Ex.enc)),I e.pos] 43,.cells [U 0,Sg emS,nilS] 36,.tok 36 3 a.2.length]::S) (fun a=>e.args.length-a.1) (0,[]) ⟨Nat.zero_le _,by rw[List.take_zero,tyEs],rfl⟩ ?_ ?_ ?_ ?_
 .simp
 .simp
 .rfl
 rintro⟨q,ts⟩ ⟨hq,pa,ca⟩
 simp only at hq pa ca
 by_cases hlt:q<e.args.length
 .have aa:(q:Int)<(e.args.length:Int):=by omega
  have hw:=zA hlt
  obtain⟨n1,n2⟩:=zAS hlt pa
  have hx:=ih _ (List.getElem_mem hlt)
  have va:q+1<=4294967296:=by omega
  generalize hy:e.args[q]=x at*
  have hx:=fun(L:List AObj)=>hx (L::S) (d+1) j h
  cases hr:tyE p env x with
  |error f=>
   rw[hr]at hx;rw[zGI (n2 f hr)];simp[hlt,aa,hy,zg];refine cq (hx _) ?_
   simp[resE]
  |ok t=>
   rw[hr]at hx;simp[hlt,aa,hy,zg];refine cq (hx _) ?_;simp[resE,va,ca];exact⟨q+1,ts++[t],⟨by omega,n1 t hr,by simp[ca]⟩,by omega,⟨by simp[ze],hw⟩,by simp[ca]⟩
 have aa:¬(q:Int)<(e.args.length:Int):=by omega
 obtain rfl:q=e.args.length:=by omega
 rw[List.take_length]at pa;rw[zGJ pa];clear hlt hq
 have ra:ownT p env e.op e.name e.u2 e.place ts=if(ts.headD zTy).owned=true then .ok (inTy (zBs e.op) (ts.headD zTy))else .error 101:=by unfold ownT;rw[if_neg (by omega),if_neg (by omega),if_neg (by omega),if_pos Ha]
 generalize dv:zBs e.op=mk at*
 cases ts with
 |nil=>simp at ca;omega
 |cons v l1=>
 cases ho:v.owned with
 |true=>
  rw[show ownT p env e.op e.name e.u2 e.place (v::l1)= .ok (inTy mk v)from ra.trans (if_pos ho)]
  simp[aa,f1,f2,f3,th,uh,vh,h7,h17];refine cq ((mC _).call) ?_;simp[Ha];refine zU (dB [(5,3)] (by kernel_rfl) ?_)
  simp[ze];refine cq (oC _ _) ?_;rw[ho];simp;refine cq ((zf _ _ _ _).det) ?_;simp;refine zU (dB [(5,2)] (by kernel_rfl) ?_)
  simp[ze];refine cq (mC _) ?_;simp;refine cq (wC _ _ _) ?_
  simp[resT,zB8]
 |false=>
  rw[show ownT p env e.op e.name e.u2 e.place (v::l1)= .error 101 from ra.trans (if_neg (by rw[List.headD_cons,ho];simp))]
  simp[aa,f1,f2,f3,th,uh,vh,h7,h17];refine cq ((mC _).call) ?_;simp[Ha];refine z6 6 [6] [(5,3)] (by kernel_rfl) (by kernel_rfl) (by kernel_rfl) ?_
  simp[ze];refine cq (oC _ _) ?_;rw[ho];simp;exact⟨_,_,zf _ _ _ _,by simp[resT,zB8]⟩
theorem zVr(hp:PrSm p)(he:zAu env)(hl:env.length<=4000000000)(e:Ex)(wa:e.args.length<=20000)(ih:∀x∈e.args,ExC p env x)(hop:e.op=23)(ee:1<=e.args.length):ExC p env e:=by
 intro S d j h
 have Ha:zBs e.op=0:=by rw[hop];rfl
 have mC:=fun S=>zL5 e.op S
 rw[Ha,hop]at mC
 have wC:=fun k t S=>zFi k t S
 have lq:¬0<zBs e.op:=by omega
 have h2:=h
 unfold TAt fnT at h2
 have ec:e.args.length<=maxLen:=by unfold maxLen;omega
 refine zK.intro mixed call38 func38 rfl ?_;simp[ntmps38];refine zo 36 3 (by decide) [.cells [U e.op,I e.int,Sg e.name,Sg e.u2,Sg e.place.name,.p (strs e.place.path),.p (.sl 8 (e.args.map Ex.enc)),I e.pos] 43,.cells [U 0,Sg emS,nilS] 36] (fun a:Nat × List Ty=>a.1<=e.args.length/\tyEs p env (e.args.take a.1)= .ok a.2/\a.2.length=a.1) (fun a=>([.ptr (d+1) j 0,.any,.any,.ptr 0 0 0,.ptr 0 1 0,.osl 3 (a.2.map Ty.enc) 0 2,.any,.any,.any,.any,.any,.any,.any,.any,.p (.sl 8 (e.args.map Ex.enc)),I e.args.length,I a.1]++List.replicate 141 .any)) (fun a=>[.cells [U e.op,I e.int,Sg e.name,Sg e.u2,Sg e.place.name,.p (strs e.place.path),.p (.sl 8 (e.args.map Ex.enc)),I e.pos] 43,.cells [U 0,Sg emS,nilS] 36,.tok 36 3 a.2.length]::S) (fun a=>e.args.length-a.1) (0,[]) ⟨Nat.zero_le _,by rw[List.take_zero,tyEs],rfl⟩ ?_ ?_ ?_ ?_
 .simp
 .simp
 .rfl
 rintro⟨q,ts⟩ ⟨hq,pa,ca⟩
 simp only at hq pa ca
 by_cases hlt:q<e.args.length
 .have aa:(q:Int)<(e.args.length:Int):=by omega
  have hw:=zA hlt
  obtain⟨n1,n2⟩:=zAS hlt pa
  have hx:=ih _ (List.getElem_mem hlt)
  have va:q+1<=4294967296:=by omega
  generalize hy:e.args[q]=x at*
  have hx:=fun(L:List AObj)=>hx (L::S) (d+1) j h
  cases hr:tyE p env x with
  |error f=>
   rw[hr]at hx;rw[zGI (n2 f hr)];simp[hlt,aa,hy,zg];refine cq (hx _) ?_
   simp[resE]
  |ok t=>
   rw[hr]at hx;simp[hlt,aa,hy,zg];refine cq (hx _) ?_;simp[resE,va,ca];exact⟨q+1,ts++[t],⟨by omega,n1 t hr,by simp[ca]⟩,by omega,⟨by simp[ze],hw⟩,by simp[ca]⟩
 have aa:¬(q:Int)<(e.args.length:Int):=by omega
 obtain rfl:q=e.args.length:=by omega
 rw[List.take_length]at pa;rw[zGJ pa];clear hlt hq
 have ra:ownT p env e.op e.name e.u2 e.place ts=if(ts.headD zTy).kind<=3 then .ok (inTy 6 (ts.headD zTy))else .error 100:=by unfold ownT;rw[if_neg (by omega),if_neg (by omega),if_neg (by omega),if_neg (by omega),if_pos hop]
 cases ts with
 |nil=>simp at ca;omega
 |cons v l1=>
 by_cases hk:v.kind<=3
 .rw[show ownT p env e.op e.name e.u2 e.place (v::l1)= .ok (inTy 6 v)from ra.trans (if_pos hk)]
  simp[aa,hop];refine cq ((mC _).call) ?_;simp[hop];refine zU (dB [] (by kernel_rfl) ?_)
  simp[ze,hk];refine cq ((zf _ _ _ _).det) ?_;simp[ze];refine cq ((wC _ _ _).call) ?_;simp[resT,zB8]
 rw[show ownT p env e.op e.name e.u2 e.place (v::l1)= .error 100 from ra.trans (if_neg hk)]
 simp[aa,hop];refine cq ((mC _).call) ?_;simp[hop];refine z6 7 [7] [] (by kernel_rfl) (by kernel_rfl) (by kernel_rfl) ?_
 simp[ze,hk];exact⟨_,_,zf _ _ _ _,by simp[resT,zB8]⟩
theorem zVs(hp:PrSm p)(he:zAu env)(hl:env.length<=4000000000)(e:Ex)(wa:e.args.length<=20000)(ih:∀x∈e.args,ExC p env x)(hop:e.op=31)(ee:1<=e.args.length):ExC p env e:=by
 intro S d j h
 have Ha:zBs e.op=0:=by rw[hop];rfl
 have mC:=fun S=>zL5 e.op S
 rw[Ha,hop]at mC
 have wC:=fun k t S=>zFi k t S
 have lq:¬0<zBs e.op:=by omega
 refine zK.bareE (zGK (.inr (.inr hop))) ?_
 have h2:=h
 unfold TAt fnT at h2
 have ec:e.args.length<=maxLen:=by unfold maxLen;omega
 refine zK.intro mixed call38 func38 rfl ?_;simp[ntmps38];refine zo 36 3 (by decide) [.cells [U e.op,I e.int,Sg e.name,Sg e.u2,Sg e.place.name,.p (strs e.place.path),.p (.sl 8 (e.args.map Ex.enc)),I e.pos] 43,.cells [U 0,Sg emS,nilS] 36] (fun a:Nat × List Ty=>a.1<=e.args.length/\tyEs p env (e.args.take a.1)= .ok a.2/\a.2.length=a.1) (fun a=>([.ptr (d+1) j 0,.any,.any,.ptr 0 0 0,.ptr 0 1 0,.osl 3 (a.2.map Ty.enc) 0 2,.any,.any,.any,.any,.any,.any,.any,.any,.p (.sl 8 (e.args.map Ex.enc)),I e.args.length,I a.1]++List.replicate 141 .any)) (fun a=>[.cells [U e.op,I e.int,Sg e.name,Sg e.u2,Sg e.place.name,.p (strs e.place.path),.p (.sl 8 (e.args.map Ex.enc)),I e.pos] 43,.cells [U 0,Sg emS,nilS] 36,.tok 36 3 a.2.length]::S) (fun a=>e.args.length-a.1) (0,[]) ⟨Nat.zero_le _,by rw[List.take_zero,tyEs],rfl⟩ ?_ ?_ ?_ ?_
 .simp
 .simp
 .rfl
 rintro⟨q,ts⟩ ⟨hq,pa,ca⟩
 simp only at hq pa ca
 by_cases hlt:q<e.args.length
 .have aa:(q:Int)<(e.args.length:Int):=by omega
  have hw:=zA hlt
  obtain⟨n1,n2⟩:=zAS hlt pa
  have hx:=ih _ (List.getElem_mem hlt)
  have va:q+1<=4294967296:=by omega
  generalize hy:e.args[q]=x at*
  have hx:=fun(L:List AObj)=>hx (L::S) (d+1) j h
  cases hr:tyE p env x with
  |error f=>
   rw[hr]at hx;rw[zEp (n2 f hr)];simp[hlt,aa,hy,zg];refine cq (hx _) ?_
   simp[resE]
  |ok t=>
   rw[hr]at hx;simp[hlt,aa,hy,zg];refine cq (hx _) ?_;simp[resE,va,ca];exact⟨q+1,ts++[t],⟨by omega,n1 t hr,by simp[ca]⟩,by omega,⟨by simp[ze],hw⟩,by simp[ca]⟩
 have aa:¬(q:Int)<(e.args.length:Int):=by omega
 obtain rfl:q=e.args.length:=by omega
 rw[List.take_length]at pa;rw[zEq pa];clear hlt hq
 have ra:ownT p env e.op e.name e.u2 e.place ts=if(ts.headD zTy).kind=1 then .ok (zAG 10)else .error 100:=by unfold ownT;rw[if_neg (by omega),if_neg (by omega),if_neg (by omega),if_neg (by omega),if_neg (by omega),if_pos hop]
 cases ts with
 |nil=>simp at ca;omega
 |cons v l1=>
 by_cases hk:v.kind=1
 .rw[show ownT p env e.op e.name e.u2 e.place (v::l1)= .ok (zAG 10)from ra.trans (if_pos hk)]
  simp[aa,hop];refine cq ((mC _).call) ?_;simp[hop];refine zU (dB [] (by kernel_rfl) ?_)
  simp[ze,hk];refine cq ((zf _ _ _ _).det) ?_;simp[ze];simp[resT,zB8,zAG,Ty.kind,Ty.name,Ty.args]
 rw[show ownT p env e.op e.name e.u2 e.place (v::l1)= .error 100 from ra.trans (if_neg hk)]
 have Qb:(v.kind==1)=false:=by simpa using hk
 simp[aa,hop];refine cq ((mC _).call) ?_;simp[hop];refine z6 7 [7] [] (by kernel_rfl) (by kernel_rfl) (by kernel_rfl) ?_
 simp[ze,Qb];exact⟨_,_,zf _ _ _ _,by simp[resT,zB8]⟩
end Go.Proofs.YtdflkegnmmkkoaaGreatDoor
namespace Go.Proofs.YtdflkegnmmkkoaaGreatDoor
open Go.RowKit _root_.Go.Proofs.Tryz
attribute [local simp] List.replicate List.range List.range.loop
attribute [local simp] zAd zw zA6 zAe zAD zAf zA7 zx zn zv zAb zA5 zAC zAc zAg zAh zA8 zA9 zCV zAO zAP cutL cutO zBJ ThrK
theorem zcI{p:List It}(hp:PrSm p){env:List Fi}(he:zAu env)(hl:env.length<=4000000000)(e:Ex)(wa:e.args.length<=20000)(ih:∀x∈e.args,ExC p env x)(Ha:zBs e.op=0)(hne:e.op≠1/\e.op≠2/\e.op≠3/\¬(7<=e.op/\e.op<=17)/\e.op≠18/\e.op≠19/\e.op≠20/\e.op≠23/\e.op≠31)(ho:0<(zBF e.op).1)(ee:(zBF e.op).2=false->1<=e.args.length):ExC p env e:=by
 intro S d j h
 have f1:(e.op==1)=false:=by simp;omega
 have f2:(e.op==2)=false:=by simp;omega
 have f3:(e.op==3)=false:=by simp;omega
 have th:(e.op==18)=false:=by simp;omega
 have uh:(e.op==19)=false:=by simp;omega
 have vh:(e.op==20)=false:=by simp;omega
 have xj:(e.op==23)=false:=by simp;omega
 have yj:(e.op==31)=false:=by simp;omega
 have cl:e.op<7\/(7<=e.op/\¬e.op<=17):=by omega
 have mC:=fun S=>zL5 e.op S
 rw[Ha]at mC
 have oC:=fun S=>zS7 e.op S
 have h2:=h
 unfold TAt fnT at h2
 have ec:e.args.length<=maxLen:=by unfold maxLen;omega
 refine zK.intro mixed call38 func38 rfl ?_;simp[ntmps38];refine zo 36 3 (by decide) [.cells [U e.op,I e.int,Sg e.name,Sg e.u2,Sg e.place.name,.p (strs e.place.path),.p (.sl 8 (e.args.map Ex.enc)),I e.pos] 43,.cells [U 0,Sg emS,nilS] 36] (fun a:Nat × List Ty=>a.1<=e.args.length/\tyEs p env (e.args.take a.1)= .ok a.2/\a.2.length=a.1) (fun a=>([.ptr (d+1) j 0,.any,.any,.ptr 0 0 0,.ptr 0 1 0,.osl 3 (a.2.map Ty.enc) 0 2,.any,.any,.any,.any,.any,.any,.any,.any,.p (.sl 8 (e.args.map Ex.enc)),I e.args.length,I a.1]++List.replicate 141 .any)) (fun a=>[.cells [U e.op,I e.int,Sg e.name,Sg e.u2,Sg e.place.name,.p (strs e.place.path),.p (.sl 8 (e.args.map Ex.enc)),I e.pos] 43,.cells [U 0,Sg emS,nilS] 36,.tok 36 3 a.2.length]::S) (fun a=>e.args.length-a.1) (0,[]) ⟨Nat.zero_le _,by rw[List.take_zero,tyEs],rfl⟩ ?_ ?_ ?_ ?_
 .simp
 .simp
 .rfl
 rintro⟨q,ts⟩ ⟨hq,pa,ca⟩
 simp only at hq pa ca
 by_cases hlt:q<e.args.length
 .have aa:(q:Int)<(e.args.length:Int):=by omega
  have hw:=zA hlt
  obtain⟨n1,n2⟩:=zAS hlt pa
  have hx:=ih _ (List.getElem_mem hlt)
  have va:q+1<=4294967296:=by omega
  generalize hy:e.args[q]=x at*
  have hx:=fun(L:List AObj)=>hx (L::S) (d+1) j h
  cases hr:tyE p env x with
  |error f=>
   rw[hr]at hx;rw[zGI (n2 f hr)];simp[hlt,aa,hy,zg];refine cq (hx _) ?_
   simp[resE]
  |ok t=>
   rw[hr]at hx;simp[hlt,aa,hy,zg];refine cq (hx _) ?_;simp[resE,va,ca];exact⟨q+1,ts++[t],⟨by omega,n1 t hr,by simp[ca]⟩,by omega,⟨by simp[ze],hw⟩,by simp[ca]⟩
 have aa:¬(q:Int)<(e.args.length:Int):=by omega
 obtain rfl:q=e.args.length:=by omega
 rw[List.take_length]at pa;rw[zGJ pa];clear hlt hq
 have ra:ownT p env e.op e.name e.u2 e.place ts=zDl p env e.op e.place ts:=by unfold ownT;rw[if_neg (by omega),if_neg (by omega),if_neg (by omega),if_neg (by omega),if_neg (by omega),if_neg (by omega),if_pos ho]
 rw[ra]
 have nC:=fun(i1 i2:Nat) (L:List AObj)=>zK.sub (.cons (.refl _) (.cons (.refl _) (.cons (.osl (d:=i1) (i:=i2) (.refl _)) (.refl _)))) (zcE p hp env he hl e ts (L::S) (d+1) j h ho fun hb=>by have:=ee hb;omega)
 generalize zDl p env e.op e.place ts=r at*
 generalize (zBF e.op).1=ok at*
 generalize (zBF e.op).2=ob at*
 rcases cl with h7|h7
 .have Ok:¬7<=e.op:=by omega
  simp[aa,f1,f2,f3,th,uh,vh,xj,yj,Ok];refine cq ((mC _).call) ?_;simp[f1,f2,f3,th,uh,vh,xj,yj];refine cq ((oC _).call) ?_;simp[ho];refine cq (nC _ _ _) ?_;cases r<;>simp[resT,zB8]
 simp[aa,f1,f2,f3,th,uh,vh,xj,yj,h7]
 refine cq ((mC _).call) ?_;simp[f1,f2,f3,th,uh,vh,xj,yj];refine cq ((oC _).call) ?_;simp[ho];refine cq (nC _ _ _) ?_;cases r<;>simp[resT,zB8]
theorem zcJ{p:List It}(hp:PrSm p){env:List Fi}(he:zAu env)(hl:env.length<=4000000000)(e:Ex)(wa:e.args.length<=20000)(ih:∀x∈e.args,ExC p env x)(Ha:zBs e.op=0)(hne:e.op≠1/\e.op≠2/\e.op≠3/\¬(7<=e.op/\e.op<=17)/\e.op≠18/\e.op≠19/\e.op≠20/\e.op≠23/\e.op≠31)(ho:¬0<(zBF e.op).1):ExC p env e:=by
 intro S d j h
 have f1:(e.op==1)=false:=by simp;omega
 have f2:(e.op==2)=false:=by simp;omega
 have f3:(e.op==3)=false:=by simp;omega
 have th:(e.op==18)=false:=by simp;omega
 have uh:(e.op==19)=false:=by simp;omega
 have vh:(e.op==20)=false:=by simp;omega
 have xj:(e.op==23)=false:=by simp;omega
 have yj:(e.op==31)=false:=by simp;omega
 have cl:e.op<7\/(7<=e.op/\¬e.op<=17):=by omega
 have mC:=fun S=>zL5 e.op S
 rw[Ha]at mC
 have oC:=fun S=>zS7 e.op S
 have Mg:(zBF e.op).1=0:=by
  unfold zBF at ho ⊢
  repeat' split
  all_goals simp_all
 have h2:=h
 unfold TAt fnT at h2
 have ec:e.args.length<=maxLen:=by unfold maxLen;omega
 refine zK.intro mixed call38 func38 rfl ?_;simp[ntmps38];refine zo 36 3 (by decide) [.cells [U e.op,I e.int,Sg e.name,Sg e.u2,Sg e.place.name,.p (strs e.place.path),.p (.sl 8 (e.args.map Ex.enc)),I e.pos] 43,.cells [U 0,Sg emS,nilS] 36] (fun a:Nat × List Ty=>a.1<=e.args.length/\tyEs p env (e.args.take a.1)= .ok a.2/\a.2.length=a.1) (fun a=>([.ptr (d+1) j 0,.any,.any,.ptr 0 0 0,.ptr 0 1 0,.osl 3 (a.2.map Ty.enc) 0 2,.any,.any,.any,.any,.any,.any,.any,.any,.p (.sl 8 (e.args.map Ex.enc)),I e.args.length,I a.1]++List.replicate 141 .any)) (fun a=>[.cells [U e.op,I e.int,Sg e.name,Sg e.u2,Sg e.place.name,.p (strs e.place.path),.p (.sl 8 (e.args.map Ex.enc)),I e.pos] 43,.cells [U 0,Sg emS,nilS] 36,.tok 36 3 a.2.length]::S) (fun a=>e.args.length-a.1) (0,[]) ⟨Nat.zero_le _,by rw[List.take_zero,tyEs],rfl⟩ ?_ ?_ ?_ ?_
 .simp
 .simp
 .rfl
 rintro⟨q,ts⟩ ⟨hq,pa,ca⟩
 simp only at hq pa ca
 by_cases hlt:q<e.args.length
 .have aa:(q:Int)<(e.args.length:Int):=by omega
  have hw:=zA hlt
  obtain⟨n1,n2⟩:=zAS hlt pa
  have hx:=ih _ (List.getElem_mem hlt)
  have va:q+1<=4294967296:=by omega
  generalize hy:e.args[q]=x at*
  have hx:=fun(L:List AObj)=>hx (L::S) (d+1) j h
  cases hr:tyE p env x with
  |error f=>
   rw[hr]at hx;rw[zGI (n2 f hr)];simp[hlt,aa,hy,zg];refine cq (hx _) ?_
   simp[resE]
  |ok t=>
   rw[hr]at hx;simp[hlt,aa,hy,zg];refine cq (hx _) ?_;simp[resE,va,ca];exact⟨q+1,ts++[t],⟨by omega,n1 t hr,by simp[ca]⟩,by omega,⟨by simp[ze],hw⟩,by simp[ca]⟩
 have aa:¬(q:Int)<(e.args.length:Int):=by omega
 obtain rfl:q=e.args.length:=by omega
 rw[List.take_length]at pa;rw[zGJ pa];clear hlt hq
 have ra:ownT p env e.op e.name e.u2 e.place ts=zFe p env e.op e.place ts:=by unfold ownT;rw[if_neg (by omega),if_neg (by omega),if_neg (by omega),if_neg (by omega),if_neg (by omega),if_neg (by omega),if_neg (by omega)]
 rw[ra]
 have nC:=fun(i1 i2:Nat) (L:List AObj)=>zK.sub (.cons (.refl _) (.cons (.refl _) (.cons (.osl (d:=i1) (i:=i2) (.refl _)) (.refl _)))) (zTA p hp env he hl e ts (L::S) (d+1) j h)
 generalize zFe p env e.op e.place ts=r at*
 generalize (zBF e.op).1=ok at*
 generalize (zBF e.op).2=ob at*
 rcases cl with h7|h7
 .have Ok:¬7<=e.op:=by omega
  simp[aa,f1,f2,f3,th,uh,vh,xj,yj,Ok];refine cq ((mC _).call) ?_;simp[f1,f2,f3,th,uh,vh,xj,yj];refine cq ((oC _).call) ?_;simp[Mg];refine cq (nC _ _ _) ?_;cases r<;>simp[resT,zB8]
 simp[aa,f1,f2,f3,th,uh,vh,xj,yj,h7]
 refine cq ((mC _).call) ?_;simp[f1,f2,f3,th,uh,vh,xj,yj];refine cq ((oC _).call) ?_;simp[Mg];refine cq (nC _ _ _) ?_;cases r<;>simp[resT,zB8]
end Go.Proofs.YtdflkegnmmkkoaaGreatDoor
