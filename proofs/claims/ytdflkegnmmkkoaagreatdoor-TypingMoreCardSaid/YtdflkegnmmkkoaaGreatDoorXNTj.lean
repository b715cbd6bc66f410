/- A part of the proof. -/
import Derived.Test.YtdflkegnmmkkoaaGreatDoorXNTi
set_option linter.unusedVariables false
set_option linter.unusedSimpArgs false
set_option maxRecDepth 100000
set_option maxHeartbeats 32000000
namespace Go.Proofs.YtdflkegnmmkkoaaGreatDoor
open Go.RowKit _root_.Go.Proofs.Tryz
attribute [local simp] List.replicate List.range List.range.loop List.forall_mem_cons List.contains_cons List.contains_nil List.find?
attribute [local simp] zAg zy zBB zAh zAI zAi zBC z5 zo zx zAe zBA zAH zAf zAj zAk zBD zBE zCe zAR zAS cutL cutO zBM ThrK
def resE(r:Except Flt Ty):ARes:=match r with| .ok t=>.ret (tyV t)| .error f=>.thr (fltW f)
def ExC(p:List It)(env:List Fi)(x:Ex):Prop:=∀(S:ASt) (d j:Nat),TAt p S d j env->zM Tryz.prog 38 [.ptr d j 0,exV x] S (resE (tyE p env x)) S
theorem zGO{p:List It}{env:List Fi}{e:Ex}{f:Flt}(h:tyEs p env e.args= .error f):resE (tyE p env e)= .thr (fltW f):=by rw[zJv,h];rfl
theorem zGP{p:List It}{env:List Fi}{e:Ex}{ts:List Ty}(h:tyEs p env e.args= .ok ts):resE (tyE p env e)=resT (ownT p env e.op e.name e.u2 e.place ts) e.pos:=by
 rw[zJv,h];simp only;cases ownT p env e.op e.name e.u2 e.place ts<;>rfl
def zY7(r:Except Flt Ty):ARes:=match r with| .ok t=>.ret (.agg [U t.kind,Sg t.name,nilS])| .error f=>.thr (fltW f)
theorem zM.bareE{P:Program}{K:FuncId}{args:List AV}{S S':ASt}{r:Except Flt Ty}(hr:∀t,r= .ok t->t.args=[])(h:zM P K args S (zY7 r) S'):zM P K args S (resE r) S':=by
 cases r with
 |error n=>exact h
 |ok t=>exact zM.bare (hr t rfl) h
theorem zE2{p:List It}{env:List Fi}{e:Ex}{f:Flt}(h:tyEs p env e.args= .error f):zY7 (tyE p env e)= .thr (fltW f):=by rw[zJv,h];rfl
theorem zE3{p:List It}{env:List Fi}{e:Ex}{ts:List Ty}(h:tyEs p env e.args= .ok ts):zY7 (tyE p env e)=zCE (ownT p env e.op e.name e.u2 e.place ts) e.pos:=by
 rw[zJv,h];simp only;cases ownT p env e.op e.name e.u2 e.place ts<;>rfl
theorem zGQ{p:List It}{env:List Fi}{e:Ex}(hop:(e.op=1\/e.op=2\/e.op=3)\/(7<=e.op/\e.op<=17)\/e.op=31):∀t,tyE p env e= .ok t->t.args=[]:=fun t ht=>by
 rw[zJv]at ht;split at ht
 .cases ht
 rename_i l hl
 split at ht
 .rename_i u hu
  cases ht;unfold ownT at hu
  have Sa:¬0<zBl e.op:=by
   unfold zBl;rw[if_neg (by omega),if_neg (by omega),if_neg (by omega),if_neg (by omega)]
   omega
  rcases hop with h|h|h
  .rw[if_pos h]at hu;cases hu;rfl
  .rw[if_neg (by omega),if_pos h]at hu
   split at hu
   .cases hu;rfl
   cases hu
  rw[if_neg (by omega),if_neg (by omega),if_neg (by omega),if_neg Sa,if_neg (by omega),if_pos h]at hu
  split at hu
  .cases hu;rfl
  cases hu
 cases ht
def zGR:Value:=.agg #[.int .u8 1,.int .u8 1,.int .u8 2,.int .u8 2,.int .u8 1,.int .u8 1,.int .u8 1,.int .u8 1,.int .u8 1,.int .u8 1,.int .u8 1,.int .u8 1,.int .u8 1,.int .u8 1,.int .u8 1,.int .u8 2,.int .u8 1,.int .u8 2,.int .u8 2,.int .u8 2,.int .u8 2,.int .u8 2]
section
variable(op:Int)(dst:Option Tmp)(x ix:Operand)(ty:TypeId)(pos:String)(after:Array Edge)(guard:Option (Nat × Bool))(fr:List AV)
theorem zbW(h7:7<=op)(h17:op<=17)(hx:evA fr x=zY2)(hy:evA fr ix=U (op-7)):genP Tryz.prog ⟨dst,.index 125 x ix,ty,pos,after,guard⟩ fr=some (.agg [U (zGq op).1,U (zGq op).2]):=by
 have v1:zAu (evA fr x)=some zGR:=by rw[hx];rfl
 have v2:zAu (evA fr ix)=some (.int .u8 (op-7)):=by rw[hy];rfl
 have h1:(zGh (.index 125 x ix)&&zN fr (Op.operands (.index 125 x ix)).toList)=true:=by
  show(true&&zN fr [x,ix])=true
  rw[Bool.true_and,zN,zN,zN,v1,v2];rfl
 have k0:zJ Tryz.prog (Instr.index 125 zGR (.int .u8 0))=some (.agg #[.int .u8 1,.int .u8 1]):=by kernel_rfl
 have k1:zJ Tryz.prog (Instr.index 125 zGR (.int .u8 1))=some (.agg #[.int .u8 2,.int .u8 2]):=by kernel_rfl
 have k2:zJ Tryz.prog (Instr.index 125 zGR (.int .u8 2))=some (.agg #[.int .u8 1,.int .u8 1]):=by kernel_rfl
 have k3:zJ Tryz.prog (Instr.index 125 zGR (.int .u8 3))=some (.agg #[.int .u8 1,.int .u8 1]):=by kernel_rfl
 have k4:zJ Tryz.prog (Instr.index 125 zGR (.int .u8 4))=some (.agg #[.int .u8 1,.int .u8 1]):=by kernel_rfl
 have k5:zJ Tryz.prog (Instr.index 125 zGR (.int .u8 5))=some (.agg #[.int .u8 1,.int .u8 1]):=by kernel_rfl
 have k6:zJ Tryz.prog (Instr.index 125 zGR (.int .u8 6))=some (.agg #[.int .u8 1,.int .u8 1]):=by kernel_rfl
 have k7:zJ Tryz.prog (Instr.index 125 zGR (.int .u8 7))=some (.agg #[.int .u8 1,.int .u8 2]):=by kernel_rfl
 have k8:zJ Tryz.prog (Instr.index 125 zGR (.int .u8 8))=some (.agg #[.int .u8 1,.int .u8 2]):=by kernel_rfl
 have k9:zJ Tryz.prog (Instr.index 125 zGR (.int .u8 9))=some (.agg #[.int .u8 2,.int .u8 2]):=by kernel_rfl
 have ni:zJ Tryz.prog (Instr.index 125 zGR (.int .u8 10))=some (.agg #[.int .u8 2,.int .u8 2]):=by kernel_rfl
 have ua:zJ Tryz.prog (Instr.index 125 zGR (.int .u8 (op-7)))=some (.agg #[.int .u8 (zGq op).1,.int .u8 (zGq op).2]):=by
  have ho:op=7\/op=8\/op=9\/op=10\/op=11\/op=12\/op=13\/op=14\/op=15\/op=16\/op=17:=by omega
  rcases ho with rfl|rfl|rfl|rfl|rfl|rfl|rfl|rfl|rfl|rfl|rfl
  .exact k0
  .exact k1
  .exact k2
  .exact k3
  .exact k4
  .exact k5
  .exact k6
  .exact k7
  .exact k8
  .exact k9
  exact ni
 have h2:zJ Tryz.prog (execOp (fun z=>(zAu (evA fr z)).getD undef) ⟨dst,.index 125 x ix,ty,pos,after,guard⟩)=some (.value (.agg #[.int .u8 (zGq op).1,.int .u8 (zGq op).2])):=by
  have e1:(zAu (evA fr x)).getD undef=zGR:=by rw[v1];rfl
  have e2:(zAu (evA fr ix)).getD undef= .int .u8 (op-7):=by rw[v2];rfl
  unfold execOp;simp only[e1,e2];exact zBh _ _ _ ua
 unfold genP;simp only;rw[if_pos h1,h2];rfl
end
theorem zbX{p:List It}(hp:PrSm p){env:List Fi}(he:zA3 env)(hl:env.length<=4000000000)(e:Ex)(xa:e.args.length<=20000)(ih:∀x∈e.args,ExC p env x)(hop:e.op=1):ExC p env e:=by
 intro S d j h;refine zM.bareE (zGQ (.inl (by omega))) ?_
 have h2:=h
 unfold TAt fnT at h2
 have cc:e.args.length<=maxLen:=by unfold maxLen;omega
 refine zM.intro mixed call38 func38 rfl ?_;simp[ntmps38];refine zp 36 3 (by decide) [.cells [U e.op,I e.int,Sg e.name,Sg e.u2,Sg e.place.name,.p (strs e.place.path),.p (.sl 8 (e.args.map Ex.enc)),I e.pos] 43,.cells [U 0,Sg emS,nilS] 36] (fun a:Nat × List Ty=>a.1<=e.args.length/\tyEs p env (e.args.take a.1)= .ok a.2/\a.2.length=a.1) (fun a=>([.ptr (d+1) j 0,.any,.any,.ptr 0 0 0,.ptr 0 1 0,.osl 3 (a.2.map Ty.enc) 0 2,.any,.any,.any,.any,.any,.any,.any,.any,.p (.sl 8 (e.args.map Ex.enc)),I e.args.length,I a.1]++List.replicate 141 .any)) (fun a=>[.cells [U e.op,I e.int,Sg e.name,Sg e.u2,Sg e.place.name,.p (strs e.place.path),.p (.sl 8 (e.args.map Ex.enc)),I e.pos] 43,.cells [U 0,Sg emS,nilS] 36,.tok 36 3 a.2.length]::S) (fun a=>e.args.length-a.1) (0,[]) ⟨Nat.zero_le _,by rw[List.take_zero,tyEs],rfl⟩ ?_ ?_ ?_ ?_
 .simp
 .simp
 .rfl
 rintro⟨q,ts⟩ ⟨hq,pa,ca⟩
 simp only at hq pa ca
 by_cases hlt:q<e.args.length
 .have aa:(q:Int)<(e.args.length:Int):=by omega
  have hw:=zB hlt
  obtain⟨n1,n2⟩:=zAU hlt pa
  have hx:=ih _ (List.getElem_mem hlt)
  have wa:q+1<=4294967296:=by omega
  generalize hy:e.args[q]=x at*
  have hx:=fun(L:List AObj)=>hx (L::S) (d+1) j h
  cases hr:tyE p env x with
  |error f=>
   rw[hr]at hx;rw[zE2 (n2 f hr)];simp[hlt,aa,hy,zm];refine cq (hx _) ?_
   simp[resE]
  |ok t=>
   rw[hr]at hx;simp[hlt,aa,hy,zm];refine cq (hx _) ?_;simp[resE,wa,ca];exact⟨q+1,ts++[t],⟨by omega,n1 t hr,by simp[ca]⟩,by omega,⟨by simp[zd],hw⟩,by simp[ca]⟩
 have aa:¬(q:Int)<(e.args.length:Int):=by omega
 obtain rfl:q=e.args.length:=by omega
 rw[List.take_length]at pa;rw[zE3 pa];clear hlt hq
 have ra:ownT p env e.op e.name e.u2 e.place ts= .ok (zAE 1):=by unfold ownT;rw[if_pos (by omega),hop]
 rw[ra];simp[aa,hop,resT,zCE,zAE,Ty.kind,Ty.name,Ty.args]
theorem zbY{p:List It}(hp:PrSm p){env:List Fi}(he:zA3 env)(hl:env.length<=4000000000)(e:Ex)(xa:e.args.length<=20000)(ih:∀x∈e.args,ExC p env x)(hop:e.op=2):ExC p env e:=by
 intro S d j h;refine zM.bareE (zGQ (.inl (by omega))) ?_
 have h2:=h
 unfold TAt fnT at h2
 have cc:e.args.length<=maxLen:=by unfold maxLen;omega
 refine zM.intro mixed call38 func38 rfl ?_;simp[ntmps38];refine zp 36 3 (by decide) [.cells [U e.op,I e.int,Sg e.name,Sg e.u2,Sg e.place.name,.p (strs e.place.path),.p (.sl 8 (e.args.map Ex.enc)),I e.pos] 43,.cells [U 0,Sg emS,nilS] 36] (fun a:Nat × List Ty=>a.1<=e.args.length/\tyEs p env (e.args.take a.1)= .ok a.2/\a.2.length=a.1) (fun a=>([.ptr (d+1) j 0,.any,.any,.ptr 0 0 0,.ptr 0 1 0,.osl 3 (a.2.map Ty.enc) 0 2,.any,.any,.any,.any,.any,.any,.any,.any,.p (.sl 8 (e.args.map Ex.enc)),I e.args.length,I a.1]++List.replicate 141 .any)) (fun a=>[.cells [U e.op,I e.int,Sg e.name,Sg e.u2,Sg e.place.name,.p (strs e.place.path),.p (.sl 8 (e.args.map Ex.enc)),I e.pos] 43,.cells [U 0,Sg emS,nilS] 36,.tok 36 3 a.2.length]::S) (fun a=>e.args.length-a.1) (0,[]) ⟨Nat.zero_le _,by rw[List.take_zero,tyEs],rfl⟩ ?_ ?_ ?_ ?_
 .simp
 .simp
 .rfl
 rintro⟨q,ts⟩ ⟨hq,pa,ca⟩
 simp only at hq pa ca
 by_cases hlt:q<e.args.length
 .have aa:(q:Int)<(e.args.length:Int):=by omega
  have hw:=zB hlt
  obtain⟨n1,n2⟩:=zAU hlt pa
  have hx:=ih _ (List.getElem_mem hlt)
  have wa:q+1<=4294967296:=by omega
  generalize hy:e.args[q]=x at*
  have hx:=fun(L:List AObj)=>hx (L::S) (d+1) j h
  cases hr:tyE p env x with
  |error f=>
   rw[hr]at hx;rw[zE2 (n2 f hr)];simp[hlt,aa,hy,zm];refine cq (hx _) ?_
   simp[resE]
  |ok t=>
   rw[hr]at hx;simp[hlt,aa,hy,zm];refine cq (hx _) ?_;simp[resE,wa,ca];exact⟨q+1,ts++[t],⟨by omega,n1 t hr,by simp[ca]⟩,by omega,⟨by simp[zd],hw⟩,by simp[ca]⟩
 have aa:¬(q:Int)<(e.args.length:Int):=by omega
 obtain rfl:q=e.args.length:=by omega
 rw[List.take_length]at pa;rw[zE3 pa];clear hlt hq
 have ra:ownT p env e.op e.name e.u2 e.place ts= .ok (zAE 2):=by unfold ownT;rw[if_pos (by omega),hop]
 rw[ra];simp[aa,hop,resT,zCE,zAE,Ty.kind,Ty.name,Ty.args]
theorem zbZ{p:List It}(hp:PrSm p){env:List Fi}(he:zA3 env)(hl:env.length<=4000000000)(e:Ex)(xa:e.args.length<=20000)(ih:∀x∈e.args,ExC p env x)(hop:e.op=3):ExC p env e:=by
 intro S d j h;refine zM.bareE (zGQ (.inl (by omega))) ?_
 have h2:=h
 unfold TAt fnT at h2
 have cc:e.args.length<=maxLen:=by unfold maxLen;omega
 refine zM.intro mixed call38 func38 rfl ?_;simp[ntmps38];refine zp 36 3 (by decide) [.cells [U e.op,I e.int,Sg e.name,Sg e.u2,Sg e.place.name,.p (strs e.place.path),.p (.sl 8 (e.args.map Ex.enc)),I e.pos] 43,.cells [U 0,Sg emS,nilS] 36] (fun a:Nat × List Ty=>a.1<=e.args.length/\tyEs p env (e.args.take a.1)= .ok a.2/\a.2.length=a.1) (fun a=>([.ptr (d+1) j 0,.any,.any,.ptr 0 0 0,.ptr 0 1 0,.osl 3 (a.2.map Ty.enc) 0 2,.any,.any,.any,.any,.any,.any,.any,.any,.p (.sl 8 (e.args.map Ex.enc)),I e.args.length,I a.1]++List.replicate 141 .any)) (fun a=>[.cells [U e.op,I e.int,Sg e.name,Sg e.u2,Sg e.place.name,.p (strs e.place.path),.p (.sl 8 (e.args.map Ex.enc)),I e.pos] 43,.cells [U 0,Sg emS,nilS] 36,.tok 36 3 a.2.length]::S) (fun a=>e.args.length-a.1) (0,[]) ⟨Nat.zero_le _,by rw[List.take_zero,tyEs],rfl⟩ ?_ ?_ ?_ ?_
 .simp
 .simp
 .rfl
 rintro⟨q,ts⟩ ⟨hq,pa,ca⟩
 simp only at hq pa ca
 by_cases hlt:q<e.args.length
 .have aa:(q:Int)<(e.args.length:Int):=by omega
  have hw:=zB hlt
  obtain⟨n1,n2⟩:=zAU hlt pa
  have hx:=ih _ (List.getElem_mem hlt)
  have wa:q+1<=4294967296:=by omega
  generalize hy:e.args[q]=x at*
  have hx:=fun(L:List AObj)=>hx (L::S) (d+1) j h
  cases hr:tyE p env x with
  |error f=>
   rw[hr]at hx;rw[zE2 (n2 f hr)];simp[hlt,aa,hy,zm];refine cq (hx _) ?_
   simp[resE]
  |ok t=>
   rw[hr]at hx;simp[hlt,aa,hy,zm];refine cq (hx _) ?_;simp[resE,wa,ca];exact⟨q+1,ts++[t],⟨by omega,n1 t hr,by simp[ca]⟩,by omega,⟨by simp[zd],hw⟩,by simp[ca]⟩
 have aa:¬(q:Int)<(e.args.length:Int):=by omega
 obtain rfl:q=e.args.length:=by omega
 rw[List.take_length]at pa;rw[zE3 pa];clear hlt hq
 have ra:ownT p env e.op e.name e.u2 e.place ts= .ok (zAE 3):=by unfold ownT;rw[if_pos (by omega),hop]
 rw[ra];simp[aa,hop,resT,zCE,zAE,Ty.kind,Ty.name,Ty.args]
theorem zcp{p:List It}(hp:PrSm p){env:List Fi}(he:zA3 env)(hl:env.length<=4000000000)(e:Ex)(xa:e.args.length<=20000)(ih:∀x∈e.args,ExC p env x)(h7:7<=e.op)(h17:e.op<=17):ExC p env e:=by
 intro S d j h
 have f1:(e.op==1)=false:=by simp;omega
 have f2:(e.op==2)=false:=by simp;omega
 have f3:(e.op==3)=false:=by simp;omega
 have rC:=fun S=>zbP S
 have iu:IntKind.u8.wrap (e.op-7)=e.op-7:=by unfold IntKind.wrap;simp[IntKind.bits,IntKind.signed];omega
 refine zM.bareE (zGQ (.inr (.inl ⟨h7,h17⟩))) ?_
 have h2:=h
 unfold TAt fnT at h2
 have cc:e.args.length<=maxLen:=by unfold maxLen;omega
 refine zM.intro mixed call38 func38 rfl ?_;simp[ntmps38];refine zp 36 3 (by decide) [.cells [U e.op,I e.int,Sg e.name,Sg e.u2,Sg e.place.name,.p (strs e.place.path),.p (.sl 8 (e.args.map Ex.enc)),I e.pos] 43,.cells [U 0,Sg emS,nilS] 36] (fun a:Nat × List Ty=>a.1<=e.args.length/\tyEs p env (e.args.take a.1)= .ok a.2/\a.2.length=a.1) (fun a=>([.ptr (d+1) j 0,.any,.any,.ptr 0 0 0,.ptr 0 1 0,.osl 3 (a.2.map Ty.enc) 0 2,.any,.any,.any,.any,.any,.any,.any,.any,.p (.sl 8 (e.args.map Ex.enc)),I e.args.length,I a.1]++List.replicate 141 .any)) (fun a=>[.cells [U e.op,I e.int,Sg e.name,Sg e.u2,Sg e.place.name,.p (strs e.place.path),.p (.sl 8 (e.args.map Ex.enc)),I e.pos] 43,.cells [U 0,Sg emS,nilS] 36,.tok 36 3 a.2.length]::S) (fun a=>e.args.length-a.1) (0,[]) ⟨Nat.zero_le _,by rw[List.take_zero,tyEs],rfl⟩ ?_ ?_ ?_ ?_
 .simp
 .simp
 .rfl
 rintro⟨q,ts⟩ ⟨hq,pa,ca⟩
 simp only at hq pa ca
 by_cases hlt:q<e.args.length
 .have aa:(q:Int)<(e.args.length:Int):=by omega
  have hw:=zB hlt
  obtain⟨n1,n2⟩:=zAU hlt pa
  have hx:=ih _ (List.getElem_mem hlt)
  have wa:q+1<=4294967296:=by omega
  generalize hy:e.args[q]=x at*
  have hx:=fun(L:List AObj)=>hx (L::S) (d+1) j h
  cases hr:tyE p env x with
  |error f=>
   rw[hr]at hx;rw[zE2 (n2 f hr)];simp[hlt,aa,hy,zm];refine cq (hx _) ?_
   simp[resE]
  |ok t=>
   rw[hr]at hx;simp[hlt,aa,hy,zm];refine cq (hx _) ?_;simp[resE,wa,ca];exact⟨q+1,ts++[t],⟨by omega,n1 t hr,by simp[ca]⟩,by omega,⟨by simp[zd],hw⟩,by simp[ca]⟩
 have aa:¬(q:Int)<(e.args.length:Int):=by omega
 obtain rfl:q=e.args.length:=by omega
 rw[List.take_length]at pa;rw[zE3 pa];clear hlt hq
 have ra:ownT p env e.op e.name e.u2 e.place ts=if(ts.all fun t=>t.kind==(zGq e.op).1)=true then .ok (zAE (zGq e.op).2)else .error 100:=by unfold ownT;rw[if_neg (by omega),if_pos ⟨h7,h17⟩]
 rw[ra]
 have i1:=zbW e.op (h7:=h7) (h17:=h17)
 generalize (zGq e.op).1=r1 at*
 generalize (zGq e.op).2=r2 at*
 generalize Dd:(ts.all fun t=>t.kind==r1)=al
 simp[aa,f1,f2,f3,h7,h17];refine zX (zEj [(5,6,8)] [(2,0)] (by kernel_rfl) (by kernel_rfl) (by kernel_rfl) (by simp) ?_)
 simp;refine cq (rC _) ?_;simp[iu,i1];refine zBq (fun q:Nat=>q<=ts.length/\∀i (h:i<ts.length),i<q->ts[i].kind=r1) (fun q=>([.any,.any,.any,.ptr 0 0 0,.ptr 0 1 0,.any,.any,.any,.ptr 0 3 0]++(List.replicate 47 .any++([.osl 3 (ts.map Ty.enc) 0 2,I ts.length,I q]++List.replicate 99 .any)))) (fun q=>[.cells [U e.op,I e.int,Sg e.name,Sg e.u2,Sg e.place.name,.p (strs e.place.path),.p (.sl 8 (e.args.map Ex.enc)),I e.pos] 43,.cells [U 0,Sg emS,nilS] 36,.tok 36 3 ts.length,.cells [U r1,U r2] 124]::S) (fun q=>ts.length-q) 0 ⟨Nat.zero_le _,fun i h hi=>by omega⟩ ?_ ?_ ?_
 .simp
 .simp
 rintro q ⟨hq,ia⟩
 by_cases Id:q<ts.length
 .have Ac:(q:Int)<(ts.length:Int):=by omega
  have hw:=zB Id (by omega)
  have Xa:ts[q].kind=r1->∀i (h:i<ts.length),i<q+1->ts[i].kind=r1:=fun he i h hi=>by
   by_cases Mg:i=q
   .subst Mg;exact he
   exact ia i h (by omega)
  have wb:ts[q].kind≠r1->al=false:=fun he=>by
   rw[<-Dd,List.all_eq_false];exact⟨ts[q],List.getElem_mem Id,by simpa using he⟩
  generalize hy:ts[q]=u at*
  by_cases hk:u.kind=r1
  .simp[Id,Ac,hy,zd,hk]
   refine cq (zf _ _ _ _) ?_;simp;exact⟨q+1,⟨by omega,Xa hk⟩,by omega,hw⟩
  have dc:(u.kind==r1)=false:=by simpa using hk
  rw[wb hk];simp[Id,Ac,hy,zd,dc];refine cq (zf _ _ _ _) ?_;simp[resT,zCE]
 have Ac:¬(q:Int)<(ts.length:Int):=by omega
 have pi:al=true:=by
  rw[<-Dd,List.all_eq_true];intro t ht
  obtain⟨i,hi,rfl⟩:=List.getElem_of_mem ht
  simpa using ia i hi (by omega)
 rw[pi];simp[Ac,resT,zCE,zAE,Ty.kind,Ty.name,Ty.args]
end Go.Proofs.YtdflkegnmmkkoaaGreatDoor
namespace Go.Proofs.YtdflkegnmmkkoaaGreatDoor
open Go.RowKit _root_.Go.Proofs.Tryz
attribute [local simp] List.replicate List.range List.range.loop List.forall_mem_cons List.contains_cons List.contains_nil List.find?
attribute [local simp] zAg zy zBB zAh zAI zAi zBC z5 zo zx zAe zBA zAH zAf zAj zAk zBD zBE zCe zAR zAS cutL cutO zBM ThrK
variable{env:List Fi}{p:List It}
theorem zcq(hp:PrSm p)(he:zA3 env)(hl:env.length<=4000000000)(e:Ex)(xa:e.args.length<=20000)(ih:∀x∈e.args,ExC p env x)(hop:e.op=18\/e.op=19\/e.op=20):ExC p env e:=by
 intro S d j h
 have h2:=h
 unfold TAt fnT at h2
 have cc:e.args.length<=maxLen:=by unfold maxLen;omega
 refine zM.intro mixed call38 func38 rfl ?_;simp[ntmps38];refine zp 36 3 (by decide) [.cells [U e.op,I e.int,Sg e.name,Sg e.u2,Sg e.place.name,.p (strs e.place.path),.p (.sl 8 (e.args.map Ex.enc)),I e.pos] 43,.cells [U 0,Sg emS,nilS] 36] (fun a:Nat × List Ty=>a.1<=e.args.length/\tyEs p env (e.args.take a.1)= .ok a.2/\a.2.length=a.1) (fun a=>([.ptr (d+1) j 0,.any,.any,.ptr 0 0 0,.ptr 0 1 0,.osl 3 (a.2.map Ty.enc) 0 2,.any,.any,.any,.any,.any,.any,.any,.any,.p (.sl 8 (e.args.map Ex.enc)),I e.args.length,I a.1]++List.replicate 141 .any)) (fun a=>[.cells [U e.op,I e.int,Sg e.name,Sg e.u2,Sg e.place.name,.p (strs e.place.path),.p (.sl 8 (e.args.map Ex.enc)),I e.pos] 43,.cells [U 0,Sg emS,nilS] 36,.tok 36 3 a.2.length]::S) (fun a=>e.args.length-a.1) (0,[]) ⟨Nat.zero_le _,by rw[List.take_zero,tyEs],rfl⟩ ?_ ?_ ?_ ?_
 .simp
 .simp
 .rfl
 rintro⟨q,ts⟩ ⟨hq,pa,ca⟩
 simp only at hq pa ca
 by_cases hlt:q<e.args.length
 .have aa:(q:Int)<(e.args.length:Int):=by omega
  have hw:=zB hlt
  obtain⟨n1,n2⟩:=zAU hlt pa
  have hx:=ih _ (List.getElem_mem hlt)
  have wa:q+1<=4294967296:=by omega
  generalize hy:e.args[q]=x at*
  have hx:=fun(L:List AObj)=>hx (L::S) (d+1) j h
  cases hr:tyE p env x with
  |error f=>
   rw[hr]at hx;rw[zGO (n2 f hr)];simp[hlt,aa,hy,zm];refine cq (hx _) ?_
   simp[resE]
  |ok t=>
   rw[hr]at hx;simp[hlt,aa,hy,zm];refine cq (hx _) ?_;simp[resE,wa,ca];exact⟨q+1,ts++[t],⟨by omega,n1 t hr,by simp[ca]⟩,by omega,⟨by simp[zd],hw⟩,by simp[ca]⟩
 have aa:¬(q:Int)<(e.args.length:Int):=by omega
 obtain rfl:q=e.args.length:=by omega
 rw[List.take_length]at pa;rw[zGP pa];clear hlt hq
 have ra:ownT p env e.op e.name e.u2 e.place ts=zHE p e.op e.name e.u2 ts:=by unfold ownT;rw[if_neg (by omega),if_neg (by omega),if_pos hop]
 rw[ra]
 have nC:=fun(i1 i2:Nat) (L:List AObj)=>zM.sub (.cons (.refl _) (.cons (.refl _) (.cons (.osl (d:=i1) (i:=i2) (.refl _)) (.refl _)))) (zWC p hp env e ts (by omega) (L::S) (d+1) j h hop)
 generalize zHE p e.op e.name e.u2 ts=r at*
 rcases hop with hop|hop|hop
 .simp[aa,hop]
  simp only[exV,hop]at nC;refine cq (nC _ _ _) ?_;cases r<;>simp[resT,zCE]
 .simp[aa,hop]
  simp only[exV,hop]at nC;refine cq (nC _ _ _) ?_;cases r<;>simp[resT,zCE]
 simp[aa,hop]
 simp only[exV,hop]at nC;refine cq (nC _ _ _) ?_;cases r<;>simp[resT,zCE]
theorem zcr(hp:PrSm p)(he:zA3 env)(hl:env.length<=4000000000)(e:Ex)(xa:e.args.length<=20000)(ih:∀x∈e.args,ExC p env x)(Sa:0<zBl e.op)(be:1<=e.args.length):ExC p env e:=by
 intro S d j h
 have hop:e.op=21\/e.op=26\/e.op=27\/e.op=29:=by
  unfold zBl at Sa
  repeat' split at Sa
  all_goals omega
 have f1:(e.op==1)=false:=by simp;omega
 have f2:(e.op==2)=false:=by simp;omega
 have f3:(e.op==3)=false:=by simp;omega
 have nh:(e.op==18)=false:=by simp;omega
 have oh:(e.op==19)=false:=by simp;omega
 have ph:(e.op==20)=false:=by simp;omega
 have h7:7<=e.op:=by omega
 have h17:¬e.op<=17:=by omega
 have mC:=fun S=>zL3 e.op S
 have oC:=fun t S=>zOO t S
 have wC:=fun k t S=>zFv k t S
 have h2:=h
 unfold TAt fnT at h2
 have cc:e.args.length<=maxLen:=by unfold maxLen;omega
 refine zM.intro mixed call38 func38 rfl ?_;simp[ntmps38];refine zp 36 3 (by decide) [.cells [U e.op,I e.int,Sg e.name,Sg e.u2,Sg e.place.name,.p (strs e.place.path),.p (.sl 8 (e.args.map Ex.enc)),I e.pos] 43,.cells [U 0,Sg emS,nilS] 36] (fun a:Nat × List Ty=>a.1<=e.args.length/\tyEs p env (e.args.take a.1)= .ok a.2/\a.2.length=a.1) (fun a=>([.ptr (d+1) j 0,.any,.any,.ptr 0 0 0,.ptr 0 1 0,.osl 3 (a.2.map Ty.enc) 0 2,.any,.any,.any,.any,.any,.any,.any,.any,.p (.sl 8 (e.args.map Ex.enc)),I e.args.length,I a.1]++List.replicate 141 .any)) (fun a=>[.cells [U e.op,I e.int,Sg e.name,Sg e.u2,Sg e.place.name,.p (strs e.place.path),.p (.sl 8 (e.args.map Ex.enc)),I e.pos] 43,.cells [U 0,Sg emS,nilS] 36,.tok 36 3 a.2.length]::S) (fun a=>e.args.length-a.1) (0,[]) ⟨Nat.zero_le _,by rw[List.take_zero,tyEs],rfl⟩ ?_ ?_ ?_ ?_
 .simp
 .simp
 .rfl
 rintro⟨q,ts⟩ ⟨hq,pa,ca⟩
 simp only at hq pa ca
 by_cases hlt:q<e.args.length
 .have aa:(q:Int)<(e.args.length:Int):=by omega
  have hw:=zB hlt
  obtain⟨n1,n2⟩:=zAU hlt pa
  have hx:=ih _ (List.getElem_mem hlt)
  have wa:q+1<=4294967296:=by omega
  generalize hy:e.args[q]=x at*
  have hx:=fun(L:List AObj)=>hx (L::S) (d+1) j h
  cases hr:tyE p env x with
  |error f=>
   rw[hr]at hx;rw[zGO (n2 f hr)];simp[hlt,aa,hy,zm];refine cq (hx _) ?_
   simp[resE]
  |ok t=>
   rw[hr]at hx;simp[hlt,aa,hy,zm];refine cq (hx _) ?_;simp[resE,wa,ca];exact⟨q+1,ts++[t],⟨by omega,n1 t hr,by simp[ca]⟩,by omega,⟨by simp[zd],hw⟩,by simp[ca]⟩
 have aa:¬(q:Int)<(e.args.length:Int):=by omega
 obtain rfl:q=e.args.length:=by omega
 rw[List.take_length]at pa;rw[zGP pa];clear hlt hq
 have ra:ownT p env e.op e.name e.u2 e.place ts=if(ts.headD zTy).owned=true then .ok (inTy (zBl e.op) (ts.headD zTy))else .error 101:=by unfold ownT;rw[if_neg (by omega),if_neg (by omega),if_neg (by omega),if_pos Sa]
 generalize ju:zBl e.op=mk at*
 cases ts with
 |nil=>simp at ca;omega
 |cons v l1=>
 cases ho:v.owned with
 |true=>
  rw[show ownT p env e.op e.name e.u2 e.place (v::l1)= .ok (inTy mk v)from ra.trans (if_pos ho)]
  simp[aa,f1,f2,f3,nh,oh,ph,h7,h17];refine cq ((mC _).call) ?_;simp[Sa];refine zX (dB [(5,3)] (by kernel_rfl) ?_)
  simp[zd];refine cq (oC _ _) ?_;rw[ho];simp;refine cq ((zf _ _ _ _).det) ?_;simp;refine zX (dB [(5,2)] (by kernel_rfl) ?_)
  simp[zd];refine cq (mC _) ?_;simp;refine cq (wC _ _ _) ?_
  simp[resT,zCE]
 |false=>
  rw[show ownT p env e.op e.name e.u2 e.place (v::l1)= .error 101 from ra.trans (if_neg (by rw[List.headD_cons,ho];simp))]
  simp[aa,f1,f2,f3,nh,oh,ph,h7,h17];refine cq ((mC _).call) ?_;simp[Sa];refine z9 6 [6] [(5,3)] (by kernel_rfl) (by kernel_rfl) (by kernel_rfl) ?_
  simp[zd];refine cq (oC _ _) ?_;rw[ho];simp;exact⟨_,_,zf _ _ _ _,by simp[resT,zCE]⟩
theorem zWD(hp:PrSm p)(he:zA3 env)(hl:env.length<=4000000000)(e:Ex)(xa:e.args.length<=20000)(ih:∀x∈e.args,ExC p env x)(hop:e.op=23)(be:1<=e.args.length):ExC p env e:=by
 intro S d j h
 have Sa:zBl e.op=0:=by rw[hop];rfl
 have mC:=fun S=>zL3 e.op S
 rw[Sa,hop]at mC
 have wC:=fun k t S=>zFv k t S
 have Up:¬0<zBl e.op:=by omega
 have h2:=h
 unfold TAt fnT at h2
 have cc:e.args.length<=maxLen:=by unfold maxLen;omega
 refine zM.intro mixed call38 func38 rfl ?_;simp[ntmps38];refine zp 36 3 (by decide) [.cells [U e.op,I e.int,Sg e.name,Sg e.u2,Sg e.place.name,.p (strs e.place.path),.p (.sl 8 (e.args.map Ex.enc)),I e.pos] 43,.cells [U 0,Sg emS,nilS] 36] (fun a:Nat × List Ty=>a.1<=e.args.length/\tyEs p env (e.args.take a.1)= .ok a.2/\a.2.length=a.1) (fun a=>([.ptr (d+1) j 0,.any,.any,.ptr 0 0 0,.ptr 0 1 0,.osl 3 (a.2.map Ty.enc) 0 2,.any,.any,.any,.any,.any,.any,.any,.any,.p (.sl 8 (e.args.map Ex.enc)),I e.args.length,I a.1]++List.replicate 141 .any)) (fun a=>[.cells [U e.op,I e.int,Sg e.name,Sg e.u2,Sg e.place.name,.p (strs e.place.path),.p (.sl 8 (e.args.map Ex.enc)),I e.pos] 43,.cells [U 0,Sg emS,nilS] 36,.tok 36 3 a.2.length]::S) (fun a=>e.args.length-a.1) (0,[]) ⟨Nat.zero_le _,by rw[List.take_zero,tyEs],rfl⟩ ?_ ?_ ?_ ?_
 .simp
 .simp
 .rfl
 rintro⟨q,ts⟩ ⟨hq,pa,ca⟩
 simp only at hq pa ca
 by_cases hlt:q<e.args.length
 .have aa:(q:Int)<(e.args.length:Int):=by omega
  have hw:=zB hlt
  obtain⟨n1,n2⟩:=zAU hlt pa
  have hx:=ih _ (List.getElem_mem hlt)
  have wa:q+1<=4294967296:=by omega
  generalize hy:e.args[q]=x at*
  have hx:=fun(L:List AObj)=>hx (L::S) (d+1) j h
  cases hr:tyE p env x with
  |error f=>
   rw[hr]at hx;rw[zGO (n2 f hr)];simp[hlt,aa,hy,zm];refine cq (hx _) ?_
   simp[resE]
  |ok t=>
   rw[hr]at hx;simp[hlt,aa,hy,zm];refine cq (hx _) ?_;simp[resE,wa,ca];exact⟨q+1,ts++[t],⟨by omega,n1 t hr,by simp[ca]⟩,by omega,⟨by simp[zd],hw⟩,by simp[ca]⟩
 have aa:¬(q:Int)<(e.args.length:Int):=by omega
 obtain rfl:q=e.args.length:=by omega
 rw[List.take_length]at pa;rw[zGP pa];clear hlt hq
 have ra:ownT p env e.op e.name e.u2 e.place ts=if(ts.headD zTy).kind<=3 then .ok (inTy 6 (ts.headD zTy))else .error 100:=by unfold ownT;rw[if_neg (by omega),if_neg (by omega),if_neg (by omega),if_neg (by omega),if_pos hop]
 cases ts with
 |nil=>simp at ca;omega
 |cons v l1=>
 by_cases hk:v.kind<=3
 .rw[show ownT p env e.op e.name e.u2 e.place (v::l1)= .ok (inTy 6 v)from ra.trans (if_pos hk)]
  simp[aa,hop];refine cq ((mC _).call) ?_;simp[hop];refine zX (dB [] (by kernel_rfl) ?_)
  simp[zd,hk];refine cq ((zf _ _ _ _).det) ?_;simp[zd];refine cq ((wC _ _ _).call) ?_;simp[resT,zCE]
 rw[show ownT p env e.op e.name e.u2 e.place (v::l1)= .error 100 from ra.trans (if_neg hk)]
 simp[aa,hop];refine cq ((mC _).call) ?_;simp[hop];refine z9 7 [7] [] (by kernel_rfl) (by kernel_rfl) (by kernel_rfl) ?_
 simp[zd,hk];exact⟨_,_,zf _ _ _ _,by simp[resT,zCE]⟩
theorem zWE(hp:PrSm p)(he:zA3 env)(hl:env.length<=4000000000)(e:Ex)(xa:e.args.length<=20000)(ih:∀x∈e.args,ExC p env x)(hop:e.op=31)(be:1<=e.args.length):ExC p env e:=by
 intro S d j h
 have Sa:zBl e.op=0:=by rw[hop];rfl
 have mC:=fun S=>zL3 e.op S
 rw[Sa,hop]at mC
 have wC:=fun k t S=>zFv k t S
 have Up:¬0<zBl e.op:=by omega
 refine zM.bareE (zGQ (.inr (.inr hop))) ?_
 have h2:=h
 unfold TAt fnT at h2
 have cc:e.args.length<=maxLen:=by unfold maxLen;omega
 refine zM.intro mixed call38 func38 rfl ?_;simp[ntmps38];refine zp 36 3 (by decide) [.cells [U e.op,I e.int,Sg e.name,Sg e.u2,Sg e.place.name,.p (strs e.place.path),.p (.sl 8 (e.args.map Ex.enc)),I e.pos] 43,.cells [U 0,Sg emS,nilS] 36] (fun a:Nat × List Ty=>a.1<=e.args.length/\tyEs p env (e.args.take a.1)= .ok a.2/\a.2.length=a.1) (fun a=>([.ptr (d+1) j 0,.any,.any,.ptr 0 0 0,.ptr 0 1 0,.osl 3 (a.2.map Ty.enc) 0 2,.any,.any,.any,.any,.any,.any,.any,.any,.p (.sl 8 (e.args.map Ex.enc)),I e.args.length,I a.1]++List.replicate 141 .any)) (fun a=>[.cells [U e.op,I e.int,Sg e.name,Sg e.u2,Sg e.place.name,.p (strs e.place.path),.p (.sl 8 (e.args.map Ex.enc)),I e.pos] 43,.cells [U 0,Sg emS,nilS] 36,.tok 36 3 a.2.length]::S) (fun a=>e.args.length-a.1) (0,[]) ⟨Nat.zero_le _,by rw[List.take_zero,tyEs],rfl⟩ ?_ ?_ ?_ ?_
 .simp
 .simp
 .rfl
 rintro⟨q,ts⟩ ⟨hq,pa,ca⟩
 simp only at hq pa ca
 by_cases hlt:q<e.args.length
 .have aa:(q:Int)<(e.args.length:Int):=by omega
  have hw:=zB hlt
  obtain⟨n1,n2⟩:=zAU hlt pa
  have hx:=ih _ (List.getElem_mem hlt)
  have wa:q+1<=4294967296:=by omega
  generalize hy:e.args[q]=x at*
  have hx:=fun(L:List AObj)=>hx (L::S) (d+1) j h
  cases hr:tyE p env x with
  |error f=>
   rw[hr]at hx;rw[zE2 (n2 f hr)];simp[hlt,aa,hy,zm];refine cq (hx _) ?_
   simp[resE]
  |ok t=>
   rw[hr]at hx;simp[hlt,aa,hy,zm];refine cq (hx _) ?_;simp[resE,wa,ca];exact⟨q+1,ts++[t],⟨by omega,n1 t hr,by simp[ca]⟩,by omega,⟨by simp[zd],hw⟩,by simp[ca]⟩
 have aa:¬(q:Int)<(e.args.length:Int):=by omega
 obtain rfl:q=e.args.length:=by omega
 rw[List.take_length]at pa;rw[zE3 pa];clear hlt hq
 have ra:ownT p env e.op e.name e.u2 e.place ts=if(ts.headD zTy).kind=1 then .ok (zAE 10)else .error 100:=by unfold ownT;rw[if_neg (by omega),if_neg (by omega),if_neg (by omega),if_neg (by omega),if_neg (by omega),if_pos hop]
 cases ts with
 |nil=>simp at ca;omega
 |cons v l1=>
 by_cases hk:v.kind=1
 .rw[show ownT p env e.op e.name e.u2 e.place (v::l1)= .ok (zAE 10)from ra.trans (if_pos hk)]
  simp[aa,hop];refine cq ((mC _).call) ?_;simp[hop];refine zX (dB [] (by kernel_rfl) ?_)
  simp[zd,hk];refine cq ((zf _ _ _ _).det) ?_;simp[zd];simp[resT,zCE,zAE,Ty.kind,Ty.name,Ty.args]
 rw[show ownT p env e.op e.name e.u2 e.place (v::l1)= .error 100 from ra.trans (if_neg hk)]
 have dc:(v.kind==1)=false:=by simpa using hk
 simp[aa,hop];refine cq ((mC _).call) ?_;simp[hop];refine z9 7 [7] [] (by kernel_rfl) (by kernel_rfl) (by kernel_rfl) ?_
 simp[zd,dc];exact⟨_,_,zf _ _ _ _,by simp[resT,zCE]⟩
end Go.Proofs.YtdflkegnmmkkoaaGreatDoor
namespace Go.Proofs.YtdflkegnmmkkoaaGreatDoor
open Go.RowKit _root_.Go.Proofs.Tryz
attribute [local simp] List.replicate List.range List.range.loop
attribute [local simp] zAg zy zBB zAh zAI zAi zBC z5 zo zx zAe zBA zAH zAf zAj zAk zBD zBE zCe zAR zAS cutL cutO zBM ThrK
theorem zcs{p:List It}(hp:PrSm p){env:List Fi}(he:zA3 env)(hl:env.length<=4000000000)(e:Ex)(xa:e.args.length<=20000)(ih:∀x∈e.args,ExC p env x)(Sa:zBl e.op=0)(hne:e.op≠1/\e.op≠2/\e.op≠3/\¬(7<=e.op/\e.op<=17)/\e.op≠18/\e.op≠19/\e.op≠20/\e.op≠23/\e.op≠31)(ho:0<(zBF e.op).1)(be:(zBF e.op).2=false->1<=e.args.length):ExC p env e:=by
 intro S d j h
 have f1:(e.op==1)=false:=by simp;omega
 have f2:(e.op==2)=false:=by simp;omega
 have f3:(e.op==3)=false:=by simp;omega
 have nh:(e.op==18)=false:=by simp;omega
 have oh:(e.op==19)=false:=by simp;omega
 have ph:(e.op==20)=false:=by simp;omega
 have yj:(e.op==23)=false:=by simp;omega
 have Aj:(e.op==31)=false:=by simp;omega
 have Yk:e.op<7\/(7<=e.op/\¬e.op<=17):=by omega
 have mC:=fun S=>zL3 e.op S
 rw[Sa]at mC
 have oC:=fun S=>zS1 e.op S
 have h2:=h
 unfold TAt fnT at h2
 have cc:e.args.length<=maxLen:=by unfold maxLen;omega
 refine zM.intro mixed call38 func38 rfl ?_;simp[ntmps38];refine zp 36 3 (by decide) [.cells [U e.op,I e.int,Sg e.name,Sg e.u2,Sg e.place.name,.p (strs e.place.path),.p (.sl 8 (e.args.map Ex.enc)),I e.pos] 43,.cells [U 0,Sg emS,nilS] 36] (fun a:Nat × List Ty=>a.1<=e.args.length/\tyEs p env (e.args.take a.1)= .ok a.2/\a.2.length=a.1) (fun a=>([.ptr (d+1) j 0,.any,.any,.ptr 0 0 0,.ptr 0 1 0,.osl 3 (a.2.map Ty.enc) 0 2,.any,.any,.any,.any,.any,.any,.any,.any,.p (.sl 8 (e.args.map Ex.enc)),I e.args.length,I a.1]++List.replicate 141 .any)) (fun a=>[.cells [U e.op,I e.int,Sg e.name,Sg e.u2,Sg e.place.name,.p (strs e.place.path),.p (.sl 8 (e.args.map Ex.enc)),I e.pos] 43,.cells [U 0,Sg emS,nilS] 36,.tok 36 3 a.2.length]::S) (fun a=>e.args.length-a.1) (0,[]) ⟨Nat.zero_le _,by rw[List.take_zero,tyEs],rfl⟩ ?_ ?_ ?_ ?_
 .simp
 .simp
 .rfl
 rintro⟨q,ts⟩ ⟨hq,pa,ca⟩
 simp only at hq pa ca
 by_cases hlt:q<e.args.length
 .have aa:(q:Int)<(e.args.length:Int):=by omega
  have hw:=zB hlt
  obtain⟨n1,n2⟩:=zAU hlt pa
  have hx:=ih _ (List.getElem_mem hlt)
  have wa:q+1<=4294967296:=by omega
  generalize hy:e.args[q]=x at*
  have hx:=fun(L:List AObj)=>hx (L::S) (d+1) j h
  cases hr:tyE p env x with
  |error f=>
   rw[hr]at hx;rw[zGO (n2 f hr)];simp[hlt,aa,hy,zm];refine cq (hx _) ?_
   simp[resE]
  |ok t=>
   rw[hr]at hx;simp[hlt,aa,hy,zm];refine cq (hx _) ?_;simp[resE,wa,ca];exact⟨q+1,ts++[t],⟨by omega,n1 t hr,by simp[ca]⟩,by omega,⟨by simp[zd],hw⟩,by simp[ca]⟩
 have aa:¬(q:Int)<(e.args.length:Int):=by omega
 obtain rfl:q=e.args.length:=by omega
 rw[List.take_length]at pa;rw[zGP pa];clear hlt hq
 have ra:ownT p env e.op e.name e.u2 e.place ts=zDf p env e.op e.place ts:=by unfold ownT;rw[if_neg (by omega),if_neg (by omega),if_neg (by omega),if_neg (by omega),if_neg (by omega),if_neg (by omega),if_pos ho]
 rw[ra]
 have nC:=fun(i1 i2:Nat) (L:List AObj)=>zM.sub (.cons (.refl _) (.cons (.refl _) (.cons (.osl (d:=i1) (i:=i2) (.refl _)) (.refl _)))) (zco p hp env he hl e ts (L::S) (d+1) j h ho fun hb=>by have:=be hb;omega)
 generalize zDf p env e.op e.place ts=r at*
 generalize (zBF e.op).1=ok at*
 generalize (zBF e.op).2=ob at*
 rcases Yk with h7|h7
 .have Nk:¬7<=e.op:=by omega
  simp[aa,f1,f2,f3,nh,oh,ph,yj,Aj,Nk];refine cq ((mC _).call) ?_;simp[f1,f2,f3,nh,oh,ph,yj,Aj];refine cq ((oC _).call) ?_;simp[ho];refine cq (nC _ _ _) ?_;cases r<;>simp[resT,zCE]
 simp[aa,f1,f2,f3,nh,oh,ph,yj,Aj,h7]
 refine cq ((mC _).call) ?_;simp[f1,f2,f3,nh,oh,ph,yj,Aj];refine cq ((oC _).call) ?_;simp[ho];refine cq (nC _ _ _) ?_;cases r<;>simp[resT,zCE]
theorem zct{p:List It}(hp:PrSm p){env:List Fi}(he:zA3 env)(hl:env.length<=4000000000)(e:Ex)(xa:e.args.length<=20000)(ih:∀x∈e.args,ExC p env x)(Sa:zBl e.op=0)(hne:e.op≠1/\e.op≠2/\e.op≠3/\¬(7<=e.op/\e.op<=17)/\e.op≠18/\e.op≠19/\e.op≠20/\e.op≠23/\e.op≠31)(ho:¬0<(zBF e.op).1):ExC p env e:=by
 intro S d j h
 have f1:(e.op==1)=false:=by simp;omega
 have f2:(e.op==2)=false:=by simp;omega
 have f3:(e.op==3)=false:=by simp;omega
 have nh:(e.op==18)=false:=by simp;omega
 have oh:(e.op==19)=false:=by simp;omega
 have ph:(e.op==20)=false:=by simp;omega
 have yj:(e.op==23)=false:=by simp;omega
 have Aj:(e.op==31)=false:=by simp;omega
 have Yk:e.op<7\/(7<=e.op/\¬e.op<=17):=by omega
 have mC:=fun S=>zL3 e.op S
 rw[Sa]at mC
 have oC:=fun S=>zS1 e.op S
 have Jg:(zBF e.op).1=0:=by
  unfold zBF at ho ⊢
  repeat' split
  all_goals simp_all
 have h2:=h
 unfold TAt fnT at h2
 have cc:e.args.length<=maxLen:=by unfold maxLen;omega
 refine zM.intro mixed call38 func38 rfl ?_;simp[ntmps38];refine zp 36 3 (by decide) [.cells [U e.op,I e.int,Sg e.name,Sg e.u2,Sg e.place.name,.p (strs e.place.path),.p (.sl 8 (e.args.map Ex.enc)),I e.pos] 43,.cells [U 0,Sg emS,nilS] 36] (fun a:Nat × List Ty=>a.1<=e.args.length/\tyEs p env (e.args.take a.1)= .ok a.2/\a.2.length=a.1) (fun a=>([.ptr (d+1) j 0,.any,.any,.ptr 0 0 0,.ptr 0 1 0,.osl 3 (a.2.map Ty.enc) 0 2,.any,.any,.any,.any,.any,.any,.any,.any,.p (.sl 8 (e.args.map Ex.enc)),I e.args.length,I a.1]++List.replicate 141 .any)) (fun a=>[.cells [U e.op,I e.int,Sg e.name,Sg e.u2,Sg e.place.name,.p (strs e.place.path),.p (.sl 8 (e.args.map Ex.enc)),I e.pos] 43,.cells [U 0,Sg emS,nilS] 36,.tok 36 3 a.2.length]::S) (fun a=>e.args.length-a.1) (0,[]) ⟨Nat.zero_le _,by rw[List.take_zero,tyEs],rfl⟩ ?_ ?_ ?_ ?_
 .simp
 .simp
 .rfl
 rintro⟨q,ts⟩ ⟨hq,pa,ca⟩
 simp only at hq pa ca
 by_cases hlt:q<e.args.length
 .have aa:(q:Int)<(e.args.length:Int):=by omega
  have hw:=zB hlt
  obtain⟨n1,n2⟩:=zAU hlt pa
  have hx:=ih _ (List.getElem_mem hlt)
  have wa:q+1<=4294967296:=by omega
  generalize hy:e.args[q]=x at*
  have hx:=fun(L:List AObj)=>hx (L::S) (d+1) j h
  cases hr:tyE p env x with
  |error f=>
   rw[hr]at hx;rw[zGO (n2 f hr)];simp[hlt,aa,hy,zm];refine cq (hx _) ?_
   simp[resE]
  |ok t=>
   rw[hr]at hx;simp[hlt,aa,hy,zm];refine cq (hx _) ?_;simp[resE,wa,ca];exact⟨q+1,ts++[t],⟨by omega,n1 t hr,by simp[ca]⟩,by omega,⟨by simp[zd],hw⟩,by simp[ca]⟩
 have aa:¬(q:Int)<(e.args.length:Int):=by omega
 obtain rfl:q=e.args.length:=by omega
 rw[List.take_length]at pa;rw[zGP pa];clear hlt hq
 have ra:ownT p env e.op e.name e.u2 e.place ts=zEw p env e.op e.place ts:=by unfold ownT;rw[if_neg (by omega),if_neg (by omega),if_neg (by omega),if_neg (by omega),if_neg (by omega),if_neg (by omega),if_neg (by omega)]
 rw[ra]
 have nC:=fun(i1 i2:Nat) (L:List AObj)=>zM.sub (.cons (.refl _) (.cons (.refl _) (.cons (.osl (d:=i1) (i:=i2) (.refl _)) (.refl _)))) (zS4 p hp env he hl e ts (L::S) (d+1) j h)
 generalize zEw p env e.op e.place ts=r at*
 generalize (zBF e.op).1=ok at*
 generalize (zBF e.op).2=ob at*
 rcases Yk with h7|h7
 .have Nk:¬7<=e.op:=by omega
  simp[aa,f1,f2,f3,nh,oh,ph,yj,Aj,Nk];refine cq ((mC _).call) ?_;simp[f1,f2,f3,nh,oh,ph,yj,Aj];refine cq ((oC _).call) ?_;simp[Jg];refine cq (nC _ _ _) ?_;cases r<;>simp[resT,zCE]
 simp[aa,f1,f2,f3,nh,oh,ph,yj,Aj,h7]
 refine cq ((mC _).call) ?_;simp[f1,f2,f3,nh,oh,ph,yj,Aj];refine cq ((oC _).call) ?_;simp[Jg];refine cq (nC _ _ _) ?_;cases r<;>simp[resT,zCE]
end Go.Proofs.YtdflkegnmmkkoaaGreatDoor
