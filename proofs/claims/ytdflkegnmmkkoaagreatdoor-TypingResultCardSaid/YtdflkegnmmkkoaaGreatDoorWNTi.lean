/- A part of the proof. -/
import Derived.Test.YtdflkegnmmkkoaaGreatDoorWNTh
set_option linter.unusedVariables false
set_option linter.unusedSimpArgs false
set_option maxRecDepth 100000
set_option maxHeartbeats 32000000
namespace Go.Proofs.YtdflkegnmmkkoaaGreatDoor
open Go.RowKit _root_.Go.Proofs.Tryz
attribute [local simp] List.replicate List.range List.range.loop List.forall_mem_cons List.contains_cons List.contains_nil List.find?
attribute [local simp] zAd zw zA6 zAe zAD zAf zA7 zx zn zv zAb zA5 zAC zAc zAg zAh zA8 zA9 zCV zAO zAP cutL cutO zBJ ThrK
section
variable(p:List It)(hp:PrSm p)(env:List Fi)(he:zAu env)(hl:env.length<=4000000000)(e:Ex)(l:List Ty)(S:ASt)(d j:Nat)(h:TAt p S d j env)
include hp he hl h
theorem zTA:zK Tryz.prog 83 [.ptr d j 0,exV e,.p (.sl 3 (l.map Ty.enc))] S (resT (zFe p env e.op e.place l) e.pos) S:=by
 have pC:=fun L=>zGH p hp env he hl e.place (L::S) (d+1) j h
 have cC:=fun t S=>zSJ t S
 have wC:=fun k t S=>zFi k t S
 unfold zFe
 cases Na:zBf p env e.place with
 |none=>
  rw[Na]at pC;simp only;refine zK.intro mixed call83 func83 rfl ?_;simp[ntmps83];refine cq ((pC _).call) ?_;simp[zBm];refine cq (zf _ _ _ _) ?_
  simp[resT]
 |some r=>
  obtain⟨t,w⟩:=r
  rw[Na]at pC;simp only
  by_cases h4:e.op=4
  .rw[if_pos h4]
   cases hc:copT t with
   |true=>
    have jg:t.copied=true:=hc
    rw[if_pos (by simp)]
    refine zK.intro mixed call83 func83 rfl ?_;simp[ntmps83];refine cq ((pC _).call) ?_;simp[zBm];refine cq (zf _ _ _ _) ?_;simp[h4];refine zU (dB [(10,1)] (by kernel_rfl) ?_)
    simp;refine cq (cC _ _) ?_;rw[jg];simp;refine cq ((zf _ _ _ _).det) ?_
    simp[resT]
   |false=>
    have jg:t.copied=false:=hc
    by_cases Rg:e.place.path.length=0
    .rw[if_pos (.inr Rg)]
     have Yk:e.place.path=[]:=List.eq_nil_of_length_eq_zero Rg
     refine zK.intro mixed call83 func83 rfl ?_;simp[ntmps83];refine cq ((pC _).call) ?_;simp[zBm];refine cq (zf _ _ _ _) ?_;simp[h4];refine zU (dB [(10,1)] (by kernel_rfl) ?_)
     simp;refine cq (cC _ _) ?_;rw[jg];simp[Yk,strs];refine cq ((zf _ _ _ _).det) ?_;simp[resT]
    rw[if_neg (by simp[Rg])]
    have Yk:¬(e.place.path.length:Int)=0:=by omega
    have dq:e.place.path≠ []:=fun h=>Rg (by rw[h];rfl)
    refine zK.intro mixed call83 func83 rfl ?_;simp[ntmps83];refine cq ((pC _).call) ?_;simp[zBm];refine cq (zf _ _ _ _) ?_;simp[h4];refine z6 11 [11] [(10,1)] (by kernel_rfl) (by kernel_rfl) (by kernel_rfl) ?_
    simp;refine cq (cC _ _) ?_;rw[jg];simp[Rg,Yk,dq,strs];exact⟨_,_,zf _ _ _ _,by simp[resT]⟩
  have e4:(e.op==4)=false:=by simpa using h4
  rw[if_neg h4]
  by_cases h5:e.op=5
  .rw[if_pos h5]
   refine zK.intro mixed call83 func83 rfl ?_;simp[ntmps83];refine cq ((pC _).call) ?_;simp[zBm];refine cq (zf _ _ _ _) ?_;simp[h5];refine cq ((wC _ _ _).call) ?_;simp[resT]
  have e5:(e.op==5)=false:=by simpa using h5
  rw[if_neg h5]
  by_cases h6:e.op=6
  .rw[if_pos h6]
   cases w with
   |true=>
    rw[if_pos rfl];refine zK.intro mixed call83 func83 rfl ?_;simp[ntmps83];refine cq ((pC _).call) ?_;simp[zBm];refine cq (zf _ _ _ _) ?_;simp[h6];refine cq (zf _ _ _ _) ?_;simp;refine cq ((wC _ _ _).call) ?_
    simp[resT]
   |false=>
    rw[if_neg (by simp)]
    refine zK.intro mixed call83 func83 rfl ?_;simp[ntmps83];refine cq ((pC _).call) ?_;simp[zBm];refine cq (zf _ _ _ _) ?_;simp[h6];refine cq (zf _ _ _ _) ?_;simp[resT]
  have e6:(e.op==6)=false:=by simpa using h6
  rw[if_neg h6]
  by_cases ak:e.op=28
  .rw[if_pos ak]
   by_cases k7:t.kind=7
   .rw[if_pos (by omega)]
    refine zK.intro mixed call83 func83 rfl ?_;simp[ntmps83];refine cq ((pC _).call) ?_;simp[zBm];refine cq (zf _ _ _ _) ?_;simp[ak,k7];refine cq (zf _ _ _ _) ?_;simp[resT,k7]
   by_cases k8:t.kind=8
   .rw[if_pos (by omega)]
    refine zK.intro mixed call83 func83 rfl ?_;simp[ntmps83];refine cq ((pC _).call) ?_;simp[zBm];refine cq (zf _ _ _ _) ?_;simp[ak,k8];refine cq (zf _ _ _ _) ?_;simp[resT,k8]
   by_cases eq:t.kind=11
   .rw[if_pos (by omega)]
    refine zK.intro mixed call83 func83 rfl ?_;simp[ntmps83];refine cq ((pC _).call) ?_;simp[zBm];refine cq (zf _ _ _ _) ?_;simp[ak,eq];refine cq (zf _ _ _ _) ?_;simp[resT,eq]
   by_cases fq:t.kind=12
   .rw[if_pos (by omega)]
    refine zK.intro mixed call83 func83 rfl ?_;simp[ntmps83];refine cq ((pC _).call) ?_;simp[zBm];refine cq (zf _ _ _ _) ?_;simp[ak,fq];refine cq (zf _ _ _ _) ?_;simp[resT,fq]
   have f7:(t.kind==7)=false:=by simpa using k7
   have f8:(t.kind==8)=false:=by simpa using k8
   have gq:(t.kind==11)=false:=by simpa using eq
   have iq:(t.kind==12)=false:=by simpa using fq
   rw[if_neg (by omega)]
   refine zK.intro mixed call83 func83 rfl ?_;simp[ntmps83];refine cq ((pC _).call) ?_;simp[zBm];refine cq (zf _ _ _ _) ?_;simp[ak,f7,f8,gq,iq];refine cq (zf _ _ _ _) ?_;simp[resT]
  have yl:(e.op==28)=false:=by simpa using ak
  rw[if_neg ak]
  by_cases ri:t.kind=10
  .cases l with
   |nil=>
    rw[if_pos (by simp[ri])]
    by_cases si:e.op=33
    .rw[if_pos si]
     refine zK.bare (t:=zAG 3) rfl ?_
     refine zK.intro mixed call83 func83 rfl ?_;simp[ntmps83];refine cq ((pC _).call) ?_;simp[zBm];refine cq (zf _ _ _ _) ?_;simp[e4,e5,e6,yl];refine zU (dB [] (by kernel_rfl) ?_)
     simp[ri];refine cq ((zf _ _ _ _).det) ?_;simp[si,zAG,Ty.kind,Ty.name,Ty.args]
    rw[if_neg si]
    have jq:(e.op==33)=false:=by simpa using si
    refine zK.bare (t:=zAG 1) rfl ?_
    refine zK.intro mixed call83 func83 rfl ?_;simp[ntmps83];refine cq ((pC _).call) ?_;simp[zBm];refine cq (zf _ _ _ _) ?_;simp[e4,e5,e6,yl];refine zU (dB [] (by kernel_rfl) ?_)
    simp[ri];refine cq ((zf _ _ _ _).det) ?_
    simp[si,jq,zAG,Ty.kind,Ty.name,Ty.args]
   |cons v l1=>
    have hn:¬((l1.length:Int)+1)=0:=by omega
    by_cases k1:v.kind=1
    .rw[if_pos (by simp[ri,k1])]
     by_cases si:e.op=33
     .rw[if_pos si]
      refine zK.bare (t:=zAG 3) rfl ?_
      refine zK.intro mixed call83 func83 rfl ?_;simp[ntmps83];refine cq ((pC _).call) ?_;simp[zBm];refine cq (zf _ _ _ _) ?_;simp[e4,e5,e6,yl];refine zU (dB [] (by kernel_rfl) ?_)
      simp[ri,k1,hn,ze];refine cq ((zf _ _ _ _).det) ?_;simp[si,zAG,Ty.kind,Ty.name,Ty.args]
     rw[if_neg si]
     have jq:(e.op==33)=false:=by simpa using si
     refine zK.bare (t:=zAG 1) rfl ?_
     refine zK.intro mixed call83 func83 rfl ?_;simp[ntmps83];refine cq ((pC _).call) ?_;simp[zBm];refine cq (zf _ _ _ _) ?_;simp[e4,e5,e6,yl];refine zU (dB [] (by kernel_rfl) ?_)
     simp[ri,k1,hn,ze];refine cq ((zf _ _ _ _).det) ?_;simp[si,jq,zAG,Ty.kind,Ty.name,Ty.args]
    rw[if_neg (by simp[k1])]
    have f1:(v.kind==1)=false:=by simpa using k1
    refine zK.intro mixed call83 func83 rfl ?_;simp[ntmps83];refine cq ((pC _).call) ?_;simp[zBm];refine cq (zf _ _ _ _) ?_;simp[e4,e5,e6,yl];refine z6 17 [17] [] (by kernel_rfl) (by kernel_rfl) (by kernel_rfl) ?_
    simp[ri,f1,hn,ze];exact⟨_,_,zf _ _ _ _,by simp[resT]⟩
  rw[if_neg (by simp[ri])]
  have kq:(t.kind==10)=false:=by simpa using ri
  refine zK.intro mixed call83 func83 rfl ?_;simp[ntmps83];refine cq ((pC _).call) ?_;simp[zBm];refine cq (zf _ _ _ _) ?_;simp[e4,e5,e6,yl];refine z6 17 [17] [] (by kernel_rfl) (by kernel_rfl) (by kernel_rfl) ?_
  simp[kq];exact⟨_,_,zf _ _ _ _,by simp[resT]⟩
end
end Go.Proofs.YtdflkegnmmkkoaaGreatDoor
namespace Go.Proofs.YtdflkegnmmkkoaaGreatDoor
open Go.RowKit _root_.Go.Proofs.Tryz
attribute [local simp] List.replicate List.range List.range.loop List.forall_mem_cons List.contains_cons List.contains_nil List.find?
attribute [local simp] zAd zw zA6 zAe zAD zAf zA7 zx zn zv zAb zA5 zAC zAc zAg zAh zA8 zA9 zCV zAO zAP cutL cutO zBJ ThrK
theorem zNF{l:List Ty}{fs:List Fi}(h:¬fs.length=l.length):eqTs l (fs.map Fi.type)=false:=zCh fun e=>h (by rw[e];simp)
theorem zYh(dst:Option Tmp)(x:Operand)(ty:TypeId)(pos:String)(after:Array Edge)(guard:Option (Nat × Bool))(fr:List AV)(hx:evA fr x=nilS):genP Tryz.prog ⟨dst,.call ⟨.builtin .len,#[x],#[33]⟩,ty,pos,after,guard⟩ fr=some (I 0):=by
 have v1:zBj (evA fr x)=some (.slice none 0 0):=by rw[hx];rfl
 have h1:(zHW (.call ⟨.builtin .len,#[x],#[33]⟩)&&zZ fr (Op.operands (.call ⟨.builtin .len,#[x],#[33]⟩)).toList)=true:=by
  show(true&&zZ fr [x])=true
  rw[Bool.true_and,zZ,zZ,v1];rfl
 have h2:zd Tryz.prog (execOp (fun z=>(zBj (evA fr z)).getD undef) ⟨dst,.call ⟨.builtin .len,#[x],#[33]⟩,ty,pos,after,guard⟩)=some (.value (.int .i64 0)):=by
  have e1:(zBj (evA fr x)).getD undef= .slice none 0 0:=by rw[v1];rfl
  unfold execOp;simp only[resolve,invoke,builtin,List.map_toArray,List.map_cons,List.map_nil,e1];rfl
 unfold genP;simp only;rw[if_pos h1,h2];rfl
section
variable(p:List It)(hp:PrSm p)(env:List Fi)(e:Ex)(l:List Ty)(tf:l.length<=maxLen)(S:ASt)(d j:Nat)(h:TAt p S d j env)
include hp tf h
theorem zbD(rh:e.op=18)(x:It)(hx:p.find? (isK 3 e.name)=some x):zK Tryz.prog 79 [.ptr d j 0,exV e,.p (.sl 3 (l.map Ty.enc))] S (resT (if eqTs l (x.fields.map Fi.type)=true then .ok x.result else .error 100) e.pos) S:=by
 have sC:=fun t u S=>zCw t u S
 unfold TAt fnT at h
 have fC:=fun S=>zWL p hp 3 e.name S
 unfold nfR at fC;rw[hx]at fC;simp only[prog]at fC h
 by_cases Vc:x.fields.length=l.length
 .have Dg:(x.fields.length:Int)=(l.length:Int):=by omega
  refine zK.intro mixed call79 func79 rfl ?_;simp[ntmps79,rh];refine zU (dB [] (by kernel_rfl) ?_)
  simp[h];refine cq (fC _) ?_;simp;refine zU (dB [] (by kernel_rfl) ?_)
  simp[Vc,Dg];refine cq (zf _ _ _ _) ?_;simp;refine zBi (fun q:Nat=>q<=l.length/\∀i (h:i<l.length) (h':i<(x.fields).length),i<q->l[i]=(x.fields)[i].type) (fun q=>([.any,.any,.any,.any,.ptr 0 0 0,.any,.ptr 0 1 0,.p (.sl 4 (x.fields.map Fi.enc)),.ptr 0 2 0]++(List.replicate 61 .any++([.p (.sl 3 (l.map Ty.enc)),I l.length,I q]++List.replicate 16 .any)))) (fun q=>([.cells [U 18,I e.int,Sg e.name,Sg e.u2,Sg e.place.name,.p (strs e.place.path),.p (.sl 8 (e.args.map Ex.enc)),I e.pos] 43,.cells [U 0,Sg emS,nilS] 36,.cells [U x.result.kind,Sg x.result.name,.p (.sl 3 (x.result.args.map Ty.enc))] 36,.cells (itU x) 45])::S) (fun q=>l.length-q) 0 ⟨Nat.zero_le _,fun i h h' hi=>by omega⟩ ?_ ?_ ?_
  .simp[Fi.enc,ze]
  .simp[Fi.enc,ze]
  rintro q ⟨hq,ia⟩
  by_cases hlt:q<l.length
  .have aa:(q:Int)<(l.length:Int):=by omega
   have ab:q<(x.fields).length:=by omega
   have hw:=zA hlt
   have Za:l[q]=(x.fields)[q].type->∀i (h:i<l.length) (h':i<(x.fields).length),i<q+1->l[i]=(x.fields)[i].type:=fun he i h h' hi=>by
    by_cases Pg:i=q
    .subst Pg;exact he
    exact ia i h h' (by omega)
   have hne:l[q]≠(x.fields)[q].type->eqTs l ((x.fields).map Fi.type)=false:=fun he=>zCh fun xl=>he (by
    simp[xl])
   have heq:=zGa l[q] (x.fields)[q].type
   generalize Jf:l[q]=x1 at*
   generalize ah:(x.fields)[q]=f1 at*
   cases Wb:eqT x1 f1.type with
   |true=>
    simp[hlt,aa,ab,Jf,ah,ze];refine zU (dB [(8,6)] (by kernel_rfl) ?_)
    simp[hlt,aa,ab,Jf,ah,Fi.enc,ze];refine cq (sC _ _ _) ?_;rw[Wb];simp;refine cq ((zf _ _ _ _).det) ?_;simp
    exact⟨q+1,⟨by omega,Za (heq.1 Wb)⟩,by omega,hw⟩
   |false=>
    rw[hne fun h=>by rw[heq.2 h]at Wb;cases Wb]
    simp[hlt,aa,ab,Jf,ah,ze];refine z6 9 [9] [(8,6)] (by kernel_rfl) (by kernel_rfl) (by kernel_rfl) ?_
    simp[hlt,aa,ab,Jf,ah,Fi.enc,ze];refine cq (sC _ _ _) ?_;rw[Wb];simp;exact⟨_,_,zf _ _ _ _,by simp[resT,zB8]⟩
  have aa:¬(q:Int)<(l.length:Int):=by omega
  rw[zEo (m:=(x.fields).map Fi.type) (List.ext_getElem (by simp;omega) fun i h h'=>by
   rw[List.getElem_map];exact ia i h _ (by omega))]
  simp[aa,resT,zB8]
 have Dg:¬(x.fields.length:Int)=(l.length:Int):=by omega
 have Rf:((x.fields.length:Int)==(l.length:Int))=false:=by simpa using Dg
 have Sf:(x.fields.length==l.length)=false:=by simpa using Vc
 rw[zNF Vc,if_neg (by simp)]
 refine zK.intro mixed call79 func79 rfl ?_;simp[ntmps79,rh];refine zU (dB [] (by kernel_rfl) ?_)
 simp[h];refine cq (fC _) ?_;simp;refine zU (dB [] (by kernel_rfl) ?_)
 simp[Rf,Sf,Vc];refine cq (zf _ _ _ _) ?_;simp[resT,zB8,Rf,Sf,Vc]
theorem zbE(rh:e.op=18)(hx:p.find? (isK 3 e.name)=none):zK Tryz.prog 79 [.ptr d j 0,exV e,.p (.sl 3 (l.map Ty.enc))] S (resT (.error 100) e.pos) S:=by
 have _:=tf;have sC:=fun t u S=>zCw t u S
 unfold TAt fnT at h
 have fC:=fun S=>zWL p hp 3 e.name S
 unfold nfR at fC;rw[hx]at fC;simp only[prog]at fC h;refine zK.intro mixed call79 func79 rfl ?_;simp[ntmps79,rh];refine zU (dB [] (by kernel_rfl) ?_)
 simp[h];refine cq (fC _) ?_;simp;refine zU (dB [] (by kernel_rfl) ?_)
 simp;refine cq (zf _ _ _ _) ?_;simp[resT,zB8]
theorem zVp(h19:e.op=19):zK Tryz.prog 79 [.ptr d j 0,exV e,.p (.sl 3 (l.map Ty.enc))] S (resT (if((zBn p 1 e.name).2&&eqTs l ((zBn p 1 e.name).1.map Fi.type))=true then .ok (.mk 4 e.name [])else .error 100) e.pos) S:=by
 have sC:=fun t u S=>zCw t u S
 unfold TAt fnT at h
 have fC:=fun L=>zOX p hp env 1 e.name (L::S) (d+1) j h
 refine zK.bareT (fun t ht=>by
  split at ht
  .cases ht;rfl
  cases ht) ?_
 generalize (zBn p 1 e.name).1=fs at*
 generalize (zBn p 1 e.name).2=b at*
 cases b with
 |false=>
  rw[Bool.false_and,if_neg (by simp)]
  refine zK.intro mixed call79 func79 rfl ?_;simp[ntmps79,h19];refine cq ((fC _).call) ?_;simp;refine cq (zf _ _ _ _) ?_
  simp[resT,zB8]
 |true=>
 rw[Bool.true_and]
 by_cases Vc:fs.length=l.length
 .have Dg:(fs.length:Int)=(l.length:Int):=by omega
  refine zK.intro mixed call79 func79 rfl ?_;simp[ntmps79,h19];refine cq ((fC _).call) ?_;simp[Vc,Dg];refine cq (zf _ _ _ _) ?_;simp;refine zBi (fun q:Nat=>q<=l.length/\∀i (h:i<l.length) (h':i<(fs).length),i<q->l[i]=(fs)[i].type) (fun q=>([.any,.any,.any,.any,.ptr 0 0 0,.any,.ptr 0 1 0,.p (.sl 4 (fs.map Fi.enc)),.ptr 0 2 0]++(List.replicate 61 .any++([.p (.sl 3 (l.map Ty.enc)),I l.length,I q]++List.replicate 16 .any)))) (fun q=>([.cells [U 19,I e.int,Sg e.name,Sg e.u2,Sg e.place.name,.p (strs e.place.path),.p (.sl 8 (e.args.map Ex.enc)),I e.pos] 43,.cells [U 0,Sg emS,nilS] 36,.cells [U 4,Sg e.name,nilS] 36])::S) (fun q=>l.length-q) 0 ⟨Nat.zero_le _,fun i h h' hi=>by omega⟩ ?_ ?_ ?_
  .simp[Fi.enc,ze]
  .simp[Fi.enc,ze]
  rintro q ⟨hq,ia⟩
  by_cases hlt:q<l.length
  .have aa:(q:Int)<(l.length:Int):=by omega
   have ab:q<(fs).length:=by omega
   have hw:=zA hlt
   have Za:l[q]=(fs)[q].type->∀i (h:i<l.length) (h':i<(fs).length),i<q+1->l[i]=(fs)[i].type:=fun he i h h' hi=>by
    by_cases Pg:i=q
    .subst Pg;exact he
    exact ia i h h' (by omega)
   have hne:l[q]≠(fs)[q].type->eqTs l ((fs).map Fi.type)=false:=fun he=>zCh fun xl=>he (by
    simp[xl])
   have heq:=zGa l[q] (fs)[q].type
   generalize Jf:l[q]=x1 at*
   generalize ah:(fs)[q]=f1 at*
   cases Wb:eqT x1 f1.type with
   |true=>
    simp[hlt,aa,ab,Jf,ah,ze];refine zU (dB [(8,6)] (by kernel_rfl) ?_)
    simp[hlt,aa,ab,Jf,ah,Fi.enc,ze];refine cq (sC _ _ _) ?_;rw[Wb];simp;refine cq ((zf _ _ _ _).det) ?_;simp
    exact⟨q+1,⟨by omega,Za (heq.1 Wb)⟩,by omega,hw⟩
   |false=>
    rw[hne fun h=>by rw[heq.2 h]at Wb;cases Wb]
    simp[hlt,aa,ab,Jf,ah,ze];refine z6 9 [9] [(8,6)] (by kernel_rfl) (by kernel_rfl) (by kernel_rfl) ?_
    simp[hlt,aa,ab,Jf,ah,Fi.enc,ze];refine cq (sC _ _ _) ?_;rw[Wb];simp;exact⟨_,_,zf _ _ _ _,by simp[resT,zB8]⟩
  have aa:¬(q:Int)<(l.length:Int):=by omega
  rw[zEo (m:=(fs).map Fi.type) (List.ext_getElem (by simp;omega) fun i h h'=>by
   rw[List.getElem_map];exact ia i h _ (by omega))]
  simp[aa,resT,zB8,Ty.kind,Ty.name,Ty.args]
 have Dg:¬(fs.length:Int)=(l.length:Int):=by omega
 have Rf:((fs.length:Int)==(l.length:Int))=false:=by simpa using Dg
 have Sf:(fs.length==l.length)=false:=by simpa using Vc
 rw[zNF Vc,if_neg (by simp)]
 refine zK.intro mixed call79 func79 rfl ?_;simp[ntmps79,h19];refine cq ((fC _).call) ?_;simp[Rf,Sf,Vc];refine cq (zf _ _ _ _) ?_;simp[resT,zB8,Rf,Sf,Vc]
theorem zYi(h20:e.op=20)(mf:zAQ p e.name e.u2=none):zK Tryz.prog 79 [.ptr d j 0,exV e,.p (.sl 3 (l.map Ty.enc))] S (resT (.error 100) e.pos) S:=by
 have _:=tf;have sC:=fun t u S=>zCw t u S
 unfold TAt fnT at h
 have pC:=fun L=>zFF p hp env e.name e.u2 (L::S) (d+1) j h
 rw[mf]at pC;refine zK.intro mixed call79 func79 rfl ?_;simp[ntmps79,h20];refine cq ((pC _).call) ?_;simp[payT];refine cq (zf _ _ _ _) ?_;simp[resT,zB8]
theorem zYj(h20:e.op=20)(t:Ty)(mf:zAQ p e.name e.u2=some t)(h0:t.kind=0):zK Tryz.prog 79 [.ptr d j 0,exV e,.p (.sl 3 (l.map Ty.enc))] S (resT (if eqTs l []=true then .ok (.mk 4 e.name [])else .error 100) e.pos) S:=by
 have sC:=fun t u S=>zCw t u S
 unfold TAt fnT at h
 have pC:=fun L=>zFF p hp env e.name e.u2 (L::S) (d+1) j h
 have lz:=zYh
 refine zK.bareT (fun t ht=>by
  split at ht
  .cases ht;rfl
  cases ht) ?_
 rw[mf]at pC
 have Wm:(t.kind !=0)=false:=by simp[h0]
 cases l with
 |nil=>
  rw[zEo rfl,if_pos rfl];refine zK.intro mixed call79 func79 rfl ?_;simp[ntmps79,h20];refine cq ((pC _).call) ?_;simp[payT,h0,Wm,lz];refine cq (zf _ _ _ _) ?_;simp;refine zBi (fun q:Nat=>q<=0) (fun q=>([.any,.any,.any,.any,.ptr 0 0 0,.any,.ptr 0 1 0,.any,.ptr 0 2 0]++(List.replicate 62 .any++([I 0,I q]++List.replicate 16 .any)))) (fun q=>([.cells [U 20,I e.int,Sg e.name,Sg e.u2,Sg e.place.name,.p (strs e.place.path),.p (.sl 8 (e.args.map Ex.enc)),I e.pos] 43,.cells [U 0,Sg emS,nilS] 36,.cells [U 4,Sg e.name,nilS] 36,.cells [U 0,Sg t.name,.p (.sl 3 (t.args.map Ty.enc))] 36])::S) (fun q=>0-q) 0 (Nat.le_refl _) ?_ ?_ ?_
  .simp
  .simp
  intro q hq
  obtain rfl:q=0:=by omega
  simp[resT,zB8,Ty.kind,Ty.name,Ty.args]
 |cons v l1=>
  rw[zCh (by simp),if_neg (by simp)]
  have hn:¬(0:Int)=(l1.length:Int)+1:=by omega
  have Kr:((0:Int)==(l1.length:Int)+1)=false:=by simpa using hn
  refine zK.intro mixed call79 func79 rfl ?_;simp[ntmps79,h20];refine cq ((pC _).call) ?_;simp[payT,h0,Wm,Kr,lz];refine cq (zf _ _ _ _) ?_;simp[resT,zB8,Kr]
theorem zYk(h20:e.op=20)(t:Ty)(mf:zAQ p e.name e.u2=some t)(h0:t.kind≠0):zK Tryz.prog 79 [.ptr d j 0,exV e,.p (.sl 3 (l.map Ty.enc))] S (resT (if eqTs l (([⟨emS,t⟩]:List Fi).map Fi.type)=true then .ok (.mk 4 e.name [])else .error 100) e.pos) S:=by
 have sC:=fun t u S=>zCw t u S
 unfold TAt fnT at h
 have pC:=fun L=>zFF p hp env e.name e.u2 (L::S) (d+1) j h
 refine zK.bareT (fun t ht=>by
  split at ht
  .cases ht;rfl
  cases ht) ?_
 rw[mf]at pC
 have Wm:(t.kind !=0)=true:=by simpa using h0
 by_cases Vc:([⟨emS,t⟩]:List Fi).length=l.length
 .have Zk:l.length=1:=by simpa using Vc.symm
  obtain⟨x1,rfl⟩:=zL6 Zk
  refine zK.intro mixed call79 func79 rfl ?_;simp[ntmps79,h20];refine cq ((pC _).call) ?_;simp[payT,Wm];refine cq (zf _ _ _ _) ?_;simp;refine zBi (fun q:Nat=>q<=1/\(q=1->x1=t)) (fun q=>([.any,.any,.any,.any,.ptr 0 0 0,.any,.ptr 0 1 0,.osl 4 [[pS emS,pU t.kind,pS t.name,.sl 3 (t.args.map Ty.enc)]] 0 4,.ptr 0 2 0]++(List.replicate 61 .any++([.p (.sl 3 [x1.enc]),I 1,I q]++List.replicate 16 .any)))) (fun q=>([.cells [U 20,I e.int,Sg e.name,Sg e.u2,Sg e.place.name,.p (strs e.place.path),.p (.sl 8 (e.args.map Ex.enc)),I e.pos] 43,.cells [U 0,Sg emS,nilS] 36,.cells [U 4,Sg e.name,nilS] 36,.cells [U t.kind,Sg t.name,.p (.sl 3 (t.args.map Ty.enc))] 36,.tok 60 4 1])::S) (fun q=>1-q) 0 ⟨by omega,by omega⟩ ?_ ?_ ?_
  .simp
  .simp
  rintro q ⟨hq,hx⟩
  by_cases Vg:q=0
  .subst Vg
   cases Wb:eqT x1 t with
   |true=>
    simp[ze];refine zU (dB [(8,6)] (by kernel_rfl) ?_)
    simp;refine cq (sC _ _ _) ?_;rw[Wb];simp;refine cq ((zf _ _ _ _).det) ?_;simp
    exact⟨1,⟨by omega,fun _=>(zGa x1 t).1 Wb⟩,by omega,by decide⟩
   |false=>
    have hne:x1≠t:=fun h=>by rw[(zGa x1 t).2 h]at Wb;cases Wb
    rw[zCh (l:=[x1]) (m:=[t]) (fun h=>hne (by simpa using h))]
    simp[ze];refine z6 9 [9] [(8,6)] (by kernel_rfl) (by kernel_rfl) (by kernel_rfl) ?_
    simp;refine cq (sC _ _ _) ?_;rw[Wb];simp;exact⟨_,_,zf _ _ _ _,by simp[resT,zB8]⟩
  obtain rfl:q=1:=by omega
  rw[hx rfl,zEo (l:=[t]) (m:=[t]) rfl]
  simp[resT,zB8,Ty.kind,Ty.name,Ty.args]
 have Zk:¬l.length=1:=fun h=>Vc (by simpa using h.symm)
 have Rf:((1:Int)==(l.length:Int))=false:=by simp;omega
 have Sf:¬1=l.length:=fun h=>Zk h.symm
 rw[zNF Vc,if_neg (by simp)]
 refine zK.intro mixed call79 func79 rfl ?_;simp[ntmps79,h20];refine cq ((pC _).call) ?_;simp[payT,Wm,Rf,Sf];refine cq (zf _ _ _ _) ?_;simp[resT,zB8,Rf,Sf]
theorem zVq(hop:e.op=18\/e.op=19\/e.op=20):zK Tryz.prog 79 [.ptr d j 0,exV e,.p (.sl 3 (l.map Ty.enc))] S (resT (zIE p e.op e.name e.u2 l) e.pos) S:=by
 unfold zIE zKO
 rcases hop with rh|h19|h20
 .simp only[if_pos rh]
  have e1:(p.find? fun x=>(x.kind==3)&&sEq x.name e.name)=p.find? (isK 3 e.name):=rfl
  rw[e1]
  cases hx:p.find? (isK 3 e.name)with
  |none=>
   simp only[Bool.false_and,Bool.false_eq_true,if_false]
   exact zbE p hp env e l tf S d j h rh hx
  |some x=>
   simp only[Bool.true_and];exact zbD p hp env e l tf S d j h rh x hx
 .simp only[if_neg (show ¬e.op=18 by omega),if_pos h19]
  exact zVp p hp env e l tf S d j h h19
 have h19:¬e.op=19:=by omega
 simp only[if_neg (show ¬e.op=18 by omega),if_neg h19]
 cases mf:zAQ p e.name e.u2 with
 |none=>
  simp only[Bool.false_and,Bool.false_eq_true,if_false]
  exact zYi p hp env e l tf S d j h h20 mf
 |some t=>
  simp only[Bool.true_and]
  by_cases h0:t.kind=0
  .have e2:(if t.kind≠0 then [t]else []:List Ty)=[]:=if_neg (by simp[h0])
   rw[e2];exact zYj p hp env e l tf S d j h h20 t mf h0
  have e2:(if t.kind≠0 then [t]else []:List Ty)=[t]:=if_pos h0
  rw[e2];exact zYk p hp env e l tf S d j h h20 t mf h0
end
end Go.Proofs.YtdflkegnmmkkoaaGreatDoor
