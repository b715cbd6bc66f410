/- A part of the proof. -/
import Derived.Test.YtgpajpilkapciaaGreatDoorXNTh
set_option linter.unusedVariables false
set_option linter.unusedSimpArgs false
set_option maxRecDepth 100000
set_option maxHeartbeats 32000000
namespace Go.Proofs.YtgpajpilkapciaaGreatDoor
open Go.RowKit _root_.Go.Proofs.Tryz
attribute [local simp] List.replicate List.range List.range.loop zf za zn zb List.forall_mem_cons List.contains_cons List.contains_nil List.find? zm zl zZ
attribute [local simp] zAa zu zAs zAb zAC zAc zAt zv zi zt zAY zAr zAB zAZ zAd zAe zAu zAv zCJ zAL zAM cutL cutO zA5 ThrK
section
variable(p:List It)(hp:PrSm p)(env:List Fi)(he:zh env)(hl:env.length<=4000000000)(e:Ex)(l:List Ty)(S:ASt)(d j:Nat)(h:TAt p S d j env)
include hp he hl h
theorem zRO:zL Tryz.prog 74 [.ptr d j 0,exV e,.p (.sl 3 (l.map Ty.enc))] S (resT (zFM p env e.op e.place l) e.pos) S:=by
 have pC:=fun L=>zEs p hp env he hl e.place (L::S) (d+1) j h
 have cC:=fun t S=>zQ4 t S
 have wC:=fun k t S=>zFP k t S
 unfold zFM
 cases Ua:zBC p env e.place with
 |none=>
  rw[Ua]at pC;simp only;refine zL.intro mixed call74 func74 rfl ?_;simp[ntmps74];refine cq ((pC _).call) ?_;simp[zBP];refine cq (zY _ _ _ _) ?_
  simp[resT]
 |some r=>
  obtain⟨t,w⟩:=r
  rw[Ua]at pC;simp only
  by_cases h4:e.op=4
  .rw[if_pos h4]
   cases hc:copT t with
   |true=>
    have gh:t.copied=true:=hc
    rw[if_pos (by simp)]
    refine zL.intro mixed call74 func74 rfl ?_;simp[ntmps74];refine cq ((pC _).call) ?_;simp[zBP];refine cq (zY _ _ _ _) ?_;simp[h4];refine zQ (dB [(10,1)] (by kernel_rfl) ?_)
    simp;refine cq (cC _ _) ?_;rw[gh];simp;refine cq ((zY _ _ _ _).det) ?_
    simp[resT]
   |false=>
    have gh:t.copied=false:=hc
    by_cases Qf:e.place.path.length=0
    .rw[if_pos (.inr Qf)]
     have Jk:e.place.path=[]:=List.eq_nil_of_length_eq_zero Qf
     refine zL.intro mixed call74 func74 rfl ?_;simp[ntmps74];refine cq ((pC _).call) ?_;simp[zBP];refine cq (zY _ _ _ _) ?_;simp[h4];refine zQ (dB [(10,1)] (by kernel_rfl) ?_)
     simp;refine cq (cC _ _) ?_;rw[gh];simp[Jk,strs];refine cq ((zY _ _ _ _).det) ?_;simp[resT]
    rw[if_neg (by simp[Qf])]
    have Jk:¬(e.place.path.length:Int)=0:=by omega
    have ep:e.place.path≠ []:=fun h=>Qf (by rw[h];rfl)
    refine zL.intro mixed call74 func74 rfl ?_;simp[ntmps74];refine cq ((pC _).call) ?_;simp[zBP];refine cq (zY _ _ _ _) ?_;simp[h4];refine z5 11 [11] [(10,1)] (by kernel_rfl) (by kernel_rfl) (by kernel_rfl) ?_
    simp;refine cq (cC _ _) ?_;rw[gh];simp[Qf,Jk,ep,strs];exact⟨_,_,zY _ _ _ _,by simp[resT]⟩
  have e4:(e.op==4)=false:=by simpa using h4
  rw[if_neg h4]
  by_cases h5:e.op=5
  .rw[if_pos h5]
   refine zL.intro mixed call74 func74 rfl ?_;simp[ntmps74];refine cq ((pC _).call) ?_;simp[zBP];refine cq (zY _ _ _ _) ?_;simp[h5];refine cq ((wC _ _ _).call) ?_;simp[resT]
  have e5:(e.op==5)=false:=by simpa using h5
  rw[if_neg h5]
  by_cases h6:e.op=6
  .rw[if_pos h6]
   cases w with
   |true=>
    rw[if_pos rfl];refine zL.intro mixed call74 func74 rfl ?_;simp[ntmps74];refine cq ((pC _).call) ?_;simp[zBP];refine cq (zY _ _ _ _) ?_;simp[h6];refine cq (zY _ _ _ _) ?_;simp;refine cq ((wC _ _ _).call) ?_
    simp[resT]
   |false=>
    rw[if_neg (by simp)]
    refine zL.intro mixed call74 func74 rfl ?_;simp[ntmps74];refine cq ((pC _).call) ?_;simp[zBP];refine cq (zY _ _ _ _) ?_;simp[h6];refine cq (zY _ _ _ _) ?_;simp[resT]
  have e6:(e.op==6)=false:=by simpa using h6
  rw[if_neg h6]
  by_cases Jj:e.op=28
  .rw[if_pos Jj]
   by_cases k7:t.kind=7
   .rw[if_pos (by omega)]
    refine zL.intro mixed call74 func74 rfl ?_;simp[ntmps74];refine cq ((pC _).call) ?_;simp[zBP];refine cq (zY _ _ _ _) ?_;simp[Jj,k7];refine cq (zY _ _ _ _) ?_;simp[resT,k7]
   by_cases k8:t.kind=8
   .rw[if_pos (by omega)]
    refine zL.intro mixed call74 func74 rfl ?_;simp[ntmps74];refine cq ((pC _).call) ?_;simp[zBP];refine cq (zY _ _ _ _) ?_;simp[Jj,k8];refine cq (zY _ _ _ _) ?_;simp[resT,k8]
   by_cases fp:t.kind=11
   .rw[if_pos (by omega)]
    refine zL.intro mixed call74 func74 rfl ?_;simp[ntmps74];refine cq ((pC _).call) ?_;simp[zBP];refine cq (zY _ _ _ _) ?_;simp[Jj,fp];refine cq (zY _ _ _ _) ?_;simp[resT,fp]
   by_cases ip:t.kind=12
   .rw[if_pos (by omega)]
    refine zL.intro mixed call74 func74 rfl ?_;simp[ntmps74];refine cq ((pC _).call) ?_;simp[zBP];refine cq (zY _ _ _ _) ?_;simp[Jj,ip];refine cq (zY _ _ _ _) ?_;simp[resT,ip]
   have f7:(t.kind==7)=false:=by simpa using k7
   have f8:(t.kind==8)=false:=by simpa using k8
   have jp:(t.kind==11)=false:=by simpa using fp
   have kp:(t.kind==12)=false:=by simpa using ip
   rw[if_neg (by omega)]
   refine zL.intro mixed call74 func74 rfl ?_;simp[ntmps74];refine cq ((pC _).call) ?_;simp[zBP];refine cq (zY _ _ _ _) ?_;simp[Jj,f7,f8,jp,kp];refine cq (zY _ _ _ _) ?_;simp[resT]
  have ll:(e.op==28)=false:=by simpa using Jj
  rw[if_neg Jj]
  by_cases bi:t.kind=10
  .cases l with
   |nil=>
    rw[if_pos (by simp[bi])]
    by_cases ci:e.op=33
    .rw[if_pos ci]
     refine zL.bare (t:=zAN 3) rfl ?_
     refine zL.intro mixed call74 func74 rfl ?_;simp[ntmps74];refine cq ((pC _).call) ?_;simp[zBP];refine cq (zY _ _ _ _) ?_;simp[e4,e5,e6,ll];refine zQ (dB [] (by kernel_rfl) ?_)
     simp[bi];refine cq ((zY _ _ _ _).det) ?_;simp[ci,zAN,Ty.kind,Ty.name,Ty.args]
    rw[if_neg ci]
    have pp:(e.op==33)=false:=by simpa using ci
    refine zL.bare (t:=zAN 1) rfl ?_
    refine zL.intro mixed call74 func74 rfl ?_;simp[ntmps74];refine cq ((pC _).call) ?_;simp[zBP];refine cq (zY _ _ _ _) ?_;simp[e4,e5,e6,ll];refine zQ (dB [] (by kernel_rfl) ?_)
    simp[bi];refine cq ((zY _ _ _ _).det) ?_
    simp[ci,pp,zAN,Ty.kind,Ty.name,Ty.args]
   |cons v l1=>
    have hn:¬((l1.length:Int)+1)=0:=by omega
    by_cases k1:v.kind=1
    .rw[if_pos (by simp[bi,k1])]
     by_cases ci:e.op=33
     .rw[if_pos ci]
      refine zL.bare (t:=zAN 3) rfl ?_
      refine zL.intro mixed call74 func74 rfl ?_;simp[ntmps74];refine cq ((pC _).call) ?_;simp[zBP];refine cq (zY _ _ _ _) ?_;simp[e4,e5,e6,ll];refine zQ (dB [] (by kernel_rfl) ?_)
      simp[bi,k1,hn,zP];refine cq ((zY _ _ _ _).det) ?_;simp[ci,zAN,Ty.kind,Ty.name,Ty.args]
     rw[if_neg ci]
     have pp:(e.op==33)=false:=by simpa using ci
     refine zL.bare (t:=zAN 1) rfl ?_
     refine zL.intro mixed call74 func74 rfl ?_;simp[ntmps74];refine cq ((pC _).call) ?_;simp[zBP];refine cq (zY _ _ _ _) ?_;simp[e4,e5,e6,ll];refine zQ (dB [] (by kernel_rfl) ?_)
     simp[bi,k1,hn,zP];refine cq ((zY _ _ _ _).det) ?_;simp[ci,pp,zAN,Ty.kind,Ty.name,Ty.args]
    rw[if_neg (by simp[k1])]
    have f1:(v.kind==1)=false:=by simpa using k1
    refine zL.intro mixed call74 func74 rfl ?_;simp[ntmps74];refine cq ((pC _).call) ?_;simp[zBP];refine cq (zY _ _ _ _) ?_;simp[e4,e5,e6,ll];refine z5 17 [17] [] (by kernel_rfl) (by kernel_rfl) (by kernel_rfl) ?_
    simp[bi,f1,hn,zP];exact⟨_,_,zY _ _ _ _,by simp[resT]⟩
  rw[if_neg (by simp[bi])]
  have qp:(t.kind==10)=false:=by simpa using bi
  refine zL.intro mixed call74 func74 rfl ?_;simp[ntmps74];refine cq ((pC _).call) ?_;simp[zBP];refine cq (zY _ _ _ _) ?_;simp[e4,e5,e6,ll];refine z5 17 [17] [] (by kernel_rfl) (by kernel_rfl) (by kernel_rfl) ?_
  simp[qp];exact⟨_,_,zY _ _ _ _,by simp[resT]⟩
end
end Go.Proofs.YtgpajpilkapciaaGreatDoor
namespace Go.Proofs.YtgpajpilkapciaaGreatDoor
open Go.RowKit _root_.Go.Proofs.Tryz
attribute [local simp] List.replicate List.range List.range.loop zf za zn zb List.forall_mem_cons List.contains_cons List.contains_nil List.find? zm zl zZ
attribute [local simp] zAa zu zAs zAb zAC zAc zAt zv zi zt zAY zAr zAB zAZ zAd zAe zAu zAv zCJ zAL zAM cutL cutO zA5 ThrK
theorem zMU{l:List Ty}{fs:List Fi}(h:¬fs.length=l.length):eqTs l (fs.map Fi.type)=false:=zCX fun e=>h (by rw[e];simp)
theorem zW9(dst:Option Tmp)(x:Operand)(ty:TypeId)(pos:String)(after:Array Edge)(guard:Option (Nat × Bool))(fr:List AV)(hx:evA fr x=nilS):genP Tryz.prog ⟨dst,.call ⟨.builtin .len,#[x],#[32]⟩,ty,pos,after,guard⟩ fr=some (I 0):=by
 have v1:zBM (evA fr x)=some (.slice none 0 0):=by rw[hx];rfl
 have h1:(zGo (.call ⟨.builtin .len,#[x],#[32]⟩)&&zR fr (Op.operands (.call ⟨.builtin .len,#[x],#[32]⟩)).toList)=true:=by
  show(true&&zR fr [x])=true
  rw[Bool.true_and,zR,zR,v1];rfl
 have h2:zT Tryz.prog (execOp (fun z=>(zBM (evA fr z)).getD undef) ⟨dst,.call ⟨.builtin .len,#[x],#[32]⟩,ty,pos,after,guard⟩)=some (.value (.int .i64 0)):=by
  have e1:(zBM (evA fr x)).getD undef= .slice none 0 0:=by rw[v1];rfl
  unfold execOp;simp only[resolve,invoke,builtin,List.map_toArray,List.map_cons,List.map_nil,e1];rfl
 unfold genP;simp only;rw[if_pos h1,h2];rfl
section
variable(p:List It)(hp:PrSm p)(env:List Fi)(e:Ex)(l:List Ty)(jd:l.length<=maxLen)(S:ASt)(d j:Nat)(h:TAt p S d j env)
include hp jd h
theorem zZP(nh:e.op=18)(x:It)(hx:p.find? (isK 3 e.name)=some x):zL Tryz.prog 70 [.ptr d j 0,exV e,.p (.sl 3 (l.map Ty.enc))] S (resT (if eqTs l (x.fields.map Fi.type)=true then .ok x.result else .error 100) e.pos) S:=by
 have sC:=fun t u S=>zC8 t u S
 unfold TAt fnT at h
 have fC:=fun S=>zVM p hp 3 e.name S
 unfold nfR at fC;rw[hx]at fC;simp only[prog]at fC h
 by_cases ic:x.fields.length=l.length
 .have pg:(x.fields.length:Int)=(l.length:Int):=by omega
  refine zL.intro mixed call70 func70 rfl ?_;simp[ntmps70,nh];refine zQ (dB [] (by kernel_rfl) ?_)
  simp[h];refine cq (fC _) ?_;simp;refine zQ (dB [] (by kernel_rfl) ?_)
  simp[ic,pg];refine cq (zY _ _ _ _) ?_;simp;refine zBg (fun q:Nat=>q<=l.length/\∀i (h:i<l.length) (h':i<(x.fields).length),i<q->l[i]=(x.fields)[i].type) (fun q=>([.any,.any,.any,.any,.ptr 0 0 0,.any,.ptr 0 1 0,.p (.sl 4 (x.fields.map Fi.enc)),.ptr 0 2 0]++(List.replicate 61 .any++([.p (.sl 3 (l.map Ty.enc)),I l.length,I q]++List.replicate 16 .any)))) (fun q=>([.cells [U 18,I e.int,Sg e.name,Sg e.u4,Sg e.place.name,.p (strs e.place.path),.p (.sl 8 (e.args.map Ex.enc)),I e.pos] 42,.cells [U 0,Sg emS,nilS] 35,.cells [U x.result.kind,Sg x.result.name,.p (.sl 3 (x.result.args.map Ty.enc))] 35,.cells (itU x) 44])::S) (fun q=>l.length-q) 0 ⟨Nat.zero_le _,fun i h h' hi=>by omega⟩ ?_ ?_ ?_
  .simp[Fi.enc,zP]
  .simp[Fi.enc,zP]
  rintro q ⟨hq,ja⟩
  by_cases hlt:q<l.length
  .have aa:(q:Int)<(l.length:Int):=by omega
   have te:q<(x.fields).length:=by omega
   have hw:=zA hlt
   have Ra:l[q]=(x.fields)[q].type->∀i (h:i<l.length) (h':i<(x.fields).length),i<q+1->l[i]=(x.fields)[i].type:=fun he i h h' hi=>by
    by_cases Dg:i=q
    .subst Dg;exact he
    exact ja i h h' (by omega)
   have hne:l[q]≠(x.fields)[q].type->eqTs l ((x.fields).map Fi.type)=false:=fun he=>zCX fun xi=>he (by
    simp[xi])
   have heq:=zGN l[q] (x.fields)[q].type
   generalize Bf:l[q]=x1 at*
   generalize Pg:(x.fields)[q]=f1 at*
   cases Jb:eqT x1 f1.type with
   |true=>
    simp[hlt,aa,te,Bf,Pg,zP];refine zQ (dB [(8,6)] (by kernel_rfl) ?_)
    simp[hlt,aa,te,Bf,Pg,Fi.enc,zP];refine cq (sC _ _ _) ?_;rw[Jb];simp;refine cq ((zY _ _ _ _).det) ?_;simp
    exact⟨q+1,⟨by omega,Ra (heq.1 Jb)⟩,by omega,hw⟩
   |false=>
    rw[hne fun h=>by rw[heq.2 h]at Jb;cases Jb]
    simp[hlt,aa,te,Bf,Pg,zP];refine z5 9 [9] [(8,6)] (by kernel_rfl) (by kernel_rfl) (by kernel_rfl) ?_
    simp[hlt,aa,te,Bf,Pg,Fi.enc,zP];refine cq (sC _ _ _) ?_;rw[Jb];simp;exact⟨_,_,zY _ _ _ _,by simp[resT,zBx]⟩
  have aa:¬(q:Int)<(l.length:Int):=by omega
  rw[zEX (m:=(x.fields).map Fi.type) (List.ext_getElem (by simp;omega) fun i h h'=>by
   rw[List.getElem_map];exact ja i h _ (by omega))]
  simp[aa,resT,zBx]
 have pg:¬(x.fields.length:Int)=(l.length:Int):=by omega
 have Df:((x.fields.length:Int)==(l.length:Int))=false:=by simpa using pg
 have Ef:(x.fields.length==l.length)=false:=by simpa using ic
 rw[zMU ic,if_neg (by simp)]
 refine zL.intro mixed call70 func70 rfl ?_;simp[ntmps70,nh];refine zQ (dB [] (by kernel_rfl) ?_)
 simp[h];refine cq (fC _) ?_;simp;refine zQ (dB [] (by kernel_rfl) ?_)
 simp[Df,Ef,ic];refine cq (zY _ _ _ _) ?_;simp[resT,zBx,Df,Ef,ic]
theorem zZQ(nh:e.op=18)(hx:p.find? (isK 3 e.name)=none):zL Tryz.prog 70 [.ptr d j 0,exV e,.p (.sl 3 (l.map Ty.enc))] S (resT (.error 100) e.pos) S:=by
 have _:=jd;have sC:=fun t u S=>zC8 t u S
 unfold TAt fnT at h
 have fC:=fun S=>zVM p hp 3 e.name S
 unfold nfR at fC;rw[hx]at fC;simp only[prog]at fC h;refine zL.intro mixed call70 func70 rfl ?_;simp[ntmps70,nh];refine zQ (dB [] (by kernel_rfl) ?_)
 simp[h];refine cq (fC _) ?_;simp;refine zQ (dB [] (by kernel_rfl) ?_)
 simp;refine cq (zY _ _ _ _) ?_;simp[resT,zBx]
theorem zUR(h19:e.op=19):zL Tryz.prog 70 [.ptr d j 0,exV e,.p (.sl 3 (l.map Ty.enc))] S (resT (if((zBh p 1 e.name).2&&eqTs l ((zBh p 1 e.name).1.map Fi.type))=true then .ok (.mk 4 e.name [])else .error 100) e.pos) S:=by
 have sC:=fun t u S=>zC8 t u S
 unfold TAt fnT at h
 have fC:=fun L=>zNd p hp env 1 e.name (L::S) (d+1) j h
 refine zL.bareT (fun t ht=>by
  split at ht
  .cases ht;rfl
  cases ht) ?_
 generalize (zBh p 1 e.name).1=fs at*
 generalize (zBh p 1 e.name).2=b at*
 cases b with
 |false=>
  rw[Bool.false_and,if_neg (by simp)]
  refine zL.intro mixed call70 func70 rfl ?_;simp[ntmps70,h19];refine cq ((fC _).call) ?_;simp;refine cq (zY _ _ _ _) ?_
  simp[resT,zBx]
 |true=>
 rw[Bool.true_and]
 by_cases ic:fs.length=l.length
 .have pg:(fs.length:Int)=(l.length:Int):=by omega
  refine zL.intro mixed call70 func70 rfl ?_;simp[ntmps70,h19];refine cq ((fC _).call) ?_;simp[ic,pg];refine cq (zY _ _ _ _) ?_;simp;refine zBg (fun q:Nat=>q<=l.length/\∀i (h:i<l.length) (h':i<(fs).length),i<q->l[i]=(fs)[i].type) (fun q=>([.any,.any,.any,.any,.ptr 0 0 0,.any,.ptr 0 1 0,.p (.sl 4 (fs.map Fi.enc)),.ptr 0 2 0]++(List.replicate 61 .any++([.p (.sl 3 (l.map Ty.enc)),I l.length,I q]++List.replicate 16 .any)))) (fun q=>([.cells [U 19,I e.int,Sg e.name,Sg e.u4,Sg e.place.name,.p (strs e.place.path),.p (.sl 8 (e.args.map Ex.enc)),I e.pos] 42,.cells [U 0,Sg emS,nilS] 35,.cells [U 4,Sg e.name,nilS] 35])::S) (fun q=>l.length-q) 0 ⟨Nat.zero_le _,fun i h h' hi=>by omega⟩ ?_ ?_ ?_
  .simp[Fi.enc,zP]
  .simp[Fi.enc,zP]
  rintro q ⟨hq,ja⟩
  by_cases hlt:q<l.length
  .have aa:(q:Int)<(l.length:Int):=by omega
   have te:q<(fs).length:=by omega
   have hw:=zA hlt
   have Ra:l[q]=(fs)[q].type->∀i (h:i<l.length) (h':i<(fs).length),i<q+1->l[i]=(fs)[i].type:=fun he i h h' hi=>by
    by_cases Dg:i=q
    .subst Dg;exact he
    exact ja i h h' (by omega)
   have hne:l[q]≠(fs)[q].type->eqTs l ((fs).map Fi.type)=false:=fun he=>zCX fun xi=>he (by
    simp[xi])
   have heq:=zGN l[q] (fs)[q].type
   generalize Bf:l[q]=x1 at*
   generalize Pg:(fs)[q]=f1 at*
   cases Jb:eqT x1 f1.type with
   |true=>
    simp[hlt,aa,te,Bf,Pg,zP];refine zQ (dB [(8,6)] (by kernel_rfl) ?_)
    simp[hlt,aa,te,Bf,Pg,Fi.enc,zP];refine cq (sC _ _ _) ?_;rw[Jb];simp;refine cq ((zY _ _ _ _).det) ?_;simp
    exact⟨q+1,⟨by omega,Ra (heq.1 Jb)⟩,by omega,hw⟩
   |false=>
    rw[hne fun h=>by rw[heq.2 h]at Jb;cases Jb]
    simp[hlt,aa,te,Bf,Pg,zP];refine z5 9 [9] [(8,6)] (by kernel_rfl) (by kernel_rfl) (by kernel_rfl) ?_
    simp[hlt,aa,te,Bf,Pg,Fi.enc,zP];refine cq (sC _ _ _) ?_;rw[Jb];simp;exact⟨_,_,zY _ _ _ _,by simp[resT,zBx]⟩
  have aa:¬(q:Int)<(l.length:Int):=by omega
  rw[zEX (m:=(fs).map Fi.type) (List.ext_getElem (by simp;omega) fun i h h'=>by
   rw[List.getElem_map];exact ja i h _ (by omega))]
  simp[aa,resT,zBx,Ty.kind,Ty.name,Ty.args]
 have pg:¬(fs.length:Int)=(l.length:Int):=by omega
 have Df:((fs.length:Int)==(l.length:Int))=false:=by simpa using pg
 have Ef:(fs.length==l.length)=false:=by simpa using ic
 rw[zMU ic,if_neg (by simp)]
 refine zL.intro mixed call70 func70 rfl ?_;simp[ntmps70,h19];refine cq ((fC _).call) ?_;simp[Df,Ef,ic];refine cq (zY _ _ _ _) ?_;simp[resT,zBx,Df,Ef,ic]
theorem zXA(h20:e.op=20)(af:zAO p e.name e.u4=none):zL Tryz.prog 70 [.ptr d j 0,exV e,.p (.sl 3 (l.map Ty.enc))] S (resT (.error 100) e.pos) S:=by
 have _:=jd;have sC:=fun t u S=>zC8 t u S
 unfold TAt fnT at h
 have pC:=fun L=>zEt p hp env e.name e.u4 (L::S) (d+1) j h
 rw[af]at pC;refine zL.intro mixed call70 func70 rfl ?_;simp[ntmps70,h20];refine cq ((pC _).call) ?_;simp[payT];refine cq (zY _ _ _ _) ?_;simp[resT,zBx]
theorem zXB(h20:e.op=20)(t:Ty)(af:zAO p e.name e.u4=some t)(h0:t.kind=0):zL Tryz.prog 70 [.ptr d j 0,exV e,.p (.sl 3 (l.map Ty.enc))] S (resT (if eqTs l []=true then .ok (.mk 4 e.name [])else .error 100) e.pos) S:=by
 have sC:=fun t u S=>zC8 t u S
 unfold TAt fnT at h
 have pC:=fun L=>zEt p hp env e.name e.u4 (L::S) (d+1) j h
 have lz:=zW9
 refine zL.bareT (fun t ht=>by
  split at ht
  .cases ht;rfl
  cases ht) ?_
 rw[af]at pC
 have Cm:(t.kind !=0)=false:=by simp[h0]
 cases l with
 |nil=>
  rw[zEX rfl,if_pos rfl];refine zL.intro mixed call70 func70 rfl ?_;simp[ntmps70,h20];refine cq ((pC _).call) ?_;simp[payT,h0,Cm,lz];refine cq (zY _ _ _ _) ?_;simp;refine zBg (fun q:Nat=>q<=0) (fun q=>([.any,.any,.any,.any,.ptr 0 0 0,.any,.ptr 0 1 0,.any,.ptr 0 2 0]++(List.replicate 62 .any++([I 0,I q]++List.replicate 16 .any)))) (fun q=>([.cells [U 20,I e.int,Sg e.name,Sg e.u4,Sg e.place.name,.p (strs e.place.path),.p (.sl 8 (e.args.map Ex.enc)),I e.pos] 42,.cells [U 0,Sg emS,nilS] 35,.cells [U 4,Sg e.name,nilS] 35,.cells [U 0,Sg t.name,.p (.sl 3 (t.args.map Ty.enc))] 35])::S) (fun q=>0-q) 0 (Nat.le_refl _) ?_ ?_ ?_
  .simp
  .simp
  intro q hq
  obtain rfl:q=0:=by omega
  simp[resT,zBx,Ty.kind,Ty.name,Ty.args]
 |cons v l1=>
  rw[zCX (by simp),if_neg (by simp)]
  have hn:¬(0:Int)=(l1.length:Int)+1:=by omega
  have vp:((0:Int)==(l1.length:Int)+1)=false:=by simpa using hn
  refine zL.intro mixed call70 func70 rfl ?_;simp[ntmps70,h20];refine cq ((pC _).call) ?_;simp[payT,h0,Cm,vp,lz];refine cq (zY _ _ _ _) ?_;simp[resT,zBx,vp]
theorem zXC(h20:e.op=20)(t:Ty)(af:zAO p e.name e.u4=some t)(h0:t.kind≠0):zL Tryz.prog 70 [.ptr d j 0,exV e,.p (.sl 3 (l.map Ty.enc))] S (resT (if eqTs l (([⟨emS,t⟩]:List Fi).map Fi.type)=true then .ok (.mk 4 e.name [])else .error 100) e.pos) S:=by
 have sC:=fun t u S=>zC8 t u S
 unfold TAt fnT at h
 have pC:=fun L=>zEt p hp env e.name e.u4 (L::S) (d+1) j h
 refine zL.bareT (fun t ht=>by
  split at ht
  .cases ht;rfl
  cases ht) ?_
 rw[af]at pC
 have Cm:(t.kind !=0)=true:=by simpa using h0
 by_cases ic:([⟨emS,t⟩]:List Fi).length=l.length
 .have Kk:l.length=1:=by simpa using ic.symm
  obtain⟨x1,rfl⟩:=zLJ Kk
  refine zL.intro mixed call70 func70 rfl ?_;simp[ntmps70,h20];refine cq ((pC _).call) ?_;simp[payT,Cm];refine cq (zY _ _ _ _) ?_;simp;refine zBg (fun q:Nat=>q<=1/\(q=1->x1=t)) (fun q=>([.any,.any,.any,.any,.ptr 0 0 0,.any,.ptr 0 1 0,.osl 4 [[pS emS,pU t.kind,pS t.name,.sl 3 (t.args.map Ty.enc)]] 0 4,.ptr 0 2 0]++(List.replicate 61 .any++([.p (.sl 3 [x1.enc]),I 1,I q]++List.replicate 16 .any)))) (fun q=>([.cells [U 20,I e.int,Sg e.name,Sg e.u4,Sg e.place.name,.p (strs e.place.path),.p (.sl 8 (e.args.map Ex.enc)),I e.pos] 42,.cells [U 0,Sg emS,nilS] 35,.cells [U 4,Sg e.name,nilS] 35,.cells [U t.kind,Sg t.name,.p (.sl 3 (t.args.map Ty.enc))] 35,.tok 79 4 1])::S) (fun q=>1-q) 0 ⟨by omega,by omega⟩ ?_ ?_ ?_
  .simp
  .simp
  rintro q ⟨hq,hx⟩
  by_cases Ki:q=0
  .subst Ki
   cases Jb:eqT x1 t with
   |true=>
    simp[zP];refine zQ (dB [(8,6)] (by kernel_rfl) ?_)
    simp;refine cq (sC _ _ _) ?_;rw[Jb];simp;refine cq ((zY _ _ _ _).det) ?_;simp
    exact⟨1,⟨by omega,fun _=>(zGN x1 t).1 Jb⟩,by omega,by decide⟩
   |false=>
    have hne:x1≠t:=fun h=>by rw[(zGN x1 t).2 h]at Jb;cases Jb
    rw[zCX (l:=[x1]) (m:=[t]) (fun h=>hne (by simpa using h))]
    simp[zP];refine z5 9 [9] [(8,6)] (by kernel_rfl) (by kernel_rfl) (by kernel_rfl) ?_
    simp;refine cq (sC _ _ _) ?_;rw[Jb];simp;exact⟨_,_,zY _ _ _ _,by simp[resT,zBx]⟩
  obtain rfl:q=1:=by omega
  rw[hx rfl,zEX (l:=[t]) (m:=[t]) rfl]
  simp[resT,zBx,Ty.kind,Ty.name,Ty.args]
 have Kk:¬l.length=1:=fun h=>ic (by simpa using h.symm)
 have Df:((1:Int)==(l.length:Int))=false:=by simp;omega
 have Ef:¬1=l.length:=fun h=>Kk h.symm
 rw[zMU ic,if_neg (by simp)]
 refine zL.intro mixed call70 func70 rfl ?_;simp[ntmps70,h20];refine cq ((pC _).call) ?_;simp[payT,Cm,Df,Ef];refine cq (zY _ _ _ _) ?_;simp[resT,zBx,Df,Ef]
theorem zUS(hop:e.op=18\/e.op=19\/e.op=20):zL Tryz.prog 70 [.ptr d j 0,exV e,.p (.sl 3 (l.map Ty.enc))] S (resT (zHt p e.op e.name e.u4 l) e.pos) S:=by
 unfold zHt zJo
 rcases hop with nh|h19|h20
 .simp only[if_pos nh]
  have e1:(p.find? fun x=>(x.kind==3)&&sEq x.name e.name)=p.find? (isK 3 e.name):=rfl
  rw[e1]
  cases hx:p.find? (isK 3 e.name)with
  |none=>
   simp only[Bool.false_and,Bool.false_eq_true,if_false]
   exact zZQ p hp env e l jd S d j h nh hx
  |some x=>
   simp only[Bool.true_and];exact zZP p hp env e l jd S d j h nh x hx
 .simp only[if_neg (show ¬e.op=18 by omega),if_pos h19]
  exact zUR p hp env e l jd S d j h h19
 have h19:¬e.op=19:=by omega
 simp only[if_neg (show ¬e.op=18 by omega),if_neg h19]
 cases af:zAO p e.name e.u4 with
 |none=>
  simp only[Bool.false_and,Bool.false_eq_true,if_false]
  exact zXA p hp env e l jd S d j h h20 af
 |some t=>
  simp only[Bool.true_and]
  by_cases h0:t.kind=0
  .have e2:(if t.kind≠0 then [t]else []:List Ty)=[]:=if_neg (by simp[h0])
   rw[e2];exact zXB p hp env e l jd S d j h h20 t af h0
  have e2:(if t.kind≠0 then [t]else []:List Ty)=[t]:=if_pos h0
  rw[e2];exact zXC p hp env e l jd S d j h h20 t af h0
end
end Go.Proofs.YtgpajpilkapciaaGreatDoor
