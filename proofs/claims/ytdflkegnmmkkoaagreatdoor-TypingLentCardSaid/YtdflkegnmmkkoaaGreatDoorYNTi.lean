/- A part of the proof. -/
import Derived.Test.YtdflkegnmmkkoaaGreatDoorYNTh
set_option linter.unusedVariables false
set_option linter.unusedSimpArgs false
set_option maxRecDepth 100000
set_option maxHeartbeats 32000000
namespace Go.Proofs.YtdflkegnmmkkoaaGreatDoor
open Go.RowKit _root_.Go.Proofs.Tryz
attribute [local simp] List.replicate List.range List.range.loop List.forall_mem_cons List.contains_cons List.contains_nil List.find?
attribute [local simp] zAk zy zBD zAl zAG zAm zBE z5 zq zx zAi zBC zAF zAj zAn zAo zBF zBG zCT zAP zAQ cutL cutO zBQ ThrK
section
variable(p:List It)(hp:PrSm p)(env:List Fi)(he:zAg env)(hl:env.length<=4000000000)(e:Ex)(l:List Ty)(S:ASt)(d j:Nat)(h:TAt p S d j env)
include hp he hl h
theorem zS3:zM Tryz.prog 83 [.ptr d j 0,exV e,.p (.sl 3 (l.map Ty.enc))] S (resT (zCa p env e.op e.place l) e.pos) S:=by
 have pC:=fun L=>zFP p hp env he hl e.place (L::S) (d+1) j h
 have cC:=fun t S=>zLq t S
 have wC:=fun k t S=>zFv k t S
 unfold zCa
 cases Ia:zAS p env e.place with
 |none=>
  rw[Ia]at pC;simp only;refine zM.intro mixed call83 func83 rfl ?_;simp[ntmps83];refine cq ((pC _).call) ?_;simp[zBI];refine cq (zi _ _ _ _) ?_
  simp[resT]
 |some r=>
  obtain⟨t,w⟩:=r
  rw[Ia]at pC;simp only
  by_cases h4:e.op=4
  .rw[if_pos h4]
   cases hc:copT t with
   |true=>
    have Jd:t.copied=true:=hc
    rw[if_pos (by simp)]
    refine zM.intro mixed call83 func83 rfl ?_;simp[ntmps83];refine cq ((pC _).call) ?_;simp[zBI];refine cq (zi _ _ _ _) ?_;simp[h4];refine zW (dB [(10,1)] (by kernel_rfl) ?_)
    simp;refine cq (cC _ _) ?_;rw[Jd];simp;refine cq ((zi _ _ _ _).det) ?_
    simp[resT]
   |false=>
    have Jd:t.copied=false:=hc
    by_cases Of:e.place.path.length=0
    .rw[if_pos (.inr Of)]
     have Gg:e.place.path=[]:=List.eq_nil_of_length_eq_zero Of
     refine zM.intro mixed call83 func83 rfl ?_;simp[ntmps83];refine cq ((pC _).call) ?_;simp[zBI];refine cq (zi _ _ _ _) ?_;simp[h4];refine zW (dB [(10,1)] (by kernel_rfl) ?_)
     simp;refine cq (cC _ _) ?_;rw[Jd];simp[Gg,strs];refine cq ((zi _ _ _ _).det) ?_;simp[resT]
    rw[if_neg (by simp[Of])]
    have Gg:¬(e.place.path.length:Int)=0:=by omega
    have Hg:e.place.path≠ []:=fun h=>Of (by rw[h];rfl)
    refine zM.intro mixed call83 func83 rfl ?_;simp[ntmps83];refine cq ((pC _).call) ?_;simp[zBI];refine cq (zi _ _ _ _) ?_;simp[h4];refine z9 11 [11] [(10,1)] (by kernel_rfl) (by kernel_rfl) (by kernel_rfl) ?_
    simp;refine cq (cC _ _) ?_;rw[Jd];simp[Of,Gg,Hg,strs];exact⟨_,_,zi _ _ _ _,by simp[resT]⟩
  have e4:(e.op==4)=false:=by simpa using h4
  rw[if_neg h4]
  by_cases h5:e.op=5
  .rw[if_pos h5]
   refine zM.intro mixed call83 func83 rfl ?_;simp[ntmps83];refine cq ((pC _).call) ?_;simp[zBI];refine cq (zi _ _ _ _) ?_;simp[h5];refine cq ((wC _ _ _).call) ?_;simp[resT]
  have e5:(e.op==5)=false:=by simpa using h5
  rw[if_neg h5]
  by_cases h6:e.op=6
  .rw[if_pos h6]
   cases w with
   |true=>
    rw[if_pos rfl];refine zM.intro mixed call83 func83 rfl ?_;simp[ntmps83];refine cq ((pC _).call) ?_;simp[zBI];refine cq (zi _ _ _ _) ?_;simp[h6];refine cq (zi _ _ _ _) ?_;simp;refine cq ((wC _ _ _).call) ?_
    simp[resT]
   |false=>
    rw[if_neg (by simp)]
    refine zM.intro mixed call83 func83 rfl ?_;simp[ntmps83];refine cq ((pC _).call) ?_;simp[zBI];refine cq (zi _ _ _ _) ?_;simp[h6];refine cq (zi _ _ _ _) ?_;simp[resT]
  have e6:(e.op==6)=false:=by simpa using h6
  rw[if_neg h6]
  by_cases pk:e.op=28
  .rw[if_pos pk]
   by_cases k7:t.kind=7
   .rw[if_pos (by omega)]
    refine zM.intro mixed call83 func83 rfl ?_;simp[ntmps83];refine cq ((pC _).call) ?_;simp[zBI];refine cq (zi _ _ _ _) ?_;simp[pk,k7];refine cq (zi _ _ _ _) ?_;simp[resT,k7]
   by_cases k8:t.kind=8
   .rw[if_pos (by omega)]
    refine zM.intro mixed call83 func83 rfl ?_;simp[ntmps83];refine cq ((pC _).call) ?_;simp[zBI];refine cq (zi _ _ _ _) ?_;simp[pk,k8];refine cq (zi _ _ _ _) ?_;simp[resT,k8]
   by_cases Yp:t.kind=11
   .rw[if_pos (by omega)]
    refine zM.intro mixed call83 func83 rfl ?_;simp[ntmps83];refine cq ((pC _).call) ?_;simp[zBI];refine cq (zi _ _ _ _) ?_;simp[pk,Yp];refine cq (zi _ _ _ _) ?_;simp[resT,Yp]
   by_cases Zp:t.kind=12
   .rw[if_pos (by omega)]
    refine zM.intro mixed call83 func83 rfl ?_;simp[ntmps83];refine cq ((pC _).call) ?_;simp[zBI];refine cq (zi _ _ _ _) ?_;simp[pk,Zp];refine cq (zi _ _ _ _) ?_;simp[resT,Zp]
   have f7:(t.kind==7)=false:=by simpa using k7
   have f8:(t.kind==8)=false:=by simpa using k8
   have aq:(t.kind==11)=false:=by simpa using Yp
   have bq:(t.kind==12)=false:=by simpa using Zp
   rw[if_neg (by omega)]
   refine zM.intro mixed call83 func83 rfl ?_;simp[ntmps83];refine cq ((pC _).call) ?_;simp[zBI];refine cq (zi _ _ _ _) ?_;simp[pk,f7,f8,aq,bq];refine cq (zi _ _ _ _) ?_;simp[resT]
  have Dl:(e.op==28)=false:=by simpa using pk
  rw[if_neg pk]
  by_cases vi:t.kind=10
  .cases l with
   |nil=>
    rw[if_pos (by simp[vi])]
    by_cases wi:e.op=33
    .rw[if_pos wi]
     refine zM.bare (t:=zAE 3) rfl ?_
     refine zM.intro mixed call83 func83 rfl ?_;simp[ntmps83];refine cq ((pC _).call) ?_;simp[zBI];refine cq (zi _ _ _ _) ?_;simp[e4,e5,e6,Dl];refine zW (dB [] (by kernel_rfl) ?_)
     simp[vi];refine cq ((zi _ _ _ _).det) ?_;simp[wi,zAE,Ty.kind,Ty.name,Ty.args]
    rw[if_neg wi]
    have dq:(e.op==33)=false:=by simpa using wi
    refine zM.bare (t:=zAE 1) rfl ?_
    refine zM.intro mixed call83 func83 rfl ?_;simp[ntmps83];refine cq ((pC _).call) ?_;simp[zBI];refine cq (zi _ _ _ _) ?_;simp[e4,e5,e6,Dl];refine zW (dB [] (by kernel_rfl) ?_)
    simp[vi];refine cq ((zi _ _ _ _).det) ?_
    simp[wi,dq,zAE,Ty.kind,Ty.name,Ty.args]
   |cons v l1=>
    have hn:¬((l1.length:Int)+1)=0:=by omega
    by_cases k1:v.kind=1
    .rw[if_pos (by simp[vi,k1])]
     by_cases wi:e.op=33
     .rw[if_pos wi]
      refine zM.bare (t:=zAE 3) rfl ?_
      refine zM.intro mixed call83 func83 rfl ?_;simp[ntmps83];refine cq ((pC _).call) ?_;simp[zBI];refine cq (zi _ _ _ _) ?_;simp[e4,e5,e6,Dl];refine zW (dB [] (by kernel_rfl) ?_)
      simp[vi,k1,hn,zc];refine cq ((zi _ _ _ _).det) ?_;simp[wi,zAE,Ty.kind,Ty.name,Ty.args]
     rw[if_neg wi]
     have dq:(e.op==33)=false:=by simpa using wi
     refine zM.bare (t:=zAE 1) rfl ?_
     refine zM.intro mixed call83 func83 rfl ?_;simp[ntmps83];refine cq ((pC _).call) ?_;simp[zBI];refine cq (zi _ _ _ _) ?_;simp[e4,e5,e6,Dl];refine zW (dB [] (by kernel_rfl) ?_)
     simp[vi,k1,hn,zc];refine cq ((zi _ _ _ _).det) ?_;simp[wi,dq,zAE,Ty.kind,Ty.name,Ty.args]
    rw[if_neg (by simp[k1])]
    have f1:(v.kind==1)=false:=by simpa using k1
    refine zM.intro mixed call83 func83 rfl ?_;simp[ntmps83];refine cq ((pC _).call) ?_;simp[zBI];refine cq (zi _ _ _ _) ?_;simp[e4,e5,e6,Dl];refine z9 17 [17] [] (by kernel_rfl) (by kernel_rfl) (by kernel_rfl) ?_
    simp[vi,f1,hn,zc];exact⟨_,_,zi _ _ _ _,by simp[resT]⟩
  rw[if_neg (by simp[vi])]
  have eq:(t.kind==10)=false:=by simpa using vi
  refine zM.intro mixed call83 func83 rfl ?_;simp[ntmps83];refine cq ((pC _).call) ?_;simp[zBI];refine cq (zi _ _ _ _) ?_;simp[e4,e5,e6,Dl];refine z9 17 [17] [] (by kernel_rfl) (by kernel_rfl) (by kernel_rfl) ?_
  simp[eq];exact⟨_,_,zi _ _ _ _,by simp[resT]⟩
end
end Go.Proofs.YtdflkegnmmkkoaaGreatDoor
namespace Go.Proofs.YtdflkegnmmkkoaaGreatDoor
open Go.RowKit _root_.Go.Proofs.Tryz
attribute [local simp] List.replicate List.range List.range.loop List.forall_mem_cons List.contains_cons List.contains_nil List.find?
attribute [local simp] zAk zy zBD zAl zAG zAm zBE z5 zq zx zAi zBC zAF zAj zAn zAo zBF zBG zCT zAP zAQ cutL cutO zBQ ThrK
theorem zNK{l:List Ty}{fs:List Fi}(h:¬fs.length=l.length):eqTs l (fs.map Fi.type)=false:=zCl fun e=>h (by rw[e];simp)
theorem zYW(dst:Option Tmp)(x:Operand)(ty:TypeId)(pos:String)(after:Array Edge)(guard:Option (Nat × Bool))(fr:List AV)(hx:evA fr x=nilS):genP Tryz.prog ⟨dst,.call ⟨.builtin .len,#[x],#[33]⟩,ty,pos,after,guard⟩ fr=some (I 0):=by
 have v1:zBp (evA fr x)=some (.slice none 0 0):=by rw[hx];rfl
 have h1:(zHr (.call ⟨.builtin .len,#[x],#[33]⟩)&&zY fr (Op.operands (.call ⟨.builtin .len,#[x],#[33]⟩)).toList)=true:=by
  show(true&&zY fr [x])=true
  rw[Bool.true_and,zY,zY,v1];rfl
 have h2:ze Tryz.prog (execOp (fun z=>(zBp (evA fr z)).getD undef) ⟨dst,.call ⟨.builtin .len,#[x],#[33]⟩,ty,pos,after,guard⟩)=some (.value (.int .i64 0)):=by
  have e1:(zBp (evA fr x)).getD undef= .slice none 0 0:=by rw[v1];rfl
  unfold execOp;simp only[resolve,invoke,builtin,List.map_toArray,List.map_cons,List.map_nil,e1];rfl
 unfold genP;simp only;rw[if_pos h1,h2];rfl
section
variable(p:List It)(hp:PrSm p)(env:List Fi)(e:Ex)(l:List Ty)(dg:l.length<=maxLen)(S:ASt)(d j:Nat)(h:TAt p S d j env)
include hp dg h
theorem zau(ph:e.op=18)(x:It)(hx:p.find? (isK 3 e.name)=some x):zM Tryz.prog 79 [.ptr d j 0,exV e,.p (.sl 3 (l.map Ty.enc))] S (resT (if eqTs l (x.fields.map Fi.type)=true then .ok x.result else .error 100) e.pos) S:=by
 have sC:=fun t u S=>zCb t u S
 unfold TAt fnT at h
 have fC:=fun S=>zV7 p hp 3 e.name S
 unfold nfR at fC;rw[hx]at fC;simp only[prog]at fC h
 by_cases jd:x.fields.length=l.length
 .have Ig:(x.fields.length:Int)=(l.length:Int):=by omega
  refine zM.intro mixed call79 func79 rfl ?_;simp[ntmps79,ph];refine zW (dB [] (by kernel_rfl) ?_)
  simp[h];refine cq (fC _) ?_;simp;refine zW (dB [] (by kernel_rfl) ?_)
  simp[jd,Ig];refine cq (zi _ _ _ _) ?_;simp;refine zBn (fun q:Nat=>q<=l.length/\∀i (h:i<l.length) (h':i<(x.fields).length),i<q->l[i]=(x.fields)[i].type) (fun q=>([.any,.any,.any,.any,.ptr 0 0 0,.any,.ptr 0 1 0,.p (.sl 4 (x.fields.map Fi.enc)),.ptr 0 2 0]++(List.replicate 61 .any++([.p (.sl 3 (l.map Ty.enc)),I l.length,I q]++List.replicate 16 .any)))) (fun q=>([.cells [U 18,I e.int,Sg e.name,Sg e.u2,Sg e.place.name,.p (strs e.place.path),.p (.sl 8 (e.args.map Ex.enc)),I e.pos] 43,.cells [U 0,Sg emS,nilS] 36,.cells [U x.result.kind,Sg x.result.name,.p (.sl 3 (x.result.args.map Ty.enc))] 36,.cells (itU x) 45])::S) (fun q=>l.length-q) 0 ⟨Nat.zero_le _,fun i h h' hi=>by omega⟩ ?_ ?_ ?_
  .simp[Fi.enc,zc]
  .simp[Fi.enc,zc]
  rintro q ⟨hq,ia⟩
  by_cases hlt:q<l.length
  .have aa:(q:Int)<(l.length:Int):=by omega
   have Ya:q<(x.fields).length:=by omega
   have hw:=zB hlt
   have Pa:l[q]=(x.fields)[q].type->∀i (h:i<l.length) (h':i<(x.fields).length),i<q+1->l[i]=(x.fields)[i].type:=fun he i h h' hi=>by
    by_cases Ug:i=q
    .subst Ug;exact he
    exact ia i h h' (by omega)
   have hne:l[q]≠(x.fields)[q].type->eqTs l ((x.fields).map Fi.type)=false:=fun he=>zCl fun Cl=>he (by
    simp[Cl])
   have heq:=zDn l[q] (x.fields)[q].type
   generalize Gf:l[q]=x1 at*
   generalize ah:(x.fields)[q]=f1 at*
   cases Xb:eqT x1 f1.type with
   |true=>
    simp[hlt,aa,Ya,Gf,ah,zc];refine zW (dB [(8,6)] (by kernel_rfl) ?_)
    simp[hlt,aa,Ya,Gf,ah,Fi.enc,zc];refine cq (sC _ _ _) ?_;rw[Xb];simp;refine cq ((zi _ _ _ _).det) ?_;simp
    exact⟨q+1,⟨by omega,Pa (heq.1 Xb)⟩,by omega,hw⟩
   |false=>
    rw[hne fun h=>by rw[heq.2 h]at Xb;cases Xb]
    simp[hlt,aa,Ya,Gf,ah,zc];refine z9 9 [9] [(8,6)] (by kernel_rfl) (by kernel_rfl) (by kernel_rfl) ?_
    simp[hlt,aa,Ya,Gf,ah,Fi.enc,zc];refine cq (sC _ _ _) ?_;rw[Xb];simp;exact⟨_,_,zi _ _ _ _,by simp[resT,zB8]⟩
  have aa:¬(q:Int)<(l.length:Int):=by omega
  rw[zEz (m:=(x.fields).map Fi.type) (List.ext_getElem (by simp;omega) fun i h h'=>by
   rw[List.getElem_map];exact ia i h _ (by omega))]
  simp[aa,resT,zB8]
 have Ig:¬(x.fields.length:Int)=(l.length:Int):=by omega
 have Pf:((x.fields.length:Int)==(l.length:Int))=false:=by simpa using Ig
 have Qf:(x.fields.length==l.length)=false:=by simpa using jd
 rw[zNK jd,if_neg (by simp)]
 refine zM.intro mixed call79 func79 rfl ?_;simp[ntmps79,ph];refine zW (dB [] (by kernel_rfl) ?_)
 simp[h];refine cq (fC _) ?_;simp;refine zW (dB [] (by kernel_rfl) ?_)
 simp[Pf,Qf,jd];refine cq (zi _ _ _ _) ?_;simp[resT,zB8,Pf,Qf,jd]
theorem zav(ph:e.op=18)(hx:p.find? (isK 3 e.name)=none):zM Tryz.prog 79 [.ptr d j 0,exV e,.p (.sl 3 (l.map Ty.enc))] S (resT (.error 100) e.pos) S:=by
 have _:=dg;have sC:=fun t u S=>zCb t u S
 unfold TAt fnT at h
 have fC:=fun S=>zV7 p hp 3 e.name S
 unfold nfR at fC;rw[hx]at fC;simp only[prog]at fC h;refine zM.intro mixed call79 func79 rfl ?_;simp[ntmps79,ph];refine zW (dB [] (by kernel_rfl) ?_)
 simp[h];refine cq (fC _) ?_;simp;refine zW (dB [] (by kernel_rfl) ?_)
 simp;refine cq (zi _ _ _ _) ?_;simp[resT,zB8]
theorem zVg(h19:e.op=19):zM Tryz.prog 79 [.ptr d j 0,exV e,.p (.sl 3 (l.map Ty.enc))] S (resT (if((zBs p 1 e.name).2&&eqTs l ((zBs p 1 e.name).1.map Fi.type))=true then .ok (.mk 4 e.name [])else .error 100) e.pos) S:=by
 have sC:=fun t u S=>zCb t u S
 unfold TAt fnT at h
 have fC:=fun L=>zOZ p hp env 1 e.name (L::S) (d+1) j h
 refine zM.bareT (fun t ht=>by
  split at ht
  .cases ht;rfl
  cases ht) ?_
 generalize (zBs p 1 e.name).1=fs at*
 generalize (zBs p 1 e.name).2=b at*
 cases b with
 |false=>
  rw[Bool.false_and,if_neg (by simp)]
  refine zM.intro mixed call79 func79 rfl ?_;simp[ntmps79,h19];refine cq ((fC _).call) ?_;simp;refine cq (zi _ _ _ _) ?_
  simp[resT,zB8]
 |true=>
 rw[Bool.true_and]
 by_cases jd:fs.length=l.length
 .have Ig:(fs.length:Int)=(l.length:Int):=by omega
  refine zM.intro mixed call79 func79 rfl ?_;simp[ntmps79,h19];refine cq ((fC _).call) ?_;simp[jd,Ig];refine cq (zi _ _ _ _) ?_;simp;refine zBn (fun q:Nat=>q<=l.length/\∀i (h:i<l.length) (h':i<(fs).length),i<q->l[i]=(fs)[i].type) (fun q=>([.any,.any,.any,.any,.ptr 0 0 0,.any,.ptr 0 1 0,.p (.sl 4 (fs.map Fi.enc)),.ptr 0 2 0]++(List.replicate 61 .any++([.p (.sl 3 (l.map Ty.enc)),I l.length,I q]++List.replicate 16 .any)))) (fun q=>([.cells [U 19,I e.int,Sg e.name,Sg e.u2,Sg e.place.name,.p (strs e.place.path),.p (.sl 8 (e.args.map Ex.enc)),I e.pos] 43,.cells [U 0,Sg emS,nilS] 36,.cells [U 4,Sg e.name,nilS] 36])::S) (fun q=>l.length-q) 0 ⟨Nat.zero_le _,fun i h h' hi=>by omega⟩ ?_ ?_ ?_
  .simp[Fi.enc,zc]
  .simp[Fi.enc,zc]
  rintro q ⟨hq,ia⟩
  by_cases hlt:q<l.length
  .have aa:(q:Int)<(l.length:Int):=by omega
   have Ya:q<(fs).length:=by omega
   have hw:=zB hlt
   have Pa:l[q]=(fs)[q].type->∀i (h:i<l.length) (h':i<(fs).length),i<q+1->l[i]=(fs)[i].type:=fun he i h h' hi=>by
    by_cases Ug:i=q
    .subst Ug;exact he
    exact ia i h h' (by omega)
   have hne:l[q]≠(fs)[q].type->eqTs l ((fs).map Fi.type)=false:=fun he=>zCl fun Cl=>he (by
    simp[Cl])
   have heq:=zDn l[q] (fs)[q].type
   generalize Gf:l[q]=x1 at*
   generalize ah:(fs)[q]=f1 at*
   cases Xb:eqT x1 f1.type with
   |true=>
    simp[hlt,aa,Ya,Gf,ah,zc];refine zW (dB [(8,6)] (by kernel_rfl) ?_)
    simp[hlt,aa,Ya,Gf,ah,Fi.enc,zc];refine cq (sC _ _ _) ?_;rw[Xb];simp;refine cq ((zi _ _ _ _).det) ?_;simp
    exact⟨q+1,⟨by omega,Pa (heq.1 Xb)⟩,by omega,hw⟩
   |false=>
    rw[hne fun h=>by rw[heq.2 h]at Xb;cases Xb]
    simp[hlt,aa,Ya,Gf,ah,zc];refine z9 9 [9] [(8,6)] (by kernel_rfl) (by kernel_rfl) (by kernel_rfl) ?_
    simp[hlt,aa,Ya,Gf,ah,Fi.enc,zc];refine cq (sC _ _ _) ?_;rw[Xb];simp;exact⟨_,_,zi _ _ _ _,by simp[resT,zB8]⟩
  have aa:¬(q:Int)<(l.length:Int):=by omega
  rw[zEz (m:=(fs).map Fi.type) (List.ext_getElem (by simp;omega) fun i h h'=>by
   rw[List.getElem_map];exact ia i h _ (by omega))]
  simp[aa,resT,zB8,Ty.kind,Ty.name,Ty.args]
 have Ig:¬(fs.length:Int)=(l.length:Int):=by omega
 have Pf:((fs.length:Int)==(l.length:Int))=false:=by simpa using Ig
 have Qf:(fs.length==l.length)=false:=by simpa using jd
 rw[zNK jd,if_neg (by simp)]
 refine zM.intro mixed call79 func79 rfl ?_;simp[ntmps79,h19];refine cq ((fC _).call) ?_;simp[Pf,Qf,jd];refine cq (zi _ _ _ _) ?_;simp[resT,zB8,Pf,Qf,jd]
theorem zYX(h20:e.op=20)(qf:zAT p e.name e.u2=none):zM Tryz.prog 79 [.ptr d j 0,exV e,.p (.sl 3 (l.map Ty.enc))] S (resT (.error 100) e.pos) S:=by
 have _:=dg;have sC:=fun t u S=>zCb t u S
 unfold TAt fnT at h
 have pC:=fun L=>zFQ p hp env e.name e.u2 (L::S) (d+1) j h
 rw[qf]at pC;refine zM.intro mixed call79 func79 rfl ?_;simp[ntmps79,h20];refine cq ((pC _).call) ?_;simp[payT];refine cq (zi _ _ _ _) ?_;simp[resT,zB8]
theorem zYY(h20:e.op=20)(t:Ty)(qf:zAT p e.name e.u2=some t)(h0:t.kind=0):zM Tryz.prog 79 [.ptr d j 0,exV e,.p (.sl 3 (l.map Ty.enc))] S (resT (if eqTs l []=true then .ok (.mk 4 e.name [])else .error 100) e.pos) S:=by
 have sC:=fun t u S=>zCb t u S
 unfold TAt fnT at h
 have pC:=fun L=>zFQ p hp env e.name e.u2 (L::S) (d+1) j h
 have lz:=zYW
 refine zM.bareT (fun t ht=>by
  split at ht
  .cases ht;rfl
  cases ht) ?_
 rw[qf]at pC
 have an:(t.kind !=0)=false:=by simp[h0]
 cases l with
 |nil=>
  rw[zEz rfl,if_pos rfl];refine zM.intro mixed call79 func79 rfl ?_;simp[ntmps79,h20];refine cq ((pC _).call) ?_;simp[payT,h0,an,lz];refine cq (zi _ _ _ _) ?_;simp;refine zBn (fun q:Nat=>q<=0) (fun q=>([.any,.any,.any,.any,.ptr 0 0 0,.any,.ptr 0 1 0,.any,.ptr 0 2 0]++(List.replicate 62 .any++([I 0,I q]++List.replicate 16 .any)))) (fun q=>([.cells [U 20,I e.int,Sg e.name,Sg e.u2,Sg e.place.name,.p (strs e.place.path),.p (.sl 8 (e.args.map Ex.enc)),I e.pos] 43,.cells [U 0,Sg emS,nilS] 36,.cells [U 4,Sg e.name,nilS] 36,.cells [U 0,Sg t.name,.p (.sl 3 (t.args.map Ty.enc))] 36])::S) (fun q=>0-q) 0 (Nat.le_refl _) ?_ ?_ ?_
  .simp
  .simp
  intro q hq
  obtain rfl:q=0:=by omega
  simp[resT,zB8,Ty.kind,Ty.name,Ty.args]
 |cons v l1=>
  rw[zCl (by simp),if_neg (by simp)]
  have hn:¬(0:Int)=(l1.length:Int)+1:=by omega
  have Br:((0:Int)==(l1.length:Int)+1)=false:=by simpa using hn
  refine zM.intro mixed call79 func79 rfl ?_;simp[ntmps79,h20];refine cq ((pC _).call) ?_;simp[payT,h0,an,Br,lz];refine cq (zi _ _ _ _) ?_;simp[resT,zB8,Br]
theorem zYZ(h20:e.op=20)(t:Ty)(qf:zAT p e.name e.u2=some t)(h0:t.kind≠0):zM Tryz.prog 79 [.ptr d j 0,exV e,.p (.sl 3 (l.map Ty.enc))] S (resT (if eqTs l (([⟨emS,t⟩]:List Fi).map Fi.type)=true then .ok (.mk 4 e.name [])else .error 100) e.pos) S:=by
 have sC:=fun t u S=>zCb t u S
 unfold TAt fnT at h
 have pC:=fun L=>zFQ p hp env e.name e.u2 (L::S) (d+1) j h
 refine zM.bareT (fun t ht=>by
  split at ht
  .cases ht;rfl
  cases ht) ?_
 rw[qf]at pC
 have an:(t.kind !=0)=true:=by simpa using h0
 by_cases jd:([⟨emS,t⟩]:List Fi).length=l.length
 .have ll:l.length=1:=by simpa using jd.symm
  obtain⟨x1,rfl⟩:=zMC ll
  refine zM.intro mixed call79 func79 rfl ?_;simp[ntmps79,h20];refine cq ((pC _).call) ?_;simp[payT,an];refine cq (zi _ _ _ _) ?_;simp;refine zBn (fun q:Nat=>q<=1/\(q=1->x1=t)) (fun q=>([.any,.any,.any,.any,.ptr 0 0 0,.any,.ptr 0 1 0,.osl 4 [[pS emS,pU t.kind,pS t.name,.sl 3 (t.args.map Ty.enc)]] 0 4,.ptr 0 2 0]++(List.replicate 61 .any++([.p (.sl 3 [x1.enc]),I 1,I q]++List.replicate 16 .any)))) (fun q=>([.cells [U 20,I e.int,Sg e.name,Sg e.u2,Sg e.place.name,.p (strs e.place.path),.p (.sl 8 (e.args.map Ex.enc)),I e.pos] 43,.cells [U 0,Sg emS,nilS] 36,.cells [U 4,Sg e.name,nilS] 36,.cells [U t.kind,Sg t.name,.p (.sl 3 (t.args.map Ty.enc))] 36,.tok 60 4 1])::S) (fun q=>1-q) 0 ⟨by omega,by omega⟩ ?_ ?_ ?_
  .simp
  .simp
  rintro q ⟨hq,hx⟩
  by_cases ng:q=0
  .subst ng
   cases Xb:eqT x1 t with
   |true=>
    simp[zc];refine zW (dB [(8,6)] (by kernel_rfl) ?_)
    simp;refine cq (sC _ _ _) ?_;rw[Xb];simp;refine cq ((zi _ _ _ _).det) ?_;simp
    exact⟨1,⟨by omega,fun _=>(zDn x1 t).1 Xb⟩,by omega,by decide⟩
   |false=>
    have hne:x1≠t:=fun h=>by rw[(zDn x1 t).2 h]at Xb;cases Xb
    rw[zCl (l:=[x1]) (m:=[t]) (fun h=>hne (by simpa using h))]
    simp[zc];refine z9 9 [9] [(8,6)] (by kernel_rfl) (by kernel_rfl) (by kernel_rfl) ?_
    simp;refine cq (sC _ _ _) ?_;rw[Xb];simp;exact⟨_,_,zi _ _ _ _,by simp[resT,zB8]⟩
  obtain rfl:q=1:=by omega
  rw[hx rfl,zEz (l:=[t]) (m:=[t]) rfl]
  simp[resT,zB8,Ty.kind,Ty.name,Ty.args]
 have ll:¬l.length=1:=fun h=>jd (by simpa using h.symm)
 have Pf:((1:Int)==(l.length:Int))=false:=by simp;omega
 have Qf:¬1=l.length:=fun h=>ll h.symm
 rw[zNK jd,if_neg (by simp)]
 refine zM.intro mixed call79 func79 rfl ?_;simp[ntmps79,h20];refine cq ((pC _).call) ?_;simp[payT,an,Pf,Qf];refine cq (zi _ _ _ _) ?_;simp[resT,zB8,Pf,Qf]
theorem zVh(hop:e.op=18\/e.op=19\/e.op=20):zM Tryz.prog 79 [.ptr d j 0,exV e,.p (.sl 3 (l.map Ty.enc))] S (resT (zHC p e.op e.name e.u2 l) e.pos) S:=by
 unfold zHC zIW
 rcases hop with ph|h19|h20
 .simp only[if_pos ph]
  have e1:(p.find? fun x=>(x.kind==3)&&sEq x.name e.name)=p.find? (isK 3 e.name):=rfl
  rw[e1]
  cases hx:p.find? (isK 3 e.name)with
  |none=>
   simp only[Bool.false_and,Bool.false_eq_true,if_false]
   exact zav p hp env e l dg S d j h ph hx
  |some x=>
   simp only[Bool.true_and];exact zau p hp env e l dg S d j h ph x hx
 .simp only[if_neg (show ¬e.op=18 by omega),if_pos h19]
  exact zVg p hp env e l dg S d j h h19
 have h19:¬e.op=19:=by omega
 simp only[if_neg (show ¬e.op=18 by omega),if_neg h19]
 cases qf:zAT p e.name e.u2 with
 |none=>
  simp only[Bool.false_and,Bool.false_eq_true,if_false]
  exact zYX p hp env e l dg S d j h h20 qf
 |some t=>
  simp only[Bool.true_and]
  by_cases h0:t.kind=0
  .have e2:(if t.kind≠0 then [t]else []:List Ty)=[]:=if_neg (by simp[h0])
   rw[e2];exact zYY p hp env e l dg S d j h h20 t qf h0
  have e2:(if t.kind≠0 then [t]else []:List Ty)=[t]:=if_pos h0
  rw[e2];exact zYZ p hp env e l dg S d j h h20 t qf h0
end
end Go.Proofs.YtdflkegnmmkkoaaGreatDoor
