/- A part of the proof. -/
import Derived.Test.YtdflkegnmmkkoaaGreatDoorXNTh
set_option linter.unusedVariables false
set_option linter.unusedSimpArgs false
set_option maxRecDepth 100000
set_option maxHeartbeats 32000000
namespace Go.Proofs.YtdflkegnmmkkoaaGreatDoor
open Go.RowKit _root_.Go.Proofs.Tryz
attribute [local simp] List.replicate List.range List.range.loop List.forall_mem_cons List.contains_cons List.contains_nil List.find?
attribute [local simp] zAg zy zBB zAh zAI zAi zBC z5 zo zx zAe zBA zAH zAf zAj zAk zBD zBE zCe zAR zAS cutL cutO zBM ThrK
section
variable(p:List It)(hp:PrSm p)(env:List Fi)(he:zA3 env)(hl:env.length<=4000000000)(e:Ex)(l:List Ty)(S:ASt)(d j:Nat)(h:TAt p S d j env)
include hp he hl h
theorem zS4:zM Tryz.prog 83 [.ptr d j 0,exV e,.p (.sl 3 (l.map Ty.enc))] S (resT (zEw p env e.op e.place l) e.pos) S:=by
 have pC:=fun L=>zGN p hp env he hl e.place (L::S) (d+1) j h
 have cC:=fun t S=>zSa t S
 have wC:=fun k t S=>zFv k t S
 unfold zEw
 cases Ma:zAz p env e.place with
 |none=>
  rw[Ma]at pC;simp only;refine zM.intro mixed call83 func83 rfl ?_;simp[ntmps83];refine cq ((pC _).call) ?_;simp[zBv];refine cq (zf _ _ _ _) ?_
  simp[resT]
 |some r=>
  obtain⟨t,w⟩:=r
  rw[Ma]at pC;simp only
  by_cases h4:e.op=4
  .rw[if_pos h4]
   cases hc:copT t with
   |true=>
    have bg:t.copied=true:=hc
    rw[if_pos (by simp)]
    refine zM.intro mixed call83 func83 rfl ?_;simp[ntmps83];refine cq ((pC _).call) ?_;simp[zBv];refine cq (zf _ _ _ _) ?_;simp[h4];refine zX (dB [(10,1)] (by kernel_rfl) ?_)
    simp;refine cq (cC _ _) ?_;rw[bg];simp;refine cq ((zf _ _ _ _).det) ?_
    simp[resT]
   |false=>
    have bg:t.copied=false:=hc
    by_cases Og:e.place.path.length=0
    .rw[if_pos (.inr Og)]
     have Wk:e.place.path=[]:=List.eq_nil_of_length_eq_zero Og
     refine zM.intro mixed call83 func83 rfl ?_;simp[ntmps83];refine cq ((pC _).call) ?_;simp[zBv];refine cq (zf _ _ _ _) ?_;simp[h4];refine zX (dB [(10,1)] (by kernel_rfl) ?_)
     simp;refine cq (cC _ _) ?_;rw[bg];simp[Wk,strs];refine cq ((zf _ _ _ _).det) ?_;simp[resT]
    rw[if_neg (by simp[Og])]
    have Wk:¬(e.place.path.length:Int)=0:=by omega
    have Mp:e.place.path≠ []:=fun h=>Og (by rw[h];rfl)
    refine zM.intro mixed call83 func83 rfl ?_;simp[ntmps83];refine cq ((pC _).call) ?_;simp[zBv];refine cq (zf _ _ _ _) ?_;simp[h4];refine z9 11 [11] [(10,1)] (by kernel_rfl) (by kernel_rfl) (by kernel_rfl) ?_
    simp;refine cq (cC _ _) ?_;rw[bg];simp[Og,Wk,Mp,strs];exact⟨_,_,zf _ _ _ _,by simp[resT]⟩
  have e4:(e.op==4)=false:=by simpa using h4
  rw[if_neg h4]
  by_cases h5:e.op=5
  .rw[if_pos h5]
   refine zM.intro mixed call83 func83 rfl ?_;simp[ntmps83];refine cq ((pC _).call) ?_;simp[zBv];refine cq (zf _ _ _ _) ?_;simp[h5];refine cq ((wC _ _ _).call) ?_;simp[resT]
  have e5:(e.op==5)=false:=by simpa using h5
  rw[if_neg h5]
  by_cases h6:e.op=6
  .rw[if_pos h6]
   cases w with
   |true=>
    rw[if_pos rfl];refine zM.intro mixed call83 func83 rfl ?_;simp[ntmps83];refine cq ((pC _).call) ?_;simp[zBv];refine cq (zf _ _ _ _) ?_;simp[h6];refine cq (zf _ _ _ _) ?_;simp;refine cq ((wC _ _ _).call) ?_
    simp[resT]
   |false=>
    rw[if_neg (by simp)]
    refine zM.intro mixed call83 func83 rfl ?_;simp[ntmps83];refine cq ((pC _).call) ?_;simp[zBv];refine cq (zf _ _ _ _) ?_;simp[h6];refine cq (zf _ _ _ _) ?_;simp[resT]
  have e6:(e.op==6)=false:=by simpa using h6
  rw[if_neg h6]
  by_cases mh:e.op=28
  .rw[if_pos mh]
   by_cases k7:t.kind=7
   .rw[if_pos (by omega)]
    refine zM.intro mixed call83 func83 rfl ?_;simp[ntmps83];refine cq ((pC _).call) ?_;simp[zBv];refine cq (zf _ _ _ _) ?_;simp[mh,k7];refine cq (zf _ _ _ _) ?_;simp[resT,k7]
   by_cases k8:t.kind=8
   .rw[if_pos (by omega)]
    refine zM.intro mixed call83 func83 rfl ?_;simp[ntmps83];refine cq ((pC _).call) ?_;simp[zBv];refine cq (zf _ _ _ _) ?_;simp[mh,k8];refine cq (zf _ _ _ _) ?_;simp[resT,k8]
   by_cases Np:t.kind=11
   .rw[if_pos (by omega)]
    refine zM.intro mixed call83 func83 rfl ?_;simp[ntmps83];refine cq ((pC _).call) ?_;simp[zBv];refine cq (zf _ _ _ _) ?_;simp[mh,Np];refine cq (zf _ _ _ _) ?_;simp[resT,Np]
   by_cases Pp:t.kind=12
   .rw[if_pos (by omega)]
    refine zM.intro mixed call83 func83 rfl ?_;simp[ntmps83];refine cq ((pC _).call) ?_;simp[zBv];refine cq (zf _ _ _ _) ?_;simp[mh,Pp];refine cq (zf _ _ _ _) ?_;simp[resT,Pp]
   have f7:(t.kind==7)=false:=by simpa using k7
   have f8:(t.kind==8)=false:=by simpa using k8
   have Qp:(t.kind==11)=false:=by simpa using Np
   have Rp:(t.kind==12)=false:=by simpa using Pp
   rw[if_neg (by omega)]
   refine zM.intro mixed call83 func83 rfl ?_;simp[ntmps83];refine cq ((pC _).call) ?_;simp[zBv];refine cq (zf _ _ _ _) ?_;simp[mh,f7,f8,Qp,Rp];refine cq (zf _ _ _ _) ?_;simp[resT]
  have ul:(e.op==28)=false:=by simpa using mh
  rw[if_neg mh]
  by_cases ni:t.kind=10
  .cases l with
   |nil=>
    rw[if_pos (by simp[ni])]
    by_cases oi:e.op=33
    .rw[if_pos oi]
     refine zM.bare (t:=zAE 3) rfl ?_
     refine zM.intro mixed call83 func83 rfl ?_;simp[ntmps83];refine cq ((pC _).call) ?_;simp[zBv];refine cq (zf _ _ _ _) ?_;simp[e4,e5,e6,ul];refine zX (dB [] (by kernel_rfl) ?_)
     simp[ni];refine cq ((zf _ _ _ _).det) ?_;simp[oi,zAE,Ty.kind,Ty.name,Ty.args]
    rw[if_neg oi]
    have Sp:(e.op==33)=false:=by simpa using oi
    refine zM.bare (t:=zAE 1) rfl ?_
    refine zM.intro mixed call83 func83 rfl ?_;simp[ntmps83];refine cq ((pC _).call) ?_;simp[zBv];refine cq (zf _ _ _ _) ?_;simp[e4,e5,e6,ul];refine zX (dB [] (by kernel_rfl) ?_)
    simp[ni];refine cq ((zf _ _ _ _).det) ?_
    simp[oi,Sp,zAE,Ty.kind,Ty.name,Ty.args]
   |cons v l1=>
    have hn:¬((l1.length:Int)+1)=0:=by omega
    by_cases k1:v.kind=1
    .rw[if_pos (by simp[ni,k1])]
     by_cases oi:e.op=33
     .rw[if_pos oi]
      refine zM.bare (t:=zAE 3) rfl ?_
      refine zM.intro mixed call83 func83 rfl ?_;simp[ntmps83];refine cq ((pC _).call) ?_;simp[zBv];refine cq (zf _ _ _ _) ?_;simp[e4,e5,e6,ul];refine zX (dB [] (by kernel_rfl) ?_)
      simp[ni,k1,hn,zd];refine cq ((zf _ _ _ _).det) ?_;simp[oi,zAE,Ty.kind,Ty.name,Ty.args]
     rw[if_neg oi]
     have Sp:(e.op==33)=false:=by simpa using oi
     refine zM.bare (t:=zAE 1) rfl ?_
     refine zM.intro mixed call83 func83 rfl ?_;simp[ntmps83];refine cq ((pC _).call) ?_;simp[zBv];refine cq (zf _ _ _ _) ?_;simp[e4,e5,e6,ul];refine zX (dB [] (by kernel_rfl) ?_)
     simp[ni,k1,hn,zd];refine cq ((zf _ _ _ _).det) ?_;simp[oi,Sp,zAE,Ty.kind,Ty.name,Ty.args]
    rw[if_neg (by simp[k1])]
    have f1:(v.kind==1)=false:=by simpa using k1
    refine zM.intro mixed call83 func83 rfl ?_;simp[ntmps83];refine cq ((pC _).call) ?_;simp[zBv];refine cq (zf _ _ _ _) ?_;simp[e4,e5,e6,ul];refine z9 17 [17] [] (by kernel_rfl) (by kernel_rfl) (by kernel_rfl) ?_
    simp[ni,f1,hn,zd];exact⟨_,_,zf _ _ _ _,by simp[resT]⟩
  rw[if_neg (by simp[ni])]
  have Tp:(t.kind==10)=false:=by simpa using ni
  refine zM.intro mixed call83 func83 rfl ?_;simp[ntmps83];refine cq ((pC _).call) ?_;simp[zBv];refine cq (zf _ _ _ _) ?_;simp[e4,e5,e6,ul];refine z9 17 [17] [] (by kernel_rfl) (by kernel_rfl) (by kernel_rfl) ?_
  simp[Tp];exact⟨_,_,zf _ _ _ _,by simp[resT]⟩
end
end Go.Proofs.YtdflkegnmmkkoaaGreatDoor
namespace Go.Proofs.YtdflkegnmmkkoaaGreatDoor
open Go.RowKit _root_.Go.Proofs.Tryz
attribute [local simp] List.replicate List.range List.range.loop List.forall_mem_cons List.contains_cons List.contains_nil List.find?
attribute [local simp] zAg zy zBB zAh zAI zAi zBC z5 zo zx zAe zBA zAH zAf zAj zAk zBD zBE zCe zAR zAS cutL cutO zBM ThrK
theorem zNE{l:List Ty}{fs:List Fi}(h:¬fs.length=l.length):eqTs l (fs.map Fi.type)=false:=zCt fun e=>h (by rw[e];simp)
theorem zY3(dst:Option Tmp)(x:Operand)(ty:TypeId)(pos:String)(after:Array Edge)(guard:Option (Nat × Bool))(fr:List AV)(hx:evA fr x=nilS):genP Tryz.prog ⟨dst,.call ⟨.builtin .len,#[x],#[33]⟩,ty,pos,after,guard⟩ fr=some (I 0):=by
 have v1:zAu (evA fr x)=some (.slice none 0 0):=by rw[hx];rfl
 have h1:(zGh (.call ⟨.builtin .len,#[x],#[33]⟩)&&zN fr (Op.operands (.call ⟨.builtin .len,#[x],#[33]⟩)).toList)=true:=by
  show(true&&zN fr [x])=true
  rw[Bool.true_and,zN,zN,v1];rfl
 have h2:zJ Tryz.prog (execOp (fun z=>(zAu (evA fr z)).getD undef) ⟨dst,.call ⟨.builtin .len,#[x],#[33]⟩,ty,pos,after,guard⟩)=some (.value (.int .i64 0)):=by
  have e1:(zAu (evA fr x)).getD undef= .slice none 0 0:=by rw[v1];rfl
  unfold execOp;simp only[resolve,invoke,builtin,List.map_toArray,List.map_cons,List.map_nil,e1];rfl
 unfold genP;simp only;rw[if_pos h1,h2];rfl
section
variable(p:List It)(hp:PrSm p)(env:List Fi)(e:Ex)(l:List Ty)(mf:l.length<=maxLen)(S:ASt)(d j:Nat)(h:TAt p S d j env)
include hp mf h
theorem zbU(Tf:e.op=18)(x:It)(hx:p.find? (isK 3 e.name)=some x):zM Tryz.prog 79 [.ptr d j 0,exV e,.p (.sl 3 (l.map Ty.enc))] S (resT (if eqTs l (x.fields.map Fi.type)=true then .ok x.result else .error 100) e.pos) S:=by
 have sC:=fun t u S=>zDQ t u S
 unfold TAt fnT at h
 have fC:=fun S=>zW0 p hp 3 e.name S
 unfold nfR at fC;rw[hx]at fC;simp only[prog]at fC h
 by_cases Nc:x.fields.length=l.length
 .have yg:(x.fields.length:Int)=(l.length:Int):=by omega
  refine zM.intro mixed call79 func79 rfl ?_;simp[ntmps79,Tf];refine zX (dB [] (by kernel_rfl) ?_)
  simp[h];refine cq (fC _) ?_;simp;refine zX (dB [] (by kernel_rfl) ?_)
  simp[Nc,yg];refine cq (zf _ _ _ _) ?_;simp;refine zBq (fun q:Nat=>q<=l.length/\∀i (h:i<l.length) (h':i<(x.fields).length),i<q->l[i]=(x.fields)[i].type) (fun q=>([.any,.any,.any,.any,.ptr 0 0 0,.any,.ptr 0 1 0,.p (.sl 4 (x.fields.map Fi.enc)),.ptr 0 2 0]++(List.replicate 61 .any++([.p (.sl 3 (l.map Ty.enc)),I l.length,I q]++List.replicate 16 .any)))) (fun q=>([.cells [U 18,I e.int,Sg e.name,Sg e.u2,Sg e.place.name,.p (strs e.place.path),.p (.sl 8 (e.args.map Ex.enc)),I e.pos] 43,.cells [U 0,Sg emS,nilS] 36,.cells [U x.result.kind,Sg x.result.name,.p (.sl 3 (x.result.args.map Ty.enc))] 36,.cells (itU x) 45])::S) (fun q=>l.length-q) 0 ⟨Nat.zero_le _,fun i h h' hi=>by omega⟩ ?_ ?_ ?_
  .simp[Fi.enc,zd]
  .simp[Fi.enc,zd]
  rintro q ⟨hq,ia⟩
  by_cases hlt:q<l.length
  .have aa:(q:Int)<(l.length:Int):=by omega
   have Za:q<(x.fields).length:=by omega
   have hw:=zB hlt
   have Xa:l[q]=(x.fields)[q].type->∀i (h:i<l.length) (h':i<(x.fields).length),i<q+1->l[i]=(x.fields)[i].type:=fun he i h h' hi=>by
    by_cases Mg:i=q
    .subst Mg;exact he
    exact ia i h h' (by omega)
   have hne:l[q]≠(x.fields)[q].type->eqTs l ((x.fields).map Fi.type)=false:=fun he=>zCt fun Zj=>he (by
    simp[Zj])
   have heq:=zFr l[q] (x.fields)[q].type
   generalize yf:l[q]=x1 at*
   generalize Xg:(x.fields)[q]=f1 at*
   cases Ub:eqT x1 f1.type with
   |true=>
    simp[hlt,aa,Za,yf,Xg,zd];refine zX (dB [(8,6)] (by kernel_rfl) ?_)
    simp[hlt,aa,Za,yf,Xg,Fi.enc,zd];refine cq (sC _ _ _) ?_;rw[Ub];simp;refine cq ((zf _ _ _ _).det) ?_;simp
    exact⟨q+1,⟨by omega,Xa (heq.1 Ub)⟩,by omega,hw⟩
   |false=>
    rw[hne fun h=>by rw[heq.2 h]at Ub;cases Ub]
    simp[hlt,aa,Za,yf,Xg,zd];refine z9 9 [9] [(8,6)] (by kernel_rfl) (by kernel_rfl) (by kernel_rfl) ?_
    simp[hlt,aa,Za,yf,Xg,Fi.enc,zd];refine cq (sC _ _ _) ?_;rw[Ub];simp;exact⟨_,_,zf _ _ _ _,by simp[resT,zCE]⟩
  have aa:¬(q:Int)<(l.length:Int):=by omega
  rw[zE1 (m:=(x.fields).map Fi.type) (List.ext_getElem (by simp;omega) fun i h h'=>by
   rw[List.getElem_map];exact ia i h _ (by omega))]
  simp[aa,resT,zCE]
 have yg:¬(x.fields.length:Int)=(l.length:Int):=by omega
 have Ff:((x.fields.length:Int)==(l.length:Int))=false:=by simpa using yg
 have Gf:(x.fields.length==l.length)=false:=by simpa using Nc
 rw[zNE Nc,if_neg (by simp)]
 refine zM.intro mixed call79 func79 rfl ?_;simp[ntmps79,Tf];refine zX (dB [] (by kernel_rfl) ?_)
 simp[h];refine cq (fC _) ?_;simp;refine zX (dB [] (by kernel_rfl) ?_)
 simp[Ff,Gf,Nc];refine cq (zf _ _ _ _) ?_;simp[resT,zCE,Ff,Gf,Nc]
theorem zbV(Tf:e.op=18)(hx:p.find? (isK 3 e.name)=none):zM Tryz.prog 79 [.ptr d j 0,exV e,.p (.sl 3 (l.map Ty.enc))] S (resT (.error 100) e.pos) S:=by
 have _:=mf;have sC:=fun t u S=>zDQ t u S
 unfold TAt fnT at h
 have fC:=fun S=>zW0 p hp 3 e.name S
 unfold nfR at fC;rw[hx]at fC;simp only[prog]at fC h;refine zM.intro mixed call79 func79 rfl ?_;simp[ntmps79,Tf];refine zX (dB [] (by kernel_rfl) ?_)
 simp[h];refine cq (fC _) ?_;simp;refine zX (dB [] (by kernel_rfl) ?_)
 simp;refine cq (zf _ _ _ _) ?_;simp[resT,zCE]
theorem zWB(h19:e.op=19):zM Tryz.prog 79 [.ptr d j 0,exV e,.p (.sl 3 (l.map Ty.enc))] S (resT (if((zBG p 1 e.name).2&&eqTs l ((zBG p 1 e.name).1.map Fi.type))=true then .ok (.mk 4 e.name [])else .error 100) e.pos) S:=by
 have sC:=fun t u S=>zDQ t u S
 unfold TAt fnT at h
 have fC:=fun L=>zOa p hp env 1 e.name (L::S) (d+1) j h
 refine zM.bareT (fun t ht=>by
  split at ht
  .cases ht;rfl
  cases ht) ?_
 generalize (zBG p 1 e.name).1=fs at*
 generalize (zBG p 1 e.name).2=b at*
 cases b with
 |false=>
  rw[Bool.false_and,if_neg (by simp)]
  refine zM.intro mixed call79 func79 rfl ?_;simp[ntmps79,h19];refine cq ((fC _).call) ?_;simp;refine cq (zf _ _ _ _) ?_
  simp[resT,zCE]
 |true=>
 rw[Bool.true_and]
 by_cases Nc:fs.length=l.length
 .have yg:(fs.length:Int)=(l.length:Int):=by omega
  refine zM.intro mixed call79 func79 rfl ?_;simp[ntmps79,h19];refine cq ((fC _).call) ?_;simp[Nc,yg];refine cq (zf _ _ _ _) ?_;simp;refine zBq (fun q:Nat=>q<=l.length/\∀i (h:i<l.length) (h':i<(fs).length),i<q->l[i]=(fs)[i].type) (fun q=>([.any,.any,.any,.any,.ptr 0 0 0,.any,.ptr 0 1 0,.p (.sl 4 (fs.map Fi.enc)),.ptr 0 2 0]++(List.replicate 61 .any++([.p (.sl 3 (l.map Ty.enc)),I l.length,I q]++List.replicate 16 .any)))) (fun q=>([.cells [U 19,I e.int,Sg e.name,Sg e.u2,Sg e.place.name,.p (strs e.place.path),.p (.sl 8 (e.args.map Ex.enc)),I e.pos] 43,.cells [U 0,Sg emS,nilS] 36,.cells [U 4,Sg e.name,nilS] 36])::S) (fun q=>l.length-q) 0 ⟨Nat.zero_le _,fun i h h' hi=>by omega⟩ ?_ ?_ ?_
  .simp[Fi.enc,zd]
  .simp[Fi.enc,zd]
  rintro q ⟨hq,ia⟩
  by_cases hlt:q<l.length
  .have aa:(q:Int)<(l.length:Int):=by omega
   have Za:q<(fs).length:=by omega
   have hw:=zB hlt
   have Xa:l[q]=(fs)[q].type->∀i (h:i<l.length) (h':i<(fs).length),i<q+1->l[i]=(fs)[i].type:=fun he i h h' hi=>by
    by_cases Mg:i=q
    .subst Mg;exact he
    exact ia i h h' (by omega)
   have hne:l[q]≠(fs)[q].type->eqTs l ((fs).map Fi.type)=false:=fun he=>zCt fun Zj=>he (by
    simp[Zj])
   have heq:=zFr l[q] (fs)[q].type
   generalize yf:l[q]=x1 at*
   generalize Xg:(fs)[q]=f1 at*
   cases Ub:eqT x1 f1.type with
   |true=>
    simp[hlt,aa,Za,yf,Xg,zd];refine zX (dB [(8,6)] (by kernel_rfl) ?_)
    simp[hlt,aa,Za,yf,Xg,Fi.enc,zd];refine cq (sC _ _ _) ?_;rw[Ub];simp;refine cq ((zf _ _ _ _).det) ?_;simp
    exact⟨q+1,⟨by omega,Xa (heq.1 Ub)⟩,by omega,hw⟩
   |false=>
    rw[hne fun h=>by rw[heq.2 h]at Ub;cases Ub]
    simp[hlt,aa,Za,yf,Xg,zd];refine z9 9 [9] [(8,6)] (by kernel_rfl) (by kernel_rfl) (by kernel_rfl) ?_
    simp[hlt,aa,Za,yf,Xg,Fi.enc,zd];refine cq (sC _ _ _) ?_;rw[Ub];simp;exact⟨_,_,zf _ _ _ _,by simp[resT,zCE]⟩
  have aa:¬(q:Int)<(l.length:Int):=by omega
  rw[zE1 (m:=(fs).map Fi.type) (List.ext_getElem (by simp;omega) fun i h h'=>by
   rw[List.getElem_map];exact ia i h _ (by omega))]
  simp[aa,resT,zCE,Ty.kind,Ty.name,Ty.args]
 have yg:¬(fs.length:Int)=(l.length:Int):=by omega
 have Ff:((fs.length:Int)==(l.length:Int))=false:=by simpa using yg
 have Gf:(fs.length==l.length)=false:=by simpa using Nc
 rw[zNE Nc,if_neg (by simp)]
 refine zM.intro mixed call79 func79 rfl ?_;simp[ntmps79,h19];refine cq ((fC _).call) ?_;simp[Ff,Gf,Nc];refine cq (zf _ _ _ _) ?_;simp[resT,zCE,Ff,Gf,Nc]
theorem zY4(h20:e.op=20)(ed:zh p e.name e.u2=none):zM Tryz.prog 79 [.ptr d j 0,exV e,.p (.sl 3 (l.map Ty.enc))] S (resT (.error 100) e.pos) S:=by
 have _:=mf;have sC:=fun t u S=>zDQ t u S
 unfold TAt fnT at h
 have pC:=fun L=>zFP p hp env e.name e.u2 (L::S) (d+1) j h
 rw[ed]at pC;refine zM.intro mixed call79 func79 rfl ?_;simp[ntmps79,h20];refine cq ((pC _).call) ?_;simp[payT];refine cq (zf _ _ _ _) ?_;simp[resT,zCE]
theorem zY5(h20:e.op=20)(t:Ty)(ed:zh p e.name e.u2=some t)(h0:t.kind=0):zM Tryz.prog 79 [.ptr d j 0,exV e,.p (.sl 3 (l.map Ty.enc))] S (resT (if eqTs l []=true then .ok (.mk 4 e.name [])else .error 100) e.pos) S:=by
 have sC:=fun t u S=>zDQ t u S
 unfold TAt fnT at h
 have pC:=fun L=>zFP p hp env e.name e.u2 (L::S) (d+1) j h
 have lz:=zY3
 refine zM.bareT (fun t ht=>by
  split at ht
  .cases ht;rfl
  cases ht) ?_
 rw[ed]at pC
 have Om:(t.kind !=0)=false:=by simp[h0]
 cases l with
 |nil=>
  rw[zE1 rfl,if_pos rfl];refine zM.intro mixed call79 func79 rfl ?_;simp[ntmps79,h20];refine cq ((pC _).call) ?_;simp[payT,h0,Om,lz];refine cq (zf _ _ _ _) ?_;simp;refine zBq (fun q:Nat=>q<=0) (fun q=>([.any,.any,.any,.any,.ptr 0 0 0,.any,.ptr 0 1 0,.any,.ptr 0 2 0]++(List.replicate 62 .any++([I 0,I q]++List.replicate 16 .any)))) (fun q=>([.cells [U 20,I e.int,Sg e.name,Sg e.u2,Sg e.place.name,.p (strs e.place.path),.p (.sl 8 (e.args.map Ex.enc)),I e.pos] 43,.cells [U 0,Sg emS,nilS] 36,.cells [U 4,Sg e.name,nilS] 36,.cells [U 0,Sg t.name,.p (.sl 3 (t.args.map Ty.enc))] 36])::S) (fun q=>0-q) 0 (Nat.le_refl _) ?_ ?_ ?_
  .simp
  .simp
  intro q hq
  obtain rfl:q=0:=by omega
  simp[resT,zCE,Ty.kind,Ty.name,Ty.args]
 |cons v l1=>
  rw[zCt (by simp),if_neg (by simp)]
  have hn:¬(0:Int)=(l1.length:Int)+1:=by omega
  have vr:((0:Int)==(l1.length:Int)+1)=false:=by simpa using hn
  refine zM.intro mixed call79 func79 rfl ?_;simp[ntmps79,h20];refine cq ((pC _).call) ?_;simp[payT,h0,Om,vr,lz];refine cq (zf _ _ _ _) ?_;simp[resT,zCE,vr]
theorem zY6(h20:e.op=20)(t:Ty)(ed:zh p e.name e.u2=some t)(h0:t.kind≠0):zM Tryz.prog 79 [.ptr d j 0,exV e,.p (.sl 3 (l.map Ty.enc))] S (resT (if eqTs l (([⟨emS,t⟩]:List Fi).map Fi.type)=true then .ok (.mk 4 e.name [])else .error 100) e.pos) S:=by
 have sC:=fun t u S=>zDQ t u S
 unfold TAt fnT at h
 have pC:=fun L=>zFP p hp env e.name e.u2 (L::S) (d+1) j h
 refine zM.bareT (fun t ht=>by
  split at ht
  .cases ht;rfl
  cases ht) ?_
 rw[ed]at pC
 have Om:(t.kind !=0)=true:=by simpa using h0
 by_cases Nc:([⟨emS,t⟩]:List Fi).length=l.length
 .have Xk:l.length=1:=by simpa using Nc.symm
  obtain⟨x1,rfl⟩:=zL4 Xk
  refine zM.intro mixed call79 func79 rfl ?_;simp[ntmps79,h20];refine cq ((pC _).call) ?_;simp[payT,Om];refine cq (zf _ _ _ _) ?_;simp;refine zBq (fun q:Nat=>q<=1/\(q=1->x1=t)) (fun q=>([.any,.any,.any,.any,.ptr 0 0 0,.any,.ptr 0 1 0,.osl 4 [[pS emS,pU t.kind,pS t.name,.sl 3 (t.args.map Ty.enc)]] 0 4,.ptr 0 2 0]++(List.replicate 61 .any++([.p (.sl 3 [x1.enc]),I 1,I q]++List.replicate 16 .any)))) (fun q=>([.cells [U 20,I e.int,Sg e.name,Sg e.u2,Sg e.place.name,.p (strs e.place.path),.p (.sl 8 (e.args.map Ex.enc)),I e.pos] 43,.cells [U 0,Sg emS,nilS] 36,.cells [U 4,Sg e.name,nilS] 36,.cells [U t.kind,Sg t.name,.p (.sl 3 (t.args.map Ty.enc))] 36,.tok 60 4 1])::S) (fun q=>1-q) 0 ⟨by omega,by omega⟩ ?_ ?_ ?_
  .simp
  .simp
  rintro q ⟨hq,hx⟩
  by_cases Si:q=0
  .subst Si
   cases Ub:eqT x1 t with
   |true=>
    simp[zd];refine zX (dB [(8,6)] (by kernel_rfl) ?_)
    simp;refine cq (sC _ _ _) ?_;rw[Ub];simp;refine cq ((zf _ _ _ _).det) ?_;simp
    exact⟨1,⟨by omega,fun _=>(zFr x1 t).1 Ub⟩,by omega,by decide⟩
   |false=>
    have hne:x1≠t:=fun h=>by rw[(zFr x1 t).2 h]at Ub;cases Ub
    rw[zCt (l:=[x1]) (m:=[t]) (fun h=>hne (by simpa using h))]
    simp[zd];refine z9 9 [9] [(8,6)] (by kernel_rfl) (by kernel_rfl) (by kernel_rfl) ?_
    simp;refine cq (sC _ _ _) ?_;rw[Ub];simp;exact⟨_,_,zf _ _ _ _,by simp[resT,zCE]⟩
  obtain rfl:q=1:=by omega
  rw[hx rfl,zE1 (l:=[t]) (m:=[t]) rfl]
  simp[resT,zCE,Ty.kind,Ty.name,Ty.args]
 have Xk:¬l.length=1:=fun h=>Nc (by simpa using h.symm)
 have Ff:((1:Int)==(l.length:Int))=false:=by simp;omega
 have Gf:¬1=l.length:=fun h=>Xk h.symm
 rw[zNE Nc,if_neg (by simp)]
 refine zM.intro mixed call79 func79 rfl ?_;simp[ntmps79,h20];refine cq ((pC _).call) ?_;simp[payT,Om,Ff,Gf];refine cq (zf _ _ _ _) ?_;simp[resT,zCE,Ff,Gf]
theorem zWC(hop:e.op=18\/e.op=19\/e.op=20):zM Tryz.prog 79 [.ptr d j 0,exV e,.p (.sl 3 (l.map Ty.enc))] S (resT (zHE p e.op e.name e.u2 l) e.pos) S:=by
 unfold zHE zGr
 rcases hop with Tf|h19|h20
 .simp only[if_pos Tf]
  have e1:(p.find? fun x=>(x.kind==3)&&sEq x.name e.name)=p.find? (isK 3 e.name):=rfl
  rw[e1]
  cases hx:p.find? (isK 3 e.name)with
  |none=>
   simp only[Bool.false_and,Bool.false_eq_true,if_false]
   exact zbV p hp env e l mf S d j h Tf hx
  |some x=>
   simp only[Bool.true_and];exact zbU p hp env e l mf S d j h Tf x hx
 .simp only[if_neg (show ¬e.op=18 by omega),if_pos h19]
  exact zWB p hp env e l mf S d j h h19
 have h19:¬e.op=19:=by omega
 simp only[if_neg (show ¬e.op=18 by omega),if_neg h19]
 cases ed:zh p e.name e.u2 with
 |none=>
  simp only[Bool.false_and,Bool.false_eq_true,if_false]
  exact zY4 p hp env e l mf S d j h h20 ed
 |some t=>
  simp only[Bool.true_and]
  by_cases h0:t.kind=0
  .have e2:(if t.kind≠0 then [t]else []:List Ty)=[]:=if_neg (by simp[h0])
   rw[e2];exact zY5 p hp env e l mf S d j h h20 t ed h0
  have e2:(if t.kind≠0 then [t]else []:List Ty)=[t]:=if_pos h0
  rw[e2];exact zY6 p hp env e l mf S d j h h20 t ed h0
end
end Go.Proofs.YtdflkegnmmkkoaaGreatDoor
