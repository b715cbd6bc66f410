/- A part of the proof. -/
import Derived.Test.YtdflkegnmmkkoaaGreatDoorXNRb
import Derived.Test.YtdflkegnmmkkoaaGreatDoorXNQk
set_option linter.unusedVariables false
set_option linter.unusedSimpArgs false
set_option maxRecDepth 100000
set_option maxHeartbeats 32000000
namespace Go.Proofs.YtdflkegnmmkkoaaGreatDoor
open Go.RowKit _root_.Go.Proofs.Tryz
variable{p:List It}
def zAD(p:List It)(nm:BA):Option (List Fi):=
 match zK p nm with
 |some x=>if x.kind=1\/x.kind=2 then some x.fields else none
 |none=>none
def zBP(p:List It)(nm:BA):Option (List Fi):=
 match zK p nm with
 |some x=>if x.kind=1 then some x.fields else none
 |none=>none
def zFq(l:List Fi)(s:BA):Option (Ty × Bool):=(l.find? fun f=>sEq f.name s).map fun f=>(f.type,false)
def ptrT(Mk:Bool)(t:Ty)(s:BA):Option (Ty × Bool):=
 if sEq s zGB=true then(t.args.head?).map fun u=>(u,Mk)else none
def zDn(p:List It)(t:Ty)(s:BA):Option (Ty × Bool):=
 if t.kind=4 then zFq ((zBP p t.name).getD []) s
 else if t.kind=7\/t.kind=8\/t.kind=13 then ptrT true t s
 else if t.kind=5\/t.kind=14 then ptrT false t s
 else none
def walkF(p:List It):List BA->Ty->Bool->Option (Ty × Bool)
 | [],t,w=>some (t,w)
 |s::l,t,w=>
  match zDn p t s with
  |none=>none
  |some (u,c)=>walkF p l u (w&& !c)
def zIX(p:List It)(t:Ty)(l:List BA):Option (Ty × Bool):=if t.whole 40=true then walkF p l t true else none
theorem zKe(h:PrSm p){nm:BA}{x:It}(hx:zK p nm=some x):ItSm x:=h.2 x (List.mem_of_find?_eq_some hx)
theorem zJl(h:PrSm p)(nm:BA):zPH ((zBP p nm).getD []):=by
 unfold zBP
 cases hx:zK p nm with
 |none=>exact⟨by simp,by simp⟩
 |some x=>
  simp only;split
  .exact(zKe h hx).2.1
  exact⟨by simp,by simp⟩
theorem zSY(h:PrSm p){t:Ty}(ht:TySm t){s:BA}{u:Ty}{c:Bool}(hs:zDn p t s=some (u,c)):TySm u:=by
 have hp:∀b,ptrT b t s=some (u,c)->TySm u:=fun b hb=>by
  unfold ptrT at hb;split at hb
  .obtain⟨v,hv,he⟩:=Option.map_eq_some_iff.1 hb
   cases he
   obtain⟨_,_,_,h4⟩:=ht
   exact h4 _ (List.mem_of_head? hv)
  cases hb
 unfold zDn at hs;split at hs
 .unfold zFq at hs
  obtain⟨f,hf,he⟩:=Option.map_eq_some_iff.1 hs
  cases he;exact((zJl h t.name).2 f (List.mem_of_find?_eq_some hf)).2
 split at hs
 .exact hp _ hs
 split at hs
 .exact hp _ hs
 cases hs
theorem zKf{p:List It}(h:PrSm p):∀{l:List BA} {t:Ty} {w:Bool} {u:Ty} {x:Bool},TySm t->walkF p l t w=some (u,x)->TySm u
 | [],t,w,u,x,ht,hw=>by cases hw;exact ht
 |s::l,t,w,u,x,ht,hw=>by
  unfold walkF at hw
  cases hs:zDn p t s with
  |none=>rw[hs]at hw;cases hw
  |some r=>
   obtain⟨v,c⟩:=r
   rw[hs]at hw;exact zKf h (zSY h ht hs) hw
attribute [local simp] List.replicate List.range List.range.loop
def fiO:Option (List Fi)->AV
 |some l=>.p (.sl 4 (l.map Fi.enc))
 |none=>nilS
theorem zGp(p:List It)(hp:PrSm p)(nm:BA)(S:ASt):ADet Tryz.prog 74 [.agg [.p (prog p)],Sg nm] S (.tup [fiO (zAD p nm),B (zAD p nm).isSome]) S:=by
 have fC:=fun S=>zWy p nm S
 unfold zOL at fC;unfold zAD;refine ADet.intro mixed call74 func74 rfl ?_;simp[ntmps74];refine cq (fC _) ?_
 cases hx:zK p nm with
 |none=>simp[fiO]
 |some x=>
  have cC:=fun S=>zSH [x] ⟨by simp,fun y hy=>by simp at hy;subst hy;exact zKe hp hx⟩ S
  simp only[prog,List.map_cons,List.map_nil,It.enc]at cC
  have tj:=fun(d i:Nat) S=>ADet.sub (.cons (.agg (.cons (.osl (d:=d) (i:=i) (.refl _)) (.refl _))) (.refl _)) (cC S)
  by_cases h1:x.kind=1
  .simp[h1]
   rw[h1]at tj;refine cq (tj _ _ _) ?_;simp[fiO]
  have ue:(x.kind !=1)=true:=by simpa using h1
  by_cases h2:x.kind=2
  .simp[h2]
   rw[h2]at tj;refine cq (tj _ _ _) ?_;simp[fiO]
  have Cg:(x.kind !=2)=true:=by simpa using h2
  simp[h1,h2,ue,Cg,fiO]
theorem zVp(p:List It)(hp:PrSm p)(nm:BA)(S:ASt):ADet Tryz.prog 195 [.agg [.p (prog p)],Sg nm] S (fiO (zBP p nm)) S:=by
 refine ADet.okA call195 0 0 rfl rfl fun na=>?_
 have ca:=okl na
 have fC:=fun S=>zGp p hp nm S
 have iC:∀L:List AObj,get2 (L::S) 0 1=some (.cells [Sg nm] 9)->ADet Tryz.prog 160 [.p (.sl 16 (p.map It.enc)),.fn (.func 210) [] [.ptr 0 1 0]] (L::S) (I (idxI (fun x:It=>(decide (x.kind≠3))&&sEq x.name nm) p)) (L::S):=fun L hL=>
  zOI _ _ _ _ _ fun x hx M=>by
   have hg:get2 (M::L::S) 1 1=some (.cells [Sg nm] 9):=hL
   refine ADet.intro mixed call210 func210 rfl ?_
   by_cases h3:x.kind=3
   .simp[ntmps210,h3]
   have Db:(x.kind !=3)=true:=by simpa using h3
   simp only[zK5]at hg;simp[ntmps210,Db,h3,hL]
 unfold zBP;unfold zAD at fC;refine ADet.intro mixed call195 func195 rfl ?_;simp[ntmps195,prog];refine cq (iC _ rfl) ?_;unfold zK at*
 rcases zOK (fun x:It=>(decide (x.kind≠3))&&sEq x.name nm) p with⟨h1,h2⟩|⟨q,hq,h1,h2⟩
 .rw[h1,h2]
  simp[fiO]
 rw[h1,h2]
 rw[h1]at fC
 have Rj:(q:Int)<(p.length:Int):=by omega
 have Pa:¬(q:Int)<0:=by omega
 simp only[prog]at fC
 generalize lr:p[q]=x at*
 by_cases hk:x.kind=1
 .simp only[hk,true_or,if_true,Option.isSome_some]at fC
  simp[hq,Rj,Pa,It.enc,lr,hk];refine cq (fC _) ?_;simp[fiO]
 have dc:(x.kind !=1)=true:=by simpa using hk
 simp[hq,Rj,Pa,It.enc,lr,hk,dc,fiO]
abbrev tyZ:AV:=.agg [U 0,Sg emS,nilS]
def zEu:Option (Ty × Bool)->AV
 |some (u,c)=>.tup [tyV u,B c,B true]
 |none=>.tup [tyZ,B false,B false]
theorem zSZ{l:List Fi}{s:BA}{q:Nat}(h:∀i (hi:i<l.length),i<q->sEq l[i].name s=false):(∀(hq:q<l.length),sEq l[q].name s=true->l.find? (fun f=>sEq f.name s)=some l[q])/\(l.length<=q->l.find? (fun f=>sEq f.name s)=none):=by
 refine⟨fun hq hs=>?_,fun hq=>?_⟩
 .rw[List.find?_eq_some_iff_getElem]
  exact⟨hs,q,hq,rfl,fun j hj=>by simpa using h j (by omega) hj⟩
 rw[List.find?_eq_none]
 intro x hx
 obtain⟨i,hi,rfl⟩:=List.getElem_of_mem hx
 simp[h i hi (by omega)]
theorem zcc(p:List It)(hp:PrSm p)(t:Ty)(ht:TySm t)(s:BA)(S:ASt):ADet Tryz.prog 165 [.agg [.p (prog p)],tyV t,Sg s] S (zEu (zDn p t s)) S:=by
 have xa:=zJl hp t.name
 have uC:∀S,ADet Tryz.prog 195 [.agg [.p (prog p)],Sg t.name] S (.p (.sl 4 (((zBP p t.name).getD []).map Fi.enc))) S:=fun S=>by
  have:=zVp p hp t.name S
  cases Ca:zBP p t.name with
  |none=>rw[Ca]at this;exact this.less (.p (.nil 4))
  |some l=>rw[Ca]at this;exact this
 generalize ud:(zBP p t.name).getD []=l at*
 have ca:l.length<=20000:=xa.1
 have Ef:t.args.length<=20000:=by obtain⟨_,_,h,_⟩:=ht;exact h
 unfold zDn;rw[ud];refine ADet.intro mixed call165 func165 rfl ?_
 by_cases h4:t.kind=4
 .rw[if_pos h4]
  simp[ntmps165,h4];refine cq (uC _) ?_;simp;refine zF (fun q:Nat=>q<=l.length/\∀i (hi:i<l.length),i<q->sEq l[i].name s=false) (fun q=>([.any,.any,Sg s,.any,.ptr 0 1 0,.any,.ptr 0 2 0]++(List.replicate 18 .any++([.p (.sl 4 (l.map Fi.enc)),I l.length,I q]++List.replicate 24 .any)))) (fun q=>[.cells [.p (prog p)] 24,.cells [U 4,Sg t.name,.p (.sl 3 (t.args.map Ty.enc))] 36,.cells [.any,.any,.any] 36]::S) (fun q=>l.length-q) 0 ⟨Nat.zero_le _,fun i hi h=>by omega⟩ ?_ ?_ ?_
  .simp
  .simp
  rintro q ⟨hq,ia⟩
  obtain⟨f1,f2⟩:=zSZ ia
  by_cases hlt:q<l.length
  .have aa:(q:Int)<(l.length:Int):=by omega
   have f1:=f1 hlt
   have hw:=zB hlt (by unfold maxLen;omega)
   have Xa:sEq l[q].name s=false->∀i (hi:i<l.length),i<q+1->sEq l[i].name s=false:=fun h i hi Mg=>by
    rcases Nat.lt_or_ge i q with h'|h'
    .exact ia i hi h'
    obtain rfl:i=q:=by omega
    exact h
   generalize he:l[q]=f at*
   cases hn:sEq f.name s with
   |true=>
    simp[hlt,aa,he,Fi.enc,hn,zFq,f1 hn,zEu]
   |false=>
    simp[hlt,aa,he,Fi.enc,hn];exact⟨q+1,⟨hlt,Xa hn⟩,by omega,hw⟩
  have aa:¬(q:Int)<(l.length:Int):=by omega
  simp[aa,zFq,f2 (by omega),zEu]
 rw[if_neg h4]
 have nl:(t.kind==4)=false:=by simpa using h4
 have Ca:sEq s ⟨#[42]⟩=sEq s zGB:=rfl
 cases ha:t.args with
 |nil=>
  by_cases h7:t.kind=7
  .cases hs:sEq s zGB<;>simp[ntmps165,h7,ha,Ca,hs,ptrT,zEu]
  by_cases h8:t.kind=8
  .cases hs:sEq s zGB<;>simp[ntmps165,h8,ha,Ca,hs,ptrT,zEu]
  by_cases Se:t.kind=13
  .cases hs:sEq s zGB<;>simp[ntmps165,Se,ha,Ca,hs,ptrT,zEu]
  by_cases h5:t.kind=5
  .cases hs:sEq s zGB<;>simp[ntmps165,h5,ha,Ca,hs,ptrT,zEu]
  by_cases nf:t.kind=14
  .cases hs:sEq s zGB<;>simp[ntmps165,nf,ha,Ca,hs,ptrT,zEu]
  have Nk:(t.kind==7)=false:=by simpa using h7
  have bp:(t.kind==8)=false:=by simpa using h8
  have ei:(t.kind==13)=false:=by simpa using Se
  have cp:(t.kind==5)=false:=by simpa using h5
  have fi:(t.kind==14)=false:=by simpa using nf
  simp[ntmps165,nl,Nk,bp,ei,cp,fi,h7,h8,Se,h5,nf,ha,zEu]
 |cons u l=>
  have Za:(0:Int)<(l.length:Int)+1:=by omega
  by_cases h7:t.kind=7
  .cases hs:sEq s zGB<;>simp[ntmps165,h7,ha,Ca,hs,ptrT,zEu,zd,Za]
  by_cases h8:t.kind=8
  .cases hs:sEq s zGB<;>simp[ntmps165,h8,ha,Ca,hs,ptrT,zEu,zd,Za]
  by_cases Se:t.kind=13
  .cases hs:sEq s zGB<;>simp[ntmps165,Se,ha,Ca,hs,ptrT,zEu,zd,Za]
  by_cases h5:t.kind=5
  .cases hs:sEq s zGB<;>simp[ntmps165,h5,ha,Ca,hs,ptrT,zEu,zd,Za]
  by_cases nf:t.kind=14
  .cases hs:sEq s zGB<;>simp[ntmps165,nf,ha,Ca,hs,ptrT,zEu,zd,Za]
  have Nk:(t.kind==7)=false:=by simpa using h7
  have bp:(t.kind==8)=false:=by simpa using h8
  have ei:(t.kind==13)=false:=by simpa using Se
  have cp:(t.kind==5)=false:=by simpa using h5
  have fi:(t.kind==14)=false:=by simpa using nf
  simp[ntmps165,nl,Nk,bp,ei,cp,fi,h7,h8,Se,h5,nf,ha,zEu]
attribute [local simp] List.forall_mem_cons List.contains_cons List.contains_nil List.find?
theorem zcd:∀(t:Ty),TySm t->∀(S:ASt),ADet Tryz.prog 131 [tyV t] S (tyV t) S:=by
 refine Ty.ind fun t ih xa S=>?_
 obtain⟨_,_,cb,xa⟩:=xa
 refine ADet.okA call131 0 2 rfl rfl fun na=>?_
 have ca:=okl na
 refine ADet.intro mixed call131 func131 rfl ?_;simp[ntmps131];refine zA8 36 3 (by decide) [.cells [U t.kind,Sg t.name,.p (.sl 3 (t.args.map Ty.enc))] 36,.cells [.any,.any,.any] 36] (fun q:Nat=>q<=t.args.length) (fun q=>([.any,.ptr 0 0 0,.ptr 0 1 0,.osl 3 ((t.args.map Ty.enc).take q) 0 2,.any,.any,.any,.p (.sl 3 (t.args.map Ty.enc)),I t.args.length,I q]++List.replicate 12 .any)) (fun q=>[.cells [U t.kind,Sg t.name,.p (.sl 3 (t.args.map Ty.enc))] 36,.cells [.any,.any,.any] 36,.tok 36 3 q]::S) (fun q=>t.args.length-q) 0 (Nat.zero_le _) ?_ ?_ ?_ ?_
 .simp
 .simp
 .rfl
 intro q hq
 by_cases hlt:q<t.args.length
 .have aa:(q:Int)<(t.args.length:Int):=by omega
  have hx:=ih _ (List.getElem_mem hlt) (xa _ (List.getElem_mem hlt))
  have hr:=zEO Ty.enc t.args hlt
  have ta:q+1<=4294967296:=by omega
  have vd:min q t.args.length=q:=by omega
  generalize hy:t.args[q]=x at*
  simp[hlt,aa,hy,zd];refine cq (hx _) ?_;simp[ta,vd];exact⟨q+1,hlt,by omega,⟨by rw[<-hr];simp[zd],zB hlt⟩,rfl⟩
 have aa:¬(q:Int)<(t.args.length:Int):=by omega
 simp[aa];exact List.take_of_length_le (by simp;omega)
theorem wayC(p:List It)(t:Ty)(l:List BA)(a0 a1 a2 a3 a4 a5:AObj)(S:ASt):ADet Tryz.prog 130 [.agg [.p (prog p)],tyV t,.p (strs l)] ([a0,a1,a2,a3,a4,a5]::S) (.fn (.func 164) [] [.ptr 0 8 0,.ptr 0 6 0,.ptr 0 7 0])
  ([a0,a1,a2,a3,a4,a5,.cells [.p (prog p)] 24,.cells [U t.kind,Sg t.name,.p (.sl 3 (t.args.map Ty.enc))] 36,.cells [.p (strs l)] 38]::S):=by
 refine ADet.flat mixed call130 func130 rfl ?_;simp[ntmps130]
def wayL(p:List It)(l:List BA)(u:Ty)(w:Bool)(tw:Ty):List AObj:=[.cells [.p (prog p)] 24,.cells [U u.kind,Sg u.name,.p (.sl 3 (u.args.map Ty.enc))] 36,.cells [U 0,Sg emS,nilS] 36,.cells [B false] 4,.cells [B false] 4,.cells [B w] 4,
 .cells [.p (prog p)] 24,.cells [U tw.kind,Sg tw.name,.p (.sl 3 (tw.args.map Ty.enc))] 36,.cells [.p (strs l)] 38]
def zBz(p:List It):List BA->Ty->Bool->Ty × Bool
 | [],t,w=>(t,w)
 |s::l,t,w=>
  match zDn p t s with
  |none=>(t,w)
  |some (u,c)=>zBz p l u (w&& !c)
theorem zGH{p:List It}:∀{l:List BA} {t:Ty} {w:Bool} {r:Ty × Bool},walkF p l t w=some r->zBz p l t w=r
 | [],t,w,r,h=>by cases h;rfl
 |s::l,t,w,r,h=>by
  unfold walkF at h;unfold zBz
  cases hs:zDn p t s with
  |none=>rw[hs]at h;cases h
  |some x=>rw[hs]at h;exact zGH h
def jOf:Option (Ty × Bool)->Option Code
 |some _=>none
 |none=>some .ret
theorem za9(p:List It)(hp:PrSm p)(l:List BA)(ca:l.length<=maxLen)(t:Ty)(ht:TySm t)(w:Bool)(S:ASt)(lp:Nat)(R:Option Code->List AObj)
  (ct:∀(L:List AObj) (u u':Ty) (w c:Bool) (tw:Ty),YDet Tryz.prog lp [.agg [U u'.kind,Sg u'.name,.p (.sl 3 (u'.args.map Ty.enc)),B c,B true]] (L::R none::wayL p l u w tw::S) (B true) (L::R none::wayL p l u' (w&& !c) tw::S))
  (dt:∀(L:List AObj) (u:Ty) (w:Bool) (tw:Ty),YDet Tryz.prog lp [.agg [U 0,Sg emS,nilS,B false,B false]] (L::R none::wayL p l u w tw::S) (B false) (L::R (some .ret)::wayL p l u w tw::S)):
  ADet Tryz.prog 164 [.fn (.yield lp) [] [],.ptr 1 8 0,.ptr 1 6 0,.ptr 1 7 0] (R none::wayL p l t w t::S) .un (R (jOf (walkF p l t w))::wayL p l (zBz p l t w).1 (zBz p l t w).2 (zBz p l t w).1::S):=by
 refine ADet.introQ mixed call164 func164 rfl (by kernel_rfl) ?_
 simp[ntmps164,wayL,strs];refine zDB (fun a:Nat × Ty × Bool=>a.1<=l.length/\TySm a.2.1/\walkF p (l.drop a.1) a.2.1 a.2.2=walkF p l t w/\zBz p (l.drop a.1) a.2.1 a.2.2=zBz p l t w) (fun a=>([.fn (.yield lp) [] [],.ptr 2 8 0,.ptr 2 6 0,.ptr 2 7 0,.any,.any,.any,.any,.any,.any,.p (.sl 1 (l.map fun s=>[pS s])),I l.length,I a.1]++List.replicate 20 .any)) (fun a=>[]::R none::wayL p l a.2.1 a.2.2 a.2.1::S) (fun a=>l.length-a.1) (0,t,w) ⟨Nat.zero_le _,ht,by simp,by simp⟩ ?_ ?_ ?_
 .simp
 .simp[wayL,strs]
 rintro⟨q,u,x⟩ ⟨hq,hu,hF,hL⟩
 simp only at hq hu hF hL
 by_cases hlt:q<l.length
 .have aa:(q:Int)<(l.length:Int):=by omega
  have hd:l.drop q=l[q]::l.drop (q+1):=List.drop_eq_getElem_cons hlt
  have hw:=zB hlt
  rw[hd]at hF hL
  generalize he:l[q]=s at*
  have sC:=fun S=>zcc p hp u hu s S
  have y1:=fun(L:List AObj) (u':Ty) (c:Bool)=>ct L u u' x c u
  have y0:=fun(L:List AObj)=>dt L u x u
  simp only[wayL,strs]at y1 y0;simp[hlt,aa,he,wayL,strs];refine cq (sC _) ?_
  cases Ca:zDn p u s with
  |none=>
   simp only[walkF,Ca]at hF;simp only[zBz,Ca]at hL;simp[zEu];refine cq (y0 _) ?_;rw[<-hF,<-hL]
   simp[jOf]
  |some r=>
   obtain⟨v,c⟩:=r
   simp only[walkF,Ca]at hF;simp only[zBz,Ca]at hL;simp[zEu]
   have y1:=fun L=>y1 L v c
   generalize (x&& !c)=y at*
   refine cq (y1 _) ?_;simp[-Bool.exists_bool];exact⟨q+1,v,y,⟨hlt,zSY hp hu Ca,hF,hL⟩,by omega,by simp[hw]⟩
 have aa:¬(q:Int)<(l.length:Int):=by omega
 rw[List.drop_of_length_le (by omega)]at hF hL
 simp only[walkF,zBz]at hF hL;rw[<-hF,<-hL];simp[aa,wayL,strs,jOf]
def zBv:Option (Ty × Bool)->AV
 |some (u,w)=>.tup [tyV u,B w,B true]
 |none=>.tup [tyZ,B false,B false]
theorem zce(p:List It)(hp:PrSm p)(t:Ty)(ht:TySm t)(l:List BA)(S:ASt):ADet Tryz.prog 110 [.agg [.p (prog p)],tyV t,.p (strs l)] S (zBv (zIX p t l)) S:=by
 have wC:=fun S=>zA7 t ht 40 S (by omega) (by omega)
 unfold zIX;refine ADet.okP call110 2 rfl fun na=>?_
 have ca:l.length<=maxLen:=okl (f:=fun s=>[pS s]) na
 refine ADet.introQ mixed call110 func110 rfl (by kernel_rfl) ?_
 simp[ntmps110]
 have jt:∀S,ADet Tryz.prog 21 [tyV t] S (B (t.whole 40)) S:=fun S=>by
  refine ADet.intro mixed call21 func21 rfl ?_;simp[ntmps21];refine cq (wC _) ?_;simp
 refine cq (jt _) ?_
 cases hw:t.whole 40 with
 |false=>simp[zBv]
 |true=>
 simp;refine cq (wayC p t l _ _ _ _ _ _ _) ?_;simp;rw[awq];refine⟨164,[.ptr 0 8 0,.ptr 0 6 0,.ptr 0 7 0],rfl,rfl,rfl,jOf (walkF p l t true),wayL p l (zBz p l t true).1 (zBz p l t true).2 (zBz p l t true).1::S,fun lp R hY=>ADet.less (.any _) (za9 p hp l ca t ht true S lp R (fun L u u' w c tw=>?_) fun L u w tw=>?_),?_⟩
 .refine hY L [.agg [U u'.kind,Sg u'.name,.p (.sl 3 (u'.args.map Ty.enc)),B c,B true]] _ (wayL p l u w tw::S) none (wayL p l u' (w&& !c) tw::S) rfl ⟨rfl,by simp,?_⟩
  cases w<;>simp[wayL,zLm,ROk]
 .refine hY L [.agg [U 0,Sg emS,nilS,B false,B false]] _ (wayL p l u w tw::S) (some .ret) (wayL p l u w tw::S) rfl ⟨rfl,by simp,?_⟩
  simp[wayL,zLm,ROk]
 cases hF:walkF p l t true with
 |none=>simp[jOf,JQ,wayL,zBv]
 |some r=>
  obtain⟨u,x⟩:=r
  have hu:=zKf hp ht hF
  rw[zGH hF]
  have tC:=fun S=>zcd u hu S
  simp[jOf,JQ,wayL];refine zSN (c:=.skip) (fun _ _ _=>trivial) (dB [(2,1),(2,3)] (by kernel_rfl) ?_)
  simp;refine cq (tC _) ?_;simp[zBv]
end Go.Proofs.YtdflkegnmmkkoaaGreatDoor
namespace Go.Proofs.YtdflkegnmmkkoaaGreatDoor
open Go.RowKit _root_.Go.Proofs.Tryz
theorem zLt{α:Type}(p:α->Bool)(l:List α)(m:Int):zv p l m=(decide ((l.length:Int)<=m)&&l.all p):=by
 by_cases h:(l.length:Int)<=m
 .rw[zB4 h];simp[h]
 simp[zv,h]
theorem zM1{p:List It}(hp:zAC p=true){nm s:BA}{u:Ty}{c:Bool}(h:zFq ((zBP p nm).getD []) s=some (u,c)):u.whole 40=true:=by
 unfold zFq at h
 obtain⟨f,hf,he⟩:=Option.map_eq_some_iff.1 h
 cases he
 have hm:=List.mem_of_find?_eq_some hf
 unfold zBP at hm
 cases hx:zK p nm with
 |none=>rw[hx]at hm;simp at hm
 |some x=>
  rw[hx]at hm;simp only at hm;split at hm
  .rename_i hk
   have xm:x∈p:=List.mem_of_find?_eq_some hx
   have hw:x.whole 39=true:=by
    have h1:=hp
    unfold zAC at h1;rw[zLt]at h1;simp only[Bool.and_eq_true,List.all_eq_true]at h1;exact h1.2 x xm
   unfold It.whole at hw;rw[if_pos (.inl hk),zLt]at hw;simp only[Bool.and_eq_true,List.all_eq_true]at hw
   have h2:=hw.2.2 f (by simpa using hm)
   unfold zDM at h2;simp only[hk,Bool.and_eq_true,Bool.or_eq_true]at h2
   rcases h2.2 with h3|h3
   .exact absurd h3.1 (by decide)
   exact zHB f.type _ 40 (by omega) h3
  simp at hm
theorem zPo{p:List It}(hp:zAC p=true){t:Ty}(ht:t.whole 40=true){s:BA}{u:Ty}{c:Bool}(hs:zDn p t s=some (u,c)):u.whole 40=true:=by
 have hq:∀b,ptrT b t s=some (u,c)->u.whole 40=true:=fun b hb=>by
  unfold ptrT at hb;split at hb
  .obtain⟨v,hv,he⟩:=Option.map_eq_some_iff.1 hb
   cases he
   rcases zVF ht with h|h|⟨_,_,_,x,h1,h2⟩
   .rw[h.2]at hv;cases hv
   .rw[h.2]at hv;cases hv
   rw[h1]at hv
   cases hv;exact zHB _ _ _ (by omega) h2
  cases hb
 unfold zDn at hs;split at hs
 .exact zM1 hp hs
 split at hs
 .exact hq _ hs
 split at hs
 .exact hq _ hs
 cases hs
theorem zIY{p:List It}(hp:zAC p=true):∀{l:List BA} {t:Ty} {w:Bool} {r:Ty × Bool},t.whole 40=true->walkF p l t w=some r->r.1.whole 40=true
 | [],t,w,r,ht,hw=>by cases hw;exact ht
 |s::l,t,w,r,ht,hw=>by
  unfold walkF at hw
  cases hs:zDn p t s with
  |none=>rw[hs]at hw;cases hw
  |some q=>
   obtain⟨v,c⟩:=q
   rw[hs]at hw;exact zIY hp (zPo hp ht hs) hw
attribute [local simp] List.replicate List.range List.range.loop
def Ty.copied(t:Ty):Bool:=decide (t.kind=1\/t.kind=2\/t.kind=3\/t.kind=13)
theorem zSa(t:Ty)(S:ASt):ADet Tryz.prog 24 [tyV t] S (B t.copied) S:=by
 unfold Ty.copied;refine ADet.intro mixed call24 func24 rfl ?_
 by_cases h1:t.kind=1
 .simp[ntmps24,h1]
 have ue:(t.kind==1)=false:=by simpa using h1
 by_cases h2:t.kind=2
 .simp[ntmps24,h2]
 have Cg:(t.kind==2)=false:=by simpa using h2
 by_cases h3:t.kind=3
 .simp[ntmps24,h3]
 have Db:(t.kind==3)=false:=by simpa using h3
 by_cases h4:t.kind=13
 .simp[ntmps24,h4]
 have nl:(t.kind==13)=false:=by simpa using h4
 simp[ntmps24,h1,h2,h3,h4,ue,Cg,Db,nl]
theorem zOO:∀(t:Ty) (S:ASt),ADet Tryz.prog 19 [tyV t] S (B t.owned) S:=by
 refine Ty.ind fun t ih S=>?_
 have cC:∀S,ADet Tryz.prog 47 [.p (.sl 3 (t.args.map Ty.enc)),.fn (.func 48) [] []] S (B (t.args.any fun x=>!x.owned)) S:=fun S=>
  zGG _ _ _ _ _ fun x hx L M=>by
   refine ADet.intro mixed call48 func48 rfl ?_;simp[ntmps48];refine cq (ih x hx _) ?_;simp
 have ia:(t.args.any fun x=>!x.owned)= !(t.args.all Ty.owned):=by simp[List.all_eq_not_any_not]
 rw[ia]at cC;rw[zN3]
 generalize t.args.all Ty.owned=b at*
 refine ADet.intro mixed call19 func19 rfl ?_
 by_cases h1:t.kind=13
 .simp[ntmps19,h1]
 have ue:(t.kind==13)=false:=by simpa using h1
 by_cases h2:t.kind=14
 .simp[ntmps19,h2]
 have Cg:(t.kind==14)=false:=by simpa using h2
 simp[ntmps19,ue,Cg];refine cq (cC _) ?_;simp[h1,h2]
end Go.Proofs.YtdflkegnmmkkoaaGreatDoor
