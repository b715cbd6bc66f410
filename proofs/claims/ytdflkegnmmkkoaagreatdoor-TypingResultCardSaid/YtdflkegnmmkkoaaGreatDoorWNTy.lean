/- A part of the proof. -/
import Derived.Test.YtdflkegnmmkkoaaGreatDoorWNRb
import Derived.Test.YtdflkegnmmkkoaaGreatDoorWNQk
set_option linter.unusedVariables false
set_option linter.unusedSimpArgs false
set_option maxRecDepth 100000
set_option maxHeartbeats 32000000
namespace Go.Proofs.YtdflkegnmmkkoaaGreatDoor
open Go.RowKit _root_.Go.Proofs.Tryz
variable{p:List It}
def zBB(p:List It)(nm:BA):Option (List Fi):=
 match zb p nm with
 |some x=>if x.kind=1\/x.kind=2 then some x.fields else none
 |none=>none
def zB6(p:List It)(nm:BA):Option (List Fi):=
 match zb p nm with
 |some x=>if x.kind=1 then some x.fields else none
 |none=>none
def zGX(l:List Fi)(s:BA):Option (Ty × Bool):=(l.find? fun f=>sEq f.name s).map fun f=>(f.type,false)
def ptrT(Nk:Bool)(t:Ty)(s:BA):Option (Ty × Bool):=
 if sEq s zFu=true then(t.args.head?).map fun u=>(u,Nk)else none
def zFK(p:List It)(t:Ty)(s:BA):Option (Ty × Bool):=
 if t.kind=4 then zGX ((zB6 p t.name).getD []) s
 else if t.kind=7\/t.kind=8\/t.kind=13 then ptrT true t s
 else if t.kind=5\/t.kind=14 then ptrT false t s
 else none
def walkF(p:List It):List BA->Ty->Bool->Option (Ty × Bool)
 | [],t,w=>some (t,w)
 |s::l,t,w=>
  match zFK p t s with
  |none=>none
  |some (u,c)=>walkF p l u (w&& !c)
def zIt(p:List It)(t:Ty)(l:List BA):Option (Ty × Bool):=if t.whole 40=true then walkF p l t true else none
theorem zKK(h:PrSm p){nm:BA}{x:It}(hx:zb p nm=some x):ItSm x:=h.2 x (List.mem_of_find?_eq_some hx)
theorem zJO(h:PrSm p)(nm:BA):zO3 ((zB6 p nm).getD []):=by
 unfold zB6
 cases hx:zb p nm with
 |none=>exact⟨by simp,by simp⟩
 |some x=>
  simp only;split
  .exact(zKK h hx).2.1
  exact⟨by simp,by simp⟩
theorem zSH(h:PrSm p){t:Ty}(ht:TySm t){s:BA}{u:Ty}{c:Bool}(hs:zFK p t s=some (u,c)):TySm u:=by
 have hp:∀b,ptrT b t s=some (u,c)->TySm u:=fun b hb=>by
  unfold ptrT at hb;split at hb
  .obtain⟨v,hv,he⟩:=Option.map_eq_some_iff.1 hb
   cases he
   obtain⟨_,_,_,h4⟩:=ht
   exact h4 _ (List.mem_of_head? hv)
  cases hb
 unfold zFK at hs;split at hs
 .unfold zGX at hs
  obtain⟨f,hf,he⟩:=Option.map_eq_some_iff.1 hs
  cases he;exact((zJO h t.name).2 f (List.mem_of_find?_eq_some hf)).2
 split at hs
 .exact hp _ hs
 split at hs
 .exact hp _ hs
 cases hs
theorem zKL{p:List It}(h:PrSm p):∀{l:List BA} {t:Ty} {w:Bool} {u:Ty} {x:Bool},TySm t->walkF p l t w=some (u,x)->TySm u
 | [],t,w,u,x,ht,hw=>by cases hw;exact ht
 |s::l,t,w,u,x,ht,hw=>by
  unfold walkF at hw
  cases hs:zFK p t s with
  |none=>rw[hs]at hw;cases hw
  |some r=>
   obtain⟨v,c⟩:=r
   rw[hs]at hw;exact zKL h (zSH h ht hs) hw
attribute [local simp] List.replicate List.range List.range.loop
def fiO:Option (List Fi)->AV
 |some l=>.p (.sl 4 (l.map Fi.enc))
 |none=>nilS
theorem zGY(p:List It)(hp:PrSm p)(nm:BA)(S:ASt):ADet Tryz.prog 74 [.agg [.p (prog p)],Sg nm] S (.tup [fiO (zBB p nm),B (zBB p nm).isSome]) S:=by
 have fC:=fun S=>zWJ p nm S
 unfold zN8 at fC;unfold zBB;refine ADet.intro mixed call74 func74 rfl ?_;simp[ntmps74];refine cq (fC _) ?_
 cases hx:zb p nm with
 |none=>simp[fiO]
 |some x=>
  have cC:=fun S=>zWE [x] ⟨by simp,fun y hy=>by simp at hy;subst hy;exact zKK hp hx⟩ S
  simp only[prog,List.map_cons,List.map_nil,It.enc]at cC
  have sj:=fun(d i:Nat) S=>ADet.sub (.cons (.agg (.cons (.osl (d:=d) (i:=i) (.refl _)) (.refl _))) (.refl _)) (cC S)
  by_cases h1:x.kind=1
  .simp[h1]
   rw[h1]at sj;refine cq (sj _ _ _) ?_;simp[fiO]
  have ye:(x.kind !=1)=true:=by simpa using h1
  by_cases h2:x.kind=2
  .simp[h2]
   rw[h2]at sj;refine cq (sj _ _ _) ?_;simp[fiO]
  have Gg:(x.kind !=2)=true:=by simpa using h2
  simp[h1,h2,ye,Gg,fiO]
theorem zVF(p:List It)(hp:PrSm p)(nm:BA)(S:ASt):ADet Tryz.prog 195 [.agg [.p (prog p)],Sg nm] S (fiO (zB6 p nm)) S:=by
 refine ADet.okA call195 0 0 rfl rfl fun na=>?_
 have ca:=okl na
 have fC:=fun S=>zGY p hp nm S
 have iC:∀L:List AObj,get2 (L::S) 0 1=some (.cells [Sg nm] 9)->ADet Tryz.prog 160 [.p (.sl 16 (p.map It.enc)),.fn (.func 210) [] [.ptr 0 1 0]] (L::S) (I (idxI (fun x:It=>(decide (x.kind≠3))&&sEq x.name nm) p)) (L::S):=fun L hL=>
  zN5 _ _ _ _ _ fun x hx M=>by
   have hg:get2 (M::L::S) 1 1=some (.cells [Sg nm] 9):=hL
   refine ADet.intro mixed call210 func210 rfl ?_
   by_cases h3:x.kind=3
   .simp[ntmps210,h3]
   have Fb:(x.kind !=3)=true:=by simpa using h3
   simp only[zKq]at hg;simp[ntmps210,Fb,h3,hL]
 unfold zB6;unfold zBB at fC;refine ADet.intro mixed call195 func195 rfl ?_;simp[ntmps195,prog];refine cq (iC _ rfl) ?_;unfold zb at*
 rcases zN7 (fun x:It=>(decide (x.kind≠3))&&sEq x.name nm) p with⟨h1,h2⟩|⟨q,hq,h1,h2⟩
 .rw[h1,h2]
  simp[fiO]
 rw[h1,h2]
 rw[h1]at fC
 have Rj:(q:Int)<(p.length:Int):=by omega
 have Ya:¬(q:Int)<0:=by omega
 simp only[prog]at fC
 generalize qr:p[q]=x at*
 by_cases hk:x.kind=1
 .simp only[hk,true_or,if_true,Option.isSome_some]at fC
  simp[hq,Rj,Ya,It.enc,qr,hk];refine cq (fC _) ?_;simp[fiO]
 have Qb:(x.kind !=1)=true:=by simpa using hk
 simp[hq,Rj,Ya,It.enc,qr,hk,Qb,fiO]
abbrev tyZ:AV:=.agg [U 0,Sg emS,nilS]
def zEi:Option (Ty × Bool)->AV
 |some (u,c)=>.tup [tyV u,B c,B true]
 |none=>.tup [tyZ,B false,B false]
theorem zSI{l:List Fi}{s:BA}{q:Nat}(h:∀i (hi:i<l.length),i<q->sEq l[i].name s=false):(∀(hq:q<l.length),sEq l[q].name s=true->l.find? (fun f=>sEq f.name s)=some l[q])/\(l.length<=q->l.find? (fun f=>sEq f.name s)=none):=by
 refine⟨fun hq hs=>?_,fun hq=>?_⟩
 .rw[List.find?_eq_some_iff_getElem]
  exact⟨hs,q,hq,rfl,fun j hj=>by simpa using h j (by omega) hj⟩
 rw[List.find?_eq_none]
 intro x hx
 obtain⟨i,hi,rfl⟩:=List.getElem_of_mem hx
 simp[h i hi (by omega)]
theorem zbu(p:List It)(hp:PrSm p)(t:Ty)(ht:TySm t)(s:BA)(S:ASt):ADet Tryz.prog 165 [.agg [.p (prog p)],tyV t,Sg s] S (zEi (zFK p t s)) S:=by
 have wa:=zJO hp t.name
 have uC:∀S,ADet Tryz.prog 195 [.agg [.p (prog p)],Sg t.name] S (.p (.sl 4 (((zB6 p t.name).getD []).map Fi.enc))) S:=fun S=>by
  have:=zVF p hp t.name S
  cases Ca:zB6 p t.name with
  |none=>rw[Ca]at this;exact this.less (.p (.nil 4))
  |some l=>rw[Ca]at this;exact this
 generalize Ge:(zB6 p t.name).getD []=l at*
 have ca:l.length<=20000:=wa.1
 have lh:t.args.length<=20000:=by obtain⟨_,_,h,_⟩:=ht;exact h
 unfold zFK;rw[Ge];refine ADet.intro mixed call165 func165 rfl ?_
 by_cases h4:t.kind=4
 .rw[if_pos h4]
  simp[ntmps165,h4];refine cq (uC _) ?_;simp;refine zH (fun q:Nat=>q<=l.length/\∀i (hi:i<l.length),i<q->sEq l[i].name s=false) (fun q=>([.any,.any,Sg s,.any,.ptr 0 1 0,.any,.ptr 0 2 0]++(List.replicate 18 .any++([.p (.sl 4 (l.map Fi.enc)),I l.length,I q]++List.replicate 24 .any)))) (fun q=>[.cells [.p (prog p)] 24,.cells [U 4,Sg t.name,.p (.sl 3 (t.args.map Ty.enc))] 36,.cells [.any,.any,.any] 36]::S) (fun q=>l.length-q) 0 ⟨Nat.zero_le _,fun i hi h=>by omega⟩ ?_ ?_ ?_
  .simp
  .simp
  rintro q ⟨hq,ia⟩
  obtain⟨f1,f2⟩:=zSI ia
  by_cases hlt:q<l.length
  .have aa:(q:Int)<(l.length:Int):=by omega
   have f1:=f1 hlt
   have hw:=zA hlt (by unfold maxLen;omega)
   have Za:sEq l[q].name s=false->∀i (hi:i<l.length),i<q+1->sEq l[i].name s=false:=fun h i hi Pg=>by
    rcases Nat.lt_or_ge i q with h'|h'
    .exact ia i hi h'
    obtain rfl:i=q:=by omega
    exact h
   generalize he:l[q]=f at*
   cases hn:sEq f.name s with
   |true=>
    simp[hlt,aa,he,Fi.enc,hn,zGX,f1 hn,zEi]
   |false=>
    simp[hlt,aa,he,Fi.enc,hn];exact⟨q+1,⟨hlt,Za hn⟩,by omega,hw⟩
  have aa:¬(q:Int)<(l.length:Int):=by omega
  simp[aa,zGX,f2 (by omega),zEi]
 rw[if_neg h4]
 have tl:(t.kind==4)=false:=by simpa using h4
 have Ca:sEq s ⟨#[42]⟩=sEq s zFu:=rfl
 cases ha:t.args with
 |nil=>
  by_cases h7:t.kind=7
  .cases hs:sEq s zFu<;>simp[ntmps165,h7,ha,Ca,hs,ptrT,zEi]
  by_cases h8:t.kind=8
  .cases hs:sEq s zFu<;>simp[ntmps165,h8,ha,Ca,hs,ptrT,zEi]
  by_cases Xe:t.kind=13
  .cases hs:sEq s zFu<;>simp[ntmps165,Xe,ha,Ca,hs,ptrT,zEi]
  by_cases h5:t.kind=5
  .cases hs:sEq s zFu<;>simp[ntmps165,h5,ha,Ca,hs,ptrT,zEi]
  by_cases uf:t.kind=14
  .cases hs:sEq s zFu<;>simp[ntmps165,uf,ha,Ca,hs,ptrT,zEi]
  have Ok:(t.kind==7)=false:=by simpa using h7
  have ep:(t.kind==8)=false:=by simpa using h8
  have fi:(t.kind==13)=false:=by simpa using Xe
  have fp:(t.kind==5)=false:=by simpa using h5
  have ii:(t.kind==14)=false:=by simpa using uf
  simp[ntmps165,tl,Ok,ep,fi,fp,ii,h7,h8,Xe,h5,uf,ha,zEi]
 |cons u l=>
  have ab:(0:Int)<(l.length:Int)+1:=by omega
  by_cases h7:t.kind=7
  .cases hs:sEq s zFu<;>simp[ntmps165,h7,ha,Ca,hs,ptrT,zEi,ze,ab]
  by_cases h8:t.kind=8
  .cases hs:sEq s zFu<;>simp[ntmps165,h8,ha,Ca,hs,ptrT,zEi,ze,ab]
  by_cases Xe:t.kind=13
  .cases hs:sEq s zFu<;>simp[ntmps165,Xe,ha,Ca,hs,ptrT,zEi,ze,ab]
  by_cases h5:t.kind=5
  .cases hs:sEq s zFu<;>simp[ntmps165,h5,ha,Ca,hs,ptrT,zEi,ze,ab]
  by_cases uf:t.kind=14
  .cases hs:sEq s zFu<;>simp[ntmps165,uf,ha,Ca,hs,ptrT,zEi,ze,ab]
  have Ok:(t.kind==7)=false:=by simpa using h7
  have ep:(t.kind==8)=false:=by simpa using h8
  have fi:(t.kind==13)=false:=by simpa using Xe
  have fp:(t.kind==5)=false:=by simpa using h5
  have ii:(t.kind==14)=false:=by simpa using uf
  simp[ntmps165,tl,Ok,ep,fi,fp,ii,h7,h8,Xe,h5,uf,ha,zEi]
attribute [local simp] List.forall_mem_cons List.contains_cons List.contains_nil List.find?
theorem zbv:∀(t:Ty),TySm t->∀(S:ASt),ADet Tryz.prog 131 [tyV t] S (tyV t) S:=by
 refine Ty.ind fun t ih wa S=>?_
 obtain⟨_,_,cb,wa⟩:=wa
 refine ADet.okA call131 0 2 rfl rfl fun na=>?_
 have ca:=okl na
 refine ADet.intro mixed call131 func131 rfl ?_;simp[ntmps131];refine zAw 36 3 (by decide) [.cells [U t.kind,Sg t.name,.p (.sl 3 (t.args.map Ty.enc))] 36,.cells [.any,.any,.any] 36] (fun q:Nat=>q<=t.args.length) (fun q=>([.any,.ptr 0 0 0,.ptr 0 1 0,.osl 3 ((t.args.map Ty.enc).take q) 0 2,.any,.any,.any,.p (.sl 3 (t.args.map Ty.enc)),I t.args.length,I q]++List.replicate 12 .any)) (fun q=>[.cells [U t.kind,Sg t.name,.p (.sl 3 (t.args.map Ty.enc))] 36,.cells [.any,.any,.any] 36,.tok 36 3 q]::S) (fun q=>t.args.length-q) 0 (Nat.zero_le _) ?_ ?_ ?_ ?_
 .simp
 .simp
 .rfl
 intro q hq
 by_cases hlt:q<t.args.length
 .have aa:(q:Int)<(t.args.length:Int):=by omega
  have hx:=ih _ (List.getElem_mem hlt) (wa _ (List.getElem_mem hlt))
  have hr:=zEA Ty.enc t.args hlt
  have oa:q+1<=4294967296:=by omega
  have wc:min q t.args.length=q:=by omega
  generalize hy:t.args[q]=x at*
  simp[hlt,aa,hy,ze];refine cq (hx _) ?_;simp[oa,wc];exact⟨q+1,hlt,by omega,⟨by rw[<-hr];simp[ze],zA hlt⟩,rfl⟩
 have aa:¬(q:Int)<(t.args.length:Int):=by omega
 simp[aa];exact List.take_of_length_le (by simp;omega)
theorem wayC(p:List It)(t:Ty)(l:List BA)(a0 a1 a2 a3 a4 a5:AObj)(S:ASt):ADet Tryz.prog 130 [.agg [.p (prog p)],tyV t,.p (strs l)] ([a0,a1,a2,a3,a4,a5]::S) (.fn (.func 164) [] [.ptr 0 8 0,.ptr 0 6 0,.ptr 0 7 0])
  ([a0,a1,a2,a3,a4,a5,.cells [.p (prog p)] 24,.cells [U t.kind,Sg t.name,.p (.sl 3 (t.args.map Ty.enc))] 36,.cells [.p (strs l)] 38]::S):=by
 refine ADet.flat mixed call130 func130 rfl ?_;simp[ntmps130]
def wayL(p:List It)(l:List BA)(u:Ty)(w:Bool)(tw:Ty):List AObj:=[.cells [.p (prog p)] 24,.cells [U u.kind,Sg u.name,.p (.sl 3 (u.args.map Ty.enc))] 36,.cells [U 0,Sg emS,nilS] 36,.cells [B false] 4,.cells [B false] 4,.cells [B w] 4,
 .cells [.p (prog p)] 24,.cells [U tw.kind,Sg tw.name,.p (.sl 3 (tw.args.map Ty.enc))] 36,.cells [.p (strs l)] 38]
def zBr(p:List It):List BA->Ty->Bool->Ty × Bool
 | [],t,w=>(t,w)
 |s::l,t,w=>
  match zFK p t s with
  |none=>(t,w)
  |some (u,c)=>zBr p l u (w&& !c)
theorem zF1{p:List It}:∀{l:List BA} {t:Ty} {w:Bool} {r:Ty × Bool},walkF p l t w=some r->zBr p l t w=r
 | [],t,w,r,h=>by cases h;rfl
 |s::l,t,w,r,h=>by
  unfold walkF at h;unfold zBr
  cases hs:zFK p t s with
  |none=>rw[hs]at h;cases h
  |some x=>rw[hs]at h;exact zF1 h
def jOf:Option (Ty × Bool)->Option Code
 |some _=>none
 |none=>some .ret
theorem zaQ(p:List It)(hp:PrSm p)(l:List BA)(ca:l.length<=maxLen)(t:Ty)(ht:TySm t)(w:Bool)(S:ASt)(lp:Nat)(R:Option Code->List AObj)
  (Ft:∀(L:List AObj) (u u':Ty) (w c:Bool) (tw:Ty),YDet Tryz.prog lp [.agg [U u'.kind,Sg u'.name,.p (.sl 3 (u'.args.map Ty.enc)),B c,B true]] (L::R none::wayL p l u w tw::S) (B true) (L::R none::wayL p l u' (w&& !c) tw::S))
  (Gt:∀(L:List AObj) (u:Ty) (w:Bool) (tw:Ty),YDet Tryz.prog lp [.agg [U 0,Sg emS,nilS,B false,B false]] (L::R none::wayL p l u w tw::S) (B false) (L::R (some .ret)::wayL p l u w tw::S)):
  ADet Tryz.prog 164 [.fn (.yield lp) [] [],.ptr 1 8 0,.ptr 1 6 0,.ptr 1 7 0] (R none::wayL p l t w t::S) .un (R (jOf (walkF p l t w))::wayL p l (zBr p l t w).1 (zBr p l t w).2 (zBr p l t w).1::S):=by
 refine ADet.introQ mixed call164 func164 rfl (by kernel_rfl) ?_
 simp[ntmps164,wayL,strs];refine zC2 (fun a:Nat × Ty × Bool=>a.1<=l.length/\TySm a.2.1/\walkF p (l.drop a.1) a.2.1 a.2.2=walkF p l t w/\zBr p (l.drop a.1) a.2.1 a.2.2=zBr p l t w) (fun a=>([.fn (.yield lp) [] [],.ptr 2 8 0,.ptr 2 6 0,.ptr 2 7 0,.any,.any,.any,.any,.any,.any,.p (.sl 1 (l.map fun s=>[pS s])),I l.length,I a.1]++List.replicate 20 .any)) (fun a=>[]::R none::wayL p l a.2.1 a.2.2 a.2.1::S) (fun a=>l.length-a.1) (0,t,w) ⟨Nat.zero_le _,ht,by simp,by simp⟩ ?_ ?_ ?_
 .simp
 .simp[wayL,strs]
 rintro⟨q,u,x⟩ ⟨hq,hu,hF,hL⟩
 simp only at hq hu hF hL
 by_cases hlt:q<l.length
 .have aa:(q:Int)<(l.length:Int):=by omega
  have hd:l.drop q=l[q]::l.drop (q+1):=List.drop_eq_getElem_cons hlt
  have hw:=zA hlt
  rw[hd]at hF hL
  generalize he:l[q]=s at*
  have sC:=fun S=>zbu p hp u hu s S
  have y1:=fun(L:List AObj) (u':Ty) (c:Bool)=>Ft L u u' x c u
  have y0:=fun(L:List AObj)=>Gt L u x u
  simp only[wayL,strs]at y1 y0;simp[hlt,aa,he,wayL,strs];refine cq (sC _) ?_
  cases Ca:zFK p u s with
  |none=>
   simp only[walkF,Ca]at hF;simp only[zBr,Ca]at hL;simp[zEi];refine cq (y0 _) ?_;rw[<-hF,<-hL]
   simp[jOf]
  |some r=>
   obtain⟨v,c⟩:=r
   simp only[walkF,Ca]at hF;simp only[zBr,Ca]at hL;simp[zEi]
   have y1:=fun L=>y1 L v c
   generalize (x&& !c)=y at*
   refine cq (y1 _) ?_;simp[-Bool.exists_bool];exact⟨q+1,v,y,⟨hlt,zSH hp hu Ca,hF,hL⟩,by omega,by simp[hw]⟩
 have aa:¬(q:Int)<(l.length:Int):=by omega
 rw[List.drop_of_length_le (by omega)]at hF hL
 simp only[walkF,zBr]at hF hL;rw[<-hF,<-hL];simp[aa,wayL,strs,jOf]
def zBm:Option (Ty × Bool)->AV
 |some (u,w)=>.tup [tyV u,B w,B true]
 |none=>.tup [tyZ,B false,B false]
theorem zbw(p:List It)(hp:PrSm p)(t:Ty)(ht:TySm t)(l:List BA)(S:ASt):ADet Tryz.prog 110 [.agg [.p (prog p)],tyV t,.p (strs l)] S (zBm (zIt p t l)) S:=by
 have wC:=fun S=>zA3 t ht 40 S (by omega) (by omega)
 unfold zIt;refine ADet.okP call110 2 rfl fun na=>?_
 have ca:l.length<=maxLen:=okl (f:=fun s=>[pS s]) na
 refine ADet.introQ mixed call110 func110 rfl (by kernel_rfl) ?_
 simp[ntmps110]
 have Ht:∀S,ADet Tryz.prog 21 [tyV t] S (B (t.whole 40)) S:=fun S=>by
  refine ADet.intro mixed call21 func21 rfl ?_;simp[ntmps21];refine cq (wC _) ?_;simp
 refine cq (Ht _) ?_
 cases hw:t.whole 40 with
 |false=>simp[zBm]
 |true=>
 simp;refine cq (wayC p t l _ _ _ _ _ _ _) ?_;simp;rw[awq];refine⟨164,[.ptr 0 8 0,.ptr 0 6 0,.ptr 0 7 0],rfl,rfl,rfl,jOf (walkF p l t true),wayL p l (zBr p l t true).1 (zBr p l t true).2 (zBr p l t true).1::S,fun lp R hY=>ADet.less (.any _) (zaQ p hp l ca t ht true S lp R (fun L u u' w c tw=>?_) fun L u w tw=>?_),?_⟩
 .refine hY L [.agg [U u'.kind,Sg u'.name,.p (.sl 3 (u'.args.map Ty.enc)),B c,B true]] _ (wayL p l u w tw::S) none (wayL p l u' (w&& !c) tw::S) rfl ⟨rfl,by simp,?_⟩
  cases w<;>simp[wayL,zLZ,ROk]
 .refine hY L [.agg [U 0,Sg emS,nilS,B false,B false]] _ (wayL p l u w tw::S) (some .ret) (wayL p l u w tw::S) rfl ⟨rfl,by simp,?_⟩
  simp[wayL,zLZ,ROk]
 cases hF:walkF p l t true with
 |none=>simp[jOf,JQ,wayL,zBm]
 |some r=>
  obtain⟨u,x⟩:=r
  have hu:=zKL hp ht hF
  rw[zF1 hF]
  have tC:=fun S=>zbv u hu S
  simp[jOf,JQ,wayL];refine zR6 (c:=.skip) (fun _ _ _=>trivial) (dB [(2,1),(2,3)] (by kernel_rfl) ?_)
  simp;refine cq (tC _) ?_;simp[zBm]
end Go.Proofs.YtdflkegnmmkkoaaGreatDoor
namespace Go.Proofs.YtdflkegnmmkkoaaGreatDoor
open Go.RowKit _root_.Go.Proofs.Tryz
theorem zLg{α:Type}(p:α->Bool)(l:List α)(m:Int):zt p l m=(decide ((l.length:Int)<=m)&&l.all p):=by
 by_cases h:(l.length:Int)<=m
 .rw[zBx h];simp[h]
 simp[zt,h]
theorem zMq{p:List It}(hp:zAF p=true){nm s:BA}{u:Ty}{c:Bool}(h:zGX ((zB6 p nm).getD []) s=some (u,c)):u.whole 40=true:=by
 unfold zGX at h
 obtain⟨f,hf,he⟩:=Option.map_eq_some_iff.1 h
 cases he
 have hm:=List.mem_of_find?_eq_some hf
 unfold zB6 at hm
 cases hx:zb p nm with
 |none=>rw[hx]at hm;simp at hm
 |some x=>
  rw[hx]at hm;simp only at hm;split at hm
  .rename_i hk
   have Cm:x∈p:=List.mem_of_find?_eq_some hx
   have hw:x.whole 39=true:=by
    have h1:=hp
    unfold zAF at h1;rw[zLg]at h1;simp only[Bool.and_eq_true,List.all_eq_true]at h1;exact h1.2 x Cm
   unfold It.whole at hw;rw[if_pos (.inl hk),zLg]at hw;simp only[Bool.and_eq_true,List.all_eq_true]at hw
   have h2:=hw.2.2 f (by simpa using hm)
   unfold zDE at h2;simp only[hk,Bool.and_eq_true,Bool.or_eq_true]at h2
   rcases h2.2 with h3|h3
   .exact absurd h3.1 (by decide)
   exact zGs f.type _ 40 (by omega) h3
  simp at hm
theorem zPY{p:List It}(hp:zAF p=true){t:Ty}(ht:t.whole 40=true){s:BA}{u:Ty}{c:Bool}(hs:zFK p t s=some (u,c)):u.whole 40=true:=by
 have hq:∀b,ptrT b t s=some (u,c)->u.whole 40=true:=fun b hb=>by
  unfold ptrT at hb;split at hb
  .obtain⟨v,hv,he⟩:=Option.map_eq_some_iff.1 hb
   cases he
   rcases zUe ht with h|h|⟨_,_,_,x,h1,h2⟩
   .rw[h.2]at hv;cases hv
   .rw[h.2]at hv;cases hv
   rw[h1]at hv
   cases hv;exact zGs _ _ _ (by omega) h2
  cases hb
 unfold zFK at hs;split at hs
 .exact zMq hp hs
 split at hs
 .exact hq _ hs
 split at hs
 .exact hq _ hs
 cases hs
theorem zIB{p:List It}(hp:zAF p=true):∀{l:List BA} {t:Ty} {w:Bool} {r:Ty × Bool},t.whole 40=true->walkF p l t w=some r->r.1.whole 40=true
 | [],t,w,r,ht,hw=>by cases hw;exact ht
 |s::l,t,w,r,ht,hw=>by
  unfold walkF at hw
  cases hs:zFK p t s with
  |none=>rw[hs]at hw;cases hw
  |some q=>
   obtain⟨v,c⟩:=q
   rw[hs]at hw;exact zIB hp (zPY hp ht hs) hw
attribute [local simp] List.replicate List.range List.range.loop
def Ty.copied(t:Ty):Bool:=decide (t.kind=1\/t.kind=2\/t.kind=3\/t.kind=13)
theorem zSJ(t:Ty)(S:ASt):ADet Tryz.prog 24 [tyV t] S (B t.copied) S:=by
 unfold Ty.copied;refine ADet.intro mixed call24 func24 rfl ?_
 by_cases h1:t.kind=1
 .simp[ntmps24,h1]
 have ye:(t.kind==1)=false:=by simpa using h1
 by_cases h2:t.kind=2
 .simp[ntmps24,h2]
 have Gg:(t.kind==2)=false:=by simpa using h2
 by_cases h3:t.kind=3
 .simp[ntmps24,h3]
 have Fb:(t.kind==3)=false:=by simpa using h3
 by_cases h4:t.kind=13
 .simp[ntmps24,h4]
 have tl:(t.kind==13)=false:=by simpa using h4
 simp[ntmps24,h1,h2,h3,h4,ye,Gg,Fb,tl]
theorem zOB:∀(t:Ty) (S:ASt),ADet Tryz.prog 19 [tyV t] S (B t.owned) S:=by
 refine Ty.ind fun t ih S=>?_
 have cC:∀S,ADet Tryz.prog 47 [.p (.sl 3 (t.args.map Ty.enc)),.fn (.func 48) [] []] S (B (t.args.any fun x=>!x.owned)) S:=fun S=>
  zF0 _ _ _ _ _ fun x hx L M=>by
   refine ADet.intro mixed call48 func48 rfl ?_;simp[ntmps48];refine cq (ih x hx _) ?_;simp
 have ia:(t.args.any fun x=>!x.owned)= !(t.args.all Ty.owned):=by simp[List.all_eq_not_any_not]
 rw[ia]at cC;rw[zNs]
 generalize t.args.all Ty.owned=b at*
 refine ADet.intro mixed call19 func19 rfl ?_
 by_cases h1:t.kind=13
 .simp[ntmps19,h1]
 have ye:(t.kind==13)=false:=by simpa using h1
 by_cases h2:t.kind=14
 .simp[ntmps19,h2]
 have Gg:(t.kind==14)=false:=by simpa using h2
 simp[ntmps19,ye,Gg];refine cq (cC _) ?_;simp[h1,h2]
end Go.Proofs.YtdflkegnmmkkoaaGreatDoor
