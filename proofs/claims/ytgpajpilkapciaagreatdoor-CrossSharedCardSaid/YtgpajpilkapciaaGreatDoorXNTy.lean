/- A part of the proof. -/
import Derived.Test.YtgpajpilkapciaaGreatDoorXNRb
import Derived.Test.YtgpajpilkapciaaGreatDoorXNQk
set_option linter.unusedVariables false
set_option linter.unusedSimpArgs false
set_option maxRecDepth 100000
set_option maxHeartbeats 32000000
namespace Go.Proofs.YtgpajpilkapciaaGreatDoor
open Go.RowKit _root_.Go.Proofs.Tryz
variable{p:List It}
def zW(p:List It)(nm:BA):Option (List Fi):=
 match zU p nm with
 |some x=>if x.kind=1\/x.kind=2 then some x.fields else none
 |none=>none
def zBw(p:List It)(nm:BA):Option (List Fi):=
 match zU p nm with
 |some x=>if x.kind=1 then some x.fields else none
 |none=>none
def zGM(l:List Fi)(s:BA):Option (Ty × Bool):=(l.find? fun f=>sEq f.name s).map fun f=>(f.type,false)
def ptrT(Dk:Bool)(t:Ty)(s:BA):Option (Ty × Bool):=
 if sEq s zFg=true then(t.args.head?).map fun u=>(u,Dk)else none
def zE1(p:List It)(t:Ty)(s:BA):Option (Ty × Bool):=
 if t.kind=4 then zGM ((zBw p t.name).getD []) s
 else if t.kind=7\/t.kind=8\/t.kind=13 then ptrT true t s
 else if t.kind=5\/t.kind=14 then ptrT false t s
 else none
def walkF(p:List It):List BA->Ty->Bool->Option (Ty × Bool)
 | [],t,w=>some (t,w)
 |s::l,t,w=>
  match zE1 p t s with
  |none=>none
  |some (u,c)=>walkF p l u (w&& !c)
def zIT(p:List It)(t:Ty)(l:List BA):Option (Ty × Bool):=if t.whole 40=true then walkF p l t true else none
theorem zFm(h:PrSm p){nm:BA}{x:It}(hx:zU p nm=some x):ItSm x:=h.2 x (List.mem_of_find?_eq_some hx)
theorem zIw(h:PrSm p)(nm:BA):zHn ((zBw p nm).getD []):=by
 unfold zBw
 cases hx:zU p nm with
 |none=>exact⟨by simp,by simp⟩
 |some x=>
  simp only;split
  .exact(zFm h hx).2.1
  exact⟨by simp,by simp⟩
theorem zQ2(h:PrSm p){t:Ty}(ht:TySm t){s:BA}{u:Ty}{c:Bool}(hs:zE1 p t s=some (u,c)):TySm u:=by
 have hp:∀b,ptrT b t s=some (u,c)->TySm u:=fun b hb=>by
  unfold ptrT at hb;split at hb
  .obtain⟨v,hv,he⟩:=Option.map_eq_some_iff.1 hb
   cases he
   obtain⟨_,_,_,h4⟩:=ht
   exact h4 _ (List.mem_of_head? hv)
  cases hb
 unfold zE1 at hs;split at hs
 .unfold zGM at hs
  obtain⟨f,hf,he⟩:=Option.map_eq_some_iff.1 hs
  cases he;exact((zIw h t.name).2 f (List.mem_of_find?_eq_some hf)).2
 split at hs
 .exact hp _ hs
 split at hs
 .exact hp _ hs
 cases hs
theorem zJn{p:List It}(h:PrSm p):∀{l:List BA} {t:Ty} {w:Bool} {u:Ty} {x:Bool},TySm t->walkF p l t w=some (u,x)->TySm u
 | [],t,w,u,x,ht,hw=>by cases hw;exact ht
 |s::l,t,w,u,x,ht,hw=>by
  unfold walkF at hw
  cases hs:zE1 p t s with
  |none=>rw[hs]at hw;cases hw
  |some r=>
   obtain⟨v,c⟩:=r
   rw[hs]at hw;exact zJn h (zQ2 h ht hs) hw
attribute [local simp] List.replicate List.range List.range.loop
def fiO:Option (List Fi)->AV
 |some l=>.p (.sl 4 (l.map Fi.enc))
 |none=>nilS
theorem zDX(p:List It)(hp:PrSm p)(nm:BA)(S:ASt):ADet Tryz.prog 62 [.agg [.p (prog p)],Sg nm] S (.tup [fiO (zW p nm),B (zW p nm).isSome]) S:=by
 have fC:=fun S=>zVL p nm S
 unfold zNR at fC;unfold zW;refine ADet.intro mixed call62 func62 rfl ?_;simp[ntmps62];refine cq (fC _) ?_
 cases hx:zU p nm with
 |none=>simp[fiO]
 |some x=>
  have cC:=fun S=>zVI [x] ⟨by simp,fun y hy=>by simp at hy;subst hy;exact zFm hp hx⟩ S
  simp only[prog,List.map_cons,List.map_nil,It.enc]at cC
  have Zg:=fun(d i:Nat) S=>ADet.sub (.cons (.agg (.cons (.osl (d:=d) (i:=i) (.refl _)) (.refl _))) (.refl _)) (cC S)
  by_cases h1:x.kind=1
  .simp[h1]
   rw[h1]at Zg;refine cq (Zg _ _ _) ?_;simp[fiO]
  have rd:(x.kind !=1)=true:=by simpa using h1
  by_cases h2:x.kind=2
  .simp[h2]
   rw[h2]at Zg;refine cq (Zg _ _ _) ?_;simp[fiO]
  have ug:(x.kind !=2)=true:=by simpa using h2
  simp[h1,h2,rd,ug,fiO]
theorem zUE(p:List It)(hp:PrSm p)(nm:BA)(S:ASt):ADet Tryz.prog 167 [.agg [.p (prog p)],Sg nm] S (fiO (zBw p nm)) S:=by
 refine ADet.okA call167 0 0 rfl rfl fun na=>?_
 have ca:=okl na
 have fC:=fun S=>zDX p hp nm S
 have iC:∀L:List AObj,get2 (L::S) 0 1=some (.cells [Sg nm] 9)->ADet Tryz.prog 98 [.p (.sl 16 (p.map It.enc)),.fn (.func 169) [] [.ptr 0 1 0]] (L::S) (I (idxI (fun x:It=>(decide (x.kind≠3))&&sEq x.name nm) p)) (L::S):=fun L hL=>
  zNO _ _ _ _ _ fun x hx M=>by
   have hg:get2 (M::L::S) 1 1=some (.cells [Sg nm] 9):=hL
   refine ADet.intro mixed call169 func169 rfl ?_
   by_cases h3:x.kind=3
   .simp[ntmps169,h3]
   have yb:(x.kind !=3)=true:=by simpa using h3
   simp only[zKG]at hg;simp[ntmps169,yb,h3,hL]
 unfold zBw;unfold zW at fC;refine ADet.intro mixed call167 func167 rfl ?_;simp[ntmps167,prog];refine cq (iC _ rfl) ?_;unfold zU at*
 rcases zNQ (fun x:It=>(decide (x.kind≠3))&&sEq x.name nm) p with⟨h1,h2⟩|⟨q,hq,h1,h2⟩
 .rw[h1,h2]
  simp[fiO]
 rw[h1,h2]
 rw[h1]at fC
 have oi:(q:Int)<(p.length:Int):=by omega
 have Na:¬(q:Int)<0:=by omega
 simp only[prog]at fC
 generalize Qq:p[q]=x at*
 by_cases hk:x.kind=1
 .simp only[hk,true_or,if_true,Option.isSome_some]at fC
  simp[hq,oi,Na,It.enc,Qq,hk];refine cq (fC _) ?_;simp[fiO]
 have Vb:(x.kind !=1)=true:=by simpa using hk
 simp[hq,oi,Na,It.enc,Qq,hk,Vb,fiO]
abbrev tyZ:AV:=.agg [U 0,Sg emS,nilS]
def zEV:Option (Ty × Bool)->AV
 |some (u,c)=>.tup [tyV u,B c,B true]
 |none=>.tup [tyZ,B false,B false]
theorem zQ3{l:List Fi}{s:BA}{q:Nat}(h:∀i (hi:i<l.length),i<q->sEq l[i].name s=false):(∀(hq:q<l.length),sEq l[q].name s=true->l.find? (fun f=>sEq f.name s)=some l[q])/\(l.length<=q->l.find? (fun f=>sEq f.name s)=none):=by
 refine⟨fun hq hs=>?_,fun hq=>?_⟩
 .rw[List.find?_eq_some_iff_getElem]
  exact⟨hs,q,hq,rfl,fun j hj=>by simpa using h j (by omega) hj⟩
 rw[List.find?_eq_none]
 intro x hx
 obtain⟨i,hi,rfl⟩:=List.getElem_of_mem hx
 simp[h i hi (by omega)]
theorem zaL(p:List It)(hp:PrSm p)(t:Ty)(ht:TySm t)(s:BA)(S:ASt):ADet Tryz.prog 164 [.agg [.p (prog p)],tyV t,Sg s] S (zEV (zE1 p t s)) S:=by
 have ka:=zIw hp t.name
 have uC:∀S,ADet Tryz.prog 167 [.agg [.p (prog p)],Sg t.name] S (.p (.sl 4 (((zBw p t.name).getD []).map Fi.enc))) S:=fun S=>by
  have:=zUE p hp t.name S
  cases Aa:zBw p t.name with
  |none=>rw[Aa]at this;exact this.less (.p (.nil 4))
  |some l=>rw[Aa]at this;exact this
 generalize Ve:(zBw p t.name).getD []=l at*
 have ca:l.length<=20000:=ka.1
 have ct:t.args.length<=20000:=by obtain⟨_,_,h,_⟩:=ht;exact h
 unfold zE1;rw[Ve];refine ADet.intro mixed call164 func164 rfl ?_
 by_cases h4:t.kind=4
 .rw[if_pos h4]
  simp[ntmps164,h4];refine cq (uC _) ?_;simp;refine zH (fun q:Nat=>q<=l.length/\∀i (hi:i<l.length),i<q->sEq l[i].name s=false) (fun q=>([.any,.any,Sg s,.any,.ptr 0 1 0,.any,.ptr 0 2 0]++(List.replicate 18 .any++([.p (.sl 4 (l.map Fi.enc)),I l.length,I q]++List.replicate 24 .any)))) (fun q=>[.cells [.p (prog p)] 27,.cells [U 4,Sg t.name,.p (.sl 3 (t.args.map Ty.enc))] 35,.cells [.any,.any,.any] 35]::S) (fun q=>l.length-q) 0 ⟨Nat.zero_le _,fun i hi h=>by omega⟩ ?_ ?_ ?_
  .simp
  .simp
  rintro q ⟨hq,ja⟩
  obtain⟨f1,f2⟩:=zQ3 ja
  by_cases hlt:q<l.length
  .have aa:(q:Int)<(l.length:Int):=by omega
   have f1:=f1 hlt
   have hw:=zA hlt (by unfold maxLen;omega)
   have Ra:sEq l[q].name s=false->∀i (hi:i<l.length),i<q+1->sEq l[i].name s=false:=fun h i hi Dg=>by
    rcases Nat.lt_or_ge i q with h'|h'
    .exact ja i hi h'
    obtain rfl:i=q:=by omega
    exact h
   generalize he:l[q]=f at*
   cases hn:sEq f.name s with
   |true=>
    simp[hlt,aa,he,Fi.enc,hn,zGM,f1 hn,zEV]
   |false=>
    simp[hlt,aa,he,Fi.enc,hn];exact⟨q+1,⟨hlt,Ra hn⟩,by omega,hw⟩
  have aa:¬(q:Int)<(l.length:Int):=by omega
  simp[aa,zGM,f2 (by omega),zEV]
 rw[if_neg h4]
 have pi:(t.kind==4)=false:=by simpa using h4
 have Aa:sEq s ⟨#[42]⟩=sEq s zFg:=rfl
 cases ha:t.args with
 |nil=>
  by_cases h7:t.kind=7
  .cases hs:sEq s zFg<;>simp[ntmps164,h7,ha,Aa,hs,ptrT,zEV]
  by_cases h8:t.kind=8
  .cases hs:sEq s zFg<;>simp[ntmps164,h8,ha,Aa,hs,ptrT,zEV]
  by_cases wd:t.kind=13
  .cases hs:sEq s zFg<;>simp[ntmps164,wd,ha,Aa,hs,ptrT,zEV]
  by_cases h5:t.kind=5
  .cases hs:sEq s zFg<;>simp[ntmps164,h5,ha,Aa,hs,ptrT,zEV]
  by_cases mf:t.kind=14
  .cases hs:sEq s zFg<;>simp[ntmps164,mf,ha,Aa,hs,ptrT,zEV]
  have ti:(t.kind==7)=false:=by simpa using h7
  have lm:(t.kind==8)=false:=by simpa using h8
  have ig:(t.kind==13)=false:=by simpa using wd
  have Oo:(t.kind==5)=false:=by simpa using h5
  have Xh:(t.kind==14)=false:=by simpa using mf
  simp[ntmps164,pi,ti,lm,ig,Oo,Xh,h7,h8,wd,h5,mf,ha,zEV]
 |cons u l=>
  have te:(0:Int)<(l.length:Int)+1:=by omega
  by_cases h7:t.kind=7
  .cases hs:sEq s zFg<;>simp[ntmps164,h7,ha,Aa,hs,ptrT,zEV,zP,te]
  by_cases h8:t.kind=8
  .cases hs:sEq s zFg<;>simp[ntmps164,h8,ha,Aa,hs,ptrT,zEV,zP,te]
  by_cases wd:t.kind=13
  .cases hs:sEq s zFg<;>simp[ntmps164,wd,ha,Aa,hs,ptrT,zEV,zP,te]
  by_cases h5:t.kind=5
  .cases hs:sEq s zFg<;>simp[ntmps164,h5,ha,Aa,hs,ptrT,zEV,zP,te]
  by_cases mf:t.kind=14
  .cases hs:sEq s zFg<;>simp[ntmps164,mf,ha,Aa,hs,ptrT,zEV,zP,te]
  have ti:(t.kind==7)=false:=by simpa using h7
  have lm:(t.kind==8)=false:=by simpa using h8
  have ig:(t.kind==13)=false:=by simpa using wd
  have Oo:(t.kind==5)=false:=by simpa using h5
  have Xh:(t.kind==14)=false:=by simpa using mf
  simp[ntmps164,pi,ti,lm,ig,Oo,Xh,h7,h8,wd,h5,mf,ha,zEV]
attribute [local simp] zf za zn zb List.forall_mem_cons List.contains_cons List.contains_nil List.find? zm zl zZ
theorem zaM:∀(t:Ty),TySm t->∀(S:ASt),ADet Tryz.prog 140 [tyV t] S (tyV t) S:=by
 refine Ty.ind fun t ih ka S=>?_
 obtain⟨_,_,Xa,ka⟩:=ka
 refine ADet.okA call140 0 2 rfl rfl fun na=>?_
 have ca:=okl na
 refine ADet.intro mixed call140 func140 rfl ?_;simp[ntmps140];refine zBF 35 3 (by decide) [.cells [U t.kind,Sg t.name,.p (.sl 3 (t.args.map Ty.enc))] 35,.cells [.any,.any,.any] 35] (fun q:Nat=>q<=t.args.length) (fun q=>([.any,.ptr 0 0 0,.ptr 0 1 0,.osl 3 ((t.args.map Ty.enc).take q) 0 2,.any,.any,.any,.p (.sl 3 (t.args.map Ty.enc)),I t.args.length,I q]++List.replicate 12 .any)) (fun q=>[.cells [U t.kind,Sg t.name,.p (.sl 3 (t.args.map Ty.enc))] 35,.cells [.any,.any,.any] 35,.tok 35 3 q]::S) (fun q=>t.args.length-q) 0 (Nat.zero_le _) ?_ ?_ ?_ ?_
 .simp
 .simp
 .rfl
 intro q hq
 by_cases hlt:q<t.args.length
 .have aa:(q:Int)<(t.args.length:Int):=by omega
  have hx:=ih _ (List.getElem_mem hlt) (ka _ (List.getElem_mem hlt))
  have hr:=zDx Ty.enc t.args hlt
  have ta:q+1<=4294967296:=by omega
  have gd:min q t.args.length=q:=by omega
  generalize hy:t.args[q]=x at*
  simp[hlt,aa,hy,zP];refine cq (hx _) ?_;simp[ta,gd];exact⟨q+1,hlt,by omega,⟨by rw[<-hr];simp[zP],zA hlt⟩,rfl⟩
 have aa:¬(q:Int)<(t.args.length:Int):=by omega
 simp[aa];exact List.take_of_length_le (by simp;omega)
theorem wayC(p:List It)(t:Ty)(l:List BA)(a0 a1 a2 a3 a4 a5:AObj)(S:ASt):ADet Tryz.prog 139 [.agg [.p (prog p)],tyV t,.p (strs l)] ([a0,a1,a2,a3,a4,a5]::S) (.fn (.func 163) [] [.ptr 0 8 0,.ptr 0 6 0,.ptr 0 7 0])
  ([a0,a1,a2,a3,a4,a5,.cells [.p (prog p)] 27,.cells [U t.kind,Sg t.name,.p (.sl 3 (t.args.map Ty.enc))] 35,.cells [.p (strs l)] 37]::S):=by
 refine ADet.flat mixed call139 func139 rfl ?_;simp[ntmps139]
def wayL(p:List It)(l:List BA)(u:Ty)(w:Bool)(tw:Ty):List AObj:=[.cells [.p (prog p)] 27,.cells [U u.kind,Sg u.name,.p (.sl 3 (u.args.map Ty.enc))] 35,.cells [U 0,Sg emS,nilS] 35,.cells [B false] 4,.cells [B false] 4,.cells [B w] 4,
 .cells [.p (prog p)] 27,.cells [U tw.kind,Sg tw.name,.p (.sl 3 (tw.args.map Ty.enc))] 35,.cells [.p (strs l)] 37]
def zBk(p:List It):List BA->Ty->Bool->Ty × Bool
 | [],t,w=>(t,w)
 |s::l,t,w=>
  match zE1 p t s with
  |none=>(t,w)
  |some (u,c)=>zBk p l u (w&& !c)
theorem zFn{p:List It}:∀{l:List BA} {t:Ty} {w:Bool} {r:Ty × Bool},walkF p l t w=some r->zBk p l t w=r
 | [],t,w,r,h=>by cases h;rfl
 |s::l,t,w,r,h=>by
  unfold walkF at h;unfold zBk
  cases hs:zE1 p t s with
  |none=>rw[hs]at h;cases h
  |some x=>rw[hs]at h;exact zFn h
def jOf:Option (Ty × Bool)->Option Code
 |some _=>none
 |none=>some .ret
theorem zZB(p:List It)(hp:PrSm p)(l:List BA)(ca:l.length<=maxLen)(t:Ty)(ht:TySm t)(w:Bool)(S:ASt)(lp:Nat)(R:Option Code->List AObj)
  (dt:∀(L:List AObj) (u u':Ty) (w c:Bool) (tw:Ty),YDet Tryz.prog lp [.agg [U u'.kind,Sg u'.name,.p (.sl 3 (u'.args.map Ty.enc)),B c,B true]] (L::R none::wayL p l u w tw::S) (B true) (L::R none::wayL p l u' (w&& !c) tw::S))
  (ft:∀(L:List AObj) (u:Ty) (w:Bool) (tw:Ty),YDet Tryz.prog lp [.agg [U 0,Sg emS,nilS,B false,B false]] (L::R none::wayL p l u w tw::S) (B false) (L::R (some .ret)::wayL p l u w tw::S)):
  ADet Tryz.prog 163 [.fn (.yield lp) [] [],.ptr 1 8 0,.ptr 1 6 0,.ptr 1 7 0] (R none::wayL p l t w t::S) .un (R (jOf (walkF p l t w))::wayL p l (zBk p l t w).1 (zBk p l t w).2 (zBk p l t w).1::S):=by
 refine ADet.introQ mixed call163 func163 rfl (by kernel_rfl) ?_
 simp[ntmps163,wayL,strs];refine zG6 (fun a:Nat × Ty × Bool=>a.1<=l.length/\TySm a.2.1/\walkF p (l.drop a.1) a.2.1 a.2.2=walkF p l t w/\zBk p (l.drop a.1) a.2.1 a.2.2=zBk p l t w) (fun a=>([.fn (.yield lp) [] [],.ptr 2 8 0,.ptr 2 6 0,.ptr 2 7 0,.any,.any,.any,.any,.any,.any,.p (.sl 1 (l.map fun s=>[pS s])),I l.length,I a.1]++List.replicate 20 .any)) (fun a=>[]::R none::wayL p l a.2.1 a.2.2 a.2.1::S) (fun a=>l.length-a.1) (0,t,w) ⟨Nat.zero_le _,ht,by simp,by simp⟩ ?_ ?_ ?_
 .simp
 .simp[wayL,strs]
 rintro⟨q,u,x⟩ ⟨hq,hu,hF,hL⟩
 simp only at hq hu hF hL
 by_cases hlt:q<l.length
 .have aa:(q:Int)<(l.length:Int):=by omega
  have hd:l.drop q=l[q]::l.drop (q+1):=List.drop_eq_getElem_cons hlt
  have hw:=zA hlt
  rw[hd]at hF hL
  generalize he:l[q]=s at*
  have sC:=fun S=>zaL p hp u hu s S
  have y1:=fun(L:List AObj) (u':Ty) (c:Bool)=>dt L u u' x c u
  have y0:=fun(L:List AObj)=>ft L u x u
  simp only[wayL,strs]at y1 y0;simp[hlt,aa,he,wayL,strs];refine cq (sC _) ?_
  cases Aa:zE1 p u s with
  |none=>
   simp only[walkF,Aa]at hF;simp only[zBk,Aa]at hL;simp[zEV];refine cq (y0 _) ?_;rw[<-hF,<-hL]
   simp[jOf]
  |some r=>
   obtain⟨v,c⟩:=r
   simp only[walkF,Aa]at hF;simp only[zBk,Aa]at hL;simp[zEV]
   have y1:=fun L=>y1 L v c
   generalize (x&& !c)=y at*
   refine cq (y1 _) ?_;simp[-Bool.exists_bool];exact⟨q+1,v,y,⟨hlt,zQ2 hp hu Aa,hF,hL⟩,by omega,by simp[hw]⟩
 have aa:¬(q:Int)<(l.length:Int):=by omega
 rw[List.drop_of_length_le (by omega)]at hF hL
 simp only[walkF,zBk]at hF hL;rw[<-hF,<-hL];simp[aa,wayL,strs,jOf]
def zBP:Option (Ty × Bool)->AV
 |some (u,w)=>.tup [tyV u,B w,B true]
 |none=>.tup [tyZ,B false,B false]
theorem zaN(p:List It)(hp:PrSm p)(t:Ty)(ht:TySm t)(l:List BA)(S:ASt):ADet Tryz.prog 101 [.agg [.p (prog p)],tyV t,.p (strs l)] S (zBP (zIT p t l)) S:=by
 have wC:=fun S=>zAn t ht 40 S (by omega) (by omega)
 unfold zIT;refine ADet.okP call101 2 rfl fun na=>?_
 have ca:l.length<=maxLen:=okl (f:=fun s=>[pS s]) na
 refine ADet.introQ mixed call101 func101 rfl (by kernel_rfl) ?_
 simp[ntmps101]
 have Po:∀S,ADet Tryz.prog 50 [tyV t] S (B (t.whole 40)) S:=fun S=>by
  refine ADet.intro mixed call50 func50 rfl ?_;simp[ntmps50];refine cq (wC _) ?_;simp
 refine cq (Po _) ?_
 cases hw:t.whole 40 with
 |false=>simp[zBP]
 |true=>
 simp;refine cq (wayC p t l _ _ _ _ _ _ _) ?_;simp;rw[awq];refine⟨163,[.ptr 0 8 0,.ptr 0 6 0,.ptr 0 7 0],rfl,rfl,rfl,jOf (walkF p l t true),wayL p l (zBk p l t true).1 (zBk p l t true).2 (zBk p l t true).1::S,fun lp R hY=>ADet.less (.any _) (zZB p hp l ca t ht true S lp R (fun L u u' w c tw=>?_) fun L u w tw=>?_),?_⟩
 .refine hY L [.agg [U u'.kind,Sg u'.name,.p (.sl 3 (u'.args.map Ty.enc)),B c,B true]] _ (wayL p l u w tw::S) none (wayL p l u' (w&& !c) tw::S) rfl ⟨rfl,by simp,?_⟩
  cases w<;>simp[wayL,zGq,ROk]
 .refine hY L [.agg [U 0,Sg emS,nilS,B false,B false]] _ (wayL p l u w tw::S) (some .ret) (wayL p l u w tw::S) rfl ⟨rfl,by simp,?_⟩
  simp[wayL,zGq,ROk]
 cases hF:walkF p l t true with
 |none=>simp[jOf,JQ,wayL,zBP]
 |some r=>
  obtain⟨u,x⟩:=r
  have hu:=zJn hp ht hF
  rw[zFn hF]
  have tC:=fun S=>zaM u hu S
  simp[jOf,JQ,wayL];refine zQt (c:=.skip) (fun _ _ _=>trivial) (dB [(2,1),(2,3)] (by kernel_rfl) ?_)
  simp;refine cq (tC _) ?_;simp[zBP]
end Go.Proofs.YtgpajpilkapciaaGreatDoor
namespace Go.Proofs.YtgpajpilkapciaaGreatDoor
open Go.RowKit _root_.Go.Proofs.Tryz
theorem zK7{α:Type}(p:α->Bool)(l:List α)(m:Int):zq p l m=(decide ((l.length:Int)<=m)&&l.all p):=by
 by_cases h:(l.length:Int)<=m
 .rw[zBs h];simp[h]
 simp[zq,h]
theorem zMM{p:List It}(hp:zx p=true){nm s:BA}{u:Ty}{c:Bool}(h:zGM ((zBw p nm).getD []) s=some (u,c)):u.whole 40=true:=by
 unfold zGM at h
 obtain⟨f,hf,he⟩:=Option.map_eq_some_iff.1 h
 cases he
 have hm:=List.mem_of_find?_eq_some hf
 unfold zBw at hm
 cases hx:zU p nm with
 |none=>rw[hx]at hm;simp at hm
 |some x=>
  rw[hx]at hm;simp only at hm;split at hm
  .rename_i hk
   have om:x∈p:=List.mem_of_find?_eq_some hx
   have hw:x.whole 39=true:=by
    have h1:=hp
    unfold zx at h1;rw[zK7]at h1;simp only[Bool.and_eq_true,List.all_eq_true]at h1;exact h1.2 x om
   unfold It.whole at hw;rw[if_pos (.inl hk),zK7]at hw;simp only[Bool.and_eq_true,List.all_eq_true]at hw
   have h2:=hw.2.2 f (by simpa using hm)
   unfold zCi at h2;simp only[hk,Bool.and_eq_true,Bool.or_eq_true]at h2
   rcases h2.2 with h3|h3
   .exact absurd h3.1 (by decide)
   exact zGj f.type _ 40 (by omega) h3
  simp at hm
theorem zOk{p:List It}(hp:zx p=true){t:Ty}(ht:t.whole 40=true){s:BA}{u:Ty}{c:Bool}(hs:zE1 p t s=some (u,c)):u.whole 40=true:=by
 have hq:∀b,ptrT b t s=some (u,c)->u.whole 40=true:=fun b hb=>by
  unfold ptrT at hb;split at hb
  .obtain⟨v,hv,he⟩:=Option.map_eq_some_iff.1 hb
   cases he
   rcases zNE ht with h|h|⟨_,_,_,x,h1,h2⟩
   .rw[h.2]at hv;cases hv
   .rw[h.2]at hv;cases hv
   rw[h1]at hv
   cases hv;exact zGj _ _ _ (by omega) h2
  cases hb
 unfold zE1 at hs;split at hs
 .exact zMM hp hs
 split at hs
 .exact hq _ hs
 split at hs
 .exact hq _ hs
 cases hs
theorem zHs{p:List It}(hp:zx p=true):∀{l:List BA} {t:Ty} {w:Bool} {r:Ty × Bool},t.whole 40=true->walkF p l t w=some r->r.1.whole 40=true
 | [],t,w,r,ht,hw=>by cases hw;exact ht
 |s::l,t,w,r,ht,hw=>by
  unfold walkF at hw
  cases hs:zE1 p t s with
  |none=>rw[hs]at hw;cases hw
  |some q=>
   obtain⟨v,c⟩:=q
   rw[hs]at hw;exact zHs hp (zOk hp ht hs) hw
attribute [local simp] List.replicate List.range List.range.loop
def Ty.copied(t:Ty):Bool:=decide (t.kind=1\/t.kind=2\/t.kind=3\/t.kind=13)
theorem zQ4(t:Ty)(S:ASt):ADet Tryz.prog 106 [tyV t] S (B t.copied) S:=by
 unfold Ty.copied;refine ADet.intro mixed call106 func106 rfl ?_
 by_cases h1:t.kind=1
 .simp[ntmps106,h1]
 have rd:(t.kind==1)=false:=by simpa using h1
 by_cases h2:t.kind=2
 .simp[ntmps106,h2]
 have ug:(t.kind==2)=false:=by simpa using h2
 by_cases h3:t.kind=3
 .simp[ntmps106,h3]
 have yb:(t.kind==3)=false:=by simpa using h3
 by_cases h4:t.kind=13
 .simp[ntmps106,h4]
 have pi:(t.kind==13)=false:=by simpa using h4
 simp[ntmps106,h1,h2,h3,h4,rd,ug,yb,pi]
theorem zNU:∀(t:Ty) (S:ASt),ADet Tryz.prog 64 [tyV t] S (B t.owned) S:=by
 refine Ty.ind fun t ih S=>?_
 have cC:∀S,ADet Tryz.prog 56 [.p (.sl 3 (t.args.map Ty.enc)),.fn (.func 102) [] []] S (B (t.args.any fun x=>!x.owned)) S:=fun S=>
  zFl _ _ _ _ _ fun x hx L M=>by
   refine ADet.intro mixed call102 func102 rfl ?_;simp[ntmps102];refine cq (ih x hx _) ?_;simp
 have ja:(t.args.any fun x=>!x.owned)= !(t.args.all Ty.owned):=by simp[List.all_eq_not_any_not]
 rw[ja]at cC;rw[zNF]
 generalize t.args.all Ty.owned=b at*
 refine ADet.intro mixed call64 func64 rfl ?_
 by_cases h1:t.kind=13
 .simp[ntmps64,h1]
 have rd:(t.kind==13)=false:=by simpa using h1
 by_cases h2:t.kind=14
 .simp[ntmps64,h2]
 have ug:(t.kind==14)=false:=by simpa using h2
 simp[ntmps64,rd,ug];refine cq (cC _) ?_;simp[h1,h2]
end Go.Proofs.YtgpajpilkapciaaGreatDoor
