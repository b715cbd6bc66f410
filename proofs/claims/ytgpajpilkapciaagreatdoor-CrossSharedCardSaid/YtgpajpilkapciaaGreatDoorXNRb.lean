/- A part of the proof. -/
import Derived.Test.YtgpajpilkapciaaGreatDoorXMNp
import Derived.Test.YtgpajpilkapciaaGreatDoorXNAr
import Derived.Test.YtgpajpilkapciaaGreatDoorXMWi
set_option linter.unusedVariables false
set_option linter.unusedSimpArgs false
set_option maxRecDepth 100000
set_option maxHeartbeats 32000000
namespace Go.Proofs.YtgpajpilkapciaaGreatDoor
open Go.RowKit _root_.Go.Proofs.Tryz
attribute [local simp] List.replicate List.range List.range.loop
variable{S:ASt}{d:Nat}{p:List It}
def idxI{α:Type}(p:α->Bool)(l:List α):Int:=match l.findIdx? p with|some q=>(q:Int)|none=>-1
theorem zQz{α:Type}{p:α->Bool}{l:List α}{q:Nat}(h:∀i (hi:i<l.length),i<q->p l[i]=false)(hq:q<l.length)(hp:p l[q]=true):idxI p l=q:=by
 unfold idxI
 have:l.findIdx? p=some q:=by
  rw[List.findIdx?_eq_some_iff_getElem];exact⟨hq,hp,fun j hj=>by simpa using h j (by omega) hj⟩
 rw[this]
theorem zNN{α:Type}{p:α->Bool}{l:List α}(h:∀i (hi:i<l.length),p l[i]=false):idxI p l= -1:=by
 unfold idxI
 have:l.findIdx? p=none:=by
  rw[List.findIdx?_eq_none_iff];intro x hx
  obtain⟨i,hi,rfl⟩:=List.getElem_of_mem hx
  exact h i hi
 rw[this]
theorem zW0{α:Type}(p:α->Bool)(l:List α):decide (0<=idxI p l)=l.any p:=by
 unfold idxI
 cases h:l.findIdx? p with
 |none=>
  rw[List.findIdx?_eq_none_iff]at h
  have:l.any p=false:=by
   rw[List.any_eq_false];intro x hx;simp[h x hx]
  rw[this];rfl
 |some q=>
  rw[List.findIdx?_eq_some_iff_getElem]at h
  obtain⟨hq,hp,_⟩:=h
  have:l.any p=true:=List.any_eq_true.2 ⟨_,List.getElem_mem hq,hp⟩
  rw[this];simp
theorem zUB(p:Ty->Bool)(l:List Ty)(K:Nat)(caps:List AV)(S:ASt)(hc:∀x∈l,∀L,ADet Tryz.prog K (tyV x::AV.ups 1 caps) (L::S) (B (p x)) (L::S)):
  ADet Tryz.prog 97 [.p (.sl 3 (l.map Ty.enc)),.fn (.func K) [] caps] S (I (idxI p l)) S:=by
 refine ADet.okP call97 0 rfl fun na=>?_
 have ca:=okl na
 refine ADet.intro mixed call97 func97 rfl ?_;simp[ntmps97];refine zH (fun q:Nat=>q<=l.length/\∀i (hi:i<l.length),i<q->p l[i]=false) (fun q=>[.p (.sl 3 (l.map Ty.enc)),.fn (.func K) [] (AV.ups 1 caps),.any,.any,.any,.any,.any,I l.length,I q,.any,.any,.any,.any,.any,.any,.any,.any,.any,.any]) (fun q=>[]::S) (fun q=>l.length-q) 0 ⟨Nat.zero_le _,fun i hi h=>by omega⟩ ?_ ?_ ?_
 .simp
 .simp
 rintro q ⟨hq,ja⟩
 by_cases hlt:q<l.length
 .have aa:(q:Int)<(l.length:Int):=by omega
  generalize hx:l[q]=x
  have Ce:=hc x (by rw[<-hx];exact List.getElem_mem hlt)
  simp[hlt,aa,hx,zP];refine cq (Ce _) ?_
  cases hp:p x with
  |true=>
   have:=zQz ja hlt (by rw[hx];exact hp)
   simp[this]
  |false=>
   simp
   exact⟨q+1,⟨hlt,fun i hi h=>by
    rcases Nat.lt_or_ge i q with h'|h'
    .exact ja i hi h'
    obtain rfl:i=q:=by omega
    rw[hx];exact hp⟩,by omega,zA hlt⟩
 have aa:¬(q:Int)<(l.length:Int):=by omega
 have:=zNN (p:=p) (l:=l) (fun i hi=>ja i hi (by omega))
 simp[aa,this]
theorem zNO(p:It->Bool)(l:List It)(K:Nat)(caps:List AV)(S:ASt)(hc:∀x∈l,∀L,ADet Tryz.prog K (itV x::AV.ups 1 caps) (L::S) (B (p x)) (L::S)):
  ADet Tryz.prog 98 [.p (.sl 16 (l.map It.enc)),.fn (.func K) [] caps] S (I (idxI p l)) S:=by
 refine ADet.okP call98 0 rfl fun na=>?_
 have ca:=okl na
 refine ADet.intro mixed call98 func98 rfl ?_;simp[ntmps98];refine zH (fun q:Nat=>q<=l.length/\∀i (hi:i<l.length),i<q->p l[i]=false) (fun q=>[.p (.sl 16 (l.map It.enc)),.fn (.func K) [] (AV.ups 1 caps),.any,.any,.any,.any,.any,I l.length,I q,.any,.any,.any,.any,.any,.any,.any,.any,.any,.any]) (fun q=>[]::S) (fun q=>l.length-q) 0 ⟨Nat.zero_le _,fun i hi h=>by omega⟩ ?_ ?_ ?_
 .simp
 .simp
 rintro q ⟨hq,ja⟩
 by_cases hlt:q<l.length
 .have aa:(q:Int)<(l.length:Int):=by omega
  generalize hx:l[q]=x
  have Ce:=hc x (by rw[<-hx];exact List.getElem_mem hlt)
  simp[hlt,aa,hx,It.enc];refine cq (Ce _) ?_
  cases hp:p x with
  |true=>
   have:=zQz ja hlt (by rw[hx];exact hp)
   simp[this]
  |false=>
   simp
   exact⟨q+1,⟨hlt,fun i hi h=>by
    rcases Nat.lt_or_ge i q with h'|h'
    .exact ja i hi h'
    obtain rfl:i=q:=by omega
    rw[hx];exact hp⟩,by omega,zA hlt⟩
 have aa:¬(q:Int)<(l.length:Int):=by omega
 have:=zNN (p:=p) (l:=l) (fun i hi=>ja i hi (by omega))
 simp[aa,this]
theorem zFl(p:Ty->Bool)(l:List Ty)(K:Nat)(caps:List AV)(S:ASt)(hc:∀x∈l,∀L M,ADet Tryz.prog K (tyV x::AV.ups 1 (AV.ups 1 caps)) (L::M::S) (B (p x)) (L::M::S)):
  ADet Tryz.prog 56 [.p (.sl 3 (l.map Ty.enc)),.fn (.func K) [] caps] S (B (l.any p)) S:=by
 refine ADet.intro mixed call56 func56 rfl ?_;simp[ntmps56];refine⟨_,_,zUB p l K (AV.ups 1 caps) _ (fun x hx L=>hc x hx L _),?_⟩
 have:=zW0 p l
 simp[this]
theorem zNP:∀(t:Ty) (S:ASt),ADet Tryz.prog 37 [tyV t] S (B t.owned) S:=by
 refine Ty.ind fun t ih S=>?_
 have cC:∀S,ADet Tryz.prog 56 [.p (.sl 3 (t.args.map Ty.enc)),.fn (.func 57) [] []] S (B (t.args.any fun x=>!x.owned)) S:=fun S=>
  zFl _ _ _ _ _ fun x hx L M=>by
   refine ADet.intro mixed call57 func57 rfl ?_;simp[ntmps57];refine cq (ih x hx _) ?_;simp
 have ja:(t.args.any fun x=>!x.owned)= !(t.args.all Ty.owned):=by simp[List.all_eq_not_any_not]
 rw[ja]at cC;rw[zNF]
 generalize t.args.all Ty.owned=b at*
 refine ADet.intro mixed call37 func37 rfl ?_
 by_cases h1:t.kind=13
 .simp[ntmps37,h1]
 have rd:(t.kind !=13)=true:=by simpa using h1
 by_cases h2:t.kind=14
 .simp[ntmps37,h2]
 have ug:(t.kind !=14)=true:=by simpa using h2
 simp[ntmps37,rd,ug];refine cq (cC _) ?_;simp[h1,h2]
def OkTo(t:Ty)(q:Nat):Prop:=∀i (hi:i<t.args.length),i<q->(t.args[i].stands&&zC4 t.kind t.args[i])=true
theorem zJm:∀(t:Ty) (S:ASt),ADet Tryz.prog 36 [tyV t] S (B t.stands) S:=by
 refine Ty.ind fun t ih S=>?_
 refine ADet.okA call36 0 2 rfl rfl fun na=>?_
 have ca:=okl na
 have kf:t.stands=t.args.all fun x=>x.stands&&zC4 t.kind x:=zQh t
 refine ADet.intro mixed call36 func36 rfl ?_;simp[ntmps36];refine zH (fun q:Nat=>q<=t.args.length/\OkTo t q) (fun q=>([.any,.ptr 0 0 0,.any,.any,.any,.any,.p (.sl 3 (t.args.map Ty.enc)),I t.args.length,I q]++List.replicate 31 .any)) (fun q=>[.cells [U t.kind,Sg t.name,.p (.sl 3 (t.args.map Ty.enc))] 35]::S) (fun q=>t.args.length-q) 0 ⟨Nat.zero_le _,fun i hi h=>by omega⟩ ?_ ?_ ?_
 .simp
 .simp
 rintro q ⟨hq,ja⟩
 by_cases hlt:q<t.args.length
 .have hx:=ih _ (List.getElem_mem hlt)
  have ox:=fun S=>zNP t.args[q] S
  have aa:(q:Int)<(t.args.length:Int):=by omega
  have Mb:(t.args[q].stands&&zC4 t.kind t.args[q])=false->t.stands=false:=fun h=>by
   rw[kf,List.all_eq_false];exact⟨_,List.getElem_mem hlt,by simp[h]⟩
  have Zi:(t.args[q].stands&&zC4 t.kind t.args[q])=true->OkTo t (q+1):=fun h i hi Dg=>by
   rcases Nat.lt_or_ge i q with h'|h'
   .exact ja i hi h'
   obtain rfl:i=q:=by omega
   exact h
  generalize he:t.args[q]=x at*
  simp[hlt,aa,he,zP];refine cq (hx _) ?_
  cases hs:x.stands with
  |false=>
   have:=Mb (by simp[zC4,hs])
   simp[this]
  |true=>
   by_cases h6:t.kind=6
   .by_cases h3:3<x.kind
    .have:=Mb (by simp[zC4,hs,h6,h3])
     simp[h6,h3,this]
    simp[h6,h3]
    refine cq (ox _) ?_
    cases ho:x.owned with
    |false=>
     have:=Mb (by simp[zC4,hs,h6,h3,ho])
     simp[this]
    |true=>
     simp;exact⟨q+1,⟨hlt,Zi (by simp[zC4,hs,h6,h3,ho])⟩,by omega,zA hlt⟩
   have Fl:(t.kind==6)=false:=by simpa using h6
   by_cases wd:t.kind=13
   .simp[wd]
    exact⟨q+1,⟨hlt,Zi (by simp[zC4,hs,wd])⟩,by omega,zA hlt⟩
   by_cases mf:t.kind=14
   .simp[mf]
    exact⟨q+1,⟨hlt,Zi (by simp[zC4,hs,mf])⟩,by omega,zA hlt⟩
   have ig:(t.kind !=13)=true:=by simpa using wd
   have Xh:(t.kind !=14)=true:=by simpa using mf
   simp[Fl,ig,Xh];refine cq (ox _) ?_
   cases ho:x.owned with
   |false=>
    have:=Mb (by simp[zC4,hs,h6,wd,mf,ho])
    simp[this]
   |true=>
    simp;exact⟨q+1,⟨hlt,Zi (by simp[zC4,hs,h6,wd,mf,ho])⟩,by omega,zA hlt⟩
 have aa:¬(q:Int)<(t.args.length:Int):=by omega
 have:t.stands=true:=by
  rw[kf,List.all_eq_true];intro x hx
  obtain⟨i,hi,rfl⟩:=List.getElem_of_mem hx
  exact ja i hi (by omega)
 simp[aa,this]
abbrev itZ0:AV:=.agg [U 0,Sg emS,nilS,U 0,Sg emS,nilS,nilS,U 0,I 0,Sg emS,Sg emS,Sg emS,nilS,nilS,I 0,I 0]
theorem zNQ{α:Type}(p:α->Bool)(l:List α):(l.find? p=none/\idxI p l= -1)\/∃q,∃h:q<l.length,l.find? p=some l[q]/\idxI p l=q:=by
 unfold idxI
 cases h:l.findIdx? p with
 |none=>
  rw[List.findIdx?_eq_none_iff]at h;refine .inl ⟨?_,rfl⟩;rw[List.find?_eq_none];intro x hx
  simp[h x hx]
 |some q=>
  rw[List.findIdx?_eq_some_iff_getElem]at h
  obtain⟨hq,hp,hn⟩:=h
  refine .inr ⟨q,hq,?_,rfl⟩;rw[List.find?_eq_some_iff_getElem];exact⟨hp,q,hq,rfl,fun j hj=>by simpa using hn j hj⟩
def zNR(p:List It)(nm:BA):AV:=match zU p nm with|some x=>.tup [itV x,B true]|none=>.tup [itZ0,B false]
theorem zVL(p:List It)(nm:BA)(S:ASt):ADet Tryz.prog 59 [.agg [.p (prog p)],Sg nm] S (zNR p nm) S:=by
 refine ADet.okA call59 0 0 rfl rfl fun na=>?_
 have ca:=okl na
 have iC:∀L:List AObj,get2 (L::S) 0 1=some (.cells [Sg nm] 9)->ADet Tryz.prog 98 [.p (.sl 16 (p.map It.enc)),.fn (.func 99) [] [.ptr 0 1 0]] (L::S) (I (idxI (fun x:It=>(decide (x.kind≠3))&&sEq x.name nm) p)) (L::S):=fun L hL=>
  zNO _ _ _ _ _ fun x hx M=>by
   have hg:get2 (M::L::S) 1 1=some (.cells [Sg nm] 9):=hL
   refine ADet.intro mixed call99 func99 rfl ?_
   by_cases h3:x.kind=3
   .simp[ntmps99,h3]
   have yb:(x.kind !=3)=true:=by simpa using h3
   simp only[zKG]at hg;simp[ntmps99,yb,h3,hL]
 refine ADet.intro mixed call59 func59 rfl ?_;simp[ntmps59,prog];refine cq (iC _ rfl) ?_;unfold zNR zU
 rcases zNQ (fun x:It=>(decide (x.kind≠3))&&sEq x.name nm) p with⟨h1,h2⟩|⟨q,hq,h1,h2⟩
 .rw[h1,h2]
  simp
 rw[h1,h2]
 have oi:(q:Int)<(p.length:Int):=by omega
 have Na:¬(q:Int)<0:=by omega
 simp[hq,oi,Na,It.enc]
def zFL(g:List BA):AObj:=.map (g.map fun s=>(.string s,I 1))
theorem zK4(s:BA):∀(l:List BA) (i:Nat),∃j,zA0 .string (.string s) (l.map fun s=>(.string s,I 1)) i=some (if l.any (fun g=>sEq s g)=true then some (j,I 1)else none)
 | [],i=>⟨0,rfl⟩
 |t::l,i=>by
  rw[List.map_cons,zDr,List.any_cons]
  cases sEq s t with
  |true=>exact⟨i,rfl⟩
  |false=>exact zK4 s l (i+1)
structure FdAt (p:List It) (x:It) (S:ASt) (d:Nat) (g:List BA):Prop where
 o0:get2 S d 0=some (.cells [.p (prog p)] 27)
 o1:get2 S d 1=some (.cells (itU x) 44)
 o2:get2 S d 2=some (zFL g)
 o3:get2 S d 3=some (.cells [.mp 0 2] 123)
 o4:get2 S d 4=some (.cells [.fn (.func 58) [] [.ptr 0 1 0,.ptr 0 3 0,.ptr 0 0 0,.ptr 0 4 0]] 121)
theorem FdAt.push{x:It}{g:List BA}(h:FdAt p x S d g)(L:List AObj):FdAt p x (L::S) (d+1) g:=⟨h.o0,h.o1,h.o2,h.o3,h.o4⟩
theorem FdAt.upd{x:It}{g:List BA}(h:FdAt p x S d g)(g':List BA):FdAt p x (set2 S d 2 (zFL g')) d g':=by
 refine⟨?_,?_,?_,?_,?_⟩
 .rw[zF _ h.o2,if_neg (by simp)];exact h.o0
 .rw[zF _ h.o2,if_neg (by simp)];exact h.o1
 .rw[zF _ h.o2,if_pos ⟨rfl,rfl⟩]
 .rw[zF _ h.o2,if_neg (by simp)];exact h.o3
 rw[zF _ h.o2,if_neg (by simp)];exact h.o4
theorem FdAt.same{x:It}{g:List BA}(h:FdAt p x S d g):set2 S d 2 (zFL g)=S:=zAG h.o2
def FdC(p:List It)(x:It)(y:It)(g:List BA)(b:Bool)(g':List BA):Prop:=∀(S:ASt) (d:Nat),FdAt p x S d g->ADet Tryz.prog 58 [itV y,.ptr d 1 0,.ptr d 3 0,.ptr d 0 0,.ptr d 4 0] S (B b) (set2 S d 2 (zFL g'))
theorem FdC.at{x y:It}{g g1 g2:List BA}{b:Bool}(hw:FdC p x y g1 b g2)(h:FdAt p x S d g)(L:List AObj):
  ADet Tryz.prog 58 [itV y,.ptr (d+1) 1 0,.ptr (d+1) 3 0,.ptr (d+1) 0 0,.ptr (d+1) 4 0] (L::set2 S d 2 (zFL g1)) (B b) (L::set2 S d 2 (zFL g2)):=by
 have:=hw _ _ ((h.upd g1).push L)
 rw[zAi,zB5]at this;exact this
theorem zY9(p:List It)(x:It):∀(N:Nat) (y:It) (g:List BA) (b:Bool) (g':List BA),zCR p x.name N y.fields g=some (b,g')->FdC p x y g b g':=by
 intro N
 induction N using Nat.strongRecOn with
 |_ N IH=>
 intro y g b g' hf S d hF;refine ADet.okA call58 0 2 rfl rfl fun na=>?_
 have ca:=okl na
 have key:ADet Tryz.prog 58 [itV y,.ptr d 1 0,.ptr d 3 0,.ptr d 0 0,.ptr d 4 0] (set2 S d 2 (zFL g)) (B b) (set2 S d 2 (zFL g')):=by
  refine ADet.introQ mixed call58 func58 rfl (by kernel_rfl) ?_
  simp[ntmps58];refine zG6 (fun a:Nat × Nat × List BA=>a.1<=y.fields.length/\a.2.1<=N/\zCR p x.name a.2.1 (y.fields.drop a.1) a.2.2=some (b,g')) (fun a=>([.any,.ptr (d+1) 1 0,.ptr (d+1) 3 0,.ptr (d+1) 0 0,.ptr (d+1) 4 0,.ptr 0 0 0,.any,B false,.any,.any,.any,.any,.any,.p (.sl 4 (y.fields.map Fi.enc)),I y.fields.length,I a.1]++List.replicate 44 .any)) (fun a=>[.cells (itU y) 44]::set2 S d 2 (zFL a.2.2)) (fun a=>y.fields.length-a.1) (0,N,g) ⟨Nat.zero_le _,Nat.le_refl _,hf⟩ ?_ ?_ ?_
  .simp
  .simp
  rintro⟨q,k,g1⟩ ⟨hq,hk,hg⟩
  simp only at hq hk hg
  have Qa:=hF.upd g1
  by_cases hlt:q<y.fields.length
  .have aa:(q:Int)<(y.fields.length:Int):=by omega
   have hd:y.fields.drop q=y.fields[q]::y.fields.drop (q+1):=List.drop_eq_getElem_cons hlt
   have hw:=zA hlt
   have hm:y.fields.length-(q+1)<y.fields.length-q:=by omega
   rw[hd]at hg
   cases k with
   |zero=>simp[zCR]at hg
   |succ k=>
   generalize he:y.fields[q]=f at*
   simp only[zCR]at hg
   have o1:=Qa.o1
   have o0:=Qa.o0
   have o2:=Qa.o2
   have o3:=Qa.o3
   have o4:=Qa.o4
   simp only[zFL]at o0 o1 o2 o3 o4
   by_cases h4:f.type.kind=4
   .rw[if_neg (by simp[h4])]at hg
    by_cases hn:sEq f.type.name x.name=true
    .rw[if_pos hn]at hg
     cases hg;simp[hlt,aa,he,Fi.enc,h4,o1,hn,zFL]
    rw[if_neg hn]at hg
    have gn:sEq f.type.name x.name=false:=by simpa using hn
    obtain⟨j,hj⟩:=zK4 f.type.name g1 0
    by_cases ha:g1.any (fun g=>sEq f.type.name g)=true
    .rw[if_pos ha]at hg
     rw[if_pos ha]at hj;simp[hlt,aa,he,Fi.enc,h4,o1,o2,o3,gn,zFL,hj];exact⟨q+1,k,g1,⟨hlt,by omega,hg⟩,by omega,hw,rfl⟩
    rw[if_neg ha]at hg
    rw[if_neg ha]at hj
    have Mq:=hF.upd (g1++[f.type.name])
    have p0:=Mq.o0
    have p4:=Mq.o4
    have fC:=fun S=>zVL p f.type.name S
    have Ee:IntKind.i64.wrap 1=1:=by decide
    simp only[zFL,List.map_append,List.map_cons,List.map_nil]at p0 p4;simp[hlt,aa,he,Fi.enc,h4,o1,o2,o3,gn,zFL,hj,Ee,p0];refine cq (fC _) ?_;unfold zNR
    cases Pc:zU p f.type.name with
    |none=>
     rw[Pc]at hg;simp
     exact⟨q+1,k,g1++[f.type.name],⟨hlt,by omega,hg⟩,by omega,hw,by simp⟩
    |some z=>
     rw[Pc]at hg
     dsimp only at hg
     cases h5:zCR p x.name k z.fields (g1++[f.type.name])with
     |none=>rw[h5]at hg;cases hg
     |some r=>
      obtain⟨b1,g2⟩:=r
      have hZ:=fun L=>(IH k (by omega) z _ b1 g2 h5).at hF L
      simp only[zFL,List.map_append,List.map_cons,List.map_nil]at hZ;simp[p4];refine cq (hZ _) ?_
      cases b1 with
      |true=>
       rw[h5]at hg;cases hg
       simp
      |false=>
       rw[h5]at hg;simp;exact⟨q+1,k,g2,⟨hlt,by omega,hg⟩,by omega,hw,rfl⟩
   rw[if_pos h4]at hg
   have pi:(f.type.kind !=4)=true:=by simpa using h4
   simp[hlt,aa,he,Fi.enc,pi];exact⟨q+1,k,g1,⟨hlt,by omega,hg⟩,by omega,hw,rfl⟩
  have aa:¬(q:Int)<(y.fields.length:Int):=by omega
  rw[List.drop_of_length_le (by omega)]at hg
  have:b=false/\g1=g':=by cases k<;>simp[zCR]at hg<;>exact⟨by first|exact hg.1|exact hg.1.symm,by first|exact hg.2|exact hg.2.symm⟩
  obtain⟨rfl,rfl⟩:=this
  simp[aa]
 rw[hF.same]at key;exact key
theorem zW1(p:List It)(x:It)(n:Nat)(b:Bool)(g':List BA)(h:zCR p x.name n x.fields []=some (b,g'))(S:ASt):ADet Tryz.prog 39 [.agg [.p (prog p)],itV x] S (B b) S:=by
 have fC:=zY9 p x n x [] b g' h
 refine ADet.intro mixed call39 func39 rfl ?_;simp[ntmps39];refine cq (fC _ 0 ⟨rfl,rfl,rfl,rfl,rfl⟩) ?_;simp
attribute [local simp] zf za zn zb List.forall_mem_cons List.contains_cons List.contains_nil List.find? zm zl zZ
def lkO(l:List Flt):AObj:=.cells [.osl 2 (l.map fltE) 0 2] 101
def ltO(l:List Flt):AObj:=.tok 54 2 l.length
structure LkAt (S:ASt) (d:Nat) (l:List Flt):Prop where
 o:get2 S d 1=some (lkO l)
 t:get2 S d 2=some (ltO l)
def updL(S:ASt)(d:Nat)(l:List Flt):ASt:=set2 (set2 S d 1 (lkO l)) d 2 (ltO l)
theorem LkAt.push{l:List Flt}(h:LkAt S d l)(L:List AObj):LkAt (L::S) (d+1) l:=⟨h.o,h.t⟩
theorem LkAt.upd{l:List Flt}(h:LkAt S d l)(q:List Flt):LkAt (updL S d q) d q:=by
 refine⟨?_,?_⟩
 .unfold updL
  rw[zBq _ _ _ (by omega),z6,h.o];rfl
 unfold updL
 rw[z6,zBq _ _ _ (by omega),h.t];rfl
theorem zQ0(S:ASt)(d:Nat)(p q:List Flt):updL (updL S d p) d q=updL S d q:=by
 unfold updL;rw[zKc (i:=1) (j:=2) _ _ _ _ (by omega),zB5,zB5]
theorem zUC(L:List AObj)(S:ASt)(d:Nat)(p:List Flt):updL (L::S) (d+1) p=L::updL S d p:=by
 unfold updL;rw[zAi,zAi]
theorem LkAt.same{l:List Flt}(h:LkAt S d l):updL S d l=S:=by
 unfold updL;rw[zAG h.o,zAG h.t]
def LkC(F:Nat)(args:List AV)(l l':List Flt):Prop:=∀(S:ASt) (d:Nat),LkAt S d l->ADet Tryz.prog F (.ptr d 1 0::args) S .un (updL S d l')
theorem LkC.at{F:Nat}{args:List AV}{l l1 l2:List Flt}(hw:LkC F args l1 l2)(h:LkAt S d l)(L:List AObj):ADet Tryz.prog F (.ptr (d+1) 1 0::args) (L::updL S d l1) .un (L::updL S d l2):=by
 have:=hw _ _ ((h.upd l1).push L)
 rw[zUC,zQ0]at this;exact this
theorem LkC.intro{F:Nat}{args:List AV}{l l':List Flt}(hw:∀(S:ASt) (d:Nat),LkAt S d l->ADet Tryz.prog F (.ptr d 1 0::args) (updL S d l) .un (updL S d l')):LkC F args l l':=fun S d h=>by
 have:=hw S d h
 rw[h.same]at this;exact this
theorem zUD(l:List Flt)(x:Flt):set2 (set2 (updL S d l) d 2 (ltO (l++[x]))) d 1 (lkO (l++[x]))=updL S d (l++[x]):=by
 unfold updL;rw[zB5,zKc _ d (j:=2) (i:=1) _ _ (by omega),zB5]
theorem zNS(kb:Bool)(e a:Int)(l:List Flt)(hl:l.length+1<=4294967296):LkC 35 [B kb,I e,I a] l (l++zI kb e a):=LkC.intro fun S d h=>by
 have ho:=(h.upd l).o
 have ht:=(h.upd l).t
 unfold zI;refine ADet.intro mixed call35 func35 rfl ?_
 cases kb with
 |true=>simp[ntmps35]
 |false=>
  have hu:=zUD (S:=S) (d:=d) l (e,a)
  simp only[lkO,ltO,updL,List.map_append,List.map_cons,List.map_nil,fltE,List.length_append,List.length_cons,List.length_nil]at ho ht hu
  have Cg:=h.o
  have Zj:=h.t
  simp only[lkO,ltO]at Cg Zj
  have n1:=fun(T:ASt) o=>zBq T d (i:=2) (j:=1) o (by omega)
  have n2:=fun(T:ASt) o=>zBq T d (i:=1) (j:=2) o (by omega)
  simp[ntmps35,Cg,Zj,n1,n2,hl,updL,lkO,ltO]
  simpa [fltE]using hu
theorem zEp(l:List St):St.tabss l=l.flatMap St.tabs:=by
 induction l with
 |nil=>rfl
 |cons s l ih=>rw[St.tabss,ih];rfl
theorem zK5(l:List Ar):Ar.tabss l=l.flatMap fun a=>St.tabss a.body:=by
 induction l with
 |nil=>rfl
 |cons a l ih=>obtain⟨v,n,b⟩:=a;rw[Ar.tabss,ih];rfl
theorem zZA(s:St):s.tabs=zI ((s.op !=12)||(s.type.stands&&s.type.owned)) 70 s.pos++(St.tabss s.body++(St.tabss s.els++s.arms.flatMap fun a=>St.tabss a.body)):=by
 cases s;rw[St.tabs,zK5];rfl
theorem zOj(l:List St){q:Nat}(h:q<l.length):St.tabss (l.take (q+1))=St.tabss (l.take q)++l[q].tabs:=by
 rw[zEp,zEp,List.take_succ_eq_append_getElem h,List.flatMap_append];simp
theorem zDJ{α β:Type}(f:α->List β)(l:List α)(q:Nat):((l.take q).flatMap f).length<=(l.flatMap f).length:=by
 have:l.flatMap f=(l.take q).flatMap f++(l.drop q).flatMap f:=by rw[<-List.flatMap_append,List.take_append_drop]
 rw[this,List.length_append];omega
def SsC(ss:List St):Prop:=∀l,l.length+(St.tabss ss).length<=4000000000->LkC 38 [.p (.sl 15 (ss.map St.enc))] l (l++St.tabss ss)
theorem zNT(ss:List St)(hq:∀s∈ss,SsC s.body/\SsC s.els/\∀a∈s.arms,SsC a.body):SsC ss:=by
 intro l hl;refine LkC.intro fun S d h=>?_
 refine ADet.okP call38 1 rfl fun na=>?_
 have ca:=okl na
 obtain⟨F,hF⟩:∃F:Nat->List Flt,F=fun q=>l++St.tabss (ss.take q):=⟨_,rfl⟩
 have mb:F 0=l:=by rw[hF];simp[St.tabss]
 have Qb:F ss.length=l++St.tabss ss:=by rw[hF];simp
 have Fb:∀q,(F q).length<=4000000000:=fun q=>by
  rw[hF]
  have:=zDJ St.tabs ss q
  rw[<-zEp,<-zEp]at this;simp only[List.length_append];omega
 have Gb:∀q (h:q<ss.length),F (q+1)=F q++ss[q].tabs:=fun q h=>by rw[hF];simp only[zOj _ h,List.append_assoc]
 clear hF;rw[<-Qb];refine ADet.intro mixed call38 func38 rfl ?_;simp[ntmps38];refine zH (fun q:Nat=>q<=ss.length) (fun q=>([.ptr (d+1) 1 0,.any,.any,.any,.any,.any,.any,.any,.p (.sl 15 (ss.map St.enc)),I ss.length,I q]++List.replicate 41 .any)) (fun q=>[]::updL S d (F q)) (fun q=>ss.length-q) 0 (Nat.zero_le _) ?_ ?_ ?_
 .simp
 .simp[mb]
 intro q Gj
 by_cases hlt:q<ss.length
 .have aa:(q:Int)<(ss.length:Int):=by omega
  obtain⟨qb,qe,qa⟩:=hq _ (List.getElem_mem hlt)
  have Qa:=Gb q hlt
  have va:=Fb (q+1)
  have Ko:PVok (.sl 3 (ss[q].arms.map Ar.enc)):=(zX1 na (List.getElem_mem hlt)).2.2.2.2.2.2
  have Nq:=okl Ko
  have hw:=zA hlt
  have ra:ss.length-(q+1)<ss.length-q:=by omega
  generalize he:ss[q]=s at*
  rw[zZA]at Qa
  obtain⟨pf,hh⟩:∃b,b=((s.op !=12)||(s.type.stands&&s.type.owned)):=⟨_,rfl⟩
  rw[<-hh]at Qa
  obtain⟨W1,aj⟩:∃W,W=F q++zI pf 70 s.pos:=⟨_,rfl⟩
  obtain⟨W2,jg⟩:∃W,W=W1++St.tabss s.body:=⟨_,rfl⟩
  obtain⟨W3,Hj⟩:∃W,W=W2++St.tabss s.els:=⟨_,rfl⟩
  obtain⟨G,hG⟩:∃G:Nat->List Flt,G=fun k=>W3++(s.arms.take k).flatMap fun a=>St.tabss a.body:=⟨_,rfl⟩
  have Bg:G 0=W3:=by rw[hG];simp
  have qi:G s.arms.length=F (q+1):=by rw[hG,Qa,Hj,jg,aj];simp
  have bj:∀k (h:k<s.arms.length),G (k+1)=G k++St.tabss s.arms[k].body:=fun k h=>by
   rw[hG];simp only[List.take_succ_eq_append_getElem h,List.flatMap_append,List.append_assoc];simp
  have ri:∀k,k<=s.arms.length->(G k).length<=4000000000:=fun k hk=>by
   have:=zDJ (fun a:Ar=>St.tabss a.body) s.arms k
   rw[<-qi]at va;rw[hG]at va ⊢;simp only[List.length_append,List.take_length]at va ⊢;omega
  have fm:W3.length<=4000000000:=by rw[<-Bg];exact ri 0 (Nat.zero_le _)
  have we:W2.length+(St.tabss s.els).length<=4000000000:=by rw[Hj,List.length_append]at fm;exact fm
  have Lo:W1.length+(St.tabss s.body).length<=4000000000:=by rw[jg,List.length_append]at we;omega
  have wC:=fun L=>(zNS pf 70 s.pos (F q) (by have:=Fb q;omega)).at h L
  have bC:=fun L=>(qb W1 Lo).at h L
  have eC:=fun L=>(qe W2 we).at h L
  rw[<-jg]at bC;rw[<-Hj]at eC;rw[<-aj]at wC
  have rest:∀{ia:List AV} {Q:Exit->List AV->ASt->Prop},True:=fun {_ _}=>trivial
  clear aj jg Hj Qa Gb
  by_cases uc:s.op=12
  .cases hs:s.type.stands with
   |false=>
    have:pf=false:=by rw[hh,uc,hs];rfl
    subst this;simp[hlt,aa,he,zBN];refine dB [(15,7),(15,11)] (by kernel_rfl) ?_
    simp[uc];refine cq (zJm s.type _) ?_;rw[hs];simp;refine cq (wC _) ?_;simp;refine cq (bC _) ?_;simp;refine cq (eC _) ?_;simp;refine zH (fun k:Nat=>k<=s.arms.length) (fun k=>([.ptr (d+1) 1 0,.any,.any,.any,.any,.any,.any,.any,.p (.sl 15 (ss.map St.enc)),I ss.length,I q]++(List.replicate 29 .any++[.p (.sl 3 (s.arms.map Ar.enc)),I s.arms.length,I k,.any,.any,.any,.any,.any,.any,.any,.any,.any]))) (fun k=>[.cells (stU s) 57]::updL S d (G k)) (fun k=>s.arms.length-k) 0 (Nat.zero_le _) ?_ ?_ ?_
    .simp
    .simp[Bg,uc]
    intro k gm
    by_cases Dc:k<s.arms.length
    .have kg:(k:Int)<(s.arms.length:Int):=by omega
     have ud:=bj k Dc
     have Yh:=ri (k+1) Dc
     have im:=qa _ (List.getElem_mem Dc) (G k) (by rw[ud,List.length_append]at Yh;exact Yh)
     have aC:=fun L=>im.at h L
     rw[<-ud]at aC
     have Yg:=zA Dc
     generalize km:s.arms[k]=a at*
     simp[Dc,kg,km,Ar.enc];refine cq (aC _) ?_;simp;exact⟨k+1,Dc,by omega,Yg,rfl⟩
    have Bk:k=s.arms.length:=by omega
    subst Bk;simp
    exact⟨q+1,hlt,ra,hw,by rw[qi]⟩
   |true=>
    have:pf=s.type.owned:=by rw[hh,uc,hs];rfl
    subst this;simp[hlt,aa,he,zBN];refine dB [(15,7),(15,11)] (by kernel_rfl) ?_
    simp[uc];refine cq (zJm s.type _) ?_;rw[hs];simp;refine cq (zNP s.type _) ?_;simp;refine cq (wC _) ?_;simp;refine cq (bC _) ?_;simp;refine cq (eC _) ?_;simp;refine zH (fun k:Nat=>k<=s.arms.length) (fun k=>([.ptr (d+1) 1 0,.any,.any,.any,.any,.any,.any,.any,.p (.sl 15 (ss.map St.enc)),I ss.length,I q]++(List.replicate 29 .any++[.p (.sl 3 (s.arms.map Ar.enc)),I s.arms.length,I k,.any,.any,.any,.any,.any,.any,.any,.any,.any]))) (fun k=>[.cells (stU s) 57]::updL S d (G k)) (fun k=>s.arms.length-k) 0 (Nat.zero_le _) ?_ ?_ ?_
    .simp
    .simp[Bg,uc]
    intro k gm
    by_cases Dc:k<s.arms.length
    .have kg:(k:Int)<(s.arms.length:Int):=by omega
     have ud:=bj k Dc
     have Yh:=ri (k+1) Dc
     have im:=qa _ (List.getElem_mem Dc) (G k) (by rw[ud,List.length_append]at Yh;exact Yh)
     have aC:=fun L=>im.at h L
     rw[<-ud]at aC
     have Yg:=zA Dc
     generalize km:s.arms[k]=a at*
     simp[Dc,kg,km,Ar.enc];refine cq (aC _) ?_;simp;exact⟨k+1,Dc,by omega,Yg,rfl⟩
    have Bk:k=s.arms.length:=by omega
    subst Bk;simp;exact⟨q+1,hlt,ra,hw,by rw[qi]⟩
  have cj:(s.op !=12)=true:=by simpa using uc
  have:pf=true:=by rw[hh,cj];rfl
  subst this;simp[hlt,aa,he,zBN];refine dB [(15,7),(15,11)] (by kernel_rfl) ?_
  simp[cj];refine cq (wC _) ?_;simp;refine cq (bC _) ?_;simp;refine cq (eC _) ?_;simp;refine zH (fun k:Nat=>k<=s.arms.length) (fun k=>([.ptr (d+1) 1 0,.any,.any,.any,.any,.any,.any,.any,.p (.sl 15 (ss.map St.enc)),I ss.length,I q]++(List.replicate 29 .any++[.p (.sl 3 (s.arms.map Ar.enc)),I s.arms.length,I k,.any,.any,.any,.any,.any,.any,.any,.any,.any]))) (fun k=>[.cells (stU s) 57]::updL S d (G k)) (fun k=>s.arms.length-k) 0 (Nat.zero_le _) ?_ ?_ ?_
  .simp
  .simp[Bg]
  intro k gm
  by_cases Dc:k<s.arms.length
  .have kg:(k:Int)<(s.arms.length:Int):=by omega
   have ud:=bj k Dc
   have Yh:=ri (k+1) Dc
   have im:=qa _ (List.getElem_mem Dc) (G k) (by rw[ud,List.length_append]at Yh;exact Yh)
   have aC:=fun L=>im.at h L
   rw[<-ud]at aC
   have Yg:=zA Dc
   generalize km:s.arms[k]=a at*
   simp[Dc,kg,km,Ar.enc];refine cq (aC _) ?_;simp;exact⟨k+1,Dc,by omega,Yg,rfl⟩
  have Bk:k=s.arms.length:=by omega
  subst Bk;simp;exact⟨q+1,hlt,ra,hw,by rw[qi]⟩
 have:q=ss.length:=by omega
 subst this;simp
theorem zW2:∀ss:List St,SsC ss:=by
 have key:∀s:St,SsC s.body/\SsC s.els/\∀a∈s.arms,SsC a.body:=
  St.ind fun s uo vo Ao=>⟨zNT _ uo,zNT _ vo,fun a ha=>zNT _ (Ao a ha)⟩
 exact fun ss=>zNT ss fun s _=>key s
def It.tabsD(p:List It)(n:Nat)(x:It):List Flt:=(x.tabs p n).getD []
theorem zHr{p:List It}{n:Nat}:∀{l:List It} {fs:List Flt},zFH p n l=some fs->fs=l.flatMap (It.tabsD p n)/\∀x∈l,x.tabs p n=some (x.tabsD p n)
 | [],fs,h=>by cases h;exact⟨rfl,fun x hx=>by cases hx⟩
 |x::l,fs,h=>by
  unfold zFH at h
  cases h1:x.tabs p n with
  |none=>rw[h1]at h;cases h
  |some a=>
   cases h2:zFH p n l with
   |none=>rw[h1,h2]at h;cases h
   |some b=>
    rw[h1,h2]at h;cases h
    obtain⟨e,ja⟩:=zHr h2
    refine⟨?_,fun y hy=>?_⟩
    .rw[List.flatMap_cons,<-e]
     simp[It.tabsD,h1]
    rcases List.mem_cons.1 hy with rfl|hy
    .simp[It.tabsD,h1]
    exact ja y hy
theorem LkC.zero{F:Nat}{args:List AV}{l l':List Flt}(hw:LkC F args l l')(a:AObj)(M:List AObj)(S:ASt):ADet Tryz.prog F (.ptr 0 1 0::args) ((a::lkO l::ltO l::M)::S) .un ((a::lkO l'::ltO l'::M)::S):=hw _ 0 ⟨rfl,rfl⟩
def zK6(x:It)(f:Fi):List Flt:=zI (f.type.stands&&((x.kind==3)||f.type.owned)) 70 x.pos
theorem zQ1(p:List It)(n:Nat)(ka:PrSm p)(fs:List Flt)(h:zIt p n=some fs)(hb:fs.length<=4000000000)(S:ASt):ADet Tryz.prog 19 [.agg [.p (prog p)]] S (.p (.sl 2 (fs.map fltE))) S:=by
 refine ADet.okA call19 0 0 rfl rfl fun na=>?_
 have ca:=okl na
 have wC:=fun S=>zGL p ka S
 refine ADet.intro mixed call19 func19 rfl ?_;simp[ntmps19];refine cq (wC _) ?_;unfold zIt at h
 cases hw:zx p with
 |false=>
  rw[hw]at h;simp at h;subst h
  simp[fltE]
 |true=>
 rw[hw]at h;simp only[if_true]at h
 obtain⟨Db,ja⟩:=zHr h
 obtain⟨F,hF⟩:∃F:Nat->List Flt,F=fun q=>(p.take q).flatMap (It.tabsD p n):=⟨_,rfl⟩
 have mb:F 0=[]:=by rw[hF];simp
 have Qb:F p.length=fs:=by rw[hF,Db];simp
 have Fb:∀q,(F q).length<=4000000000:=fun q=>by
  rw[hF]
  have:=zDJ (It.tabsD p n) p q
  rw[<-Db]at this
  show((p.take q).flatMap (It.tabsD p n)).length<=_
  omega
 have Gb:∀q (h:q<p.length),F (q+1)=F q++p[q].tabsD p n:=fun q h=>by
  rw[hF];simp only[List.take_succ_eq_append_getElem h,List.flatMap_append];simp
 clear hF Db h;rw[<-Qb];simp[prog];refine zBF 54 2 (by decide) [.cells [.p (.sl 16 (p.map It.enc))] 27,.cells [.osl 2 [] 0 2] 101] (fun q:Nat=>q<=p.length) (fun q=>([.any,.ptr 0 0 0,.any,.ptr 0 1 0]++(List.replicate 12 .any++([.p (.sl 16 (p.map It.enc)),I p.length,I q]++List.replicate 62 .any)))) (fun q=>[.cells [.p (.sl 16 (p.map It.enc))] 27,lkO (F q),ltO (F q)]::S) (fun q=>p.length-q) 0 (Nat.zero_le _) ?_ ?_ ?_ ?_
 .simp
 .simp
 .rw[mb];rfl
 intro q Gj
 by_cases hlt:q<p.length
 .have aa:(q:Int)<(p.length:Int):=by omega
  have Qa:=Gb q hlt
  have va:=Fb (q+1)
  have hx:=ja _ (List.getElem_mem hlt)
  have Mo:=zX2 (p:=p) (by simpa [prog]using na) (List.getElem_mem hlt)
  have Oq:=okl Mo.1
  have si:=zA hlt
  have ra:p.length-(q+1)<p.length-q:=by omega
  generalize he:p[q]=x at*
  obtain⟨W0,jn⟩:∃W,W=F q++x.fields.flatMap (zK6 x):=⟨_,rfl⟩
  obtain⟨W1,aj⟩:∃W,W=W0++zI (x.result.stands&&x.result.owned) 70 x.pos:=⟨_,rfl⟩
  obtain⟨W2,jg⟩:∃W,W=W1++St.tabss x.body:=⟨_,rfl⟩
  obtain⟨lb,Pq,Hj⟩:∃lb:Bool,(x.kind=3/\lb=true\/x.kind≠3/\∃g,zCR p x.name n x.fields []=some (!lb,g))/\F (q+1)=W2++zI lb 71 x.pos:=by
   unfold It.tabs at hx
   dsimp only at hx
   by_cases h3:x.kind=3
   .rw[if_pos h3]at hx
    refine⟨true,.inl ⟨h3,rfl⟩,?_⟩;rw[Qa,<-Option.some.inj hx,jg,aj,jn,show zI true 71 x.pos=[]from rfl,List.append_nil]
    simp only[List.append_assoc];rfl
   rw[if_neg h3]at hx
   obtain⟨⟨b,g⟩,bt,hx⟩:=Option.map_eq_some_iff.1 hx
   refine⟨!b,.inr ⟨h3,g,by rw[bt];simp⟩,?_⟩
   rw[Qa,<-hx,jg,aj,jn];simp only[List.append_assoc];rfl
  have we:W2.length+1<=4294967296:=by rw[Hj,List.length_append]at va;omega
  have Ck:W1.length+(St.tabss x.body).length<=4000000000:=by rw[Hj,jg,List.length_append,List.length_append]at va;omega
  have No:W0.length+1<=4294967296:=by rw[aj,List.length_append]at Ck;omega
  obtain⟨G,hG⟩:∃G:Nat->List Flt,G=fun k=>F q++(x.fields.take k).flatMap (zK6 x):=⟨_,rfl⟩
  have Bg:G 0=F q:=by rw[hG];simp
  have qi:G x.fields.length=W0:=by rw[hG,jn];simp
  have bj:∀k (h:k<x.fields.length),G (k+1)=G k++zK6 x x.fields[k]:=fun k h=>by
   rw[hG];simp only[List.take_succ_eq_append_getElem h,List.flatMap_append,List.append_assoc];simp
  have ri:∀k,(G k).length+1<=4294967296:=fun k=>by
   have h1:=zDJ (zK6 x) x.fields k
   have h2:(W0).length<=4000000000:=by rw[aj,List.length_append]at Ck;omega
   rw[jn,List.length_append]at h2;rw[hG];simp only[List.length_append];omega
  have sC:=fun M=>(zW2 x.body W1 Ck).zero (.cells [.p (.sl 16 (p.map It.enc))] 27) M S
  have lC:=fun M=>(zNS lb 71 x.pos W2 we).zero (.cells [.p (.sl 16 (p.map It.enc))] 27) M S
  have rC:=fun b M=>(zNS b 70 x.pos W0 No).zero (.cells [.p (.sl 16 (p.map It.enc))] 27) M S
  rw[<-jg]at sC;rw[<-Hj]at lC;clear hG Qa Gb hx;simp[hlt,aa,he,It.enc];refine zH (fun k:Nat=>k<=x.fields.length) (fun k=>([.any,.ptr 0 0 0,.any,.ptr 0 1 0,.any,.ptr 0 3 0,.any,.any,.any,.any,.any,.any,.any,.any,.any,.any,.p (.sl 16 (p.map It.enc)),I p.length,I q,.any,.any,.any,.any,.p (.sl 4 (x.fields.map Fi.enc)),I x.fields.length,I k]++List.replicate 55 .any)) (fun k=>[.cells [.p (.sl 16 (p.map It.enc))] 27,lkO (G k),ltO (G k),.cells (itU x) 44]::S) (fun k=>x.fields.length-k) 0 (Nat.zero_le _) ?_ ?_ ?_
  .simp
  .simp[Bg,ltO,lkO]
  intro k gm
  by_cases Dc:k<x.fields.length
  .have kg:(k:Int)<(x.fields.length:Int):=by omega
   have ud:=bj k Dc
   have Yg:=zA Dc
   have fC:=fun b M=>(zNS b 70 x.pos (G k) (ri k)).zero (.cells [.p (.sl 16 (p.map It.enc))] 27) M S
   generalize Eg:x.fields[k]=f at*
   unfold zK6 at ud;simp[Dc,kg,Eg,Fi.enc];refine dB [(15,3),(15,11)] (by kernel_rfl) ?_
   simp;refine cq (zJm f.type _) ?_
   cases hs:f.type.stands with
   |false=>
    rw[hs,Bool.false_and]at ud;simp;refine cq (fC false _) ?_;simp
    exact⟨k+1,Dc,by omega,Yg,by rw[ud];simp[ltO,lkO]⟩
   |true=>
    rw[hs,Bool.true_and]at ud
    by_cases h3:x.kind=3
    .rw[h3]at ud
     simp[h3];refine cq (fC true _) ?_;simp;exact⟨k+1,Dc,by omega,Yg,by rw[ud];simp[ltO,lkO,h3]⟩
    have yb:(x.kind==3)=false:=by simpa using h3
    rw[yb,Bool.false_or]at ud;simp[yb];refine cq (zNP f.type _) ?_;simp;refine cq (fC _ _) ?_;simp;exact⟨k+1,Dc,by omega,Yg,by rw[ud];simp[ltO,lkO]⟩
  have Bk:k=x.fields.length:=by omega
  subst Bk
  have iC:∀g,zCR p x.name n x.fields []=some (!lb,g)->∀S,ADet Tryz.prog 39 [.agg [.p (prog p)],itV x] S (B (!lb)) S:=fun g hg S=>zW1 p x n _ g hg S
  have Yc:∀b,b=(x.result.stands&&x.result.owned)->W1=W0++zI b 70 x.pos:=fun b hb=>by rw[hb];exact aj
  rw[qi];simp;refine dB [(10,3),(10,7)] (by kernel_rfl) ?_
  simp;refine cq (zJm x.result _) ?_
  cases hs:x.result.stands with
  |false=>
   have Ee:=Yc false (by rw[hs];rfl)
   have rC:=fun M=>rC false M
   rw[<-Ee]at rC;simp;refine cq (rC _) ?_;simp;refine cq (sC _) ?_;simp;refine dB [(11,7)] (by kernel_rfl) ?_
   rcases Pq with⟨h3,hl⟩|⟨h3,g,hg⟩
   .rw[hl]at lC
    simp[h3];refine cq (lC _) ?_;simp;exact⟨q+1,hlt,ra,si,by simp[ltO,lkO]⟩
   have yb:(x.kind==3)=false:=by simpa using h3
   simp[yb];refine cq (iC g hg _) ?_;simp;refine cq (lC _) ?_;simp
   exact⟨q+1,hlt,ra,si,by simp[ltO,lkO]⟩
  |true=>
   have Ee:=Yc x.result.owned (by rw[hs];rfl)
   have rC:=fun M=>rC x.result.owned M
   rw[<-Ee]at rC;simp;refine cq (zNP x.result _) ?_;simp;refine cq (rC _) ?_;simp;refine cq (sC _) ?_;simp;refine dB [(11,7)] (by kernel_rfl) ?_
   rcases Pq with⟨h3,hl⟩|⟨h3,g,hg⟩
   .rw[hl]at lC
    simp[h3];refine cq (lC _) ?_;simp;exact⟨q+1,hlt,ra,si,by simp[ltO,lkO]⟩
   have yb:(x.kind==3)=false:=by simpa using h3
   simp[yb];refine cq (iC g hg _) ?_;simp;refine cq (lC _) ?_;simp;exact⟨q+1,hlt,ra,si,by simp[ltO,lkO]⟩
 have:q=p.length:=by omega
 subst this;simp[lkO]
end Go.Proofs.YtgpajpilkapciaaGreatDoor
