/- A part of the proof. -/
import Derived.Test.YtdflkegnmmkkoaaGreatDoorWMNp
import Derived.Test.YtdflkegnmmkkoaaGreatDoorWNPq
import Derived.Test.YtdflkegnmmkkoaaGreatDoorWNAr
import Derived.Test.YtdflkegnmmkkoaaGreatDoorWMWi
set_option linter.unusedVariables false
set_option linter.unusedSimpArgs false
set_option maxRecDepth 100000
set_option maxHeartbeats 32000000
namespace Go.Proofs.YtdflkegnmmkkoaaGreatDoor
open Go.RowKit _root_.Go.Proofs.Tryz
attribute [local simp] List.replicate List.range List.range.loop
variable{S:ASt}{d:Nat}{p:List It}
def idxI{α:Type}(p:α->Bool)(l:List α):Int:=match l.findIdx? p with|some q=>(q:Int)|none=>-1
theorem zSF{α:Type}{p:α->Bool}{l:List α}{q:Nat}(h:∀i (hi:i<l.length),i<q->p l[i]=false)(hq:q<l.length)(hp:p l[q]=true):idxI p l=q:=by
 unfold idxI
 have:l.findIdx? p=some q:=by
  rw[List.findIdx?_eq_some_iff_getElem];exact⟨hq,hp,fun j hj=>by simpa using h j (by omega) hj⟩
 rw[this]
theorem zN4{α:Type}{p:α->Bool}{l:List α}(h:∀i (hi:i<l.length),p l[i]=false):idxI p l= -1:=by
 unfold idxI
 have:l.findIdx? p=none:=by
  rw[List.findIdx?_eq_none_iff];intro x hx
  obtain⟨i,hi,rfl⟩:=List.getElem_of_mem hx
  exact h i hi
 rw[this]
theorem zXz{α:Type}(p:α->Bool)(l:List α):decide (0<=idxI p l)=l.any p:=by
 unfold idxI
 cases h:l.findIdx? p with
 |none=>
  rw[List.findIdx?_eq_none_iff]at h
  have:l.any p=false:=by
   rw[List.any_eq_false];intro x hx;simp[h x hx]
  rw[this];rfl
 |some q=>
  rw[List.findIdx?_eq_some_iff_getElem]at h
  obtain⟨hq,hp,_⟩:=h
  have:l.any p=true:=List.any_eq_true.2 ⟨_,List.getElem_mem hq,hp⟩
  rw[this];simp
theorem zVC(p:Ty->Bool)(l:List Ty)(K:Nat)(caps:List AV)(S:ASt)(hc:∀x∈l,∀L,ADet Tryz.prog K (tyV x::AV.ups 1 caps) (L::S) (B (p x)) (L::S)):
  ADet Tryz.prog 104 [.p (.sl 3 (l.map Ty.enc)),.fn (.func K) [] caps] S (I (idxI p l)) S:=by
 refine ADet.okP call104 0 rfl fun na=>?_
 have ca:=okl na
 refine ADet.intro mixed call104 func104 rfl ?_;simp[ntmps104];refine zH (fun q:Nat=>q<=l.length/\∀i (hi:i<l.length),i<q->p l[i]=false) (fun q=>[.p (.sl 3 (l.map Ty.enc)),.fn (.func K) [] (AV.ups 1 caps),.any,.any,.any,.any,.any,I l.length,I q,.any,.any,.any,.any,.any,.any,.any,.any,.any,.any]) (fun q=>[]::S) (fun q=>l.length-q) 0 ⟨Nat.zero_le _,fun i hi h=>by omega⟩ ?_ ?_ ?_
 .simp
 .simp
 rintro q ⟨hq,ia⟩
 by_cases hlt:q<l.length
 .have aa:(q:Int)<(l.length:Int):=by omega
  generalize hx:l[q]=x
  have ce:=hc x (by rw[<-hx];exact List.getElem_mem hlt)
  simp[hlt,aa,hx,ze];refine cq (ce _) ?_
  cases hp:p x with
  |true=>
   have:=zSF ia hlt (by rw[hx];exact hp)
   simp[this]
  |false=>
   simp
   exact⟨q+1,⟨hlt,fun i hi h=>by
    rcases Nat.lt_or_ge i q with h'|h'
    .exact ia i hi h'
    obtain rfl:i=q:=by omega
    rw[hx];exact hp⟩,by omega,zA hlt⟩
 have aa:¬(q:Int)<(l.length:Int):=by omega
 have:=zN4 (p:=p) (l:=l) (fun i hi=>ia i hi (by omega))
 simp[aa,this]
theorem zN5(p:It->Bool)(l:List It)(K:Nat)(caps:List AV)(S:ASt)(hc:∀x∈l,∀L,ADet Tryz.prog K (itV x::AV.ups 1 caps) (L::S) (B (p x)) (L::S)):
  ADet Tryz.prog 160 [.p (.sl 16 (l.map It.enc)),.fn (.func K) [] caps] S (I (idxI p l)) S:=by
 refine ADet.okP call160 0 rfl fun na=>?_
 have ca:=okl na
 refine ADet.intro mixed call160 func160 rfl ?_;simp[ntmps160];refine zH (fun q:Nat=>q<=l.length/\∀i (hi:i<l.length),i<q->p l[i]=false) (fun q=>[.p (.sl 16 (l.map It.enc)),.fn (.func K) [] (AV.ups 1 caps),.any,.any,.any,.any,.any,I l.length,I q,.any,.any,.any,.any,.any,.any,.any,.any,.any,.any]) (fun q=>[]::S) (fun q=>l.length-q) 0 ⟨Nat.zero_le _,fun i hi h=>by omega⟩ ?_ ?_ ?_
 .simp
 .simp
 rintro q ⟨hq,ia⟩
 by_cases hlt:q<l.length
 .have aa:(q:Int)<(l.length:Int):=by omega
  generalize hx:l[q]=x
  have ce:=hc x (by rw[<-hx];exact List.getElem_mem hlt)
  simp[hlt,aa,hx,It.enc];refine cq (ce _) ?_
  cases hp:p x with
  |true=>
   have:=zSF ia hlt (by rw[hx];exact hp)
   simp[this]
  |false=>
   simp
   exact⟨q+1,⟨hlt,fun i hi h=>by
    rcases Nat.lt_or_ge i q with h'|h'
    .exact ia i hi h'
    obtain rfl:i=q:=by omega
    rw[hx];exact hp⟩,by omega,zA hlt⟩
 have aa:¬(q:Int)<(l.length:Int):=by omega
 have:=zN4 (p:=p) (l:=l) (fun i hi=>ia i hi (by omega))
 simp[aa,this]
theorem zF0(p:Ty->Bool)(l:List Ty)(K:Nat)(caps:List AV)(S:ASt)(hc:∀x∈l,∀L M,ADet Tryz.prog K (tyV x::AV.ups 1 (AV.ups 1 caps)) (L::M::S) (B (p x)) (L::M::S)):
  ADet Tryz.prog 47 [.p (.sl 3 (l.map Ty.enc)),.fn (.func K) [] caps] S (B (l.any p)) S:=by
 refine ADet.intro mixed call47 func47 rfl ?_;simp[ntmps47];refine⟨_,_,zVC p l K (AV.ups 1 caps) _ (fun x hx L=>hc x hx L _),?_⟩
 have:=zXz p l
 simp[this]
theorem zN6:∀(t:Ty) (S:ASt),ADet Tryz.prog 69 [tyV t] S (B t.owned) S:=by
 refine Ty.ind fun t ih S=>?_
 have cC:∀S,ADet Tryz.prog 47 [.p (.sl 3 (t.args.map Ty.enc)),.fn (.func 120) [] []] S (B (t.args.any fun x=>!x.owned)) S:=fun S=>
  zF0 _ _ _ _ _ fun x hx L M=>by
   refine ADet.intro mixed call120 func120 rfl ?_;simp[ntmps120];refine cq (ih x hx _) ?_;simp
 have ia:(t.args.any fun x=>!x.owned)= !(t.args.all Ty.owned):=by simp[List.all_eq_not_any_not]
 rw[ia]at cC;rw[zNs]
 generalize t.args.all Ty.owned=b at*
 refine ADet.intro mixed call69 func69 rfl ?_
 by_cases h1:t.kind=13
 .simp[ntmps69,h1]
 have ye:(t.kind !=13)=true:=by simpa using h1
 by_cases h2:t.kind=14
 .simp[ntmps69,h2]
 have Gg:(t.kind !=14)=true:=by simpa using h2
 simp[ntmps69,ye,Gg];refine cq (cC _) ?_;simp[h1,h2]
def OkTo(t:Ty)(q:Nat):Prop:=∀i (hi:i<t.args.length),i<q->(t.args[i].stands&&zDF t.kind t.args[i])=true
theorem zKJ:∀(t:Ty) (S:ASt),ADet Tryz.prog 49 [tyV t] S (B t.stands) S:=by
 refine Ty.ind fun t ih S=>?_
 refine ADet.okA call49 0 2 rfl rfl fun na=>?_
 have ca:=okl na
 have oh:t.stands=t.args.all fun x=>x.stands&&zDF t.kind x:=zRt t
 refine ADet.intro mixed call49 func49 rfl ?_;simp[ntmps49];refine zH (fun q:Nat=>q<=t.args.length/\OkTo t q) (fun q=>([.any,.ptr 0 0 0,.any,.any,.any,.any,.p (.sl 3 (t.args.map Ty.enc)),I t.args.length,I q]++List.replicate 31 .any)) (fun q=>[.cells [U t.kind,Sg t.name,.p (.sl 3 (t.args.map Ty.enc))] 36]::S) (fun q=>t.args.length-q) 0 ⟨Nat.zero_le _,fun i hi h=>by omega⟩ ?_ ?_ ?_
 .simp
 .simp
 rintro q ⟨hq,ia⟩
 by_cases hlt:q<t.args.length
 .have hx:=ih _ (List.getElem_mem hlt)
  have ox:=fun S=>zN6 t.args[q] S
  have aa:(q:Int)<(t.args.length:Int):=by omega
  have xb:(t.args[q].stands&&zDF t.kind t.args[q])=false->t.stands=false:=fun h=>by
   rw[oh,List.all_eq_false];exact⟨_,List.getElem_mem hlt,by simp[h]⟩
  have mj:(t.args[q].stands&&zDF t.kind t.args[q])=true->OkTo t (q+1):=fun h i hi Pg=>by
   rcases Nat.lt_or_ge i q with h'|h'
   .exact ia i hi h'
   obtain rfl:i=q:=by omega
   exact h
  generalize he:t.args[q]=x at*
  simp[hlt,aa,he,ze];refine cq (hx _) ?_
  cases hs:x.stands with
  |false=>
   have:=xb (by simp[zDF,hs])
   simp[this]
  |true=>
   by_cases h6:t.kind=6
   .by_cases h3:3<x.kind
    .have:=xb (by simp[zDF,hs,h6,h3])
     simp[h6,h3,this]
    simp[h6,h3]
    refine cq (ox _) ?_
    cases ho:x.owned with
    |false=>
     have:=xb (by simp[zDF,hs,h6,h3,ho])
     simp[this]
    |true=>
     simp;exact⟨q+1,⟨hlt,mj (by simp[zDF,hs,h6,h3,ho])⟩,by omega,zA hlt⟩
   have sk:(t.kind==6)=false:=by simpa using h6
   by_cases Xe:t.kind=13
   .simp[Xe]
    exact⟨q+1,⟨hlt,mj (by simp[zDF,hs,Xe])⟩,by omega,zA hlt⟩
   by_cases uf:t.kind=14
   .simp[uf]
    exact⟨q+1,⟨hlt,mj (by simp[zDF,hs,uf])⟩,by omega,zA hlt⟩
   have fi:(t.kind !=13)=true:=by simpa using Xe
   have ii:(t.kind !=14)=true:=by simpa using uf
   simp[sk,fi,ii];refine cq (ox _) ?_
   cases ho:x.owned with
   |false=>
    have:=xb (by simp[zDF,hs,h6,Xe,uf,ho])
    simp[this]
   |true=>
    simp;exact⟨q+1,⟨hlt,mj (by simp[zDF,hs,h6,Xe,uf,ho])⟩,by omega,zA hlt⟩
 have aa:¬(q:Int)<(t.args.length:Int):=by omega
 have:t.stands=true:=by
  rw[oh,List.all_eq_true];intro x hx
  obtain⟨i,hi,rfl⟩:=List.getElem_of_mem hx
  exact ia i hi (by omega)
 simp[aa,this]
abbrev itZ0:AV:=.agg [U 0,Sg emS,nilS,U 0,Sg emS,nilS,nilS,U 0,I 0,Sg emS,Sg emS,Sg emS,nilS,nilS,I 0,I 0]
theorem zN7{α:Type}(p:α->Bool)(l:List α):(l.find? p=none/\idxI p l= -1)\/∃q,∃h:q<l.length,l.find? p=some l[q]/\idxI p l=q:=by
 unfold idxI
 cases h:l.findIdx? p with
 |none=>
  rw[List.findIdx?_eq_none_iff]at h;refine .inl ⟨?_,rfl⟩;rw[List.find?_eq_none];intro x hx
  simp[h x hx]
 |some q=>
  rw[List.findIdx?_eq_some_iff_getElem]at h
  obtain⟨hq,hp,hn⟩:=h
  refine .inr ⟨q,hq,?_,rfl⟩;rw[List.find?_eq_some_iff_getElem];exact⟨hp,q,hq,rfl,fun j hj=>by simpa using hn j hj⟩
def zN8(p:List It)(nm:BA):AV:=match zb p nm with|some x=>.tup [itV x,B true]|none=>.tup [itZ0,B false]
theorem zWJ(p:List It)(nm:BA)(S:ASt):ADet Tryz.prog 122 [.agg [.p (prog p)],Sg nm] S (zN8 p nm) S:=by
 refine ADet.okA call122 0 0 rfl rfl fun na=>?_
 have ca:=okl na
 have iC:∀L:List AObj,get2 (L::S) 0 1=some (.cells [Sg nm] 9)->ADet Tryz.prog 160 [.p (.sl 16 (p.map It.enc)),.fn (.func 161) [] [.ptr 0 1 0]] (L::S) (I (idxI (fun x:It=>(decide (x.kind≠3))&&sEq x.name nm) p)) (L::S):=fun L hL=>
  zN5 _ _ _ _ _ fun x hx M=>by
   have hg:get2 (M::L::S) 1 1=some (.cells [Sg nm] 9):=hL
   refine ADet.intro mixed call161 func161 rfl ?_
   by_cases h3:x.kind=3
   .simp[ntmps161,h3]
   have Fb:(x.kind !=3)=true:=by simpa using h3
   simp only[zKq]at hg;simp[ntmps161,Fb,h3,hL]
 refine ADet.intro mixed call122 func122 rfl ?_;simp[ntmps122,prog];refine cq (iC _ rfl) ?_;unfold zN8 zb
 rcases zN7 (fun x:It=>(decide (x.kind≠3))&&sEq x.name nm) p with⟨h1,h2⟩|⟨q,hq,h1,h2⟩
 .rw[h1,h2]
  simp
 rw[h1,h2]
 have Rj:(q:Int)<(p.length:Int):=by omega
 have Ya:¬(q:Int)<0:=by omega
 simp[hq,Rj,Ya,It.enc]
def zFc(g:List BA):AObj:=.map (g.map fun s=>(.string s,I 1))
theorem zLd(s:BA):∀(l:List BA) (i:Nat),∃j,zAk .string (.string s) (l.map fun s=>(.string s,I 1)) i=some (if l.any (fun g=>sEq s g)=true then some (j,I 1)else none)
 | [],i=>⟨0,rfl⟩
 |t::l,i=>by
  rw[List.map_cons,zj,List.any_cons]
  cases sEq s t with
  |true=>exact⟨i,rfl⟩
  |false=>exact zLd s l (i+1)
structure FdAt (p:List It) (x:It) (S:ASt) (d:Nat) (g:List BA):Prop where
 o0:get2 S d 0=some (.cells [.p (prog p)] 24)
 o1:get2 S d 1=some (.cells (itU x) 45)
 o2:get2 S d 2=some (zFc g)
 o3:get2 S d 3=some (.cells [.mp 0 2] 173)
 o4:get2 S d 4=some (.cells [.fn (.func 121) [] [.ptr 0 1 0,.ptr 0 3 0,.ptr 0 0 0,.ptr 0 4 0]] 171)
theorem FdAt.push{x:It}{g:List BA}(h:FdAt p x S d g)(L:List AObj):FdAt p x (L::S) (d+1) g:=⟨h.o0,h.o1,h.o2,h.o3,h.o4⟩
theorem FdAt.upd{x:It}{g:List BA}(h:FdAt p x S d g)(g':List BA):FdAt p x (set2 S d 2 (zFc g')) d g':=by
 refine⟨?_,?_,?_,?_,?_⟩
 .rw[zQ _ h.o2,if_neg (by simp)];exact h.o0
 .rw[zQ _ h.o2,if_neg (by simp)];exact h.o1
 .rw[zQ _ h.o2,if_pos ⟨rfl,rfl⟩]
 .rw[zQ _ h.o2,if_neg (by simp)];exact h.o3
 rw[zQ _ h.o2,if_neg (by simp)];exact h.o4
theorem FdAt.same{x:It}{g:List BA}(h:FdAt p x S d g):set2 S d 2 (zFc g)=S:=zAN h.o2
def FdC(p:List It)(x:It)(y:It)(g:List BA)(b:Bool)(g':List BA):Prop:=∀(S:ASt) (d:Nat),FdAt p x S d g->ADet Tryz.prog 121 [itV y,.ptr d 1 0,.ptr d 3 0,.ptr d 0 0,.ptr d 4 0] S (B b) (set2 S d 2 (zFc g'))
theorem FdC.at{x y:It}{g g1 g2:List BA}{b:Bool}(hw:FdC p x y g1 b g2)(h:FdAt p x S d g)(L:List AObj):
  ADet Tryz.prog 121 [itV y,.ptr (d+1) 1 0,.ptr (d+1) 3 0,.ptr (d+1) 0 0,.ptr (d+1) 4 0] (L::set2 S d 2 (zFc g1)) (B b) (L::set2 S d 2 (zFc g2)):=by
 have:=hw _ _ ((h.upd g1).push L)
 rw[zAy,zBT]at this;exact this
theorem zaO(p:List It)(x:It):∀(N:Nat) (y:It) (g:List BA) (b:Bool) (g':List BA),zBy p x.name N y.fields g=some (b,g')->FdC p x y g b g':=by
 intro N
 induction N using Nat.strongRecOn with
 |_ N IH=>
 intro y g b g' hf S d hF;refine ADet.okA call121 0 2 rfl rfl fun na=>?_
 have ca:=okl na
 have key:ADet Tryz.prog 121 [itV y,.ptr d 1 0,.ptr d 3 0,.ptr d 0 0,.ptr d 4 0] (set2 S d 2 (zFc g)) (B b) (set2 S d 2 (zFc g')):=by
  refine ADet.introQ mixed call121 func121 rfl (by kernel_rfl) ?_
  simp[ntmps121];refine zC2 (fun a:Nat × Nat × List BA=>a.1<=y.fields.length/\a.2.1<=N/\zBy p x.name a.2.1 (y.fields.drop a.1) a.2.2=some (b,g')) (fun a=>([.any,.ptr (d+1) 1 0,.ptr (d+1) 3 0,.ptr (d+1) 0 0,.ptr (d+1) 4 0,.ptr 0 0 0,.any,B false,.any,.any,.any,.any,.any,.p (.sl 4 (y.fields.map Fi.enc)),I y.fields.length,I a.1]++List.replicate 44 .any)) (fun a=>[.cells (itU y) 45]::set2 S d 2 (zFc a.2.2)) (fun a=>y.fields.length-a.1) (0,N,g) ⟨Nat.zero_le _,Nat.le_refl _,hf⟩ ?_ ?_ ?_
  .simp
  .simp
  rintro⟨q,k,g1⟩ ⟨hq,hk,hg⟩
  simp only at hq hk hg
  have Xa:=hF.upd g1
  by_cases hlt:q<y.fields.length
  .have aa:(q:Int)<(y.fields.length:Int):=by omega
   have hd:y.fields.drop q=y.fields[q]::y.fields.drop (q+1):=List.drop_eq_getElem_cons hlt
   have hw:=zA hlt
   have hm:y.fields.length-(q+1)<y.fields.length-q:=by omega
   rw[hd]at hg
   cases k with
   |zero=>simp[zBy]at hg
   |succ k=>
   generalize he:y.fields[q]=f at*
   simp only[zBy]at hg
   have o1:=Xa.o1
   have o0:=Xa.o0
   have o2:=Xa.o2
   have o3:=Xa.o3
   have o4:=Xa.o4
   simp only[zFc]at o0 o1 o2 o3 o4
   by_cases h4:f.type.kind=4
   .rw[if_neg (by simp[h4])]at hg
    by_cases hn:sEq f.type.name x.name=true
    .rw[if_pos hn]at hg
     cases hg;simp[hlt,aa,he,Fi.enc,h4,o1,hn,zFc]
    rw[if_neg hn]at hg
    have Cn:sEq f.type.name x.name=false:=by simpa using hn
    obtain⟨j,hj⟩:=zLd f.type.name g1 0
    by_cases ha:g1.any (fun g=>sEq f.type.name g)=true
    .rw[if_pos ha]at hg
     rw[if_pos ha]at hj;simp[hlt,aa,he,Fi.enc,h4,o1,o2,o3,Cn,zFc,hj];exact⟨q+1,k,g1,⟨hlt,by omega,hg⟩,by omega,hw,rfl⟩
    rw[if_neg ha]at hg
    rw[if_neg ha]at hj
    have kr:=hF.upd (g1++[f.type.name])
    have p0:=kr.o0
    have p4:=kr.o4
    have fC:=fun S=>zWJ p f.type.name S
    have Je:IntKind.i64.wrap 1=1:=by decide
    simp only[zFc,List.map_append,List.map_cons,List.map_nil]at p0 p4;simp[hlt,aa,he,Fi.enc,h4,o1,o2,o3,Cn,zFc,hj,Je,p0];refine cq (fC _) ?_;unfold zN8
    cases Uc:zb p f.type.name with
    |none=>
     rw[Uc]at hg;simp
     exact⟨q+1,k,g1++[f.type.name],⟨hlt,by omega,hg⟩,by omega,hw,by simp⟩
    |some z=>
     rw[Uc]at hg
     dsimp only at hg
     cases h5:zBy p x.name k z.fields (g1++[f.type.name])with
     |none=>rw[h5]at hg;cases hg
     |some r=>
      obtain⟨b1,g2⟩:=r
      have hZ:=fun L=>(IH k (by omega) z _ b1 g2 h5).at hF L
      simp only[zFc,List.map_append,List.map_cons,List.map_nil]at hZ;simp[p4];refine cq (hZ _) ?_
      cases b1 with
      |true=>
       rw[h5]at hg;cases hg
       simp
      |false=>
       rw[h5]at hg;simp;exact⟨q+1,k,g2,⟨hlt,by omega,hg⟩,by omega,hw,rfl⟩
   rw[if_pos h4]at hg
   have tl:(f.type.kind !=4)=true:=by simpa using h4
   simp[hlt,aa,he,Fi.enc,tl];exact⟨q+1,k,g1,⟨hlt,by omega,hg⟩,by omega,hw,rfl⟩
  have aa:¬(q:Int)<(y.fields.length:Int):=by omega
  rw[List.drop_of_length_le (by omega)]at hg
  have:b=false/\g1=g':=by cases k<;>simp[zBy]at hg<;>exact⟨by first|exact hg.1|exact hg.1.symm,by first|exact hg.2|exact hg.2.symm⟩
  obtain⟨rfl,rfl⟩:=this
  simp[aa]
 rw[hF.same]at key;exact key
theorem zX0(p:List It)(x:It)(n:Nat)(b:Bool)(g':List BA)(h:zBy p x.name n x.fields []=some (b,g'))(S:ASt):ADet Tryz.prog 71 [.agg [.p (prog p)],itV x] S (B b) S:=by
 have fC:=zaO p x n x [] b g' h
 refine ADet.intro mixed call71 func71 rfl ?_;simp[ntmps71];refine cq (fC _ 0 ⟨rfl,rfl,rfl,rfl,rfl⟩) ?_;simp
attribute [local simp] List.forall_mem_cons List.contains_cons List.contains_nil List.find?
def lkO(l:List Flt):AObj:=.cells [.osl 2 (l.map fltE) 0 2] 113
def ltO(l:List Flt):AObj:=.tok 32 2 l.length
structure LkAt (S:ASt) (d:Nat) (l:List Flt):Prop where
 o:get2 S d 1=some (lkO l)
 t:get2 S d 2=some (ltO l)
def updL(S:ASt)(d:Nat)(l:List Flt):ASt:=set2 (set2 S d 1 (lkO l)) d 2 (ltO l)
theorem LkAt.push{l:List Flt}(h:LkAt S d l)(L:List AObj):LkAt (L::S) (d+1) l:=⟨h.o,h.t⟩
theorem LkAt.upd{l:List Flt}(h:LkAt S d l)(q:List Flt):LkAt (updL S d q) d q:=by
 refine⟨?_,?_⟩
 .unfold updL
  rw[zBv _ _ _ (by omega),zu,h.o];rfl
 unfold updL
 rw[zu,zBv _ _ _ (by omega),h.t];rfl
theorem zSG(S:ASt)(d:Nat)(p q:List Flt):updL (updL S d p) d q=updL S d q:=by
 unfold updL;rw[zLC (i:=1) (j:=2) _ _ _ _ (by omega),zBT,zBT]
theorem zVD(L:List AObj)(S:ASt)(d:Nat)(p:List Flt):updL (L::S) (d+1) p=L::updL S d p:=by
 unfold updL;rw[zAy,zAy]
theorem LkAt.same{l:List Flt}(h:LkAt S d l):updL S d l=S:=by
 unfold updL;rw[zAN h.o,zAN h.t]
def LkC(F:Nat)(args:List AV)(l l':List Flt):Prop:=∀(S:ASt) (d:Nat),LkAt S d l->ADet Tryz.prog F (.ptr d 1 0::args) S .un (updL S d l')
theorem LkC.at{F:Nat}{args:List AV}{l l1 l2:List Flt}(hw:LkC F args l1 l2)(h:LkAt S d l)(L:List AObj):ADet Tryz.prog F (.ptr (d+1) 1 0::args) (L::updL S d l1) .un (L::updL S d l2):=by
 have:=hw _ _ ((h.upd l1).push L)
 rw[zVD,zSG]at this;exact this
theorem LkC.intro{F:Nat}{args:List AV}{l l':List Flt}(hw:∀(S:ASt) (d:Nat),LkAt S d l->ADet Tryz.prog F (.ptr d 1 0::args) (updL S d l) .un (updL S d l')):LkC F args l l':=fun S d h=>by
 have:=hw S d h
 rw[h.same]at this;exact this
theorem zVE(l:List Flt)(x:Flt):set2 (set2 (updL S d l) d 2 (ltO (l++[x]))) d 1 (lkO (l++[x]))=updL S d (l++[x]):=by
 unfold updL;rw[zBT,zLC _ d (j:=2) (i:=1) _ _ (by omega),zBT]
theorem zN9(yb:Bool)(e a:Int)(l:List Flt)(hl:l.length+1<=4294967296):LkC 68 [B yb,I e,I a] l (l++zI yb e a):=LkC.intro fun S d h=>by
 have ho:=(h.upd l).o
 have ht:=(h.upd l).t
 unfold zI;refine ADet.intro mixed call68 func68 rfl ?_
 cases yb with
 |true=>simp[ntmps68]
 |false=>
  have hu:=zVE (S:=S) (d:=d) l (e,a)
  simp only[lkO,ltO,updL,List.map_append,List.map_cons,List.map_nil,fltE,List.length_append,List.length_cons,List.length_nil]at ho ht hu
  have Mg:=h.o
  have tk:=h.t
  simp only[lkO,ltO]at Mg tk
  have n1:=fun(T:ASt) o=>zBv T d (i:=2) (j:=1) o (by omega)
  have n2:=fun(T:ASt) o=>zBv T d (i:=1) (j:=2) o (by omega)
  simp[ntmps68,Mg,tk,n1,n2,hl,updL,lkO,ltO]
  simpa [fltE]using hu
theorem zE7(l:List St):St.tabss l=l.flatMap St.tabs:=by
 induction l with
 |nil=>rfl
 |cons s l ih=>rw[St.tabss,ih];rfl
theorem zLe(l:List Ar):Ar.tabss l=l.flatMap fun a=>St.tabss a.body:=by
 induction l with
 |nil=>rfl
 |cons a l ih=>obtain⟨v,n,b⟩:=a;rw[Ar.tabss,ih];rfl
theorem zaP(s:St):s.tabs=zI ((s.op !=12)||(s.type.stands&&s.type.owned)) 70 s.pos++(St.tabss s.body++(St.tabss s.els++s.arms.flatMap fun a=>St.tabss a.body)):=by
 cases s;rw[St.tabs,zLe];rfl
theorem zPX(l:List St){q:Nat}(h:q<l.length):St.tabss (l.take (q+1))=St.tabss (l.take q)++l[q].tabs:=by
 rw[zE7,zE7,List.take_succ_eq_append_getElem h,List.flatMap_append];simp
theorem zDT{α β:Type}(f:α->List β)(l:List α)(q:Nat):((l.take q).flatMap f).length<=(l.flatMap f).length:=by
 have:l.flatMap f=(l.take q).flatMap f++(l.drop q).flatMap f:=by rw[<-List.flatMap_append,List.take_append_drop]
 rw[this,List.length_append];omega
def SsC(ss:List St):Prop:=∀l,l.length+(St.tabss ss).length<=4000000000->LkC 70 [.p (.sl 15 (ss.map St.enc))] l (l++St.tabss ss)
theorem zOA(ss:List St)(hq:∀s∈ss,SsC s.body/\SsC s.els/\∀a∈s.arms,SsC a.body):SsC ss:=by
 intro l hl;refine LkC.intro fun S d h=>?_
 refine ADet.okP call70 1 rfl fun na=>?_
 have ca:=okl na
 obtain⟨F,hF⟩:∃F:Nat->List Flt,F=fun q=>l++St.tabss (ss.take q):=⟨_,rfl⟩
 have Ab:F 0=l:=by rw[hF];simp[St.tabss]
 have Yb:F ss.length=l++St.tabss ss:=by rw[hF];simp
 have Hb:∀q,(F q).length<=4000000000:=fun q=>by
  rw[hF]
  have:=zDT St.tabs ss q
  rw[<-zE7,<-zE7]at this;simp only[List.length_append];omega
 have Ib:∀q (h:q<ss.length),F (q+1)=F q++ss[q].tabs:=fun q h=>by rw[hF];simp only[zPX _ h,List.append_assoc]
 clear hF;rw[<-Yb];refine ADet.intro mixed call70 func70 rfl ?_;simp[ntmps70];refine zH (fun q:Nat=>q<=ss.length) (fun q=>([.ptr (d+1) 1 0,.any,.any,.any,.any,.any,.any,.any,.p (.sl 15 (ss.map St.enc)),I ss.length,I q]++List.replicate 41 .any)) (fun q=>[]::updL S d (F q)) (fun q=>ss.length-q) 0 (Nat.zero_le _) ?_ ?_ ?_
 .simp
 .simp[Ab]
 intro q xm
 by_cases hlt:q<ss.length
 .have aa:(q:Int)<(ss.length:Int):=by omega
  obtain⟨qb,qe,qa⟩:=hq _ (List.getElem_mem hlt)
  have Xa:=Ib q hlt
  have va:=Hb (q+1)
  have ap:PVok (.sl 3 (ss[q].arms.map Ar.enc)):=(zZD na (List.getElem_mem hlt)).2.2.2.2.2.2
  have lr:=okl ap
  have hw:=zA hlt
  have Aa:ss.length-(q+1)<ss.length-q:=by omega
  generalize he:ss[q]=s at*
  rw[zaP]at Xa
  obtain⟨xf,hh⟩:∃b,b=((s.op !=12)||(s.type.stands&&s.type.owned)):=⟨_,rfl⟩
  rw[<-hh]at Xa
  obtain⟨W1,nj⟩:∃W,W=F q++zI xf 70 s.pos:=⟨_,rfl⟩
  obtain⟨W2,xg⟩:∃W,W=W1++St.tabss s.body:=⟨_,rfl⟩
  obtain⟨W3,Uj⟩:∃W,W=W2++St.tabss s.els:=⟨_,rfl⟩
  obtain⟨G,hG⟩:∃G:Nat->List Flt,G=fun k=>W3++(s.arms.take k).flatMap fun a=>St.tabss a.body:=⟨_,rfl⟩
  have Lg:G 0=W3:=by rw[hG];simp
  have xi:G s.arms.length=F (q+1):=by rw[hG,Xa,Uj,xg,nj];simp
  have oj:∀k (h:k<s.arms.length),G (k+1)=G k++St.tabss s.arms[k].body:=fun k h=>by
   rw[hG];simp only[List.take_succ_eq_append_getElem h,List.flatMap_append,List.append_assoc];simp
  have yi:∀k,k<=s.arms.length->(G k).length<=4000000000:=fun k hk=>by
   have:=zDT (fun a:Ar=>St.tabss a.body) s.arms k
   rw[<-xi]at va;rw[hG]at va ⊢;simp only[List.length_append,List.take_length]at va ⊢;omega
  have Vj:W3.length<=4000000000:=by rw[<-Lg];exact yi 0 (Nat.zero_le _)
  have Cd:W2.length+(St.tabss s.els).length<=4000000000:=by rw[Uj,List.length_append]at Vj;exact Vj
  have bp:W1.length+(St.tabss s.body).length<=4000000000:=by rw[xg,List.length_append]at Cd;omega
  have wC:=fun L=>(zN9 xf 70 s.pos (F q) (by have:=Hb q;omega)).at h L
  have bC:=fun L=>(qb W1 bp).at h L
  have eC:=fun L=>(qe W2 Cd).at h L
  rw[<-xg]at bC;rw[<-Uj]at eC;rw[<-nj]at wC
  have rest:∀{ja:List AV} {Q:Exit->List AV->ASt->Prop},True:=fun {_ _}=>trivial
  clear nj xg Uj Xa Ib
  by_cases xd:s.op=12
  .cases hs:s.type.stands with
   |false=>
    have:xf=false:=by rw[hh,xd,hs];rfl
    subst this;simp[hlt,aa,he,zCR];refine dB [(15,7),(15,11)] (by kernel_rfl) ?_
    simp[xd];refine cq (zKJ s.type _) ?_;rw[hs];simp;refine cq (wC _) ?_;simp;refine cq (bC _) ?_;simp;refine cq (eC _) ?_;simp;refine zH (fun k:Nat=>k<=s.arms.length) (fun k=>([.ptr (d+1) 1 0,.any,.any,.any,.any,.any,.any,.any,.p (.sl 15 (ss.map St.enc)),I ss.length,I q]++(List.replicate 29 .any++[.p (.sl 3 (s.arms.map Ar.enc)),I s.arms.length,I k,.any,.any,.any,.any,.any,.any,.any,.any,.any]))) (fun k=>[.cells (stU s) 49]::updL S d (G k)) (fun k=>s.arms.length-k) 0 (Nat.zero_le _) ?_ ?_ ?_
    .simp
    .simp[Lg,xd]
    intro k ym
    by_cases Mc:k<s.arms.length
    .have yg:(k:Int)<(s.arms.length:Int):=by omega
     have Gd:=oj k Mc
     have Of:=yi (k+1) Mc
     have Am:=qa _ (List.getElem_mem Mc) (G k) (by rw[Gd,List.length_append]at Of;exact Of)
     have aC:=fun L=>Am.at h L
     rw[<-Gd]at aC
     have pj:=zA Mc
     generalize Bm:s.arms[k]=a at*
     simp[Mc,yg,Bm,Ar.enc];refine cq (aC _) ?_;simp;exact⟨k+1,Mc,by omega,pj,rfl⟩
    have qj:k=s.arms.length:=by omega
    subst qj;simp
    exact⟨q+1,hlt,Aa,hw,by rw[xi]⟩
   |true=>
    have:xf=s.type.owned:=by rw[hh,xd,hs];rfl
    subst this;simp[hlt,aa,he,zCR];refine dB [(15,7),(15,11)] (by kernel_rfl) ?_
    simp[xd];refine cq (zKJ s.type _) ?_;rw[hs];simp;refine cq (zN6 s.type _) ?_;simp;refine cq (wC _) ?_;simp;refine cq (bC _) ?_;simp;refine cq (eC _) ?_;simp;refine zH (fun k:Nat=>k<=s.arms.length) (fun k=>([.ptr (d+1) 1 0,.any,.any,.any,.any,.any,.any,.any,.p (.sl 15 (ss.map St.enc)),I ss.length,I q]++(List.replicate 29 .any++[.p (.sl 3 (s.arms.map Ar.enc)),I s.arms.length,I k,.any,.any,.any,.any,.any,.any,.any,.any,.any]))) (fun k=>[.cells (stU s) 49]::updL S d (G k)) (fun k=>s.arms.length-k) 0 (Nat.zero_le _) ?_ ?_ ?_
    .simp
    .simp[Lg,xd]
    intro k ym
    by_cases Mc:k<s.arms.length
    .have yg:(k:Int)<(s.arms.length:Int):=by omega
     have Gd:=oj k Mc
     have Of:=yi (k+1) Mc
     have Am:=qa _ (List.getElem_mem Mc) (G k) (by rw[Gd,List.length_append]at Of;exact Of)
     have aC:=fun L=>Am.at h L
     rw[<-Gd]at aC
     have pj:=zA Mc
     generalize Bm:s.arms[k]=a at*
     simp[Mc,yg,Bm,Ar.enc];refine cq (aC _) ?_;simp;exact⟨k+1,Mc,by omega,pj,rfl⟩
    have qj:k=s.arms.length:=by omega
    subst qj;simp;exact⟨q+1,hlt,Aa,hw,by rw[xi]⟩
  have rj:(s.op !=12)=true:=by simpa using xd
  have:xf=true:=by rw[hh,rj];rfl
  subst this;simp[hlt,aa,he,zCR];refine dB [(15,7),(15,11)] (by kernel_rfl) ?_
  simp[rj];refine cq (wC _) ?_;simp;refine cq (bC _) ?_;simp;refine cq (eC _) ?_;simp;refine zH (fun k:Nat=>k<=s.arms.length) (fun k=>([.ptr (d+1) 1 0,.any,.any,.any,.any,.any,.any,.any,.p (.sl 15 (ss.map St.enc)),I ss.length,I q]++(List.replicate 29 .any++[.p (.sl 3 (s.arms.map Ar.enc)),I s.arms.length,I k,.any,.any,.any,.any,.any,.any,.any,.any,.any]))) (fun k=>[.cells (stU s) 49]::updL S d (G k)) (fun k=>s.arms.length-k) 0 (Nat.zero_le _) ?_ ?_ ?_
  .simp
  .simp[Lg]
  intro k ym
  by_cases Mc:k<s.arms.length
  .have yg:(k:Int)<(s.arms.length:Int):=by omega
   have Gd:=oj k Mc
   have Of:=yi (k+1) Mc
   have Am:=qa _ (List.getElem_mem Mc) (G k) (by rw[Gd,List.length_append]at Of;exact Of)
   have aC:=fun L=>Am.at h L
   rw[<-Gd]at aC
   have pj:=zA Mc
   generalize Bm:s.arms[k]=a at*
   simp[Mc,yg,Bm,Ar.enc];refine cq (aC _) ?_;simp;exact⟨k+1,Mc,by omega,pj,rfl⟩
  have qj:k=s.arms.length:=by omega
  subst qj;simp;exact⟨q+1,hlt,Aa,hw,by rw[xi]⟩
 have:q=ss.length:=by omega
 subst this;simp
theorem zX1:∀ss:List St,SsC ss:=by
 have key:∀s:St,SsC s.body/\SsC s.els/\∀a∈s.arms,SsC a.body:=
  St.ind fun s Ko Lo Mo=>⟨zOA _ Ko,zOA _ Lo,fun a ha=>zOA _ (Mo a ha)⟩
 exact fun ss=>zOA ss fun s _=>key s
def It.tabsD(p:List It)(n:Nat)(x:It):List Flt:=(x.tabs p n).getD []
theorem zFd{p:List It}{n:Nat}:∀{l:List It} {fs:List Flt},zD7 p n l=some fs->fs=l.flatMap (It.tabsD p n)/\∀x∈l,x.tabs p n=some (x.tabsD p n)
 | [],fs,h=>by cases h;exact⟨rfl,fun x hx=>by cases hx⟩
 |x::l,fs,h=>by
  unfold zD7 at h
  cases h1:x.tabs p n with
  |none=>rw[h1]at h;cases h
  |some a=>
   cases h2:zD7 p n l with
   |none=>rw[h1,h2]at h;cases h
   |some b=>
    rw[h1,h2]at h;cases h
    obtain⟨e,ia⟩:=zFd h2
    refine⟨?_,fun y hy=>?_⟩
    .rw[List.flatMap_cons,<-e]
     simp[It.tabsD,h1]
    rcases List.mem_cons.1 hy with rfl|hy
    .simp[It.tabsD,h1]
    exact ia y hy
theorem LkC.zero{F:Nat}{args:List AV}{l l':List Flt}(hw:LkC F args l l')(a:AObj)(M:List AObj)(S:ASt):ADet Tryz.prog F (.ptr 0 1 0::args) ((a::lkO l::ltO l::M)::S) .un ((a::lkO l'::ltO l'::M)::S):=hw _ 0 ⟨rfl,rfl⟩
def zLf(x:It)(f:Fi):List Flt:=zI (f.type.stands&&((x.kind==3)||f.type.owned)) 70 x.pos
theorem zWK(p:List It)(n:Nat)(wa:PrSm p)(fs:List Flt)(h:zFO p n=some fs)(hb:fs.length<=4000000000)(S:ASt):ADet Tryz.prog 33 [.agg [.p (prog p)]] S (.p (.sl 2 (fs.map fltE))) S:=by
 refine ADet.okA call33 0 0 rfl rfl fun na=>?_
 have ca:=okl na
 have wC:=fun S=>zGU p wa S
 refine ADet.intro mixed call33 func33 rfl ?_;simp[ntmps33];refine cq (wC _) ?_;unfold zFO at h
 cases hw:zAF p with
 |false=>
  rw[hw]at h;simp at h;subst h
  simp[fltE]
 |true=>
 rw[hw]at h;simp only[if_true]at h
 obtain⟨Tb,ia⟩:=zFd h
 obtain⟨F,hF⟩:∃F:Nat->List Flt,F=fun q=>(p.take q).flatMap (It.tabsD p n):=⟨_,rfl⟩
 have Ab:F 0=[]:=by rw[hF];simp
 have Yb:F p.length=fs:=by rw[hF,Tb];simp
 have Hb:∀q,(F q).length<=4000000000:=fun q=>by
  rw[hF]
  have:=zDT (It.tabsD p n) p q
  rw[<-Tb]at this
  show((p.take q).flatMap (It.tabsD p n)).length<=_
  omega
 have Ib:∀q (h:q<p.length),F (q+1)=F q++p[q].tabsD p n:=fun q h=>by
  rw[hF];simp only[List.take_succ_eq_append_getElem h,List.flatMap_append];simp
 clear hF Tb h;rw[<-Yb];simp[prog];refine zAw 32 2 (by decide) [.cells [.p (.sl 16 (p.map It.enc))] 24,.cells [.osl 2 [] 0 2] 113] (fun q:Nat=>q<=p.length) (fun q=>([.any,.ptr 0 0 0,.any,.ptr 0 1 0]++(List.replicate 12 .any++([.p (.sl 16 (p.map It.enc)),I p.length,I q]++List.replicate 62 .any)))) (fun q=>[.cells [.p (.sl 16 (p.map It.enc))] 24,lkO (F q),ltO (F q)]::S) (fun q=>p.length-q) 0 (Nat.zero_le _) ?_ ?_ ?_ ?_
 .simp
 .simp
 .rw[Ab];rfl
 intro q xm
 by_cases hlt:q<p.length
 .have aa:(q:Int)<(p.length:Int):=by omega
  have Xa:=Ib q hlt
  have va:=Hb (q+1)
  have hx:=ia _ (List.getElem_mem hlt)
  have cp:=zZE (p:=p) (by simpa [prog]using na) (List.getElem_mem hlt)
  have mr:=okl cp.1
  have Dn:=zA hlt
  have Aa:p.length-(q+1)<p.length-q:=by omega
  generalize he:p[q]=x at*
  obtain⟨W0,En⟩:∃W,W=F q++x.fields.flatMap (zLf x):=⟨_,rfl⟩
  obtain⟨W1,nj⟩:∃W,W=W0++zI (x.result.stands&&x.result.owned) 70 x.pos:=⟨_,rfl⟩
  obtain⟨W2,xg⟩:∃W,W=W1++St.tabss x.body:=⟨_,rfl⟩
  obtain⟨lb,nr,Uj⟩:∃lb:Bool,(x.kind=3/\lb=true\/x.kind≠3/\∃g,zBy p x.name n x.fields []=some (!lb,g))/\F (q+1)=W2++zI lb 71 x.pos:=by
   unfold It.tabs at hx
   dsimp only at hx
   by_cases h3:x.kind=3
   .rw[if_pos h3]at hx
    refine⟨true,.inl ⟨h3,rfl⟩,?_⟩;rw[Xa,<-Option.some.inj hx,xg,nj,En,show zI true 71 x.pos=[]from rfl,List.append_nil]
    simp only[List.append_assoc];rfl
   rw[if_neg h3]at hx
   obtain⟨⟨b,g⟩,Et,hx⟩:=Option.map_eq_some_iff.1 hx
   refine⟨!b,.inr ⟨h3,g,by rw[Et];simp⟩,?_⟩
   rw[Xa,<-hx,xg,nj,En];simp only[List.append_assoc];rfl
  have Cd:W2.length+1<=4294967296:=by rw[Uj,List.length_append]at va;omega
  have Mk:W1.length+(St.tabss x.body).length<=4000000000:=by rw[Uj,xg,List.length_append,List.length_append]at va;omega
  have dp:W0.length+1<=4294967296:=by rw[nj,List.length_append]at Mk;omega
  obtain⟨G,hG⟩:∃G:Nat->List Flt,G=fun k=>F q++(x.fields.take k).flatMap (zLf x):=⟨_,rfl⟩
  have Lg:G 0=F q:=by rw[hG];simp
  have xi:G x.fields.length=W0:=by rw[hG,En];simp
  have oj:∀k (h:k<x.fields.length),G (k+1)=G k++zLf x x.fields[k]:=fun k h=>by
   rw[hG];simp only[List.take_succ_eq_append_getElem h,List.flatMap_append,List.append_assoc];simp
  have yi:∀k,(G k).length+1<=4294967296:=fun k=>by
   have h1:=zDT (zLf x) x.fields k
   have h2:(W0).length<=4000000000:=by rw[nj,List.length_append]at Mk;omega
   rw[En,List.length_append]at h2;rw[hG];simp only[List.length_append];omega
  have sC:=fun M=>(zX1 x.body W1 Mk).zero (.cells [.p (.sl 16 (p.map It.enc))] 24) M S
  have lC:=fun M=>(zN9 lb 71 x.pos W2 Cd).zero (.cells [.p (.sl 16 (p.map It.enc))] 24) M S
  have rC:=fun b M=>(zN9 b 70 x.pos W0 dp).zero (.cells [.p (.sl 16 (p.map It.enc))] 24) M S
  rw[<-xg]at sC;rw[<-Uj]at lC;clear hG Xa Ib hx;simp[hlt,aa,he,It.enc];refine zH (fun k:Nat=>k<=x.fields.length) (fun k=>([.any,.ptr 0 0 0,.any,.ptr 0 1 0,.any,.ptr 0 3 0,.any,.any,.any,.any,.any,.any,.any,.any,.any,.any,.p (.sl 16 (p.map It.enc)),I p.length,I q,.any,.any,.any,.any,.p (.sl 4 (x.fields.map Fi.enc)),I x.fields.length,I k]++List.replicate 55 .any)) (fun k=>[.cells [.p (.sl 16 (p.map It.enc))] 24,lkO (G k),ltO (G k),.cells (itU x) 45]::S) (fun k=>x.fields.length-k) 0 (Nat.zero_le _) ?_ ?_ ?_
  .simp
  .simp[Lg,ltO,lkO]
  intro k ym
  by_cases Mc:k<x.fields.length
  .have yg:(k:Int)<(x.fields.length:Int):=by omega
   have Gd:=oj k Mc
   have pj:=zA Mc
   have fC:=fun b M=>(zN9 b 70 x.pos (G k) (yi k)).zero (.cells [.p (.sl 16 (p.map It.enc))] 24) M S
   generalize Qg:x.fields[k]=f at*
   unfold zLf at Gd;simp[Mc,yg,Qg,Fi.enc];refine dB [(15,3),(15,11)] (by kernel_rfl) ?_
   simp;refine cq (zKJ f.type _) ?_
   cases hs:f.type.stands with
   |false=>
    rw[hs,Bool.false_and]at Gd;simp;refine cq (fC false _) ?_;simp
    exact⟨k+1,Mc,by omega,pj,by rw[Gd];simp[ltO,lkO]⟩
   |true=>
    rw[hs,Bool.true_and]at Gd
    by_cases h3:x.kind=3
    .rw[h3]at Gd
     simp[h3];refine cq (fC true _) ?_;simp;exact⟨k+1,Mc,by omega,pj,by rw[Gd];simp[ltO,lkO,h3]⟩
    have Fb:(x.kind==3)=false:=by simpa using h3
    rw[Fb,Bool.false_or]at Gd;simp[Fb];refine cq (zN6 f.type _) ?_;simp;refine cq (fC _ _) ?_;simp;exact⟨k+1,Mc,by omega,pj,by rw[Gd];simp[ltO,lkO]⟩
  have qj:k=x.fields.length:=by omega
  subst qj
  have iC:∀g,zBy p x.name n x.fields []=some (!lb,g)->∀S,ADet Tryz.prog 71 [.agg [.p (prog p)],itV x] S (B (!lb)) S:=fun g hg S=>zX0 p x n _ g hg S
  have pd:∀b,b=(x.result.stands&&x.result.owned)->W1=W0++zI b 70 x.pos:=fun b hb=>by rw[hb];exact nj
  rw[xi];simp;refine dB [(10,3),(10,7)] (by kernel_rfl) ?_
  simp;refine cq (zKJ x.result _) ?_
  cases hs:x.result.stands with
  |false=>
   have Je:=pd false (by rw[hs];rfl)
   have rC:=fun M=>rC false M
   rw[<-Je]at rC;simp;refine cq (rC _) ?_;simp;refine cq (sC _) ?_;simp;refine dB [(11,7)] (by kernel_rfl) ?_
   rcases nr with⟨h3,hl⟩|⟨h3,g,hg⟩
   .rw[hl]at lC
    simp[h3];refine cq (lC _) ?_;simp;exact⟨q+1,hlt,Aa,Dn,by simp[ltO,lkO]⟩
   have Fb:(x.kind==3)=false:=by simpa using h3
   simp[Fb];refine cq (iC g hg _) ?_;simp;refine cq (lC _) ?_;simp
   exact⟨q+1,hlt,Aa,Dn,by simp[ltO,lkO]⟩
  |true=>
   have Je:=pd x.result.owned (by rw[hs];rfl)
   have rC:=fun M=>rC x.result.owned M
   rw[<-Je]at rC;simp;refine cq (zN6 x.result _) ?_;simp;refine cq (rC _) ?_;simp;refine cq (sC _) ?_;simp;refine dB [(11,7)] (by kernel_rfl) ?_
   rcases nr with⟨h3,hl⟩|⟨h3,g,hg⟩
   .rw[hl]at lC
    simp[h3];refine cq (lC _) ?_;simp;exact⟨q+1,hlt,Aa,Dn,by simp[ltO,lkO]⟩
   have Fb:(x.kind==3)=false:=by simpa using h3
   simp[Fb];refine cq (iC g hg _) ?_;simp;refine cq (lC _) ?_;simp;exact⟨q+1,hlt,Aa,Dn,by simp[ltO,lkO]⟩
 have:q=p.length:=by omega
 subst this;simp[lkO]
end Go.Proofs.YtdflkegnmmkkoaaGreatDoor
