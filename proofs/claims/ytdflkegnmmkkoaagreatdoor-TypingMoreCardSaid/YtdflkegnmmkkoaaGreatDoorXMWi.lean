/- A part of the proof. -/
import Derived.Test.YtdflkegnmmkkoaaGreatDoorXNSe
import Derived.Test.YtdflkegnmmkkoaaGreatDoorXMUb
import Derived.Test.YtdflkegnmmkkoaaGreatDoorXMUc
set_option linter.unusedVariables false
set_option linter.unusedSimpArgs false
set_option maxRecDepth 100000
set_option maxHeartbeats 32000000
namespace Go.Proofs.YtdflkegnmmkkoaaGreatDoor
open Go.RowKit _root_.Go.Proofs.Tryz
attribute [local simp] List.replicate List.range List.range.loop
theorem zay(op:Int)(h:fmOk op=true):(zAJ op=true/\zq op=false/\zA4 op=false/\zAr op=false/\zAs op=false)\/(zAJ op=false/\zq op=true/\zA4 op=false/\zAr op=false/\zAs op=false)\/
  (zAJ op=false/\zq op=true/\zA4 op=true/\zAr op=false/\zAs op=false)\/(zAJ op=false/\zq op=false/\zA4 op=true/\zAr op=true/\zAs op=false)\/
  (zAJ op=false/\zq op=false/\zA4 op=false/\zAr op=false/\zAs op=true)\/(zAJ op=false/\zq op=false/\zA4 op=true/\zAr op=false/\zAs op=false)\/
  (zAJ op=false/\zq op=false/\zA4 op=false/\zAr op=false/\zAs op=false):=by
 unfold fmOk at h;simp only[Bool.and_eq_true,decide_eq_true_eq]at h
 have hop:op=1\/op=2\/op=3\/op=4\/op=5\/op=6\/op=7\/op=8\/op=9\/op=10\/op=11\/op=12\/op=13:=by omega
 rcases hop with rfl|rfl|rfl|rfl|rfl|rfl|rfl|rfl|rfl|rfl|rfl|rfl|rfl<;>decide
theorem zJg(s:St)(d:Int)(S:ASt)(h:¬1<=d\/fmOk s.op=false):ADet Tryz.prog 152 [stmV s,I d] S (B (s.whole d)) S:=by
 have e:s.whole d=false:=by
  rw[zC]
  rcases h with h|h<;>simp[zO,h]
 rw[e];refine ADet.intro mixed call152 func152 rfl ?_;simp[ntmps152];refine cq (zEs s _) ?_
 by_cases h0:d<1
 .simp[h0,fmV]
 have ho:fmOk s.op=false:=h.resolve_left (by omega)
 simp[h0,ho,fmV]
theorem zHd:∀(s:St),StSm s->WSC s:=by
 refine St.ind fun s Sb Lb Jd xa d S Cc Ua=>?_
 have Jo:=xa
 obtain⟨_,_,_,_,_,_,_,_,_,_,Od,Ye,has,Mf⟩:=Jo
 have i1:∀x∈s.body,WSC x:=fun x hx=>Sb x hx (Od x hx)
 have i2:∀x∈s.els,WSC x:=fun x hx=>Lb x hx (Ye x hx)
 have i3:∀a∈s.arms,∀x∈a.body,WSC x:=fun a ha x hx=>Jd a ha x hx (Mf a ha x hx)
 by_cases h0:1<=d
 .cases ho:fmOk s.op with
  |false=>exact zJg s d S (.inr ho)
  |true=>
   rcases zay s.op ho with⟨a,b,c,e,f⟩|⟨a,b,c,e,f⟩|⟨a,b,c,e,f⟩|⟨a,b,c,e,f⟩|⟨a,b,c,e,f⟩|⟨a,b,c,e,f⟩|⟨a,b,c,e,f⟩
   .exact zPQ s xa i1 i2 i3 d S Cc Ua h0 ho a b c e f
   .exact zPR s xa i1 i2 i3 d S Cc Ua h0 ho a b c e f
   .exact zPS s xa i1 i2 i3 d S Cc Ua h0 ho a b c e f
   .exact zPT s xa i1 i2 i3 d S Cc Ua h0 ho a b c e f
   .exact zPU s xa i1 i2 i3 d S Cc Ua h0 ho a b c e f
   .exact zPV s xa i1 i2 i3 d S Cc Ua h0 ho a b c e f
   exact zPW s xa i1 i2 i3 d S Cc Ua h0 ho a b c e f
 exact zJg s d S (.inl h0)
theorem ADet.nilP{P:Program}{F:FuncId}{as1 as2:List AV}{k:Nat}{S S':ASt}{r:AV}(h:ADet P F (as1++ .p (.sl k [])::as2) S r S'):ADet P F (as1++nilS::as2) S r S':=by
 refine⟨h.1,fun Pr φ xs w da hR hne=>h.2 Pr φ xs w ⟨by rw[<-da.1];simp,fun j c x hc hx=>?_⟩ hR hne⟩
 rcases Nat.lt_trichotomy j as1.length with hj|hj|hj
 .rw[List.getElem?_append_left hj]at hc
  exact da.2 j c x (by rw[List.getElem?_append_left hj];exact hc) hx
 .subst hj
  rw[List.getElem?_append_right (Nat.le_refl _),Nat.sub_self]at hc;cases hc
  have h0:=da.2 as1.length nilS x (by simp) hx
  cases h0 with
  |p h0=>
   cases h0 with
   |v _=>exact .p (.slemp k none 0 (Nat.zero_le _))
 have Eg:as1.length<=j:=by omega
 obtain⟨k',hk⟩:∃k',j-as1.length=k'+1:=⟨j-as1.length-1,by omega⟩
 rw[List.getElem?_append_right Eg,hk]at hc;exact da.2 j c x (by rw[List.getElem?_append_right Eg,hk];exact hc) hx
theorem zVK(l:List BA)(S:ASt):ADet Tryz.prog 206 [.p (strs l),.p (.sl 1 [])] S (B (decide (l.length=0))) S:=by
 refine ADet.intro mixed call206 func206 rfl ?_
 rcases l with _|⟨s,l⟩
 .simp[ntmps206,strs]
  refine zF (fun q:Nat=>q=0) (fun q=>(List.replicate 12 .any++([I 0,I 0]++List.replicate 12 .any))) (fun q=>[]::S) (fun q=>0) 0 rfl ?_ ?_ ?_
  .simp
  .simp
  rintro q rfl
  simp
 have h1:((l.length:Int)+1 !=0)=true:=by simp;omega
 simp[ntmps206,strs,h1]
theorem zVL(l:List BA)(S:ASt):ADet Tryz.prog 206 [.p (strs l),nilS] S (B (decide (l.length=0))) S:=
 ADet.nilP (as1:=[.p (strs l)]) (as2:=[]) (zVK l S)
theorem zVM(l:List Ex)(S:ASt):ADet Tryz.prog 183 [.p (.sl 8 (l.map Ex.enc)),.p (.sl 8 []),.fn (.func 149) [] []] S (B (decide (l.length=0))) S:=by
 refine ADet.intro mixed call183 func183 rfl ?_
 rcases l with _|⟨s,l⟩
 .simp[ntmps183]
  refine zF (fun q:Nat=>q=0) (fun q=>(List.replicate 16 .any++([I 0,I 0]++List.replicate 14 .any))) (fun q=>[]::S) (fun q=>0) 0 rfl ?_ ?_ ?_
  .simp
  .simp
  rintro q rfl
  simp
 have h1:((l.length:Int)+1 !=0)=true:=by simp;omega
 simp[ntmps183,h1]
theorem zVN(l:List Ex)(S:ASt):ADet Tryz.prog 183 [.p (.sl 8 (l.map Ex.enc)),nilS,.fn (.func 149) [] []] S (B (decide (l.length=0))) S:=
 ADet.nilP (as1:=[.p (.sl 8 (l.map Ex.enc))]) (as2:=[.fn (.func 149) [] []]) (zVM l S)
theorem zPX(x:Pl)(S:ASt):ADet Tryz.prog 182 [plV x,.agg [Sg emS,nilS]] S (B (sEq x.name emS&&decide (x.path.length=0))) S:=by
 refine ADet.intro mixed call182 func182 rfl ?_
 cases hs:sEq x.name emS with
 |false=>simp[ntmps182,hs]
 |true=>
  simp[ntmps182,hs];refine cq (zVL x.path _) ?_;simp
theorem zHe(e:Ex)(S:ASt):ADet Tryz.prog 149 [exV e,.agg [U 0,I 0,Sg emS,Sg emS,Sg emS,nilS,nilS,I 0]] S (B (zCr e)) S:=by
 have hS:=fun S=>zPX e.place S
 have hR:zCr e=((e.op==0)&&((e.int==0)&&(sEq e.name emS&&(sEq e.u2 emS&&((sEq e.place.name emS&&decide (e.place.path.length=0))&&decide (e.args.length=0)))))):=rfl
 generalize zCr e=R at*
 generalize (sEq e.place.name emS&&decide (e.place.path.length=0))=b5 at*
 refine ADet.intro mixed call149 func149 rfl ?_
 rcases(Bool.eq_false_or_eq_true (e.op==0)).symm with h1|h1
 .have e0:R=false:=by rw[hR,h1];rfl
  simp[ntmps149,h1,e0]
 rcases(Bool.eq_false_or_eq_true (e.int==0)).symm with h2|h2
 .have e0:R=false:=by rw[hR,h1,h2];rfl
  simp[ntmps149,h1,h2,e0]
 rcases(Bool.eq_false_or_eq_true (sEq e.name emS)).symm with h3|h3
 .have e0:R=false:=by rw[hR,h1,h2,h3];rfl
  simp[ntmps149,h1,h2,h3,e0]
 rcases(Bool.eq_false_or_eq_true (sEq e.u2 emS)).symm with h4|h4
 .have e0:R=false:=by rw[hR,h1,h2,h3,h4];rfl
  simp[ntmps149,h1,h2,h3,h4,e0]
 rw[h1,h2,h3,h4,Bool.true_and,Bool.true_and,Bool.true_and,Bool.true_and]at hR;simp[ntmps149,h1,h2,h3,h4];refine cq (hS _) ?_
 cases b5 with
 |false=>
  have e0:R=false:=by rw[hR,Bool.false_and]
  simp[e0]
 |true=>
  rw[Bool.true_and]at hR;rw[hR];simp;refine cq (zVN e.args _) ?_;simp
def nfK(k:Int):Nat:=if k=2 then 105 else 51
theorem nfC(k:Int)(s:BA)(h:s.size<=20000)(S:ASt):ADet Tryz.prog (nfK k) [Sg s] S (B (if k=2 then zCf s else zBR s)) S:=by
 unfold nfK;split
 .exact zDx s (zBI h) S
 exact zCL s (zBI h) S
theorem zLj(k:Int)(f:Fi)(hf:FiSm f)(d:Int)(h0: -1<=d-1)(h1:d<=1000)(S:ASt)(n i1 i2 m j:Nat)(k1:get2 S n i1=some (.cells [.fn (.func (nfK k)) [] []] 86))(k2:get2 S n i2=some (.cells [B (k==2)] 4))(k3:get2 S m j=some (.cells [I d] 3)):
  ADet Tryz.prog 147 [fiV f,.ptr n i1 0,.ptr n i2 0,.ptr m j 0] S (B (zDM k d f)) S:=by
 have g1:=fun S=>nfC k f.name hf.1 S
 have g2:=fun S=>zC6 f.type S
 have g3:=fun S=>zA7 f.type hf.2 (d-1) S (by omega) (by omega)
 unfold zDM
 generalize (if k=2 then zCf f.name else zBR f.name)=b1 at*
 generalize (k==2)=b2 at*
 refine ADet.intro mixed call147 func147 rfl ?_;simp[ntmps147,k1];refine cq (g1 _) ?_
 cases b1 with
 |false=>simp[k2]
 |true=>
  cases b2 with
  |false=>
   simp[k2,k3,wrd d (by omega)]
   refine cq (g3 _) ?_
   simp
  |true=>
   simp[k2];refine cq (g2 _) ?_
   cases hz:zBt f.type with
   |true=>simp
   |false=>
    simp[k3,wrd d (by omega)]
    refine cq (g3 _) ?_;simp
theorem zFm(k:Int)(x:It)(hf:zPH x.fields)(d:Int)(h0: -1<=d-1)(h1:d<=1000)(S:ASt)(n i j:Nat)(hi:get2 S n i=some (.cells (itU x) 45))(hj:get2 S n j=some (.cells [I d] 3)):
  ADet Tryz.prog 145 [.fn (.func (nfK k)) [] [],B (k==2),.ptr n i 0,.ptr n j 0] S (B (zv (zDM k d) x.fields 6)) S:=by
 have Dd:=zR8 (zDM k d) x.fields 6 (by omega) 147 [] [.ptr 0 0 0,.ptr 0 1 0,.ptr (n+1) j 0] ([.cells [.fn (.func (nfK k)) [] []] 86,.cells [B (k==2)] 4]::S) fun f hm L=>by
  simp only[AV.ups,AV.up,List.nil_append];exact zLj k f (hf.2 f hm) d h0 h1 _ 1 0 1 (n+2) j rfl rfl hj
 generalize (k==2)=b2 at*
 refine ADet.intro mixed call145 func145 rfl ?_;simp[ntmps145,hi];refine cq Dd ?_;simp
theorem zMs(x:St)(hx:WSC x)(d:Int)(h0: -1<=d-1)(h1:d<=1000)(S:ASt)(n j:Nat)(hj:get2 S n j=some (.cells [I d] 3)):ADet Tryz.prog 151 [stmV x,.ptr n j 0] S (B (x.whole (d-1))) S:=by
 refine ADet.intro mixed call151 func151 rfl ?_;simp[ntmps151,hj,wrd d (by omega)]
 refine cq (hx (d-1) _ (by omega) (by omega)) ?_
 simp
theorem zGE(l:List St)(hx:∀x∈l,WSC x)(hm:l.length<=20000)(d:Int)(h0: -1<=d-1)(h1:d<=1000)(S:ASt)(n j:Nat)(hj:get2 S n j=some (.cells [I d] 3)):
  ADet Tryz.prog 150 [.p (.sl 15 (l.map St.enc)),I l.length,.fn (.func 151) [] [.ptr n j 0]] S (B (l.all fun x=>x.whole (d-1))) S:=by
 have:=zN2 (fun x=>x.whole (d-1)) l l.length (by omega) 151 [] [.ptr n j 0] S fun x hm L=>by
  simp only[AV.ups,AV.up,List.nil_append];exact zMs x (hx x hm) d h0 h1 (L::S) (n+1) j hj
 rw[zB4 (Int.le_refl _)]at this;exact this
def WIC(x:It):Prop:=∀(d:Int) (S:ASt),0<=d->d<=1000->ADet Tryz.prog 117 [itV x,I d] S (B (x.whole d)) S
theorem zMt(x:It)(xa:ItSm x)(hk:x.kind=1):WIC x:=by
 intro d S Cc Ua
 obtain⟨hn,Rb,Qb,Od,va⟩:=xa
 have gZ:=fun S=>zC6 x.result S
 have gS:=fun S=>zHe x.ret S
 have gY:=fun S=>zDx x.name (zBI hn) S
 have gN:=fun S=>zCL x.name (zBI hn) S
 have gT:=fun S=>zA7 x.result Qb (d-1) S (by omega) (by omega)
 have gL:=fun S=>zPP x.ret S
 have gE:=fun S=>zBZ x.ret va (d-1) S (by omega) (by omega)
 have gB:=fun S h=>zGE x.body (fun s hs=>zHd s (Od.2 s hs)) Od.1 d (by omega) Ua S 0 1 h
 have gF:=fun S h1 h2=>zFm 1 x Rb d (by omega) Ua S 0 0 1 h1 h2
 have T:∀m:Int,(x.kind==m)=((1:Int)==m):=fun m=>by rw[hk]
 have hw:x.whole d=((zBt x.result&&(decide (x.body.length=0)&&(zCr x.ret&&zCf x.name)))&&zv (zDM 1 d) x.fields 6):=by
  unfold It.whole;rw[if_pos (by omega),hk]
 refine ADet.intro mixed call117 func117 rfl ?_;simp[ntmps117];refine cq (gZ _) ?_
 cases hz:zBt x.result with
 |false=>
  simp only[hz,Bool.false_and]at hw
  simp[T,hz,hw]
 |true=>
  by_cases db:x.body.length=0
  .have sg:(x.body.length=0)=True:=eq_true db
   simp[hz,sg];refine cq (gS _) ?_
   cases hs:zCr x.ret with
   |false=>
    simp only[hz,hs,Bool.false_and,Bool.and_false]at hw
    simp[T,hs,hw]
   |true=>
    simp;refine cq (gY _) ?_
    cases hy:zCf x.name with
    |false=>
     simp only[hz,hs,hy,Bool.false_and,Bool.and_false]at hw
     simp[T,hy,hw]
    |true=>
     simp only[hz,db,hs,hy,decide_true,Bool.true_and]at hw;simp[T,hy];refine cq (gF _ rfl rfl) ?_;simp[hw]
  have sg:(x.body.length=0)=False:=eq_false db
  simp only[hz,db,decide_false,Bool.false_and,Bool.and_false]at hw;simp[T,hz,sg,hw]
theorem zMu(x:It)(xa:ItSm x)(hk:x.kind=2):WIC x:=by
 intro d S Cc Ua
 obtain⟨hn,Rb,Qb,Od,va⟩:=xa
 have gZ:=fun S=>zC6 x.result S
 have gS:=fun S=>zHe x.ret S
 have gY:=fun S=>zDx x.name (zBI hn) S
 have gN:=fun S=>zCL x.name (zBI hn) S
 have gT:=fun S=>zA7 x.result Qb (d-1) S (by omega) (by omega)
 have gL:=fun S=>zPP x.ret S
 have gE:=fun S=>zBZ x.ret va (d-1) S (by omega) (by omega)
 have gB:=fun S h=>zGE x.body (fun s hs=>zHd s (Od.2 s hs)) Od.1 d (by omega) Ua S 0 1 h
 have gF:=fun S h1 h2=>zFm 2 x Rb d (by omega) Ua S 0 0 1 h1 h2
 have T:∀m:Int,(x.kind==m)=((2:Int)==m):=fun m=>by rw[hk]
 have hw:x.whole d=((zBt x.result&&(decide (x.body.length=0)&&(zCr x.ret&&zCf x.name)))&&zv (zDM 2 d) x.fields 6):=by
  unfold It.whole;rw[if_pos (by omega),hk]
 refine ADet.intro mixed call117 func117 rfl ?_;simp[ntmps117];refine cq (gZ _) ?_
 cases hz:zBt x.result with
 |false=>
  simp only[hz,Bool.false_and]at hw
  simp[T,hz,hw]
 |true=>
  by_cases db:x.body.length=0
  .have sg:(x.body.length=0)=True:=eq_true db
   simp[hz,sg];refine cq (gS _) ?_
   cases hs:zCr x.ret with
   |false=>
    simp only[hz,hs,Bool.false_and,Bool.and_false]at hw
    simp[T,hs,hw]
   |true=>
    simp;refine cq (gY _) ?_
    cases hy:zCf x.name with
    |false=>
     simp only[hz,hs,hy,Bool.false_and,Bool.and_false]at hw
     simp[T,hy,hw]
    |true=>
     simp only[hz,db,hs,hy,decide_true,Bool.true_and]at hw;simp[T,hy];refine cq (gF _ rfl rfl) ?_;simp[hw]
  have sg:(x.body.length=0)=False:=eq_false db
  simp only[hz,db,decide_false,Bool.false_and,Bool.and_false]at hw;simp[T,hz,sg,hw]
theorem zMv(x:It)(xa:ItSm x)(hk:x.kind=3):WIC x:=by
 intro d S Cc Ua
 obtain⟨hn,Rb,Qb,Od,va⟩:=xa
 have gZ:=fun S=>zC6 x.result S
 have gS:=fun S=>zHe x.ret S
 have gY:=fun S=>zDx x.name (zBI hn) S
 have gN:=fun S=>zCL x.name (zBI hn) S
 have gT:=fun S=>zA7 x.result Qb (d-1) S (by omega) (by omega)
 have gL:=fun S=>zPP x.ret S
 have gE:=fun S=>zBZ x.ret va (d-1) S (by omega) (by omega)
 have gB:=fun S h=>zGE x.body (fun s hs=>zHd s (Od.2 s hs)) Od.1 d (by omega) Ua S 0 1 h
 have gF:=fun S h1 h2=>zFm 3 x Rb d (by omega) Ua S 0 0 1 h1 h2
 have T:∀m:Int,(x.kind==m)=((3:Int)==m):=fun m=>by rw[hk]
 have hw:x.whole d=(zBR x.name&&(zv (zDM 3 d) x.fields 6&&(x.result.whole (d-1)&&(!zCW x.ret.op&&(x.ret.whole (d-1)&&x.body.all fun s=>s.whole (d-1)))))):=by
  unfold It.whole;rw[if_neg (by omega),if_pos hk]
 refine ADet.intro mixed call117 func117 rfl ?_;simp[ntmps117];refine cq (gZ _) ?_
 cases hz:zBt x.result with
 |false=>
  simp[T,hz];refine cq (gN _) ?_;rw[hw]
  generalize zBR x.name=c1
  cases c1 with
  |false=>simp
  |true=>
   simp;refine cq (gF _ rfl rfl) ?_
   generalize zv (zDM 3 d) x.fields 6=c2
   cases c2 with
   |false=>simp
   |true=>
    simp[wrd d (by omega)]
    refine cq (gT _) ?_
    generalize x.result.whole (d-1)=c3
    cases c3 with
    |false=>simp
    |true=>
     simp;refine cq (gL _) ?_
     generalize zCW x.ret.op=c4
     cases c4 with
     |true=>simp
     |false=>
      simp[wrd d (by omega)]
      refine cq (gE _) ?_
      generalize x.ret.whole (d-1)=c5
      cases c5 with
      |false=>simp
      |true=>
       simp;refine cq (gB _ rfl) ?_
       simp
 |true=>
  by_cases db:x.body.length=0
  .have sg:(x.body.length=0)=True:=eq_true db
   simp[hz,sg];refine cq (gS _) ?_
   cases hs:zCr x.ret with
   |false=>
    simp[T,hs];refine cq (gN _) ?_;rw[hw]
    generalize zBR x.name=c1
    cases c1 with
    |false=>simp
    |true=>
     simp;refine cq (gF _ rfl rfl) ?_
     generalize zv (zDM 3 d) x.fields 6=c2
     cases c2 with
     |false=>simp
     |true=>
      simp[wrd d (by omega)]
      refine cq (gT _) ?_
      generalize x.result.whole (d-1)=c3
      cases c3 with
      |false=>simp
      |true=>
       simp;refine cq (gL _) ?_
       generalize zCW x.ret.op=c4
       cases c4 with
       |true=>simp
       |false=>
        simp[wrd d (by omega)]
        refine cq (gE _) ?_
        generalize x.ret.whole (d-1)=c5
        cases c5 with
        |false=>simp
        |true=>
         simp;refine cq (gB _ rfl) ?_
         simp
   |true=>
    simp;refine cq (gY _) ?_
    cases hy:zCf x.name with
    |false=>
     simp[T,hy];refine cq (gN _) ?_;rw[hw]
     generalize zBR x.name=c1
     cases c1 with
     |false=>simp
     |true=>
      simp;refine cq (gF _ rfl rfl) ?_
      generalize zv (zDM 3 d) x.fields 6=c2
      cases c2 with
      |false=>simp
      |true=>
       simp[wrd d (by omega)]
       refine cq (gT _) ?_
       generalize x.result.whole (d-1)=c3
       cases c3 with
       |false=>simp
       |true=>
        simp;refine cq (gL _) ?_
        generalize zCW x.ret.op=c4
        cases c4 with
        |true=>simp
        |false=>
         simp[wrd d (by omega)]
         refine cq (gE _) ?_
         generalize x.ret.whole (d-1)=c5
         cases c5 with
         |false=>simp
         |true=>
          simp;refine cq (gB _ rfl) ?_
          simp
    |true=>
     simp[T,hy];refine cq (gN _) ?_;rw[hw]
     generalize zBR x.name=c1
     cases c1 with
     |false=>simp
     |true=>
      simp;refine cq (gF _ rfl rfl) ?_
      generalize zv (zDM 3 d) x.fields 6=c2
      cases c2 with
      |false=>simp
      |true=>
       simp[wrd d (by omega)]
       refine cq (gT _) ?_
       generalize x.result.whole (d-1)=c3
       cases c3 with
       |false=>simp
       |true=>
        simp;refine cq (gL _) ?_
        generalize zCW x.ret.op=c4
        cases c4 with
        |true=>simp
        |false=>
         simp[wrd d (by omega)]
         refine cq (gE _) ?_
         generalize x.ret.whole (d-1)=c5
         cases c5 with
         |false=>simp
         |true=>
          simp;refine cq (gB _ rfl) ?_;simp
  have sg:(x.body.length=0)=False:=eq_false db
  simp[T,hz,sg];refine cq (gN _) ?_;rw[hw]
  generalize zBR x.name=c1
  cases c1 with
  |false=>simp
  |true=>
   simp;refine cq (gF _ rfl rfl) ?_
   generalize zv (zDM 3 d) x.fields 6=c2
   cases c2 with
   |false=>simp
   |true=>
    simp[wrd d (by omega)]
    refine cq (gT _) ?_
    generalize x.result.whole (d-1)=c3
    cases c3 with
    |false=>simp
    |true=>
     simp;refine cq (gL _) ?_
     generalize zCW x.ret.op=c4
     cases c4 with
     |true=>simp
     |false=>
      simp[wrd d (by omega)]
      refine cq (gE _) ?_
      generalize x.ret.whole (d-1)=c5
      cases c5 with
      |false=>simp
      |true=>
       simp;refine cq (gB _ rfl) ?_;simp
theorem zMw(x:It)(xa:ItSm x)(hk:¬(x.kind=1\/x.kind=2\/x.kind=3)):WIC x:=by
 intro d S Cc Ua
 obtain⟨hn,Rb,Qb,Od,va⟩:=xa
 have gZ:=fun S=>zC6 x.result S
 have gS:=fun S=>zHe x.ret S
 have gY:=fun S=>zDx x.name (zBI hn) S
 have gN:=fun S=>zCL x.name (zBI hn) S
 have gT:=fun S=>zA7 x.result Qb (d-1) S (by omega) (by omega)
 have gL:=fun S=>zPP x.ret S
 have gE:=fun S=>zBZ x.ret va (d-1) S (by omega) (by omega)
 have gB:=fun S h=>zGE x.body (fun s hs=>zHd s (Od.2 s hs)) Od.1 d (by omega) Ua S 0 1 h
 have T1:(x.kind==1)=false:=by rw[beq_eq_false_iff_ne];omega
 have T2:(x.kind==2)=false:=by rw[beq_eq_false_iff_ne];omega
 have T3:(x.kind==3)=false:=by rw[beq_eq_false_iff_ne];omega
 have hw:x.whole d=false:=by
  unfold It.whole;rw[if_neg (by omega),if_neg (by omega)]
 refine ADet.intro mixed call117 func117 rfl ?_;simp[ntmps117];refine cq (gZ _) ?_
 cases hz:zBt x.result with
 |false=>
  simp[T1,T2,T3,hz,hw]
 |true=>
  by_cases db:x.body.length=0
  .have sg:(x.body.length=0)=True:=eq_true db
   simp[hz,sg];refine cq (gS _) ?_
   cases hs:zCr x.ret with
   |false=>
    simp[T1,T2,T3,hs,hw]
   |true=>
    simp;refine cq (gY _) ?_
    cases hy:zCf x.name with
    |false=>
     simp[T1,T2,T3,hy,hw]
    |true=>
     simp[T1,T2,T3,hy,hw]
  have sg:(x.body.length=0)=False:=eq_false db
  simp[T1,T2,T3,hz,sg,hw]
theorem zPY(x:It)(xa:ItSm x):WIC x:=by
 by_cases h1:x.kind=1
 .exact zMt x xa h1
 by_cases h2:x.kind=2
 .exact zMu x xa h2
 by_cases h3:x.kind=3
 .exact zMv x xa h3
 exact zMw x xa (by omega)
theorem zYa(x:It)(xa:ItSm x)(S:ASt):ADet Tryz.prog 116 [itV x] S (B (x.whole 39)) S:=by
 refine ADet.intro mixed call116 func116 rfl ?_;simp[ntmps116];refine cq (zPY x xa 39 _ (by omega) (by omega)) ?_
 simp
theorem zGm(p:List It)(xa:PrSm p)(S:ASt):ADet Tryz.prog 58 [.agg [.p (prog p)]] S (B (zAC p)) S:=by
 have Dd:=fun S=>zVE (fun x=>x.whole 39) p 30 (by omega) 116 [] [] S fun x hm L=>by
  simp only[AV.ups,List.nil_append];exact zYa x (xa.2 x hm) _
 refine ADet.intro mixed call58 func58 rfl ?_;simp[ntmps58,prog];refine cq (Dd _) ?_;simp[zAC]
end Go.Proofs.YtdflkegnmmkkoaaGreatDoor
