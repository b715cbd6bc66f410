/- A part of the proof. -/
import Derived.Test.YtdflkegnmmkkoaaGreatDoorWNSe
import Derived.Test.YtdflkegnmmkkoaaGreatDoorWMUb
import Derived.Test.YtdflkegnmmkkoaaGreatDoorWMUc
set_option linter.unusedVariables false
set_option linter.unusedSimpArgs false
set_option maxRecDepth 100000
set_option maxHeartbeats 32000000
namespace Go.Proofs.YtdflkegnmmkkoaaGreatDoor
open Go.RowKit _root_.Go.Proofs.Tryz
attribute [local simp] List.replicate List.range List.range.loop
theorem zaF(op:Int)(h:fmOk op=true):(zAE op=true/\zp op=false/\zA1 op=false/\zAp op=false/\zAq op=false)\/(zAE op=false/\zp op=true/\zA1 op=false/\zAp op=false/\zAq op=false)\/
  (zAE op=false/\zp op=true/\zA1 op=true/\zAp op=false/\zAq op=false)\/(zAE op=false/\zp op=false/\zA1 op=true/\zAp op=true/\zAq op=false)\/
  (zAE op=false/\zp op=false/\zA1 op=false/\zAp op=false/\zAq op=true)\/(zAE op=false/\zp op=false/\zA1 op=true/\zAp op=false/\zAq op=false)\/
  (zAE op=false/\zp op=false/\zA1 op=false/\zAp op=false/\zAq op=false):=by
 unfold fmOk at h;simp only[Bool.and_eq_true,decide_eq_true_eq]at h
 have hop:op=1\/op=2\/op=3\/op=4\/op=5\/op=6\/op=7\/op=8\/op=9\/op=10\/op=11\/op=12\/op=13:=by omega
 rcases hop with rfl|rfl|rfl|rfl|rfl|rfl|rfl|rfl|rfl|rfl|rfl|rfl|rfl<;>decide
theorem zJJ(s:St)(d:Int)(S:ASt)(h:¬1<=d\/fmOk s.op=false):ADet Tryz.prog 152 [stmV s,I d] S (B (s.whole d)) S:=by
 have e:s.whole d=false:=by
  rw[zC]
  rcases h with h|h<;>simp[zR,h]
 rw[e];refine ADet.intro mixed call152 func152 rfl ?_;simp[ntmps152];refine cq (zEg s _) ?_
 by_cases h0:d<1
 .simp[h0,fmV]
 have ho:fmOk s.op=false:=h.resolve_left (by omega)
 simp[h0,ho,fmV]
theorem zHG:∀(s:St),StSm s->WSC s:=by
 refine St.ind fun s Ub Mb Md wa d S Dc Ta=>?_
 have No:=wa
 obtain⟨_,_,_,_,_,_,_,_,_,_,Pd,Ie,has,Zf⟩:=No
 have i1:∀x∈s.body,WSC x:=fun x hx=>Ub x hx (Pd x hx)
 have i2:∀x∈s.els,WSC x:=fun x hx=>Mb x hx (Ie x hx)
 have i3:∀a∈s.arms,∀x∈a.body,WSC x:=fun a ha x hx=>Md a ha x hx (Zf a ha x hx)
 by_cases h0:1<=d
 .cases ho:fmOk s.op with
  |false=>exact zJJ s d S (.inr ho)
  |true=>
   rcases zaF s.op ho with⟨a,b,c,e,f⟩|⟨a,b,c,e,f⟩|⟨a,b,c,e,f⟩|⟨a,b,c,e,f⟩|⟨a,b,c,e,f⟩|⟨a,b,c,e,f⟩|⟨a,b,c,e,f⟩
   .exact zPA s wa i1 i2 i3 d S Dc Ta h0 ho a b c e f
   .exact zPB s wa i1 i2 i3 d S Dc Ta h0 ho a b c e f
   .exact zPC s wa i1 i2 i3 d S Dc Ta h0 ho a b c e f
   .exact zPD s wa i1 i2 i3 d S Dc Ta h0 ho a b c e f
   .exact zPE s wa i1 i2 i3 d S Dc Ta h0 ho a b c e f
   .exact zPF s wa i1 i2 i3 d S Dc Ta h0 ho a b c e f
   exact zPG s wa i1 i2 i3 d S Dc Ta h0 ho a b c e f
 exact zJJ s d S (.inl h0)
theorem ADet.nilP{P:Program}{F:FuncId}{as1 as2:List AV}{k:Nat}{S S':ASt}{r:AV}(h:ADet P F (as1++ .p (.sl k [])::as2) S r S'):ADet P F (as1++nilS::as2) S r S':=by
 refine⟨h.1,fun Pr φ xs w da hR hne=>h.2 Pr φ xs w ⟨by rw[<-da.1];simp,fun j c x hc hx=>?_⟩ hR hne⟩
 rcases Nat.lt_trichotomy j as1.length with hj|hj|hj
 .rw[List.getElem?_append_left hj]at hc
  exact da.2 j c x (by rw[List.getElem?_append_left hj];exact hc) hx
 .subst hj
  rw[List.getElem?_append_right (Nat.le_refl _),Nat.sub_self]at hc;cases hc
  have h0:=da.2 as1.length nilS x (by simp) hx
  cases h0 with
  |p h0=>
   cases h0 with
   |v _=>exact .p (.slemp k none 0 (Nat.zero_le _))
 have Ig:as1.length<=j:=by omega
 obtain⟨k',hk⟩:∃k',j-as1.length=k'+1:=⟨j-as1.length-1,by omega⟩
 rw[List.getElem?_append_right Ig,hk]at hc;exact da.2 j c x (by rw[List.getElem?_append_right Ig,hk];exact hc) hx
theorem zUk(l:List BA)(S:ASt):ADet Tryz.prog 206 [.p (strs l),.p (.sl 1 [])] S (B (decide (l.length=0))) S:=by
 refine ADet.intro mixed call206 func206 rfl ?_
 rcases l with _|⟨s,l⟩
 .simp[ntmps206,strs]
  refine zH (fun q:Nat=>q=0) (fun q=>(List.replicate 12 .any++([I 0,I 0]++List.replicate 12 .any))) (fun q=>[]::S) (fun q=>0) 0 rfl ?_ ?_ ?_
  .simp
  .simp
  rintro q rfl
  simp
 have h1:((l.length:Int)+1 !=0)=true:=by simp;omega
 simp[ntmps206,strs,h1]
theorem zUl(l:List BA)(S:ASt):ADet Tryz.prog 206 [.p (strs l),nilS] S (B (decide (l.length=0))) S:=
 ADet.nilP (as1:=[.p (strs l)]) (as2:=[]) (zUk l S)
theorem zUm(l:List Ex)(S:ASt):ADet Tryz.prog 183 [.p (.sl 8 (l.map Ex.enc)),.p (.sl 8 []),.fn (.func 149) [] []] S (B (decide (l.length=0))) S:=by
 refine ADet.intro mixed call183 func183 rfl ?_
 rcases l with _|⟨s,l⟩
 .simp[ntmps183]
  refine zH (fun q:Nat=>q=0) (fun q=>(List.replicate 16 .any++([I 0,I 0]++List.replicate 14 .any))) (fun q=>[]::S) (fun q=>0) 0 rfl ?_ ?_ ?_
  .simp
  .simp
  rintro q rfl
  simp
 have h1:((l.length:Int)+1 !=0)=true:=by simp;omega
 simp[ntmps183,h1]
theorem zUn(l:List Ex)(S:ASt):ADet Tryz.prog 183 [.p (.sl 8 (l.map Ex.enc)),nilS,.fn (.func 149) [] []] S (B (decide (l.length=0))) S:=
 ADet.nilP (as1:=[.p (.sl 8 (l.map Ex.enc))]) (as2:=[.fn (.func 149) [] []]) (zUm l S)
theorem zPH(x:Pl)(S:ASt):ADet Tryz.prog 182 [plV x,.agg [Sg emS,nilS]] S (B (sEq x.name emS&&decide (x.path.length=0))) S:=by
 refine ADet.intro mixed call182 func182 rfl ?_
 cases hs:sEq x.name emS with
 |false=>simp[ntmps182,hs]
 |true=>
  simp[ntmps182,hs];refine cq (zUl x.path _) ?_;simp
theorem zHH(e:Ex)(S:ASt):ADet Tryz.prog 149 [exV e,.agg [U 0,I 0,Sg emS,Sg emS,Sg emS,nilS,nilS,I 0]] S (B (zDa e)) S:=by
 have hS:=fun S=>zPH e.place S
 have hR:zDa e=((e.op==0)&&((e.int==0)&&(sEq e.name emS&&(sEq e.u2 emS&&((sEq e.place.name emS&&decide (e.place.path.length=0))&&decide (e.args.length=0)))))):=rfl
 generalize zDa e=R at*
 generalize (sEq e.place.name emS&&decide (e.place.path.length=0))=b5 at*
 refine ADet.intro mixed call149 func149 rfl ?_
 rcases(Bool.eq_false_or_eq_true (e.op==0)).symm with h1|h1
 .have e0:R=false:=by rw[hR,h1];rfl
  simp[ntmps149,h1,e0]
 rcases(Bool.eq_false_or_eq_true (e.int==0)).symm with h2|h2
 .have e0:R=false:=by rw[hR,h1,h2];rfl
  simp[ntmps149,h1,h2,e0]
 rcases(Bool.eq_false_or_eq_true (sEq e.name emS)).symm with h3|h3
 .have e0:R=false:=by rw[hR,h1,h2,h3];rfl
  simp[ntmps149,h1,h2,h3,e0]
 rcases(Bool.eq_false_or_eq_true (sEq e.u2 emS)).symm with h4|h4
 .have e0:R=false:=by rw[hR,h1,h2,h3,h4];rfl
  simp[ntmps149,h1,h2,h3,h4,e0]
 rw[h1,h2,h3,h4,Bool.true_and,Bool.true_and,Bool.true_and,Bool.true_and]at hR;simp[ntmps149,h1,h2,h3,h4];refine cq (hS _) ?_
 cases b5 with
 |false=>
  have e0:R=false:=by rw[hR,Bool.false_and]
  simp[e0]
 |true=>
  rw[Bool.true_and]at hR;rw[hR];simp;refine cq (zUn e.args _) ?_;simp
def nfK(k:Int):Nat:=if k=2 then 105 else 51
theorem nfC(k:Int)(s:BA)(h:s.size<=20000)(S:ASt):ADet Tryz.prog (nfK k) [Sg s] S (B (if k=2 then zCW s else zBO s)) S:=by
 unfold nfK;split
 .exact zDj s (zBD h) S
 exact zCE s (zBD h) S
theorem zLW(k:Int)(f:Fi)(hf:FiSm f)(d:Int)(h0: -1<=d-1)(h1:d<=1000)(S:ASt)(n i1 i2 m j:Nat)(k1:get2 S n i1=some (.cells [.fn (.func (nfK k)) [] []] 86))(k2:get2 S n i2=some (.cells [B (k==2)] 4))(k3:get2 S m j=some (.cells [I d] 3)):
  ADet Tryz.prog 147 [fiV f,.ptr n i1 0,.ptr n i2 0,.ptr m j 0] S (B (zDE k d f)) S:=by
 have g1:=fun S=>nfC k f.name hf.1 S
 have g2:=fun S=>zCv f.type S
 have g3:=fun S=>zA3 f.type hf.2 (d-1) S (by omega) (by omega)
 unfold zDE
 generalize (if k=2 then zCW f.name else zBO f.name)=b1 at*
 generalize (k==2)=b2 at*
 refine ADet.intro mixed call147 func147 rfl ?_;simp[ntmps147,k1];refine cq (g1 _) ?_
 cases b1 with
 |false=>simp[k2]
 |true=>
  cases b2 with
  |false=>
   simp[k2,k3,wrd d (by omega)]
   refine cq (g3 _) ?_
   simp
  |true=>
   simp[k2];refine cq (g2 _) ?_
   cases hz:zBl f.type with
   |true=>simp
   |false=>
    simp[k3,wrd d (by omega)]
    refine cq (g3 _) ?_;simp
theorem zFZ(k:Int)(x:It)(hf:zO3 x.fields)(d:Int)(h0: -1<=d-1)(h1:d<=1000)(S:ASt)(n i j:Nat)(hi:get2 S n i=some (.cells (itU x) 45))(hj:get2 S n j=some (.cells [I d] 3)):
  ADet Tryz.prog 145 [.fn (.func (nfK k)) [] [],B (k==2),.ptr n i 0,.ptr n j 0] S (B (zt (zDE k d) x.fields 6)) S:=by
 have Fd:=zRr (zDE k d) x.fields 6 (by omega) 147 [] [.ptr 0 0 0,.ptr 0 1 0,.ptr (n+1) j 0] ([.cells [.fn (.func (nfK k)) [] []] 86,.cells [B (k==2)] 4]::S) fun f hm L=>by
  simp only[AV.ups,AV.up,List.nil_append];exact zLW k f (hf.2 f hm) d h0 h1 _ 1 0 1 (n+2) j rfl rfl hj
 generalize (k==2)=b2 at*
 refine ADet.intro mixed call145 func145 rfl ?_;simp[ntmps145,hi];refine cq Fd ?_;simp
theorem zMh(x:St)(hx:WSC x)(d:Int)(h0: -1<=d-1)(h1:d<=1000)(S:ASt)(n j:Nat)(hj:get2 S n j=some (.cells [I d] 3)):ADet Tryz.prog 151 [stmV x,.ptr n j 0] S (B (x.whole (d-1))) S:=by
 refine ADet.intro mixed call151 func151 rfl ?_;simp[ntmps151,hj,wrd d (by omega)]
 refine cq (hx (d-1) _ (by omega) (by omega)) ?_
 simp
theorem zFy(l:List St)(hx:∀x∈l,WSC x)(hm:l.length<=20000)(d:Int)(h0: -1<=d-1)(h1:d<=1000)(S:ASt)(n j:Nat)(hj:get2 S n j=some (.cells [I d] 3)):
  ADet Tryz.prog 150 [.p (.sl 15 (l.map St.enc)),I l.length,.fn (.func 151) [] [.ptr n j 0]] S (B (l.all fun x=>x.whole (d-1))) S:=by
 have:=zNr (fun x=>x.whole (d-1)) l l.length (by omega) 151 [] [.ptr n j 0] S fun x hm L=>by
  simp only[AV.ups,AV.up,List.nil_append];exact zMh x (hx x hm) d h0 h1 (L::S) (n+1) j hj
 rw[zBx (Int.le_refl _)]at this;exact this
def WIC(x:It):Prop:=∀(d:Int) (S:ASt),0<=d->d<=1000->ADet Tryz.prog 117 [itV x,I d] S (B (x.whole d)) S
theorem zMi(x:It)(wa:ItSm x)(hk:x.kind=1):WIC x:=by
 intro d S Dc Ta
 obtain⟨hn,Tb,Sb,Pd,ua⟩:=wa
 have gZ:=fun S=>zCv x.result S
 have gS:=fun S=>zHH x.ret S
 have gY:=fun S=>zDj x.name (zBD hn) S
 have gN:=fun S=>zCE x.name (zBD hn) S
 have gT:=fun S=>zA3 x.result Sb (d-1) S (by omega) (by omega)
 have gL:=fun S=>zMc x.ret S
 have gE:=fun S=>zBG x.ret ua (d-1) S (by omega) (by omega)
 have gB:=fun S h=>zFy x.body (fun s hs=>zHG s (Pd.2 s hs)) Pd.1 d (by omega) Ta S 0 1 h
 have gF:=fun S h1 h2=>zFZ 1 x Tb d (by omega) Ta S 0 0 1 h1 h2
 have T:∀m:Int,(x.kind==m)=((1:Int)==m):=fun m=>by rw[hk]
 have hw:x.whole d=((zBl x.result&&(decide (x.body.length=0)&&(zDa x.ret&&zCW x.name)))&&zt (zDE 1 d) x.fields 6):=by
  unfold It.whole;rw[if_pos (by omega),hk]
 refine ADet.intro mixed call117 func117 rfl ?_;simp[ntmps117];refine cq (gZ _) ?_
 cases hz:zBl x.result with
 |false=>
  simp only[hz,Bool.false_and]at hw
  simp[T,hz,hw]
 |true=>
  by_cases db:x.body.length=0
  .have vg:(x.body.length=0)=True:=eq_true db
   simp[hz,vg];refine cq (gS _) ?_
   cases hs:zDa x.ret with
   |false=>
    simp only[hz,hs,Bool.false_and,Bool.and_false]at hw
    simp[T,hs,hw]
   |true=>
    simp;refine cq (gY _) ?_
    cases hy:zCW x.name with
    |false=>
     simp only[hz,hs,hy,Bool.false_and,Bool.and_false]at hw
     simp[T,hy,hw]
    |true=>
     simp only[hz,db,hs,hy,decide_true,Bool.true_and]at hw;simp[T,hy];refine cq (gF _ rfl rfl) ?_;simp[hw]
  have vg:(x.body.length=0)=False:=eq_false db
  simp only[hz,db,decide_false,Bool.false_and,Bool.and_false]at hw;simp[T,hz,vg,hw]
theorem zMj(x:It)(wa:ItSm x)(hk:x.kind=2):WIC x:=by
 intro d S Dc Ta
 obtain⟨hn,Tb,Sb,Pd,ua⟩:=wa
 have gZ:=fun S=>zCv x.result S
 have gS:=fun S=>zHH x.ret S
 have gY:=fun S=>zDj x.name (zBD hn) S
 have gN:=fun S=>zCE x.name (zBD hn) S
 have gT:=fun S=>zA3 x.result Sb (d-1) S (by omega) (by omega)
 have gL:=fun S=>zMc x.ret S
 have gE:=fun S=>zBG x.ret ua (d-1) S (by omega) (by omega)
 have gB:=fun S h=>zFy x.body (fun s hs=>zHG s (Pd.2 s hs)) Pd.1 d (by omega) Ta S 0 1 h
 have gF:=fun S h1 h2=>zFZ 2 x Tb d (by omega) Ta S 0 0 1 h1 h2
 have T:∀m:Int,(x.kind==m)=((2:Int)==m):=fun m=>by rw[hk]
 have hw:x.whole d=((zBl x.result&&(decide (x.body.length=0)&&(zDa x.ret&&zCW x.name)))&&zt (zDE 2 d) x.fields 6):=by
  unfold It.whole;rw[if_pos (by omega),hk]
 refine ADet.intro mixed call117 func117 rfl ?_;simp[ntmps117];refine cq (gZ _) ?_
 cases hz:zBl x.result with
 |false=>
  simp only[hz,Bool.false_and]at hw
  simp[T,hz,hw]
 |true=>
  by_cases db:x.body.length=0
  .have vg:(x.body.length=0)=True:=eq_true db
   simp[hz,vg];refine cq (gS _) ?_
   cases hs:zDa x.ret with
   |false=>
    simp only[hz,hs,Bool.false_and,Bool.and_false]at hw
    simp[T,hs,hw]
   |true=>
    simp;refine cq (gY _) ?_
    cases hy:zCW x.name with
    |false=>
     simp only[hz,hs,hy,Bool.false_and,Bool.and_false]at hw
     simp[T,hy,hw]
    |true=>
     simp only[hz,db,hs,hy,decide_true,Bool.true_and]at hw;simp[T,hy];refine cq (gF _ rfl rfl) ?_;simp[hw]
  have vg:(x.body.length=0)=False:=eq_false db
  simp only[hz,db,decide_false,Bool.false_and,Bool.and_false]at hw;simp[T,hz,vg,hw]
theorem zMk(x:It)(wa:ItSm x)(hk:x.kind=3):WIC x:=by
 intro d S Dc Ta
 obtain⟨hn,Tb,Sb,Pd,ua⟩:=wa
 have gZ:=fun S=>zCv x.result S
 have gS:=fun S=>zHH x.ret S
 have gY:=fun S=>zDj x.name (zBD hn) S
 have gN:=fun S=>zCE x.name (zBD hn) S
 have gT:=fun S=>zA3 x.result Sb (d-1) S (by omega) (by omega)
 have gL:=fun S=>zMc x.ret S
 have gE:=fun S=>zBG x.ret ua (d-1) S (by omega) (by omega)
 have gB:=fun S h=>zFy x.body (fun s hs=>zHG s (Pd.2 s hs)) Pd.1 d (by omega) Ta S 0 1 h
 have gF:=fun S h1 h2=>zFZ 3 x Tb d (by omega) Ta S 0 0 1 h1 h2
 have T:∀m:Int,(x.kind==m)=((3:Int)==m):=fun m=>by rw[hk]
 have hw:x.whole d=(zBO x.name&&(zt (zDE 3 d) x.fields 6&&(x.result.whole (d-1)&&(!zCC x.ret.op&&(x.ret.whole (d-1)&&x.body.all fun s=>s.whole (d-1)))))):=by
  unfold It.whole;rw[if_neg (by omega),if_pos hk]
 refine ADet.intro mixed call117 func117 rfl ?_;simp[ntmps117];refine cq (gZ _) ?_
 cases hz:zBl x.result with
 |false=>
  simp[T,hz];refine cq (gN _) ?_;rw[hw]
  generalize zBO x.name=c1
  cases c1 with
  |false=>simp
  |true=>
   simp;refine cq (gF _ rfl rfl) ?_
   generalize zt (zDE 3 d) x.fields 6=c2
   cases c2 with
   |false=>simp
   |true=>
    simp[wrd d (by omega)]
    refine cq (gT _) ?_
    generalize x.result.whole (d-1)=c3
    cases c3 with
    |false=>simp
    |true=>
     simp;refine cq (gL _) ?_
     generalize zCC x.ret.op=c4
     cases c4 with
     |true=>simp
     |false=>
      simp[wrd d (by omega)]
      refine cq (gE _) ?_
      generalize x.ret.whole (d-1)=c5
      cases c5 with
      |false=>simp
      |true=>
       simp;refine cq (gB _ rfl) ?_
       simp
 |true=>
  by_cases db:x.body.length=0
  .have vg:(x.body.length=0)=True:=eq_true db
   simp[hz,vg];refine cq (gS _) ?_
   cases hs:zDa x.ret with
   |false=>
    simp[T,hs];refine cq (gN _) ?_;rw[hw]
    generalize zBO x.name=c1
    cases c1 with
    |false=>simp
    |true=>
     simp;refine cq (gF _ rfl rfl) ?_
     generalize zt (zDE 3 d) x.fields 6=c2
     cases c2 with
     |false=>simp
     |true=>
      simp[wrd d (by omega)]
      refine cq (gT _) ?_
      generalize x.result.whole (d-1)=c3
      cases c3 with
      |false=>simp
      |true=>
       simp;refine cq (gL _) ?_
       generalize zCC x.ret.op=c4
       cases c4 with
       |true=>simp
       |false=>
        simp[wrd d (by omega)]
        refine cq (gE _) ?_
        generalize x.ret.whole (d-1)=c5
        cases c5 with
        |false=>simp
        |true=>
         simp;refine cq (gB _ rfl) ?_
         simp
   |true=>
    simp;refine cq (gY _) ?_
    cases hy:zCW x.name with
    |false=>
     simp[T,hy];refine cq (gN _) ?_;rw[hw]
     generalize zBO x.name=c1
     cases c1 with
     |false=>simp
     |true=>
      simp;refine cq (gF _ rfl rfl) ?_
      generalize zt (zDE 3 d) x.fields 6=c2
      cases c2 with
      |false=>simp
      |true=>
       simp[wrd d (by omega)]
       refine cq (gT _) ?_
       generalize x.result.whole (d-1)=c3
       cases c3 with
       |false=>simp
       |true=>
        simp;refine cq (gL _) ?_
        generalize zCC x.ret.op=c4
        cases c4 with
        |true=>simp
        |false=>
         simp[wrd d (by omega)]
         refine cq (gE _) ?_
         generalize x.ret.whole (d-1)=c5
         cases c5 with
         |false=>simp
         |true=>
          simp;refine cq (gB _ rfl) ?_
          simp
    |true=>
     simp[T,hy];refine cq (gN _) ?_;rw[hw]
     generalize zBO x.name=c1
     cases c1 with
     |false=>simp
     |true=>
      simp;refine cq (gF _ rfl rfl) ?_
      generalize zt (zDE 3 d) x.fields 6=c2
      cases c2 with
      |false=>simp
      |true=>
       simp[wrd d (by omega)]
       refine cq (gT _) ?_
       generalize x.result.whole (d-1)=c3
       cases c3 with
       |false=>simp
       |true=>
        simp;refine cq (gL _) ?_
        generalize zCC x.ret.op=c4
        cases c4 with
        |true=>simp
        |false=>
         simp[wrd d (by omega)]
         refine cq (gE _) ?_
         generalize x.ret.whole (d-1)=c5
         cases c5 with
         |false=>simp
         |true=>
          simp;refine cq (gB _ rfl) ?_;simp
  have vg:(x.body.length=0)=False:=eq_false db
  simp[T,hz,vg];refine cq (gN _) ?_;rw[hw]
  generalize zBO x.name=c1
  cases c1 with
  |false=>simp
  |true=>
   simp;refine cq (gF _ rfl rfl) ?_
   generalize zt (zDE 3 d) x.fields 6=c2
   cases c2 with
   |false=>simp
   |true=>
    simp[wrd d (by omega)]
    refine cq (gT _) ?_
    generalize x.result.whole (d-1)=c3
    cases c3 with
    |false=>simp
    |true=>
     simp;refine cq (gL _) ?_
     generalize zCC x.ret.op=c4
     cases c4 with
     |true=>simp
     |false=>
      simp[wrd d (by omega)]
      refine cq (gE _) ?_
      generalize x.ret.whole (d-1)=c5
      cases c5 with
      |false=>simp
      |true=>
       simp;refine cq (gB _ rfl) ?_;simp
theorem zMl(x:It)(wa:ItSm x)(hk:¬(x.kind=1\/x.kind=2\/x.kind=3)):WIC x:=by
 intro d S Dc Ta
 obtain⟨hn,Tb,Sb,Pd,ua⟩:=wa
 have gZ:=fun S=>zCv x.result S
 have gS:=fun S=>zHH x.ret S
 have gY:=fun S=>zDj x.name (zBD hn) S
 have gN:=fun S=>zCE x.name (zBD hn) S
 have gT:=fun S=>zA3 x.result Sb (d-1) S (by omega) (by omega)
 have gL:=fun S=>zMc x.ret S
 have gE:=fun S=>zBG x.ret ua (d-1) S (by omega) (by omega)
 have gB:=fun S h=>zFy x.body (fun s hs=>zHG s (Pd.2 s hs)) Pd.1 d (by omega) Ta S 0 1 h
 have T1:(x.kind==1)=false:=by rw[beq_eq_false_iff_ne];omega
 have T2:(x.kind==2)=false:=by rw[beq_eq_false_iff_ne];omega
 have T3:(x.kind==3)=false:=by rw[beq_eq_false_iff_ne];omega
 have hw:x.whole d=false:=by
  unfold It.whole;rw[if_neg (by omega),if_neg (by omega)]
 refine ADet.intro mixed call117 func117 rfl ?_;simp[ntmps117];refine cq (gZ _) ?_
 cases hz:zBl x.result with
 |false=>
  simp[T1,T2,T3,hz,hw]
 |true=>
  by_cases db:x.body.length=0
  .have vg:(x.body.length=0)=True:=eq_true db
   simp[hz,vg];refine cq (gS _) ?_
   cases hs:zDa x.ret with
   |false=>
    simp[T1,T2,T3,hs,hw]
   |true=>
    simp;refine cq (gY _) ?_
    cases hy:zCW x.name with
    |false=>
     simp[T1,T2,T3,hy,hw]
    |true=>
     simp[T1,T2,T3,hy,hw]
  have vg:(x.body.length=0)=False:=eq_false db
  simp[T1,T2,T3,hz,vg,hw]
theorem zPI(x:It)(wa:ItSm x):WIC x:=by
 by_cases h1:x.kind=1
 .exact zMi x wa h1
 by_cases h2:x.kind=2
 .exact zMj x wa h2
 by_cases h3:x.kind=3
 .exact zMk x wa h3
 exact zMl x wa (by omega)
theorem zXn(x:It)(wa:ItSm x)(S:ASt):ADet Tryz.prog 116 [itV x] S (B (x.whole 39)) S:=by
 refine ADet.intro mixed call116 func116 rfl ?_;simp[ntmps116];refine cq (zPI x wa 39 _ (by omega) (by omega)) ?_
 simp
theorem zGU(p:List It)(wa:PrSm p)(S:ASt):ADet Tryz.prog 58 [.agg [.p (prog p)]] S (B (zAF p)) S:=by
 have Fd:=fun S=>zUd (fun x=>x.whole 39) p 30 (by omega) 116 [] [] S fun x hm L=>by
  simp only[AV.ups,List.nil_append];exact zXn x (wa.2 x hm) _
 refine ADet.intro mixed call58 func58 rfl ?_;simp[ntmps58,prog];refine cq (Fd _) ?_;simp[zAF]
end Go.Proofs.YtdflkegnmmkkoaaGreatDoor
