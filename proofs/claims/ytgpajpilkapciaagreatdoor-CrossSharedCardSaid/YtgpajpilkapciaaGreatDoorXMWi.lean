/- A part of the proof. -/
import Derived.Test.YtgpajpilkapciaaGreatDoorXNSe
import Derived.Test.YtgpajpilkapciaaGreatDoorXMUb
import Derived.Test.YtgpajpilkapciaaGreatDoorXMUc
set_option linter.unusedVariables false
set_option linter.unusedSimpArgs false
set_option maxRecDepth 100000
set_option maxHeartbeats 32000000
namespace Go.Proofs.YtgpajpilkapciaaGreatDoor
open Go.RowKit _root_.Go.Proofs.Tryz
attribute [local simp] List.replicate List.range List.range.loop
theorem zY7(op:Int)(h:fmOk op=true):(zAD op=true/\zk op=false/\zAm op=false/\zAf op=false/\zAS op=false)\/(zAD op=false/\zk op=true/\zAm op=false/\zAf op=false/\zAS op=false)\/
  (zAD op=false/\zk op=true/\zAm op=true/\zAf op=false/\zAS op=false)\/(zAD op=false/\zk op=false/\zAm op=true/\zAf op=true/\zAS op=false)\/
  (zAD op=false/\zk op=false/\zAm op=false/\zAf op=false/\zAS op=true)\/(zAD op=false/\zk op=false/\zAm op=true/\zAf op=false/\zAS op=false)\/
  (zAD op=false/\zk op=false/\zAm op=false/\zAf op=false/\zAS op=false):=by
 unfold fmOk at h;simp only[Bool.and_eq_true,decide_eq_true_eq]at h
 have hop:op=1\/op=2\/op=3\/op=4\/op=5\/op=6\/op=7\/op=8\/op=9\/op=10\/op=11\/op=12\/op=13:=by omega
 rcases hop with rfl|rfl|rfl|rfl|rfl|rfl|rfl|rfl|rfl|rfl|rfl|rfl|rfl<;>decide
theorem zIv(s:St)(d:Int)(S:ASt)(h:¬1<=d\/fmOk s.op=false):ADet Tryz.prog 89 [stmV s,I d] S (B (s.whole d)) S:=by
 have e:s.whole d=false:=by
  rw[zB]
  rcases h with h|h<;>simp[zM,h]
 rw[e];refine ADet.intro mixed call89 func89 rfl ?_;simp[ntmps89];refine cq (zET s _) ?_
 by_cases h0:d<1
 .simp[h0,fmV]
 have ho:fmOk s.op=false:=h.resolve_left (by omega)
 simp[h0,ho,fmV]
theorem zG4:∀(s:St),StSm s->WSC s:=by
 refine St.ind fun s Ob Nb Ed ka d S kc Ia=>?_
 have vk:=ka
 obtain⟨_,_,_,_,_,_,_,_,_,_,Kd,Fc,has,qf⟩:=vk
 have i1:∀x∈s.body,WSC x:=fun x hx=>Ob x hx (Kd x hx)
 have i2:∀x∈s.els,WSC x:=fun x hx=>Nb x hx (Fc x hx)
 have i3:∀a∈s.arms,∀x∈a.body,WSC x:=fun a ha x hx=>Ed a ha x hx (qf a ha x hx)
 by_cases h0:1<=d
 .cases ho:fmOk s.op with
  |false=>exact zIv s d S (.inr ho)
  |true=>
   rcases zY7 s.op ho with⟨a,b,c,e,f⟩|⟨a,b,c,e,f⟩|⟨a,b,c,e,f⟩|⟨a,b,c,e,f⟩|⟨a,b,c,e,f⟩|⟨a,b,c,e,f⟩|⟨a,b,c,e,f⟩
   .exact zOX s ka i1 i2 i3 d S kc Ia h0 ho a b c e f
   .exact zOY s ka i1 i2 i3 d S kc Ia h0 ho a b c e f
   .exact zOZ s ka i1 i2 i3 d S kc Ia h0 ho a b c e f
   .exact zOa s ka i1 i2 i3 d S kc Ia h0 ho a b c e f
   .exact zOb s ka i1 i2 i3 d S kc Ia h0 ho a b c e f
   .exact zOc s ka i1 i2 i3 d S kc Ia h0 ho a b c e f
   exact zOd s ka i1 i2 i3 d S kc Ia h0 ho a b c e f
 exact zIv s d S (.inl h0)
theorem ADet.nilP{P:Program}{F:FuncId}{as1 as2:List AV}{k:Nat}{S S':ASt}{r:AV}(h:ADet P F (as1++ .p (.sl k [])::as2) S r S'):ADet P F (as1++nilS::as2) S r S':=by
 refine⟨h.1,fun Pr φ xs w ea hR hne=>h.2 Pr φ xs w ⟨by rw[<-ea.1];simp,fun j c x hc hx=>?_⟩ hR hne⟩
 rcases Nat.lt_trichotomy j as1.length with hj|hj|hj
 .rw[List.getElem?_append_left hj]at hc
  exact ea.2 j c x (by rw[List.getElem?_append_left hj];exact hc) hx
 .subst hj
  rw[List.getElem?_append_right (Nat.le_refl _),Nat.sub_self]at hc;cases hc
  have h0:=ea.2 as1.length nilS x (by simp) hx
  cases h0 with
  |p h0=>
   cases h0 with
   |v _=>exact .p (.slemp k none 0 (Nat.zero_le _))
 have xg:as1.length<=j:=by omega
 obtain⟨k',hk⟩:∃k',j-as1.length=k'+1:=⟨j-as1.length-1,by omega⟩
 rw[List.getElem?_append_right xg,hk]at hc;exact ea.2 j c x (by rw[List.getElem?_append_right xg,hk];exact hc) hx
theorem zTs(l:List BA)(S:ASt):ADet Tryz.prog 143 [.p (strs l),.p (.sl 1 [])] S (B (decide (l.length=0))) S:=by
 refine ADet.intro mixed call143 func143 rfl ?_
 rcases l with _|⟨s,l⟩
 .simp[ntmps143,strs]
  refine zH (fun q:Nat=>q=0) (fun q=>(List.replicate 12 .any++([I 0,I 0]++List.replicate 12 .any))) (fun q=>[]::S) (fun q=>0) 0 rfl ?_ ?_ ?_
  .simp
  .simp
  rintro q rfl
  simp
 have h1:((l.length:Int)+1 !=0)=true:=by simp;omega
 simp[ntmps143,strs,h1]
theorem zTt(l:List BA)(S:ASt):ADet Tryz.prog 143 [.p (strs l),nilS] S (B (decide (l.length=0))) S:=
 ADet.nilP (as1:=[.p (strs l)]) (as2:=[]) (zTs l S)
theorem zTu(l:List Ex)(S:ASt):ADet Tryz.prog 115 [.p (.sl 8 (l.map Ex.enc)),.p (.sl 8 []),.fn (.func 82) [] []] S (B (decide (l.length=0))) S:=by
 refine ADet.intro mixed call115 func115 rfl ?_
 rcases l with _|⟨s,l⟩
 .simp[ntmps115]
  refine zH (fun q:Nat=>q=0) (fun q=>(List.replicate 16 .any++([I 0,I 0]++List.replicate 14 .any))) (fun q=>[]::S) (fun q=>0) 0 rfl ?_ ?_ ?_
  .simp
  .simp
  rintro q rfl
  simp
 have h1:((l.length:Int)+1 !=0)=true:=by simp;omega
 simp[ntmps115,h1]
theorem zTv(l:List Ex)(S:ASt):ADet Tryz.prog 115 [.p (.sl 8 (l.map Ex.enc)),nilS,.fn (.func 82) [] []] S (B (decide (l.length=0))) S:=
 ADet.nilP (as1:=[.p (.sl 8 (l.map Ex.enc))]) (as2:=[.fn (.func 82) [] []]) (zTu l S)
theorem zOe(x:Pl)(S:ASt):ADet Tryz.prog 114 [plV x,.agg [Sg emS,nilS]] S (B (sEq x.name emS&&decide (x.path.length=0))) S:=by
 refine ADet.intro mixed call114 func114 rfl ?_
 cases hs:sEq x.name emS with
 |false=>simp[ntmps114,hs]
 |true=>
  simp[ntmps114,hs];refine cq (zTt x.path _) ?_;simp
theorem zG5(e:Ex)(S:ASt):ADet Tryz.prog 82 [exV e,.agg [U 0,I 0,Sg emS,Sg emS,Sg emS,nilS,nilS,I 0]] S (B (zDO e)) S:=by
 have hS:=fun S=>zOe e.place S
 have hR:zDO e=((e.op==0)&&((e.int==0)&&(sEq e.name emS&&(sEq e.u4 emS&&((sEq e.place.name emS&&decide (e.place.path.length=0))&&decide (e.args.length=0)))))):=rfl
 generalize zDO e=R at*
 generalize (sEq e.place.name emS&&decide (e.place.path.length=0))=b5 at*
 refine ADet.intro mixed call82 func82 rfl ?_
 rcases(Bool.eq_false_or_eq_true (e.op==0)).symm with h1|h1
 .have e0:R=false:=by rw[hR,h1];rfl
  simp[ntmps82,h1,e0]
 rcases(Bool.eq_false_or_eq_true (e.int==0)).symm with h2|h2
 .have e0:R=false:=by rw[hR,h1,h2];rfl
  simp[ntmps82,h1,h2,e0]
 rcases(Bool.eq_false_or_eq_true (sEq e.name emS)).symm with h3|h3
 .have e0:R=false:=by rw[hR,h1,h2,h3];rfl
  simp[ntmps82,h1,h2,h3,e0]
 rcases(Bool.eq_false_or_eq_true (sEq e.u4 emS)).symm with h4|h4
 .have e0:R=false:=by rw[hR,h1,h2,h3,h4];rfl
  simp[ntmps82,h1,h2,h3,h4,e0]
 rw[h1,h2,h3,h4,Bool.true_and,Bool.true_and,Bool.true_and,Bool.true_and]at hR;simp[ntmps82,h1,h2,h3,h4];refine cq (hS _) ?_
 cases b5 with
 |false=>
  have e0:R=false:=by rw[hR,Bool.false_and]
  simp[e0]
 |true=>
  rw[Bool.true_and]at hR;rw[hR];simp;refine cq (zTv e.args _) ?_;simp
def nfK(k:Int):Nat:=if k=2 then 83 else 84
theorem nfC(k:Int)(s:BA)(h:s.size<=20000)(S:ASt):ADet Tryz.prog (nfK k) [Sg s] S (B (if k=2 then zCg s else zBO s)) S:=by
 unfold nfK;split
 .exact zES s (zAz h) S
 exact zCO s (zAz h) S
theorem zK1(k:Int)(f:Fi)(hf:FiSm f)(d:Int)(h0: -1<=d-1)(h1:d<=1000)(S:ASt)(n i1 i2 m j:Nat)(k1:get2 S n i1=some (.cells [.fn (.func (nfK k)) [] []] 152))(k2:get2 S n i2=some (.cells [B (k==2)] 4))(k3:get2 S m j=some (.cells [I d] 3)):
  ADet Tryz.prog 80 [fiV f,.ptr n i1 0,.ptr n i2 0,.ptr m j 0] S (B (zCi k d f)) S:=by
 have g1:=fun S=>nfC k f.name hf.1 S
 have g2:=fun S=>zCo f.type S
 have g3:=fun S=>zAn f.type hf.2 (d-1) S (by omega) (by omega)
 unfold zCi
 generalize (if k=2 then zCg f.name else zBO f.name)=b1 at*
 generalize (k==2)=b2 at*
 refine ADet.intro mixed call80 func80 rfl ?_;simp[ntmps80,k1];refine cq (g1 _) ?_
 cases b1 with
 |false=>simp[k2]
 |true=>
  cases b2 with
  |false=>
   simp[k2,k3,wrd d (by omega)]
   refine cq (g3 _) ?_
   simp
  |true=>
   simp[k2];refine cq (g2 _) ?_
   cases hz:zBW f.type with
   |true=>simp
   |false=>
    simp[k3,wrd d (by omega)]
    refine cq (g3 _) ?_;simp
theorem zFK(k:Int)(x:It)(hf:zHn x.fields)(d:Int)(h0: -1<=d-1)(h1:d<=1000)(S:ASt)(n i j:Nat)(hi:get2 S n i=some (.cells (itU x) 44))(hj:get2 S n j=some (.cells [I d] 3)):
  ADet Tryz.prog 78 [.fn (.func (nfK k)) [] [],B (k==2),.ptr n i 0,.ptr n j 0] S (B (zq (zCi k d) x.fields 6)) S:=by
 have td:=zQg (zCi k d) x.fields 6 (by omega) 80 [] [.ptr 0 0 0,.ptr 0 1 0,.ptr (n+1) j 0] ([.cells [.fn (.func (nfK k)) [] []] 152,.cells [B (k==2)] 4]::S) fun f hm L=>by
  simp only[AV.ups,AV.up,List.nil_append];exact zK1 k f (hf.2 f hm) d h0 h1 _ 1 0 1 (n+2) j rfl rfl hj
 generalize (k==2)=b2 at*
 refine ADet.intro mixed call78 func78 rfl ?_;simp[ntmps78,hi];refine cq td ?_;simp
theorem zME(x:St)(hx:WSC x)(d:Int)(h0: -1<=d-1)(h1:d<=1000)(S:ASt)(n j:Nat)(hj:get2 S n j=some (.cells [I d] 3)):ADet Tryz.prog 88 [stmV x,.ptr n j 0] S (B (x.whole (d-1))) S:=by
 refine ADet.intro mixed call88 func88 rfl ?_;simp[ntmps88,hj,wrd d (by omega)]
 refine cq (hx (d-1) _ (by omega) (by omega)) ?_
 simp
theorem zFk(l:List St)(hx:∀x∈l,WSC x)(hm:l.length<=20000)(d:Int)(h0: -1<=d-1)(h1:d<=1000)(S:ASt)(n j:Nat)(hj:get2 S n j=some (.cells [I d] 3)):
  ADet Tryz.prog 87 [.p (.sl 15 (l.map St.enc)),I l.length,.fn (.func 88) [] [.ptr n j 0]] S (B (l.all fun x=>x.whole (d-1))) S:=by
 have:=zND (fun x=>x.whole (d-1)) l l.length (by omega) 88 [] [.ptr n j 0] S fun x hm L=>by
  simp only[AV.ups,AV.up,List.nil_append];exact zME x (hx x hm) d h0 h1 (L::S) (n+1) j hj
 rw[zBs (Int.le_refl _)]at this;exact this
def WIC(x:It):Prop:=∀(d:Int) (S:ASt),0<=d->d<=1000->ADet Tryz.prog 53 [itV x,I d] S (B (x.whole d)) S
theorem zMF(x:It)(ka:ItSm x)(hk:x.kind=1):WIC x:=by
 intro d S kc Ia
 obtain⟨hn,Db,Eb,Kd,xa⟩:=ka
 have gZ:=fun S=>zCo x.result S
 have gS:=fun S=>zG5 x.ret S
 have gY:=fun S=>zES x.name (zAz hn) S
 have gN:=fun S=>zCO x.name (zAz hn) S
 have gT:=fun S=>zAn x.result Eb (d-1) S (by omega) (by omega)
 have gL:=fun S=>zL9 x.ret S
 have gE:=fun S=>zA2 x.ret xa (d-1) S (by omega) (by omega)
 have gB:=fun S h=>zFk x.body (fun s hs=>zG4 s (Kd.2 s hs)) Kd.1 d (by omega) Ia S 0 1 h
 have gF:=fun S h1 h2=>zFK 1 x Db d (by omega) Ia S 0 0 1 h1 h2
 have T:∀m:Int,(x.kind==m)=((1:Int)==m):=fun m=>by rw[hk]
 have hw:x.whole d=((zBW x.result&&(decide (x.body.length=0)&&(zDO x.ret&&zCg x.name)))&&zq (zCi 1 d) x.fields 6):=by
  unfold It.whole;rw[if_pos (by omega),hk]
 refine ADet.intro mixed call53 func53 rfl ?_;simp[ntmps53];refine cq (gZ _) ?_
 cases hz:zBW x.result with
 |false=>
  simp only[hz,Bool.false_and]at hw
  simp[T,hz,hw]
 |true=>
  by_cases La:x.body.length=0
  .have dg:(x.body.length=0)=True:=eq_true La
   simp[hz,dg];refine cq (gS _) ?_
   cases hs:zDO x.ret with
   |false=>
    simp only[hz,hs,Bool.false_and,Bool.and_false]at hw
    simp[T,hs,hw]
   |true=>
    simp;refine cq (gY _) ?_
    cases hy:zCg x.name with
    |false=>
     simp only[hz,hs,hy,Bool.false_and,Bool.and_false]at hw
     simp[T,hy,hw]
    |true=>
     simp only[hz,La,hs,hy,decide_true,Bool.true_and]at hw;simp[T,hy];refine cq (gF _ rfl rfl) ?_;simp[hw]
  have dg:(x.body.length=0)=False:=eq_false La
  simp only[hz,La,decide_false,Bool.false_and,Bool.and_false]at hw;simp[T,hz,dg,hw]
theorem zMG(x:It)(ka:ItSm x)(hk:x.kind=2):WIC x:=by
 intro d S kc Ia
 obtain⟨hn,Db,Eb,Kd,xa⟩:=ka
 have gZ:=fun S=>zCo x.result S
 have gS:=fun S=>zG5 x.ret S
 have gY:=fun S=>zES x.name (zAz hn) S
 have gN:=fun S=>zCO x.name (zAz hn) S
 have gT:=fun S=>zAn x.result Eb (d-1) S (by omega) (by omega)
 have gL:=fun S=>zL9 x.ret S
 have gE:=fun S=>zA2 x.ret xa (d-1) S (by omega) (by omega)
 have gB:=fun S h=>zFk x.body (fun s hs=>zG4 s (Kd.2 s hs)) Kd.1 d (by omega) Ia S 0 1 h
 have gF:=fun S h1 h2=>zFK 2 x Db d (by omega) Ia S 0 0 1 h1 h2
 have T:∀m:Int,(x.kind==m)=((2:Int)==m):=fun m=>by rw[hk]
 have hw:x.whole d=((zBW x.result&&(decide (x.body.length=0)&&(zDO x.ret&&zCg x.name)))&&zq (zCi 2 d) x.fields 6):=by
  unfold It.whole;rw[if_pos (by omega),hk]
 refine ADet.intro mixed call53 func53 rfl ?_;simp[ntmps53];refine cq (gZ _) ?_
 cases hz:zBW x.result with
 |false=>
  simp only[hz,Bool.false_and]at hw
  simp[T,hz,hw]
 |true=>
  by_cases La:x.body.length=0
  .have dg:(x.body.length=0)=True:=eq_true La
   simp[hz,dg];refine cq (gS _) ?_
   cases hs:zDO x.ret with
   |false=>
    simp only[hz,hs,Bool.false_and,Bool.and_false]at hw
    simp[T,hs,hw]
   |true=>
    simp;refine cq (gY _) ?_
    cases hy:zCg x.name with
    |false=>
     simp only[hz,hs,hy,Bool.false_and,Bool.and_false]at hw
     simp[T,hy,hw]
    |true=>
     simp only[hz,La,hs,hy,decide_true,Bool.true_and]at hw;simp[T,hy];refine cq (gF _ rfl rfl) ?_;simp[hw]
  have dg:(x.body.length=0)=False:=eq_false La
  simp only[hz,La,decide_false,Bool.false_and,Bool.and_false]at hw;simp[T,hz,dg,hw]
theorem zMH(x:It)(ka:ItSm x)(hk:x.kind=3):WIC x:=by
 intro d S kc Ia
 obtain⟨hn,Db,Eb,Kd,xa⟩:=ka
 have gZ:=fun S=>zCo x.result S
 have gS:=fun S=>zG5 x.ret S
 have gY:=fun S=>zES x.name (zAz hn) S
 have gN:=fun S=>zCO x.name (zAz hn) S
 have gT:=fun S=>zAn x.result Eb (d-1) S (by omega) (by omega)
 have gL:=fun S=>zL9 x.ret S
 have gE:=fun S=>zA2 x.ret xa (d-1) S (by omega) (by omega)
 have gB:=fun S h=>zFk x.body (fun s hs=>zG4 s (Kd.2 s hs)) Kd.1 d (by omega) Ia S 0 1 h
 have gF:=fun S h1 h2=>zFK 3 x Db d (by omega) Ia S 0 0 1 h1 h2
 have T:∀m:Int,(x.kind==m)=((3:Int)==m):=fun m=>by rw[hk]
 have hw:x.whole d=(zBO x.name&&(zq (zCi 3 d) x.fields 6&&(x.result.whole (d-1)&&(!zB6 x.ret.op&&(x.ret.whole (d-1)&&x.body.all fun s=>s.whole (d-1)))))):=by
  unfold It.whole;rw[if_neg (by omega),if_pos hk]
 refine ADet.intro mixed call53 func53 rfl ?_;simp[ntmps53];refine cq (gZ _) ?_
 cases hz:zBW x.result with
 |false=>
  simp[T,hz];refine cq (gN _) ?_;rw[hw]
  generalize zBO x.name=c1
  cases c1 with
  |false=>simp
  |true=>
   simp;refine cq (gF _ rfl rfl) ?_
   generalize zq (zCi 3 d) x.fields 6=c2
   cases c2 with
   |false=>simp
   |true=>
    simp[wrd d (by omega)]
    refine cq (gT _) ?_
    generalize x.result.whole (d-1)=c3
    cases c3 with
    |false=>simp
    |true=>
     simp;refine cq (gL _) ?_
     generalize zB6 x.ret.op=c4
     cases c4 with
     |true=>simp
     |false=>
      simp[wrd d (by omega)]
      refine cq (gE _) ?_
      generalize x.ret.whole (d-1)=c5
      cases c5 with
      |false=>simp
      |true=>
       simp;refine cq (gB _ rfl) ?_
       simp
 |true=>
  by_cases La:x.body.length=0
  .have dg:(x.body.length=0)=True:=eq_true La
   simp[hz,dg];refine cq (gS _) ?_
   cases hs:zDO x.ret with
   |false=>
    simp[T,hs];refine cq (gN _) ?_;rw[hw]
    generalize zBO x.name=c1
    cases c1 with
    |false=>simp
    |true=>
     simp;refine cq (gF _ rfl rfl) ?_
     generalize zq (zCi 3 d) x.fields 6=c2
     cases c2 with
     |false=>simp
     |true=>
      simp[wrd d (by omega)]
      refine cq (gT _) ?_
      generalize x.result.whole (d-1)=c3
      cases c3 with
      |false=>simp
      |true=>
       simp;refine cq (gL _) ?_
       generalize zB6 x.ret.op=c4
       cases c4 with
       |true=>simp
       |false=>
        simp[wrd d (by omega)]
        refine cq (gE _) ?_
        generalize x.ret.whole (d-1)=c5
        cases c5 with
        |false=>simp
        |true=>
         simp;refine cq (gB _ rfl) ?_
         simp
   |true=>
    simp;refine cq (gY _) ?_
    cases hy:zCg x.name with
    |false=>
     simp[T,hy];refine cq (gN _) ?_;rw[hw]
     generalize zBO x.name=c1
     cases c1 with
     |false=>simp
     |true=>
      simp;refine cq (gF _ rfl rfl) ?_
      generalize zq (zCi 3 d) x.fields 6=c2
      cases c2 with
      |false=>simp
      |true=>
       simp[wrd d (by omega)]
       refine cq (gT _) ?_
       generalize x.result.whole (d-1)=c3
       cases c3 with
       |false=>simp
       |true=>
        simp;refine cq (gL _) ?_
        generalize zB6 x.ret.op=c4
        cases c4 with
        |true=>simp
        |false=>
         simp[wrd d (by omega)]
         refine cq (gE _) ?_
         generalize x.ret.whole (d-1)=c5
         cases c5 with
         |false=>simp
         |true=>
          simp;refine cq (gB _ rfl) ?_
          simp
    |true=>
     simp[T,hy];refine cq (gN _) ?_;rw[hw]
     generalize zBO x.name=c1
     cases c1 with
     |false=>simp
     |true=>
      simp;refine cq (gF _ rfl rfl) ?_
      generalize zq (zCi 3 d) x.fields 6=c2
      cases c2 with
      |false=>simp
      |true=>
       simp[wrd d (by omega)]
       refine cq (gT _) ?_
       generalize x.result.whole (d-1)=c3
       cases c3 with
       |false=>simp
       |true=>
        simp;refine cq (gL _) ?_
        generalize zB6 x.ret.op=c4
        cases c4 with
        |true=>simp
        |false=>
         simp[wrd d (by omega)]
         refine cq (gE _) ?_
         generalize x.ret.whole (d-1)=c5
         cases c5 with
         |false=>simp
         |true=>
          simp;refine cq (gB _ rfl) ?_;simp
  have dg:(x.body.length=0)=False:=eq_false La
  simp[T,hz,dg];refine cq (gN _) ?_;rw[hw]
  generalize zBO x.name=c1
  cases c1 with
  |false=>simp
  |true=>
   simp;refine cq (gF _ rfl rfl) ?_
   generalize zq (zCi 3 d) x.fields 6=c2
   cases c2 with
   |false=>simp
   |true=>
    simp[wrd d (by omega)]
    refine cq (gT _) ?_
    generalize x.result.whole (d-1)=c3
    cases c3 with
    |false=>simp
    |true=>
     simp;refine cq (gL _) ?_
     generalize zB6 x.ret.op=c4
     cases c4 with
     |true=>simp
     |false=>
      simp[wrd d (by omega)]
      refine cq (gE _) ?_
      generalize x.ret.whole (d-1)=c5
      cases c5 with
      |false=>simp
      |true=>
       simp;refine cq (gB _ rfl) ?_;simp
theorem zMI(x:It)(ka:ItSm x)(hk:¬(x.kind=1\/x.kind=2\/x.kind=3)):WIC x:=by
 intro d S kc Ia
 obtain⟨hn,Db,Eb,Kd,xa⟩:=ka
 have gZ:=fun S=>zCo x.result S
 have gS:=fun S=>zG5 x.ret S
 have gY:=fun S=>zES x.name (zAz hn) S
 have gN:=fun S=>zCO x.name (zAz hn) S
 have gT:=fun S=>zAn x.result Eb (d-1) S (by omega) (by omega)
 have gL:=fun S=>zL9 x.ret S
 have gE:=fun S=>zA2 x.ret xa (d-1) S (by omega) (by omega)
 have gB:=fun S h=>zFk x.body (fun s hs=>zG4 s (Kd.2 s hs)) Kd.1 d (by omega) Ia S 0 1 h
 have T1:(x.kind==1)=false:=by rw[beq_eq_false_iff_ne];omega
 have T2:(x.kind==2)=false:=by rw[beq_eq_false_iff_ne];omega
 have T3:(x.kind==3)=false:=by rw[beq_eq_false_iff_ne];omega
 have hw:x.whole d=false:=by
  unfold It.whole;rw[if_neg (by omega),if_neg (by omega)]
 refine ADet.intro mixed call53 func53 rfl ?_;simp[ntmps53];refine cq (gZ _) ?_
 cases hz:zBW x.result with
 |false=>
  simp[T1,T2,T3,hz,hw]
 |true=>
  by_cases La:x.body.length=0
  .have dg:(x.body.length=0)=True:=eq_true La
   simp[hz,dg];refine cq (gS _) ?_
   cases hs:zDO x.ret with
   |false=>
    simp[T1,T2,T3,hs,hw]
   |true=>
    simp;refine cq (gY _) ?_
    cases hy:zCg x.name with
    |false=>
     simp[T1,T2,T3,hy,hw]
    |true=>
     simp[T1,T2,T3,hy,hw]
  have dg:(x.body.length=0)=False:=eq_false La
  simp[T1,T2,T3,hz,dg,hw]
theorem zOf(x:It)(ka:ItSm x):WIC x:=by
 by_cases h1:x.kind=1
 .exact zMF x ka h1
 by_cases h2:x.kind=2
 .exact zMG x ka h2
 by_cases h3:x.kind=3
 .exact zMH x ka h3
 exact zMI x ka (by omega)
theorem zWr(x:It)(ka:ItSm x)(S:ASt):ADet Tryz.prog 52 [itV x] S (B (x.whole 39)) S:=by
 refine ADet.intro mixed call52 func52 rfl ?_;simp[ntmps52];refine cq (zOf x ka 39 _ (by omega) (by omega)) ?_
 simp
theorem zGL(p:List It)(ka:PrSm p)(S:ASt):ADet Tryz.prog 25 [.agg [.p (prog p)]] S (B (zx p)) S:=by
 have td:=fun S=>zTm (fun x=>x.whole 39) p 30 (by omega) 52 [] [] S fun x hm L=>by
  simp only[AV.ups,List.nil_append];exact zWr x (ka.2 x hm) _
 refine ADet.intro mixed call25 func25 rfl ?_;simp[ntmps25,prog];refine cq (td _) ?_;simp[zx]
end Go.Proofs.YtgpajpilkapciaaGreatDoor
