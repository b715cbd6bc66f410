/- A part of the proof. -/
import Derived.Test.YtgpajpilkapciaaGreatDoorXMLx
import Derived.Test.YtgpajpilkapciaaGreatDoorXMRoom
import Derived.Laws.Externs
set_option linter.unusedVariables false
set_option linter.unusedSimpArgs false
set_option maxRecDepth 100000
set_option maxHeartbeats 32000000
namespace Go.Proofs.YtgpajpilkapciaaGreatDoor
open Go.RowKit _root_.Go.Proofs.Tryz
abbrev emS:BA:=⟨#[]⟩
abbrev zFg:BA:=(⟨#[42]⟩:BA)
@[simp] theorem len_beq0 (n : Nat) : ((n : Int) == 0) = decide (n = 0):=by
 rw[Bool.eq_iff_iff,beq_iff_eq,decide_eq_true_eq];omega
@[simp] theorem len_beq1 (n : Nat) : ((n : Int) == 1) = decide (n = 1):=by
 rw[Bool.eq_iff_iff,beq_iff_eq,decide_eq_true_eq];omega
def zq{α:Type}(p:α->Bool)(l:List α)(m:Int):Bool:=decide ((l.length:Int)<=m)&&(l.take m.toNat).all p
theorem zBs{α:Type}{p:α->Bool}{l:List α}{m:Int}(h:(l.length:Int)<=m):zq p l m=l.all p:=by
 unfold zq;rw[List.take_of_length_le (by omega)];simp[h]
def ze(k:Int):Bool:=k==1||k==2||k==3||k==10
mutual
def Ty.whole:Ty->Int->Bool
 | .mk k s l,d=>decide (0<d)&&(decide (1<=k)&&(decide (k<=14)&&
  (if ze k then sEq s emS&&decide (l.length=0)else if k=4 then zCg s&&decide (l.length=0)else sEq s emS&&(decide (l.length=1)&&Ty.wholeAll l (d-1)))))
def Ty.wholeAll:List Ty->Int->Bool
 | [],_=>true
 |t::l,d=>t.whole d&&Ty.wholeAll l d
end
theorem zKu(l:List Ty)(d:Int):Ty.wholeAll l d=l.all fun t=>t.whole d:=by
 induction l with
 |nil=>rfl
 |cons t l ih=>simp[Ty.wholeAll,ih]
theorem zFh(t:Ty)(d:Int):t.whole d=(decide (0<d)&&(decide (1<=t.kind)&&(decide (t.kind<=14)&&
  (if ze t.kind then sEq t.name emS&&decide (t.args.length=0)else if t.kind=4 then zCg t.name&&decide (t.args.length=0)else sEq t.name emS&&(decide (t.args.length=1)&&t.args.all fun x=>x.whole (d-1)))))):=by
 cases t with|mk k s l=>simp only[Ty.whole,zKu];rfl
def zTk(s:BA):Bool:=sEq s zFg||zBO s
def Pl.whole(x:Pl):Bool:=zBO x.name&&zq zTk x.path 40
def zB6(op:Int):Bool:=op==5||op==6
def shP(op:Int):Bool:=op==4||op==5||op==6||op==24||op==28||op==32||op==36||op==25||op==33||op==34||op==35
def shL(op:Int):Int:=if op=1\/op=2\/op=3\/op=4\/op=5\/op=6\/op=24\/op=28\/op=32\/op=36\/op=18\/op=19\/op=20 then 0 else if 9<=op/\op<=17 then 2 else 1
def shM(op:Int):Int:=if op=1\/op=2\/op=3\/op=4\/op=5\/op=6\/op=24\/op=28\/op=32\/op=36 then 0 else if op=18\/op=19 then 6 else if 9<=op/\op<=17 then 2 else 1
def shO(op:Int):Bool:=decide (1<=op)&&decide (op<=36)
def labB(op int:Int)(name second:BA):Bool:=
 (if op=18 then zBO name else if op=19\/op=20 then zCg name else sEq name emS)&&(if op=20 then zCg second else sEq second emS)&&(if op=1 then decide (0<=int)else if op=2 then int==0||int==1 else int==0)
def zJd(x:Pl):Bool:=sEq x.name emS&&decide (x.path.length=0)
def zHp(op:Int)(x:Pl)(n:Nat)(is:Bool):Bool:=
 if is then x.whole else if op=19 then sEq x.name emS&&(decide (x.path.length=n)&&zq zBO x.path 6)else zJd x
def zKv(op int:Int)(name second:BA)(pl:Pl)(n:Nat):Bool:=shO op&&(labB op int name second&&(decide (shL op<=n)&&zHp op pl n (shP op)))
mutual
def Ex.whole:Ex->Int->Bool
 | .mk op int name second pl args _,d=>decide (1<=d)&&(zKv op int name second pl args.length&&(decide ((args.length:Int)<=shM op)&&Ex.wholeAll op args (d-1)))
def Ex.wholeAll(o:Int):List Ex->Int->Bool
 | [],_=>true
 | .mk op int name second pl args pos::l,d=>(((o==18)|| !zB6 op)&&Ex.whole (.mk op int name second pl args pos) d)&&Ex.wholeAll o l d
end
theorem zIQ(o:Int)(l:List Ex)(d:Int):Ex.wholeAll o l d=l.all fun t=>((o==18)|| !zB6 t.op)&&t.whole d:=by
 induction l with
 |nil=>rfl
 |cons t l ih=>cases t;simp[Ex.wholeAll,ih];rfl
theorem zGK(e:Ex)(d:Int):e.whole d=(decide (1<=d)&&(zKv e.op e.int e.name e.u4 e.place e.args.length&&zq (fun t=>((e.op==18)|| !zB6 t.op)&&t.whole (d-1)) e.args (shM e.op))):=by
 cases e with
 |mk op int name second pl args pos=>
  simp only[Ex.whole,zIQ,Ex.op,Ex.int,Ex.name,Ex.u4,Ex.place,Ex.args]
  by_cases h:(args.length:Int)<=shM op
  .rw[zBs h];simp[h]
  simp[zq,h]
def zCL(e:Ex):Bool:=!zB6 e.op&&e.whole 40
def zBW(t:Ty):Bool:=(t.kind==0)&&(sEq t.name emS&&decide (t.args.length=0))
def fmN(op:Int):BA->Bool:=if op=1\/op=5\/op=8\/op=11\/op=12 then zBO else if op=2 then zCg else fun s=>sEq s emS
def fmS(op:Int):BA->Bool:=if op=8 then zCg else if op=12 then zBO else fun s=>sEq s emS
def zd(op:Int):Int:=if op=2\/op=10 then 6 else 0
def zg(op:Int)(n:Nat):Int:=if op=10 then n else if op=1\/op=2\/op=3\/op=4\/op=6\/op=7 then 1 else 0
def zAD(op:Int):Bool:=op==12
def zk(op:Int):Bool:=op==3||op==11
def zAm(op:Int):Bool:=op==6||op==7||op==9||op==13||op==10||op==11
def zAf(op:Int):Bool:=op==6
def zAS(op:Int):Bool:=op==8
def zCM(op:Int):Bool:=op==1||op==10
def fmOk(op:Int):Bool:=decide (1<=op)&&decide (op<=13)
def zE4(op int:Int):Bool:=if op=12 then decide (1<=int)&&decide (int<=8)else int==0
def zM(op int:Int)(name second:BA)(names:List BA)(ty:Ty)(pl:Pl)(es:List Ex)(d:Int):Bool:=
 fmOk op&&(zE4 op int&&(fmN op name&&(fmS op second&&(decide ((es.length:Int)=zg op names.length)&&(zq zBO names (zd op)&&
  ((zAD op==ty.whole (d-1))&&((zAD op||zBW ty)&&((zk op==pl.whole)&&(zk op||zJd pl)))))))))
def exsB(op:Int)(es:List Ex)(d:Int):Bool:=zq (fun e=>(zCM op|| !zB6 e.op)&&e.whole (d-1)) es 6
mutual
def St.whole:St->Int->Bool
 | .mk op name second names ty int pl es b el ar _,d=>decide (1<=d)&&(zM op int name second names ty pl es d&&((zAm op||decide (b.length=0))&&((zAf op||decide (el.length=0))&&((zAS op||decide (ar.length=0))&&
  (exsB op es d&&(St.wholeAll b (d-1)&&(St.wholeAll el (d-1)&&(decide (ar.length<=6)&&Ar.wholeAll ar (d-1)))))))))
def St.wholeAll:List St->Int->Bool
 | [],_=>true
 |s::l,d=>s.whole d&&St.wholeAll l d
def Ar.wholeAll:List (ArOf St)->Int->Bool
 | [],_=>true
 |⟨v,n,b⟩::l,d=>(zCg v&&((sEq n emS||zBO n)&&St.wholeAll b d))&&Ar.wholeAll l d
end
theorem zE5(l:List St)(d:Int):St.wholeAll l d=l.all fun t=>t.whole d:=by
 induction l with
 |nil=>rfl
 |cons t l ih=>simp[St.wholeAll,ih]
def Ar.whole(a:Ar)(d:Int):Bool:=zCg a.variant&&((sEq a.name emS||zBO a.name)&&a.body.all fun t=>t.whole d)
theorem zIR(l:List Ar)(d:Int):Ar.wholeAll l d=l.all fun t=>t.whole d:=by
 induction l with
 |nil=>rfl
 |cons t l ih=>cases t;simp[Ar.wholeAll,ih,Ar.whole,zE5]
theorem zB(s:St)(d:Int):s.whole d=(decide (1<=d)&&(zM s.op s.int s.name s.u4 s.names s.type s.place s.u5 d&&((zAm s.op||decide (s.body.length=0))&&((zAf s.op||decide (s.els.length=0))&&((zAS s.op||decide (s.arms.length=0))&&
  (exsB s.op s.u5 d&&(s.body.all (fun t=>t.whole (d-1))&&(s.els.all (fun t=>t.whole (d-1))&&zq (fun a=>a.whole (d-1)) s.arms 6)))))))):=by
 cases s with
 |mk op name second names ty int pl es b el ar pos=>
  simp only[St.whole,zE5,zIR,St.op,St.int,St.name,St.u4,St.names,St.type,St.place,St.u5,St.body,St.els,St.arms]
  congr 1;congr 1;congr 1;congr 1;congr 1;congr 1;congr 1;congr 1
  by_cases h:(ar.length:Int)<=6
  .rw[zBs h];simp[show ar.length<=6 by omega]
  simp[zq,h,show ¬ar.length<=6 by omega]
def zDO(e:Ex):Bool:=(e.op==0)&&((e.int==0)&&(sEq e.name emS&&(sEq e.u4 emS&&((sEq e.place.name emS&&decide (e.place.path.length=0))&&decide (e.args.length=0)))))
def zCi(k:Int)(d:Int)(f:Fi):Bool:=(if k=2 then zCg f.name else zBO f.name)&&(((k==2)&&zBW f.type)||f.type.whole (d-1))
def It.whole(x:It)(d:Int):Bool:=
 if x.kind=1\/x.kind=2 then(zBW x.result&&(decide (x.body.length=0)&&(zDO x.ret&&zCg x.name)))&&zq (zCi x.kind d) x.fields 6
 else if x.kind=3 then zBO x.name&&(zq (zCi 3 d) x.fields 6&&(x.result.whole (d-1)&&(!zB6 x.ret.op&&(x.ret.whole (d-1)&&x.body.all fun s=>s.whole (d-1)))))
 else false
def zx(p:List It):Bool:=zq (fun x=>x.whole 39) p 30
attribute [local simp] List.replicate List.range List.range.loop
abbrev tyV(t:Ty):AV:=.agg [U t.kind,Sg t.name,.p (.sl 3 (t.args.map Ty.enc))]
abbrev plV(x:Pl):AV:=.agg [Sg x.name,.p (strs x.path)]
abbrev exV(e:Ex):AV:=.agg [U e.op,I e.int,Sg e.name,Sg e.u4,Sg e.place.name,.p (strs e.place.path),.p (.sl 8 (e.args.map Ex.enc)),I e.pos]
abbrev fiV(x:Fi):AV:=.agg [Sg x.name,U x.type.kind,Sg x.type.name,.p (.sl 3 (x.type.args.map Ty.enc))]
abbrev arV(a:Ar):AV:=.agg [Sg a.variant,Sg a.name,.p (.sl 15 (a.body.map St.enc))]
abbrev stU(s:St):List AV:=[U s.op,Sg s.name,Sg s.u4,.p (strs s.names),U s.type.kind,Sg s.type.name,.p (.sl 3 (s.type.args.map Ty.enc)),I s.int,Sg s.place.name,.p (strs s.place.path),.p (.sl 8 (s.u5.map Ex.enc)),.p (.sl 15 (s.body.map St.enc)),.p (.sl 15 (s.els.map St.enc)),.p (.sl 3 (s.arms.map Ar.enc)),I s.pos]
abbrev stmV(s:St):AV:=.agg (stU s)
abbrev itU(x:It):List AV:=[U x.kind,Sg x.name,.p (.sl 4 (x.fields.map Fi.enc)),U x.result.kind,Sg x.result.name,.p (.sl 3 (x.result.args.map Ty.enc)),.p (.sl 15 (x.body.map St.enc)),U x.ret.op,I x.ret.int,Sg x.ret.name,Sg x.ret.u4,Sg x.ret.place.name,.p (strs x.ret.place.path),.p (.sl 8 (x.ret.args.map Ex.enc)),I x.ret.pos,I x.pos]
abbrev itV(x:It):AV:=.agg (itU x)
mutual
theorem zYt(n:Nat):∀v:AV,(v.up 1).cut n=v.up 1
 | .any=>rfl
 | .un=>rfl
 | .p _=>rfl
 | .ptr _ _ _=>rfl
 | .mp _ _=>rfl
 | .bl=>rfl
 | .asl _ _ _ _=>rfl
 | .rsl _ _ _ _=>rfl
 | .rptr _ _ _ _=>rfl
 | .rp _=>rfl
 | .bx cs=>by simp only[AV.up,AV.cut,zDs n cs]
 | .osl _ _ _ _=>rfl
 | .agg cs=>by simp only[AV.up,AV.cut,zDs n cs]
 | .tup cs=>by simp only[AV.up,AV.cut,zDs n cs]
 | .fn f xs ys=>by simp only[AV.up,AV.cut,zDs n xs,zDs n ys]
theorem zDs(n:Nat):∀cs:List AV,AV.cuts n (AV.ups 1 cs)=AV.ups 1 cs
 | []=>rfl
 |c::cs=>by simp only[AV.ups,AV.cuts,zYt n c,zDs n cs]
end
attribute [simp] zDs
theorem zDt{α:Type}{p:α->Bool}{l:List α}{m:Int}{q:Nat}(hq:q<l.length)(hm:(q:Int)<m)(h:p l[q]=false):zq p l m=false:=by
 unfold zq
 have:(l.take m.toNat).all p=false:=by
  rw[List.all_eq_false];exact⟨l[q],List.mem_take_iff_getElem.2 ⟨q,by omega,rfl⟩,by simp[h]⟩
 simp[this]
theorem zA6{α:Type}{p:α->Bool}{l:List α}{m:Int}{q:Nat}(h:∀i (hi:i<l.length),i<q->p l[i]=true)(hq:q<l.length->m<=q):zq p l m=decide ((l.length:Int)<=m):=by
 unfold zq
 by_cases hm:(l.length:Int)<=m
 .have:(l.take m.toNat).all p=true:=by
   rw[List.all_eq_true];intro x hx
   obtain⟨i,hi,rfl⟩:=List.mem_take_iff_getElem.1 hx
   exact h i (by omega) (by rcases Nat.lt_or_ge q l.length with h1|h1<;>omega)
  simp[hm,this]
 simp[hm]
theorem zTl(p:Ty->Bool)(l:List Ty)(m:Int)(hm:m<=1000000)(K:Nat)(fs caps:List AV)(S:ASt)(hc:∀x∈l,∀L,ADet Tryz.prog K (AV.ups 1 fs++(tyV x::AV.ups 1 caps)) (L::S) (B (p x)) (L::S)):
  ADet Tryz.prog 112 [.p (.sl 3 (l.map Ty.enc)),I m,.fn (.func K) fs caps] S (B (zq p l m)) S:=by
 skip
 refine ADet.okP call112 0 rfl fun na=>?_
 have ca:=okl na
 refine ADet.intro mixed call112 func112 rfl ?_;simp[ntmps112];refine zH (fun q:Nat=>q<=l.length/\∀i (hi:i<l.length),i<q->p l[i]=true) (fun q=>([.p (.sl 3 (l.map Ty.enc)),I m,.fn (.func K) (AV.ups 1 fs) (AV.ups 1 caps),.any,.any,.any,.any,I q]++List.replicate 22 .any)) (fun q=>[]::S) (fun q=>l.length-q) 0 ⟨Nat.zero_le _,fun i hi h=>by omega⟩ ?_ ?_ ?_
 .simp
 .simp
 rintro q ⟨hq,ja⟩
 by_cases hlt:q<l.length
 .by_cases ed:(q:Int)<m
  .generalize hx:l[q]=x
   have Ce:=hc x (by rw[<-hx];exact List.getElem_mem hlt)
   simp[hlt,ed,hx,zP];refine cq (Ce _) ?_
   cases hp:p x with
   |false=>
    have:=zDt (p:=p) hlt ed (by rw[hx];exact hp)
    simp[hp,this]
   |true=>
    simp[hp]
    exact⟨q+1,⟨hlt,fun i hi h=>by
     rcases Nat.lt_or_ge i q with h'|h'
     .exact ja i hi h'
     obtain rfl:i=q:=by omega
     rw[hx];exact hp⟩,by omega,zA hlt⟩
  have:=zA6 (m:=m) ja (fun _=>by omega)
  simp[hlt,ed,this]
 have:=zA6 (m:=m) ja (fun h=>absurd h hlt)
 simp[hlt,this]
theorem zBv(p:BA->Bool)(l:List BA)(m:Int)(hm:m<=1000000)(K:Nat)(fs caps:List AV)(S:ASt)(hc:∀x∈l,∀L,ADet Tryz.prog K (AV.ups 1 fs++(Sg x::AV.ups 1 caps)) (L::S) (B (p x)) (L::S)):
  ADet Tryz.prog 126 [.p (strs l),I m,.fn (.func K) fs caps] S (B (zq p l m)) S:=by
 unfold strs;refine ADet.okP call126 0 rfl fun na=>?_
 have ca:=okl na
 refine ADet.intro mixed call126 func126 rfl ?_;simp[ntmps126];refine zH (fun q:Nat=>q<=l.length/\∀i (hi:i<l.length),i<q->p l[i]=true) (fun q=>([.p (.sl 1 (l.map fun s=>[pS s])),I m,.fn (.func K) (AV.ups 1 fs) (AV.ups 1 caps),.any,.any,.any,.any,I q]++List.replicate 22 .any)) (fun q=>[]::S) (fun q=>l.length-q) 0 ⟨Nat.zero_le _,fun i hi h=>by omega⟩ ?_ ?_ ?_
 .simp
 .simp
 rintro q ⟨hq,ja⟩
 by_cases hlt:q<l.length
 .by_cases ed:(q:Int)<m
  .generalize hx:l[q]=x
   have Ce:=hc x (by rw[<-hx];exact List.getElem_mem hlt)
   simp[hlt,ed,hx,pS];refine cq (Ce _) ?_
   cases hp:p x with
   |false=>
    have:=zDt (p:=p) hlt ed (by rw[hx];exact hp)
    simp[hp,this]
   |true=>
    simp[hp]
    exact⟨q+1,⟨hlt,fun i hi h=>by
     rcases Nat.lt_or_ge i q with h'|h'
     .exact ja i hi h'
     obtain rfl:i=q:=by omega
     rw[hx];exact hp⟩,by omega,zA hlt⟩
  have:=zA6 (m:=m) ja (fun _=>by omega)
  simp[hlt,ed,this]
 have:=zA6 (m:=m) ja (fun h=>absurd h hlt)
 simp[hlt,this]
theorem zNC(p:Ex->Bool)(l:List Ex)(m:Int)(hm:m<=1000000)(K:Nat)(fs caps:List AV)(S:ASt)(hc:∀x∈l,∀L,ADet Tryz.prog K (AV.ups 1 fs++(exV x::AV.ups 1 caps)) (L::S) (B (p x)) (L::S)):
  ADet Tryz.prog 122 [.p (.sl 8 (l.map Ex.enc)),I m,.fn (.func K) fs caps] S (B (zq p l m)) S:=by
 skip
 refine ADet.okP call122 0 rfl fun na=>?_
 have ca:=okl na
 refine ADet.intro mixed call122 func122 rfl ?_;simp[ntmps122];refine zH (fun q:Nat=>q<=l.length/\∀i (hi:i<l.length),i<q->p l[i]=true) (fun q=>([.p (.sl 8 (l.map Ex.enc)),I m,.fn (.func K) (AV.ups 1 fs) (AV.ups 1 caps),.any,.any,.any,.any,I q]++List.replicate 22 .any)) (fun q=>[]::S) (fun q=>l.length-q) 0 ⟨Nat.zero_le _,fun i hi h=>by omega⟩ ?_ ?_ ?_
 .simp
 .simp
 rintro q ⟨hq,ja⟩
 by_cases hlt:q<l.length
 .by_cases ed:(q:Int)<m
  .generalize hx:l[q]=x
   have Ce:=hc x (by rw[<-hx];exact List.getElem_mem hlt)
   simp[hlt,ed,hx,zy];refine cq (Ce _) ?_
   cases hp:p x with
   |false=>
    have:=zDt (p:=p) hlt ed (by rw[hx];exact hp)
    simp[hp,this]
   |true=>
    simp[hp]
    exact⟨q+1,⟨hlt,fun i hi h=>by
     rcases Nat.lt_or_ge i q with h'|h'
     .exact ja i hi h'
     obtain rfl:i=q:=by omega
     rw[hx];exact hp⟩,by omega,zA hlt⟩
  have:=zA6 (m:=m) ja (fun _=>by omega)
  simp[hlt,ed,this]
 have:=zA6 (m:=m) ja (fun h=>absurd h hlt)
 simp[hlt,this]
theorem zQg(p:Fi->Bool)(l:List Fi)(m:Int)(hm:m<=1000000)(K:Nat)(fs caps:List AV)(S:ASt)(hc:∀x∈l,∀L,ADet Tryz.prog K (AV.ups 1 fs++(fiV x::AV.ups 1 caps)) (L::S) (B (p x)) (L::S)):
  ADet Tryz.prog 79 [.p (.sl 4 (l.map Fi.enc)),I m,.fn (.func K) fs caps] S (B (zq p l m)) S:=by
 skip
 refine ADet.okP call79 0 rfl fun na=>?_
 have ca:=okl na
 refine ADet.intro mixed call79 func79 rfl ?_;simp[ntmps79];refine zH (fun q:Nat=>q<=l.length/\∀i (hi:i<l.length),i<q->p l[i]=true) (fun q=>([.p (.sl 4 (l.map Fi.enc)),I m,.fn (.func K) (AV.ups 1 fs) (AV.ups 1 caps),.any,.any,.any,.any,I q]++List.replicate 22 .any)) (fun q=>[]::S) (fun q=>l.length-q) 0 ⟨Nat.zero_le _,fun i hi h=>by omega⟩ ?_ ?_ ?_
 .simp
 .simp
 rintro q ⟨hq,ja⟩
 by_cases hlt:q<l.length
 .by_cases ed:(q:Int)<m
  .generalize hx:l[q]=x
   have Ce:=hc x (by rw[<-hx];exact List.getElem_mem hlt)
   simp[hlt,ed,hx,Fi.enc];refine cq (Ce _) ?_
   cases hp:p x with
   |false=>
    have:=zDt (p:=p) hlt ed (by rw[hx];exact hp)
    simp[hp,this]
   |true=>
    simp[hp]
    exact⟨q+1,⟨hlt,fun i hi h=>by
     rcases Nat.lt_or_ge i q with h'|h'
     .exact ja i hi h'
     obtain rfl:i=q:=by omega
     rw[hx];exact hp⟩,by omega,zA hlt⟩
  have:=zA6 (m:=m) ja (fun _=>by omega)
  simp[hlt,ed,this]
 have:=zA6 (m:=m) ja (fun h=>absurd h hlt)
 simp[hlt,this]
theorem zND(p:St->Bool)(l:List St)(m:Int)(hm:m<=1000000)(K:Nat)(fs caps:List AV)(S:ASt)(hc:∀x∈l,∀L,ADet Tryz.prog K (AV.ups 1 fs++(stmV x::AV.ups 1 caps)) (L::S) (B (p x)) (L::S)):
  ADet Tryz.prog 87 [.p (.sl 15 (l.map St.enc)),I m,.fn (.func K) fs caps] S (B (zq p l m)) S:=by
 skip
 refine ADet.okP call87 0 rfl fun na=>?_
 have ca:=okl na
 refine ADet.intro mixed call87 func87 rfl ?_;simp[ntmps87];refine zH (fun q:Nat=>q<=l.length/\∀i (hi:i<l.length),i<q->p l[i]=true) (fun q=>([.p (.sl 15 (l.map St.enc)),I m,.fn (.func K) (AV.ups 1 fs) (AV.ups 1 caps),.any,.any,.any,.any,I q]++List.replicate 22 .any)) (fun q=>[]::S) (fun q=>l.length-q) 0 ⟨Nat.zero_le _,fun i hi h=>by omega⟩ ?_ ?_ ?_
 .simp
 .simp
 rintro q ⟨hq,ja⟩
 by_cases hlt:q<l.length
 .by_cases ed:(q:Int)<m
  .generalize hx:l[q]=x
   have Ce:=hc x (by rw[<-hx];exact List.getElem_mem hlt)
   simp[hlt,ed,hx,zBN];refine cq (Ce _) ?_
   cases hp:p x with
   |false=>
    have:=zDt (p:=p) hlt ed (by rw[hx];exact hp)
    simp[hp,this]
   |true=>
    simp[hp]
    exact⟨q+1,⟨hlt,fun i hi h=>by
     rcases Nat.lt_or_ge i q with h'|h'
     .exact ja i hi h'
     obtain rfl:i=q:=by omega
     rw[hx];exact hp⟩,by omega,zA hlt⟩
  have:=zA6 (m:=m) ja (fun _=>by omega)
  simp[hlt,ed,this]
 have:=zA6 (m:=m) ja (fun h=>absurd h hlt)
 simp[hlt,this]
theorem zWf(p:Ar->Bool)(l:List Ar)(m:Int)(hm:m<=1000000)(K:Nat)(fs caps:List AV)(S:ASt)(hc:∀x∈l,∀L,ADet Tryz.prog K (AV.ups 1 fs++(arV x::AV.ups 1 caps)) (L::S) (B (p x)) (L::S)):
  ADet Tryz.prog 131 [.p (.sl 3 (l.map Ar.enc)),I m,.fn (.func K) fs caps] S (B (zq p l m)) S:=by
 skip
 refine ADet.okP call131 0 rfl fun na=>?_
 have ca:=okl na
 refine ADet.intro mixed call131 func131 rfl ?_;simp[ntmps131];refine zH (fun q:Nat=>q<=l.length/\∀i (hi:i<l.length),i<q->p l[i]=true) (fun q=>([.p (.sl 3 (l.map Ar.enc)),I m,.fn (.func K) (AV.ups 1 fs) (AV.ups 1 caps),.any,.any,.any,.any,I q]++List.replicate 22 .any)) (fun q=>[]::S) (fun q=>l.length-q) 0 ⟨Nat.zero_le _,fun i hi h=>by omega⟩ ?_ ?_ ?_
 .simp
 .simp
 rintro q ⟨hq,ja⟩
 by_cases hlt:q<l.length
 .by_cases ed:(q:Int)<m
  .generalize hx:l[q]=x
   have Ce:=hc x (by rw[<-hx];exact List.getElem_mem hlt)
   simp[hlt,ed,hx,Ar.enc];refine cq (Ce _) ?_
   cases hp:p x with
   |false=>
    have:=zDt (p:=p) hlt ed (by rw[hx];exact hp)
    simp[hp,this]
   |true=>
    simp[hp]
    exact⟨q+1,⟨hlt,fun i hi h=>by
     rcases Nat.lt_or_ge i q with h'|h'
     .exact ja i hi h'
     obtain rfl:i=q:=by omega
     rw[hx];exact hp⟩,by omega,zA hlt⟩
  have:=zA6 (m:=m) ja (fun _=>by omega)
  simp[hlt,ed,this]
 have:=zA6 (m:=m) ja (fun h=>absurd h hlt)
 simp[hlt,this]
theorem zTm(p:It->Bool)(l:List It)(m:Int)(hm:m<=1000000)(K:Nat)(fs caps:List AV)(S:ASt)(hc:∀x∈l,∀L,ADet Tryz.prog K (AV.ups 1 fs++(itV x::AV.ups 1 caps)) (L::S) (B (p x)) (L::S)):
  ADet Tryz.prog 51 [.p (.sl 16 (l.map It.enc)),I m,.fn (.func K) fs caps] S (B (zq p l m)) S:=by
 skip
 refine ADet.okP call51 0 rfl fun na=>?_
 have ca:=okl na
 refine ADet.intro mixed call51 func51 rfl ?_;simp[ntmps51];refine zH (fun q:Nat=>q<=l.length/\∀i (hi:i<l.length),i<q->p l[i]=true) (fun q=>([.p (.sl 16 (l.map It.enc)),I m,.fn (.func K) (AV.ups 1 fs) (AV.ups 1 caps),.any,.any,.any,.any,I q]++List.replicate 22 .any)) (fun q=>[]::S) (fun q=>l.length-q) 0 ⟨Nat.zero_le _,fun i hi h=>by omega⟩ ?_ ?_ ?_
 .simp
 .simp
 rintro q ⟨hq,ja⟩
 by_cases hlt:q<l.length
 .by_cases ed:(q:Int)<m
  .generalize hx:l[q]=x
   have Ce:=hc x (by rw[<-hx];exact List.getElem_mem hlt)
   simp[hlt,ed,hx,It.enc];refine cq (Ce _) ?_
   cases hp:p x with
   |false=>
    have:=zDt (p:=p) hlt ed (by rw[hx];exact hp)
    simp[hp,this]
   |true=>
    simp[hp]
    exact⟨q+1,⟨hlt,fun i hi h=>by
     rcases Nat.lt_or_ge i q with h'|h'
     .exact ja i hi h'
     obtain rfl:i=q:=by omega
     rw[hx];exact hp⟩,by omega,zA hlt⟩
  have:=zA6 (m:=m) ja (fun _=>by omega)
  simp[hlt,ed,this]
 have:=zA6 (m:=m) ja (fun h=>absurd h hlt)
 simp[hlt,this]
end Go.Proofs.YtgpajpilkapciaaGreatDoor
namespace Go.Proofs.YtgpajpilkapciaaGreatDoor
open Go.RowKit _root_.Go.Proofs.Tryz
theorem zKw{Pr:Prot}{φ:Fi2}{S:ASt}{w w':World}(h:Rel Pr φ S w)(hb:Below w.heap.size w w'):Stp Pr φ w Pr φ w'/\Rel Pr φ S w':=by
 refine⟨⟨Prot.le_refl Pr,Fle.refl φ,fun d i e g he hg=>.inl ⟨d,i,e,he,hg⟩,⟨hb.os,hb.tape,hb.output,hb.size,fun g hg _=>hb.block g hg⟩,rfl,fun g o h k=>absurd h k⟩,⟨fun d i o ho=>?_,h.dis,fun d i e g h1 h2=>Nat.lt_of_lt_of_le (h.lt d i e g h1 h2) hb.size,fun b o v hv=>?_,h.tb.of (Prot.le_refl _) (fun g hg _=>hb.block g hg) (fun d i e g he hg=>.inl ⟨d,i,e,he,hg⟩),h.shape⟩⟩
 .obtain⟨e,he,hr⟩:=h.obj d i o ho
  exact⟨e,he,hr.keep (Prot.le_refl Pr) (Fle.refl _) fun g hg=>⟨hb.block g (h.lt d i e g he hg),fun _ h=>h⟩⟩
 have:=h.pr b o v hv
 rw[<-this];exact World.cell?_of_block (a:=⟨b,o,none⟩) (hb.block b (zBf this))
theorem ADet.of_calls{P:Program}{K:FuncId}{args:List AV}{S:ASt}{x:Value}(hx:atom x=true)(hK:∀xs w,(callFunc K xs).run P w= .ok (.enter K xs) w)(h:∀Pr φ xs w,RL Pr φ args xs->Rel Pr φ S w->Calls P K xs w fun e w'=>e= .returned x/\Below w.heap.size w w'):ADet P K args S (.p (.v x)) S:=
 ⟨hK,fun Pr φ xs w ea hR hne=>(h Pr φ xs w ea hR).mono fun e w' ⟨he,hb⟩=>by
  obtain⟨s,r⟩:=zKw hR hb
  exact⟨x,Pr,φ,he,s,r,.p (.v hx)⟩⟩
theorem zWg{Pr:Prot}{φ:Fi2}{l:List Value}{xs:Array Value}(h:RL Pr φ (l.map fun x=>.p (.v x)) xs):xs=l.toArray:=by
 apply Array.ext'
 apply List.ext_getElem?
 intro j
 have hl:xs.size=l.length:=by simpa using h.1.symm
 rcases Nat.lt_or_ge j l.length with hj|hj
 .have h1:(l.map fun x=>AV.p (.v x))[j]? =some (.p (.v l[j])):=by simp[hj]
  have h2:xs[j]? =some xs[j]:=Array.getElem?_eq_getElem (by omega)
  have:=zO (h.2 j _ _ h1 h2) rfl
  rw[Array.getElem?_toList,h2,this];simp[hj]
 rw[Array.getElem?_toList,Array.getElem?_eq_none (by omega)];simp[hj]
theorem zVF{P:Program}{Pr:Prot}{φ:Fi2}{S:ASt}{w:World}(h:Rel Pr φ S w){name:String}{k:IntKind}{zs:List Int}{g:Nat}(hg:P.globalNamed name=some g)(hm:(g,zs.map fun z=>Value.int k z)∈zGE):Lib.TabIs P w name k zs:=by
 obtain⟨_,_,⟨t,fz,h2⟩,_⟩:=h.tb g _ hm
 simp[Lib.TabIs,World.var?,hg,h2]
theorem zNE{t:Ty}{d:Int}(h:t.whole d=true):((t.kind=1\/t.kind=2\/t.kind=3\/t.kind=10)/\t.args=[])\/(t.kind=4/\t.args=[])\/(5<=t.kind/\t.kind<=14/\t.kind≠10/\∃x,t.args=[x]/\x.whole (d-1)=true):=by
 rw[zFh]at h;simp only[Bool.and_eq_true,decide_eq_true_eq]at h
 obtain⟨h0,h1,h2,h3⟩:=h
 split at h3
 .rename_i hp
  simp only[ze,Bool.or_eq_true,beq_iff_eq,Bool.and_eq_true,decide_eq_true_eq]at hp h3;exact .inl ⟨by omega,List.eq_nil_of_length_eq_zero h3.2⟩
 rename_i hp
 simp only[ze,Bool.or_eq_true,beq_iff_eq]at hp;split at h3
 .rename_i h4
  simp only[Bool.and_eq_true,decide_eq_true_eq]at h3;exact .inr (.inl ⟨h4,List.eq_nil_of_length_eq_zero h3.2⟩)
 rename_i h4
 simp only[Bool.and_eq_true,decide_eq_true_eq]at h3
 obtain⟨_,hl,ha⟩:=h3
 obtain⟨x,hx⟩:=List.length_eq_one_iff.1 hl
 rw[hx]at ha;exact .inr (.inr ⟨by omega,by omega,by omega,x,hx,by simpa using ha⟩)
theorem zGj:∀(t:Ty) (d d':Int),d<=d'->t.whole d=true->t.whole d'=true:=by
 refine Ty.ind fun t ih d d' hd h=>?_
 rw[zFh]at h ⊢;simp only[Bool.and_eq_true,decide_eq_true_eq]at h ⊢
 obtain⟨h0,h1,h2,h3⟩:=h
 refine⟨by omega,h1,h2,?_⟩
 split at h3
 .rename_i hp;rw[if_pos hp];exact h3
 rename_i hp
 rw[if_neg hp];split at h3
 .rename_i h4;rw[if_pos h4];exact h3
 rename_i h4
 rw[if_neg h4];simp only[Bool.and_eq_true,decide_eq_true_eq,List.all_eq_true]at h3 ⊢;exact⟨h3.1,h3.2.1,fun x hx=>ih x hx (d-1) (d'-1) (by omega) (h3.2.2 x hx)⟩
end Go.Proofs.YtgpajpilkapciaaGreatDoor
