/- A part of the proof. -/
import Derived.Test.YtdflkegnmmkkoaaGreatDoorWMLx
import Derived.Test.YtdflkegnmmkkoaaGreatDoorWMRoom
import Derived.Laws.Externs
set_option linter.unusedVariables false
set_option linter.unusedSimpArgs false
set_option maxRecDepth 100000
set_option maxHeartbeats 32000000
namespace Go.Proofs.YtdflkegnmmkkoaaGreatDoor
open Go.RowKit _root_.Go.Proofs.Tryz
abbrev emS:BA:=⟨#[]⟩
abbrev zFu:BA:=(⟨#[42]⟩:BA)
@[simp] theorem len_beq0 (n : Nat) : ((n : Int) == 0) = decide (n = 0):=by
 rw[Bool.eq_iff_iff,beq_iff_eq,decide_eq_true_eq];omega
@[simp] theorem len_beq1 (n : Nat) : ((n : Int) == 1) = decide (n = 1):=by
 rw[Bool.eq_iff_iff,beq_iff_eq,decide_eq_true_eq];omega
def zt{α:Type}(p:α->Bool)(l:List α)(m:Int):Bool:=decide ((l.length:Int)<=m)&&(l.take m.toNat).all p
theorem zBx{α:Type}{p:α->Bool}{l:List α}{m:Int}(h:(l.length:Int)<=m):zt p l m=l.all p:=by
 unfold zt;rw[List.take_of_length_le (by omega)];simp[h]
def zl(k:Int):Bool:=k==1||k==2||k==3||k==10
mutual
def Ty.whole:Ty->Int->Bool
 | .mk k s l,d=>decide (0<d)&&(decide (1<=k)&&(decide (k<=14)&&
  (if zl k then sEq s emS&&decide (l.length=0)else if k=4 then zCW s&&decide (l.length=0)else sEq s emS&&(decide (l.length=1)&&Ty.wholeAll l (d-1)))))
def Ty.wholeAll:List Ty->Int->Bool
 | [],_=>true
 |t::l,d=>t.whole d&&Ty.wholeAll l d
end
theorem zLR(l:List Ty)(d:Int):Ty.wholeAll l d=l.all fun t=>t.whole d:=by
 induction l with
 |nil=>rfl
 |cons t l ih=>simp[Ty.wholeAll,ih]
theorem zHF(t:Ty)(d:Int):t.whole d=(decide (0<d)&&(decide (1<=t.kind)&&(decide (t.kind<=14)&&
  (if zl t.kind then sEq t.name emS&&decide (t.args.length=0)else if t.kind=4 then zCW t.name&&decide (t.args.length=0)else sEq t.name emS&&(decide (t.args.length=1)&&t.args.all fun x=>x.whole (d-1)))))):=by
 cases t with|mk k s l=>simp only[Ty.whole,zLR];rfl
def zUb(s:BA):Bool:=sEq s zFu||zBO s
def Pl.whole(x:Pl):Bool:=zBO x.name&&zt zUb x.path 40
def zCC(op:Int):Bool:=op==5||op==6
def shP(op:Int):Bool:=op==4||op==5||op==6||op==24||op==28||op==32||op==36||op==25||op==33||op==34||op==35
def shL(op:Int):Int:=if op=1\/op=2\/op=3\/op=4\/op=5\/op=6\/op=24\/op=28\/op=32\/op=36\/op=18\/op=19\/op=20 then 0 else if 9<=op/\op<=17 then 2 else 1
def shM(op:Int):Int:=if op=1\/op=2\/op=3\/op=4\/op=5\/op=6\/op=24\/op=28\/op=32\/op=36 then 0 else if op=18\/op=19 then 6 else if 9<=op/\op<=17 then 2 else 1
def shO(op:Int):Bool:=decide (1<=op)&&decide (op<=36)
def labB(op int:Int)(name second:BA):Bool:=
 (if op=18 then zBO name else if op=19\/op=20 then zCW name else sEq name emS)&&(if op=20 then zCW second else sEq second emS)&&(if op=1 then decide (0<=int)else if op=2 then int==0||int==1 else int==0)
def zJ7(x:Pl):Bool:=sEq x.name emS&&decide (x.path.length=0)
def zH3(op:Int)(x:Pl)(n:Nat)(is:Bool):Bool:=
 if is then x.whole else if op=19 then sEq x.name emS&&(decide (x.path.length=n)&&zt zBO x.path 6)else zJ7 x
def zLS(op int:Int)(name second:BA)(pl:Pl)(n:Nat):Bool:=shO op&&(labB op int name second&&(decide (shL op<=n)&&zH3 op pl n (shP op)))
mutual
def Ex.whole:Ex->Int->Bool
 | .mk op int name second pl args _,d=>decide (1<=d)&&(zLS op int name second pl args.length&&(decide ((args.length:Int)<=shM op)&&Ex.wholeAll op args (d-1)))
def Ex.wholeAll(o:Int):List Ex->Int->Bool
 | [],_=>true
 | .mk op int name second pl args pos::l,d=>(((o==18)|| !zCC op)&&Ex.whole (.mk op int name second pl args pos) d)&&Ex.wholeAll o l d
end
theorem zIp(o:Int)(l:List Ex)(d:Int):Ex.wholeAll o l d=l.all fun t=>((o==18)|| !zCC t.op)&&t.whole d:=by
 induction l with
 |nil=>rfl
 |cons t l ih=>cases t;simp[Ex.wholeAll,ih];rfl
theorem zE2(e:Ex)(d:Int):e.whole d=(decide (1<=d)&&(zLS e.op e.int e.name e.u2 e.place e.args.length&&zt (fun t=>((e.op==18)|| !zCC t.op)&&t.whole (d-1)) e.args (shM e.op))):=by
 cases e with
 |mk op int name second pl args pos=>
  simp only[Ex.whole,zIp,Ex.op,Ex.int,Ex.name,Ex.u2,Ex.place,Ex.args]
  by_cases h:(args.length:Int)<=shM op
  .rw[zBx h];simp[h]
  simp[zt,h]
def zBp(e:Ex):Bool:=!zCC e.op&&e.whole 40
def zBl(t:Ty):Bool:=(t.kind==0)&&(sEq t.name emS&&decide (t.args.length=0))
def fmN(op:Int):BA->Bool:=if op=1\/op=5\/op=8\/op=11\/op=12 then zBO else if op=2 then zCW else fun s=>sEq s emS
def fmS(op:Int):BA->Bool:=if op=8 then zCW else if op=12 then zBO else fun s=>sEq s emS
def zi(op:Int):Int:=if op=2\/op=10 then 6 else 0
def zm(op:Int)(n:Nat):Int:=if op=10 then n else if op=1\/op=2\/op=3\/op=4\/op=6\/op=7 then 1 else 0
def zAE(op:Int):Bool:=op==12
def zp(op:Int):Bool:=op==3||op==11
def zA1(op:Int):Bool:=op==6||op==7||op==9||op==13||op==10||op==11
def zAp(op:Int):Bool:=op==6
def zAq(op:Int):Bool:=op==8
def zCZ(op:Int):Bool:=op==1||op==10
def fmOk(op:Int):Bool:=decide (1<=op)&&decide (op<=13)
def zFM(op int:Int):Bool:=if op=12 then decide (1<=int)&&decide (int<=8)else int==0
def zR(op int:Int)(name second:BA)(names:List BA)(ty:Ty)(pl:Pl)(es:List Ex)(d:Int):Bool:=
 fmOk op&&(zFM op int&&(fmN op name&&(fmS op second&&(decide ((es.length:Int)=zm op names.length)&&(zt zBO names (zi op)&&
  ((zAE op==ty.whole (d-1))&&((zAE op||zBl ty)&&((zp op==pl.whole)&&(zp op||zJ7 pl)))))))))
def exsB(op:Int)(es:List Ex)(d:Int):Bool:=zt (fun e=>(zCZ op|| !zCC e.op)&&e.whole (d-1)) es 6
mutual
def St.whole:St->Int->Bool
 | .mk op name second names ty int pl es b el ar _,d=>decide (1<=d)&&(zR op int name second names ty pl es d&&((zA1 op||decide (b.length=0))&&((zAp op||decide (el.length=0))&&((zAq op||decide (ar.length=0))&&
  (exsB op es d&&(St.wholeAll b (d-1)&&(St.wholeAll el (d-1)&&(decide (ar.length<=6)&&Ar.wholeAll ar (d-1)))))))))
def St.wholeAll:List St->Int->Bool
 | [],_=>true
 |s::l,d=>s.whole d&&St.wholeAll l d
def Ar.wholeAll:List (ArOf St)->Int->Bool
 | [],_=>true
 |⟨v,n,b⟩::l,d=>(zCW v&&((sEq n emS||zBO n)&&St.wholeAll b d))&&Ar.wholeAll l d
end
theorem zFN(l:List St)(d:Int):St.wholeAll l d=l.all fun t=>t.whole d:=by
 induction l with
 |nil=>rfl
 |cons t l ih=>simp[St.wholeAll,ih]
def Ar.whole(a:Ar)(d:Int):Bool:=zCW a.variant&&((sEq a.name emS||zBO a.name)&&a.body.all fun t=>t.whole d)
theorem zIq(l:List Ar)(d:Int):Ar.wholeAll l d=l.all fun t=>t.whole d:=by
 induction l with
 |nil=>rfl
 |cons t l ih=>cases t;simp[Ar.wholeAll,ih,Ar.whole,zFN]
theorem zC(s:St)(d:Int):s.whole d=(decide (1<=d)&&(zR s.op s.int s.name s.u2 s.names s.type s.place s.u3 d&&((zA1 s.op||decide (s.body.length=0))&&((zAp s.op||decide (s.els.length=0))&&((zAq s.op||decide (s.arms.length=0))&&
  (exsB s.op s.u3 d&&(s.body.all (fun t=>t.whole (d-1))&&(s.els.all (fun t=>t.whole (d-1))&&zt (fun a=>a.whole (d-1)) s.arms 6)))))))):=by
 cases s with
 |mk op name second names ty int pl es b el ar pos=>
  simp only[St.whole,zFN,zIq,St.op,St.int,St.name,St.u2,St.names,St.type,St.place,St.u3,St.body,St.els,St.arms]
  congr 1;congr 1;congr 1;congr 1;congr 1;congr 1;congr 1;congr 1
  by_cases h:(ar.length:Int)<=6
  .rw[zBx h];simp[show ar.length<=6 by omega]
  simp[zt,h,show ¬ar.length<=6 by omega]
def zDa(e:Ex):Bool:=(e.op==0)&&((e.int==0)&&(sEq e.name emS&&(sEq e.u2 emS&&((sEq e.place.name emS&&decide (e.place.path.length=0))&&decide (e.args.length=0)))))
def zDE(k:Int)(d:Int)(f:Fi):Bool:=(if k=2 then zCW f.name else zBO f.name)&&(((k==2)&&zBl f.type)||f.type.whole (d-1))
def It.whole(x:It)(d:Int):Bool:=
 if x.kind=1\/x.kind=2 then(zBl x.result&&(decide (x.body.length=0)&&(zDa x.ret&&zCW x.name)))&&zt (zDE x.kind d) x.fields 6
 else if x.kind=3 then zBO x.name&&(zt (zDE 3 d) x.fields 6&&(x.result.whole (d-1)&&(!zCC x.ret.op&&(x.ret.whole (d-1)&&x.body.all fun s=>s.whole (d-1)))))
 else false
def zAF(p:List It):Bool:=zt (fun x=>x.whole 39) p 30
attribute [local simp] List.replicate List.range List.range.loop
abbrev tyV(t:Ty):AV:=.agg [U t.kind,Sg t.name,.p (.sl 3 (t.args.map Ty.enc))]
abbrev plV(x:Pl):AV:=.agg [Sg x.name,.p (strs x.path)]
abbrev exV(e:Ex):AV:=.agg [U e.op,I e.int,Sg e.name,Sg e.u2,Sg e.place.name,.p (strs e.place.path),.p (.sl 8 (e.args.map Ex.enc)),I e.pos]
abbrev fiV(x:Fi):AV:=.agg [Sg x.name,U x.type.kind,Sg x.type.name,.p (.sl 3 (x.type.args.map Ty.enc))]
abbrev arV(a:Ar):AV:=.agg [Sg a.variant,Sg a.name,.p (.sl 15 (a.body.map St.enc))]
abbrev stU(s:St):List AV:=[U s.op,Sg s.name,Sg s.u2,.p (strs s.names),U s.type.kind,Sg s.type.name,.p (.sl 3 (s.type.args.map Ty.enc)),I s.int,Sg s.place.name,.p (strs s.place.path),.p (.sl 8 (s.u3.map Ex.enc)),.p (.sl 15 (s.body.map St.enc)),.p (.sl 15 (s.els.map St.enc)),.p (.sl 3 (s.arms.map Ar.enc)),I s.pos]
abbrev stmV(s:St):AV:=.agg (stU s)
abbrev itU(x:It):List AV:=[U x.kind,Sg x.name,.p (.sl 4 (x.fields.map Fi.enc)),U x.result.kind,Sg x.result.name,.p (.sl 3 (x.result.args.map Ty.enc)),.p (.sl 15 (x.body.map St.enc)),U x.ret.op,I x.ret.int,Sg x.ret.name,Sg x.ret.u2,Sg x.ret.place.name,.p (strs x.ret.place.path),.p (.sl 8 (x.ret.args.map Ex.enc)),I x.ret.pos,I x.pos]
abbrev itV(x:It):AV:=.agg (itU x)
mutual
theorem zZ1(n:Nat):∀v:AV,(v.up 1).cut n=v.up 1
 | .any=>rfl
 | .un=>rfl
 | .p _=>rfl
 | .ptr _ _ _=>rfl
 | .mp _ _=>rfl
 | .bl=>rfl
 | .asl _ _ _ _=>rfl
 | .rsl _ _ _ _=>rfl
 | .rptr _ _ _ _=>rfl
 | .rp _=>rfl
 | .bx cs=>by simp only[AV.up,AV.cut,zD5 n cs]
 | .osl _ _ _ _=>rfl
 | .agg cs=>by simp only[AV.up,AV.cut,zD5 n cs]
 | .tup cs=>by simp only[AV.up,AV.cut,zD5 n cs]
 | .fn f xs ys=>by simp only[AV.up,AV.cut,zD5 n xs,zD5 n ys]
theorem zD5(n:Nat):∀cs:List AV,AV.cuts n (AV.ups 1 cs)=AV.ups 1 cs
 | []=>rfl
 |c::cs=>by simp only[AV.ups,AV.cuts,zZ1 n c,zD5 n cs]
end
attribute [simp] zD5
theorem zD6{α:Type}{p:α->Bool}{l:List α}{m:Int}{q:Nat}(hq:q<l.length)(hm:(q:Int)<m)(h:p l[q]=false):zt p l m=false:=by
 unfold zt
 have:(l.take m.toNat).all p=false:=by
  rw[List.all_eq_false];exact⟨l[q],List.mem_take_iff_getElem.2 ⟨q,by omega,rfl⟩,by simp[h]⟩
 simp[this]
theorem zBK{α:Type}{p:α->Bool}{l:List α}{m:Int}{q:Nat}(h:∀i (hi:i<l.length),i<q->p l[i]=true)(hq:q<l.length->m<=q):zt p l m=decide ((l.length:Int)<=m):=by
 unfold zt
 by_cases hm:(l.length:Int)<=m
 .have:(l.take m.toNat).all p=true:=by
   rw[List.all_eq_true];intro x hx
   obtain⟨i,hi,rfl⟩:=List.mem_take_iff_getElem.1 hx
   exact h i (by omega) (by rcases Nat.lt_or_ge q l.length with h1|h1<;>omega)
  simp[hm,this]
 simp[hm]
theorem zUc(p:Ty->Bool)(l:List Ty)(m:Int)(hm:m<=1000000)(K:Nat)(fs caps:List AV)(S:ASt)(hc:∀x∈l,∀L,ADet Tryz.prog K (AV.ups 1 fs++(tyV x::AV.ups 1 caps)) (L::S) (B (p x)) (L::S)):
  ADet Tryz.prog 106 [.p (.sl 3 (l.map Ty.enc)),I m,.fn (.func K) fs caps] S (B (zt p l m)) S:=by
 skip
 refine ADet.okP call106 0 rfl fun na=>?_
 have ca:=okl na
 refine ADet.intro mixed call106 func106 rfl ?_;simp[ntmps106];refine zH (fun q:Nat=>q<=l.length/\∀i (hi:i<l.length),i<q->p l[i]=true) (fun q=>([.p (.sl 3 (l.map Ty.enc)),I m,.fn (.func K) (AV.ups 1 fs) (AV.ups 1 caps),.any,.any,.any,.any,I q]++List.replicate 22 .any)) (fun q=>[]::S) (fun q=>l.length-q) 0 ⟨Nat.zero_le _,fun i hi h=>by omega⟩ ?_ ?_ ?_
 .simp
 .simp
 rintro q ⟨hq,ia⟩
 by_cases hlt:q<l.length
 .by_cases ld:(q:Int)<m
  .generalize hx:l[q]=x
   have ce:=hc x (by rw[<-hx];exact List.getElem_mem hlt)
   simp[hlt,ld,hx,ze];refine cq (ce _) ?_
   cases hp:p x with
   |false=>
    have:=zD6 (p:=p) hlt ld (by rw[hx];exact hp)
    simp[hp,this]
   |true=>
    simp[hp]
    exact⟨q+1,⟨hlt,fun i hi h=>by
     rcases Nat.lt_or_ge i q with h'|h'
     .exact ia i hi h'
     obtain rfl:i=q:=by omega
     rw[hx];exact hp⟩,by omega,zA hlt⟩
  have:=zBK (m:=m) ia (fun _=>by omega)
  simp[hlt,ld,this]
 have:=zBK (m:=m) ia (fun h=>absurd h hlt)
 simp[hlt,this]
theorem zB5(p:BA->Bool)(l:List BA)(m:Int)(hm:m<=1000000)(K:Nat)(fs caps:List AV)(S:ASt)(hc:∀x∈l,∀L,ADet Tryz.prog K (AV.ups 1 fs++(Sg x::AV.ups 1 caps)) (L::S) (B (p x)) (L::S)):
  ADet Tryz.prog 52 [.p (strs l),I m,.fn (.func K) fs caps] S (B (zt p l m)) S:=by
 unfold strs;refine ADet.okP call52 0 rfl fun na=>?_
 have ca:=okl na
 refine ADet.intro mixed call52 func52 rfl ?_;simp[ntmps52];refine zH (fun q:Nat=>q<=l.length/\∀i (hi:i<l.length),i<q->p l[i]=true) (fun q=>([.p (.sl 1 (l.map fun s=>[pS s])),I m,.fn (.func K) (AV.ups 1 fs) (AV.ups 1 caps),.any,.any,.any,.any,I q]++List.replicate 22 .any)) (fun q=>[]::S) (fun q=>l.length-q) 0 ⟨Nat.zero_le _,fun i hi h=>by omega⟩ ?_ ?_ ?_
 .simp
 .simp
 rintro q ⟨hq,ia⟩
 by_cases hlt:q<l.length
 .by_cases ld:(q:Int)<m
  .generalize hx:l[q]=x
   have ce:=hc x (by rw[<-hx];exact List.getElem_mem hlt)
   simp[hlt,ld,hx,pS];refine cq (ce _) ?_
   cases hp:p x with
   |false=>
    have:=zD6 (p:=p) hlt ld (by rw[hx];exact hp)
    simp[hp,this]
   |true=>
    simp[hp]
    exact⟨q+1,⟨hlt,fun i hi h=>by
     rcases Nat.lt_or_ge i q with h'|h'
     .exact ia i hi h'
     obtain rfl:i=q:=by omega
     rw[hx];exact hp⟩,by omega,zA hlt⟩
  have:=zBK (m:=m) ia (fun _=>by omega)
  simp[hlt,ld,this]
 have:=zBK (m:=m) ia (fun h=>absurd h hlt)
 simp[hlt,this]
theorem zNq(p:Ex->Bool)(l:List Ex)(m:Int)(hm:m<=1000000)(K:Nat)(fs caps:List AV)(S:ASt)(hc:∀x∈l,∀L,ADet Tryz.prog K (AV.ups 1 fs++(exV x::AV.ups 1 caps)) (L::S) (B (p x)) (L::S)):
  ADet Tryz.prog 102 [.p (.sl 8 (l.map Ex.enc)),I m,.fn (.func K) fs caps] S (B (zt p l m)) S:=by
 skip
 refine ADet.okP call102 0 rfl fun na=>?_
 have ca:=okl na
 refine ADet.intro mixed call102 func102 rfl ?_;simp[ntmps102];refine zH (fun q:Nat=>q<=l.length/\∀i (hi:i<l.length),i<q->p l[i]=true) (fun q=>([.p (.sl 8 (l.map Ex.enc)),I m,.fn (.func K) (AV.ups 1 fs) (AV.ups 1 caps),.any,.any,.any,.any,I q]++List.replicate 22 .any)) (fun q=>[]::S) (fun q=>l.length-q) 0 ⟨Nat.zero_le _,fun i hi h=>by omega⟩ ?_ ?_ ?_
 .simp
 .simp
 rintro q ⟨hq,ia⟩
 by_cases hlt:q<l.length
 .by_cases ld:(q:Int)<m
  .generalize hx:l[q]=x
   have ce:=hc x (by rw[<-hx];exact List.getElem_mem hlt)
   simp[hlt,ld,hx,zg];refine cq (ce _) ?_
   cases hp:p x with
   |false=>
    have:=zD6 (p:=p) hlt ld (by rw[hx];exact hp)
    simp[hp,this]
   |true=>
    simp[hp]
    exact⟨q+1,⟨hlt,fun i hi h=>by
     rcases Nat.lt_or_ge i q with h'|h'
     .exact ia i hi h'
     obtain rfl:i=q:=by omega
     rw[hx];exact hp⟩,by omega,zA hlt⟩
  have:=zBK (m:=m) ia (fun _=>by omega)
  simp[hlt,ld,this]
 have:=zBK (m:=m) ia (fun h=>absurd h hlt)
 simp[hlt,this]
theorem zRr(p:Fi->Bool)(l:List Fi)(m:Int)(hm:m<=1000000)(K:Nat)(fs caps:List AV)(S:ASt)(hc:∀x∈l,∀L,ADet Tryz.prog K (AV.ups 1 fs++(fiV x::AV.ups 1 caps)) (L::S) (B (p x)) (L::S)):
  ADet Tryz.prog 146 [.p (.sl 4 (l.map Fi.enc)),I m,.fn (.func K) fs caps] S (B (zt p l m)) S:=by
 skip
 refine ADet.okP call146 0 rfl fun na=>?_
 have ca:=okl na
 refine ADet.intro mixed call146 func146 rfl ?_;simp[ntmps146];refine zH (fun q:Nat=>q<=l.length/\∀i (hi:i<l.length),i<q->p l[i]=true) (fun q=>([.p (.sl 4 (l.map Fi.enc)),I m,.fn (.func K) (AV.ups 1 fs) (AV.ups 1 caps),.any,.any,.any,.any,I q]++List.replicate 22 .any)) (fun q=>[]::S) (fun q=>l.length-q) 0 ⟨Nat.zero_le _,fun i hi h=>by omega⟩ ?_ ?_ ?_
 .simp
 .simp
 rintro q ⟨hq,ia⟩
 by_cases hlt:q<l.length
 .by_cases ld:(q:Int)<m
  .generalize hx:l[q]=x
   have ce:=hc x (by rw[<-hx];exact List.getElem_mem hlt)
   simp[hlt,ld,hx,Fi.enc];refine cq (ce _) ?_
   cases hp:p x with
   |false=>
    have:=zD6 (p:=p) hlt ld (by rw[hx];exact hp)
    simp[hp,this]
   |true=>
    simp[hp]
    exact⟨q+1,⟨hlt,fun i hi h=>by
     rcases Nat.lt_or_ge i q with h'|h'
     .exact ia i hi h'
     obtain rfl:i=q:=by omega
     rw[hx];exact hp⟩,by omega,zA hlt⟩
  have:=zBK (m:=m) ia (fun _=>by omega)
  simp[hlt,ld,this]
 have:=zBK (m:=m) ia (fun h=>absurd h hlt)
 simp[hlt,this]
theorem zNr(p:St->Bool)(l:List St)(m:Int)(hm:m<=1000000)(K:Nat)(fs caps:List AV)(S:ASt)(hc:∀x∈l,∀L,ADet Tryz.prog K (AV.ups 1 fs++(stmV x::AV.ups 1 caps)) (L::S) (B (p x)) (L::S)):
  ADet Tryz.prog 150 [.p (.sl 15 (l.map St.enc)),I m,.fn (.func K) fs caps] S (B (zt p l m)) S:=by
 skip
 refine ADet.okP call150 0 rfl fun na=>?_
 have ca:=okl na
 refine ADet.intro mixed call150 func150 rfl ?_;simp[ntmps150];refine zH (fun q:Nat=>q<=l.length/\∀i (hi:i<l.length),i<q->p l[i]=true) (fun q=>([.p (.sl 15 (l.map St.enc)),I m,.fn (.func K) (AV.ups 1 fs) (AV.ups 1 caps),.any,.any,.any,.any,I q]++List.replicate 22 .any)) (fun q=>[]::S) (fun q=>l.length-q) 0 ⟨Nat.zero_le _,fun i hi h=>by omega⟩ ?_ ?_ ?_
 .simp
 .simp
 rintro q ⟨hq,ia⟩
 by_cases hlt:q<l.length
 .by_cases ld:(q:Int)<m
  .generalize hx:l[q]=x
   have ce:=hc x (by rw[<-hx];exact List.getElem_mem hlt)
   simp[hlt,ld,hx,zCR];refine cq (ce _) ?_
   cases hp:p x with
   |false=>
    have:=zD6 (p:=p) hlt ld (by rw[hx];exact hp)
    simp[hp,this]
   |true=>
    simp[hp]
    exact⟨q+1,⟨hlt,fun i hi h=>by
     rcases Nat.lt_or_ge i q with h'|h'
     .exact ia i hi h'
     obtain rfl:i=q:=by omega
     rw[hx];exact hp⟩,by omega,zA hlt⟩
  have:=zBK (m:=m) ia (fun _=>by omega)
  simp[hlt,ld,this]
 have:=zBK (m:=m) ia (fun h=>absurd h hlt)
 simp[hlt,this]
theorem zXe(p:Ar->Bool)(l:List Ar)(m:Int)(hm:m<=1000000)(K:Nat)(fs caps:List AV)(S:ASt)(hc:∀x∈l,∀L,ADet Tryz.prog K (AV.ups 1 fs++(arV x::AV.ups 1 caps)) (L::S) (B (p x)) (L::S)):
  ADet Tryz.prog 188 [.p (.sl 3 (l.map Ar.enc)),I m,.fn (.func K) fs caps] S (B (zt p l m)) S:=by
 skip
 refine ADet.okP call188 0 rfl fun na=>?_
 have ca:=okl na
 refine ADet.intro mixed call188 func188 rfl ?_;simp[ntmps188];refine zH (fun q:Nat=>q<=l.length/\∀i (hi:i<l.length),i<q->p l[i]=true) (fun q=>([.p (.sl 3 (l.map Ar.enc)),I m,.fn (.func K) (AV.ups 1 fs) (AV.ups 1 caps),.any,.any,.any,.any,I q]++List.replicate 22 .any)) (fun q=>[]::S) (fun q=>l.length-q) 0 ⟨Nat.zero_le _,fun i hi h=>by omega⟩ ?_ ?_ ?_
 .simp
 .simp
 rintro q ⟨hq,ia⟩
 by_cases hlt:q<l.length
 .by_cases ld:(q:Int)<m
  .generalize hx:l[q]=x
   have ce:=hc x (by rw[<-hx];exact List.getElem_mem hlt)
   simp[hlt,ld,hx,Ar.enc];refine cq (ce _) ?_
   cases hp:p x with
   |false=>
    have:=zD6 (p:=p) hlt ld (by rw[hx];exact hp)
    simp[hp,this]
   |true=>
    simp[hp]
    exact⟨q+1,⟨hlt,fun i hi h=>by
     rcases Nat.lt_or_ge i q with h'|h'
     .exact ia i hi h'
     obtain rfl:i=q:=by omega
     rw[hx];exact hp⟩,by omega,zA hlt⟩
  have:=zBK (m:=m) ia (fun _=>by omega)
  simp[hlt,ld,this]
 have:=zBK (m:=m) ia (fun h=>absurd h hlt)
 simp[hlt,this]
theorem zUd(p:It->Bool)(l:List It)(m:Int)(hm:m<=1000000)(K:Nat)(fs caps:List AV)(S:ASt)(hc:∀x∈l,∀L,ADet Tryz.prog K (AV.ups 1 fs++(itV x::AV.ups 1 caps)) (L::S) (B (p x)) (L::S)):
  ADet Tryz.prog 115 [.p (.sl 16 (l.map It.enc)),I m,.fn (.func K) fs caps] S (B (zt p l m)) S:=by
 skip
 refine ADet.okP call115 0 rfl fun na=>?_
 have ca:=okl na
 refine ADet.intro mixed call115 func115 rfl ?_;simp[ntmps115];refine zH (fun q:Nat=>q<=l.length/\∀i (hi:i<l.length),i<q->p l[i]=true) (fun q=>([.p (.sl 16 (l.map It.enc)),I m,.fn (.func K) (AV.ups 1 fs) (AV.ups 1 caps),.any,.any,.any,.any,I q]++List.replicate 22 .any)) (fun q=>[]::S) (fun q=>l.length-q) 0 ⟨Nat.zero_le _,fun i hi h=>by omega⟩ ?_ ?_ ?_
 .simp
 .simp
 rintro q ⟨hq,ia⟩
 by_cases hlt:q<l.length
 .by_cases ld:(q:Int)<m
  .generalize hx:l[q]=x
   have ce:=hc x (by rw[<-hx];exact List.getElem_mem hlt)
   simp[hlt,ld,hx,It.enc];refine cq (ce _) ?_
   cases hp:p x with
   |false=>
    have:=zD6 (p:=p) hlt ld (by rw[hx];exact hp)
    simp[hp,this]
   |true=>
    simp[hp]
    exact⟨q+1,⟨hlt,fun i hi h=>by
     rcases Nat.lt_or_ge i q with h'|h'
     .exact ia i hi h'
     obtain rfl:i=q:=by omega
     rw[hx];exact hp⟩,by omega,zA hlt⟩
  have:=zBK (m:=m) ia (fun _=>by omega)
  simp[hlt,ld,this]
 have:=zBK (m:=m) ia (fun h=>absurd h hlt)
 simp[hlt,this]
end Go.Proofs.YtdflkegnmmkkoaaGreatDoor
namespace Go.Proofs.YtdflkegnmmkkoaaGreatDoor
open Go.RowKit _root_.Go.Proofs.Tryz
theorem zH4{Pr:Prot}{φ:Fi2}{S:ASt}{w w':World}(h:Rel Pr φ S w)(hb:Below w.heap.size w w'):Stp Pr φ w Pr φ w'/\Rel Pr φ S w':=by
 refine⟨⟨Prot.le_refl Pr,Fle.refl φ,fun d i e g he hg=>.inl ⟨d,i,e,he,hg⟩,⟨hb.os,hb.tape,hb.output,hb.size,fun g hg _=>hb.block g hg⟩,rfl,fun g o h k=>absurd h k⟩,⟨fun d i o ho=>?_,h.dis,fun d i e g h1 h2=>Nat.lt_of_lt_of_le (h.lt d i e g h1 h2) hb.size,fun b o v hv=>?_,h.tb.of (Prot.le_refl _) (fun g hg _=>hb.block g hg) (fun d i e g he hg=>.inl ⟨d,i,e,he,hg⟩),h.shape⟩⟩
 .obtain⟨e,he,hr⟩:=h.obj d i o ho
  exact⟨e,he,hr.keep (Prot.le_refl Pr) (Fle.refl _) fun g hg=>⟨hb.block g (h.lt d i e g he hg),fun _ h=>h⟩⟩
 have:=h.pr b o v hv
 rw[<-this];exact World.cell?_of_block (a:=⟨b,o,none⟩) (hb.block b (zBh this))
theorem ADet.of_calls{P:Program}{K:FuncId}{args:List AV}{S:ASt}{x:Value}(hx:atom x=true)(hK:∀xs w,(callFunc K xs).run P w= .ok (.enter K xs) w)(h:∀Pr φ xs w,RL Pr φ args xs->Rel Pr φ S w->Calls P K xs w fun e w'=>e= .returned x/\Below w.heap.size w w'):ADet P K args S (.p (.v x)) S:=
 ⟨hK,fun Pr φ xs w da hR hne=>(h Pr φ xs w da hR).mono fun e w' ⟨he,hb⟩=>by
  obtain⟨s,r⟩:=zH4 hR hb
  exact⟨x,Pr,φ,he,s,r,.p (.v hx)⟩⟩
theorem zGT{Pr:Prot}{φ:Fi2}{l:List Value}{xs:Array Value}(h:RL Pr φ (l.map fun x=>.p (.v x)) xs):xs=l.toArray:=by
 apply Array.ext'
 apply List.ext_getElem?
 intro j
 have hl:xs.size=l.length:=by simpa using h.1.symm
 rcases Nat.lt_or_ge j l.length with hj|hj
 .have h1:(l.map fun x=>AV.p (.v x))[j]? =some (.p (.v l[j])):=by simp[hj]
  have h2:xs[j]? =some xs[j]:=Array.getElem?_eq_getElem (by omega)
  have:=zT (h.2 j _ _ h1 h2) rfl
  rw[Array.getElem?_toList,h2,this];simp[hj]
 rw[Array.getElem?_toList,Array.getElem?_eq_none (by omega)];simp[hj]
theorem zRs{P:Program}{Pr:Prot}{φ:Fi2}{S:ASt}{w:World}(h:Rel Pr φ S w){name:String}{k:IntKind}{zs:List Int}{g:Nat}(hg:P.globalNamed name=some g)(hm:(g,zs.map fun z=>Value.int k z)∈zGO):Lib.TabIs P w name k zs:=by
 obtain⟨_,_,⟨t,fz,h2⟩,_⟩:=h.tb g _ hm
 simp[Lib.TabIs,World.var?,hg,h2]
theorem zUe{t:Ty}{d:Int}(h:t.whole d=true):((t.kind=1\/t.kind=2\/t.kind=3\/t.kind=10)/\t.args=[])\/(t.kind=4/\t.args=[])\/(5<=t.kind/\t.kind<=14/\t.kind≠10/\∃x,t.args=[x]/\x.whole (d-1)=true):=by
 rw[zHF]at h;simp only[Bool.and_eq_true,decide_eq_true_eq]at h
 obtain⟨h0,h1,h2,h3⟩:=h
 split at h3
 .rename_i hp
  simp only[zl,Bool.or_eq_true,beq_iff_eq,Bool.and_eq_true,decide_eq_true_eq]at hp h3;exact .inl ⟨by omega,List.eq_nil_of_length_eq_zero h3.2⟩
 rename_i hp
 simp only[zl,Bool.or_eq_true,beq_iff_eq]at hp;split at h3
 .rename_i h4
  simp only[Bool.and_eq_true,decide_eq_true_eq]at h3;exact .inr (.inl ⟨h4,List.eq_nil_of_length_eq_zero h3.2⟩)
 rename_i h4
 simp only[Bool.and_eq_true,decide_eq_true_eq]at h3
 obtain⟨_,hl,ha⟩:=h3
 obtain⟨x,hx⟩:=List.length_eq_one_iff.1 hl
 rw[hx]at ha;exact .inr (.inr ⟨by omega,by omega,by omega,x,hx,by simpa using ha⟩)
theorem zGs:∀(t:Ty) (d d':Int),d<=d'->t.whole d=true->t.whole d'=true:=by
 refine Ty.ind fun t ih d d' hd h=>?_
 rw[zHF]at h ⊢;simp only[Bool.and_eq_true,decide_eq_true_eq]at h ⊢
 obtain⟨h0,h1,h2,h3⟩:=h
 refine⟨by omega,h1,h2,?_⟩
 split at h3
 .rename_i hp;rw[if_pos hp];exact h3
 rename_i hp
 rw[if_neg hp];split at h3
 .rename_i h4;rw[if_pos h4];exact h3
 rename_i h4
 rw[if_neg h4];simp only[Bool.and_eq_true,decide_eq_true_eq,List.all_eq_true]at h3 ⊢;exact⟨h3.1,h3.2.1,fun x hx=>ih x hx (d-1) (d'-1) (by omega) (h3.2.2 x hx)⟩
end Go.Proofs.YtdflkegnmmkkoaaGreatDoor
