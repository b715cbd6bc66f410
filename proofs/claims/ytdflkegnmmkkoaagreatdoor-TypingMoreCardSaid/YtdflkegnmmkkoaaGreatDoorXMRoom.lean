/- A part of the proof. -/
import Derived.Test.YtdflkegnmmkkoaaGreatDoorXMSimp
import Derived.Test.YtdflkegnmmkkoaaGreatDoorXMLt
set_option linter.unusedVariables false
set_option linter.unusedSimpArgs false
set_option maxRecDepth 100000
set_option maxHeartbeats 32000000
namespace Go.Proofs.YtdflkegnmmkkoaaGreatDoor
open Go.RowKit _root_.Go.Proofs.Tryz
variable{n:Int}{q:Nat}
def zD(k:Nat)(n:Int):Int:=if n<5 then-1 else if(k:Int)>n-5 then-1 else n-5-k
theorem zMf(k:Nat)(n:Int)(h: -10<=n): -1<=zD k n/\zD k n<=n+9/\(0<=n->zD k n<=n):=by unfold zD;split<;>(try split)<;>omega
mutual
def Ty.room:Ty->Int->Int
 | .mk _ s l,n=>Ty.roomAll l (zD s.size n)
def Ty.roomAll:List Ty->Int->Int
 | [],n=>n
 |t::l,n=>if n<0 then n else Ty.roomAll l (t.room n)
end
theorem zYH(t:Ty)(n:Int):t.room n=Ty.roomAll t.args (zD t.name.size n):=by cases t;rfl
def Ty.great(t:Ty):Bool:=decide (t.room 20000<0)
def zE{α:Type}(g:α->Int->Int):List α->Int->Int
 | [],n=>n
 |x::l,n=>if n<0 then n else zE g l (g x n)
theorem zEp{α:Type}{g:α->Int->Int}{l:List α}(h:n<0):zE g l n=n:=by cases l<;>simp[zE,h]
theorem zKO{α:Type}{g:α->Int->Int}{l:List α}(hq:q<l.length)(h:0<=n):zE g (l.drop q) n=zE g (l.drop (q+1)) (g l[q] n):=by
 rw[List.drop_eq_getElem_cons hq,zE,if_neg (by omega)]
theorem zKP{α:Type}{g:α->Int->Int}{l:List α}(hq:l.length<=q):zE g (l.drop q) n=n:=by rw[List.drop_eq_nil_of_le hq];rfl
def z6(l:List BA)(n:Int):Int:=zE (fun s m=>zD s.size m) l (n-5)
def Pl.room(p:Pl)(n:Int):Int:=z6 p.path (zD p.name.size n)
mutual
def Ex.room:Ex->Int->Int
 | .mk _ _ nm sc pl al _,n=>Ex.roomAll al (pl.room (zD sc.size (zD nm.size n)))
def Ex.roomAll:List Ex->Int->Int
 | [],n=>n
 |t::l,n=>if n<0 then n else Ex.roomAll l (t.room n)
end
theorem zR1(l:List Ex):∀n,Ex.roomAll l n=zE Ex.room l n:=by
 induction l with
 |nil=>intro n;rfl
 |cons t l ih=>intro n;simp[Ex.roomAll,zE,ih]
theorem zCh(e:Ex)(n:Int):e.room n=zE Ex.room e.args (e.place.room (zD e.u2.size (zD e.name.size n))):=by cases e;simp only[Ex.room,zR1];rfl
mutual
def St.room:St->Int->Int
 | .mk _ nm sc nms ty _ pl exs body els arms _,n=>
  if zE Ex.room exs (pl.room (ty.room (z6 nms (zD sc.size (zD nm.size n)))))<0 then zE Ex.room exs (pl.room (ty.room (z6 nms (zD sc.size (zD nm.size n)))))
  else Ar.roomAll arms (St.roomAll els (St.roomAll body (zE Ex.room exs (pl.room (ty.room (z6 nms (zD sc.size (zD nm.size n))))))))
def St.roomAll:List St->Int->Int
 | [],n=>n
 |t::l,n=>if n<0 then n else St.roomAll l (t.room n)
def Ar.roomAll:List (ArOf St)->Int->Int
 | [],n=>n
 |⟨v,nm,b⟩::l,n=>if n<0 then n else Ar.roomAll l (St.roomAll b (zD nm.size (zD v.size n)))
end
def Ar.room(a:Ar)(n:Int):Int:=St.roomAll a.body (zD a.name.size (zD a.variant.size n))
theorem zLe(l:List St):∀n,St.roomAll l n=zE St.room l n:=by
 induction l with
 |nil=>intro n;rfl
 |cons t l ih=>intro n;simp[St.roomAll,zE,ih]
theorem zR2(l:List Ar):∀n,Ar.roomAll l n=zE Ar.room l n:=by
 induction l with
 |nil=>intro n;rfl
 |cons t l ih=>intro n;obtain⟨v,nm,b⟩:=t;simp[Ar.roomAll,zE,Ar.room,ih]
def St.room1(s:St)(n:Int):Int:=s.place.room (s.type.room (z6 s.names (zD s.u2.size (zD s.name.size n))))
theorem zDL(s:St)(n:Int):s.room n=if zE Ex.room s.u3 (s.room1 n)<0 then zE Ex.room s.u3 (s.room1 n)else
  zE Ar.room s.arms (zE St.room s.els (zE St.room s.body (zE Ex.room s.u3 (s.room1 n)))):=by
 cases s;simp only[St.room,zLe,zR2];rfl
def Fi.room(x:Fi)(n:Int):Int:=x.type.room (zD x.name.size n)
theorem zCK(a:Ar)(n:Int):a.room n=zE St.room a.body (zD a.name.size (zD a.variant.size n)):=zLe _ _
def It.room(x:It)(n:Int):Int:=x.ret.room (zE St.room x.body (x.result.room (zE Fi.room x.fields (zD x.name.size n))))
def great(p:List It):Bool:=decide (zE It.room p 20000<0)
attribute [local simp] List.replicate List.range List.range.loop
def rm(n:Int):AObj:=.cells [I n] 68
theorem zMg{k:Nat}{n b:Int}(h:n<=b)(hb:0<=b):zD k n<=b:=by unfold zD;split<;>(try split)<;>omega
theorem wr(h: -1000000<=n/\n<=1000000:=by omega):IntKind.i64.wrap n=n:=IntWalk.i64_in _ (by omega)
theorem zcN(S:ASt)(d i:Nat)(n:Int)(s:BA)(hS:get2 S d i=some (rm n))(h1: -10<=n)(h2:n<=100000):ADet Tryz.prog 27 [.ptr d i 0,Sg s] S .un (set2 S d i (rm (zD s.size n))):=by
 unfold rm at*;refine ADet.intro mixed call27 func27 rfl ?_
 have w1:IntKind.i64.wrap (n-5)=n-5:=wr
 by_cases h5:n<5
 .simp[hS,h5,ntmps27,zD]
 by_cases h6:(s.size:Int)>n-5
 .simp[hS,h5,h6,w1,ntmps27,zD]
 have w2:IntKind.i64.wrap (n-5-s.size)=n-5-s.size:=wr
 simp[hS,h5,h6,w1,w2,ntmps27,zD]
def RmC(F:Nat)(lo:Int)(v:AV)(g:Int->Int):Prop:=∀(S:ASt) (d i:Nat) (n:Int),get2 S d i=some (rm n)->lo<=n->n<=100000->ADet Tryz.prog F [.ptr d i 0,v] S .un (set2 S d i (rm (g n)))
theorem zIN(s:BA):RmC 27 (-10) (Sg s) (zD s.size):=fun S d i n h h1 h2=>zcN S d i n s h h1 h2
def Bd(lo:Int)(g:Int->Int):Prop:=∀n,lo<=n->n<=100000-> -6<=g n/\g n<=100000
theorem zA1(k:Nat)(n:Int)(h: -10<=n)(h2:n<=100000): -1<=zD k n/\zD k n<=100000:=⟨(zMf k n h).1,zMg h2 (by omega)⟩
theorem zCi{α:Type}{g:α->Int->Int}:∀(l:List α),(∀x∈l,Bd (-6) (g x))->Bd (-6) (zE g l)
 | [],_,n,h1,h2=>⟨h1,h2⟩
 |x::l,h,n,h1,h2=>by
  unfold zE;split
  .exact⟨h1,h2⟩
  have:=h x (by simp) n h1 h2
  exact zCi l (fun y hy=>h y (by simp[hy])) _ this.1 this.2
theorem zR3(l:List Ty):∀n,Ty.roomAll l n=zE Ty.room l n:=by
 induction l with
 |nil=>intro n;rfl
 |cons t l ih=>intro n;simp[Ty.roomAll,zE,ih]
theorem zB3(t:Ty)(n:Int):t.room n=zE Ty.room t.args (zD t.name.size n):=by rw[zYH,zR3]
theorem zPG:∀(t:Ty),Bd (-10) t.room:=by
 refine Ty.ind fun t ih n h1 h2=>?_
 rw[zB3]
 have:=zA1 t.name.size n h1 h2
 exact zCi _ (fun x hx m a b=>ih x hx m (by omega) b) _ (by omega) this.2
theorem zKQ(l:List BA):Bd (-1) (z6 l):=fun n h1 h2=>by
 refine zCi l (fun s _ m a b=>?_) _ (by omega) (by omega)
 have:=zA1 s.size m (by omega) b
 omega
theorem zHa(x:Pl):Bd (-10) x.room:=fun n h1 h2=>by
 have:=zA1 x.name.size n h1 h2
 exact zKQ _ _ this.1 this.2
theorem zR4:∀(e:Ex),Bd (-10) e.room:=by
 refine Ex.ind fun e ih n h1 h2=>?_
 rw[zCh]
 have a:=zA1 e.name.size n h1 h2
 have b:=zA1 e.u2.size _ (by omega) a.2
 have c:=zHa e.place _ (by omega) b.2
 exact zCi _ (fun x hx m a b=>ih x hx m (by omega) b) _ c.1 c.2
theorem zaY(s:St)(n:Int)(h1: -10<=n)(h2:n<=100000): -6<=s.room1 n/\s.room1 n<=100000:=by
 have a:=zA1 s.name.size n h1 h2
 have b:=zA1 s.u2.size _ (by omega) a.2
 have c:=zKQ s.names _ b.1 b.2
 have d:=zPG s.type _ (by omega) c.2
 exact zHa s.place _ (by omega) d.2
theorem zYI:∀(s:St),Bd (-10) s.room:=by
 refine St.ind fun s Sb Lb Jd n h1 h2=>?_
 rw[zDL]
 have a:=zaY s n h1 h2
 have b:=zCi s.u3 (fun x hx m a b=>zR4 x m (by omega) b) _ a.1 a.2
 split
 .exact b
 have c:=zCi s.body (fun x hx m a b=>Sb x hx m (by omega) b) _ b.1 b.2
 have d:=zCi s.els (fun x hx m a b=>Lb x hx m (by omega) b) _ c.1 c.2
 refine zCi s.arms (fun x hx m a b=>?_) _ d.1 d.2
 rw[zCK]
 have e:=zA1 x.variant.size m (by omega) b
 have f:=zA1 x.name.size _ (by omega) e.2
 exact zCi x.body (fun y hy m a b=>Jd x hx y hy m (by omega) b) _ (by omega) f.2
theorem zcO(x:Ar):Bd (-6) x.room:=fun n h1 h2=>by
 rw[zCK]
 have e:=zA1 x.variant.size n (by omega) h2
 have f:=zA1 x.name.size _ (by omega) e.2
 exact zCi x.body (fun y hy m a b=>zYI y m (by omega) b) _ (by omega) f.2
theorem zYJ(x:Fi):Bd (-6) x.room:=fun n h1 h2=>by
 have e:=zA1 x.name.size n (by omega) h2
 exact zPG x.type _ (by omega) e.2
def Rnd{α:Type}(g:α->Int->Int)(l:List α)(Ci:Int)(x:Nat × Int):Prop:=x.1<=l.length/\ -6<=x.2/\x.2<=100000/\zE g (l.drop x.1) x.2=Ci
theorem Rnd.next{α:Type}{g:α->Int->Int}{l:List α}{Ci:Int}{m:Int}(h:Rnd g l Ci (q,m))(hq:q<l.length)(hm:0<=m)(hb:Bd (-6) (g l[q])):Rnd g l Ci (q+1,g l[q] m):=by
 obtain⟨_,h1,h2,h3⟩:=h
 have:=hb m h1 h2
 exact⟨hq,this.1,this.2,by rw[<-h3];exact(zKO hq hm).symm⟩
theorem Rnd.neg{α:Type}{g:α->Int->Int}{l:List α}{Ci:Int}{m:Int}(h:Rnd g l Ci (q,m))(hm:m<0):m=Ci:=by rw[<-h.2.2.2];exact(zEp hm).symm
theorem Rnd.done{α:Type}{g:α->Int->Int}{l:List α}{Ci:Int}{m:Int}(h:Rnd g l Ci (q,m))(hq:¬q<l.length):m=Ci:=by rw[<-h.2.2.2];exact(zKP (by omega)).symm
theorem Rnd.start{α:Type}{g:α->Int->Int}{l:List α}(h1: -6<=n)(h2:n<=100000):Rnd g l (zE g l n) (0,n):=⟨Nat.zero_le _,h1,h2,rfl⟩
theorem zYK:∀(t:Ty),RmC 29 (-10) (.agg [U t.kind,Sg t.name,.p (.sl 3 (t.args.map Ty.enc))]) t.room:=by
 refine Ty.ind fun t ih S d i n hS h1 h2=>?_
 refine ADet.bound (cs:=[.p (pU t.kind),.p (pS t.name),.p (.sl 3 (t.args.map Ty.enc))]) call29 1 2 rfl rfl fun ca=>?_
 simp only[List.length_map]at ca;refine ADet.intro mixed call29 func29 rfl ?_
 have pf:=zA1 t.name.size n h1 h2
 simp[hS,ntmps29];refine cq (zIN _ _ _ _ _ (by simpa [zAP]using hS) h1 h2) ?_
 simp;refine zF (Rnd Ty.room t.args (t.room n)) (fun x=>([.ptr (d+1) i 0,.any,.any,.ptr 0 0 0,I x.1]++List.replicate 25 .any)) (fun x=>[.cells [U t.kind,Sg t.name,.p (.sl 3 (t.args.map Ty.enc))] 36]::set2 S d i (rm x.2)) (fun x=>t.args.length-x.1) (0,zD t.name.size n) (by rw[zB3];exact .start (by omega) pf.2) ?_ ?_ ?_
 .simp
 .simp
 rintro⟨q,m⟩ hI
 by_cases hlt:q<t.args.length
 .rcases Int.lt_or_le m 0 with Cb|hnn
  .obtain rfl:=hI.neg Cb
   simp[hlt,hS,rm,Int.not_le.2 Cb]
  simp[hlt,hS,rm,hnn,zd]
  refine cq (ih _ (List.getElem_mem hlt) _ _ _ m (by simp[zAP,zw,hS,rm]) (by have:=hI.2.1;omega) hI.2.2.1) ?_
  simp[rm];exact⟨q+1,t.args[q].room m,hI.next hlt hnn (fun m a b=>zPG _ m (by omega) b),by omega,zB hlt,rfl⟩
 obtain rfl:=hI.done hlt
 simp[hlt,hS,rm]
theorem zWq(l:List BA):RmC 56 (-1) (.p (strs l)) (z6 l):=by
 intro S d i n hS h1 h2;unfold strs;refine ADet.boundL call56 1 rfl fun ca=>?_
 simp only[List.length_map]at ca;refine ADet.intro mixed call56 func56 rfl ?_
 have w1:IntKind.i64.wrap (n-5)=n-5:=wr
 simp[hS,rm,w1,ntmps56];refine zF (Rnd (fun s=>zD s.size) l (z6 l n)) (fun x=>([.ptr (d+1) i 0,.p (.sl 1 (l.map fun s=>[pS s])),.any,.any,I x.1]++List.replicate 27 .any)) (fun x=>[]::set2 S d i (rm x.2)) (fun x=>l.length-x.1) (0,n-5) (.start (by omega) (by omega)) ?_ ?_ ?_
 .simp
 .simp[rm]
 rintro⟨q,m⟩ hI
 by_cases hlt:q<l.length
 .rcases Int.lt_or_le m 0 with Cb|hnn
  .obtain rfl:=hI.neg Cb
   simp[hlt,hS,rm,Int.not_le.2 Cb]
  simp[hlt,hS,rm,hnn]
  refine cq (zIN _ _ _ _ m (by simp[zAP,zw,hS,rm]) (by have:=hI.2.1;omega) hI.2.2.1) ?_
  simp[rm];exact⟨q+1,zD l[q].size m,hI.next hlt hnn (fun m a b=>by have:=zA1 l[q].size m (by omega) b;omega),by omega,zB hlt,rfl⟩
 obtain rfl:=hI.done hlt
 simp[hlt,hS,rm]
theorem zWr(x:Pl):RmC 57 (-10) (.agg [Sg x.name,.p (strs x.path)]) x.room:=by
 intro S d i n hS h1 h2;refine ADet.intro mixed call57 func57 rfl ?_
 have pf:=zA1 x.name.size n h1 h2
 simp[hS,ntmps57];refine cq (zIN _ _ _ _ _ (by simpa [zAP]using hS) h1 h2) ?_
 simp;refine cq (zWq _ _ _ _ (zD x.name.size n) (by simp[zAP,zw,hS]) pf.1 pf.2) ?_
 simp[Pl.room]
theorem zaZ:∀(e:Ex),RmC 31 (-10) (.agg [U e.op,I e.int,Sg e.name,Sg e.u2,Sg e.place.name,.p (strs e.place.path),.p (.sl 8 (e.args.map Ex.enc)),I e.pos]) e.room:=by
 refine Ex.ind fun e ih S d i n hS h1 h2=>?_
 refine ADet.bound (cs:=[U e.op,I e.int,Sg e.name,Sg e.u2,Sg e.place.name,.p (strs e.place.path),.p (.sl 8 (e.args.map Ex.enc)),I e.pos]) call31 1 6 rfl rfl fun ca=>?_
 simp only[List.length_map]at ca;refine ADet.intro mixed call31 func31 rfl ?_
 have b1:=zA1 e.name.size n h1 h2
 have b2:=zA1 e.u2.size _ (by omega) b1.2
 have b3:=zHa e.place _ (by omega) b2.2
 simp[hS,ntmps31];refine cq (zIN _ _ _ _ _ (by simpa [zAP]using hS) h1 h2) ?_
 simp;refine cq (zIN _ _ _ _ (zD e.name.size n) (by simp[zAP,zw,hS]) (by omega) b1.2) ?_
 simp;refine cq (zWr e.place _ _ _ _ (by simp[zAP,zw,hS]) (by omega) b2.2) ?_
 simp;refine zF (Rnd Ex.room e.args (e.room n)) (fun x=>([.ptr (d+1) i 0,.any,.any,.ptr 0 0 0,I x.1]++List.replicate 33 .any)) (fun x=>[.cells [U e.op,I e.int,Sg e.name,Sg e.u2,Sg e.place.name,.p (strs e.place.path),.p (.sl 8 (e.args.map Ex.enc)),I e.pos] 43]::set2 S d i (rm x.2)) (fun x=>e.args.length-x.1) (0,e.place.room (zD e.u2.size (zD e.name.size n))) (by rw[zCh];exact .start b3.1 b3.2) ?_ ?_ ?_
 .simp
 .simp
 rintro⟨q,m⟩ hI
 by_cases hlt:q<e.args.length
 .rcases Int.lt_or_le m 0 with Cb|hnn
  .obtain rfl:=hI.neg Cb
   simp[hlt,hS,rm,Int.not_le.2 Cb]
  simp[hlt,hS,rm,hnn,zm]
  refine cq (ih _ (List.getElem_mem hlt) _ _ _ m (by simp[zAP,zw,hS,rm]) (by have:=hI.2.1;omega) hI.2.2.1) ?_
  simp[rm];exact⟨q+1,e.args[q].room m,hI.next hlt hnn (fun m a b=>zR4 _ m (by omega) b),by omega,zB hlt,rfl⟩
 obtain rfl:=hI.done hlt
 simp[hlt,hS,rm]
def StC(l:List St):Prop:=RmC 30 (-6) (.p (.sl 15 (l.map St.enc))) (zE St.room l)
theorem zNy(l:List St):Bd (-6) (zE St.room l):=zCi l fun x _ m a b=>zYI x m (by omega) b
abbrev stV(s:St):List AV:=[U s.op,Sg s.name,Sg s.u2,.p (strs s.names),U s.type.kind,Sg s.type.name,.p (.sl 3 (s.type.args.map Ty.enc)),I s.int,Sg s.place.name,.p (strs s.place.path),.p (.sl 8 (s.u3.map Ex.enc)),.p (.sl 15 (s.body.map St.enc)),.p (.sl 15 (s.els.map St.enc)),.p (.sl 3 (s.arms.map Ar.enc)),I s.pos]
theorem zNz(l:List St)(ih:∀s∈l,StC s.body/\StC s.els/\∀a∈s.arms,StC a.body):StC l:=by
 intro S d i n hS h1 h2;refine ADet.okP call30 1 rfl fun na=>?_
 have ca:=okl na
 refine ADet.intro mixed call30 func30 rfl ?_;simp[ntmps30];refine zF (Rnd St.room l (zE St.room l n)) (fun x=>([.ptr (d+1) i 0,.p (.sl 15 (l.map St.enc)),.any,.any,I x.1]++List.replicate 112 .any)) (fun x=>[]::set2 S d i (rm x.2)) (fun x=>l.length-x.1) (0,n) (.start h1 h2) ?_ ?_ ?_
 .simp
 .simp[zAQ hS]
 rintro⟨q,m⟩ hI
 by_cases hlt:q<l.length
 .rcases Int.lt_or_le m 0 with Cb|hnn
  .obtain rfl:=hI.neg Cb
   simp[hlt,hS,rm,Int.not_le.2 Cb]
  simp[hlt,hS,rm,hnn,zCd]
  have hs:=ih _ (List.getElem_mem hlt)
  have Eo:=zZx na (List.getElem_mem hlt)
  have Nh:=hI.next hlt hnn (fun m a b=>zYI _ m (by omega) b)
  generalize l[q]=s at hs Eo Nh ⊢
  have ta:=okl Eo.2.2.2.1
  have Uu:=okl Eo.2.2.2.2.2.2
  have c1:=zA1 s.name.size m (by omega) hI.2.2.1
  have c2:=zA1 s.u2.size _ (by omega) c1.2
  have c3:=zKQ s.names _ c2.1 c2.2
  have c4:=zPG s.type _ (by omega) c3.2
  have c5:=zHa s.place _ (by omega) c4.2
  refine cq (zIN _ _ _ _ m (by simp[zAP,zw,hS,rm]) (by have:=hI.2.1;omega) hI.2.2.1) ?_
  simp[rm];refine cq (zIN _ _ _ _ (zD s.name.size m) (by simp[zAP,zw,hS,rm]) (by omega) c1.2) ?_
  simp[rm];refine cq (zWq _ _ _ _ (zD s.u2.size (zD s.name.size m)) (by simp[zAP,zw,hS,rm]) (by omega) c2.2) ?_
  simp[rm];refine cq (zYK s.type _ _ _ _ (by simp[zAP,zw,hS,rm]) (by omega) c3.2) ?_
  simp[rm];refine cq (zWr s.place _ _ _ _ (by simp[zAP,zw,hS,rm]) (by omega) c4.2) ?_
  simp[rm];refine zF (Rnd Ex.room s.u3 (zE Ex.room s.u3 (s.room1 m))) (fun x=>([.ptr (d+1) i 0,.p (.sl 15 (l.map St.enc)),.any,.any,I q,.ptr 0 0 0,I x.1]++List.replicate 110 .any)) (fun x=>[.cells (stV s) 49]::set2 S d i (rm x.2)) (fun x=>s.u3.length-x.1) (0,s.room1 m) (.start c5.1 c5.2) ?_ ?_ ?_
  .simp
  .simp[rm]
   rfl
  rintro⟨k,m1⟩ hJ
  by_cases hk:k<s.u3.length/\0<=m1
  .simp[hS,rm,hk,zm]
   refine cq (zaZ _ _ _ _ m1 (by simp[zAP,zw,hS,rm]) (by have:=hJ.2.1;omega) hJ.2.2.1) ?_
   simp[rm];exact⟨k+1,_,hJ.next hk.1 hk.2 (fun m a b=>zR4 _ m (by omega) b),by omega,zB hk.1,rfl⟩
  have e1:m1=zE Ex.room s.u3 (s.room1 m):=by
   rcases Classical.em (k<s.u3.length)with h|h
   .exact hJ.neg (by omega)
   exact hJ.done h
  have c6:=zCi s.u3 (fun x hx m a b=>zR4 x m (by omega) b) (s.room1 m) c5.1 c5.2
  have c7:=zNy s.body _ c6.1 c6.2
  have c8:=zNy s.els _ c7.1 c7.2
  have ic:=zDL s m
  rw[<-e1]at c6 c7 c8 ic
  by_cases Cb:m1<0
  .rw[if_pos Cb]at ic
   rw[ic]at Nh
   have Pb:=Nh.neg Cb
   rcases Classical.em (k<s.u3.length)with h|h
   .simp[hS,rm,h,Cb,Int.not_le.2 Cb]
    rw[Pb]
   simp[hS,rm,h,Cb]
   rw[Pb]
  rw[if_neg Cb]at ic
  have Vg:¬k<s.u3.length:=fun h=>hk ⟨h,by omega⟩
  simp[hS,rm,Vg,Cb,zCd];refine cq (hs.1 _ _ _ m1 (by simp[zAP,zw,hS,rm]) (by omega) c6.2) ?_
  simp[rm];refine cq (hs.2.1 _ _ _ _ (by simp[zAP,zw,hS,rm]) c7.1 c7.2) ?_
  simp[rm];refine zF (Rnd Ar.room s.arms (s.room m)) (fun x=>([.ptr (d+1) i 0,.p (.sl 15 (l.map St.enc)),.any,.any,I q,.ptr 0 0 0,.any,I x.1]++List.replicate 109 .any)) (fun x=>[.cells (stV s) 49]::set2 S d i (rm x.2)) (fun x=>s.arms.length-x.1) (0,zE St.room s.els (zE St.room s.body m1)) (by rw[ic];exact .start c8.1 c8.2) ?_ ?_ ?_
  .simp
  .simp[rm]
  rintro⟨k,m2⟩ hL
  by_cases hk:k<s.arms.length
  .rcases Int.lt_or_le m2 0 with hng|hn2
   .obtain rfl:=hL.neg hng
    simp[hS,rm,hk,Int.not_le.2 hng];exact⟨q+1,_,Nh,by omega,zB hlt,rfl⟩
   have be:=hs.2.2 _ (List.getElem_mem hk)
   have ye:=hL.next hk hn2 (zcO _)
   generalize ha:s.arms[k]=a at be ye ⊢
   simp[hS,rm,hk,hn2,ha,Ar.enc]
   have d1:=zA1 a.variant.size m2 (by omega) hL.2.2.1
   have d2:=zA1 a.name.size _ (by omega) d1.2
   refine cq (zIN _ _ _ _ m2 (by simp[zAP,zw,hS,rm]) (by omega) hL.2.2.1) ?_
   simp[hS,rm,hk,ha,Ar.enc];refine cq (zIN _ _ _ _ (zD a.variant.size m2) (by simp[zAP,zw,hS,rm]) (by omega) d1.2) ?_
   simp[hS,rm,hk,ha,Ar.enc];refine cq (be _ _ _ (zD a.name.size (zD a.variant.size m2)) (by simp[zAP,zw,hS,rm]) (by omega) d2.2) ?_
   simp[hS,rm];exact⟨k+1,_,ye,by omega,zB hk,by rw[zCK]⟩
  obtain rfl:=hL.done hk
  simp[hS,rm,hk];exact⟨q+1,_,Nh,by omega,zB hlt,rfl⟩
 obtain rfl:=hI.done hlt
 simp[hlt,hS,rm]
theorem stC3:∀(s:St),StC s.body/\StC s.els/\∀a∈s.arms,StC a.body:=by
 refine St.ind fun s Sb Lb Jd=>⟨zNz _ Sb,zNz _ Lb,fun a ha=>zNz _ (Jd a ha)⟩
theorem stC(l:List St):StC l:=zNz l fun s _=>stC3 s
theorem zYL(l:List Fi):RmC 28 (-6) (.p (.sl 4 (l.map Fi.enc))) (zE Fi.room l):=by
 intro S d i n hS h1 h2;refine ADet.okP call28 1 rfl fun na=>?_
 have ca:=okl na
 refine ADet.intro mixed call28 func28 rfl ?_;simp[ntmps28];refine zF (Rnd Fi.room l (zE Fi.room l n)) (fun x=>([.ptr (d+1) i 0,.p (.sl 4 (l.map Fi.enc)),.any,.any,I x.1]++List.replicate 27 .any)) (fun x=>[]::set2 S d i (rm x.2)) (fun x=>l.length-x.1) (0,n) (.start h1 h2) ?_ ?_ ?_
 .simp
 .simp[zAQ hS]
 rintro⟨q,m⟩ hI
 by_cases hlt:q<l.length
 .rcases Int.lt_or_le m 0 with Cb|hnn
  .obtain rfl:=hI.neg Cb
   simp[hlt,hS,rm,Int.not_le.2 Cb]
  have Nh:=hI.next hlt hnn (zYJ _)
  generalize hx:l[q]=x at Nh ⊢
  have c1:=zA1 x.name.size m (by omega) hI.2.2.1
  simp[hlt,hS,rm,hnn,hx,Fi.enc];refine cq (zIN _ _ _ _ m (by simp[zAP,zw,hS,rm]) (by omega) hI.2.2.1) ?_
  simp[rm,hlt,hx,Fi.enc];refine cq (zYK x.type _ _ _ (zD x.name.size m) (by simp[zAP,zw,hS,rm]) (by omega) c1.2) ?_
  simp[rm];exact⟨q+1,_,Nh,by omega,zB hlt,rfl⟩
 obtain rfl:=hI.done hlt
 simp[hlt,hS,rm]
theorem zcP(x:It):Bd (-6) x.room:=fun n h1 h2=>by
 have a:=zA1 x.name.size n (by omega) h2
 have b:=zCi x.fields (fun x _=>zYJ x) _ (by omega) a.2
 have c:=zPG x.result _ (by omega) b.2
 have d:=zNy x.body _ c.1 c.2
 exact zR4 x.ret _ (by omega) d.2
theorem zaa(S:ASt)(p:List It):ADet Tryz.prog 9 [.agg [.p (prog p)]] S (B (great p)) S:=by
 refine ADet.okA call9 0 0 rfl rfl fun na=>?_
 have ca:=okl na
 refine ADet.intro mixed call9 func9 rfl ?_;simp[ntmps9];refine zF (Rnd It.room p (zE It.room p 20000)) (fun x=>([.any,.ptr 0 0 0,B false,.ptr 0 1 0,I x.1]++List.replicate 47 .any)) (fun x=>[.cells [.p (prog p)] 24,rm x.2]::S) (fun x=>p.length-x.1) (0,20000) (.start (by omega) (by omega)) ?_ ?_ ?_
 .simp
 .simp[rm]
 rintro⟨q,m⟩ hI
 by_cases hlt:q<p.length
 .rcases Int.lt_or_le m 0 with Cb|hnn
  .obtain rfl:=hI.neg Cb
   simp[hlt,rm,Int.not_le.2 Cb,prog,great]
  have Nh:=hI.next hlt hnn (zcP _)
  have Fs:=zZy na (List.getElem_mem hlt)
  generalize hx:p[q]=x at Nh Fs ⊢
  have c1:=zA1 x.name.size m (by omega) hI.2.2.1
  have c2:=zCi x.fields (fun x _=>zYJ x) _ (by omega) c1.2
  have c3:=zPG x.result _ (by omega) c2.2
  have c4:=zNy x.body _ c3.1 c3.2
  simp[hlt,rm,hnn,hx,prog,It.enc];refine cq (zIN _ _ 0 1 m (by simp[zBV,rm]) (by omega) hI.2.2.1) ?_
  simp[rm];refine cq (zYL x.fields _ 0 1 (zD x.name.size m) (by simp[zBV,rm]) (by omega) c1.2) ?_
  simp[rm];refine cq (zYK x.result _ 0 1 _ (by simp[zBV,rm]) (by omega) c2.2) ?_
  simp[rm];refine cq (stC x.body _ 0 1 _ (by simp[zBV,rm]) (by omega) c3.2) ?_
  simp[rm];refine cq (zaZ x.ret _ 0 1 _ (by simp[zBV,rm]) (by omega) c4.2) ?_
  simp[rm];exact⟨q+1,_,Nh,by omega,zB hlt,rfl⟩
 obtain rfl:=hI.done hlt
 simp[hlt,rm,prog,great]
end Go.Proofs.YtdflkegnmmkkoaaGreatDoor
namespace Go.Proofs.YtdflkegnmmkkoaaGreatDoor
open Go.RowKit _root_.Go.Proofs.Tryz
variable{n:Int}
inductive TySm:Ty->Prop
 |mk (t:Ty):t.name.size<=20000->t.args.length<=20000->(∀x∈t.args,TySm x)->TySm t
def NmSm(l:List BA):Prop:=l.length<=20000/\∀s∈l,s.size<=20000
def PlSm(x:Pl):Prop:=x.name.size<=20000/\NmSm x.path
inductive ExSm:Ex->Prop
 |mk (e:Ex):e.name.size<=20000->e.u2.size<=20000->PlSm e.place->e.args.length<=20000->(∀x∈e.args,ExSm x)->ExSm e
def zab(l:List Ex):Prop:=l.length<=20000/\∀x∈l,ExSm x
inductive StSm:St->Prop
 |mk (s:St):s.name.size<=20000->s.u2.size<=20000->NmSm s.names->TySm s.type->PlSm s.place->zab s.u3->s.body.length<=20000->s.els.length<=20000->s.arms.length<=20000->
  (∀x∈s.body,StSm x)->(∀x∈s.els,StSm x)->(∀a∈s.arms,a.variant.size<=20000/\a.name.size<=20000/\a.body.length<=20000)->(∀a∈s.arms,∀x∈a.body,StSm x)->StSm s
def zac(l:List St):Prop:=l.length<=20000/\∀x∈l,StSm x
def FiSm(x:Fi):Prop:=x.name.size<=20000/\TySm x.type
def zPH(l:List Fi):Prop:=l.length<=20000/\∀x∈l,FiSm x
def ItSm(x:It):Prop:=x.name.size<=20000/\zPH x.fields/\TySm x.result/\zac x.body/\ExSm x.ret
def PrSm(p:List It):Prop:=p.length<=20000/\∀x∈p,ItSm x
theorem zCq{α:Type}{g:α->Int->Int}:∀(l:List α) (n:Int),(∀x∈l,∀m,-6<=m->m<=100000-> -6<=g x m/\(g x m<=m-5\/g x m<0))-> -6<=n->n<=100000->0<=zE g l n->(5*(l.length:Int)<=n)/\zE g l n<=n/\∀x∈l,∃m,0<=m/\m<=n/\0<=g x m
 | [],n,h,h1,h2,h3=>by
  unfold zE at h3
  exact⟨by simpa using h3,by simp[zE],fun x hx=>by simp at hx⟩
 |x::l,n,h,h1,h2,h3=>by
  unfold zE at h3;split at h3
  .omega
  rename_i hn
  have hx:=h x (by simp) n h1 h2
  have ce:0<=g x n:=by
   rcases Int.lt_or_le (g x n) 0 with hg|hg
   .rw[zEp hg]at h3;omega
   exact hg
  obtain⟨i1,i2,i3⟩:=zCq l (g x n) (fun y hy=>h y (by simp[hy])) hx.1 (by omega) h3
  refine⟨by simp only[List.length_cons];omega,by unfold zE;rw[if_neg hn];omega,fun y hy=>?_⟩
  rcases List.mem_cons.1 hy with rfl|hy
  .exact⟨n,by omega,by omega,ce⟩
  obtain⟨m,m1,m2,m3⟩:=i3 y hy
  exact⟨m,m1,by omega,m3⟩
theorem zu{α:Type}{g:α->Int->Int}{l:List α}(h:0<=zE g l n):0<=n:=by
 rcases Int.lt_or_le n 0 with hn|hn
 .rw[zEp hn]at h;omega
 exact hn
theorem zC5{α:Type}{g:α->Int->Int}:∀(l:List α) (n:Int),(∀x∈l,∀m,-6<=m->m<=100000-> -6<=g x m/\(g x m<=m-5\/g x m<0))-> -6<=n->n<=100000-> -6<=zE g l n/\(zE g l n<=n\/zE g l n<0)
 | [],n,h,h1,h2=>⟨h1,.inl (Int.le_refl _)⟩
 |x::l,n,h,h1,h2=>by
  unfold zE;split
  .omega
  have hx:=h x (by simp) n h1 h2
  have:=zC5 l (g x n) (fun y hy=>h y (by simp[hy])) hx.1 (by omega)
  omega
theorem zL{k:Nat}(h:0<=zD k n):(k:Int)+5<=n/\zD k n=n-5-k:=by
 unfold zD at h ⊢;split at h
 .omega
 split at h
 .omega
 rename_i h1 h2;rw[if_neg h1,if_neg h2];omega
theorem zc(k:Nat)(n:Int)(h: -10<=n): -1<=zD k n/\(zD k n<=n-5\/zD k n<0):=by
 unfold zD;split<;>(try split)<;>omega
def Cst(g:Int->Int):Prop:=∀m,-10<=m->m<=100000-> -6<=g m/\(g m<=m-5\/g m<0)
theorem zIO:∀(t:Ty),Cst t.room:=by
 refine Ty.ind fun t ih n h1 h2=>?_
 rw[zB3]
 have a:=zc t.name.size n h1
 have:=zC5 t.args _ (fun x hx m a b=>ih x hx m (by omega) b) (by omega:(-6:Int)<=zD t.name.size n) (by omega)
 omega
theorem zHb(l:List BA)(n:Int)(h1: -1<=n)(h2:n<=100000): -6<=z6 l n/\(z6 l n<=n\/z6 l n<0):=by
 have:=zC5 l (n-5) (g:=fun s m=>zD s.size m) (fun x hx m a b=>by have:=zc x.size m (by omega);omega) (by omega) (by omega)
 unfold z6;omega
theorem zR5(x:Pl):Cst x.room:=fun n h1 h2=>by
 have a:=zc x.name.size n h1
 have:=zHb x.path (zD x.name.size n) a.1 (by omega)
 unfold Pl.room;omega
theorem zN0:∀(e:Ex),Cst e.room:=by
 refine Ex.ind fun e ih n h1 h2=>?_
 rw[zCh]
 have a:=zc e.name.size n h1
 have b:=zc e.u2.size (zD e.name.size n) (by omega)
 have c:=zR5 e.place _ (by omega:(-10:Int)<=zD e.u2.size (zD e.name.size n)) (by omega)
 have:=zC5 e.args _ (fun x hx m a b=>ih x hx m (by omega) b) c.1 (by omega)
 omega
theorem zYM:∀(t:Ty) (n:Int),-10<=n->n<=20000->0<=t.room n->TySm t:=by
 refine Ty.ind fun t ih n h1 h2 h=>?_
 rw[zB3]at h
 have hp:=zu h
 have a:=zL hp
 have f:=zCq t.args _ (fun x hx m a b=>zIO x m (by omega) b) (by omega) (by omega) h
 exact .mk t (by omega) (by omega) fun x hx=>by
  obtain⟨m,m1,m2,m3⟩:=f.2.2 x hx
  exact ih x hx m (by omega) (by omega) m3
theorem zad{l:List BA}(h1: -1<=n)(h2:n<=20000)(h:0<=z6 l n):NmSm l:=by
 have f:=zCq l (n-5) (g:=fun s m=>zD s.size m) (fun x hx m a b=>by have:=zc x.size m (by omega);omega) (by omega) (by omega) h
 exact⟨by omega,fun s hs=>by
  obtain⟨m,m1,m2,m3⟩:=f.2.2 s hs
  have:=zL m3
  omega⟩
theorem zEq{l:List BA}(h:0<=z6 l n):0<=n:=by have:=zu h;omega
theorem zae{x:Pl}(h2:n<=20000)(h:0<=x.room n):PlSm x:=by
 have hp:=zEq h
 have a:=zL hp
 exact⟨by omega,zad (by omega) (by omega) h⟩
theorem zJd{x:Pl}(h:0<=x.room n):0<=n:=by
 have a:=zL (zEq h)
 omega
theorem zaf:∀(e:Ex) (n:Int),-10<=n->n<=20000->0<=e.room n->ExSm e:=by
 refine Ex.ind fun e ih n h1 h2 h=>?_
 rw[zCh]at h
 have hp:=zu h
 have hq:=zJd hp
 have b:=zL hq
 have a:=zL (by omega:0<=zD e.name.size n)
 have c:=zR5 e.place _ (by omega:(-10:Int)<=zD e.u2.size (zD e.name.size n)) (by omega)
 have f:=zCq e.args _ (fun x hx m a b=>zN0 x m (by omega) b) c.1 (by omega) h
 exact .mk e (by omega) (by omega) (zae (by omega) hp) (by omega) fun x hx=>by
  obtain⟨m,m1,m2,m3⟩:=f.2.2 x hx
  exact ih x hx m (by omega) (by omega) m3
theorem zag{l:List Ex}(h1: -6<=n)(h2:n<=20000)(h:0<=zE Ex.room l n):zab l:=by
 have f:=zCq l n (fun x hx m a b=>zN0 x m (by omega) b) h1 (by omega) h
 exact⟨by omega,fun x hx=>by
  obtain⟨m,m1,m2,m3⟩:=f.2.2 x hx
  exact zaf x m (by omega) (by omega) m3⟩
theorem zR6(s:St)(n:Int)(h1: -10<=n)(h2:n<=100000): -6<=s.room1 n/\(s.room1 n<=n-5\/s.room1 n<0):=by
 have a:=zc s.name.size n h1
 have b:=zc s.u2.size (zD s.name.size n) (by omega)
 have c:=zHb s.names (zD s.u2.size (zD s.name.size n)) (by omega) (by omega)
 have d:=zIO s.type _ (by omega:(-10:Int)<=z6 s.names (zD s.u2.size (zD s.name.size n))) (by omega)
 have e:=zR5 s.place _ (by omega:(-10:Int)<=s.type.room (z6 s.names (zD s.u2.size (zD s.name.size n)))) (by omega)
 unfold St.room1;omega
theorem zWs(l:List Ex)(n:Int)(h1: -6<=n)(h2:n<=100000): -6<=zE Ex.room l n/\(zE Ex.room l n<=n\/zE Ex.room l n<0):=zC5 l n (fun x _ m a b=>zN0 x m (by omega) b) h1 h2
theorem zJe:∀(s:St),Cst s.room:=by
 refine St.ind fun s Sb Lb Jd n h1 h2=>?_
 rw[zDL]
 have a:=zR6 s n h1 h2
 have b:=zWs s.u3 (s.room1 n) a.1 (by omega)
 split
 .omega
 have c:=zC5 s.body _ (fun x hx m a b=>Sb x hx m (by omega) b) b.1 (by omega)
 have d:=zC5 s.els _ (fun x hx m a b=>Lb x hx m (by omega) b) c.1 (by omega)
 have e:=zC5 (g:=Ar.room) s.arms _ (fun x hx m a b=>by
  rw[zCK]
  have e:=zc x.variant.size m (by omega)
  have f:=zc x.name.size (zD x.variant.size m) (by omega)
  have:=zC5 x.body _ (fun y hy m a b=>Jd x hx y hy m (by omega) b) (by omega:(-6:Int)<=zD x.name.size (zD x.variant.size m)) (by omega)
  omega) d.1 (by omega)
 omega
theorem zLf(l:List St)(n:Int)(h1: -6<=n)(h2:n<=100000): -6<=zE St.room l n/\(zE St.room l n<=n\/zE St.room l n<0):=zC5 l n (fun x _ m a b=>zJe x m (by omega) b) h1 h2
theorem zah(x:Ar)(m:Int)(a: -6<=m)(b:m<=100000): -6<=x.room m/\(x.room m<=m-5\/x.room m<0):=by
 rw[zCK]
 have e:=zc x.variant.size m (by omega)
 have f:=zc x.name.size (zD x.variant.size m) (by omega)
 have:=zLf x.body _ (by omega:(-6:Int)<=zD x.name.size (zD x.variant.size m)) (by omega)
 omega
theorem zcQ:∀(s:St) (n:Int),-10<=n->n<=20000->0<=s.room n->StSm s:=by
 refine St.ind fun s Sb Lb Jd n h1 h2 h=>?_
 rw[zDL]at h;split at h
 .omega
 rename_i hx
 have a:=zR6 s n h1 (by omega)
 have hx:0<=zE Ex.room s.u3 (s.room1 n):=by omega
 have h0:=zu hx
 have hp:=zJd h0
 have b1:=zWs s.u3 (s.room1 n) a.1 (by omega)
 have c1:=zLf s.body _ b1.1 (by omega)
 have d1:=zLf s.els _ c1.1 (by omega)
 have fA:=zCq s.arms _ (fun x _ m a b=>zah x m a b) d1.1 (by omega) h
 have hE:=zu h
 have fE:=zCq s.els _ (fun x _ m a b=>zJe x m (by omega) b) c1.1 (by omega) hE
 have hB:=zu hE
 have fB:=zCq s.body _ (fun x _ m a b=>zJe x m (by omega) b) b1.1 (by omega) hB
 have n1:=zc s.name.size n h1
 have n2:=zc s.u2.size (zD s.name.size n) (by omega)
 have n3:=zHb s.names (zD s.u2.size (zD s.name.size n)) (by omega) (by omega)
 have n4:=zIO s.type _ (by omega:(-10:Int)<=z6 s.names (zD s.u2.size (zD s.name.size n))) (by omega)
 have tp:0<=z6 s.names (zD s.u2.size (zD s.name.size n)):=by
  have:=hp
  rw[zB3]at this
  have:=zL (zu this)
  omega
 have np:=zEq tp
 have k2:=zL np
 have k1:=zL (by omega:0<=zD s.name.size n)
 refine .mk s (by omega) (by omega) (zad (by omega) (by omega) tp) (zYM _ _ (by omega) (by omega) hp) (zae (by omega) h0) (zag a.1 (by omega) hx) (by omega) (by omega) (by omega) (fun x hx=>?_) (fun x hx=>?_) (fun x hx=>?_) (fun x hx y hy=>?_)
 .obtain⟨m,m1,m2,m3⟩:=fB.2.2 x hx
  exact Sb x hx m (by omega) (by omega) m3
 .obtain⟨m,m1,m2,m3⟩:=fE.2.2 x hx
  exact Lb x hx m (by omega) (by omega) m3
 .obtain⟨m,m1,m2,m3⟩:=fA.2.2 x hx
  rw[zCK]at m3
  have k2:=zL (zu m3)
  have k1:=zL (by omega:0<=zD x.variant.size m)
  have f:=zCq x.body _ (fun x _ m a b=>zJe x m (by omega) b) (by omega) (by omega) m3
  exact⟨by omega,by omega,by omega⟩
 obtain⟨m,m1,m2,m3⟩:=fA.2.2 x hx
 rw[zCK]at m3
 have k2:=zL (zu m3)
 have k1:=zL (by omega:0<=zD x.variant.size m)
 have f:=zCq x.body _ (fun x _ m a b=>zJe x m (by omega) b) (by omega) (by omega) m3
 obtain⟨i,i1,i2,i3⟩:=f.2.2 y hy
 exact Jd x hx y hy i (by omega) (by omega) i3
theorem zai{l:List St}(h1: -6<=n)(h2:n<=20000)(h:0<=zE St.room l n):zac l:=by
 have f:=zCq l n (fun x hx m a b=>zJe x m (by omega) b) h1 (by omega) h
 exact⟨by omega,fun x hx=>by
  obtain⟨m,m1,m2,m3⟩:=f.2.2 x hx
  exact zcQ x m (by omega) (by omega) m3⟩
theorem zR7(x:Fi)(n:Int)(h1: -6<=n)(h2:n<=100000): -6<=x.room n/\(x.room n<=n-5\/x.room n<0):=by
 have a:=zc x.name.size n (by omega)
 have b:=zIO x.type (zD x.name.size n) (by omega) (by omega)
 unfold Fi.room;omega
theorem zaj{l:List Fi}(h1: -6<=n)(h2:n<=20000)(h:0<=zE Fi.room l n):zPH l:=by
 have f:=zCq l n (fun x hx m a b=>zR7 x m a b) h1 (by omega) h
 exact⟨by omega,fun x hx=>by
  obtain⟨m,m1,m2,m3⟩:=f.2.2 x hx
  have e:=zc x.name.size m (by omega)
  refine⟨?_,zYM _ _ (by omega) (by omega) m3⟩
  unfold Fi.room at m3;rw[zB3]at m3
  have:=zL (zu m3)
  have:=zL (by omega:0<=zD x.name.size m)
  omega⟩
theorem zak(x:It)(n:Int)(h1: -6<=n)(h2:n<=100000): -6<=x.room n/\(x.room n<=n-5\/x.room n<0):=by
 have a:=zc x.name.size n (by omega)
 have b:=zC5 x.fields _ (fun x _ m a b=>zR7 x m a b) (by omega:(-6:Int)<=zD x.name.size n) (by omega)
 have c:=zIO x.result _ (by omega:(-10:Int)<=zE Fi.room x.fields (zD x.name.size n)) (by omega)
 have d:=zLf x.body _ c.1 (by omega)
 have e:=zN0 x.ret _ (by omega:(-10:Int)<=zE St.room x.body (x.result.room (zE Fi.room x.fields (zD x.name.size n)))) (by omega)
 unfold It.room;omega
theorem zVB{p:List It}(h:great p=false):PrSm p:=by
 have h:0<=zE It.room p 20000:=by simpa [great]using h
 have f:=zCq p 20000 (fun x hx m a b=>zak x m a b) (by omega) (by omega) h
 refine⟨by omega,fun x hx=>?_⟩
 obtain⟨n,h1,h2,h3⟩:=f.2.2 x hx
 have a:=zc x.name.size n (by omega)
 have b:=zC5 x.fields _ (fun x _ m a b=>zR7 x m a b) (by omega:(-6:Int)<=zD x.name.size n) (by omega)
 have c:=zIO x.result _ (by omega:(-10:Int)<=zE Fi.room x.fields (zD x.name.size n)) (by omega)
 have d:=zLf x.body _ c.1 (by omega)
 have e3:0<=zE St.room x.body (x.result.room (zE Fi.room x.fields (zD x.name.size n))):=by
  have:=h3
  unfold It.room at this;rw[zCh]at this
  have k2:=zL (zJd (zu this))
  have k1:=zL (by omega:0<=zD x.ret.name.size (zE St.room x.body (x.result.room (zE Fi.room x.fields (zD x.name.size n)))))
  omega
 have e2:=zu e3
 have e1:0<=zE Fi.room x.fields (zD x.name.size n):=by
  have:=e2
  rw[zB3]at this
  have:=zL (zu this)
  omega
 have k:=zL (zu e1)
 exact⟨by omega,zaj (by omega) (by omega) e1,zYM _ _ (by omega) (by omega) e2,zai c.1 (by omega) e3,zaf _ _ (by omega) (by omega) h3⟩
end Go.Proofs.YtdflkegnmmkkoaaGreatDoor
