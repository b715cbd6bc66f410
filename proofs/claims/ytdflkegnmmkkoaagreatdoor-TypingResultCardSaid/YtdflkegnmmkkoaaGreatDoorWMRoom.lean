/- A part of the proof. -/
import Derived.Test.YtdflkegnmmkkoaaGreatDoorWMSimp
import Derived.Test.YtdflkegnmmkkoaaGreatDoorWMLt
set_option linter.unusedVariables false
set_option linter.unusedSimpArgs false
set_option maxRecDepth 100000
set_option maxHeartbeats 32000000
namespace Go.Proofs.YtdflkegnmmkkoaaGreatDoor
open Go.RowKit _root_.Go.Proofs.Tryz
variable{n:Int}{q:Nat}
def zD(k:Nat)(n:Int):Int:=if n<5 then-1 else if(k:Int)>n-5 then-1 else n-5-k
theorem zMT(k:Nat)(n:Int)(h: -10<=n): -1<=zD k n/\zD k n<=n+9/\(0<=n->zD k n<=n):=by unfold zD;split<;>(try split)<;>omega
mutual
def Ty.room:Ty->Int->Int
 | .mk _ s l,n=>Ty.roomAll l (zD s.size n)
def Ty.roomAll:List Ty->Int->Int
 | [],n=>n
 |t::l,n=>if n<0 then n else Ty.roomAll l (t.room n)
end
theorem zXX(t:Ty)(n:Int):t.room n=Ty.roomAll t.args (zD t.name.size n):=by cases t;rfl
def Ty.great(t:Ty):Bool:=decide (t.room 20000<0)
def zE{α:Type}(g:α->Int->Int):List α->Int->Int
 | [],n=>n
 |x::l,n=>if n<0 then n else zE g l (g x n)
theorem zEb{α:Type}{g:α->Int->Int}{l:List α}(h:n<0):zE g l n=n:=by cases l<;>simp[zE,h]
theorem zJ4{α:Type}{g:α->Int->Int}{l:List α}(hq:q<l.length)(h:0<=n):zE g (l.drop q) n=zE g (l.drop (q+1)) (g l[q] n):=by
 rw[List.drop_eq_getElem_cons hq,zE,if_neg (by omega)]
theorem zJ5{α:Type}{g:α->Int->Int}{l:List α}(hq:l.length<=q):zE g (l.drop q) n=n:=by rw[List.drop_eq_nil_of_le hq];rfl
def zy(l:List BA)(n:Int):Int:=zE (fun s m=>zD s.size m) l (n-5)
def Pl.room(p:Pl)(n:Int):Int:=zy p.path (zD p.name.size n)
mutual
def Ex.room:Ex->Int->Int
 | .mk _ _ nm sc pl al _,n=>Ex.roomAll al (pl.room (zD sc.size (zD nm.size n)))
def Ex.roomAll:List Ex->Int->Int
 | [],n=>n
 |t::l,n=>if n<0 then n else Ex.roomAll l (t.room n)
end
theorem zRk(l:List Ex):∀n,Ex.roomAll l n=zE Ex.room l n:=by
 induction l with
 |nil=>intro n;rfl
 |cons t l ih=>intro n;simp[Ex.roomAll,zE,ih]
theorem zDD(e:Ex)(n:Int):e.room n=zE Ex.room e.args (e.place.room (zD e.u2.size (zD e.name.size n))):=by cases e;simp only[Ex.room,zRk];rfl
mutual
def St.room:St->Int->Int
 | .mk _ nm sc nms ty _ pl exs body els arms _,n=>
  if zE Ex.room exs (pl.room (ty.room (zy nms (zD sc.size (zD nm.size n)))))<0 then zE Ex.room exs (pl.room (ty.room (zy nms (zD sc.size (zD nm.size n)))))
  else Ar.roomAll arms (St.roomAll els (St.roomAll body (zE Ex.room exs (pl.room (ty.room (zy nms (zD sc.size (zD nm.size n))))))))
def St.roomAll:List St->Int->Int
 | [],n=>n
 |t::l,n=>if n<0 then n else St.roomAll l (t.room n)
def Ar.roomAll:List (ArOf St)->Int->Int
 | [],n=>n
 |⟨v,nm,b⟩::l,n=>if n<0 then n else Ar.roomAll l (St.roomAll b (zD nm.size (zD v.size n)))
end
def Ar.room(a:Ar)(n:Int):Int:=St.roomAll a.body (zD a.name.size (zD a.variant.size n))
theorem zLP(l:List St):∀n,St.roomAll l n=zE St.room l n:=by
 induction l with
 |nil=>intro n;rfl
 |cons t l ih=>intro n;simp[St.roomAll,zE,ih]
theorem zRl(l:List Ar):∀n,Ar.roomAll l n=zE Ar.room l n:=by
 induction l with
 |nil=>intro n;rfl
 |cons t l ih=>intro n;obtain⟨v,nm,b⟩:=t;simp[Ar.roomAll,zE,Ar.room,ih]
def St.room1(s:St)(n:Int):Int:=s.place.room (s.type.room (zy s.names (zD s.u2.size (zD s.name.size n))))
theorem zEc(s:St)(n:Int):s.room n=if zE Ex.room s.u3 (s.room1 n)<0 then zE Ex.room s.u3 (s.room1 n)else
  zE Ar.room s.arms (zE St.room s.els (zE St.room s.body (zE Ex.room s.u3 (s.room1 n)))):=by
 cases s;simp only[St.room,zLP,zRl];rfl
def Fi.room(x:Fi)(n:Int):Int:=x.type.room (zD x.name.size n)
theorem zCm(a:Ar)(n:Int):a.room n=zE St.room a.body (zD a.name.size (zD a.variant.size n)):=zLP _ _
def It.room(x:It)(n:Int):Int:=x.ret.room (zE St.room x.body (x.result.room (zE Fi.room x.fields (zD x.name.size n))))
def great(p:List It):Bool:=decide (zE It.room p 20000<0)
attribute [local simp] List.replicate List.range List.range.loop
def rm(n:Int):AObj:=.cells [I n] 68
theorem zMU{k:Nat}{n b:Int}(h:n<=b)(hb:0<=b):zD k n<=b:=by unfold zD;split<;>(try split)<;>omega
theorem wr(h: -1000000<=n/\n<=1000000:=by omega):IntKind.i64.wrap n=n:=IntWalk.i64_in _ (by omega)
theorem zbd(S:ASt)(d i:Nat)(n:Int)(s:BA)(hS:get2 S d i=some (rm n))(h1: -10<=n)(h2:n<=100000):ADet Tryz.prog 27 [.ptr d i 0,Sg s] S .un (set2 S d i (rm (zD s.size n))):=by
 unfold rm at*;refine ADet.intro mixed call27 func27 rfl ?_
 have w1:IntKind.i64.wrap (n-5)=n-5:=wr
 by_cases h5:n<5
 .simp[hS,h5,ntmps27,zD]
 by_cases h6:(s.size:Int)>n-5
 .simp[hS,h5,h6,w1,ntmps27,zD]
 have w2:IntKind.i64.wrap (n-5-s.size)=n-5-s.size:=wr
 simp[hS,h5,h6,w1,w2,ntmps27,zD]
def RmC(F:Nat)(lo:Int)(v:AV)(g:Int->Int):Prop:=∀(S:ASt) (d i:Nat) (n:Int),get2 S d i=some (rm n)->lo<=n->n<=100000->ADet Tryz.prog F [.ptr d i 0,v] S .un (set2 S d i (rm (g n)))
theorem zH1(s:BA):RmC 27 (-10) (Sg s) (zD s.size):=fun S d i n h h1 h2=>zbd S d i n s h h1 h2
def Bd(lo:Int)(g:Int->Int):Prop:=∀n,lo<=n->n<=100000-> -6<=g n/\g n<=100000
theorem zAz(k:Nat)(n:Int)(h: -10<=n)(h2:n<=100000): -1<=zD k n/\zD k n<=100000:=⟨(zMT k n h).1,zMU h2 (by omega)⟩
theorem zCY{α:Type}{g:α->Int->Int}:∀(l:List α),(∀x∈l,Bd (-6) (g x))->Bd (-6) (zE g l)
 | [],_,n,h1,h2=>⟨h1,h2⟩
 |x::l,h,n,h1,h2=>by
  unfold zE;split
  .exact⟨h1,h2⟩
  have:=h x (by simp) n h1 h2
  exact zCY l (fun y hy=>h y (by simp[hy])) _ this.1 this.2
theorem zRm(l:List Ty):∀n,Ty.roomAll l n=zE Ty.room l n:=by
 induction l with
 |nil=>intro n;rfl
 |cons t l ih=>intro n;simp[Ty.roomAll,zE,ih]
theorem zBw(t:Ty)(n:Int):t.room n=zE Ty.room t.args (zD t.name.size n):=by rw[zXX,zRm]
theorem zO2:∀(t:Ty),Bd (-10) t.room:=by
 refine Ty.ind fun t ih n h1 h2=>?_
 rw[zBw]
 have:=zAz t.name.size n h1 h2
 exact zCY _ (fun x hx m a b=>ih x hx m (by omega) b) _ (by omega) this.2
theorem zJ6(l:List BA):Bd (-1) (zy l):=fun n h1 h2=>by
 refine zCY l (fun s _ m a b=>?_) _ (by omega) (by omega)
 have:=zAz s.size m (by omega) b
 omega
theorem zHD(x:Pl):Bd (-10) x.room:=fun n h1 h2=>by
 have:=zAz x.name.size n h1 h2
 exact zJ6 _ _ this.1 this.2
theorem zRn:∀(e:Ex),Bd (-10) e.room:=by
 refine Ex.ind fun e ih n h1 h2=>?_
 rw[zDD]
 have a:=zAz e.name.size n h1 h2
 have b:=zAz e.u2.size _ (by omega) a.2
 have c:=zHD e.place _ (by omega) b.2
 exact zCY _ (fun x hx m a b=>ih x hx m (by omega) b) _ c.1 c.2
theorem zZo(s:St)(n:Int)(h1: -10<=n)(h2:n<=100000): -6<=s.room1 n/\s.room1 n<=100000:=by
 have a:=zAz s.name.size n h1 h2
 have b:=zAz s.u2.size _ (by omega) a.2
 have c:=zJ6 s.names _ b.1 b.2
 have d:=zO2 s.type _ (by omega) c.2
 exact zHD s.place _ (by omega) d.2
theorem zXY:∀(s:St),Bd (-10) s.room:=by
 refine St.ind fun s Ub Mb Md n h1 h2=>?_
 rw[zEc]
 have a:=zZo s n h1 h2
 have b:=zCY s.u3 (fun x hx m a b=>zRn x m (by omega) b) _ a.1 a.2
 split
 .exact b
 have c:=zCY s.body (fun x hx m a b=>Ub x hx m (by omega) b) _ b.1 b.2
 have d:=zCY s.els (fun x hx m a b=>Mb x hx m (by omega) b) _ c.1 c.2
 refine zCY s.arms (fun x hx m a b=>?_) _ d.1 d.2
 rw[zCm]
 have e:=zAz x.variant.size m (by omega) b
 have f:=zAz x.name.size _ (by omega) e.2
 exact zCY x.body (fun y hy m a b=>Md x hx y hy m (by omega) b) _ (by omega) f.2
theorem zbe(x:Ar):Bd (-6) x.room:=fun n h1 h2=>by
 rw[zCm]
 have e:=zAz x.variant.size n (by omega) h2
 have f:=zAz x.name.size _ (by omega) e.2
 exact zCY x.body (fun y hy m a b=>zXY y m (by omega) b) _ (by omega) f.2
theorem zXZ(x:Fi):Bd (-6) x.room:=fun n h1 h2=>by
 have e:=zAz x.name.size n (by omega) h2
 exact zO2 x.type _ (by omega) e.2
def Rnd{α:Type}(g:α->Int->Int)(l:List α)(wi:Int)(x:Nat × Int):Prop:=x.1<=l.length/\ -6<=x.2/\x.2<=100000/\zE g (l.drop x.1) x.2=wi
theorem Rnd.next{α:Type}{g:α->Int->Int}{l:List α}{wi:Int}{m:Int}(h:Rnd g l wi (q,m))(hq:q<l.length)(hm:0<=m)(hb:Bd (-6) (g l[q])):Rnd g l wi (q+1,g l[q] m):=by
 obtain⟨_,h1,h2,h3⟩:=h
 have:=hb m h1 h2
 exact⟨hq,this.1,this.2,by rw[<-h3];exact(zJ4 hq hm).symm⟩
theorem Rnd.neg{α:Type}{g:α->Int->Int}{l:List α}{wi:Int}{m:Int}(h:Rnd g l wi (q,m))(hm:m<0):m=wi:=by rw[<-h.2.2.2];exact(zEb hm).symm
theorem Rnd.done{α:Type}{g:α->Int->Int}{l:List α}{wi:Int}{m:Int}(h:Rnd g l wi (q,m))(hq:¬q<l.length):m=wi:=by rw[<-h.2.2.2];exact(zJ5 (by omega)).symm
theorem Rnd.start{α:Type}{g:α->Int->Int}{l:List α}(h1: -6<=n)(h2:n<=100000):Rnd g l (zE g l n) (0,n):=⟨Nat.zero_le _,h1,h2,rfl⟩
theorem zXa:∀(t:Ty),RmC 29 (-10) (.agg [U t.kind,Sg t.name,.p (.sl 3 (t.args.map Ty.enc))]) t.room:=by
 refine Ty.ind fun t ih S d i n hS h1 h2=>?_
 refine ADet.bound (cs:=[.p (pU t.kind),.p (pS t.name),.p (.sl 3 (t.args.map Ty.enc))]) call29 1 2 rfl rfl fun ca=>?_
 simp only[List.length_map]at ca;refine ADet.intro mixed call29 func29 rfl ?_
 have vf:=zAz t.name.size n h1 h2
 simp[hS,ntmps29];refine cq (zH1 _ _ _ _ _ (by simpa [zAM]using hS) h1 h2) ?_
 simp;refine zH (Rnd Ty.room t.args (t.room n)) (fun x=>([.ptr (d+1) i 0,.any,.any,.ptr 0 0 0,I x.1]++List.replicate 25 .any)) (fun x=>[.cells [U t.kind,Sg t.name,.p (.sl 3 (t.args.map Ty.enc))] 36]::set2 S d i (rm x.2)) (fun x=>t.args.length-x.1) (0,zD t.name.size n) (by rw[zBw];exact .start (by omega) vf.2) ?_ ?_ ?_
 .simp
 .simp
 rintro⟨q,m⟩ hI
 by_cases hlt:q<t.args.length
 .rcases Int.lt_or_le m 0 with Eb|hnn
  .obtain rfl:=hI.neg Eb
   simp[hlt,hS,rm,Int.not_le.2 Eb]
  simp[hlt,hS,rm,hnn,ze]
  refine cq (ih _ (List.getElem_mem hlt) _ _ _ m (by simp[zAM,zu,hS,rm]) (by have:=hI.2.1;omega) hI.2.2.1) ?_
  simp[rm];exact⟨q+1,t.args[q].room m,hI.next hlt hnn (fun m a b=>zO2 _ m (by omega) b),by omega,zA hlt,rfl⟩
 obtain rfl:=hI.done hlt
 simp[hlt,hS,rm]
theorem zV9(l:List BA):RmC 56 (-1) (.p (strs l)) (zy l):=by
 intro S d i n hS h1 h2;unfold strs;refine ADet.boundL call56 1 rfl fun ca=>?_
 simp only[List.length_map]at ca;refine ADet.intro mixed call56 func56 rfl ?_
 have w1:IntKind.i64.wrap (n-5)=n-5:=wr
 simp[hS,rm,w1,ntmps56];refine zH (Rnd (fun s=>zD s.size) l (zy l n)) (fun x=>([.ptr (d+1) i 0,.p (.sl 1 (l.map fun s=>[pS s])),.any,.any,I x.1]++List.replicate 27 .any)) (fun x=>[]::set2 S d i (rm x.2)) (fun x=>l.length-x.1) (0,n-5) (.start (by omega) (by omega)) ?_ ?_ ?_
 .simp
 .simp[rm]
 rintro⟨q,m⟩ hI
 by_cases hlt:q<l.length
 .rcases Int.lt_or_le m 0 with Eb|hnn
  .obtain rfl:=hI.neg Eb
   simp[hlt,hS,rm,Int.not_le.2 Eb]
  simp[hlt,hS,rm,hnn]
  refine cq (zH1 _ _ _ _ m (by simp[zAM,zu,hS,rm]) (by have:=hI.2.1;omega) hI.2.2.1) ?_
  simp[rm];exact⟨q+1,zD l[q].size m,hI.next hlt hnn (fun m a b=>by have:=zAz l[q].size m (by omega) b;omega),by omega,zA hlt,rfl⟩
 obtain rfl:=hI.done hlt
 simp[hlt,hS,rm]
theorem zWA(x:Pl):RmC 57 (-10) (.agg [Sg x.name,.p (strs x.path)]) x.room:=by
 intro S d i n hS h1 h2;refine ADet.intro mixed call57 func57 rfl ?_
 have vf:=zAz x.name.size n h1 h2
 simp[hS,ntmps57];refine cq (zH1 _ _ _ _ _ (by simpa [zAM]using hS) h1 h2) ?_
 simp;refine cq (zV9 _ _ _ _ (zD x.name.size n) (by simp[zAM,zu,hS]) vf.1 vf.2) ?_
 simp[Pl.room]
theorem zZp:∀(e:Ex),RmC 31 (-10) (.agg [U e.op,I e.int,Sg e.name,Sg e.u2,Sg e.place.name,.p (strs e.place.path),.p (.sl 8 (e.args.map Ex.enc)),I e.pos]) e.room:=by
 refine Ex.ind fun e ih S d i n hS h1 h2=>?_
 refine ADet.bound (cs:=[U e.op,I e.int,Sg e.name,Sg e.u2,Sg e.place.name,.p (strs e.place.path),.p (.sl 8 (e.args.map Ex.enc)),I e.pos]) call31 1 6 rfl rfl fun ca=>?_
 simp only[List.length_map]at ca;refine ADet.intro mixed call31 func31 rfl ?_
 have b1:=zAz e.name.size n h1 h2
 have b2:=zAz e.u2.size _ (by omega) b1.2
 have b3:=zHD e.place _ (by omega) b2.2
 simp[hS,ntmps31];refine cq (zH1 _ _ _ _ _ (by simpa [zAM]using hS) h1 h2) ?_
 simp;refine cq (zH1 _ _ _ _ (zD e.name.size n) (by simp[zAM,zu,hS]) (by omega) b1.2) ?_
 simp;refine cq (zWA e.place _ _ _ _ (by simp[zAM,zu,hS]) (by omega) b2.2) ?_
 simp;refine zH (Rnd Ex.room e.args (e.room n)) (fun x=>([.ptr (d+1) i 0,.any,.any,.ptr 0 0 0,I x.1]++List.replicate 33 .any)) (fun x=>[.cells [U e.op,I e.int,Sg e.name,Sg e.u2,Sg e.place.name,.p (strs e.place.path),.p (.sl 8 (e.args.map Ex.enc)),I e.pos] 43]::set2 S d i (rm x.2)) (fun x=>e.args.length-x.1) (0,e.place.room (zD e.u2.size (zD e.name.size n))) (by rw[zDD];exact .start b3.1 b3.2) ?_ ?_ ?_
 .simp
 .simp
 rintro⟨q,m⟩ hI
 by_cases hlt:q<e.args.length
 .rcases Int.lt_or_le m 0 with Eb|hnn
  .obtain rfl:=hI.neg Eb
   simp[hlt,hS,rm,Int.not_le.2 Eb]
  simp[hlt,hS,rm,hnn,zg]
  refine cq (ih _ (List.getElem_mem hlt) _ _ _ m (by simp[zAM,zu,hS,rm]) (by have:=hI.2.1;omega) hI.2.2.1) ?_
  simp[rm];exact⟨q+1,e.args[q].room m,hI.next hlt hnn (fun m a b=>zRn _ m (by omega) b),by omega,zA hlt,rfl⟩
 obtain rfl:=hI.done hlt
 simp[hlt,hS,rm]
def StC(l:List St):Prop:=RmC 30 (-6) (.p (.sl 15 (l.map St.enc))) (zE St.room l)
theorem zNn(l:List St):Bd (-6) (zE St.room l):=zCY l fun x _ m a b=>zXY x m (by omega) b
abbrev stV(s:St):List AV:=[U s.op,Sg s.name,Sg s.u2,.p (strs s.names),U s.type.kind,Sg s.type.name,.p (.sl 3 (s.type.args.map Ty.enc)),I s.int,Sg s.place.name,.p (strs s.place.path),.p (.sl 8 (s.u3.map Ex.enc)),.p (.sl 15 (s.body.map St.enc)),.p (.sl 15 (s.els.map St.enc)),.p (.sl 3 (s.arms.map Ar.enc)),I s.pos]
theorem zNo(l:List St)(ih:∀s∈l,StC s.body/\StC s.els/\∀a∈s.arms,StC a.body):StC l:=by
 intro S d i n hS h1 h2;refine ADet.okP call30 1 rfl fun na=>?_
 have ca:=okl na
 refine ADet.intro mixed call30 func30 rfl ?_;simp[ntmps30];refine zH (Rnd St.room l (zE St.room l n)) (fun x=>([.ptr (d+1) i 0,.p (.sl 15 (l.map St.enc)),.any,.any,I x.1]++List.replicate 112 .any)) (fun x=>[]::set2 S d i (rm x.2)) (fun x=>l.length-x.1) (0,n) (.start h1 h2) ?_ ?_ ?_
 .simp
 .simp[zAN hS]
 rintro⟨q,m⟩ hI
 by_cases hlt:q<l.length
 .rcases Int.lt_or_le m 0 with Eb|hnn
  .obtain rfl:=hI.neg Eb
   simp[hlt,hS,rm,Int.not_le.2 Eb]
  simp[hlt,hS,rm,hnn,zCR]
  have hs:=ih _ (List.getElem_mem hlt)
  have Jo:=zZD na (List.getElem_mem hlt)
  have sf:=hI.next hlt hnn (fun m a b=>zXY _ m (by omega) b)
  generalize l[q]=s at hs Jo sf ⊢
  have oa:=okl Jo.2.2.2.1
  have Ev:=okl Jo.2.2.2.2.2.2
  have c1:=zAz s.name.size m (by omega) hI.2.2.1
  have c2:=zAz s.u2.size _ (by omega) c1.2
  have c3:=zJ6 s.names _ c2.1 c2.2
  have c4:=zO2 s.type _ (by omega) c3.2
  have c5:=zHD s.place _ (by omega) c4.2
  refine cq (zH1 _ _ _ _ m (by simp[zAM,zu,hS,rm]) (by have:=hI.2.1;omega) hI.2.2.1) ?_
  simp[rm];refine cq (zH1 _ _ _ _ (zD s.name.size m) (by simp[zAM,zu,hS,rm]) (by omega) c1.2) ?_
  simp[rm];refine cq (zV9 _ _ _ _ (zD s.u2.size (zD s.name.size m)) (by simp[zAM,zu,hS,rm]) (by omega) c2.2) ?_
  simp[rm];refine cq (zXa s.type _ _ _ _ (by simp[zAM,zu,hS,rm]) (by omega) c3.2) ?_
  simp[rm];refine cq (zWA s.place _ _ _ _ (by simp[zAM,zu,hS,rm]) (by omega) c4.2) ?_
  simp[rm];refine zH (Rnd Ex.room s.u3 (zE Ex.room s.u3 (s.room1 m))) (fun x=>([.ptr (d+1) i 0,.p (.sl 15 (l.map St.enc)),.any,.any,I q,.ptr 0 0 0,I x.1]++List.replicate 110 .any)) (fun x=>[.cells (stV s) 49]::set2 S d i (rm x.2)) (fun x=>s.u3.length-x.1) (0,s.room1 m) (.start c5.1 c5.2) ?_ ?_ ?_
  .simp
  .simp[rm]
   rfl
  rintro⟨k,m1⟩ hJ
  by_cases hk:k<s.u3.length/\0<=m1
  .simp[hS,rm,hk,zg]
   refine cq (zZp _ _ _ _ m1 (by simp[zAM,zu,hS,rm]) (by have:=hJ.2.1;omega) hJ.2.2.1) ?_
   simp[rm];exact⟨k+1,_,hJ.next hk.1 hk.2 (fun m a b=>zRn _ m (by omega) b),by omega,zA hk.1,rfl⟩
  have e1:m1=zE Ex.room s.u3 (s.room1 m):=by
   rcases Classical.em (k<s.u3.length)with h|h
   .exact hJ.neg (by omega)
   exact hJ.done h
  have c6:=zCY s.u3 (fun x hx m a b=>zRn x m (by omega) b) (s.room1 m) c5.1 c5.2
  have c7:=zNn s.body _ c6.1 c6.2
  have c8:=zNn s.els _ c7.1 c7.2
  have ic:=zEc s m
  rw[<-e1]at c6 c7 c8 ic
  by_cases Eb:m1<0
  .rw[if_pos Eb]at ic
   rw[ic]at sf
   have Rb:=sf.neg Eb
   rcases Classical.em (k<s.u3.length)with h|h
   .simp[hS,rm,h,Eb,Int.not_le.2 Eb]
    rw[Rb]
   simp[hS,rm,h,Eb]
   rw[Rb]
  rw[if_neg Eb]at ic
  have If:¬k<s.u3.length:=fun h=>hk ⟨h,by omega⟩
  simp[hS,rm,If,Eb,zCR];refine cq (hs.1 _ _ _ m1 (by simp[zAM,zu,hS,rm]) (by omega) c6.2) ?_
  simp[rm];refine cq (hs.2.1 _ _ _ _ (by simp[zAM,zu,hS,rm]) c7.1 c7.2) ?_
  simp[rm];refine zH (Rnd Ar.room s.arms (s.room m)) (fun x=>([.ptr (d+1) i 0,.p (.sl 15 (l.map St.enc)),.any,.any,I q,.ptr 0 0 0,.any,I x.1]++List.replicate 109 .any)) (fun x=>[.cells (stV s) 49]::set2 S d i (rm x.2)) (fun x=>s.arms.length-x.1) (0,zE St.room s.els (zE St.room s.body m1)) (by rw[ic];exact .start c8.1 c8.2) ?_ ?_ ?_
  .simp
  .simp[rm]
  rintro⟨k,m2⟩ hL
  by_cases hk:k<s.arms.length
  .rcases Int.lt_or_le m2 0 with hng|hn2
   .obtain rfl:=hL.neg hng
    simp[hS,rm,hk,Int.not_le.2 hng];exact⟨q+1,_,sf,by omega,zA hlt,rfl⟩
   have ee:=hs.2.2 _ (List.getElem_mem hk)
   have Ce:=hL.next hk hn2 (zbe _)
   generalize ha:s.arms[k]=a at ee Ce ⊢
   simp[hS,rm,hk,hn2,ha,Ar.enc]
   have d1:=zAz a.variant.size m2 (by omega) hL.2.2.1
   have d2:=zAz a.name.size _ (by omega) d1.2
   refine cq (zH1 _ _ _ _ m2 (by simp[zAM,zu,hS,rm]) (by omega) hL.2.2.1) ?_
   simp[hS,rm,hk,ha,Ar.enc];refine cq (zH1 _ _ _ _ (zD a.variant.size m2) (by simp[zAM,zu,hS,rm]) (by omega) d1.2) ?_
   simp[hS,rm,hk,ha,Ar.enc];refine cq (ee _ _ _ (zD a.name.size (zD a.variant.size m2)) (by simp[zAM,zu,hS,rm]) (by omega) d2.2) ?_
   simp[hS,rm];exact⟨k+1,_,Ce,by omega,zA hk,by rw[zCm]⟩
  obtain rfl:=hL.done hk
  simp[hS,rm,hk];exact⟨q+1,_,sf,by omega,zA hlt,rfl⟩
 obtain rfl:=hI.done hlt
 simp[hlt,hS,rm]
theorem stC3:∀(s:St),StC s.body/\StC s.els/\∀a∈s.arms,StC a.body:=by
 refine St.ind fun s Ub Mb Md=>⟨zNo _ Ub,zNo _ Mb,fun a ha=>zNo _ (Md a ha)⟩
theorem stC(l:List St):StC l:=zNo l fun s _=>stC3 s
theorem zXb(l:List Fi):RmC 28 (-6) (.p (.sl 4 (l.map Fi.enc))) (zE Fi.room l):=by
 intro S d i n hS h1 h2;refine ADet.okP call28 1 rfl fun na=>?_
 have ca:=okl na
 refine ADet.intro mixed call28 func28 rfl ?_;simp[ntmps28];refine zH (Rnd Fi.room l (zE Fi.room l n)) (fun x=>([.ptr (d+1) i 0,.p (.sl 4 (l.map Fi.enc)),.any,.any,I x.1]++List.replicate 27 .any)) (fun x=>[]::set2 S d i (rm x.2)) (fun x=>l.length-x.1) (0,n) (.start h1 h2) ?_ ?_ ?_
 .simp
 .simp[zAN hS]
 rintro⟨q,m⟩ hI
 by_cases hlt:q<l.length
 .rcases Int.lt_or_le m 0 with Eb|hnn
  .obtain rfl:=hI.neg Eb
   simp[hlt,hS,rm,Int.not_le.2 Eb]
  have sf:=hI.next hlt hnn (zXZ _)
  generalize hx:l[q]=x at sf ⊢
  have c1:=zAz x.name.size m (by omega) hI.2.2.1
  simp[hlt,hS,rm,hnn,hx,Fi.enc];refine cq (zH1 _ _ _ _ m (by simp[zAM,zu,hS,rm]) (by omega) hI.2.2.1) ?_
  simp[rm,hlt,hx,Fi.enc];refine cq (zXa x.type _ _ _ (zD x.name.size m) (by simp[zAM,zu,hS,rm]) (by omega) c1.2) ?_
  simp[rm];exact⟨q+1,_,sf,by omega,zA hlt,rfl⟩
 obtain rfl:=hI.done hlt
 simp[hlt,hS,rm]
theorem zbf(x:It):Bd (-6) x.room:=fun n h1 h2=>by
 have a:=zAz x.name.size n (by omega) h2
 have b:=zCY x.fields (fun x _=>zXZ x) _ (by omega) a.2
 have c:=zO2 x.result _ (by omega) b.2
 have d:=zNn x.body _ c.1 c.2
 exact zRn x.ret _ (by omega) d.2
theorem zZq(S:ASt)(p:List It):ADet Tryz.prog 9 [.agg [.p (prog p)]] S (B (great p)) S:=by
 refine ADet.okA call9 0 0 rfl rfl fun na=>?_
 have ca:=okl na
 refine ADet.intro mixed call9 func9 rfl ?_;simp[ntmps9];refine zH (Rnd It.room p (zE It.room p 20000)) (fun x=>([.any,.ptr 0 0 0,B false,.ptr 0 1 0,I x.1]++List.replicate 47 .any)) (fun x=>[.cells [.p (prog p)] 24,rm x.2]::S) (fun x=>p.length-x.1) (0,20000) (.start (by omega) (by omega)) ?_ ?_ ?_
 .simp
 .simp[rm]
 rintro⟨q,m⟩ hI
 by_cases hlt:q<p.length
 .rcases Int.lt_or_le m 0 with Eb|hnn
  .obtain rfl:=hI.neg Eb
   simp[hlt,rm,Int.not_le.2 Eb,prog,great]
  have sf:=hI.next hlt hnn (zbf _)
  have Zs:=zZE na (List.getElem_mem hlt)
  generalize hx:p[q]=x at sf Zs ⊢
  have c1:=zAz x.name.size m (by omega) hI.2.2.1
  have c2:=zCY x.fields (fun x _=>zXZ x) _ (by omega) c1.2
  have c3:=zO2 x.result _ (by omega) c2.2
  have c4:=zNn x.body _ c3.1 c3.2
  simp[hlt,rm,hnn,hx,prog,It.enc];refine cq (zH1 _ _ 0 1 m (by simp[zBS,rm]) (by omega) hI.2.2.1) ?_
  simp[rm];refine cq (zXb x.fields _ 0 1 (zD x.name.size m) (by simp[zBS,rm]) (by omega) c1.2) ?_
  simp[rm];refine cq (zXa x.result _ 0 1 _ (by simp[zBS,rm]) (by omega) c2.2) ?_
  simp[rm];refine cq (stC x.body _ 0 1 _ (by simp[zBS,rm]) (by omega) c3.2) ?_
  simp[rm];refine cq (zZp x.ret _ 0 1 _ (by simp[zBS,rm]) (by omega) c4.2) ?_
  simp[rm];exact⟨q+1,_,sf,by omega,zA hlt,rfl⟩
 obtain rfl:=hI.done hlt
 simp[hlt,rm,prog,great]
end Go.Proofs.YtdflkegnmmkkoaaGreatDoor
namespace Go.Proofs.YtdflkegnmmkkoaaGreatDoor
open Go.RowKit _root_.Go.Proofs.Tryz
variable{n:Int}
inductive TySm:Ty->Prop
 |mk (t:Ty):t.name.size<=20000->t.args.length<=20000->(∀x∈t.args,TySm x)->TySm t
def NmSm(l:List BA):Prop:=l.length<=20000/\∀s∈l,s.size<=20000
def PlSm(x:Pl):Prop:=x.name.size<=20000/\NmSm x.path
inductive ExSm:Ex->Prop
 |mk (e:Ex):e.name.size<=20000->e.u2.size<=20000->PlSm e.place->e.args.length<=20000->(∀x∈e.args,ExSm x)->ExSm e
def zZr(l:List Ex):Prop:=l.length<=20000/\∀x∈l,ExSm x
inductive StSm:St->Prop
 |mk (s:St):s.name.size<=20000->s.u2.size<=20000->NmSm s.names->TySm s.type->PlSm s.place->zZr s.u3->s.body.length<=20000->s.els.length<=20000->s.arms.length<=20000->
  (∀x∈s.body,StSm x)->(∀x∈s.els,StSm x)->(∀a∈s.arms,a.variant.size<=20000/\a.name.size<=20000/\a.body.length<=20000)->(∀a∈s.arms,∀x∈a.body,StSm x)->StSm s
def zZs(l:List St):Prop:=l.length<=20000/\∀x∈l,StSm x
def FiSm(x:Fi):Prop:=x.name.size<=20000/\TySm x.type
def zO3(l:List Fi):Prop:=l.length<=20000/\∀x∈l,FiSm x
def ItSm(x:It):Prop:=x.name.size<=20000/\zO3 x.fields/\TySm x.result/\zZs x.body/\ExSm x.ret
def PrSm(p:List It):Prop:=p.length<=20000/\∀x∈p,ItSm x
theorem zCe{α:Type}{g:α->Int->Int}:∀(l:List α) (n:Int),(∀x∈l,∀m,-6<=m->m<=100000-> -6<=g x m/\(g x m<=m-5\/g x m<0))-> -6<=n->n<=100000->0<=zE g l n->(5*(l.length:Int)<=n)/\zE g l n<=n/\∀x∈l,∃m,0<=m/\m<=n/\0<=g x m
 | [],n,h,h1,h2,h3=>by
  unfold zE at h3
  exact⟨by simpa using h3,by simp[zE],fun x hx=>by simp at hx⟩
 |x::l,n,h,h1,h2,h3=>by
  unfold zE at h3;split at h3
  .omega
  rename_i hn
  have hx:=h x (by simp) n h1 h2
  have fe:0<=g x n:=by
   rcases Int.lt_or_le (g x n) 0 with hg|hg
   .rw[zEb hg]at h3;omega
   exact hg
  obtain⟨i1,i2,i3⟩:=zCe l (g x n) (fun y hy=>h y (by simp[hy])) hx.1 (by omega) h3
  refine⟨by simp only[List.length_cons];omega,by unfold zE;rw[if_neg hn];omega,fun y hy=>?_⟩
  rcases List.mem_cons.1 hy with rfl|hy
  .exact⟨n,by omega,by omega,fe⟩
  obtain⟨m,m1,m2,m3⟩:=i3 y hy
  exact⟨m,m1,by omega,m3⟩
theorem zr{α:Type}{g:α->Int->Int}{l:List α}(h:0<=zE g l n):0<=n:=by
 rcases Int.lt_or_le n 0 with hn|hn
 .rw[zEb hn]at h;omega
 exact hn
theorem zCs{α:Type}{g:α->Int->Int}:∀(l:List α) (n:Int),(∀x∈l,∀m,-6<=m->m<=100000-> -6<=g x m/\(g x m<=m-5\/g x m<0))-> -6<=n->n<=100000-> -6<=zE g l n/\(zE g l n<=n\/zE g l n<0)
 | [],n,h,h1,h2=>⟨h1,.inl (Int.le_refl _)⟩
 |x::l,n,h,h1,h2=>by
  unfold zE;split
  .omega
  have hx:=h x (by simp) n h1 h2
  have:=zCs l (g x n) (fun y hy=>h y (by simp[hy])) hx.1 (by omega)
  omega
theorem zJ{k:Nat}(h:0<=zD k n):(k:Int)+5<=n/\zD k n=n-5-k:=by
 unfold zD at h ⊢;split at h
 .omega
 split at h
 .omega
 rename_i h1 h2;rw[if_neg h1,if_neg h2];omega
theorem zc(k:Nat)(n:Int)(h: -10<=n): -1<=zD k n/\(zD k n<=n-5\/zD k n<0):=by
 unfold zD;split<;>(try split)<;>omega
def Cst(g:Int->Int):Prop:=∀m,-10<=m->m<=100000-> -6<=g m/\(g m<=m-5\/g m<0)
theorem zH2:∀(t:Ty),Cst t.room:=by
 refine Ty.ind fun t ih n h1 h2=>?_
 rw[zBw]
 have a:=zc t.name.size n h1
 have:=zCs t.args _ (fun x hx m a b=>ih x hx m (by omega) b) (by omega:(-6:Int)<=zD t.name.size n) (by omega)
 omega
theorem zHE(l:List BA)(n:Int)(h1: -1<=n)(h2:n<=100000): -6<=zy l n/\(zy l n<=n\/zy l n<0):=by
 have:=zCs l (n-5) (g:=fun s m=>zD s.size m) (fun x hx m a b=>by have:=zc x.size m (by omega);omega) (by omega) (by omega)
 unfold zy;omega
theorem zRo(x:Pl):Cst x.room:=fun n h1 h2=>by
 have a:=zc x.name.size n h1
 have:=zHE x.path (zD x.name.size n) a.1 (by omega)
 unfold Pl.room;omega
theorem zNp:∀(e:Ex),Cst e.room:=by
 refine Ex.ind fun e ih n h1 h2=>?_
 rw[zDD]
 have a:=zc e.name.size n h1
 have b:=zc e.u2.size (zD e.name.size n) (by omega)
 have c:=zRo e.place _ (by omega:(-10:Int)<=zD e.u2.size (zD e.name.size n)) (by omega)
 have:=zCs e.args _ (fun x hx m a b=>ih x hx m (by omega) b) c.1 (by omega)
 omega
theorem zXc:∀(t:Ty) (n:Int),-10<=n->n<=20000->0<=t.room n->TySm t:=by
 refine Ty.ind fun t ih n h1 h2 h=>?_
 rw[zBw]at h
 have hp:=zr h
 have a:=zJ hp
 have f:=zCe t.args _ (fun x hx m a b=>zH2 x m (by omega) b) (by omega) (by omega) h
 exact .mk t (by omega) (by omega) fun x hx=>by
  obtain⟨m,m1,m2,m3⟩:=f.2.2 x hx
  exact ih x hx m (by omega) (by omega) m3
theorem zZt{l:List BA}(h1: -1<=n)(h2:n<=20000)(h:0<=zy l n):NmSm l:=by
 have f:=zCe l (n-5) (g:=fun s m=>zD s.size m) (fun x hx m a b=>by have:=zc x.size m (by omega);omega) (by omega) (by omega) h
 exact⟨by omega,fun s hs=>by
  obtain⟨m,m1,m2,m3⟩:=f.2.2 s hs
  have:=zJ m3
  omega⟩
theorem zEd{l:List BA}(h:0<=zy l n):0<=n:=by have:=zr h;omega
theorem zZu{x:Pl}(h2:n<=20000)(h:0<=x.room n):PlSm x:=by
 have hp:=zEd h
 have a:=zJ hp
 exact⟨by omega,zZt (by omega) (by omega) h⟩
theorem zJG{x:Pl}(h:0<=x.room n):0<=n:=by
 have a:=zJ (zEd h)
 omega
theorem zZv:∀(e:Ex) (n:Int),-10<=n->n<=20000->0<=e.room n->ExSm e:=by
 refine Ex.ind fun e ih n h1 h2 h=>?_
 rw[zDD]at h
 have hp:=zr h
 have hq:=zJG hp
 have b:=zJ hq
 have a:=zJ (by omega:0<=zD e.name.size n)
 have c:=zRo e.place _ (by omega:(-10:Int)<=zD e.u2.size (zD e.name.size n)) (by omega)
 have f:=zCe e.args _ (fun x hx m a b=>zNp x m (by omega) b) c.1 (by omega) h
 exact .mk e (by omega) (by omega) (zZu (by omega) hp) (by omega) fun x hx=>by
  obtain⟨m,m1,m2,m3⟩:=f.2.2 x hx
  exact ih x hx m (by omega) (by omega) m3
theorem zZw{l:List Ex}(h1: -6<=n)(h2:n<=20000)(h:0<=zE Ex.room l n):zZr l:=by
 have f:=zCe l n (fun x hx m a b=>zNp x m (by omega) b) h1 (by omega) h
 exact⟨by omega,fun x hx=>by
  obtain⟨m,m1,m2,m3⟩:=f.2.2 x hx
  exact zZv x m (by omega) (by omega) m3⟩
theorem zRp(s:St)(n:Int)(h1: -10<=n)(h2:n<=100000): -6<=s.room1 n/\(s.room1 n<=n-5\/s.room1 n<0):=by
 have a:=zc s.name.size n h1
 have b:=zc s.u2.size (zD s.name.size n) (by omega)
 have c:=zHE s.names (zD s.u2.size (zD s.name.size n)) (by omega) (by omega)
 have d:=zH2 s.type _ (by omega:(-10:Int)<=zy s.names (zD s.u2.size (zD s.name.size n))) (by omega)
 have e:=zRo s.place _ (by omega:(-10:Int)<=s.type.room (zy s.names (zD s.u2.size (zD s.name.size n)))) (by omega)
 unfold St.room1;omega
theorem zWB(l:List Ex)(n:Int)(h1: -6<=n)(h2:n<=100000): -6<=zE Ex.room l n/\(zE Ex.room l n<=n\/zE Ex.room l n<0):=zCs l n (fun x _ m a b=>zNp x m (by omega) b) h1 h2
theorem zJH:∀(s:St),Cst s.room:=by
 refine St.ind fun s Ub Mb Md n h1 h2=>?_
 rw[zEc]
 have a:=zRp s n h1 h2
 have b:=zWB s.u3 (s.room1 n) a.1 (by omega)
 split
 .omega
 have c:=zCs s.body _ (fun x hx m a b=>Ub x hx m (by omega) b) b.1 (by omega)
 have d:=zCs s.els _ (fun x hx m a b=>Mb x hx m (by omega) b) c.1 (by omega)
 have e:=zCs (g:=Ar.room) s.arms _ (fun x hx m a b=>by
  rw[zCm]
  have e:=zc x.variant.size m (by omega)
  have f:=zc x.name.size (zD x.variant.size m) (by omega)
  have:=zCs x.body _ (fun y hy m a b=>Md x hx y hy m (by omega) b) (by omega:(-6:Int)<=zD x.name.size (zD x.variant.size m)) (by omega)
  omega) d.1 (by omega)
 omega
theorem zLQ(l:List St)(n:Int)(h1: -6<=n)(h2:n<=100000): -6<=zE St.room l n/\(zE St.room l n<=n\/zE St.room l n<0):=zCs l n (fun x _ m a b=>zJH x m (by omega) b) h1 h2
theorem zZx(x:Ar)(m:Int)(a: -6<=m)(b:m<=100000): -6<=x.room m/\(x.room m<=m-5\/x.room m<0):=by
 rw[zCm]
 have e:=zc x.variant.size m (by omega)
 have f:=zc x.name.size (zD x.variant.size m) (by omega)
 have:=zLQ x.body _ (by omega:(-6:Int)<=zD x.name.size (zD x.variant.size m)) (by omega)
 omega
theorem zbg:∀(s:St) (n:Int),-10<=n->n<=20000->0<=s.room n->StSm s:=by
 refine St.ind fun s Ub Mb Md n h1 h2 h=>?_
 rw[zEc]at h;split at h
 .omega
 rename_i hx
 have a:=zRp s n h1 (by omega)
 have hx:0<=zE Ex.room s.u3 (s.room1 n):=by omega
 have h0:=zr hx
 have hp:=zJG h0
 have b1:=zWB s.u3 (s.room1 n) a.1 (by omega)
 have c1:=zLQ s.body _ b1.1 (by omega)
 have d1:=zLQ s.els _ c1.1 (by omega)
 have fA:=zCe s.arms _ (fun x _ m a b=>zZx x m a b) d1.1 (by omega) h
 have hE:=zr h
 have fE:=zCe s.els _ (fun x _ m a b=>zJH x m (by omega) b) c1.1 (by omega) hE
 have hB:=zr hE
 have fB:=zCe s.body _ (fun x _ m a b=>zJH x m (by omega) b) b1.1 (by omega) hB
 have n1:=zc s.name.size n h1
 have n2:=zc s.u2.size (zD s.name.size n) (by omega)
 have n3:=zHE s.names (zD s.u2.size (zD s.name.size n)) (by omega) (by omega)
 have n4:=zH2 s.type _ (by omega:(-10:Int)<=zy s.names (zD s.u2.size (zD s.name.size n))) (by omega)
 have tp:0<=zy s.names (zD s.u2.size (zD s.name.size n)):=by
  have:=hp
  rw[zBw]at this
  have:=zJ (zr this)
  omega
 have np:=zEd tp
 have k2:=zJ np
 have k1:=zJ (by omega:0<=zD s.name.size n)
 refine .mk s (by omega) (by omega) (zZt (by omega) (by omega) tp) (zXc _ _ (by omega) (by omega) hp) (zZu (by omega) h0) (zZw a.1 (by omega) hx) (by omega) (by omega) (by omega) (fun x hx=>?_) (fun x hx=>?_) (fun x hx=>?_) (fun x hx y hy=>?_)
 .obtain⟨m,m1,m2,m3⟩:=fB.2.2 x hx
  exact Ub x hx m (by omega) (by omega) m3
 .obtain⟨m,m1,m2,m3⟩:=fE.2.2 x hx
  exact Mb x hx m (by omega) (by omega) m3
 .obtain⟨m,m1,m2,m3⟩:=fA.2.2 x hx
  rw[zCm]at m3
  have k2:=zJ (zr m3)
  have k1:=zJ (by omega:0<=zD x.variant.size m)
  have f:=zCe x.body _ (fun x _ m a b=>zJH x m (by omega) b) (by omega) (by omega) m3
  exact⟨by omega,by omega,by omega⟩
 obtain⟨m,m1,m2,m3⟩:=fA.2.2 x hx
 rw[zCm]at m3
 have k2:=zJ (zr m3)
 have k1:=zJ (by omega:0<=zD x.variant.size m)
 have f:=zCe x.body _ (fun x _ m a b=>zJH x m (by omega) b) (by omega) (by omega) m3
 obtain⟨i,i1,i2,i3⟩:=f.2.2 y hy
 exact Md x hx y hy i (by omega) (by omega) i3
theorem zZy{l:List St}(h1: -6<=n)(h2:n<=20000)(h:0<=zE St.room l n):zZs l:=by
 have f:=zCe l n (fun x hx m a b=>zJH x m (by omega) b) h1 (by omega) h
 exact⟨by omega,fun x hx=>by
  obtain⟨m,m1,m2,m3⟩:=f.2.2 x hx
  exact zbg x m (by omega) (by omega) m3⟩
theorem zRq(x:Fi)(n:Int)(h1: -6<=n)(h2:n<=100000): -6<=x.room n/\(x.room n<=n-5\/x.room n<0):=by
 have a:=zc x.name.size n (by omega)
 have b:=zH2 x.type (zD x.name.size n) (by omega) (by omega)
 unfold Fi.room;omega
theorem zZz{l:List Fi}(h1: -6<=n)(h2:n<=20000)(h:0<=zE Fi.room l n):zO3 l:=by
 have f:=zCe l n (fun x hx m a b=>zRq x m a b) h1 (by omega) h
 exact⟨by omega,fun x hx=>by
  obtain⟨m,m1,m2,m3⟩:=f.2.2 x hx
  have e:=zc x.name.size m (by omega)
  refine⟨?_,zXc _ _ (by omega) (by omega) m3⟩
  unfold Fi.room at m3;rw[zBw]at m3
  have:=zJ (zr m3)
  have:=zJ (by omega:0<=zD x.name.size m)
  omega⟩
theorem zZ0(x:It)(n:Int)(h1: -6<=n)(h2:n<=100000): -6<=x.room n/\(x.room n<=n-5\/x.room n<0):=by
 have a:=zc x.name.size n (by omega)
 have b:=zCs x.fields _ (fun x _ m a b=>zRq x m a b) (by omega:(-6:Int)<=zD x.name.size n) (by omega)
 have c:=zH2 x.result _ (by omega:(-10:Int)<=zE Fi.room x.fields (zD x.name.size n)) (by omega)
 have d:=zLQ x.body _ c.1 (by omega)
 have e:=zNp x.ret _ (by omega:(-10:Int)<=zE St.room x.body (x.result.room (zE Fi.room x.fields (zD x.name.size n)))) (by omega)
 unfold It.room;omega
theorem zXd{p:List It}(h:great p=false):PrSm p:=by
 have h:0<=zE It.room p 20000:=by simpa [great]using h
 have f:=zCe p 20000 (fun x hx m a b=>zZ0 x m a b) (by omega) (by omega) h
 refine⟨by omega,fun x hx=>?_⟩
 obtain⟨n,h1,h2,h3⟩:=f.2.2 x hx
 have a:=zc x.name.size n (by omega)
 have b:=zCs x.fields _ (fun x _ m a b=>zRq x m a b) (by omega:(-6:Int)<=zD x.name.size n) (by omega)
 have c:=zH2 x.result _ (by omega:(-10:Int)<=zE Fi.room x.fields (zD x.name.size n)) (by omega)
 have d:=zLQ x.body _ c.1 (by omega)
 have e3:0<=zE St.room x.body (x.result.room (zE Fi.room x.fields (zD x.name.size n))):=by
  have:=h3
  unfold It.room at this;rw[zDD]at this
  have k2:=zJ (zJG (zr this))
  have k1:=zJ (by omega:0<=zD x.ret.name.size (zE St.room x.body (x.result.room (zE Fi.room x.fields (zD x.name.size n)))))
  omega
 have e2:=zr e3
 have e1:0<=zE Fi.room x.fields (zD x.name.size n):=by
  have:=e2
  rw[zBw]at this
  have:=zJ (zr this)
  omega
 have k:=zJ (zr e1)
 exact⟨by omega,zZz (by omega) (by omega) e1,zXc _ _ (by omega) (by omega) e2,zZy c.1 (by omega) e3,zZv _ _ (by omega) (by omega) h3⟩
end Go.Proofs.YtdflkegnmmkkoaaGreatDoor
