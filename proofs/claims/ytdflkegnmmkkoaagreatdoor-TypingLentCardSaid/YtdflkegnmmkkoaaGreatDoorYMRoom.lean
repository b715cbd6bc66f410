/- A part of the proof. -/
import Derived.Test.YtdflkegnmmkkoaaGreatDoorYMSimp
import Derived.Test.YtdflkegnmmkkoaaGreatDoorYMLt
set_option linter.unusedVariables false
set_option linter.unusedSimpArgs false
set_option maxRecDepth 100000
set_option maxHeartbeats 32000000
namespace Go.Proofs.YtdflkegnmmkkoaaGreatDoor
open Go.RowKit _root_.Go.Proofs.Tryz
variable{n:Int}{q:Nat}
def zD(k:Nat)(n:Int):Int:=if n<5 then-1 else if(k:Int)>n-5 then-1 else n-5-k
theorem zMZ(k:Nat)(n:Int)(h: -10<=n): -1<=zD k n/\zD k n<=n+9/\(0<=n->zD k n<=n):=by unfold zD;split<;>(try split)<;>omega
mutual
def Ty.room:Ty->Int->Int
 | .mk _ s l,n=>Ty.roomAll l (zD s.size n)
def Ty.roomAll:List Ty->Int->Int
 | [],n=>n
 |t::l,n=>if n<0 then n else Ty.roomAll l (t.room n)
end
theorem zXL(t:Ty)(n:Int):t.room n=Ty.roomAll t.args (zD t.name.size n):=by cases t;rfl
def Ty.great(t:Ty):Bool:=decide (t.room 20000<0)
def zE{α:Type}(g:α->Int->Int):List α->Int->Int
 | [],n=>n
 |x::l,n=>if n<0 then n else zE g l (g x n)
theorem zEn{α:Type}{g:α->Int->Int}{l:List α}(h:n<0):zE g l n=n:=by cases l<;>simp[zE,h]
theorem zKE{α:Type}{g:α->Int->Int}{l:List α}(hq:q<l.length)(h:0<=n):zE g (l.drop q) n=zE g (l.drop (q+1)) (g l[q] n):=by
 rw[List.drop_eq_getElem_cons hq,zE,if_neg (by omega)]
theorem zKF{α:Type}{g:α->Int->Int}{l:List α}(hq:l.length<=q):zE g (l.drop q) n=n:=by rw[List.drop_eq_nil_of_le hq];rfl
def z6(l:List BA)(n:Int):Int:=zE (fun s m=>zD s.size m) l (n-5)
def Pl.room(p:Pl)(n:Int):Int:=z6 p.path (zD p.name.size n)
mutual
def Ex.room:Ex->Int->Int
 | .mk _ _ nm sc pl al _,n=>Ex.roomAll al (pl.room (zD sc.size (zD nm.size n)))
def Ex.roomAll:List Ex->Int->Int
 | [],n=>n
 |t::l,n=>if n<0 then n else Ex.roomAll l (t.room n)
end
theorem zRg(l:List Ex):∀n,Ex.roomAll l n=zE Ex.room l n:=by
 induction l with
 |nil=>intro n;rfl
 |cons t l ih=>intro n;simp[Ex.roomAll,zE,ih]
theorem zDK(e:Ex)(n:Int):e.room n=zE Ex.room e.args (e.place.room (zD e.u2.size (zD e.name.size n))):=by cases e;simp only[Ex.room,zRg];rfl
mutual
def St.room:St->Int->Int
 | .mk _ nm sc nms ty _ pl exs body els arms _,n=>
  if zE Ex.room exs (pl.room (ty.room (z6 nms (zD sc.size (zD nm.size n)))))<0 then zE Ex.room exs (pl.room (ty.room (z6 nms (zD sc.size (zD nm.size n)))))
  else Ar.roomAll arms (St.roomAll els (St.roomAll body (zE Ex.room exs (pl.room (ty.room (z6 nms (zD sc.size (zD nm.size n))))))))
def St.roomAll:List St->Int->Int
 | [],n=>n
 |t::l,n=>if n<0 then n else St.roomAll l (t.room n)
def Ar.roomAll:List (ArOf St)->Int->Int
 | [],n=>n
 |⟨v,nm,b⟩::l,n=>if n<0 then n else Ar.roomAll l (St.roomAll b (zD nm.size (zD v.size n)))
end
def Ar.room(a:Ar)(n:Int):Int:=St.roomAll a.body (zD a.name.size (zD a.variant.size n))
theorem zLY(l:List St):∀n,St.roomAll l n=zE St.room l n:=by
 induction l with
 |nil=>intro n;rfl
 |cons t l ih=>intro n;simp[St.roomAll,zE,ih]
theorem zRh(l:List Ar):∀n,Ar.roomAll l n=zE Ar.room l n:=by
 induction l with
 |nil=>intro n;rfl
 |cons t l ih=>intro n;obtain⟨v,nm,b⟩:=t;simp[Ar.roomAll,zE,Ar.room,ih]
def St.room1(s:St)(n:Int):Int:=s.place.room (s.type.room (z6 s.names (zD s.u2.size (zD s.name.size n))))
theorem zEo(s:St)(n:Int):s.room n=if zE Ex.room s.u3 (s.room1 n)<0 then zE Ex.room s.u3 (s.room1 n)else
  zE Ar.room s.arms (zE St.room s.els (zE St.room s.body (zE Ex.room s.u3 (s.room1 n)))):=by
 cases s;simp only[St.room,zLY,zRh];rfl
def Fi.room(x:Fi)(n:Int):Int:=x.type.room (zD x.name.size n)
theorem zCs(a:Ar)(n:Int):a.room n=zE St.room a.body (zD a.name.size (zD a.variant.size n)):=zLY _ _
def It.room(x:It)(n:Int):Int:=x.ret.room (zE St.room x.body (x.result.room (zE Fi.room x.fields (zD x.name.size n))))
def great(p:List It):Bool:=decide (zE It.room p 20000<0)
attribute [local simp] List.replicate List.range List.range.loop
def rm(n:Int):AObj:=.cells [I n] 68
theorem zMa{k:Nat}{n b:Int}(h:n<=b)(hb:0<=b):zD k n<=b:=by unfold zD;split<;>(try split)<;>omega
theorem wr(h: -1000000<=n/\n<=1000000:=by omega):IntKind.i64.wrap n=n:=IntWalk.i64_in _ (by omega)
theorem zbF(S:ASt)(d i:Nat)(n:Int)(s:BA)(hS:get2 S d i=some (rm n))(h1: -10<=n)(h2:n<=100000):ADet Tryz.prog 27 [.ptr d i 0,Sg s] S .un (set2 S d i (rm (zD s.size n))):=by
 unfold rm at*;refine ADet.intro mixed call27 func27 rfl ?_
 have w1:IntKind.i64.wrap (n-5)=n-5:=wr
 by_cases h5:n<5
 .simp[hS,h5,ntmps27,zD]
 by_cases h6:(s.size:Int)>n-5
 .simp[hS,h5,h6,w1,ntmps27,zD]
 have w2:IntKind.i64.wrap (n-5-s.size)=n-5-s.size:=wr
 simp[hS,h5,h6,w1,w2,ntmps27,zD]
def RmC(F:Nat)(lo:Int)(v:AV)(g:Int->Int):Prop:=∀(S:ASt) (d i:Nat) (n:Int),get2 S d i=some (rm n)->lo<=n->n<=100000->ADet Tryz.prog F [.ptr d i 0,v] S .un (set2 S d i (rm (g n)))
theorem zIL(s:BA):RmC 27 (-10) (Sg s) (zD s.size):=fun S d i n h h1 h2=>zbF S d i n s h h1 h2
def Bd(lo:Int)(g:Int->Int):Prop:=∀n,lo<=n->n<=100000-> -6<=g n/\g n<=100000
theorem zA6(k:Nat)(n:Int)(h: -10<=n)(h2:n<=100000): -1<=zD k n/\zD k n<=100000:=⟨(zMZ k n h).1,zMa h2 (by omega)⟩
theorem zCW{α:Type}{g:α->Int->Int}:∀(l:List α),(∀x∈l,Bd (-6) (g x))->Bd (-6) (zE g l)
 | [],_,n,h1,h2=>⟨h1,h2⟩
 |x::l,h,n,h1,h2=>by
  unfold zE;split
  .exact⟨h1,h2⟩
  have:=h x (by simp) n h1 h2
  exact zCW l (fun y hy=>h y (by simp[hy])) _ this.1 this.2
theorem zRi(l:List Ty):∀n,Ty.roomAll l n=zE Ty.room l n:=by
 induction l with
 |nil=>intro n;rfl
 |cons t l ih=>intro n;simp[Ty.roomAll,zE,ih]
theorem zB0(t:Ty)(n:Int):t.room n=zE Ty.room t.args (zD t.name.size n):=by rw[zXL,zRi]
theorem zO2:∀(t:Ty),Bd (-10) t.room:=by
 refine Ty.ind fun t ih n h1 h2=>?_
 rw[zB0]
 have:=zA6 t.name.size n h1 h2
 exact zCW _ (fun x hx m a b=>ih x hx m (by omega) b) _ (by omega) this.2
theorem zKG(l:List BA):Bd (-1) (z6 l):=fun n h1 h2=>by
 refine zCW l (fun s _ m a b=>?_) _ (by omega) (by omega)
 have:=zA6 s.size m (by omega) b
 omega
theorem zHZ(x:Pl):Bd (-10) x.room:=fun n h1 h2=>by
 have:=zA6 x.name.size n h1 h2
 exact zKG _ _ this.1 this.2
theorem zRj:∀(e:Ex),Bd (-10) e.room:=by
 refine Ex.ind fun e ih n h1 h2=>?_
 rw[zDK]
 have a:=zA6 e.name.size n h1 h2
 have b:=zA6 e.u2.size _ (by omega) a.2
 have c:=zHZ e.place _ (by omega) b.2
 exact zCW _ (fun x hx m a b=>ih x hx m (by omega) b) _ c.1 c.2
theorem zZW(s:St)(n:Int)(h1: -10<=n)(h2:n<=100000): -6<=s.room1 n/\s.room1 n<=100000:=by
 have a:=zA6 s.name.size n h1 h2
 have b:=zA6 s.u2.size _ (by omega) a.2
 have c:=zKG s.names _ b.1 b.2
 have d:=zO2 s.type _ (by omega) c.2
 exact zHZ s.place _ (by omega) d.2
theorem zXM:∀(s:St),Bd (-10) s.room:=by
 refine St.ind fun s Vb Pb Md n h1 h2=>?_
 rw[zEo]
 have a:=zZW s n h1 h2
 have b:=zCW s.u3 (fun x hx m a b=>zRj x m (by omega) b) _ a.1 a.2
 split
 .exact b
 have c:=zCW s.body (fun x hx m a b=>Vb x hx m (by omega) b) _ b.1 b.2
 have d:=zCW s.els (fun x hx m a b=>Pb x hx m (by omega) b) _ c.1 c.2
 refine zCW s.arms (fun x hx m a b=>?_) _ d.1 d.2
 rw[zCs]
 have e:=zA6 x.variant.size m (by omega) b
 have f:=zA6 x.name.size _ (by omega) e.2
 exact zCW x.body (fun y hy m a b=>Md x hx y hy m (by omega) b) _ (by omega) f.2
theorem zbG(x:Ar):Bd (-6) x.room:=fun n h1 h2=>by
 rw[zCs]
 have e:=zA6 x.variant.size n (by omega) h2
 have f:=zA6 x.name.size _ (by omega) e.2
 exact zCW x.body (fun y hy m a b=>zXM y m (by omega) b) _ (by omega) f.2
theorem zXN(x:Fi):Bd (-6) x.room:=fun n h1 h2=>by
 have e:=zA6 x.name.size n (by omega) h2
 exact zO2 x.type _ (by omega) e.2
def Rnd{α:Type}(g:α->Int->Int)(l:List α)(Gi:Int)(x:Nat × Int):Prop:=x.1<=l.length/\ -6<=x.2/\x.2<=100000/\zE g (l.drop x.1) x.2=Gi
theorem Rnd.next{α:Type}{g:α->Int->Int}{l:List α}{Gi:Int}{m:Int}(h:Rnd g l Gi (q,m))(hq:q<l.length)(hm:0<=m)(hb:Bd (-6) (g l[q])):Rnd g l Gi (q+1,g l[q] m):=by
 obtain⟨_,h1,h2,h3⟩:=h
 have:=hb m h1 h2
 exact⟨hq,this.1,this.2,by rw[<-h3];exact(zKE hq hm).symm⟩
theorem Rnd.neg{α:Type}{g:α->Int->Int}{l:List α}{Gi:Int}{m:Int}(h:Rnd g l Gi (q,m))(hm:m<0):m=Gi:=by rw[<-h.2.2.2];exact(zEn hm).symm
theorem Rnd.done{α:Type}{g:α->Int->Int}{l:List α}{Gi:Int}{m:Int}(h:Rnd g l Gi (q,m))(hq:¬q<l.length):m=Gi:=by rw[<-h.2.2.2];exact(zKF (by omega)).symm
theorem Rnd.start{α:Type}{g:α->Int->Int}{l:List α}(h1: -6<=n)(h2:n<=100000):Rnd g l (zE g l n) (0,n):=⟨Nat.zero_le _,h1,h2,rfl⟩
theorem zXO:∀(t:Ty),RmC 29 (-10) (.agg [U t.kind,Sg t.name,.p (.sl 3 (t.args.map Ty.enc))]) t.room:=by
 refine Ty.ind fun t ih S d i n hS h1 h2=>?_
 refine ADet.bound (cs:=[.p (pU t.kind),.p (pS t.name),.p (.sl 3 (t.args.map Ty.enc))]) call29 1 2 rfl rfl fun ca=>?_
 simp only[List.length_map]at ca;refine ADet.intro mixed call29 func29 rfl ?_
 have vf:=zA6 t.name.size n h1 h2
 simp[hS,ntmps29];refine cq (zIL _ _ _ _ _ (by simpa [zAN]using hS) h1 h2) ?_
 simp;refine zF (Rnd Ty.room t.args (t.room n)) (fun x=>([.ptr (d+1) i 0,.any,.any,.ptr 0 0 0,I x.1]++List.replicate 25 .any)) (fun x=>[.cells [U t.kind,Sg t.name,.p (.sl 3 (t.args.map Ty.enc))] 36]::set2 S d i (rm x.2)) (fun x=>t.args.length-x.1) (0,zD t.name.size n) (by rw[zB0];exact .start (by omega) vf.2) ?_ ?_ ?_
 .simp
 .simp
 rintro⟨q,m⟩ hI
 by_cases hlt:q<t.args.length
 .rcases Int.lt_or_le m 0 with Db|hnn
  .obtain rfl:=hI.neg Db
   simp[hlt,hS,rm,Int.not_le.2 Db]
  simp[hlt,hS,rm,hnn,zc]
  refine cq (ih _ (List.getElem_mem hlt) _ _ _ m (by simp[zAN,zw,hS,rm]) (by have:=hI.2.1;omega) hI.2.2.1) ?_
  simp[rm];exact⟨q+1,t.args[q].room m,hI.next hlt hnn (fun m a b=>zO2 _ m (by omega) b),by omega,zB hlt,rfl⟩
 obtain rfl:=hI.done hlt
 simp[hlt,hS,rm]
theorem zVv(l:List BA):RmC 56 (-1) (.p (strs l)) (z6 l):=by
 intro S d i n hS h1 h2;unfold strs;refine ADet.boundL call56 1 rfl fun ca=>?_
 simp only[List.length_map]at ca;refine ADet.intro mixed call56 func56 rfl ?_
 have w1:IntKind.i64.wrap (n-5)=n-5:=wr
 simp[hS,rm,w1,ntmps56];refine zF (Rnd (fun s=>zD s.size) l (z6 l n)) (fun x=>([.ptr (d+1) i 0,.p (.sl 1 (l.map fun s=>[pS s])),.any,.any,I x.1]++List.replicate 27 .any)) (fun x=>[]::set2 S d i (rm x.2)) (fun x=>l.length-x.1) (0,n-5) (.start (by omega) (by omega)) ?_ ?_ ?_
 .simp
 .simp[rm]
 rintro⟨q,m⟩ hI
 by_cases hlt:q<l.length
 .rcases Int.lt_or_le m 0 with Db|hnn
  .obtain rfl:=hI.neg Db
   simp[hlt,hS,rm,Int.not_le.2 Db]
  simp[hlt,hS,rm,hnn]
  refine cq (zIL _ _ _ _ m (by simp[zAN,zw,hS,rm]) (by have:=hI.2.1;omega) hI.2.2.1) ?_
  simp[rm];exact⟨q+1,zD l[q].size m,hI.next hlt hnn (fun m a b=>by have:=zA6 l[q].size m (by omega) b;omega),by omega,zB hlt,rfl⟩
 obtain rfl:=hI.done hlt
 simp[hlt,hS,rm]
theorem zVw(x:Pl):RmC 57 (-10) (.agg [Sg x.name,.p (strs x.path)]) x.room:=by
 intro S d i n hS h1 h2;refine ADet.intro mixed call57 func57 rfl ?_
 have vf:=zA6 x.name.size n h1 h2
 simp[hS,ntmps57];refine cq (zIL _ _ _ _ _ (by simpa [zAN]using hS) h1 h2) ?_
 simp;refine cq (zVv _ _ _ _ (zD x.name.size n) (by simp[zAN,zw,hS]) vf.1 vf.2) ?_
 simp[Pl.room]
theorem zXP:∀(e:Ex),RmC 31 (-10) (.agg [U e.op,I e.int,Sg e.name,Sg e.u2,Sg e.place.name,.p (strs e.place.path),.p (.sl 8 (e.args.map Ex.enc)),I e.pos]) e.room:=by
 refine Ex.ind fun e ih S d i n hS h1 h2=>?_
 refine ADet.bound (cs:=[U e.op,I e.int,Sg e.name,Sg e.u2,Sg e.place.name,.p (strs e.place.path),.p (.sl 8 (e.args.map Ex.enc)),I e.pos]) call31 1 6 rfl rfl fun ca=>?_
 simp only[List.length_map]at ca;refine ADet.intro mixed call31 func31 rfl ?_
 have b1:=zA6 e.name.size n h1 h2
 have b2:=zA6 e.u2.size _ (by omega) b1.2
 have b3:=zHZ e.place _ (by omega) b2.2
 simp[hS,ntmps31];refine cq (zIL _ _ _ _ _ (by simpa [zAN]using hS) h1 h2) ?_
 simp;refine cq (zIL _ _ _ _ (zD e.name.size n) (by simp[zAN,zw,hS]) (by omega) b1.2) ?_
 simp;refine cq (zVw e.place _ _ _ _ (by simp[zAN,zw,hS]) (by omega) b2.2) ?_
 simp;refine zF (Rnd Ex.room e.args (e.room n)) (fun x=>([.ptr (d+1) i 0,.any,.any,.ptr 0 0 0,I x.1]++List.replicate 33 .any)) (fun x=>[.cells [U e.op,I e.int,Sg e.name,Sg e.u2,Sg e.place.name,.p (strs e.place.path),.p (.sl 8 (e.args.map Ex.enc)),I e.pos] 43]::set2 S d i (rm x.2)) (fun x=>e.args.length-x.1) (0,e.place.room (zD e.u2.size (zD e.name.size n))) (by rw[zDK];exact .start b3.1 b3.2) ?_ ?_ ?_
 .simp
 .simp
 rintro⟨q,m⟩ hI
 by_cases hlt:q<e.args.length
 .rcases Int.lt_or_le m 0 with Db|hnn
  .obtain rfl:=hI.neg Db
   simp[hlt,hS,rm,Int.not_le.2 Db]
  simp[hlt,hS,rm,hnn,zf]
  refine cq (ih _ (List.getElem_mem hlt) _ _ _ m (by simp[zAN,zw,hS,rm]) (by have:=hI.2.1;omega) hI.2.2.1) ?_
  simp[rm];exact⟨q+1,e.args[q].room m,hI.next hlt hnn (fun m a b=>zRj _ m (by omega) b),by omega,zB hlt,rfl⟩
 obtain rfl:=hI.done hlt
 simp[hlt,hS,rm]
def StC(l:List St):Prop:=RmC 30 (-6) (.p (.sl 15 (l.map St.enc))) (zE St.room l)
theorem zNq(l:List St):Bd (-6) (zE St.room l):=zCW l fun x _ m a b=>zXM x m (by omega) b
abbrev stV(s:St):List AV:=[U s.op,Sg s.name,Sg s.u2,.p (strs s.names),U s.type.kind,Sg s.type.name,.p (.sl 3 (s.type.args.map Ty.enc)),I s.int,Sg s.place.name,.p (strs s.place.path),.p (.sl 8 (s.u3.map Ex.enc)),.p (.sl 15 (s.body.map St.enc)),.p (.sl 15 (s.els.map St.enc)),.p (.sl 3 (s.arms.map Ar.enc)),I s.pos]
theorem zNr(l:List St)(ih:∀s∈l,StC s.body/\StC s.els/\∀a∈s.arms,StC a.body):StC l:=by
 intro S d i n hS h1 h2;refine ADet.okP call30 1 rfl fun na=>?_
 have ca:=okl na
 refine ADet.intro mixed call30 func30 rfl ?_;simp[ntmps30];refine zF (Rnd St.room l (zE St.room l n)) (fun x=>([.ptr (d+1) i 0,.p (.sl 15 (l.map St.enc)),.any,.any,I x.1]++List.replicate 112 .any)) (fun x=>[]::set2 S d i (rm x.2)) (fun x=>l.length-x.1) (0,n) (.start h1 h2) ?_ ?_ ?_
 .simp
 .simp[zAO hS]
 rintro⟨q,m⟩ hI
 by_cases hlt:q<l.length
 .rcases Int.lt_or_le m 0 with Db|hnn
  .obtain rfl:=hI.neg Db
   simp[hlt,hS,rm,Int.not_le.2 Db]
  simp[hlt,hS,rm,hnn,zCS]
  have hs:=ih _ (List.getElem_mem hlt)
  have Ho:=zYv na (List.getElem_mem hlt)
  have Rh:=hI.next hlt hnn (fun m a b=>zXM _ m (by omega) b)
  generalize l[q]=s at hs Ho Rh ⊢
  have ra:=okl Ho.2.2.2.1
  have gv:=okl Ho.2.2.2.2.2.2
  have c1:=zA6 s.name.size m (by omega) hI.2.2.1
  have c2:=zA6 s.u2.size _ (by omega) c1.2
  have c3:=zKG s.names _ c2.1 c2.2
  have c4:=zO2 s.type _ (by omega) c3.2
  have c5:=zHZ s.place _ (by omega) c4.2
  refine cq (zIL _ _ _ _ m (by simp[zAN,zw,hS,rm]) (by have:=hI.2.1;omega) hI.2.2.1) ?_
  simp[rm];refine cq (zIL _ _ _ _ (zD s.name.size m) (by simp[zAN,zw,hS,rm]) (by omega) c1.2) ?_
  simp[rm];refine cq (zVv _ _ _ _ (zD s.u2.size (zD s.name.size m)) (by simp[zAN,zw,hS,rm]) (by omega) c2.2) ?_
  simp[rm];refine cq (zXO s.type _ _ _ _ (by simp[zAN,zw,hS,rm]) (by omega) c3.2) ?_
  simp[rm];refine cq (zVw s.place _ _ _ _ (by simp[zAN,zw,hS,rm]) (by omega) c4.2) ?_
  simp[rm];refine zF (Rnd Ex.room s.u3 (zE Ex.room s.u3 (s.room1 m))) (fun x=>([.ptr (d+1) i 0,.p (.sl 15 (l.map St.enc)),.any,.any,I q,.ptr 0 0 0,I x.1]++List.replicate 110 .any)) (fun x=>[.cells (stV s) 49]::set2 S d i (rm x.2)) (fun x=>s.u3.length-x.1) (0,s.room1 m) (.start c5.1 c5.2) ?_ ?_ ?_
  .simp
  .simp[rm]
   rfl
  rintro⟨k,m1⟩ hJ
  by_cases hk:k<s.u3.length/\0<=m1
  .simp[hS,rm,hk,zf]
   refine cq (zXP _ _ _ _ m1 (by simp[zAN,zw,hS,rm]) (by have:=hJ.2.1;omega) hJ.2.2.1) ?_
   simp[rm];exact⟨k+1,_,hJ.next hk.1 hk.2 (fun m a b=>zRj _ m (by omega) b),by omega,zB hk.1,rfl⟩
  have e1:m1=zE Ex.room s.u3 (s.room1 m):=by
   rcases Classical.em (k<s.u3.length)with h|h
   .exact hJ.neg (by omega)
   exact hJ.done h
  have c6:=zCW s.u3 (fun x hx m a b=>zRj x m (by omega) b) (s.room1 m) c5.1 c5.2
  have c7:=zNq s.body _ c6.1 c6.2
  have c8:=zNq s.els _ c7.1 c7.2
  have gc:=zEo s m
  rw[<-e1]at c6 c7 c8 gc
  by_cases Db:m1<0
  .rw[if_pos Db]at gc
   rw[gc]at Rh
   have Tb:=Rh.neg Db
   rcases Classical.em (k<s.u3.length)with h|h
   .simp[hS,rm,h,Db,Int.not_le.2 Db]
    rw[Tb]
   simp[hS,rm,h,Db]
   rw[Tb]
  rw[if_neg Db]at gc
  have Og:¬k<s.u3.length:=fun h=>hk ⟨h,by omega⟩
  simp[hS,rm,Og,Db,zCS];refine cq (hs.1 _ _ _ m1 (by simp[zAN,zw,hS,rm]) (by omega) c6.2) ?_
  simp[rm];refine cq (hs.2.1 _ _ _ _ (by simp[zAN,zw,hS,rm]) c7.1 c7.2) ?_
  simp[rm];refine zF (Rnd Ar.room s.arms (s.room m)) (fun x=>([.ptr (d+1) i 0,.p (.sl 15 (l.map St.enc)),.any,.any,I q,.ptr 0 0 0,.any,I x.1]++List.replicate 109 .any)) (fun x=>[.cells (stV s) 49]::set2 S d i (rm x.2)) (fun x=>s.arms.length-x.1) (0,zE St.room s.els (zE St.room s.body m1)) (by rw[gc];exact .start c8.1 c8.2) ?_ ?_ ?_
  .simp
  .simp[rm]
  rintro⟨k,m2⟩ hL
  by_cases hk:k<s.arms.length
  .rcases Int.lt_or_le m2 0 with hng|hn2
   .obtain rfl:=hL.neg hng
    simp[hS,rm,hk,Int.not_le.2 hng];exact⟨q+1,_,Rh,by omega,zB hlt,rfl⟩
   have ge:=hs.2.2 _ (List.getElem_mem hk)
   have Fe:=hL.next hk hn2 (zbG _)
   generalize ha:s.arms[k]=a at ge Fe ⊢
   simp[hS,rm,hk,hn2,ha,Ar.enc]
   have d1:=zA6 a.variant.size m2 (by omega) hL.2.2.1
   have d2:=zA6 a.name.size _ (by omega) d1.2
   refine cq (zIL _ _ _ _ m2 (by simp[zAN,zw,hS,rm]) (by omega) hL.2.2.1) ?_
   simp[hS,rm,hk,ha,Ar.enc];refine cq (zIL _ _ _ _ (zD a.variant.size m2) (by simp[zAN,zw,hS,rm]) (by omega) d1.2) ?_
   simp[hS,rm,hk,ha,Ar.enc];refine cq (ge _ _ _ (zD a.name.size (zD a.variant.size m2)) (by simp[zAN,zw,hS,rm]) (by omega) d2.2) ?_
   simp[hS,rm];exact⟨k+1,_,Fe,by omega,zB hk,by rw[zCs]⟩
  obtain rfl:=hL.done hk
  simp[hS,rm,hk];exact⟨q+1,_,Rh,by omega,zB hlt,rfl⟩
 obtain rfl:=hI.done hlt
 simp[hlt,hS,rm]
theorem stC3:∀(s:St),StC s.body/\StC s.els/\∀a∈s.arms,StC a.body:=by
 refine St.ind fun s Vb Pb Md=>⟨zNr _ Vb,zNr _ Pb,fun a ha=>zNr _ (Md a ha)⟩
theorem stC(l:List St):StC l:=zNr l fun s _=>stC3 s
theorem zRk(l:List Fi):RmC 28 (-6) (.p (.sl 4 (l.map Fi.enc))) (zE Fi.room l):=by
 intro S d i n hS h1 h2;refine ADet.okP call28 1 rfl fun na=>?_
 have ca:=okl na
 refine ADet.intro mixed call28 func28 rfl ?_;simp[ntmps28];refine zF (Rnd Fi.room l (zE Fi.room l n)) (fun x=>([.ptr (d+1) i 0,.p (.sl 4 (l.map Fi.enc)),.any,.any,I x.1]++List.replicate 27 .any)) (fun x=>[]::set2 S d i (rm x.2)) (fun x=>l.length-x.1) (0,n) (.start h1 h2) ?_ ?_ ?_
 .simp
 .simp[zAO hS]
 rintro⟨q,m⟩ hI
 by_cases hlt:q<l.length
 .rcases Int.lt_or_le m 0 with Db|hnn
  .obtain rfl:=hI.neg Db
   simp[hlt,hS,rm,Int.not_le.2 Db]
  have Rh:=hI.next hlt hnn (zXN _)
  generalize hx:l[q]=x at Rh ⊢
  have c1:=zA6 x.name.size m (by omega) hI.2.2.1
  simp[hlt,hS,rm,hnn,hx,Fi.enc];refine cq (zIL _ _ _ _ m (by simp[zAN,zw,hS,rm]) (by omega) hI.2.2.1) ?_
  simp[rm,hlt,hx,Fi.enc];refine cq (zXO x.type _ _ _ (zD x.name.size m) (by simp[zAN,zw,hS,rm]) (by omega) c1.2) ?_
  simp[rm];exact⟨q+1,_,Rh,by omega,zB hlt,rfl⟩
 obtain rfl:=hI.done hlt
 simp[hlt,hS,rm]
theorem zbH(x:It):Bd (-6) x.room:=fun n h1 h2=>by
 have a:=zA6 x.name.size n (by omega) h2
 have b:=zCW x.fields (fun x _=>zXN x) _ (by omega) a.2
 have c:=zO2 x.result _ (by omega) b.2
 have d:=zNq x.body _ c.1 c.2
 exact zRj x.ret _ (by omega) d.2
theorem zRl(S:ASt)(p:List It):ADet Tryz.prog 9 [.agg [.p (prog p)]] S (B (great p)) S:=by
 refine ADet.okA call9 0 0 rfl rfl fun na=>?_
 have ca:=okl na
 refine ADet.intro mixed call9 func9 rfl ?_;simp[ntmps9];refine zF (Rnd It.room p (zE It.room p 20000)) (fun x=>([.any,.ptr 0 0 0,B false,.ptr 0 1 0,I x.1]++List.replicate 47 .any)) (fun x=>[.cells [.p (prog p)] 24,rm x.2]::S) (fun x=>p.length-x.1) (0,20000) (.start (by omega) (by omega)) ?_ ?_ ?_
 .simp
 .simp[rm]
 rintro⟨q,m⟩ hI
 by_cases hlt:q<p.length
 .rcases Int.lt_or_le m 0 with Db|hnn
  .obtain rfl:=hI.neg Db
   simp[hlt,rm,Int.not_le.2 Db,prog,great]
  have Rh:=hI.next hlt hnn (zbH _)
  have Ms:=zYw na (List.getElem_mem hlt)
  generalize hx:p[q]=x at Rh Ms ⊢
  have c1:=zA6 x.name.size m (by omega) hI.2.2.1
  have c2:=zCW x.fields (fun x _=>zXN x) _ (by omega) c1.2
  have c3:=zO2 x.result _ (by omega) c2.2
  have c4:=zNq x.body _ c3.1 c3.2
  simp[hlt,rm,hnn,hx,prog,It.enc];refine cq (zIL _ _ 0 1 m (by simp[zBO,rm]) (by omega) hI.2.2.1) ?_
  simp[rm];refine cq (zRk x.fields _ 0 1 (zD x.name.size m) (by simp[zBO,rm]) (by omega) c1.2) ?_
  simp[rm];refine cq (zXO x.result _ 0 1 _ (by simp[zBO,rm]) (by omega) c2.2) ?_
  simp[rm];refine cq (stC x.body _ 0 1 _ (by simp[zBO,rm]) (by omega) c3.2) ?_
  simp[rm];refine cq (zXP x.ret _ 0 1 _ (by simp[zBO,rm]) (by omega) c4.2) ?_
  simp[rm];exact⟨q+1,_,Rh,by omega,zB hlt,rfl⟩
 obtain rfl:=hI.done hlt
 simp[hlt,rm,prog,great]
end Go.Proofs.YtdflkegnmmkkoaaGreatDoor
namespace Go.Proofs.YtdflkegnmmkkoaaGreatDoor
open Go.RowKit _root_.Go.Proofs.Tryz
variable{n:Int}
inductive TySm:Ty->Prop
 |mk (t:Ty):t.name.size<=20000->t.args.length<=20000->(∀x∈t.args,TySm x)->TySm t
def NmSm(l:List BA):Prop:=l.length<=20000/\∀s∈l,s.size<=20000
def PlSm(x:Pl):Prop:=x.name.size<=20000/\NmSm x.path
inductive ExSm:Ex->Prop
 |mk (e:Ex):e.name.size<=20000->e.u2.size<=20000->PlSm e.place->e.args.length<=20000->(∀x∈e.args,ExSm x)->ExSm e
def zZX(l:List Ex):Prop:=l.length<=20000/\∀x∈l,ExSm x
inductive StSm:St->Prop
 |mk (s:St):s.name.size<=20000->s.u2.size<=20000->NmSm s.names->TySm s.type->PlSm s.place->zZX s.u3->s.body.length<=20000->s.els.length<=20000->s.arms.length<=20000->
  (∀x∈s.body,StSm x)->(∀x∈s.els,StSm x)->(∀a∈s.arms,a.variant.size<=20000/\a.name.size<=20000/\a.body.length<=20000)->(∀a∈s.arms,∀x∈a.body,StSm x)->StSm s
def zZY(l:List St):Prop:=l.length<=20000/\∀x∈l,StSm x
def FiSm(x:Fi):Prop:=x.name.size<=20000/\TySm x.type
def zMb(l:List Fi):Prop:=l.length<=20000/\∀x∈l,FiSm x
def ItSm(x:It):Prop:=x.name.size<=20000/\zMb x.fields/\TySm x.result/\zZY x.body/\ExSm x.ret
def PrSm(p:List It):Prop:=p.length<=20000/\∀x∈p,ItSm x
theorem zCh{α:Type}{g:α->Int->Int}:∀(l:List α) (n:Int),(∀x∈l,∀m,-6<=m->m<=100000-> -6<=g x m/\(g x m<=m-5\/g x m<0))-> -6<=n->n<=100000->0<=zE g l n->(5*(l.length:Int)<=n)/\zE g l n<=n/\∀x∈l,∃m,0<=m/\m<=n/\0<=g x m
 | [],n,h,h1,h2,h3=>by
  unfold zE at h3
  exact⟨by simpa using h3,by simp[zE],fun x hx=>by simp at hx⟩
 |x::l,n,h,h1,h2,h3=>by
  unfold zE at h3;split at h3
  .omega
  rename_i hn
  have hx:=h x (by simp) n h1 h2
  have vd:0<=g x n:=by
   rcases Int.lt_or_le (g x n) 0 with hg|hg
   .rw[zEn hg]at h3;omega
   exact hg
  obtain⟨i1,i2,i3⟩:=zCh l (g x n) (fun y hy=>h y (by simp[hy])) hx.1 (by omega) h3
  refine⟨by simp only[List.length_cons];omega,by unfold zE;rw[if_neg hn];omega,fun y hy=>?_⟩
  rcases List.mem_cons.1 hy with rfl|hy
  .exact⟨n,by omega,by omega,vd⟩
  obtain⟨m,m1,m2,m3⟩:=i3 y hy
  exact⟨m,m1,by omega,m3⟩
theorem zv{α:Type}{g:α->Int->Int}{l:List α}(h:0<=zE g l n):0<=n:=by
 rcases Int.lt_or_le n 0 with hn|hn
 .rw[zEn hn]at h;omega
 exact hn
theorem zCy{α:Type}{g:α->Int->Int}:∀(l:List α) (n:Int),(∀x∈l,∀m,-6<=m->m<=100000-> -6<=g x m/\(g x m<=m-5\/g x m<0))-> -6<=n->n<=100000-> -6<=zE g l n/\(zE g l n<=n\/zE g l n<0)
 | [],n,h,h1,h2=>⟨h1,.inl (Int.le_refl _)⟩
 |x::l,n,h,h1,h2=>by
  unfold zE;split
  .omega
  have hx:=h x (by simp) n h1 h2
  have:=zCy l (g x n) (fun y hy=>h y (by simp[hy])) hx.1 (by omega)
  omega
theorem zL{k:Nat}(h:0<=zD k n):(k:Int)+5<=n/\zD k n=n-5-k:=by
 unfold zD at h ⊢;split at h
 .omega
 split at h
 .omega
 rename_i h1 h2;rw[if_neg h1,if_neg h2];omega
theorem zd(k:Nat)(n:Int)(h: -10<=n): -1<=zD k n/\(zD k n<=n-5\/zD k n<0):=by
 unfold zD;split<;>(try split)<;>omega
def Cst(g:Int->Int):Prop:=∀m,-10<=m->m<=100000-> -6<=g m/\(g m<=m-5\/g m<0)
theorem zIM:∀(t:Ty),Cst t.room:=by
 refine Ty.ind fun t ih n h1 h2=>?_
 rw[zB0]
 have a:=zd t.name.size n h1
 have:=zCy t.args _ (fun x hx m a b=>ih x hx m (by omega) b) (by omega:(-6:Int)<=zD t.name.size n) (by omega)
 omega
theorem zHa(l:List BA)(n:Int)(h1: -1<=n)(h2:n<=100000): -6<=z6 l n/\(z6 l n<=n\/z6 l n<0):=by
 have:=zCy l (n-5) (g:=fun s m=>zD s.size m) (fun x hx m a b=>by have:=zd x.size m (by omega);omega) (by omega) (by omega)
 unfold z6;omega
theorem zRm(x:Pl):Cst x.room:=fun n h1 h2=>by
 have a:=zd x.name.size n h1
 have:=zHa x.path (zD x.name.size n) a.1 (by omega)
 unfold Pl.room;omega
theorem zNs:∀(e:Ex),Cst e.room:=by
 refine Ex.ind fun e ih n h1 h2=>?_
 rw[zDK]
 have a:=zd e.name.size n h1
 have b:=zd e.u2.size (zD e.name.size n) (by omega)
 have c:=zRm e.place _ (by omega:(-10:Int)<=zD e.u2.size (zD e.name.size n)) (by omega)
 have:=zCy e.args _ (fun x hx m a b=>ih x hx m (by omega) b) c.1 (by omega)
 omega
theorem zXQ:∀(t:Ty) (n:Int),-10<=n->n<=20000->0<=t.room n->TySm t:=by
 refine Ty.ind fun t ih n h1 h2 h=>?_
 rw[zB0]at h
 have hp:=zv h
 have a:=zL hp
 have f:=zCh t.args _ (fun x hx m a b=>zIM x m (by omega) b) (by omega) (by omega) h
 exact .mk t (by omega) (by omega) fun x hx=>by
  obtain⟨m,m1,m2,m3⟩:=f.2.2 x hx
  exact ih x hx m (by omega) (by omega) m3
theorem zZZ{l:List BA}(h1: -1<=n)(h2:n<=20000)(h:0<=z6 l n):NmSm l:=by
 have f:=zCh l (n-5) (g:=fun s m=>zD s.size m) (fun x hx m a b=>by have:=zd x.size m (by omega);omega) (by omega) (by omega) h
 exact⟨by omega,fun s hs=>by
  obtain⟨m,m1,m2,m3⟩:=f.2.2 s hs
  have:=zL m3
  omega⟩
theorem zEp{l:List BA}(h:0<=z6 l n):0<=n:=by have:=zv h;omega
theorem zZa{x:Pl}(h2:n<=20000)(h:0<=x.room n):PlSm x:=by
 have hp:=zEp h
 have a:=zL hp
 exact⟨by omega,zZZ (by omega) (by omega) h⟩
theorem zJY{x:Pl}(h:0<=x.room n):0<=n:=by
 have a:=zL (zEp h)
 omega
theorem zXR:∀(e:Ex) (n:Int),-10<=n->n<=20000->0<=e.room n->ExSm e:=by
 refine Ex.ind fun e ih n h1 h2 h=>?_
 rw[zDK]at h
 have hp:=zv h
 have hq:=zJY hp
 have b:=zL hq
 have a:=zL (by omega:0<=zD e.name.size n)
 have c:=zRm e.place _ (by omega:(-10:Int)<=zD e.u2.size (zD e.name.size n)) (by omega)
 have f:=zCh e.args _ (fun x hx m a b=>zNs x m (by omega) b) c.1 (by omega) h
 exact .mk e (by omega) (by omega) (zZa (by omega) hp) (by omega) fun x hx=>by
  obtain⟨m,m1,m2,m3⟩:=f.2.2 x hx
  exact ih x hx m (by omega) (by omega) m3
theorem zZb{l:List Ex}(h1: -6<=n)(h2:n<=20000)(h:0<=zE Ex.room l n):zZX l:=by
 have f:=zCh l n (fun x hx m a b=>zNs x m (by omega) b) h1 (by omega) h
 exact⟨by omega,fun x hx=>by
  obtain⟨m,m1,m2,m3⟩:=f.2.2 x hx
  exact zXR x m (by omega) (by omega) m3⟩
theorem zRn(s:St)(n:Int)(h1: -10<=n)(h2:n<=100000): -6<=s.room1 n/\(s.room1 n<=n-5\/s.room1 n<0):=by
 have a:=zd s.name.size n h1
 have b:=zd s.u2.size (zD s.name.size n) (by omega)
 have c:=zHa s.names (zD s.u2.size (zD s.name.size n)) (by omega) (by omega)
 have d:=zIM s.type _ (by omega:(-10:Int)<=z6 s.names (zD s.u2.size (zD s.name.size n))) (by omega)
 have e:=zRm s.place _ (by omega:(-10:Int)<=s.type.room (z6 s.names (zD s.u2.size (zD s.name.size n)))) (by omega)
 unfold St.room1;omega
theorem zVx(l:List Ex)(n:Int)(h1: -6<=n)(h2:n<=100000): -6<=zE Ex.room l n/\(zE Ex.room l n<=n\/zE Ex.room l n<0):=zCy l n (fun x _ m a b=>zNs x m (by omega) b) h1 h2
theorem zJZ:∀(s:St),Cst s.room:=by
 refine St.ind fun s Vb Pb Md n h1 h2=>?_
 rw[zEo]
 have a:=zRn s n h1 h2
 have b:=zVx s.u3 (s.room1 n) a.1 (by omega)
 split
 .omega
 have c:=zCy s.body _ (fun x hx m a b=>Vb x hx m (by omega) b) b.1 (by omega)
 have d:=zCy s.els _ (fun x hx m a b=>Pb x hx m (by omega) b) c.1 (by omega)
 have e:=zCy (g:=Ar.room) s.arms _ (fun x hx m a b=>by
  rw[zCs]
  have e:=zd x.variant.size m (by omega)
  have f:=zd x.name.size (zD x.variant.size m) (by omega)
  have:=zCy x.body _ (fun y hy m a b=>Md x hx y hy m (by omega) b) (by omega:(-6:Int)<=zD x.name.size (zD x.variant.size m)) (by omega)
  omega) d.1 (by omega)
 omega
theorem zLZ(l:List St)(n:Int)(h1: -6<=n)(h2:n<=100000): -6<=zE St.room l n/\(zE St.room l n<=n\/zE St.room l n<0):=zCy l n (fun x _ m a b=>zJZ x m (by omega) b) h1 h2
theorem zZc(x:Ar)(m:Int)(a: -6<=m)(b:m<=100000): -6<=x.room m/\(x.room m<=m-5\/x.room m<0):=by
 rw[zCs]
 have e:=zd x.variant.size m (by omega)
 have f:=zd x.name.size (zD x.variant.size m) (by omega)
 have:=zLZ x.body _ (by omega:(-6:Int)<=zD x.name.size (zD x.variant.size m)) (by omega)
 omega
theorem zbI:∀(s:St) (n:Int),-10<=n->n<=20000->0<=s.room n->StSm s:=by
 refine St.ind fun s Vb Pb Md n h1 h2 h=>?_
 rw[zEo]at h;split at h
 .omega
 rename_i hx
 have a:=zRn s n h1 (by omega)
 have hx:0<=zE Ex.room s.u3 (s.room1 n):=by omega
 have h0:=zv hx
 have hp:=zJY h0
 have b1:=zVx s.u3 (s.room1 n) a.1 (by omega)
 have c1:=zLZ s.body _ b1.1 (by omega)
 have d1:=zLZ s.els _ c1.1 (by omega)
 have fA:=zCh s.arms _ (fun x _ m a b=>zZc x m a b) d1.1 (by omega) h
 have hE:=zv h
 have fE:=zCh s.els _ (fun x _ m a b=>zJZ x m (by omega) b) c1.1 (by omega) hE
 have hB:=zv hE
 have fB:=zCh s.body _ (fun x _ m a b=>zJZ x m (by omega) b) b1.1 (by omega) hB
 have n1:=zd s.name.size n h1
 have n2:=zd s.u2.size (zD s.name.size n) (by omega)
 have n3:=zHa s.names (zD s.u2.size (zD s.name.size n)) (by omega) (by omega)
 have n4:=zIM s.type _ (by omega:(-10:Int)<=z6 s.names (zD s.u2.size (zD s.name.size n))) (by omega)
 have tp:0<=z6 s.names (zD s.u2.size (zD s.name.size n)):=by
  have:=hp
  rw[zB0]at this
  have:=zL (zv this)
  omega
 have np:=zEp tp
 have k2:=zL np
 have k1:=zL (by omega:0<=zD s.name.size n)
 refine .mk s (by omega) (by omega) (zZZ (by omega) (by omega) tp) (zXQ _ _ (by omega) (by omega) hp) (zZa (by omega) h0) (zZb a.1 (by omega) hx) (by omega) (by omega) (by omega) (fun x hx=>?_) (fun x hx=>?_) (fun x hx=>?_) (fun x hx y hy=>?_)
 .obtain⟨m,m1,m2,m3⟩:=fB.2.2 x hx
  exact Vb x hx m (by omega) (by omega) m3
 .obtain⟨m,m1,m2,m3⟩:=fE.2.2 x hx
  exact Pb x hx m (by omega) (by omega) m3
 .obtain⟨m,m1,m2,m3⟩:=fA.2.2 x hx
  rw[zCs]at m3
  have k2:=zL (zv m3)
  have k1:=zL (by omega:0<=zD x.variant.size m)
  have f:=zCh x.body _ (fun x _ m a b=>zJZ x m (by omega) b) (by omega) (by omega) m3
  exact⟨by omega,by omega,by omega⟩
 obtain⟨m,m1,m2,m3⟩:=fA.2.2 x hx
 rw[zCs]at m3
 have k2:=zL (zv m3)
 have k1:=zL (by omega:0<=zD x.variant.size m)
 have f:=zCh x.body _ (fun x _ m a b=>zJZ x m (by omega) b) (by omega) (by omega) m3
 obtain⟨i,i1,i2,i3⟩:=f.2.2 y hy
 exact Md x hx y hy i (by omega) (by omega) i3
theorem zZd{l:List St}(h1: -6<=n)(h2:n<=20000)(h:0<=zE St.room l n):zZY l:=by
 have f:=zCh l n (fun x hx m a b=>zJZ x m (by omega) b) h1 (by omega) h
 exact⟨by omega,fun x hx=>by
  obtain⟨m,m1,m2,m3⟩:=f.2.2 x hx
  exact zbI x m (by omega) (by omega) m3⟩
theorem zRo(x:Fi)(n:Int)(h1: -6<=n)(h2:n<=100000): -6<=x.room n/\(x.room n<=n-5\/x.room n<0):=by
 have a:=zd x.name.size n (by omega)
 have b:=zIM x.type (zD x.name.size n) (by omega) (by omega)
 unfold Fi.room;omega
theorem zVy{l:List Fi}(h1: -6<=n)(h2:n<=20000)(h:0<=zE Fi.room l n):zMb l:=by
 have f:=zCh l n (fun x hx m a b=>zRo x m a b) h1 (by omega) h
 exact⟨by omega,fun x hx=>by
  obtain⟨m,m1,m2,m3⟩:=f.2.2 x hx
  have e:=zd x.name.size m (by omega)
  refine⟨?_,zXQ _ _ (by omega) (by omega) m3⟩
  unfold Fi.room at m3;rw[zB0]at m3
  have:=zL (zv m3)
  have:=zL (by omega:0<=zD x.name.size m)
  omega⟩
theorem zZe(x:It)(n:Int)(h1: -6<=n)(h2:n<=100000): -6<=x.room n/\(x.room n<=n-5\/x.room n<0):=by
 have a:=zd x.name.size n (by omega)
 have b:=zCy x.fields _ (fun x _ m a b=>zRo x m a b) (by omega:(-6:Int)<=zD x.name.size n) (by omega)
 have c:=zIM x.result _ (by omega:(-10:Int)<=zE Fi.room x.fields (zD x.name.size n)) (by omega)
 have d:=zLZ x.body _ c.1 (by omega)
 have e:=zNs x.ret _ (by omega:(-10:Int)<=zE St.room x.body (x.result.room (zE Fi.room x.fields (zD x.name.size n)))) (by omega)
 unfold It.room;omega
theorem zRp{p:List It}(h:great p=false):PrSm p:=by
 have h:0<=zE It.room p 20000:=by simpa [great]using h
 have f:=zCh p 20000 (fun x hx m a b=>zZe x m a b) (by omega) (by omega) h
 refine⟨by omega,fun x hx=>?_⟩
 obtain⟨n,h1,h2,h3⟩:=f.2.2 x hx
 have a:=zd x.name.size n (by omega)
 have b:=zCy x.fields _ (fun x _ m a b=>zRo x m a b) (by omega:(-6:Int)<=zD x.name.size n) (by omega)
 have c:=zIM x.result _ (by omega:(-10:Int)<=zE Fi.room x.fields (zD x.name.size n)) (by omega)
 have d:=zLZ x.body _ c.1 (by omega)
 have e3:0<=zE St.room x.body (x.result.room (zE Fi.room x.fields (zD x.name.size n))):=by
  have:=h3
  unfold It.room at this;rw[zDK]at this
  have k2:=zL (zJY (zv this))
  have k1:=zL (by omega:0<=zD x.ret.name.size (zE St.room x.body (x.result.room (zE Fi.room x.fields (zD x.name.size n)))))
  omega
 have e2:=zv e3
 have e1:0<=zE Fi.room x.fields (zD x.name.size n):=by
  have:=e2
  rw[zB0]at this
  have:=zL (zv this)
  omega
 have k:=zL (zv e1)
 exact⟨by omega,zVy (by omega) (by omega) e1,zXQ _ _ (by omega) (by omega) e2,zZd c.1 (by omega) e3,zXR _ _ (by omega) (by omega) h3⟩
end Go.Proofs.YtdflkegnmmkkoaaGreatDoor
