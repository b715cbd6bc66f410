/- A part of the proof. -/
import Derived.Test.YtgpajpilkapciaaGreatDoorXMSimp
import Derived.Test.YtgpajpilkapciaaGreatDoorXMLt
set_option linter.unusedVariables false
set_option linter.unusedSimpArgs false
set_option maxRecDepth 100000
set_option maxHeartbeats 32000000
namespace Go.Proofs.YtgpajpilkapciaaGreatDoor
open Go.RowKit _root_.Go.Proofs.Tryz
variable{n:Int}{q:Nat}
def zC(k:Nat)(n:Int):Int:=if n<5 then-1 else if(k:Int)>n-5 then-1 else n-5-k
theorem zL1(k:Nat)(n:Int)(h: -10<=n): -1<=zC k n/\zC k n<=n+9/\(0<=n->zC k n<=n):=by unfold zC;split<;>(try split)<;>omega
mutual
def Ty.room:Ty->Int->Int
 | .mk _ s l,n=>Ty.roomAll l (zC s.size n)
def Ty.roomAll:List Ty->Int->Int
 | [],n=>n
 |t::l,n=>if n<0 then n else Ty.roomAll l (t.room n)
end
theorem zWZ(t:Ty)(n:Int):t.room n=Ty.roomAll t.args (zC t.name.size n):=by cases t;rfl
def Ty.great(t:Ty):Bool:=decide (t.room 20000<0)
def zE{α:Type}(g:α->Int->Int):List α->Int->Int
 | [],n=>n
 |x::l,n=>if n<0 then n else zE g l (g x n)
theorem zEO{α:Type}{g:α->Int->Int}{l:List α}(h:n<0):zE g l n=n:=by cases l<;>simp[zE,h]
theorem zJa{α:Type}{g:α->Int->Int}{l:List α}(hq:q<l.length)(h:0<=n):zE g (l.drop q) n=zE g (l.drop (q+1)) (g l[q] n):=by
 rw[List.drop_eq_getElem_cons hq,zE,if_neg (by omega)]
theorem zJb{α:Type}{g:α->Int->Int}{l:List α}(hq:l.length<=q):zE g (l.drop q) n=n:=by rw[List.drop_eq_nil_of_le hq];rfl
def zw(l:List BA)(n:Int):Int:=zE (fun s m=>zC s.size m) l (n-5)
def Pl.room(p:Pl)(n:Int):Int:=zw p.path (zC p.name.size n)
mutual
def Ex.room:Ex->Int->Int
 | .mk _ _ nm sc pl al _,n=>Ex.roomAll al (pl.room (zC sc.size (zC nm.size n)))
def Ex.roomAll:List Ex->Int->Int
 | [],n=>n
 |t::l,n=>if n<0 then n else Ex.roomAll l (t.room n)
end
theorem zQZ(l:List Ex):∀n,Ex.roomAll l n=zE Ex.room l n:=by
 induction l with
 |nil=>intro n;rfl
 |cons t l ih=>intro n;simp[Ex.roomAll,zE,ih]
theorem zC3(e:Ex)(n:Int):e.room n=zE Ex.room e.args (e.place.room (zC e.u4.size (zC e.name.size n))):=by cases e;simp only[Ex.room,zQZ];rfl
mutual
def St.room:St->Int->Int
 | .mk _ nm sc nms ty _ pl exs body els arms _,n=>
  if zE Ex.room exs (pl.room (ty.room (zw nms (zC sc.size (zC nm.size n)))))<0 then zE Ex.room exs (pl.room (ty.room (zw nms (zC sc.size (zC nm.size n)))))
  else Ar.roomAll arms (St.roomAll els (St.roomAll body (zE Ex.room exs (pl.room (ty.room (zw nms (zC sc.size (zC nm.size n))))))))
def St.roomAll:List St->Int->Int
 | [],n=>n
 |t::l,n=>if n<0 then n else St.roomAll l (t.room n)
def Ar.roomAll:List (ArOf St)->Int->Int
 | [],n=>n
 |⟨v,nm,b⟩::l,n=>if n<0 then n else Ar.roomAll l (St.roomAll b (zC nm.size (zC v.size n)))
end
def Ar.room(a:Ar)(n:Int):Int:=St.roomAll a.body (zC a.name.size (zC a.variant.size n))
theorem zKs(l:List St):∀n,St.roomAll l n=zE St.room l n:=by
 induction l with
 |nil=>intro n;rfl
 |cons t l ih=>intro n;simp[St.roomAll,zE,ih]
theorem zQa(l:List Ar):∀n,Ar.roomAll l n=zE Ar.room l n:=by
 induction l with
 |nil=>intro n;rfl
 |cons t l ih=>intro n;obtain⟨v,nm,b⟩:=t;simp[Ar.roomAll,zE,Ar.room,ih]
def St.room1(s:St)(n:Int):Int:=s.place.room (s.type.room (zw s.names (zC s.u4.size (zC s.name.size n))))
theorem zEP(s:St)(n:Int):s.room n=if zE Ex.room s.u5 (s.room1 n)<0 then zE Ex.room s.u5 (s.room1 n)else
  zE Ar.room s.arms (zE St.room s.els (zE St.room s.body (zE Ex.room s.u5 (s.room1 n)))):=by
 cases s;simp only[St.room,zKs,zQa];rfl
def Fi.room(x:Fi)(n:Int):Int:=x.type.room (zC x.name.size n)
theorem zCh(a:Ar)(n:Int):a.room n=zE St.room a.body (zC a.name.size (zC a.variant.size n)):=zKs _ _
def It.room(x:It)(n:Int):Int:=x.ret.room (zE St.room x.body (x.result.room (zE Fi.room x.fields (zC x.name.size n))))
def great(p:List It):Bool:=decide (zE It.room p 20000<0)
attribute [local simp] List.replicate List.range List.range.loop
def rm(n:Int):AObj:=.cells [I n] 60
theorem zL2{k:Nat}{n b:Int}(h:n<=b)(hb:0<=b):zC k n<=b:=by unfold zC;split<;>(try split)<;>omega
theorem wr(h: -1000000<=n/\n<=1000000:=by omega):IntKind.i64.wrap n=n:=IntWalk.i64_in _ (by omega)
theorem zZ6(S:ASt)(d i:Nat)(n:Int)(s:BA)(hS:get2 S d i=some (rm n))(h1: -10<=n)(h2:n<=100000):ADet Tryz.prog 13 [.ptr d i 0,Sg s] S .un (set2 S d i (rm (zC s.size n))):=by
 unfold rm at*;refine ADet.intro mixed call13 func13 rfl ?_
 have w1:IntKind.i64.wrap (n-5)=n-5:=wr
 by_cases h5:n<5
 .simp[hS,h5,ntmps13,zC]
 by_cases h6:(s.size:Int)>n-5
 .simp[hS,h5,h6,w1,ntmps13,zC]
 have w2:IntKind.i64.wrap (n-5-s.size)=n-5-s.size:=wr
 simp[hS,h5,h6,w1,w2,ntmps13,zC]
def RmC(F:Nat)(lo:Int)(v:AV)(g:Int->Int):Prop:=∀(S:ASt) (d i:Nat) (n:Int),get2 S d i=some (rm n)->lo<=n->n<=100000->ADet Tryz.prog F [.ptr d i 0,v] S .un (set2 S d i (rm (g n)))
theorem zHm(s:BA):RmC 13 (-10) (Sg s) (zC s.size):=fun S d i n h h1 h2=>zZ6 S d i n s h h1 h2
def Bd(lo:Int)(g:Int->Int):Prop:=∀n,lo<=n->n<=100000-> -6<=g n/\g n<=100000
theorem zAp(k:Nat)(n:Int)(h: -10<=n)(h2:n<=100000): -1<=zC k n/\zC k n<=100000:=⟨(zL1 k n h).1,zL2 h2 (by omega)⟩
theorem zCK{α:Type}{g:α->Int->Int}:∀(l:List α),(∀x∈l,Bd (-6) (g x))->Bd (-6) (zE g l)
 | [],_,n,h1,h2=>⟨h1,h2⟩
 |x::l,h,n,h1,h2=>by
  unfold zE;split
  .exact⟨h1,h2⟩
  have:=h x (by simp) n h1 h2
  exact zCK l (fun y hy=>h y (by simp[hy])) _ this.1 this.2
theorem zQb(l:List Ty):∀n,Ty.roomAll l n=zE Ty.room l n:=by
 induction l with
 |nil=>intro n;rfl
 |cons t l ih=>intro n;simp[Ty.roomAll,zE,ih]
theorem zBr(t:Ty)(n:Int):t.room n=zE Ty.room t.args (zC t.name.size n):=by rw[zWZ,zQb]
theorem zOQ:∀(t:Ty),Bd (-10) t.room:=by
 refine Ty.ind fun t ih n h1 h2=>?_
 rw[zBr]
 have:=zAp t.name.size n h1 h2
 exact zCK _ (fun x hx m a b=>ih x hx m (by omega) b) _ (by omega) this.2
theorem zJc(l:List BA):Bd (-1) (zw l):=fun n h1 h2=>by
 refine zCK l (fun s _ m a b=>?_) _ (by omega) (by omega)
 have:=zAp s.size m (by omega) b
 omega
theorem zG2(x:Pl):Bd (-10) x.room:=fun n h1 h2=>by
 have:=zAp x.name.size n h1 h2
 exact zJc _ _ this.1 this.2
theorem zQc:∀(e:Ex),Bd (-10) e.room:=by
 refine Ex.ind fun e ih n h1 h2=>?_
 rw[zC3]
 have a:=zAp e.name.size n h1 h2
 have b:=zAp e.u4.size _ (by omega) a.2
 have c:=zG2 e.place _ (by omega) b.2
 exact zCK _ (fun x hx m a b=>ih x hx m (by omega) b) _ c.1 c.2
theorem zYf(s:St)(n:Int)(h1: -10<=n)(h2:n<=100000): -6<=s.room1 n/\s.room1 n<=100000:=by
 have a:=zAp s.name.size n h1 h2
 have b:=zAp s.u4.size _ (by omega) a.2
 have c:=zJc s.names _ b.1 b.2
 have d:=zOQ s.type _ (by omega) c.2
 exact zG2 s.place _ (by omega) d.2
theorem zWa:∀(s:St),Bd (-10) s.room:=by
 refine St.ind fun s Ob Nb Ed n h1 h2=>?_
 rw[zEP]
 have a:=zYf s n h1 h2
 have b:=zCK s.u5 (fun x hx m a b=>zQc x m (by omega) b) _ a.1 a.2
 split
 .exact b
 have c:=zCK s.body (fun x hx m a b=>Ob x hx m (by omega) b) _ b.1 b.2
 have d:=zCK s.els (fun x hx m a b=>Nb x hx m (by omega) b) _ c.1 c.2
 refine zCK s.arms (fun x hx m a b=>?_) _ d.1 d.2
 rw[zCh]
 have e:=zAp x.variant.size m (by omega) b
 have f:=zAp x.name.size _ (by omega) e.2
 exact zCK x.body (fun y hy m a b=>Ed x hx y hy m (by omega) b) _ (by omega) f.2
theorem zZ7(x:Ar):Bd (-6) x.room:=fun n h1 h2=>by
 rw[zCh]
 have e:=zAp x.variant.size n (by omega) h2
 have f:=zAp x.name.size _ (by omega) e.2
 exact zCK x.body (fun y hy m a b=>zWa y m (by omega) b) _ (by omega) f.2
theorem zWb(x:Fi):Bd (-6) x.room:=fun n h1 h2=>by
 have e:=zAp x.name.size n (by omega) h2
 exact zOQ x.type _ (by omega) e.2
def Rnd{α:Type}(g:α->Int->Int)(l:List α)(mi:Int)(x:Nat × Int):Prop:=x.1<=l.length/\ -6<=x.2/\x.2<=100000/\zE g (l.drop x.1) x.2=mi
theorem Rnd.next{α:Type}{g:α->Int->Int}{l:List α}{mi:Int}{m:Int}(h:Rnd g l mi (q,m))(hq:q<l.length)(hm:0<=m)(hb:Bd (-6) (g l[q])):Rnd g l mi (q+1,g l[q] m):=by
 obtain⟨_,h1,h2,h3⟩:=h
 have:=hb m h1 h2
 exact⟨hq,this.1,this.2,by rw[<-h3];exact(zJa hq hm).symm⟩
theorem Rnd.neg{α:Type}{g:α->Int->Int}{l:List α}{mi:Int}{m:Int}(h:Rnd g l mi (q,m))(hm:m<0):m=mi:=by rw[<-h.2.2.2];exact(zEO hm).symm
theorem Rnd.done{α:Type}{g:α->Int->Int}{l:List α}{mi:Int}{m:Int}(h:Rnd g l mi (q,m))(hq:¬q<l.length):m=mi:=by rw[<-h.2.2.2];exact(zJb (by omega)).symm
theorem Rnd.start{α:Type}{g:α->Int->Int}{l:List α}(h1: -6<=n)(h2:n<=100000):Rnd g l (zE g l n) (0,n):=⟨Nat.zero_le _,h1,h2,rfl⟩
theorem zWc:∀(t:Ty),RmC 15 (-10) (.agg [U t.kind,Sg t.name,.p (.sl 3 (t.args.map Ty.enc))]) t.room:=by
 refine Ty.ind fun t ih S d i n hS h1 h2=>?_
 refine ADet.bound (cs:=[.p (pU t.kind),.p (pS t.name),.p (.sl 3 (t.args.map Ty.enc))]) call15 1 2 rfl rfl fun ca=>?_
 simp only[List.length_map]at ca;refine ADet.intro mixed call15 func15 rfl ?_
 have nf:=zAp t.name.size n h1 h2
 simp[hS,ntmps15];refine cq (zHm _ _ _ _ _ (by simpa [zAK]using hS) h1 h2) ?_
 simp;refine zH (Rnd Ty.room t.args (t.room n)) (fun x=>([.ptr (d+1) i 0,.any,.any,.ptr 0 0 0,I x.1]++List.replicate 25 .any)) (fun x=>[.cells [U t.kind,Sg t.name,.p (.sl 3 (t.args.map Ty.enc))] 35]::set2 S d i (rm x.2)) (fun x=>t.args.length-x.1) (0,zC t.name.size n) (by rw[zBr];exact .start (by omega) nf.2) ?_ ?_ ?_
 .simp
 .simp
 rintro⟨q,m⟩ hI
 by_cases hlt:q<t.args.length
 .rcases Int.lt_or_le m 0 with vb|hnn
  .obtain rfl:=hI.neg vb
   simp[hlt,hS,rm,Int.not_le.2 vb]
  simp[hlt,hS,rm,hnn,zP]
  refine cq (ih _ (List.getElem_mem hlt) _ _ _ m (by simp[zAK,z6,hS,rm]) (by have:=hI.2.1;omega) hI.2.2.1) ?_
  simp[rm];exact⟨q+1,t.args[q].room m,hI.next hlt hnn (fun m a b=>zOQ _ m (by omega) b),by omega,zA hlt,rfl⟩
 obtain rfl:=hI.done hlt
 simp[hlt,hS,rm]
theorem zVC(l:List BA):RmC 23 (-1) (.p (strs l)) (zw l):=by
 intro S d i n hS h1 h2;unfold strs;refine ADet.boundL call23 1 rfl fun ca=>?_
 simp only[List.length_map]at ca;refine ADet.intro mixed call23 func23 rfl ?_
 have w1:IntKind.i64.wrap (n-5)=n-5:=wr
 simp[hS,rm,w1,ntmps23];refine zH (Rnd (fun s=>zC s.size) l (zw l n)) (fun x=>([.ptr (d+1) i 0,.p (.sl 1 (l.map fun s=>[pS s])),.any,.any,I x.1]++List.replicate 27 .any)) (fun x=>[]::set2 S d i (rm x.2)) (fun x=>l.length-x.1) (0,n-5) (.start (by omega) (by omega)) ?_ ?_ ?_
 .simp
 .simp[rm]
 rintro⟨q,m⟩ hI
 by_cases hlt:q<l.length
 .rcases Int.lt_or_le m 0 with vb|hnn
  .obtain rfl:=hI.neg vb
   simp[hlt,hS,rm,Int.not_le.2 vb]
  simp[hlt,hS,rm,hnn]
  refine cq (zHm _ _ _ _ m (by simp[zAK,z6,hS,rm]) (by have:=hI.2.1;omega) hI.2.2.1) ?_
  simp[rm];exact⟨q+1,zC l[q].size m,hI.next hlt hnn (fun m a b=>by have:=zAp l[q].size m (by omega) b;omega),by omega,zA hlt,rfl⟩
 obtain rfl:=hI.done hlt
 simp[hlt,hS,rm]
theorem zVD(x:Pl):RmC 24 (-10) (.agg [Sg x.name,.p (strs x.path)]) x.room:=by
 intro S d i n hS h1 h2;refine ADet.intro mixed call24 func24 rfl ?_
 have nf:=zAp x.name.size n h1 h2
 simp[hS,ntmps24];refine cq (zHm _ _ _ _ _ (by simpa [zAK]using hS) h1 h2) ?_
 simp;refine cq (zVC _ _ _ _ (zC x.name.size n) (by simp[zAK,z6,hS]) nf.1 nf.2) ?_
 simp[Pl.room]
theorem zYg:∀(e:Ex),RmC 17 (-10) (.agg [U e.op,I e.int,Sg e.name,Sg e.u4,Sg e.place.name,.p (strs e.place.path),.p (.sl 8 (e.args.map Ex.enc)),I e.pos]) e.room:=by
 refine Ex.ind fun e ih S d i n hS h1 h2=>?_
 refine ADet.bound (cs:=[U e.op,I e.int,Sg e.name,Sg e.u4,Sg e.place.name,.p (strs e.place.path),.p (.sl 8 (e.args.map Ex.enc)),I e.pos]) call17 1 6 rfl rfl fun ca=>?_
 simp only[List.length_map]at ca;refine ADet.intro mixed call17 func17 rfl ?_
 have b1:=zAp e.name.size n h1 h2
 have b2:=zAp e.u4.size _ (by omega) b1.2
 have b3:=zG2 e.place _ (by omega) b2.2
 simp[hS,ntmps17];refine cq (zHm _ _ _ _ _ (by simpa [zAK]using hS) h1 h2) ?_
 simp;refine cq (zHm _ _ _ _ (zC e.name.size n) (by simp[zAK,z6,hS]) (by omega) b1.2) ?_
 simp;refine cq (zVD e.place _ _ _ _ (by simp[zAK,z6,hS]) (by omega) b2.2) ?_
 simp;refine zH (Rnd Ex.room e.args (e.room n)) (fun x=>([.ptr (d+1) i 0,.any,.any,.ptr 0 0 0,I x.1]++List.replicate 33 .any)) (fun x=>[.cells [U e.op,I e.int,Sg e.name,Sg e.u4,Sg e.place.name,.p (strs e.place.path),.p (.sl 8 (e.args.map Ex.enc)),I e.pos] 42]::set2 S d i (rm x.2)) (fun x=>e.args.length-x.1) (0,e.place.room (zC e.u4.size (zC e.name.size n))) (by rw[zC3];exact .start b3.1 b3.2) ?_ ?_ ?_
 .simp
 .simp
 rintro⟨q,m⟩ hI
 by_cases hlt:q<e.args.length
 .rcases Int.lt_or_le m 0 with vb|hnn
  .obtain rfl:=hI.neg vb
   simp[hlt,hS,rm,Int.not_le.2 vb]
  simp[hlt,hS,rm,hnn,zy]
  refine cq (ih _ (List.getElem_mem hlt) _ _ _ m (by simp[zAK,z6,hS,rm]) (by have:=hI.2.1;omega) hI.2.2.1) ?_
  simp[rm];exact⟨q+1,e.args[q].room m,hI.next hlt hnn (fun m a b=>zQc _ m (by omega) b),by omega,zA hlt,rfl⟩
 obtain rfl:=hI.done hlt
 simp[hlt,hS,rm]
def StC(l:List St):Prop:=RmC 16 (-6) (.p (.sl 15 (l.map St.enc))) (zE St.room l)
theorem zM9(l:List St):Bd (-6) (zE St.room l):=zCK l fun x _ m a b=>zWa x m (by omega) b
abbrev stV(s:St):List AV:=[U s.op,Sg s.name,Sg s.u4,.p (strs s.names),U s.type.kind,Sg s.type.name,.p (.sl 3 (s.type.args.map Ty.enc)),I s.int,Sg s.place.name,.p (strs s.place.path),.p (.sl 8 (s.u5.map Ex.enc)),.p (.sl 15 (s.body.map St.enc)),.p (.sl 15 (s.els.map St.enc)),.p (.sl 3 (s.arms.map Ar.enc)),I s.pos]
theorem zNA(l:List St)(ih:∀s∈l,StC s.body/\StC s.els/\∀a∈s.arms,StC a.body):StC l:=by
 intro S d i n hS h1 h2;refine ADet.okP call16 1 rfl fun na=>?_
 have ca:=okl na
 refine ADet.intro mixed call16 func16 rfl ?_;simp[ntmps16];refine zH (Rnd St.room l (zE St.room l n)) (fun x=>([.ptr (d+1) i 0,.p (.sl 15 (l.map St.enc)),.any,.any,I x.1]++List.replicate 112 .any)) (fun x=>[]::set2 S d i (rm x.2)) (fun x=>l.length-x.1) (0,n) (.start h1 h2) ?_ ?_ ?_
 .simp
 .simp[zAG hS]
 rintro⟨q,m⟩ hI
 by_cases hlt:q<l.length
 .rcases Int.lt_or_le m 0 with vb|hnn
  .obtain rfl:=hI.neg vb
   simp[hlt,hS,rm,Int.not_le.2 vb]
  simp[hlt,hS,rm,hnn,zBN]
  have hs:=ih _ (List.getElem_mem hlt)
  have to:=zX1 na (List.getElem_mem hlt)
  have Fd:=hI.next hlt hnn (fun m a b=>zWa _ m (by omega) b)
  generalize l[q]=s at hs to Fd ⊢
  have ta:=okl to.2.2.2.1
  have lv:=okl to.2.2.2.2.2.2
  have c1:=zAp s.name.size m (by omega) hI.2.2.1
  have c2:=zAp s.u4.size _ (by omega) c1.2
  have c3:=zJc s.names _ c2.1 c2.2
  have c4:=zOQ s.type _ (by omega) c3.2
  have c5:=zG2 s.place _ (by omega) c4.2
  refine cq (zHm _ _ _ _ m (by simp[zAK,z6,hS,rm]) (by have:=hI.2.1;omega) hI.2.2.1) ?_
  simp[rm];refine cq (zHm _ _ _ _ (zC s.name.size m) (by simp[zAK,z6,hS,rm]) (by omega) c1.2) ?_
  simp[rm];refine cq (zVC _ _ _ _ (zC s.u4.size (zC s.name.size m)) (by simp[zAK,z6,hS,rm]) (by omega) c2.2) ?_
  simp[rm];refine cq (zWc s.type _ _ _ _ (by simp[zAK,z6,hS,rm]) (by omega) c3.2) ?_
  simp[rm];refine cq (zVD s.place _ _ _ _ (by simp[zAK,z6,hS,rm]) (by omega) c4.2) ?_
  simp[rm];refine zH (Rnd Ex.room s.u5 (zE Ex.room s.u5 (s.room1 m))) (fun x=>([.ptr (d+1) i 0,.p (.sl 15 (l.map St.enc)),.any,.any,I q,.ptr 0 0 0,I x.1]++List.replicate 110 .any)) (fun x=>[.cells (stV s) 57]::set2 S d i (rm x.2)) (fun x=>s.u5.length-x.1) (0,s.room1 m) (.start c5.1 c5.2) ?_ ?_ ?_
  .simp
  .simp[rm]
   rfl
  rintro⟨k,m1⟩ hJ
  by_cases hk:k<s.u5.length/\0<=m1
  .simp[hS,rm,hk,zy]
   refine cq (zYg _ _ _ _ m1 (by simp[zAK,z6,hS,rm]) (by have:=hJ.2.1;omega) hJ.2.2.1) ?_
   simp[rm];exact⟨k+1,_,hJ.next hk.1 hk.2 (fun m a b=>zQc _ m (by omega) b),by omega,zA hk.1,rfl⟩
  have e1:m1=zE Ex.room s.u5 (s.room1 m):=by
   rcases Classical.em (k<s.u5.length)with h|h
   .exact hJ.neg (by omega)
   exact hJ.done h
  have c6:=zCK s.u5 (fun x hx m a b=>zQc x m (by omega) b) (s.room1 m) c5.1 c5.2
  have c7:=zM9 s.body _ c6.1 c6.2
  have c8:=zM9 s.els _ c7.1 c7.2
  have ac:=zEP s m
  rw[<-e1]at c6 c7 c8 ac
  by_cases vb:m1<0
  .rw[if_pos vb]at ac
   rw[ac]at Fd
   have Bc:=Fd.neg vb
   rcases Classical.em (k<s.u5.length)with h|h
   .simp[hS,rm,h,vb,Int.not_le.2 vb]
    rw[Bc]
   simp[hS,rm,h,vb]
   rw[Bc]
  rw[if_neg vb]at ac
  have Si:¬k<s.u5.length:=fun h=>hk ⟨h,by omega⟩
  simp[hS,rm,Si,vb,zBN];refine cq (hs.1 _ _ _ m1 (by simp[zAK,z6,hS,rm]) (by omega) c6.2) ?_
  simp[rm];refine cq (hs.2.1 _ _ _ _ (by simp[zAK,z6,hS,rm]) c7.1 c7.2) ?_
  simp[rm];refine zH (Rnd Ar.room s.arms (s.room m)) (fun x=>([.ptr (d+1) i 0,.p (.sl 15 (l.map St.enc)),.any,.any,I q,.ptr 0 0 0,.any,I x.1]++List.replicate 109 .any)) (fun x=>[.cells (stV s) 57]::set2 S d i (rm x.2)) (fun x=>s.arms.length-x.1) (0,zE St.room s.els (zE St.room s.body m1)) (by rw[ac];exact .start c8.1 c8.2) ?_ ?_ ?_
  .simp
  .simp[rm]
  rintro⟨k,m2⟩ hL
  by_cases hk:k<s.arms.length
  .rcases Int.lt_or_le m2 0 with hng|hn2
   .obtain rfl:=hL.neg hng
    simp[hS,rm,hk,Int.not_le.2 hng];exact⟨q+1,_,Fd,by omega,zA hlt,rfl⟩
   have Jd:=hs.2.2 _ (List.getElem_mem hk)
   have Gd:=hL.next hk hn2 (zZ7 _)
   generalize ha:s.arms[k]=a at Jd Gd ⊢
   simp[hS,rm,hk,hn2,ha,Ar.enc]
   have d1:=zAp a.variant.size m2 (by omega) hL.2.2.1
   have d2:=zAp a.name.size _ (by omega) d1.2
   refine cq (zHm _ _ _ _ m2 (by simp[zAK,z6,hS,rm]) (by omega) hL.2.2.1) ?_
   simp[hS,rm,hk,ha,Ar.enc];refine cq (zHm _ _ _ _ (zC a.variant.size m2) (by simp[zAK,z6,hS,rm]) (by omega) d1.2) ?_
   simp[hS,rm,hk,ha,Ar.enc];refine cq (Jd _ _ _ (zC a.name.size (zC a.variant.size m2)) (by simp[zAK,z6,hS,rm]) (by omega) d2.2) ?_
   simp[hS,rm];exact⟨k+1,_,Gd,by omega,zA hk,by rw[zCh]⟩
  obtain rfl:=hL.done hk
  simp[hS,rm,hk];exact⟨q+1,_,Fd,by omega,zA hlt,rfl⟩
 obtain rfl:=hI.done hlt
 simp[hlt,hS,rm]
theorem stC3:∀(s:St),StC s.body/\StC s.els/\∀a∈s.arms,StC a.body:=by
 refine St.ind fun s Ob Nb Ed=>⟨zNA _ Ob,zNA _ Nb,fun a ha=>zNA _ (Ed a ha)⟩
theorem stC(l:List St):StC l:=zNA l fun s _=>stC3 s
theorem zWd(l:List Fi):RmC 14 (-6) (.p (.sl 4 (l.map Fi.enc))) (zE Fi.room l):=by
 intro S d i n hS h1 h2;refine ADet.okP call14 1 rfl fun na=>?_
 have ca:=okl na
 refine ADet.intro mixed call14 func14 rfl ?_;simp[ntmps14];refine zH (Rnd Fi.room l (zE Fi.room l n)) (fun x=>([.ptr (d+1) i 0,.p (.sl 4 (l.map Fi.enc)),.any,.any,I x.1]++List.replicate 27 .any)) (fun x=>[]::set2 S d i (rm x.2)) (fun x=>l.length-x.1) (0,n) (.start h1 h2) ?_ ?_ ?_
 .simp
 .simp[zAG hS]
 rintro⟨q,m⟩ hI
 by_cases hlt:q<l.length
 .rcases Int.lt_or_le m 0 with vb|hnn
  .obtain rfl:=hI.neg vb
   simp[hlt,hS,rm,Int.not_le.2 vb]
  have Fd:=hI.next hlt hnn (zWb _)
  generalize hx:l[q]=x at Fd ⊢
  have c1:=zAp x.name.size m (by omega) hI.2.2.1
  simp[hlt,hS,rm,hnn,hx,Fi.enc];refine cq (zHm _ _ _ _ m (by simp[zAK,z6,hS,rm]) (by omega) hI.2.2.1) ?_
  simp[rm,hlt,hx,Fi.enc];refine cq (zWc x.type _ _ _ (zC x.name.size m) (by simp[zAK,z6,hS,rm]) (by omega) c1.2) ?_
  simp[rm];exact⟨q+1,_,Fd,by omega,zA hlt,rfl⟩
 obtain rfl:=hI.done hlt
 simp[hlt,hS,rm]
theorem zZ8(x:It):Bd (-6) x.room:=fun n h1 h2=>by
 have a:=zAp x.name.size n (by omega) h2
 have b:=zCK x.fields (fun x _=>zWb x) _ (by omega) a.2
 have c:=zOQ x.result _ (by omega) b.2
 have d:=zM9 x.body _ c.1 c.2
 exact zQc x.ret _ (by omega) d.2
theorem zYh(S:ASt)(p:List It):ADet Tryz.prog 8 [.agg [.p (prog p)]] S (B (great p)) S:=by
 refine ADet.okA call8 0 0 rfl rfl fun na=>?_
 have ca:=okl na
 refine ADet.intro mixed call8 func8 rfl ?_;simp[ntmps8];refine zH (Rnd It.room p (zE It.room p 20000)) (fun x=>([.any,.ptr 0 0 0,B false,.ptr 0 1 0,I x.1]++List.replicate 47 .any)) (fun x=>[.cells [.p (prog p)] 27,rm x.2]::S) (fun x=>p.length-x.1) (0,20000) (.start (by omega) (by omega)) ?_ ?_ ?_
 .simp
 .simp[rm]
 rintro⟨q,m⟩ hI
 by_cases hlt:q<p.length
 .rcases Int.lt_or_le m 0 with vb|hnn
  .obtain rfl:=hI.neg vb
   simp[hlt,rm,Int.not_le.2 vb,prog,great]
  have Fd:=hI.next hlt hnn (zZ8 _)
  have Hs:=zX2 na (List.getElem_mem hlt)
  generalize hx:p[q]=x at Fd Hs ⊢
  have c1:=zAp x.name.size m (by omega) hI.2.2.1
  have c2:=zCK x.fields (fun x _=>zWb x) _ (by omega) c1.2
  have c3:=zOQ x.result _ (by omega) c2.2
  have c4:=zM9 x.body _ c3.1 c3.2
  simp[hlt,rm,hnn,hx,prog,It.enc];refine cq (zHm _ _ 0 1 m (by simp[zBE,rm]) (by omega) hI.2.2.1) ?_
  simp[rm];refine cq (zWd x.fields _ 0 1 (zC x.name.size m) (by simp[zBE,rm]) (by omega) c1.2) ?_
  simp[rm];refine cq (zWc x.result _ 0 1 _ (by simp[zBE,rm]) (by omega) c2.2) ?_
  simp[rm];refine cq (stC x.body _ 0 1 _ (by simp[zBE,rm]) (by omega) c3.2) ?_
  simp[rm];refine cq (zYg x.ret _ 0 1 _ (by simp[zBE,rm]) (by omega) c4.2) ?_
  simp[rm];exact⟨q+1,_,Fd,by omega,zA hlt,rfl⟩
 obtain rfl:=hI.done hlt
 simp[hlt,rm,prog,great]
end Go.Proofs.YtgpajpilkapciaaGreatDoor
namespace Go.Proofs.YtgpajpilkapciaaGreatDoor
open Go.RowKit _root_.Go.Proofs.Tryz
variable{n:Int}
inductive TySm:Ty->Prop
 |mk (t:Ty):t.name.size<=20000->t.args.length<=20000->(∀x∈t.args,TySm x)->TySm t
def NmSm(l:List BA):Prop:=l.length<=20000/\∀s∈l,s.size<=20000
def PlSm(x:Pl):Prop:=x.name.size<=20000/\NmSm x.path
inductive ExSm:Ex->Prop
 |mk (e:Ex):e.name.size<=20000->e.u4.size<=20000->PlSm e.place->e.args.length<=20000->(∀x∈e.args,ExSm x)->ExSm e
def zYi(l:List Ex):Prop:=l.length<=20000/\∀x∈l,ExSm x
inductive StSm:St->Prop
 |mk (s:St):s.name.size<=20000->s.u4.size<=20000->NmSm s.names->TySm s.type->PlSm s.place->zYi s.u5->s.body.length<=20000->s.els.length<=20000->s.arms.length<=20000->
  (∀x∈s.body,StSm x)->(∀x∈s.els,StSm x)->(∀a∈s.arms,a.variant.size<=20000/\a.name.size<=20000/\a.body.length<=20000)->(∀a∈s.arms,∀x∈a.body,StSm x)->StSm s
def zYj(l:List St):Prop:=l.length<=20000/\∀x∈l,StSm x
def FiSm(x:Fi):Prop:=x.name.size<=20000/\TySm x.type
def zHn(l:List Fi):Prop:=l.length<=20000/\∀x∈l,FiSm x
def ItSm(x:It):Prop:=x.name.size<=20000/\zHn x.fields/\TySm x.result/\zYj x.body/\ExSm x.ret
def PrSm(p:List It):Prop:=p.length<=20000/\∀x∈p,ItSm x
theorem zCT{α:Type}{g:α->Int->Int}:∀(l:List α) (n:Int),(∀x∈l,∀m,-6<=m->m<=100000-> -6<=g x m/\(g x m<=m-5\/g x m<0))-> -6<=n->n<=100000->0<=zE g l n->(5*(l.length:Int)<=n)/\zE g l n<=n/\∀x∈l,∃m,0<=m/\m<=n/\0<=g x m
 | [],n,h,h1,h2,h3=>by
  unfold zE at h3
  exact⟨by simpa using h3,by simp[zE],fun x hx=>by simp at hx⟩
 |x::l,n,h,h1,h2,h3=>by
  unfold zE at h3;split at h3
  .omega
  rename_i hn
  have hx:=h x (by simp) n h1 h2
  have Xd:0<=g x n:=by
   rcases Int.lt_or_le (g x n) 0 with hg|hg
   .rw[zEO hg]at h3;omega
   exact hg
  obtain⟨i1,i2,i3⟩:=zCT l (g x n) (fun y hy=>h y (by simp[hy])) hx.1 (by omega) h3
  refine⟨by simp only[List.length_cons];omega,by unfold zE;rw[if_neg hn];omega,fun y hy=>?_⟩
  rcases List.mem_cons.1 hy with rfl|hy
  .exact⟨n,by omega,by omega,Xd⟩
  obtain⟨m,m1,m2,m3⟩:=i3 y hy
  exact⟨m,m1,by omega,m3⟩
theorem zp{α:Type}{g:α->Int->Int}{l:List α}(h:0<=zE g l n):0<=n:=by
 rcases Int.lt_or_le n 0 with hn|hn
 .rw[zEO hn]at h;omega
 exact hn
theorem zCn{α:Type}{g:α->Int->Int}:∀(l:List α) (n:Int),(∀x∈l,∀m,-6<=m->m<=100000-> -6<=g x m/\(g x m<=m-5\/g x m<0))-> -6<=n->n<=100000-> -6<=zE g l n/\(zE g l n<=n\/zE g l n<0)
 | [],n,h,h1,h2=>⟨h1,.inl (Int.le_refl _)⟩
 |x::l,n,h,h1,h2=>by
  unfold zE;split
  .omega
  have hx:=h x (by simp) n h1 h2
  have:=zCn l (g x n) (fun y hy=>h y (by simp[hy])) hx.1 (by omega)
  omega
theorem zK{k:Nat}(h:0<=zC k n):(k:Int)+5<=n/\zC k n=n-5-k:=by
 unfold zC at h ⊢;split at h
 .omega
 split at h
 .omega
 rename_i h1 h2;rw[if_neg h1,if_neg h2];omega
theorem zV(k:Nat)(n:Int)(h: -10<=n): -1<=zC k n/\(zC k n<=n-5\/zC k n<0):=by
 unfold zC;split<;>(try split)<;>omega
def Cst(g:Int->Int):Prop:=∀m,-10<=m->m<=100000-> -6<=g m/\(g m<=m-5\/g m<0)
theorem zHo:∀(t:Ty),Cst t.room:=by
 refine Ty.ind fun t ih n h1 h2=>?_
 rw[zBr]
 have a:=zV t.name.size n h1
 have:=zCn t.args _ (fun x hx m a b=>ih x hx m (by omega) b) (by omega:(-6:Int)<=zC t.name.size n) (by omega)
 omega
theorem zG3(l:List BA)(n:Int)(h1: -1<=n)(h2:n<=100000): -6<=zw l n/\(zw l n<=n\/zw l n<0):=by
 have:=zCn l (n-5) (g:=fun s m=>zC s.size m) (fun x hx m a b=>by have:=zV x.size m (by omega);omega) (by omega) (by omega)
 unfold zw;omega
theorem zQd(x:Pl):Cst x.room:=fun n h1 h2=>by
 have a:=zV x.name.size n h1
 have:=zG3 x.path (zC x.name.size n) a.1 (by omega)
 unfold Pl.room;omega
theorem zNB:∀(e:Ex),Cst e.room:=by
 refine Ex.ind fun e ih n h1 h2=>?_
 rw[zC3]
 have a:=zV e.name.size n h1
 have b:=zV e.u4.size (zC e.name.size n) (by omega)
 have c:=zQd e.place _ (by omega:(-10:Int)<=zC e.u4.size (zC e.name.size n)) (by omega)
 have:=zCn e.args _ (fun x hx m a b=>ih x hx m (by omega) b) c.1 (by omega)
 omega
theorem zWe:∀(t:Ty) (n:Int),-10<=n->n<=20000->0<=t.room n->TySm t:=by
 refine Ty.ind fun t ih n h1 h2 h=>?_
 rw[zBr]at h
 have hp:=zp h
 have a:=zK hp
 have f:=zCT t.args _ (fun x hx m a b=>zHo x m (by omega) b) (by omega) (by omega) h
 exact .mk t (by omega) (by omega) fun x hx=>by
  obtain⟨m,m1,m2,m3⟩:=f.2.2 x hx
  exact ih x hx m (by omega) (by omega) m3
theorem zYk{l:List BA}(h1: -1<=n)(h2:n<=20000)(h:0<=zw l n):NmSm l:=by
 have f:=zCT l (n-5) (g:=fun s m=>zC s.size m) (fun x hx m a b=>by have:=zV x.size m (by omega);omega) (by omega) (by omega) h
 exact⟨by omega,fun s hs=>by
  obtain⟨m,m1,m2,m3⟩:=f.2.2 s hs
  have:=zK m3
  omega⟩
theorem zEQ{l:List BA}(h:0<=zw l n):0<=n:=by have:=zp h;omega
theorem zYl{x:Pl}(h2:n<=20000)(h:0<=x.room n):PlSm x:=by
 have hp:=zEQ h
 have a:=zK hp
 exact⟨by omega,zYk (by omega) (by omega) h⟩
theorem zIr{x:Pl}(h:0<=x.room n):0<=n:=by
 have a:=zK (zEQ h)
 omega
theorem zYm:∀(e:Ex) (n:Int),-10<=n->n<=20000->0<=e.room n->ExSm e:=by
 refine Ex.ind fun e ih n h1 h2 h=>?_
 rw[zC3]at h
 have hp:=zp h
 have hq:=zIr hp
 have b:=zK hq
 have a:=zK (by omega:0<=zC e.name.size n)
 have c:=zQd e.place _ (by omega:(-10:Int)<=zC e.u4.size (zC e.name.size n)) (by omega)
 have f:=zCT e.args _ (fun x hx m a b=>zNB x m (by omega) b) c.1 (by omega) h
 exact .mk e (by omega) (by omega) (zYl (by omega) hp) (by omega) fun x hx=>by
  obtain⟨m,m1,m2,m3⟩:=f.2.2 x hx
  exact ih x hx m (by omega) (by omega) m3
theorem zYn{l:List Ex}(h1: -6<=n)(h2:n<=20000)(h:0<=zE Ex.room l n):zYi l:=by
 have f:=zCT l n (fun x hx m a b=>zNB x m (by omega) b) h1 (by omega) h
 exact⟨by omega,fun x hx=>by
  obtain⟨m,m1,m2,m3⟩:=f.2.2 x hx
  exact zYm x m (by omega) (by omega) m3⟩
theorem zQe(s:St)(n:Int)(h1: -10<=n)(h2:n<=100000): -6<=s.room1 n/\(s.room1 n<=n-5\/s.room1 n<0):=by
 have a:=zV s.name.size n h1
 have b:=zV s.u4.size (zC s.name.size n) (by omega)
 have c:=zG3 s.names (zC s.u4.size (zC s.name.size n)) (by omega) (by omega)
 have d:=zHo s.type _ (by omega:(-10:Int)<=zw s.names (zC s.u4.size (zC s.name.size n))) (by omega)
 have e:=zQd s.place _ (by omega:(-10:Int)<=s.type.room (zw s.names (zC s.u4.size (zC s.name.size n)))) (by omega)
 unfold St.room1;omega
theorem zVE(l:List Ex)(n:Int)(h1: -6<=n)(h2:n<=100000): -6<=zE Ex.room l n/\(zE Ex.room l n<=n\/zE Ex.room l n<0):=zCn l n (fun x _ m a b=>zNB x m (by omega) b) h1 h2
theorem zIs:∀(s:St),Cst s.room:=by
 refine St.ind fun s Ob Nb Ed n h1 h2=>?_
 rw[zEP]
 have a:=zQe s n h1 h2
 have b:=zVE s.u5 (s.room1 n) a.1 (by omega)
 split
 .omega
 have c:=zCn s.body _ (fun x hx m a b=>Ob x hx m (by omega) b) b.1 (by omega)
 have d:=zCn s.els _ (fun x hx m a b=>Nb x hx m (by omega) b) c.1 (by omega)
 have e:=zCn (g:=Ar.room) s.arms _ (fun x hx m a b=>by
  rw[zCh]
  have e:=zV x.variant.size m (by omega)
  have f:=zV x.name.size (zC x.variant.size m) (by omega)
  have:=zCn x.body _ (fun y hy m a b=>Ed x hx y hy m (by omega) b) (by omega:(-6:Int)<=zC x.name.size (zC x.variant.size m)) (by omega)
  omega) d.1 (by omega)
 omega
theorem zKt(l:List St)(n:Int)(h1: -6<=n)(h2:n<=100000): -6<=zE St.room l n/\(zE St.room l n<=n\/zE St.room l n<0):=zCn l n (fun x _ m a b=>zIs x m (by omega) b) h1 h2
theorem zYo(x:Ar)(m:Int)(a: -6<=m)(b:m<=100000): -6<=x.room m/\(x.room m<=m-5\/x.room m<0):=by
 rw[zCh]
 have e:=zV x.variant.size m (by omega)
 have f:=zV x.name.size (zC x.variant.size m) (by omega)
 have:=zKt x.body _ (by omega:(-6:Int)<=zC x.name.size (zC x.variant.size m)) (by omega)
 omega
theorem zZ9:∀(s:St) (n:Int),-10<=n->n<=20000->0<=s.room n->StSm s:=by
 refine St.ind fun s Ob Nb Ed n h1 h2 h=>?_
 rw[zEP]at h;split at h
 .omega
 rename_i hx
 have a:=zQe s n h1 (by omega)
 have hx:0<=zE Ex.room s.u5 (s.room1 n):=by omega
 have h0:=zp hx
 have hp:=zIr h0
 have b1:=zVE s.u5 (s.room1 n) a.1 (by omega)
 have c1:=zKt s.body _ b1.1 (by omega)
 have d1:=zKt s.els _ c1.1 (by omega)
 have fA:=zCT s.arms _ (fun x _ m a b=>zYo x m a b) d1.1 (by omega) h
 have hE:=zp h
 have fE:=zCT s.els _ (fun x _ m a b=>zIs x m (by omega) b) c1.1 (by omega) hE
 have hB:=zp hE
 have fB:=zCT s.body _ (fun x _ m a b=>zIs x m (by omega) b) b1.1 (by omega) hB
 have n1:=zV s.name.size n h1
 have n2:=zV s.u4.size (zC s.name.size n) (by omega)
 have n3:=zG3 s.names (zC s.u4.size (zC s.name.size n)) (by omega) (by omega)
 have n4:=zHo s.type _ (by omega:(-10:Int)<=zw s.names (zC s.u4.size (zC s.name.size n))) (by omega)
 have tp:0<=zw s.names (zC s.u4.size (zC s.name.size n)):=by
  have:=hp
  rw[zBr]at this
  have:=zK (zp this)
  omega
 have np:=zEQ tp
 have k2:=zK np
 have k1:=zK (by omega:0<=zC s.name.size n)
 refine .mk s (by omega) (by omega) (zYk (by omega) (by omega) tp) (zWe _ _ (by omega) (by omega) hp) (zYl (by omega) h0) (zYn a.1 (by omega) hx) (by omega) (by omega) (by omega) (fun x hx=>?_) (fun x hx=>?_) (fun x hx=>?_) (fun x hx y hy=>?_)
 .obtain⟨m,m1,m2,m3⟩:=fB.2.2 x hx
  exact Ob x hx m (by omega) (by omega) m3
 .obtain⟨m,m1,m2,m3⟩:=fE.2.2 x hx
  exact Nb x hx m (by omega) (by omega) m3
 .obtain⟨m,m1,m2,m3⟩:=fA.2.2 x hx
  rw[zCh]at m3
  have k2:=zK (zp m3)
  have k1:=zK (by omega:0<=zC x.variant.size m)
  have f:=zCT x.body _ (fun x _ m a b=>zIs x m (by omega) b) (by omega) (by omega) m3
  exact⟨by omega,by omega,by omega⟩
 obtain⟨m,m1,m2,m3⟩:=fA.2.2 x hx
 rw[zCh]at m3
 have k2:=zK (zp m3)
 have k1:=zK (by omega:0<=zC x.variant.size m)
 have f:=zCT x.body _ (fun x _ m a b=>zIs x m (by omega) b) (by omega) (by omega) m3
 obtain⟨i,i1,i2,i3⟩:=f.2.2 y hy
 exact Ed x hx y hy i (by omega) (by omega) i3
theorem zYp{l:List St}(h1: -6<=n)(h2:n<=20000)(h:0<=zE St.room l n):zYj l:=by
 have f:=zCT l n (fun x hx m a b=>zIs x m (by omega) b) h1 (by omega) h
 exact⟨by omega,fun x hx=>by
  obtain⟨m,m1,m2,m3⟩:=f.2.2 x hx
  exact zZ9 x m (by omega) (by omega) m3⟩
theorem zQf(x:Fi)(n:Int)(h1: -6<=n)(h2:n<=100000): -6<=x.room n/\(x.room n<=n-5\/x.room n<0):=by
 have a:=zV x.name.size n (by omega)
 have b:=zHo x.type (zC x.name.size n) (by omega) (by omega)
 unfold Fi.room;omega
theorem zYq{l:List Fi}(h1: -6<=n)(h2:n<=20000)(h:0<=zE Fi.room l n):zHn l:=by
 have f:=zCT l n (fun x hx m a b=>zQf x m a b) h1 (by omega) h
 exact⟨by omega,fun x hx=>by
  obtain⟨m,m1,m2,m3⟩:=f.2.2 x hx
  have e:=zV x.name.size m (by omega)
  refine⟨?_,zWe _ _ (by omega) (by omega) m3⟩
  unfold Fi.room at m3;rw[zBr]at m3
  have:=zK (zp m3)
  have:=zK (by omega:0<=zC x.name.size m)
  omega⟩
theorem zYr(x:It)(n:Int)(h1: -6<=n)(h2:n<=100000): -6<=x.room n/\(x.room n<=n-5\/x.room n<0):=by
 have a:=zV x.name.size n (by omega)
 have b:=zCn x.fields _ (fun x _ m a b=>zQf x m a b) (by omega:(-6:Int)<=zC x.name.size n) (by omega)
 have c:=zHo x.result _ (by omega:(-10:Int)<=zE Fi.room x.fields (zC x.name.size n)) (by omega)
 have d:=zKt x.body _ c.1 (by omega)
 have e:=zNB x.ret _ (by omega:(-10:Int)<=zE St.room x.body (x.result.room (zE Fi.room x.fields (zC x.name.size n)))) (by omega)
 unfold It.room;omega
theorem zYs{p:List It}(h:great p=false):PrSm p:=by
 have h:0<=zE It.room p 20000:=by simpa [great]using h
 have f:=zCT p 20000 (fun x hx m a b=>zYr x m a b) (by omega) (by omega) h
 refine⟨by omega,fun x hx=>?_⟩
 obtain⟨n,h1,h2,h3⟩:=f.2.2 x hx
 have a:=zV x.name.size n (by omega)
 have b:=zCn x.fields _ (fun x _ m a b=>zQf x m a b) (by omega:(-6:Int)<=zC x.name.size n) (by omega)
 have c:=zHo x.result _ (by omega:(-10:Int)<=zE Fi.room x.fields (zC x.name.size n)) (by omega)
 have d:=zKt x.body _ c.1 (by omega)
 have e3:0<=zE St.room x.body (x.result.room (zE Fi.room x.fields (zC x.name.size n))):=by
  have:=h3
  unfold It.room at this;rw[zC3]at this
  have k2:=zK (zIr (zp this))
  have k1:=zK (by omega:0<=zC x.ret.name.size (zE St.room x.body (x.result.room (zE Fi.room x.fields (zC x.name.size n)))))
  omega
 have e2:=zp e3
 have e1:0<=zE Fi.room x.fields (zC x.name.size n):=by
  have:=e2
  rw[zBr]at this
  have:=zK (zp this)
  omega
 have k:=zK (zp e1)
 exact⟨by omega,zYq (by omega) (by omega) e1,zWe _ _ (by omega) (by omega) e2,zYp c.1 (by omega) e3,zYm _ _ (by omega) (by omega) h3⟩
end Go.Proofs.YtgpajpilkapciaaGreatDoor
