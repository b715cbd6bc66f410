/- A part of the proof. The statement is proved in the claim's last text. -/
import Derived.Test.YtlclonljdagpkaaGreatDoorQMLk
import Derived.Test.YtlclonljdagpkaaGreatDoorQMLt
set_option linter.unusedVariables false
set_option linter.unusedSimpArgs false
set_option maxRecDepth 100000
set_option maxHeartbeats 32000000
namespace Go.Proofs.YtlclonljdagpkaaGreatDoor
open Go.RowKit
def zC (k : Nat) (n : Int) : Int:=if n < 5 then -1 else if (k : Int) > n - 5 then -1 else n - 5 - k
theorem zK2 (k : Nat) (n : Int) (h : -10 <= n) : -1 <= zC k n /\ zC k n <= n + 9 /\ (0 <= n -> zC k n <= n):=by unfold zC; split <;> (try split) <;> omega
mutual
def Ty.room : Ty -> Int -> Int
 | .mk _ s l,n=>Ty.roomAll l (zC s.size n)
def Ty.roomAll : List Ty -> Int -> Int
 | [],n=>n
 | t :: l,n=>if n < 0 then n else Ty.roomAll l (t.room n)
end
theorem zVV (t : Ty) (n : Int) : t.room n = Ty.roomAll t.args (zC t.name.size n):=by cases t; rfl
def Ty.great (t : Ty) : Bool:=decide (t.room 20000 < 0)
def zF {α : Type} (g : α -> Int -> Int) : List α -> Int -> Int
 | [],n=>n
 | x :: l,n=>if n < 0 then n else zF g l (g x n)
theorem zDi {α : Type} {g : α -> Int -> Int} {l : List α} {n : Int} (h : n < 0) : zF g l n = n:=by cases l <;> simp [zF,h]
theorem zIo {α : Type} {g : α -> Int -> Int} {l : List α} {q : Nat} {n : Int} (hq : q < l.length) (h : 0 <= n) : zF g (l.drop q) n = zF g (l.drop (q + 1)) (g l[q] n):=by
 rw [List.drop_eq_getElem_cons hq,zF,if_neg (by omega)]
theorem zIp {α : Type} {g : α -> Int -> Int} {l : List α} {q : Nat} {n : Int} (hq : l.length <= q) : zF g (l.drop q) n = n:=by rw [List.drop_eq_nil_of_le hq]; rfl
def zr (l : List ByteArray) (n : Int) : Int:=zF (fun s m=>zC s.size m) l (n - 5)
def Pl.room (p : Pl) (n : Int) : Int:=zr p.path (zC p.name.size n)
mutual
def Ex.room : Ex -> Int -> Int
 | .mk _ _ nm sc pl al _,n=>Ex.roomAll al (pl.room (zC sc.size (zC nm.size n)))
def Ex.roomAll : List Ex -> Int -> Int
 | [],n=>n
 | t :: l,n=>if n < 0 then n else Ex.roomAll l (t.room n)
end
theorem zPs (l : List Ex) : ∀ n,Ex.roomAll l n = zF Ex.room l n:=by
 induction l with
 | nil=>intro n; rfl
 | cons t l ih=>intro n; simp [Ex.roomAll,zF,ih]
theorem zCI (e : Ex) (n : Int) : e.room n = zF Ex.room e.args (e.place.room (zC e.second.size (zC e.name.size n))):=by cases e; simp only [Ex.room,zPs]; rfl
mutual
def St.room : St -> Int -> Int
 | .mk _ nm sc nms ty _ pl exs body els arms _,n =>
  if zF Ex.room exs (pl.room (ty.room (zr nms (zC sc.size (zC nm.size n))))) < 0 then zF Ex.room exs (pl.room (ty.room (zr nms (zC sc.size (zC nm.size n)))))
  else Ar.roomAll arms (St.roomAll els (St.roomAll body (zF Ex.room exs (pl.room (ty.room (zr nms (zC sc.size (zC nm.size n))))))))
def St.roomAll : List St -> Int -> Int
 | [],n=>n
 | t :: l,n=>if n < 0 then n else St.roomAll l (t.room n)
def Ar.roomAll : List (ArOf St) -> Int -> Int
 | [],n=>n
 | ⟨v,nm,b⟩ :: l,n=>if n < 0 then n else Ar.roomAll l (St.roomAll b (zC nm.size (zC v.size n)))
end
def Ar.room (a : Ar) (n : Int) : Int:=St.roomAll a.body (zC a.name.size (zC a.variant.size n))
theorem zJ1 (l : List St) : ∀ n,St.roomAll l n = zF St.room l n:=by
 induction l with
 | nil=>intro n; rfl
 | cons t l ih=>intro n; simp [St.roomAll,zF,ih]
theorem zPt (l : List Ar) : ∀ n,Ar.roomAll l n = zF Ar.room l n:=by
 induction l with
 | nil=>intro n; rfl
 | cons t l ih=>intro n; obtain ⟨v,nm,b⟩:=t; simp [Ar.roomAll,zF,Ar.room,ih]
def St.room1 (s : St) (n : Int) : Int:=s.place.room (s.type.room (zr s.names (zC s.second.size (zC s.name.size n))))
theorem zDj (s : St) (n : Int) : s.room n = if zF Ex.room s.exprs (s.room1 n) < 0 then zF Ex.room s.exprs (s.room1 n) else
  zF Ar.room s.arms (zF St.room s.els (zF St.room s.body (zF Ex.room s.exprs (s.room1 n)))):=by
 cases s; simp only [St.room,zJ1,zPt]; rfl
def Fi.room (x : Fi) (n : Int) : Int:=x.type.room (zC x.name.size n)
theorem zBy (a : Ar) (n : Int) : a.room n = zF St.room a.body (zC a.name.size (zC a.variant.size n)):=zJ1 _ _
def It.room (x : It) (n : Int) : Int:=x.ret.room (zF St.room x.body (x.result.room (zF Fi.room x.fields (zC x.name.size n))))
def great (p : List It) : Bool:=decide (zF It.room p 20000 < 0)
end Go.Proofs.YtlclonljdagpkaaGreatDoor
namespace Go.Proofs.YtlclonljdagpkaaGreatDoor
open Go.RowKit
attribute [local simp] List.replicate List.range List.range.loop resA zR retA AV.cuts AV.cut AObj.cut trim wkR wkT wkL wkN wkNR wkNL wkM wkMR wkML
def rm (n : Int) : AObj:=.cells [I n] 91
theorem zK3 {k : Nat} {n b : Int} (h : n <= b) (hb : 0 <= b) : zC k n <= b:=by unfold zC; split <;> (try split) <;> omega
theorem wr {n : Int} (h : -1000000 <= n /\ n <= 1000000:=by omega) : IntKind.i64.wrap n = n:=IntWalk.i64_in _ (by omega)
theorem zZQ (S : ASt) (d i : Nat) (n : Int) (s : ByteArray) (hS : get2 S d i = some (rm n)) (h1 : -10 <= n) (h2 : n <= 100000) : ADet Tryz.prog 39 [.ptr d i 0,Sg s] S .un (set2 S d i (rm (zC s.size n))):=by
 unfold rm at *;refine ADet.intro mixed Tryz.call39 Tryz.func39 rfl ?_
 have w1 : IntKind.i64.wrap (n - 5) = n - 5:=wr
 by_cases h5 : n < 5
 .simp [hS,h5,Tryz.ntmps39,zC]
 .by_cases h6 : (s.size : Int) > n - 5
  .simp [hS,h5,h6,w1,Tryz.ntmps39,zC]
  .have w2 : IntKind.i64.wrap (n - 5 - s.size) = n - 5 - s.size:=wr
   simp [hS,h5,h6,w1,w2,Tryz.ntmps39,zC]
def RmC (F : Nat) (lo : Int) (v : AV) (g : Int -> Int) : Prop:=∀ (S : ASt) (d i : Nat) (n : Int),get2 S d i = some (rm n) -> lo <= n -> n <= 100000 -> ADet Tryz.prog F [.ptr d i 0,v] S .un (set2 S d i (rm (g n)))
theorem zGu (s : ByteArray) : RmC 39 (-10) (Sg s) (zC s.size):=fun S d i n h h1 h2=>zZQ S d i n s h h1 h2
def Bd (lo : Int) (g : Int -> Int) : Prop:=∀ n,lo <= n -> n <= 100000 -> -6 <= g n /\ g n <= 100000
theorem zAa (k : Nat) (n : Int) (h : -10 <= n) (h2 : n <= 100000) : -1 <= zC k n /\ zC k n <= 100000:=⟨(zK2 k n h).1,zK3 h2 (by omega)⟩
theorem zBi {α : Type} {g : α -> Int -> Int} : ∀ (l : List α),(∀ x ∈ l,Bd (-6) (g x)) -> Bd (-6) (zF g l)
 | [],_,n,h1,h2=>⟨h1,h2⟩
 | x :: l,h,n,h1,h2=>by
  unfold zF;split
  .exact ⟨h1,h2⟩
  .have:=h x (by simp) n h1 h2
   exact zBi l (fun y hy=>h y (by simp [hy])) _ this.1 this.2
theorem zPu (l : List Ty) : ∀ n,Ty.roomAll l n = zF Ty.room l n:=by
 induction l with
 | nil=>intro n; rfl
 | cons t l ih=>intro n; simp [Ty.roomAll,zF,ih]
theorem zBD (t : Ty) (n : Int) : t.room n = zF Ty.room t.args (zC t.name.size n):=by rw [zVV,zPu]
theorem zNQ : ∀ (t : Ty),Bd (-10) t.room:=by
 refine Ty.ind fun t ih n h1 h2=>?_
 rw [zBD]
 have:=zAa t.name.size n h1 h2
 exact zBi _ (fun x hx m a b=>ih x hx m (by omega) b) _ (by omega) this.2
theorem zIq (l : List ByteArray) : Bd (-1) (zr l):=fun n h1 h2=>by
 refine zBi l (fun s _ m a b=>?_) _ (by omega) (by omega)
 have:=zAa s.size m (by omega) b
 omega
theorem zF7 (x : Pl) : Bd (-10) x.room:=fun n h1 h2=>by
 have:=zAa x.name.size n h1 h2
 exact zIq _ _ this.1 this.2
theorem zPv : ∀ (e : Ex),Bd (-10) e.room:=by
 refine Ex.ind fun e ih n h1 h2=>?_
 rw [zCI]
 have a:=zAa e.name.size n h1 h2
 have b:=zAa e.second.size _ (by omega) a.2
 have c:=zF7 e.place _ (by omega) b.2
 exact zBi _ (fun x hx m a b=>ih x hx m (by omega) b) _ c.1 c.2
theorem zXf (s : St) (n : Int) (h1 : -10 <= n) (h2 : n <= 100000) : -6 <= s.room1 n /\ s.room1 n <= 100000:=by
 have a:=zAa s.name.size n h1 h2
 have b:=zAa s.second.size _ (by omega) a.2
 have c:=zIq s.names _ b.1 b.2
 have d:=zNQ s.type _ (by omega) c.2
 exact zF7 s.place _ (by omega) d.2
theorem zVW : ∀ (s : St),Bd (-10) s.room:=by
 refine St.ind fun s ih1 ih2 ih3 n h1 h2=>?_
 rw [zDj]
 have a:=zXf s n h1 h2
 have b:=zBi s.exprs (fun x hx m a b=>zPv x m (by omega) b) _ a.1 a.2
 split
 .exact b
 have c:=zBi s.body (fun x hx m a b=>ih1 x hx m (by omega) b) _ b.1 b.2
 have d:=zBi s.els (fun x hx m a b=>ih2 x hx m (by omega) b) _ c.1 c.2
 refine zBi s.arms (fun x hx m a b=>?_) _ d.1 d.2
 rw [zBy]
 have e:=zAa x.variant.size m (by omega) b
 have f:=zAa x.name.size _ (by omega) e.2
 exact zBi x.body (fun y hy m a b=>ih3 x hx y hy m (by omega) b) _ (by omega) f.2
theorem zZR (x : Ar) : Bd (-6) x.room:=fun n h1 h2=>by
 rw [zBy]
 have e:=zAa x.variant.size n (by omega) h2
 have f:=zAa x.name.size _ (by omega) e.2
 exact zBi x.body (fun y hy m a b=>zVW y m (by omega) b) _ (by omega) f.2
theorem zVX (x : Fi) : Bd (-6) x.room:=fun n h1 h2=>by
 have e:=zAa x.name.size n (by omega) h2
 exact zNQ x.type _ (by omega) e.2
def Rnd {α : Type} (g : α -> Int -> Int) (l : List α) (tot : Int) (x : Nat × Int) : Prop:=x.1 <= l.length /\ -6 <= x.2 /\ x.2 <= 100000 /\ zF g (l.drop x.1) x.2 = tot
theorem Rnd.next {α : Type} {g : α -> Int -> Int} {l : List α} {tot : Int} {q : Nat} {m : Int} (h : Rnd g l tot (q,m)) (hq : q < l.length) (hm : 0 <= m) (hb : Bd (-6) (g l[q])) : Rnd g l tot (q + 1,g l[q] m):=by
 obtain ⟨_,h1,h2,h3⟩:=h
 have:=hb m h1 h2
 exact ⟨hq,this.1,this.2,by rw [<- h3]; exact (zIo hq hm).symm⟩
theorem Rnd.neg {α : Type} {g : α -> Int -> Int} {l : List α} {tot : Int} {q : Nat} {m : Int} (h : Rnd g l tot (q,m)) (hm : m < 0) : m = tot:=by rw [<- h.2.2.2]; exact (zDi hm).symm
theorem Rnd.done {α : Type} {g : α -> Int -> Int} {l : List α} {tot : Int} {q : Nat} {m : Int} (h : Rnd g l tot (q,m)) (hq : ¬ q < l.length) : m = tot:=by rw [<- h.2.2.2]; exact (zIp (by omega)).symm
theorem Rnd.start {α : Type} {g : α -> Int -> Int} {l : List α} {n : Int} (h1 : -6 <= n) (h2 : n <= 100000) : Rnd g l (zF g l n) (0,n):=⟨Nat.zero_le _,h1,h2,rfl⟩
theorem zVY : ∀ (t : Ty),RmC 41 (-10) (.agg [U t.kind,Sg t.name,.p (.sl 3 (t.args.map Ty.enc))]) t.room:=by
 refine Ty.ind fun t ih S d i n hS h1 h2=>?_
 refine ADet.bound (cs:=[.p (pU t.kind),.p (pS t.name),.p (.sl 3 (t.args.map Ty.enc))]) Tryz.call41 1 2 rfl rfl fun hlen=>?_
 simp only [List.length_map] at hlen;refine ADet.intro mixed Tryz.call41 Tryz.func41 rfl ?_
 have hnb:=zAa t.name.size n h1 h2
 simp [hS,Tryz.ntmps41];refine ⟨_,_,zGu _ _ _ _ _ (by simpa [zAF] using hS) h1 h2,?_⟩
 simp;refine zE (Rnd Ty.room t.args (t.room n)) (fun x=>([.ptr (d + 1) i 0,.any,.any,.ptr 0 0 0,I x.1] ++ List.replicate 25 .any)) (fun x=>[.cells [U t.kind,Sg t.name,.p (.sl 3 (t.args.map Ty.enc))] 33] :: set2 S d i (rm x.2)) (fun x=>t.args.length - x.1) (0,zC t.name.size n) (by rw [zBD]; exact .start (by omega) hnb.2) ?_ ?_ ?_
 .simp
 .simp
 rintro ⟨q,m⟩ hI
 by_cases hlt : q < t.args.length
 .rcases Int.lt_or_le m 0 with hneg | hnn
  .obtain rfl:=hI.neg hneg
   simp [hlt,hS,rm,Int.not_le.2 hneg]
  .simp [hlt,hS,rm,hnn,zC4]
   refine ⟨_,_,ih _ (List.getElem_mem hlt) _ _ _ m (by simp [zAF,z8,hS,rm]) (by have:=hI.2.1; omega) hI.2.2.1,?_⟩
   simp [rm];exact ⟨q + 1,t.args[q].room m,hI.next hlt hnn (fun m a b=>zNQ _ m (by omega) b),by omega,zD hlt,rfl⟩
 .obtain rfl:=hI.done hlt
  simp [hlt,hS,rm]
theorem zUB (l : List ByteArray) : RmC 94 (-1) (.p (strs l)) (zr l):=by
 intro S d i n hS h1 h2;unfold strs;refine ADet.boundL Tryz.call94 1 rfl fun hlen=>?_
 simp only [List.length_map] at hlen;refine ADet.intro mixed Tryz.call94 Tryz.func94 rfl ?_
 have w1 : IntKind.i64.wrap (n - 5) = n - 5:=wr
 simp [hS,rm,w1,Tryz.ntmps94];refine zE (Rnd (fun s=>zC s.size) l (zr l n)) (fun x=>([.ptr (d + 1) i 0,.p (.sl 1 (l.map fun s=>[pS s])),.any,.any,I x.1] ++ List.replicate 27 .any)) (fun x=>[] :: set2 S d i (rm x.2)) (fun x=>l.length - x.1) (0,n - 5) (.start (by omega) (by omega)) ?_ ?_ ?_
 .simp
 .simp [rm]
 rintro ⟨q,m⟩ hI
 by_cases hlt : q < l.length
 .rcases Int.lt_or_le m 0 with hneg | hnn
  .obtain rfl:=hI.neg hneg
   simp [hlt,hS,rm,Int.not_le.2 hneg]
  .simp [hlt,hS,rm,hnn]
   refine ⟨_,_,zGu _ _ _ _ m (by simp [zAF,z8,hS,rm]) (by have:=hI.2.1; omega) hI.2.2.1,?_⟩
   simp [rm];exact ⟨q + 1,zC l[q].size m,hI.next hlt hnn (fun m a b=>by have:=zAa l[q].size m (by omega) b; omega),by omega,zD hlt,rfl⟩
 .obtain rfl:=hI.done hlt
  simp [hlt,hS,rm]
theorem zUC (x : Pl) : RmC 95 (-10) (.agg [Sg x.name,.p (strs x.path)]) x.room:=by
 intro S d i n hS h1 h2;refine ADet.intro mixed Tryz.call95 Tryz.func95 rfl ?_
 have hnb:=zAa x.name.size n h1 h2
 simp [hS,Tryz.ntmps95];refine ⟨_,_,zGu _ _ _ _ _ (by simpa [zAF] using hS) h1 h2,?_⟩
 simp;refine ⟨_,_,zUB _ _ _ _ (zC x.name.size n) (by simp [zAF,z8,hS]) hnb.1 hnb.2,?_⟩
 simp [Pl.room]
theorem zXg : ∀ (e : Ex),RmC 43 (-10) (.agg [U e.op,I e.int,Sg e.name,Sg e.second,Sg e.place.name,.p (strs e.place.path),.p (.sl 8 (e.args.map Ex.enc)),I e.pos]) e.room:=by
 refine Ex.ind fun e ih S d i n hS h1 h2=>?_
 refine ADet.bound (cs:=[U e.op,I e.int,Sg e.name,Sg e.second,Sg e.place.name,.p (strs e.place.path),.p (.sl 8 (e.args.map Ex.enc)),I e.pos]) Tryz.call43 1 6 rfl rfl fun hlen=>?_
 simp only [List.length_map] at hlen;refine ADet.intro mixed Tryz.call43 Tryz.func43 rfl ?_
 have b1:=zAa e.name.size n h1 h2
 have b2:=zAa e.second.size _ (by omega) b1.2
 have b3:=zF7 e.place _ (by omega) b2.2
 simp [hS,Tryz.ntmps43];refine ⟨_,_,zGu _ _ _ _ _ (by simpa [zAF] using hS) h1 h2,?_⟩
 simp;refine ⟨_,_,zGu _ _ _ _ (zC e.name.size n) (by simp [zAF,z8,hS]) (by omega) b1.2,?_⟩
 simp;refine ⟨_,_,zUC e.place _ _ _ _ (by simp [zAF,z8,hS]) (by omega) b2.2,?_⟩
 simp;refine zE (Rnd Ex.room e.args (e.room n)) (fun x=>([.ptr (d + 1) i 0,.any,.any,.ptr 0 0 0,I x.1] ++ List.replicate 33 .any)) (fun x=>[.cells [U e.op,I e.int,Sg e.name,Sg e.second,Sg e.place.name,.p (strs e.place.path),.p (.sl 8 (e.args.map Ex.enc)),I e.pos] 40] :: set2 S d i (rm x.2)) (fun x=>e.args.length - x.1) (0,e.place.room (zC e.second.size (zC e.name.size n))) (by rw [zCI]; exact .start b3.1 b3.2) ?_ ?_ ?_
 .simp
 .simp
 rintro ⟨q,m⟩ hI
 by_cases hlt : q < e.args.length
 .rcases Int.lt_or_le m 0 with hneg | hnn
  .obtain rfl:=hI.neg hneg
   simp [hlt,hS,rm,Int.not_le.2 hneg]
  .simp [hlt,hS,rm,hnn,zv]
   refine ⟨_,_,ih _ (List.getElem_mem hlt) _ _ _ m (by simp [zAF,z8,hS,rm]) (by have:=hI.2.1; omega) hI.2.2.1,?_⟩
   simp [rm];exact ⟨q + 1,e.args[q].room m,hI.next hlt hnn (fun m a b=>zPv _ m (by omega) b),by omega,zD hlt,rfl⟩
 .obtain rfl:=hI.done hlt
  simp [hlt,hS,rm]
def StC (l : List St) : Prop:=RmC 42 (-6) (.p (.sl 15 (l.map St.enc))) (zF St.room l)
theorem zMH (l : List St) : Bd (-6) (zF St.room l):=zBi l fun x _ m a b=>zVW x m (by omega) b
abbrev stV (s : St) : List AV:=[U s.op,Sg s.name,Sg s.second,.p (strs s.names),U s.type.kind,Sg s.type.name,.p (.sl 3 (s.type.args.map Ty.enc)),I s.int,Sg s.place.name,.p (strs s.place.path),.p (.sl 8 (s.exprs.map Ex.enc)),.p (.sl 15 (s.body.map St.enc)),.p (.sl 15 (s.els.map St.enc)),.p (.sl 3 (s.arms.map Ar.enc)),I s.pos]
theorem zMI (l : List St) (ih : ∀ s ∈ l,StC s.body /\ StC s.els /\ ∀ a ∈ s.arms,StC a.body) : StC l:=by
 intro S d i n hS h1 h2;refine ADet.okP Tryz.call42 1 rfl fun hok=>?_
 have hlen:=okl hok
 refine ADet.intro mixed Tryz.call42 Tryz.func42 rfl ?_;simp [Tryz.ntmps42];refine zE (Rnd St.room l (zF St.room l n)) (fun x=>([.ptr (d + 1) i 0,.p (.sl 15 (l.map St.enc)),.any,.any,I x.1] ++ List.replicate 112 .any)) (fun x=>[] :: set2 S d i (rm x.2)) (fun x=>l.length - x.1) (0,n) (.start h1 h2) ?_ ?_ ?_
 .simp
 .simp [zGa hS]
 rintro ⟨q,m⟩ hI
 by_cases hlt : q < l.length
 .rcases Int.lt_or_le m 0 with hneg | hnn
  .obtain rfl:=hI.neg hneg
   simp [hlt,hS,rm,Int.not_le.2 hneg]
  .simp [hlt,hS,rm,hnn,zAz]
   have hs:=ih _ (List.getElem_mem hlt)
   have hsk:=zZF hok (List.getElem_mem hlt)
   have hnx:=hI.next hlt hnn (fun m a b=>zVW _ m (by omega) b)
   generalize l[q] = s at hs hsk hnx ⊢
   have hle:=okl hsk.2.2.2.1
   have hla:=okl hsk.2.2.2.2.2.2
   have c1:=zAa s.name.size m (by omega) hI.2.2.1
   have c2:=zAa s.second.size _ (by omega) c1.2
   have c3:=zIq s.names _ c2.1 c2.2
   have c4:=zNQ s.type _ (by omega) c3.2
   have c5:=zF7 s.place _ (by omega) c4.2
   refine ⟨_,_,zGu _ _ _ _ m (by simp [zAF,z8,hS,rm]) (by have:=hI.2.1; omega) hI.2.2.1,?_⟩
   simp [rm];refine ⟨_,_,zGu _ _ _ _ (zC s.name.size m) (by simp [zAF,z8,hS,rm]) (by omega) c1.2,?_⟩
   simp [rm];refine ⟨_,_,zUB _ _ _ _ (zC s.second.size (zC s.name.size m)) (by simp [zAF,z8,hS,rm]) (by omega) c2.2,?_⟩
   simp [rm];refine ⟨_,_,zVY s.type _ _ _ _ (by simp [zAF,z8,hS,rm]) (by omega) c3.2,?_⟩
   simp [rm];refine ⟨_,_,zUC s.place _ _ _ _ (by simp [zAF,z8,hS,rm]) (by omega) c4.2,?_⟩
   simp [rm];refine zE (Rnd Ex.room s.exprs (zF Ex.room s.exprs (s.room1 m))) (fun x=>([.ptr (d + 1) i 0,.p (.sl 15 (l.map St.enc)),.any,.any,I q,.ptr 0 0 0,I x.1] ++ List.replicate 110 .any)) (fun x=>[.cells (stV s) 45] :: set2 S d i (rm x.2)) (fun x=>s.exprs.length - x.1) (0,s.room1 m) (.start c5.1 c5.2) ?_ ?_ ?_
   .simp
   .simp [rm]
    rfl
   rintro ⟨k,m1⟩ hJ
   by_cases hk : k < s.exprs.length /\ 0 <= m1
   .simp [hS,rm,hk,zv]
    refine ⟨_,_,zXg _ _ _ _ m1 (by simp [zAF,z8,hS,rm]) (by have:=hJ.2.1; omega) hJ.2.2.1,?_⟩
    simp [rm];exact ⟨k + 1,_,hJ.next hk.1 hk.2 (fun m a b=>zPv _ m (by omega) b),by omega,zD hk.1,rfl⟩
   .have e1 : m1 = zF Ex.room s.exprs (s.room1 m):=by
     rcases Classical.em (k < s.exprs.length) with h | h
     .exact hJ.neg (by omega)
     .exact hJ.done h
    have c6:=zBi s.exprs (fun x hx m a b=>zPv x m (by omega) b) (s.room1 m) c5.1 c5.2
    have c7:=zMH s.body _ c6.1 c6.2
    have c8:=zMH s.els _ c7.1 c7.2
    have hroom:=zDj s m
    rw [<- e1] at c6 c7 c8 hroom
    by_cases hneg : m1 < 0
    .rw [if_pos hneg] at hroom
     rw [hroom] at hnx
     have hfin:=hnx.neg hneg
     rcases Classical.em (k < s.exprs.length) with h | h
     .simp [hS,rm,h,hneg,Int.not_le.2 hneg]
      rw [hfin]
     .simp [hS,rm,h,hneg]
      rw [hfin]
    .rw [if_neg hneg] at hroom
     have hk2 : ¬ k < s.exprs.length:=fun h=>hk ⟨h,by omega⟩
     simp [hS,rm,hk2,hneg,zAz];refine ⟨_,_,hs.1 _ _ _ m1 (by simp [zAF,z8,hS,rm]) (by omega) c6.2,?_⟩
     simp [rm];refine ⟨_,_,hs.2.1 _ _ _ _ (by simp [zAF,z8,hS,rm]) c7.1 c7.2,?_⟩
     simp [rm];refine zE (Rnd Ar.room s.arms (s.room m)) (fun x=>([.ptr (d + 1) i 0,.p (.sl 15 (l.map St.enc)),.any,.any,I q,.ptr 0 0 0,.any,I x.1] ++ List.replicate 109 .any)) (fun x=>[.cells (stV s) 45] :: set2 S d i (rm x.2)) (fun x=>s.arms.length - x.1) (0,zF St.room s.els (zF St.room s.body m1)) (by rw [hroom]; exact .start c8.1 c8.2) ?_ ?_ ?_
     .simp
     .simp [rm]
     rintro ⟨k,m2⟩ hL
     by_cases hk : k < s.arms.length
     .rcases Int.lt_or_le m2 0 with hng | hn2
      .obtain rfl:=hL.neg hng
       simp [hS,rm,hk,Int.not_le.2 hng];exact ⟨q + 1,_,hnx,by omega,zD hlt,rfl⟩
      .have har:=hs.2.2 _ (List.getElem_mem hk)
       have hnl:=hL.next hk hn2 (zZR _)
       generalize ha : s.arms[k] = a at har hnl ⊢
       simp [hS,rm,hk,hn2,ha,Ar.enc]
       have d1:=zAa a.variant.size m2 (by omega) hL.2.2.1
       have d2:=zAa a.name.size _ (by omega) d1.2
       refine ⟨_,_,zGu _ _ _ _ m2 (by simp [zAF,z8,hS,rm]) (by omega) hL.2.2.1,?_⟩
       simp [hS,rm,hk,ha,Ar.enc];refine ⟨_,_,zGu _ _ _ _ (zC a.variant.size m2) (by simp [zAF,z8,hS,rm]) (by omega) d1.2,?_⟩
       simp [hS,rm,hk,ha,Ar.enc];refine ⟨_,_,har _ _ _ (zC a.name.size (zC a.variant.size m2)) (by simp [zAF,z8,hS,rm]) (by omega) d2.2,?_⟩
       simp [hS,rm];exact ⟨k + 1,_,hnl,by omega,zD hk,by rw [zBy]⟩
     .obtain rfl:=hL.done hk
      simp [hS,rm,hk];exact ⟨q + 1,_,hnx,by omega,zD hlt,rfl⟩
 .obtain rfl:=hI.done hlt
  simp [hlt,hS,rm]
theorem stC3 : ∀ (s : St),StC s.body /\ StC s.els /\ ∀ a ∈ s.arms,StC a.body:=by
 refine St.ind fun s ih1 ih2 ih3=>⟨zMI _ ih1,zMI _ ih2,fun a ha=>zMI _ (ih3 a ha)⟩
theorem stC (l : List St) : StC l:=zMI l fun s _=>stC3 s
theorem zVZ (l : List Fi) : RmC 40 (-6) (.p (.sl 4 (l.map Fi.enc))) (zF Fi.room l):=by
 intro S d i n hS h1 h2;refine ADet.okP Tryz.call40 1 rfl fun hok=>?_
 have hlen:=okl hok
 refine ADet.intro mixed Tryz.call40 Tryz.func40 rfl ?_;simp [Tryz.ntmps40];refine zE (Rnd Fi.room l (zF Fi.room l n)) (fun x=>([.ptr (d + 1) i 0,.p (.sl 4 (l.map Fi.enc)),.any,.any,I x.1] ++ List.replicate 27 .any)) (fun x=>[] :: set2 S d i (rm x.2)) (fun x=>l.length - x.1) (0,n) (.start h1 h2) ?_ ?_ ?_
 .simp
 .simp [zGa hS]
 rintro ⟨q,m⟩ hI
 by_cases hlt : q < l.length
 .rcases Int.lt_or_le m 0 with hneg | hnn
  .obtain rfl:=hI.neg hneg
   simp [hlt,hS,rm,Int.not_le.2 hneg]
  .have hnx:=hI.next hlt hnn (zVX _)
   generalize hx : l[q] = x at hnx ⊢
   have c1:=zAa x.name.size m (by omega) hI.2.2.1
   simp [hlt,hS,rm,hnn,hx,Fi.enc];refine ⟨_,_,zGu _ _ _ _ m (by simp [zAF,z8,hS,rm]) (by omega) hI.2.2.1,?_⟩
   simp [rm,hlt,hx,Fi.enc];refine ⟨_,_,zVY x.type _ _ _ (zC x.name.size m) (by simp [zAF,z8,hS,rm]) (by omega) c1.2,?_⟩
   simp [rm];exact ⟨q + 1,_,hnx,by omega,zD hlt,rfl⟩
 .obtain rfl:=hI.done hlt
  simp [hlt,hS,rm]
theorem zZS (x : It) : Bd (-6) x.room:=fun n h1 h2=>by
 have a:=zAa x.name.size n (by omega) h2
 have b:=zBi x.fields (fun x _=>zVX x) _ (by omega) a.2
 have c:=zNQ x.result _ (by omega) b.2
 have d:=zMH x.body _ c.1 c.2
 exact zPv x.ret _ (by omega) d.2
theorem zMJ (S : ASt) (p : List It) : ADet Tryz.prog 13 [.agg [.p (prog p)]] S (B (great p)) S:=by
 refine ADet.okA Tryz.call13 0 0 rfl rfl fun hok=>?_
 have hlen:=okl hok
 refine ADet.intro mixed Tryz.call13 Tryz.func13 rfl ?_;simp [Tryz.ntmps13];refine zE (Rnd It.room p (zF It.room p 20000)) (fun x=>([.any,.ptr 0 0 0,B false,.ptr 0 1 0,I x.1] ++ List.replicate 47 .any)) (fun x=>[.cells [.p (prog p)] 24,rm x.2] :: S) (fun x=>p.length - x.1) (0,20000) (.start (by omega) (by omega)) ?_ ?_ ?_
 .simp
 .simp [rm]
 rintro ⟨q,m⟩ hI
 by_cases hlt : q < p.length
 .rcases Int.lt_or_le m 0 with hneg | hnn
  .obtain rfl:=hI.neg hneg
   simp [hlt,rm,Int.not_le.2 hneg,prog,great]
  .have hnx:=hI.next hlt hnn (zZS _)
   have hxk:=zZG hok (List.getElem_mem hlt)
   generalize hx : p[q] = x at hnx hxk ⊢
   have c1:=zAa x.name.size m (by omega) hI.2.2.1
   have c2:=zBi x.fields (fun x _=>zVX x) _ (by omega) c1.2
   have c3:=zNQ x.result _ (by omega) c2.2
   have c4:=zMH x.body _ c3.1 c3.2
   simp [hlt,rm,hnn,hx,prog,It.enc];refine ⟨_,_,zGu _ _ 0 1 m (by simp [zAt,rm]) (by omega) hI.2.2.1,?_⟩
   simp [rm];refine ⟨_,_,zVZ x.fields _ 0 1 (zC x.name.size m) (by simp [zAt,rm]) (by omega) c1.2,?_⟩
   simp [rm];refine ⟨_,_,zVY x.result _ 0 1 _ (by simp [zAt,rm]) (by omega) c2.2,?_⟩
   simp [rm];refine ⟨_,_,stC x.body _ 0 1 _ (by simp [zAt,rm]) (by omega) c3.2,?_⟩
   simp [rm];refine ⟨_,_,zXg x.ret _ 0 1 _ (by simp [zAt,rm]) (by omega) c4.2,?_⟩
   simp [rm];exact ⟨q + 1,_,hnx,by omega,zD hlt,rfl⟩
 .obtain rfl:=hI.done hlt
  simp [hlt,rm,prog,great]
end Go.Proofs.YtlclonljdagpkaaGreatDoor
namespace Go.Proofs.YtlclonljdagpkaaGreatDoor
open Go.RowKit
inductive TySm : Ty -> Prop
 | mk (t : Ty) : t.name.size <= 20000 -> t.args.length <= 20000 -> (∀ x ∈ t.args,TySm x) -> TySm t
def NmSm (l : List ByteArray) : Prop:=l.length <= 20000 /\ ∀ s ∈ l,s.size <= 20000
def PlSm (x : Pl) : Prop:=x.name.size <= 20000 /\ NmSm x.path
inductive ExSm : Ex -> Prop
 | mk (e : Ex) : e.name.size <= 20000 -> e.second.size <= 20000 -> PlSm e.place -> e.args.length <= 20000 -> (∀ x ∈ e.args,ExSm x) -> ExSm e
def zXh (l : List Ex) : Prop:=l.length <= 20000 /\ ∀ x ∈ l,ExSm x
inductive StSm : St -> Prop
 | mk (s : St) : s.name.size <= 20000 -> s.second.size <= 20000 -> NmSm s.names -> TySm s.type -> PlSm s.place -> zXh s.exprs -> s.body.length <= 20000 -> s.els.length <= 20000 -> s.arms.length <= 20000 ->
  (∀ x ∈ s.body,StSm x) -> (∀ x ∈ s.els,StSm x) -> (∀ a ∈ s.arms,a.variant.size <= 20000 /\ a.name.size <= 20000 /\ a.body.length <= 20000) -> (∀ a ∈ s.arms,∀ x ∈ a.body,StSm x) -> StSm s
def zSl (l : List St) : Prop:=l.length <= 20000 /\ ∀ x ∈ l,StSm x
def FiSm (x : Fi) : Prop:=x.name.size <= 20000 /\ TySm x.type
def zVa (l : List Fi) : Prop:=l.length <= 20000 /\ ∀ x ∈ l,FiSm x
def ItSm (x : It) : Prop:=x.name.size <= 20000 /\ zVa x.fields /\ TySm x.result /\ zSl x.body /\ ExSm x.ret
def PrSm (p : List It) : Prop:=p.length <= 20000 /\ ∀ x ∈ p,ItSm x
theorem zBn {α : Type} {g : α -> Int -> Int} : ∀ (l : List α) (n : Int),(∀ x ∈ l,∀ m,-6 <= m -> m <= 100000 -> -6 <= g x m /\ (g x m <= m - 5 \/ g x m < 0)) -> -6 <= n -> n <= 100000 -> 0 <= zF g l n -> (5 * (l.length : Int) <= n) /\ zF g l n <= n /\ ∀ x ∈ l,∃ m,0 <= m /\ m <= n /\ 0 <= g x m
 | [],n,h,h1,h2,h3=>by
  unfold zF at h3
  exact ⟨by simpa using h3,by simp [zF],fun x hx=>by simp at hx⟩
 | x :: l,n,h,h1,h2,h3=>by
  unfold zF at h3;split at h3
  .omega
  .rename_i hn
   have hx:=h x (by simp) n h1 h2
   have hpos : 0 <= g x n:=by
    rcases Int.lt_or_le (g x n) 0 with hg | hg
    .rw [zDi hg] at h3; omega
    .exact hg
   obtain ⟨i1,i2,i3⟩:=zBn l (g x n) (fun y hy=>h y (by simp [hy])) hx.1 (by omega) h3
   refine ⟨by simp only [List.length_cons]; omega,by unfold zF; rw [if_neg hn]; omega,fun y hy=>?_⟩
   rcases List.mem_cons.1 hy with rfl | hy
   .exact ⟨n,by omega,by omega,hpos⟩
   .obtain ⟨m,m1,m2,m3⟩:=i3 y hy
    exact ⟨m,m1,by omega,m3⟩
theorem zp {α : Type} {g : α -> Int -> Int} {l : List α} {n : Int} (h : 0 <= zF g l n) : 0 <= n:=by
 rcases Int.lt_or_le n 0 with hn | hn
 .rw [zDi hn] at h; omega
 .exact hn
theorem zB3 {α : Type} {g : α -> Int -> Int} : ∀ (l : List α) (n : Int),(∀ x ∈ l,∀ m,-6 <= m -> m <= 100000 -> -6 <= g x m /\ (g x m <= m - 5 \/ g x m < 0)) -> -6 <= n -> n <= 100000 -> -6 <= zF g l n /\ (zF g l n <= n \/ zF g l n < 0)
 | [],n,h,h1,h2=>⟨h1,.inl (Int.le_refl _)⟩
 | x :: l,n,h,h1,h2=>by
  unfold zF;split
  .omega
  .have hx:=h x (by simp) n h1 h2
   have:=zB3 l (g x n) (fun y hy=>h y (by simp [hy])) hx.1 (by omega)
   omega
theorem zK {k : Nat} {n : Int} (h : 0 <= zC k n) : (k : Int) + 5 <= n /\ zC k n = n - 5 - k:=by
 unfold zC at h ⊢;split at h
 .omega
 .split at h
  .omega
  .rename_i h1 h2; rw [if_neg h1,if_neg h2]; omega
theorem zX (k : Nat) (n : Int) (h : -10 <= n) : -1 <= zC k n /\ (zC k n <= n - 5 \/ zC k n < 0):=by
 unfold zC; split <;> (try split) <;> omega
def Cst (g : Int -> Int) : Prop:=∀ m,-10 <= m -> m <= 100000 -> -6 <= g m /\ (g m <= m - 5 \/ g m < 0)
theorem zGv : ∀ (t : Ty),Cst t.room:=by
 refine Ty.ind fun t ih n h1 h2=>?_
 rw [zBD]
 have a:=zX t.name.size n h1
 have:=zB3 t.args _ (fun x hx m a b=>ih x hx m (by omega) b) (by omega : (-6 : Int) <= zC t.name.size n) (by omega)
 omega
theorem zF8 (l : List ByteArray) (n : Int) (h1 : -1 <= n) (h2 : n <= 100000) : -6 <= zr l n /\ (zr l n <= n \/ zr l n < 0):=by
 have:=zB3 l (n - 5) (g:=fun s m=>zC s.size m) (fun x hx m a b=>by have:=zX x.size m (by omega); omega) (by omega) (by omega)
 unfold zr;omega
theorem zPw (x : Pl) : Cst x.room:=fun n h1 h2=>by
 have a:=zX x.name.size n h1
 have:=zF8 x.path (zC x.name.size n) a.1 (by omega)
 unfold Pl.room;omega
theorem zMK : ∀ (e : Ex),Cst e.room:=by
 refine Ex.ind fun e ih n h1 h2=>?_
 rw [zCI]
 have a:=zX e.name.size n h1
 have b:=zX e.second.size (zC e.name.size n) (by omega)
 have c:=zPw e.place _ (by omega : (-10 : Int) <= zC e.second.size (zC e.name.size n)) (by omega)
 have:=zB3 e.args _ (fun x hx m a b=>ih x hx m (by omega) b) c.1 (by omega)
 omega
theorem zVb : ∀ (t : Ty) (n : Int),-10 <= n -> n <= 20000 -> 0 <= t.room n -> TySm t:=by
 refine Ty.ind fun t ih n h1 h2 h=>?_
 rw [zBD] at h
 have hp:=zp h
 have a:=zK hp
 have f:=zBn t.args _ (fun x hx m a b=>zGv x m (by omega) b) (by omega) (by omega) h
 exact .mk t (by omega) (by omega) fun x hx=>by
  obtain ⟨m,m1,m2,m3⟩:=f.2.2 x hx
  exact ih x hx m (by omega) (by omega) m3
theorem zXi {l : List ByteArray} {n : Int} (h1 : -1 <= n) (h2 : n <= 20000) (h : 0 <= zr l n) : NmSm l:=by
 have f:=zBn l (n - 5) (g:=fun s m=>zC s.size m) (fun x hx m a b=>by have:=zX x.size m (by omega); omega) (by omega) (by omega) h
 exact ⟨by omega,fun s hs=>by
  obtain ⟨m,m1,m2,m3⟩:=f.2.2 s hs
  have:=zK m3
  omega⟩
theorem zDk {l : List ByteArray} {n : Int} (h : 0 <= zr l n) : 0 <= n:=by have:=zp h; omega
theorem zXj {x : Pl} {n : Int} (h2 : n <= 20000) (h : 0 <= x.room n) : PlSm x:=by
 have hp:=zDk h
 have a:=zK hp
 exact ⟨by omega,zXi (by omega) (by omega) h⟩
theorem zH2 {x : Pl} {n : Int} (h : 0 <= x.room n) : 0 <= n:=by
 have a:=zK (zDk h)
 omega
theorem zXk : ∀ (e : Ex) (n : Int),-10 <= n -> n <= 20000 -> 0 <= e.room n -> ExSm e:=by
 refine Ex.ind fun e ih n h1 h2 h=>?_
 rw [zCI] at h
 have hp:=zp h
 have hq:=zH2 hp
 have b:=zK hq
 have a:=zK (by omega : 0 <= zC e.name.size n)
 have c:=zPw e.place _ (by omega : (-10 : Int) <= zC e.second.size (zC e.name.size n)) (by omega)
 have f:=zBn e.args _ (fun x hx m a b=>zMK x m (by omega) b) c.1 (by omega) h
 exact .mk e (by omega) (by omega) (zXj (by omega) hp) (by omega) fun x hx=>by
  obtain ⟨m,m1,m2,m3⟩:=f.2.2 x hx
  exact ih x hx m (by omega) (by omega) m3
theorem zXl {l : List Ex} {n : Int} (h1 : -6 <= n) (h2 : n <= 20000) (h : 0 <= zF Ex.room l n) : zXh l:=by
 have f:=zBn l n (fun x hx m a b=>zMK x m (by omega) b) h1 (by omega) h
 exact ⟨by omega,fun x hx=>by
  obtain ⟨m,m1,m2,m3⟩:=f.2.2 x hx
  exact zXk x m (by omega) (by omega) m3⟩
theorem zPx (s : St) (n : Int) (h1 : -10 <= n) (h2 : n <= 100000) : -6 <= s.room1 n /\ (s.room1 n <= n - 5 \/ s.room1 n < 0):=by
 have a:=zX s.name.size n h1
 have b:=zX s.second.size (zC s.name.size n) (by omega)
 have c:=zF8 s.names (zC s.second.size (zC s.name.size n)) (by omega) (by omega)
 have d:=zGv s.type _ (by omega : (-10 : Int) <= zr s.names (zC s.second.size (zC s.name.size n))) (by omega)
 have e:=zPw s.place _ (by omega : (-10 : Int) <= s.type.room (zr s.names (zC s.second.size (zC s.name.size n)))) (by omega)
 unfold St.room1;omega
theorem zUD (l : List Ex) (n : Int) (h1 : -6 <= n) (h2 : n <= 100000) : -6 <= zF Ex.room l n /\ (zF Ex.room l n <= n \/ zF Ex.room l n < 0):=zB3 l n (fun x _ m a b=>zMK x m (by omega) b) h1 h2
theorem zH3 : ∀ (s : St),Cst s.room:=by
 refine St.ind fun s ih1 ih2 ih3 n h1 h2=>?_
 rw [zDj]
 have a:=zPx s n h1 h2
 have b:=zUD s.exprs (s.room1 n) a.1 (by omega)
 split
 .omega
 have c:=zB3 s.body _ (fun x hx m a b=>ih1 x hx m (by omega) b) b.1 (by omega)
 have d:=zB3 s.els _ (fun x hx m a b=>ih2 x hx m (by omega) b) c.1 (by omega)
 have e:=zB3 (g:=Ar.room) s.arms _ (fun x hx m a b=>by
  rw [zBy]
  have e:=zX x.variant.size m (by omega)
  have f:=zX x.name.size (zC x.variant.size m) (by omega)
  have:=zB3 x.body _ (fun y hy m a b=>ih3 x hx y hy m (by omega) b) (by omega : (-6 : Int) <= zC x.name.size (zC x.variant.size m)) (by omega)
  omega) d.1 (by omega)
 omega
theorem zJ2 (l : List St) (n : Int) (h1 : -6 <= n) (h2 : n <= 100000) : -6 <= zF St.room l n /\ (zF St.room l n <= n \/ zF St.room l n < 0):=zB3 l n (fun x _ m a b=>zH3 x m (by omega) b) h1 h2
theorem zXm (x : Ar) (m : Int) (a : -6 <= m) (b : m <= 100000) : -6 <= x.room m /\ (x.room m <= m - 5 \/ x.room m < 0):=by
 rw [zBy]
 have e:=zX x.variant.size m (by omega)
 have f:=zX x.name.size (zC x.variant.size m) (by omega)
 have:=zJ2 x.body _ (by omega : (-6 : Int) <= zC x.name.size (zC x.variant.size m)) (by omega)
 omega
theorem zZT : ∀ (s : St) (n : Int),-10 <= n -> n <= 20000 -> 0 <= s.room n -> StSm s:=by
 refine St.ind fun s ih1 ih2 ih3 n h1 h2 h=>?_
 rw [zDj] at h;split at h
 .omega
 rename_i hx
 have a:=zPx s n h1 (by omega)
 have hx : 0 <= zF Ex.room s.exprs (s.room1 n):=by omega
 have h0:=zp hx
 have hp:=zH2 h0
 have b1:=zUD s.exprs (s.room1 n) a.1 (by omega)
 have c1:=zJ2 s.body _ b1.1 (by omega)
 have d1:=zJ2 s.els _ c1.1 (by omega)
 have fA:=zBn s.arms _ (fun x _ m a b=>zXm x m a b) d1.1 (by omega) h
 have hE:=zp h
 have fE:=zBn s.els _ (fun x _ m a b=>zH3 x m (by omega) b) c1.1 (by omega) hE
 have hB:=zp hE
 have fB:=zBn s.body _ (fun x _ m a b=>zH3 x m (by omega) b) b1.1 (by omega) hB
 have n1:=zX s.name.size n h1
 have n2:=zX s.second.size (zC s.name.size n) (by omega)
 have n3:=zF8 s.names (zC s.second.size (zC s.name.size n)) (by omega) (by omega)
 have n4:=zGv s.type _ (by omega : (-10 : Int) <= zr s.names (zC s.second.size (zC s.name.size n))) (by omega)
 have tp : 0 <= zr s.names (zC s.second.size (zC s.name.size n)):=by
  have:=hp
  rw [zBD] at this
  have:=zK (zp this)
  omega
 have np:=zDk tp
 have k2:=zK np
 have k1:=zK (by omega : 0 <= zC s.name.size n)
 refine .mk s (by omega) (by omega) (zXi (by omega) (by omega) tp) (zVb _ _ (by omega) (by omega) hp) (zXj (by omega) h0) (zXl a.1 (by omega) hx) (by omega) (by omega) (by omega) (fun x hx=>?_) (fun x hx=>?_) (fun x hx=>?_) (fun x hx y hy=>?_)
 .obtain ⟨m,m1,m2,m3⟩:=fB.2.2 x hx
  exact ih1 x hx m (by omega) (by omega) m3
 .obtain ⟨m,m1,m2,m3⟩:=fE.2.2 x hx
  exact ih2 x hx m (by omega) (by omega) m3
 .obtain ⟨m,m1,m2,m3⟩:=fA.2.2 x hx
  rw [zBy] at m3
  have k2:=zK (zp m3)
  have k1:=zK (by omega : 0 <= zC x.variant.size m)
  have f:=zBn x.body _ (fun x _ m a b=>zH3 x m (by omega) b) (by omega) (by omega) m3
  exact ⟨by omega,by omega,by omega⟩
 .obtain ⟨m,m1,m2,m3⟩:=fA.2.2 x hx
  rw [zBy] at m3
  have k2:=zK (zp m3)
  have k1:=zK (by omega : 0 <= zC x.variant.size m)
  have f:=zBn x.body _ (fun x _ m a b=>zH3 x m (by omega) b) (by omega) (by omega) m3
  obtain ⟨i,i1,i2,i3⟩:=f.2.2 y hy
  exact ih3 x hx y hy i (by omega) (by omega) i3
theorem zXn {l : List St} {n : Int} (h1 : -6 <= n) (h2 : n <= 20000) (h : 0 <= zF St.room l n) : zSl l:=by
 have f:=zBn l n (fun x hx m a b=>zH3 x m (by omega) b) h1 (by omega) h
 exact ⟨by omega,fun x hx=>by
  obtain ⟨m,m1,m2,m3⟩:=f.2.2 x hx
  exact zZT x m (by omega) (by omega) m3⟩
theorem zPy (x : Fi) (n : Int) (h1 : -6 <= n) (h2 : n <= 100000) : -6 <= x.room n /\ (x.room n <= n - 5 \/ x.room n < 0):=by
 have a:=zX x.name.size n (by omega)
 have b:=zGv x.type (zC x.name.size n) (by omega) (by omega)
 unfold Fi.room;omega
theorem zXo {l : List Fi} {n : Int} (h1 : -6 <= n) (h2 : n <= 20000) (h : 0 <= zF Fi.room l n) : zVa l:=by
 have f:=zBn l n (fun x hx m a b=>zPy x m a b) h1 (by omega) h
 exact ⟨by omega,fun x hx=>by
  obtain ⟨m,m1,m2,m3⟩:=f.2.2 x hx
  have e:=zX x.name.size m (by omega)
  refine ⟨?_,zVb _ _ (by omega) (by omega) m3⟩
  unfold Fi.room at m3;rw [zBD] at m3
  have:=zK (zp m3)
  have:=zK (by omega : 0 <= zC x.name.size m)
  omega⟩
theorem zXp (x : It) (n : Int) (h1 : -6 <= n) (h2 : n <= 100000) : -6 <= x.room n /\ (x.room n <= n - 5 \/ x.room n < 0):=by
 have a:=zX x.name.size n (by omega)
 have b:=zB3 x.fields _ (fun x _ m a b=>zPy x m a b) (by omega : (-6 : Int) <= zC x.name.size n) (by omega)
 have c:=zGv x.result _ (by omega : (-10 : Int) <= zF Fi.room x.fields (zC x.name.size n)) (by omega)
 have d:=zJ2 x.body _ c.1 (by omega)
 have e:=zMK x.ret _ (by omega : (-10 : Int) <= zF St.room x.body (x.result.room (zF Fi.room x.fields (zC x.name.size n)))) (by omega)
 unfold It.room;omega
theorem zNR {p : List It} (h : great p = false) : PrSm p:=by
 have h : 0 <= zF It.room p 20000:=by simpa [great] using h
 have f:=zBn p 20000 (fun x hx m a b=>zXp x m a b) (by omega) (by omega) h
 refine ⟨by omega,fun x hx=>?_⟩
 obtain ⟨n,h1,h2,h3⟩:=f.2.2 x hx
 have a:=zX x.name.size n (by omega)
 have b:=zB3 x.fields _ (fun x _ m a b=>zPy x m a b) (by omega : (-6 : Int) <= zC x.name.size n) (by omega)
 have c:=zGv x.result _ (by omega : (-10 : Int) <= zF Fi.room x.fields (zC x.name.size n)) (by omega)
 have d:=zJ2 x.body _ c.1 (by omega)
 have e3 : 0 <= zF St.room x.body (x.result.room (zF Fi.room x.fields (zC x.name.size n))):=by
  have:=h3
  unfold It.room at this;rw [zCI] at this
  have k2:=zK (zH2 (zp this))
  have k1:=zK (by omega : 0 <= zC x.ret.name.size (zF St.room x.body (x.result.room (zF Fi.room x.fields (zC x.name.size n)))))
  omega
 have e2:=zp e3
 have e1 : 0 <= zF Fi.room x.fields (zC x.name.size n):=by
  have:=e2
  rw [zBD] at this
  have:=zK (zp this)
  omega
 have k:=zK (zp e1)
 exact ⟨by omega,zXo (by omega) (by omega) e1,zVb _ _ (by omega) (by omega) e2,zXn c.1 (by omega) e3,zXk _ _ (by omega) (by omega) h3⟩
end Go.Proofs.YtlclonljdagpkaaGreatDoor
