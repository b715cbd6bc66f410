/- A part of the proof. The statement is proved in the claim's last text. -/
import Derived.Test.YtlclonljdagpkaaGreatDoorQMLt
import Derived.Test.YtlclonljdagpkaaGreatDoorQMLx
import Derived.Test.YtlclonljdagpkaaGreatDoorQMRoom
import Derived.Test.YtlclonljdagpkaaGreatDoorQMShelf
import Derived.WalkKit
import Derived.Handy
import Derived.Laws.Externs
set_option linter.unusedVariables false
set_option linter.unusedSimpArgs false
set_option maxRecDepth 100000
set_option maxHeartbeats 32000000
namespace Go.Proofs.YtlclonljdagpkaaGreatDoor
open Go.RowKit
abbrev emS : ByteArray:=⟨#[]⟩
abbrev zXq : ByteArray:=(⟨#[42]⟩ : ByteArray)
@[simp] theorem len_beq0 (n : Nat) : ((n : Int) == 0) = decide (n = 0):=by
 rw [Bool.eq_iff_iff,beq_iff_eq,decide_eq_true_eq]; omega
@[simp] theorem len_beq1 (n : Nat) : ((n : Int) == 1) = decide (n = 1):=by
 rw [Bool.eq_iff_iff,beq_iff_eq,decide_eq_true_eq]; omega
def z5 {α : Type} (p : α -> Bool) (l : List α) (m : Int) : Bool:=decide ((l.length : Int) <= m) && (l.take m.toNat).all p
theorem zCi {α : Type} {p : α -> Bool} {l : List α} {m : Int} (h : (l.length : Int) <= m) : z5 p l m = l.all p:=by
 unfold z5;rw [List.take_of_length_le (by omega)]; simp [h]
def zm (k : Int) : Bool:=k == 1 || k == 2 || k == 3 || k == 10
mutual
def Ty.whole : Ty -> Int -> Bool
 | .mk k s l,d=>decide (0 < d) && (decide (1 <= k) && (decide (k <= 14) &&
  (if zm k then sEq s emS && decide (l.length = 0) else if k = 4 then zBg s && decide (l.length = 0) else sEq s emS && (decide (l.length = 1) && Ty.wholeAll l (d - 1)))))
def Ty.wholeAll : List Ty -> Int -> Bool
 | [],_=>true
 | t :: l,d=>t.whole d && Ty.wholeAll l d
end
theorem zJ3 (l : List Ty) (d : Int) : Ty.wholeAll l d = l.all fun t=>t.whole d:=by
 induction l with
 | nil=>rfl
 | cons t l ih=>simp [Ty.wholeAll,ih]
theorem zSm (t : Ty) (d : Int) : t.whole d = (decide (0 < d) && (decide (1 <= t.kind) && (decide (t.kind <= 14) &&
  (if zm t.kind then sEq t.name emS && decide (t.args.length = 0) else if t.kind = 4 then zBg t.name && decide (t.args.length = 0) else sEq t.name emS && (decide (t.args.length = 1) && t.args.all fun x=>x.whole (d - 1)))))):=by
 cases t with | mk k s l=>simp only [Ty.whole,zJ3]; rfl
def zSn (s : ByteArray) : Bool:=sEq s zXq || zAX s
def Pl.whole (x : Pl) : Bool:=zAX x.name && z5 zSn x.path 40
def zA6 (op : Int) : Bool:=op == 5 || op == 6
def shP (op : Int) : Bool:=op == 4 || op == 5 || op == 6 || op == 24 || op == 28 || op == 32 || op == 36 || op == 25 || op == 33 || op == 34 || op == 35
def shL (op : Int) : Int:=if op = 1 \/ op = 2 \/ op = 3 \/ op = 4 \/ op = 5 \/ op = 6 \/ op = 24 \/ op = 28 \/ op = 32 \/ op = 36 \/ op = 18 \/ op = 19 \/ op = 20 then 0 else if 9 <= op /\ op <= 17 then 2 else 1
def shM (op : Int) : Int:=if op = 1 \/ op = 2 \/ op = 3 \/ op = 4 \/ op = 5 \/ op = 6 \/ op = 24 \/ op = 28 \/ op = 32 \/ op = 36 then 0 else if op = 18 \/ op = 19 then 6 else if 9 <= op /\ op <= 17 then 2 else 1
def shO (op : Int) : Bool:=decide (1 <= op) && decide (op <= 36)
def labB (op int : Int) (name second : ByteArray) : Bool :=
 (if op = 18 then zAX name else if op = 19 \/ op = 20 then zBg name else sEq name emS) && (if op = 20 then zBg second else sEq second emS) && (if op = 1 then decide (0 <= int) else if op = 2 then int == 0 || int == 1 else int == 0)
def zFN (x : Pl) : Bool:=sEq x.name emS && decide (x.path.length = 0)
def zDl (op : Int) (x : Pl) (n : Nat) (is : Bool) : Bool :=
 if is then x.whole else if op = 19 then sEq x.name emS && (decide (x.path.length = n) && z5 zAX x.path 6) else zFN x
def zH4 (op int : Int) (name second : ByteArray) (pl : Pl) (n : Nat) : Bool:=shO op && (labB op int name second && (decide (shL op <= n) && zDl op pl n (shP op)))
mutual
def Ex.whole : Ex -> Int -> Bool
 | .mk op int name second pl args _,d=>decide (1 <= d) && (zH4 op int name second pl args.length && (decide ((args.length : Int) <= shM op) && Ex.wholeAll op args (d - 1)))
def Ex.wholeAll (o : Int) : List Ex -> Int -> Bool
 | [],_=>true
 | .mk op int name second pl args pos :: l,d=>(((o == 18) || !zA6 op) && Ex.whole (.mk op int name second pl args pos) d) && Ex.wholeAll o l d
end
theorem zHb (o : Int) (l : List Ex) (d : Int) : Ex.wholeAll o l d = l.all fun t=>((o == 18) || !zA6 t.op) && t.whole d:=by
 induction l with
 | nil=>rfl
 | cons t l ih=>cases t; simp [Ex.wholeAll,ih]; rfl
theorem zCj (e : Ex) (d : Int) : e.whole d = (decide (1 <= d) && (zH4 e.op e.int e.name e.second e.place e.args.length && z5 (fun t=>((e.op == 18) || !zA6 t.op) && t.whole (d - 1)) e.args (shM e.op))):=by
 cases e with
 | mk op int name second pl args pos =>
  simp only [Ex.whole,zHb,Ex.op,Ex.int,Ex.name,Ex.second,Ex.place,Ex.args]
  by_cases h : (args.length : Int) <= shM op
  .rw [zCi h]; simp [h]
  .simp [z5,h]
def zZA (e : Ex) : Bool:=!zA6 e.op && e.whole 40
def zBA (t : Ty) : Bool:=(t.kind == 0) && (sEq t.name emS && decide (t.args.length = 0))
def fmN (op : Int) : ByteArray -> Bool:=if op = 1 \/ op = 5 \/ op = 8 \/ op = 11 \/ op = 12 then zAX else if op = 2 then zBg else fun s=>sEq s emS
def fmS (op : Int) : ByteArray -> Bool:=if op = 8 then zBg else if op = 12 then zAX else fun s=>sEq s emS
def zh (op : Int) : Int:=if op = 2 \/ op = 10 then 6 else 0
def zo (op : Int) (n : Nat) : Int:=if op = 10 then n else if op = 1 \/ op = 2 \/ op = 3 \/ op = 4 \/ op = 6 \/ op = 7 then 1 else 0
def zAB (op : Int) : Bool:=op == 12
def zk (op : Int) : Bool:=op == 3 || op == 11
def zAc (op : Int) : Bool:=op == 6 || op == 7 || op == 9 || op == 13 || op == 10 || op == 11
def zAd (op : Int) : Bool:=op == 6
def zAe (op : Int) : Bool:=op == 8
def zBj (op : Int) : Bool:=op == 1 || op == 10
def fmOk (op : Int) : Bool:=decide (1 <= op) && decide (op <= 13)
def zEQ (op int : Int) : Bool:=if op = 12 then decide (1 <= int) && decide (int <= 8) else int == 0
def zO (op int : Int) (name second : ByteArray) (names : List ByteArray) (ty : Ty) (pl : Pl) (es : List Ex) (d : Int) : Bool :=
 fmOk op && (zEQ op int && (fmN op name && (fmS op second && (decide ((es.length : Int) = zo op names.length) && (z5 zAX names (zh op) &&
  ((zAB op == ty.whole (d - 1)) && ((zAB op || zBA ty) && ((zk op == pl.whole) && (zk op || zFN pl)))))))))
def exsB (op : Int) (es : List Ex) (d : Int) : Bool:=z5 (fun e=>(zBj op || !zA6 e.op) && e.whole (d - 1)) es 6
mutual
def St.whole : St -> Int -> Bool
 | .mk op name second names ty int pl es b el ar _,d=>decide (1 <= d) && (zO op int name second names ty pl es d && ((zAc op || decide (b.length = 0)) && ((zAd op || decide (el.length = 0)) && ((zAe op || decide (ar.length = 0)) &&
  (exsB op es d && (St.wholeAll b (d - 1) && (St.wholeAll el (d - 1) && (decide (ar.length <= 6) && Ar.wholeAll ar (d - 1)))))))))
def St.wholeAll : List St -> Int -> Bool
 | [],_=>true
 | s :: l,d=>s.whole d && St.wholeAll l d
def Ar.wholeAll : List (ArOf St) -> Int -> Bool
 | [],_=>true
 | ⟨v,n,b⟩ :: l,d=>(zBg v && ((sEq n emS || zAX n) && St.wholeAll b d)) && Ar.wholeAll l d
end
theorem zER (l : List St) (d : Int) : St.wholeAll l d = l.all fun t=>t.whole d:=by
 induction l with
 | nil=>rfl
 | cons t l ih=>simp [St.wholeAll,ih]
def Ar.whole (a : Ar) (d : Int) : Bool:=zBg a.variant && ((sEq a.name emS || zAX a.name) && a.body.all fun t=>t.whole d)
theorem zHc (l : List Ar) (d : Int) : Ar.wholeAll l d = l.all fun t=>t.whole d:=by
 induction l with
 | nil=>rfl
 | cons t l ih=>cases t; simp [Ar.wholeAll,ih,Ar.whole,zER]
theorem zB (s : St) (d : Int) : s.whole d = (decide (1 <= d) && (zO s.op s.int s.name s.second s.names s.type s.place s.exprs d && ((zAc s.op || decide (s.body.length = 0)) && ((zAd s.op || decide (s.els.length = 0)) && ((zAe s.op || decide (s.arms.length = 0)) &&
  (exsB s.op s.exprs d && (s.body.all (fun t=>t.whole (d - 1)) && (s.els.all (fun t=>t.whole (d - 1)) && z5 (fun a=>a.whole (d - 1)) s.arms 6)))))))):=by
 cases s with
 | mk op name second names ty int pl es b el ar pos =>
  simp only [St.whole,zER,zHc,St.op,St.int,St.name,St.second,St.names,St.type,St.place,St.exprs,St.body,St.els,St.arms]
  congr 1; congr 1; congr 1; congr 1; congr 1; congr 1; congr 1; congr 1
  by_cases h : (ar.length : Int) <= 6
  .rw [zCi h]; simp [show ar.length <= 6 by omega]
  .simp [z5,h,show ¬ ar.length <= 6 by omega]
def zCa (e : Ex) : Bool:=(e.op == 0) && ((e.int == 0) && (sEq e.name emS && (sEq e.second emS && ((sEq e.place.name emS && decide (e.place.path.length = 0)) && decide (e.args.length = 0)))))
def zCJ (k : Int) (d : Int) (f : Fi) : Bool:=(if k = 2 then zBg f.name else zAX f.name) && (((k == 2) && zBA f.type) || f.type.whole (d - 1))
def It.whole (x : It) (d : Int) : Bool :=
 if x.kind = 1 \/ x.kind = 2 then (zBA x.result && (decide (x.body.length = 0) && (zCa x.ret && zBg x.name))) && z5 (zCJ x.kind d) x.fields 6
 else if x.kind = 3 then zAX x.name && (z5 (zCJ 3 d) x.fields 6 && (x.result.whole (d - 1) && (!zA6 x.ret.op && (x.ret.whole (d - 1) && x.body.all fun s=>s.whole (d - 1)))))
 else false
def z6 (p : List It) : Bool:=z5 (fun x=>x.whole 39) p 30
end Go.Proofs.YtlclonljdagpkaaGreatDoor
namespace Go.Proofs.YtlclonljdagpkaaGreatDoor
open Go.RowKit
attribute [local simp] List.replicate List.range List.range.loop resA zR retA AV.cuts AV.cut AObj.cut trim wkR wkT wkL wkN wkNR wkNL wkM wkMR wkML
abbrev tyV (t : Ty) : AV:=.agg [U t.kind,Sg t.name,.p (.sl 3 (t.args.map Ty.enc))]
abbrev plV (x : Pl) : AV:=.agg [Sg x.name,.p (strs x.path)]
abbrev exV (e : Ex) : AV:=.agg [U e.op,I e.int,Sg e.name,Sg e.second,Sg e.place.name,.p (strs e.place.path),.p (.sl 8 (e.args.map Ex.enc)),I e.pos]
abbrev fiV (x : Fi) : AV:=.agg [Sg x.name,U x.type.kind,Sg x.type.name,.p (.sl 3 (x.type.args.map Ty.enc))]
abbrev arV (a : Ar) : AV:=.agg [Sg a.variant,Sg a.name,.p (.sl 15 (a.body.map St.enc))]
abbrev stU (s : St) : List AV:=[U s.op,Sg s.name,Sg s.second,.p (strs s.names),U s.type.kind,Sg s.type.name,.p (.sl 3 (s.type.args.map Ty.enc)),I s.int,Sg s.place.name,.p (strs s.place.path),.p (.sl 8 (s.exprs.map Ex.enc)),.p (.sl 15 (s.body.map St.enc)),.p (.sl 15 (s.els.map St.enc)),.p (.sl 3 (s.arms.map Ar.enc)),I s.pos]
abbrev stmV (s : St) : AV:=.agg (stU s)
abbrev itU (x : It) : List AV:=[U x.kind,Sg x.name,.p (.sl 4 (x.fields.map Fi.enc)),U x.result.kind,Sg x.result.name,.p (.sl 3 (x.result.args.map Ty.enc)),.p (.sl 15 (x.body.map St.enc)),U x.ret.op,I x.ret.int,Sg x.ret.name,Sg x.ret.second,Sg x.ret.place.name,.p (strs x.ret.place.path),.p (.sl 8 (x.ret.args.map Ex.enc)),I x.ret.pos,I x.pos]
abbrev itV (x : It) : AV:=.agg (itU x)
mutual
theorem zXr (n : Nat) : ∀ v : AV,(v.up 1).cut n = v.up 1
 | .any=>rfl
 | .un=>rfl
 | .p _=>rfl
 | .ptr _ _ _=>rfl
 | .mp _ _=>rfl
 | .bl=>rfl
 | .asl _ _ _ _=>rfl
 | .rsl _ _ _ _=>rfl
 | .rptr _ _ _ _=>rfl
 | .rp _=>rfl
 | .bx cs=>by simp only [AV.up,AV.cut,zDA n cs]
 | .osl _ _ _ _=>rfl
 | .agg cs=>by simp only [AV.up,AV.cut,zDA n cs]
 | .tup cs=>by simp only [AV.up,AV.cut,zDA n cs]
 | .fn f xs ys=>by simp only [AV.up,AV.cut,zDA n xs,zDA n ys]
theorem zDA (n : Nat) : ∀ cs : List AV,AV.cuts n (AV.ups 1 cs) = AV.ups 1 cs
 | []=>rfl
 | c :: cs=>by simp only [AV.ups,AV.cuts,zXr n c,zDA n cs]
end
attribute [simp] zDA
theorem zDB {α : Type} {p : α -> Bool} {l : List α} {m : Int} {q : Nat} (hq : q < l.length) (hm : (q : Int) < m) (h : p l[q] = false) : z5 p l m = false:=by
 unfold z5
 have : (l.take m.toNat).all p = false:=by
  rw [List.all_eq_false];exact ⟨l[q],List.mem_take_iff_getElem.2 ⟨q,by omega,rfl⟩,by simp [h]⟩
 simp [this]
theorem zAm {α : Type} {p : α -> Bool} {l : List α} {m : Int} {q : Nat} (h : ∀ i (hi : i < l.length),i < q -> p l[i] = true) (hq : q < l.length -> m <= q) : z5 p l m = decide ((l.length : Int) <= m):=by
 unfold z5
 by_cases hm : (l.length : Int) <= m
 .have : (l.take m.toNat).all p = true:=by
   rw [List.all_eq_true];intro x hx
   obtain ⟨i,hi,rfl⟩:=List.mem_take_iff_getElem.1 hx
   exact h i (by omega) (by rcases Nat.lt_or_ge q l.length with h1 | h1 <;> omega)
  simp [hm,this]
 .simp [hm]
theorem zSo (p : Ty -> Bool) (l : List Ty) (m : Int) (hm : m <= 1000000) (K : Nat) (fs caps : List AV) (S : ASt) (hc : ∀ x ∈ l,∀ L,ADet Tryz.prog K (AV.ups 1 fs ++ (tyV x :: AV.ups 1 caps)) (L :: S) (B (p x)) (L :: S)) :
  ADet Tryz.prog 163 [.p (.sl 3 (l.map Ty.enc)),I m,.fn (.func K) fs caps] S (B (z5 p l m)) S:=by
 skip
 refine ADet.okP Tryz.call163 0 rfl fun hok=>?_
 have hlen:=okl hok
 refine ADet.intro mixed Tryz.call163 Tryz.func163 rfl ?_;simp [Tryz.ntmps163];refine zE (fun q : Nat=>q <= l.length /\ ∀ i (hi : i < l.length),i < q -> p l[i] = true) (fun q=>([.p (.sl 3 (l.map Ty.enc)),I m,.fn (.func K) (AV.ups 1 fs) (AV.ups 1 caps),.any,.any,.any,.any,I q] ++ List.replicate 22 .any)) (fun q=>[] :: S) (fun q=>l.length - q) 0 ⟨Nat.zero_le _,fun i hi h=>by omega⟩ ?_ ?_ ?_
 .simp
 .simp
 rintro q ⟨hq,hall⟩
 by_cases hlt : q < l.length
 .by_cases hqm : (q : Int) < m
  .generalize hx : l[q] = x
   have hx2:=hc x (by rw [<- hx]; exact List.getElem_mem hlt)
   simp [hlt,hqm,hx,zC4];refine ⟨_,_,hx2 _,?_⟩
   cases hp : p x with
   | false =>
    have:=zDB (p:=p) hlt hqm (by rw [hx]; exact hp)
    simp [hp,this]
   | true =>
    simp [hp]
    exact ⟨q + 1,⟨hlt,fun i hi h=>by
     rcases Nat.lt_or_ge i q with h' | h'
     .exact hall i hi h'
     .obtain rfl : i = q:=by omega
      rw [hx]; exact hp⟩,by omega,zD hlt⟩
  .have:=zAm (m:=m) hall (fun _=>by omega)
   simp [hlt,hqm,this]
 .have:=zAm (m:=m) hall (fun h=>absurd h hlt)
  simp [hlt,this]
theorem zBI (p : ByteArray -> Bool) (l : List ByteArray) (m : Int) (hm : m <= 1000000) (K : Nat) (fs caps : List AV) (S : ASt) (hc : ∀ x ∈ l,∀ L,ADet Tryz.prog K (AV.ups 1 fs ++ (Sg x :: AV.ups 1 caps)) (L :: S) (B (p x)) (L :: S)) :
  ADet Tryz.prog 175 [.p (strs l),I m,.fn (.func K) fs caps] S (B (z5 p l m)) S:=by
 unfold strs;refine ADet.okP Tryz.call175 0 rfl fun hok=>?_
 have hlen:=okl hok
 refine ADet.intro mixed Tryz.call175 Tryz.func175 rfl ?_;simp [Tryz.ntmps175];refine zE (fun q : Nat=>q <= l.length /\ ∀ i (hi : i < l.length),i < q -> p l[i] = true) (fun q=>([.p (.sl 1 (l.map fun s=>[pS s])),I m,.fn (.func K) (AV.ups 1 fs) (AV.ups 1 caps),.any,.any,.any,.any,I q] ++ List.replicate 22 .any)) (fun q=>[] :: S) (fun q=>l.length - q) 0 ⟨Nat.zero_le _,fun i hi h=>by omega⟩ ?_ ?_ ?_
 .simp
 .simp
 rintro q ⟨hq,hall⟩
 by_cases hlt : q < l.length
 .by_cases hqm : (q : Int) < m
  .generalize hx : l[q] = x
   have hx2:=hc x (by rw [<- hx]; exact List.getElem_mem hlt)
   simp [hlt,hqm,hx,pS];refine ⟨_,_,hx2 _,?_⟩
   cases hp : p x with
   | false =>
    have:=zDB (p:=p) hlt hqm (by rw [hx]; exact hp)
    simp [hp,this]
   | true =>
    simp [hp]
    exact ⟨q + 1,⟨hlt,fun i hi h=>by
     rcases Nat.lt_or_ge i q with h' | h'
     .exact hall i hi h'
     .obtain rfl : i = q:=by omega
      rw [hx]; exact hp⟩,by omega,zD hlt⟩
  .have:=zAm (m:=m) hall (fun _=>by omega)
   simp [hlt,hqm,this]
 .have:=zAm (m:=m) hall (fun h=>absurd h hlt)
  simp [hlt,this]
theorem zML (p : Ex -> Bool) (l : List Ex) (m : Int) (hm : m <= 1000000) (K : Nat) (fs caps : List AV) (S : ASt) (hc : ∀ x ∈ l,∀ L,ADet Tryz.prog K (AV.ups 1 fs ++ (exV x :: AV.ups 1 caps)) (L :: S) (B (p x)) (L :: S)) :
  ADet Tryz.prog 171 [.p (.sl 8 (l.map Ex.enc)),I m,.fn (.func K) fs caps] S (B (z5 p l m)) S:=by
 skip
 refine ADet.okP Tryz.call171 0 rfl fun hok=>?_
 have hlen:=okl hok
 refine ADet.intro mixed Tryz.call171 Tryz.func171 rfl ?_;simp [Tryz.ntmps171];refine zE (fun q : Nat=>q <= l.length /\ ∀ i (hi : i < l.length),i < q -> p l[i] = true) (fun q=>([.p (.sl 8 (l.map Ex.enc)),I m,.fn (.func K) (AV.ups 1 fs) (AV.ups 1 caps),.any,.any,.any,.any,I q] ++ List.replicate 22 .any)) (fun q=>[] :: S) (fun q=>l.length - q) 0 ⟨Nat.zero_le _,fun i hi h=>by omega⟩ ?_ ?_ ?_
 .simp
 .simp
 rintro q ⟨hq,hall⟩
 by_cases hlt : q < l.length
 .by_cases hqm : (q : Int) < m
  .generalize hx : l[q] = x
   have hx2:=hc x (by rw [<- hx]; exact List.getElem_mem hlt)
   simp [hlt,hqm,hx,zv];refine ⟨_,_,hx2 _,?_⟩
   cases hp : p x with
   | false =>
    have:=zDB (p:=p) hlt hqm (by rw [hx]; exact hp)
    simp [hp,this]
   | true =>
    simp [hp]
    exact ⟨q + 1,⟨hlt,fun i hi h=>by
     rcases Nat.lt_or_ge i q with h' | h'
     .exact hall i hi h'
     .obtain rfl : i = q:=by omega
      rw [hx]; exact hp⟩,by omega,zD hlt⟩
  .have:=zAm (m:=m) hall (fun _=>by omega)
   simp [hlt,hqm,this]
 .have:=zAm (m:=m) hall (fun h=>absurd h hlt)
  simp [hlt,this]
theorem zPz (p : Fi -> Bool) (l : List Fi) (m : Int) (hm : m <= 1000000) (K : Nat) (fs caps : List AV) (S : ASt) (hc : ∀ x ∈ l,∀ L,ADet Tryz.prog K (AV.ups 1 fs ++ (fiV x :: AV.ups 1 caps)) (L :: S) (B (p x)) (L :: S)) :
  ADet Tryz.prog 97 [.p (.sl 4 (l.map Fi.enc)),I m,.fn (.func K) fs caps] S (B (z5 p l m)) S:=by
 skip
 refine ADet.okP Tryz.call97 0 rfl fun hok=>?_
 have hlen:=okl hok
 refine ADet.intro mixed Tryz.call97 Tryz.func97 rfl ?_;simp [Tryz.ntmps97];refine zE (fun q : Nat=>q <= l.length /\ ∀ i (hi : i < l.length),i < q -> p l[i] = true) (fun q=>([.p (.sl 4 (l.map Fi.enc)),I m,.fn (.func K) (AV.ups 1 fs) (AV.ups 1 caps),.any,.any,.any,.any,I q] ++ List.replicate 22 .any)) (fun q=>[] :: S) (fun q=>l.length - q) 0 ⟨Nat.zero_le _,fun i hi h=>by omega⟩ ?_ ?_ ?_
 .simp
 .simp
 rintro q ⟨hq,hall⟩
 by_cases hlt : q < l.length
 .by_cases hqm : (q : Int) < m
  .generalize hx : l[q] = x
   have hx2:=hc x (by rw [<- hx]; exact List.getElem_mem hlt)
   simp [hlt,hqm,hx,Fi.enc];refine ⟨_,_,hx2 _,?_⟩
   cases hp : p x with
   | false =>
    have:=zDB (p:=p) hlt hqm (by rw [hx]; exact hp)
    simp [hp,this]
   | true =>
    simp [hp]
    exact ⟨q + 1,⟨hlt,fun i hi h=>by
     rcases Nat.lt_or_ge i q with h' | h'
     .exact hall i hi h'
     .obtain rfl : i = q:=by omega
      rw [hx]; exact hp⟩,by omega,zD hlt⟩
  .have:=zAm (m:=m) hall (fun _=>by omega)
   simp [hlt,hqm,this]
 .have:=zAm (m:=m) hall (fun h=>absurd h hlt)
  simp [hlt,this]
theorem zMM (p : St -> Bool) (l : List St) (m : Int) (hm : m <= 1000000) (K : Nat) (fs caps : List AV) (S : ASt) (hc : ∀ x ∈ l,∀ L,ADet Tryz.prog K (AV.ups 1 fs ++ (stmV x :: AV.ups 1 caps)) (L :: S) (B (p x)) (L :: S)) :
  ADet Tryz.prog 106 [.p (.sl 15 (l.map St.enc)),I m,.fn (.func K) fs caps] S (B (z5 p l m)) S:=by
 skip
 refine ADet.okP Tryz.call106 0 rfl fun hok=>?_
 have hlen:=okl hok
 refine ADet.intro mixed Tryz.call106 Tryz.func106 rfl ?_;simp [Tryz.ntmps106];refine zE (fun q : Nat=>q <= l.length /\ ∀ i (hi : i < l.length),i < q -> p l[i] = true) (fun q=>([.p (.sl 15 (l.map St.enc)),I m,.fn (.func K) (AV.ups 1 fs) (AV.ups 1 caps),.any,.any,.any,.any,I q] ++ List.replicate 22 .any)) (fun q=>[] :: S) (fun q=>l.length - q) 0 ⟨Nat.zero_le _,fun i hi h=>by omega⟩ ?_ ?_ ?_
 .simp
 .simp
 rintro q ⟨hq,hall⟩
 by_cases hlt : q < l.length
 .by_cases hqm : (q : Int) < m
  .generalize hx : l[q] = x
   have hx2:=hc x (by rw [<- hx]; exact List.getElem_mem hlt)
   simp [hlt,hqm,hx,zAz];refine ⟨_,_,hx2 _,?_⟩
   cases hp : p x with
   | false =>
    have:=zDB (p:=p) hlt hqm (by rw [hx]; exact hp)
    simp [hp,this]
   | true =>
    simp [hp]
    exact ⟨q + 1,⟨hlt,fun i hi h=>by
     rcases Nat.lt_or_ge i q with h' | h'
     .exact hall i hi h'
     .obtain rfl : i = q:=by omega
      rw [hx]; exact hp⟩,by omega,zD hlt⟩
  .have:=zAm (m:=m) hall (fun _=>by omega)
   simp [hlt,hqm,this]
 .have:=zAm (m:=m) hall (fun h=>absurd h hlt)
  simp [hlt,this]
theorem zVc (p : Ar -> Bool) (l : List Ar) (m : Int) (hm : m <= 1000000) (K : Nat) (fs caps : List AV) (S : ASt) (hc : ∀ x ∈ l,∀ L,ADet Tryz.prog K (AV.ups 1 fs ++ (arV x :: AV.ups 1 caps)) (L :: S) (B (p x)) (L :: S)) :
  ADet Tryz.prog 180 [.p (.sl 3 (l.map Ar.enc)),I m,.fn (.func K) fs caps] S (B (z5 p l m)) S:=by
 skip
 refine ADet.okP Tryz.call180 0 rfl fun hok=>?_
 have hlen:=okl hok
 refine ADet.intro mixed Tryz.call180 Tryz.func180 rfl ?_;simp [Tryz.ntmps180];refine zE (fun q : Nat=>q <= l.length /\ ∀ i (hi : i < l.length),i < q -> p l[i] = true) (fun q=>([.p (.sl 3 (l.map Ar.enc)),I m,.fn (.func K) (AV.ups 1 fs) (AV.ups 1 caps),.any,.any,.any,.any,I q] ++ List.replicate 22 .any)) (fun q=>[] :: S) (fun q=>l.length - q) 0 ⟨Nat.zero_le _,fun i hi h=>by omega⟩ ?_ ?_ ?_
 .simp
 .simp
 rintro q ⟨hq,hall⟩
 by_cases hlt : q < l.length
 .by_cases hqm : (q : Int) < m
  .generalize hx : l[q] = x
   have hx2:=hc x (by rw [<- hx]; exact List.getElem_mem hlt)
   simp [hlt,hqm,hx,Ar.enc];refine ⟨_,_,hx2 _,?_⟩
   cases hp : p x with
   | false =>
    have:=zDB (p:=p) hlt hqm (by rw [hx]; exact hp)
    simp [hp,this]
   | true =>
    simp [hp]
    exact ⟨q + 1,⟨hlt,fun i hi h=>by
     rcases Nat.lt_or_ge i q with h' | h'
     .exact hall i hi h'
     .obtain rfl : i = q:=by omega
      rw [hx]; exact hp⟩,by omega,zD hlt⟩
  .have:=zAm (m:=m) hall (fun _=>by omega)
   simp [hlt,hqm,this]
 .have:=zAm (m:=m) hall (fun h=>absurd h hlt)
  simp [hlt,this]
theorem zSp (p : It -> Bool) (l : List It) (m : Int) (hm : m <= 1000000) (K : Nat) (fs caps : List AV) (S : ASt) (hc : ∀ x ∈ l,∀ L,ADet Tryz.prog K (AV.ups 1 fs ++ (itV x :: AV.ups 1 caps)) (L :: S) (B (p x)) (L :: S)) :
  ADet Tryz.prog 44 [.p (.sl 16 (l.map It.enc)),I m,.fn (.func K) fs caps] S (B (z5 p l m)) S:=by
 skip
 refine ADet.okP Tryz.call44 0 rfl fun hok=>?_
 have hlen:=okl hok
 refine ADet.intro mixed Tryz.call44 Tryz.func44 rfl ?_;simp [Tryz.ntmps44];refine zE (fun q : Nat=>q <= l.length /\ ∀ i (hi : i < l.length),i < q -> p l[i] = true) (fun q=>([.p (.sl 16 (l.map It.enc)),I m,.fn (.func K) (AV.ups 1 fs) (AV.ups 1 caps),.any,.any,.any,.any,I q] ++ List.replicate 22 .any)) (fun q=>[] :: S) (fun q=>l.length - q) 0 ⟨Nat.zero_le _,fun i hi h=>by omega⟩ ?_ ?_ ?_
 .simp
 .simp
 rintro q ⟨hq,hall⟩
 by_cases hlt : q < l.length
 .by_cases hqm : (q : Int) < m
  .generalize hx : l[q] = x
   have hx2:=hc x (by rw [<- hx]; exact List.getElem_mem hlt)
   simp [hlt,hqm,hx,It.enc];refine ⟨_,_,hx2 _,?_⟩
   cases hp : p x with
   | false =>
    have:=zDB (p:=p) hlt hqm (by rw [hx]; exact hp)
    simp [hp,this]
   | true =>
    simp [hp]
    exact ⟨q + 1,⟨hlt,fun i hi h=>by
     rcases Nat.lt_or_ge i q with h' | h'
     .exact hall i hi h'
     .obtain rfl : i = q:=by omega
      rw [hx]; exact hp⟩,by omega,zD hlt⟩
  .have:=zAm (m:=m) hall (fun _=>by omega)
   simp [hlt,hqm,this]
 .have:=zAm (m:=m) hall (fun h=>absurd h hlt)
  simp [hlt,this]
end Go.Proofs.YtlclonljdagpkaaGreatDoor
namespace Go.Proofs.YtlclonljdagpkaaGreatDoor
open Go.RowKit
theorem zGw {Pr : Prot} {φ : Fi2} {S : ASt} {w w' : World} (h : Rel Pr φ S w) (hb : Below w.heap.size w w') : Stp Pr φ w Pr φ w' /\ Rel Pr φ S w':=by
 refine ⟨⟨Prot.le_refl Pr,Fle.refl φ,fun d i e g he hg=>.inl ⟨d,i,e,he,hg⟩,⟨hb.os,hb.tape,hb.output,hb.size,fun g hg _=>hb.block g hg⟩,rfl,fun g o h k=>absurd h k⟩,⟨fun d i o ho=>?_,h.dis,fun d i e g h1 h2=>Nat.lt_of_lt_of_le (h.lt d i e g h1 h2) hb.size,fun b o v hv=>?_,h.tb.of (Prot.le_refl _) (fun g hg _=>hb.block g hg) (fun d i e g he hg=>.inl ⟨d,i,e,he,hg⟩),h.shape⟩⟩
 .obtain ⟨e,he,hr⟩:=h.obj d i o ho
  exact ⟨e,he,hr.keep (Prot.le_refl Pr) (Fle.refl _) fun g hg=>⟨hb.block g (h.lt d i e g he hg),fun _ h=>h⟩⟩
 .have:=h.pr b o v hv
  rw [<- this];exact World.cell?_of_block (a:=⟨b,o,none⟩) (hb.block b (zAp this))
theorem ADet.of_calls {P : Program} {K : FuncId} {args : List AV} {S : ASt} {x : Value} (hx : atom x = true) (hK : ∀ xs w,(callFunc K xs).run P w = .ok (.enter K xs) w) (h : ∀ Pr φ xs w,RL Pr φ args xs -> Rel Pr φ S w -> Calls P K xs w fun e w'=>e = .returned x /\ Below w.heap.size w w') : ADet P K args S (.p (.v x)) S :=
 ⟨hK,fun Pr φ xs w hargs hR hne=>(h Pr φ xs w hargs hR).mono fun e w' ⟨he,hb⟩=>by
  obtain ⟨s,r⟩:=zGw hR hb
  exact ⟨x,Pr,φ,he,s,r,.p (.v hx)⟩⟩
theorem zFO {Pr : Prot} {φ : Fi2} {l : List Value} {xs : Array Value} (h : RL Pr φ (l.map fun x=>.p (.v x)) xs) : xs = l.toArray:=by
 apply Array.ext'
 apply List.ext_getElem?
 intro j
 have hl : xs.size = l.length:=by simpa using h.1.symm
 rcases Nat.lt_or_ge j l.length with hj | hj
 .have h1 : (l.map fun x=>AV.p (.v x))[j]? = some (.p (.v l[j])):=by simp [hj]
  have h2 : xs[j]? = some xs[j]:=Array.getElem?_eq_getElem (by omega)
  have:=zP (h.2 j _ _ h1 h2) rfl
  rw [Array.getElem?_toList,h2,this]; simp [hj]
 .rw [Array.getElem?_toList,Array.getElem?_eq_none (by omega)]; simp [hj]
theorem zP0 {P : Program} {Pr : Prot} {φ : Fi2} {S : ASt} {w : World} (h : Rel Pr φ S w) {name : String} {k : IntKind} {zs : List Int} {g : Nat} (hg : P.globalNamed name = some g) (hm : (g,zs.map fun z=>Value.int k z) ∈ zFJ) : Lib.TabIs P w name k zs:=by
 obtain ⟨_,_,⟨t,fz,h2⟩,_⟩:=h.tb g _ hm
 simp [Lib.TabIs,World.var?,hg,h2]
end Go.Proofs.YtlclonljdagpkaaGreatDoor
namespace Go.Proofs.YtlclonljdagpkaaGreatDoor
open Go.RowKit
end Go.Proofs.YtlclonljdagpkaaGreatDoor
namespace Go.Proofs.YtlclonljdagpkaaGreatDoor
open Go.RowKit
def ExRg : Ex -> Prop
 | .mk op int name second pl args pos=>(-9223372036854775808 <= int /\ int <= 9223372036854775807) /\ ExRgs args
 where ExRgs : List Ex -> Prop
 | []=>True
 | e :: l=>ExRg e /\ ExRgs l
def ExNn : Ex -> Prop
 | .mk op int name second pl args pos=>(0 <= op /\ op <= 255) /\ ExNns args
 where ExNns : List Ex -> Prop
 | []=>True
 | e :: l=>ExNn e /\ ExNns l
def StRg : St -> Prop
 | .mk op name second names ty int pl es b el ar _=>(-9223372036854775808 <= int /\ int <= 9223372036854775807) /\ (∀ e ∈ es,ExRg e) /\ StRgs b /\ StRgs el /\ ArRgs ar
 where
 StRgs : List St -> Prop
 | []=>True
 | s :: l=>StRg s /\ StRgs l
 ArRgs : List (ArOf St) -> Prop
 | []=>True
 | ⟨v,n,b⟩ :: l=>StRgs b /\ ArRgs l
def ItRg (x : It) : Prop:=ExRg x.ret /\ ∀ s ∈ x.body,StRg s
def StNn : St -> Prop
 | .mk op name second names ty int pl es b el ar _=>(0 <= op /\ op <= 255) /\ (∀ e ∈ es,ExNn e) /\ StNns b /\ StNns el /\ ArNns ar
 where
 StNns : List St -> Prop
 | []=>True
 | s :: l=>StNn s /\ StNns l
 ArNns : List (ArOf St) -> Prop
 | []=>True
 | ⟨v,n,b⟩ :: l=>StNns b /\ ArNns l
def ItNn (x : It) : Prop:=ExNn x.ret /\ ∀ s ∈ x.body,StNn s
end Go.Proofs.YtlclonljdagpkaaGreatDoor
