/- A part of the proof. The statement is proved in the claim's last text. -/
import Derived.Test.YtlclonljdagpkaaGreatDoorQMWp
import Derived.Test.YtlclonljdagpkaaGreatDoorQMLx
import Derived.Test.YtlclonljdagpkaaGreatDoorQMWh
import Derived.Test.YtlclonljdagpkaaGreatDoorQMLt
import Derived.Laws.ResultCell
set_option linter.unusedVariables false
set_option linter.unusedSimpArgs false
set_option maxRecDepth 100000
set_option maxHeartbeats 32000000
namespace Go.Proofs.YtlclonljdagpkaaGreatDoor
open Go.RowKit
structure Tok where
 kind : Int
 text : ByteArray
 pos : Nat
def Tok.enc (t : Tok) : List PV:=[pU t.kind,pS t.text,pI t.pos]
def spB (b : UInt8) : Bool:=b == 32 || b == 9 || b == 10 || b == 13
def zDs : Nat -> List UInt8 -> Option Nat
 | 0,_=>none
 | _ + 1,[]=>some 0
 | f + 1,b :: r =>
  if spB b then (zDs f r).map (· + 1)
  else match b,r with
   | 47,47 :: _=>none
   | _,_=>some 0
def zBF (l : List UInt8) : Nat:=l.foldl (fun n b=>n * 10 + (b.toNat - 48)) 0
def zLS : List UInt8:=[40,41,123,125,60,62,44,59,58,61,38,42,46,43,45,47,37]
def zHe (l : List UInt8) : Nat :=
 if List.isPrefixOf [61,61] l || (List.isPrefixOf [61,62] l || List.isPrefixOf [45,62] l) then 2
 else match l with
  | b :: _=>if zLS.contains b then 1 else 0
  | []=>0
def oneF (l : List UInt8) : Option (Int × Nat) :=
 match l with
 | []=>none
 | b :: _ =>
  if zDP b.toNat || zDQ b.toNat then
   let n:=zAH zCG l
   let s : ByteArray:=⟨(l.take n).toArray⟩
   if zIn s then some (1,n) else if zAX s then some (2,n) else if zBg s then some (3,n) else none
  else if zAW b.toNat then
   if zBF (l.take (zAH zAW l)) < 9223372036854775808 then some (4,zAH zAW l) else none
  else
   let n:=zHe l
   if n = 0 then none else some (5,n)
def lexF : Nat -> Nat -> List UInt8 -> Option (List Tok)
 | 0,_,_=>none
 | _ + 1,_,[]=>some []
 | f + 1,pos,b :: r =>
  match oneF (b :: r) with
  | none=>none
  | some (k,n) =>
   match zDs f ((b :: r).drop n) with
   | none=>none
   | some m=>(lexF f (pos + n + m) ((b :: r).drop (n + m))).map fun ts=>⟨k,⟨((b :: r).take n).toArray⟩,pos⟩ :: ts
structure RS where
 at_ : Nat
 bad : Bool
 full : Bool
def zAh (l : List Tok) (s : RS) : Nat:=match l[s.at_]? with | some t=>t.pos | none=>0
def isP (l : List Tok) (s : RS) (t : ByteArray) (k : Nat) : Bool:=!s.bad && match l[s.at_ + k]? with | some x=>sEq x.text t | none=>false
def mayP (l : List Tok) (s : RS) (t : ByteArray) : RS:=if isP l s t 0 = true then ⟨s.at_ + 1,s.bad,s.full⟩ else s
def zV (l : List Tok) : RS -> List ByteArray -> RS
 | s,[]=>s
 | s,t :: ts=>zV l ⟨(mayP l s t).at_,!isP l s t 0,s.full⟩ ts
def zEj (l : List Tok) (s : RS) (k : Int) : Bool:=!s.bad && match l[s.at_]? with | some x=>x.kind == k | none=>false
def zU (l : List Tok) (s : RS) (k : Int) : ByteArray:=if zEj l s k = true then match l[s.at_]? with | some x=>x.text | none=>emS else emS
def zg (l : List Tok) (s : RS) (k : Int) : RS:=if zEj l s k = true then ⟨s.at_ + 1,s.bad,s.full⟩ else ⟨s.at_,true,s.full⟩
def zCO : List (ByteArray × Int):=[((⟨#[105,110,116]⟩ : ByteArray),1),((⟨#[98,111,111,108]⟩ : ByteArray),2),((⟨#[117,110,105,116]⟩ : ByteArray),3),((⟨#[65,116,111,109,105,99]⟩ : ByteArray),10)]
def zEM : List (ByteArray × Int):=[((⟨#[66,111,120]⟩ : ByteArray),5),((⟨#[67,101,108,108]⟩ : ByteArray),6),((⟨#[82,99]⟩ : ByteArray),7),((⟨#[65,114,99]⟩ : ByteArray),8),((⟨#[77,117,116,101,120]⟩ : ByteArray),9),((⟨#[83,101,110,100,101,114]⟩ : ByteArray),11),((⟨#[82,101,99,101,105,118,101,114]⟩ : ByteArray),12)]
def zAn (s : ByteArray) : List (ByteArray × Int) -> Option Int
 | []=>none
 | (t,k) :: l=>if sEq s t = true then some k else zAn s l
def zEN : Ty:=.mk 0 emS []
def zEk : Ex:=.mk 0 0 emS emS ⟨emS,[]⟩ [] 0
def zFv (l : List Tok) : Nat -> RS -> Option (Ty × RS)
 | 0,_=>none
 | n + 1,s =>
  if isP l s (⟨#[38]⟩ : ByteArray) 0 = true then
   let s1:=mayP l s (⟨#[38]⟩ : ByteArray)
   (zFv l n (mayP l s1 (⟨#[109,117,116]⟩ : ByteArray))).map fun r=>(.mk (if isP l s1 (⟨#[109,117,116]⟩ : ByteArray) 0 = true then 14 else 13) emS [r.1],r.2)
  else if zEj l s 3 = true then some (.mk 4 (zU l s 3) [],zg l s 3)
  else
   match zAn (zU l s 1) zCO with
   | some k=>some (.mk k emS [],zg l s 1)
   | none =>
    match zAn (zU l s 1) zEM with
    | none=>some (zEN,⟨s.at_,true,s.full⟩)
    | some k=>(zFv l n (zV l (zg l s 1) [(⟨#[60]⟩ : ByteArray)])).map fun r=>(.mk k emS [r.1],zV l r.2 [(⟨#[62]⟩ : ByteArray)])
def zG8 (l : List Tok) (n : Nat) (s : RS) : Option (Fi × RS):=(zFv l n (zV l (zg l s 2) [(⟨#[58]⟩ : ByteArray)])).map fun r=>(⟨zU l s 2,r.1⟩,r.2)
def zE7 (l : List Tok) (n : Nat) (s : RS) : Option (Fi × RS) :=
 let s1:=zg l s 3
 if isP l s1 (⟨#[40]⟩ : ByteArray) 0 = true then (zFv l n (mayP l s1 (⟨#[40]⟩ : ByteArray))).map fun r=>(⟨zU l s 3,r.1⟩,zV l r.2 [(⟨#[41]⟩ : ByteArray)])
 else some (⟨zU l s 3,zEN⟩,s1)
def zDt {α : Type} (l : List Tok) (rd : RS -> Option (α × RS)) : Nat -> List α -> RS -> Option (List α × RS)
 | 0,_,_=>none
 | n + 1,acc,s =>
  if isP l s (⟨#[44]⟩ : ByteArray) 0 = true then
   match rd (mayP l s (⟨#[44]⟩ : ByteArray)) with
   | none=>none
   | some (x,s1)=>zDt l rd n (acc ++ [x]) s1
  else some (acc,s)
def fewP (s : RS) (n : Nat) : RS:=⟨s.at_,s.bad,s.full || decide (6 < n)⟩
def zCq {α : Type} (l : List Tok) (rd : RS -> Option (α × RS)) (e : ByteArray) (n : Nat) (s : RS) : Option (List α × RS) :=
 if isP l s e 0 = true then some ([],mayP l s e)
 else
  match rd s with
  | none=>none
  | some (x,s1)=>(zDt l rd n [x] s1).map fun r=>(r.1,fewP (zV l r.2 [e]) r.1.length)
def zI8 (l : List Tok) : Nat -> List ByteArray -> RS -> Option (List ByteArray × RS)
 | 0,_,_=>none
 | n + 1,acc,s =>
  if isP l s (⟨#[46]⟩ : ByteArray) 0 = true then
   let s1:=mayP l s (⟨#[46]⟩ : ByteArray)
   if isP l s1 (⟨#[42]⟩ : ByteArray) 0 = true then zI8 l n (acc ++ [(⟨#[42]⟩ : ByteArray)]) (mayP l s1 (⟨#[42]⟩ : ByteArray))
   else zI8 l n (acc ++ [zU l s1 2]) (zg l s1 2)
  else some (acc,s)
def zE8 (l : List Tok) (n : Nat) (s : RS) : Option (Pl × RS):=(zI8 l n [] (zg l s 2)).map fun r=>(⟨zU l s 2,r.1⟩,r.2)
def zG9 (l : List Tok) (n : Nat) (s : RS) : Option (Ex × RS) :=
 if s.bad = true then some (zEk,s)
 else match l[s.at_]? with
  | none=>some (zEk,⟨s.at_,true,s.full⟩)
  | some x =>
   if x.kind = 4 then (if x.text = ⟨#[48]⟩ then some (.mk 1 0 emS emS ⟨emS,[]⟩ [] x.pos,⟨s.at_ + 1,s.bad,s.full⟩) else none)
   else if x.kind = 2 /\ isP l s (⟨#[40]⟩ : ByteArray) 1 = false then (zE8 l n s).map fun r=>(.mk 4 0 emS emS r.1 [] x.pos,r.2)
   else none
def zAK : Nat -> List (ByteArray × Int)
 | 0=>[((⟨#[111,114]⟩ : ByteArray),17)]
 | 1=>[((⟨#[97,110,100]⟩ : ByteArray),16)]
 | 3=>[((⟨#[60]⟩ : ByteArray),14),((⟨#[61,61]⟩ : ByteArray),15)]
 | 4=>[((⟨#[43]⟩ : ByteArray),9),((⟨#[45]⟩ : ByteArray),10)]
 | 5=>[((⟨#[42]⟩ : ByteArray),11),((⟨#[47]⟩ : ByteArray),12),((⟨#[37]⟩ : ByteArray),13)]
 | _=>[]
def zEl (l : List Tok) (n : Nat) : Nat -> RS -> Option (Ex × RS)
 | 0,s=>if s.bad = true then some (zEk,s) else if isP l s (⟨#[45]⟩ : ByteArray) 0 = true then none else zG9 l n s
 | j + 1,s =>
  if s.bad = true then some (zEk,s)
  else if j = 3 /\ isP l s (⟨#[110,111,116]⟩ : ByteArray) 0 = true then none
  else
   match zEl l n j s with
   | none=>none
   | some (e,s1) =>
    if s1.bad = true then some (e,s1)
    else match l[s1.at_]? with
     | none=>some (e,s1)
     | some x=>if (zAn x.text (zAK (5 - j))).isSome then none else some (e,s1)
def zHA : List ByteArray:=[(⟨#[108,101,116]⟩ : ByteArray),(⟨#[100,114,111,112]⟩ : ByteArray),(⟨#[105,102]⟩ : ByteArray),(⟨#[119,104,105,108,101]⟩ : ByteArray),(⟨#[109,97,116,99,104]⟩ : ByteArray),(⟨#[115,99,111,112,101]⟩ : ByteArray),(⟨#[115,112,97,119,110]⟩ : ByteArray),(⟨#[108,111,99,107]⟩ : ByteArray),(⟨#[99,104,97,110]⟩ : ByteArray),(⟨#[123]⟩ : ByteArray)]
def zV9 (l : List Tok) (n : Nat) (s : RS) : Option (Ex × RS) :=
 if s.bad = true then some (zEk,s)
 else
  let go:=fun _ : Unit=>match zEl l n 6 s with
   | none=>none
   | some (e,s1)=>if isP l s1 (⟨#[125]⟩ : ByteArray) 0 = true then some (e,s1) else none
  match l[s.at_]? with
  | none=>go ()
  | some x =>
   if zHA.any (fun t=>sEq x.text t) = true then none
   else if x.kind = 2 /\ isP l s (⟨#[40]⟩ : ByteArray) 1 = false then
    match zE8 l n s with
    | none=>none
    | some (p,s1)=>if s1.bad = false /\ isP l s1 (⟨#[61]⟩ : ByteArray) 0 = true then none else go ()
   else go ()
def zFT (l : List Tok) (n : Nat) (s : RS) : Option (It × RS) :=
 if isP l s (⟨#[115,116,114,117,99,116]⟩ : ByteArray) 0 = true then
  let s1:=mayP l s (⟨#[115,116,114,117,99,116]⟩ : ByteArray)
  (zCq l (zG8 l n) (⟨#[125]⟩ : ByteArray) n (zV l (zg l s1 3) [(⟨#[123]⟩ : ByteArray)])).map fun r=>(⟨1,zU l s1 3,r.1,zEN,[],zEk,zAh l s⟩,r.2)
 else if isP l s (⟨#[101,110,117,109]⟩ : ByteArray) 0 = true then
  let s1:=mayP l s (⟨#[101,110,117,109]⟩ : ByteArray)
  (zCq l (zE7 l n) (⟨#[125]⟩ : ByteArray) n (zV l (zg l s1 3) [(⟨#[123]⟩ : ByteArray)])).map fun r=>(⟨2,zU l s1 3,r.1,zEN,[],zEk,zAh l s⟩,r.2)
 else
  let s1:=zV l s [(⟨#[102,110]⟩ : ByteArray)]
  match zCq l (zG8 l n) (⟨#[41]⟩ : ByteArray) n (zV l (zg l s1 2) [(⟨#[40]⟩ : ByteArray)]) with
  | none=>none
  | some (fs,s2) =>
   match zFv l n (zV l s2 [(⟨#[45,62]⟩ : ByteArray)]) with
   | none=>none
   | some (t,s3) =>
    match zV9 l n (zV l s3 [(⟨#[123]⟩ : ByteArray)]) with
    | none=>none
    | some (e,s4)=>some (⟨3,zU l s1 2,fs,t,[],e,zAh l s⟩,zV l s4 [(⟨#[125]⟩ : ByteArray)])
def zUK (l : List Tok) (n : Nat) : Nat -> List It -> RS -> Option (List It × RS)
 | 0,_,_=>none
 | f + 1,acc,s =>
  if s.at_ < l.length /\ s.bad = false then
   match zFT l n s with
   | none=>none
   | some (x,s1)=>zUK l n f (acc ++ [x]) s1
  else some (acc,s)
mutual
def Ty.deep : Ty -> Nat
 | .mk _ _ l=>Ty.deeps l + 1
def Ty.deeps : List Ty -> Nat
 | []=>0
 | t :: l=>max t.deep (Ty.deeps l)
end
mutual
def Ex.deep : Ex -> Nat
 | .mk _ _ _ _ _ l _=>Ex.deeps l + 1
def Ex.deeps : List Ex -> Nat
 | []=>0
 | t :: l=>max t.deep (Ex.deeps l)
end
def zZ6 (n : Nat) (s : ByteArray) : Option (List It) :=
 if 4000 < s.size then none
 else match zDs n s.data.toList with
  | none=>none
  | some m =>
   match lexF n m (s.data.toList.drop m) with
   | none=>none
   | some l =>
    if 1500 < l.length then none
    else match zUK l n n [] ⟨0,false,false⟩ with
     | none=>none
     | some (p,s1)=>if s1.bad = true \/ s1.full = true \/ 30 < p.length then none else some p
end Go.Proofs.YtlclonljdagpkaaGreatDoor
namespace Go.Proofs.YtlclonljdagpkaaGreatDoor
open Go.RowKit
attribute [local simp] List.replicate List.range List.range.loop resA zR retA AV.cuts AV.cut AObj.cut trim wkR wkT wkL wkN wkNR wkNL wkM wkMR wkML
theorem zIF (s : ByteArray) (b : UInt8) (S : ASt) : ADet Tryz.prog 144 [Sg s,U b.toNat] S (I (Lib.indexByte s.data.toList b)) S :=
 ADet.of_calls rfl Tryz.call144 fun Pr φ xs w hargs hR=>by
  obtain rfl:=zFO (l:=[.string s,.int .u8 b.toNat]) hargs
  refine (Tryz.strings_IndexByte s b.toNat w).mono ?_
  rintro e w' ⟨rfl,rfl⟩
  exact ⟨by simp,Below.refl _ _⟩
theorem zTG (b : UInt8) : (0 <= Lib.indexByte [32,9,10,13] b) ↔ spB b = true:=by
 unfold spB
 by_cases h1 : b = 32
 .subst h1; decide
 by_cases h2 : b = 9
 .subst h2; decide
 by_cases h3 : b = 10
 .subst h3; decide
 by_cases h4 : b = 13
 .subst h4; decide
 have g1 : ((32 : UInt8) == b) = false:=by simpa using fun h=>h1 h.symm
 have g2 : ((9 : UInt8) == b) = false:=by simpa using fun h=>h2 h.symm
 have g3 : ((10 : UInt8) == b) = false:=by simpa using fun h=>h3 h.symm
 have g4 : ((13 : UInt8) == b) = false:=by simpa using fun h=>h4 h.symm
 simp [Lib.indexByte,g1,g2,g3,g4,h1,h2,h3,h4]
theorem zIG : ∀ (l : List UInt8) (b : UInt8),l.contains b = false -> Lib.indexByte l b = -1
 | [],b,_=>rfl
 | c :: l,b,h=>by
  simp only [List.contains_cons,Bool.or_eq_false_iff] at h
  have h1 : (c == b) = false:=by
   have:=h.1
   rw [beq_eq_false_iff_ne] at this ⊢;exact fun e=>this e.symm
  simp [Lib.indexByte,h1,zIG l b h.2]
theorem zIH : ∀ (l : List UInt8) (b : UInt8),l.contains b = true -> 0 <= Lib.indexByte l b
 | [],b,h=>by simp at h
 | c :: l,b,h=>by
  simp only [List.contains_cons,Bool.or_eq_true] at h
  by_cases hc : c = b
  .subst hc; simp [Lib.indexByte]
  .have h1 : (c == b) = false:=by simpa using hc
   have h2:=zIH l b (h.resolve_left (by simpa using fun e=>hc e.symm))
   simp only [Lib.indexByte,h1];split
   .rename_i h3; simp at h3
   .split
    .rename_i h4; simp at h4; omega
    .omega
def preB (p a : ByteArray) : Bool:=decide (p.size <= a.size) && sEq (a.extract 0 p.size) p
theorem zNp (a p : ByteArray) (S : ASt) : ADet Tryz.prog 206 [Sg a,Sg p] S (B (preB p a)) S:=by
 refine ADet.intro mixed Tryz.call206 Tryz.func206 rfl ?_;unfold preB
 by_cases h : p.size <= a.size
 .have h' : (p.size : Int) <= (a.size : Int):=by omega
  simp [Tryz.ntmps206,h,h']
 .have h' : ¬ (p.size : Int) <= (a.size : Int):=by omega
  simp [Tryz.ntmps206,h,h']
theorem zEG (a p : ByteArray) (S : ASt) : ADet Tryz.prog 145 [Sg a,Sg p] S (B (preB p a)) S:=by
 refine ADet.intro mixed Tryz.call145 Tryz.func145 rfl ?_;simp [Tryz.ntmps145];refine ⟨_,_,zNp a p _,?_⟩;simp
theorem zMd (p a : ByteArray) : preB p a = p.data.toList.isPrefixOf a.data.toList:=by
 rw [Bool.eq_iff_iff,List.isPrefixOf_iff_prefix];unfold preB;simp only [Bool.and_eq_true,decide_eq_true_eq,zAw]
 have hp : p.data.toList.length = p.size:=by simp
 have ha : a.data.toList.length = a.size:=by simp
 constructor
 .rintro ⟨h1,h2⟩
  have h3 : (a.extract 0 p.size).data.toList = p.data.toList:=by rw [h2]
  rw [zBa,List.drop_zero] at h3;exact ⟨a.data.toList.drop p.size,by rw [<- h3,List.take_append_drop]⟩
 .rintro ⟨t,h⟩
  have h1 : p.size <= a.size:=by rw [<- hp,<- ha,<- h]; simp
  refine ⟨h1,zJ0 ?_⟩;rw [zBa,List.drop_zero,<- h,<- hp,List.take_left]
theorem zMe (s : ByteArray) (hs : s.size <= 4000) (n f : Nat) (h : zDs f s.data.toList = some n) (S : ASt) : ADet Tryz.prog 79 [Sg s] S (I n) S:=by
 have hlen : s.data.toList.length = s.size:=by simp
 generalize hl : s.data.toList = l at *
 refine ADet.intro mixed Tryz.call79 Tryz.func79 rfl ?_;simp [Tryz.ntmps79];refine zE (fun q : Nat=>q <= l.length /\ ∃ f' m,zDs f' (l.drop q) = some m /\ q + m = n) (fun q=>([Sg s,.any,.any,I q] ++ List.replicate 25 .any)) (fun q=>[] :: S) (fun q=>l.length - q) 0 ⟨Nat.zero_le _,f,n,by simpa using h,by omega⟩ ?_ ?_ ?_
 .simp
 .simp
 rintro q ⟨hq,f',m,hm,hqm⟩
 by_cases hlt : q < l.length
 .have hlt' : (q : Int) < (s.size : Int):=by omega
  obtain ⟨b,hb⟩ : ∃ b,l[q]? = some b:=⟨l[q],List.getElem?_eq_getElem hlt⟩
  have hdrop : l.drop q = b :: l.drop (q + 1):=by
   rw [List.drop_eq_getElem_cons hlt]
   congr 1
   exact Option.some.inj ((List.getElem?_eq_getElem hlt).symm.trans hb)
  rw [hdrop] at hm
  cases f' with
  | zero=>simp [zDs] at hm
  | succ f' =>
  have hsp:=zTG b
  simp [hlt',hl,hb];refine ⟨_,_,zIF _ b _,?_⟩
  cases hspb : spB b with
  | true =>
   rw [hspb] at hsp;simp only [zDs,hspb,if_true] at hm
   obtain ⟨m',hm',rfl⟩:=Option.map_eq_some_iff.1 hm
   have h0:=hsp.2 rfl
   simp [h0]
   exact ⟨q + 1,⟨by omega,f',m',hm',by omega⟩,by omega,zD hlt (by unfold maxLen; omega)⟩
  | false =>
   rw [hspb] at hsp
   have h0 : ¬ 0 <= Lib.indexByte [32,9,10,13] b:=fun e=>by have:=hsp.1 e; cases this
   have hpre : preB (⟨#[47,47]⟩ : ByteArray) (s.extract q s.size) = false /\ m = 0:=by
    simp only [zDs,hspb,Bool.false_eq_true,if_false] at hm;rw [zMd,zBa,hl,<- hlen,List.take_length,hdrop];split at hm
    .cases hm
    .rename_i hno
     cases hm;refine ⟨?_,rfl⟩;rw [Bool.eq_false_iff];intro hp
     cases hr : l.drop (q + 1) with
     | nil=>rw [hr] at hp; simp at hp
     | cons c r =>
      rw [hr] at hp;simp at hp;exact hno r (by rw [hp.1]) (by rw [hr,hp.2])
   obtain ⟨hpre,rfl⟩:=hpre
   have hqs : q <= s.size:=by omega
   simp [h0,hqs];refine ⟨_,_,zEG _ _ _,?_⟩;simp [hpre];omega
 .have hlt' : ¬ (q : Int) < (s.size : Int):=by omega
  have hm0 : m = 0:=by
   rw [List.drop_of_length_le (by omega)] at hm
   cases f' with
   | zero=>simp [zDs] at hm
   | succ f'=>simp [zDs] at hm; exact hm.symm
  simp [hlt'];omega
end Go.Proofs.YtlclonljdagpkaaGreatDoor
namespace Go.Proofs.YtlclonljdagpkaaGreatDoor
open Go.RowKit
attribute [local simp] List.replicate List.range List.range.loop resA zR retA AV.cuts AV.cut AObj.cut trim wkR wkT wkL wkN wkNR wkNL wkM wkMR wkML zAi zAZ zY zAj zAb zQ rowA zf zT List.forall_mem_cons List.contains_cons List.contains_nil List.find? ze zd zS LCp LCl refL
theorem ADet.of_callsA {P : Program} {K : FuncId} {args : List AV} {S : ASt} {r : AV} {x : Value} (hx : ∀ Pr φ,RA Pr φ r x) (hK : ∀ xs w,(callFunc K xs).run P w = .ok (.enter K xs) w) (h : ∀ Pr φ xs w,RL Pr φ args xs -> Rel Pr φ S w -> Calls P K xs w fun e w'=>e = .returned x /\ Below w.heap.size w w') : ADet P K args S r S :=
 ⟨hK,fun Pr φ xs w hargs hR hne=>(h Pr φ xs w hargs hR).mono fun e w' ⟨he,hb⟩=>by
  obtain ⟨s,r⟩:=zGw hR hb
  exact ⟨x,Pr,φ,he,s,r,hx Pr φ⟩⟩
abbrev U64 (n : Int) : AV:=.p (.v (.int .u64 n))
theorem zWA (a b : Value) (ha : atom a = true) (hb : atom b = true) (Pr : Prot) (φ : Fi2) : RA Pr φ (.tup [.p (.v a),.p (.v b)]) (.tuple #[a,b]):=.tup rfl fun j c x hc hx=>by
 match j,hc,hx with
 | 0,hc,hx=>cases hc; cases hx; exact .p (.v ha)
 | 1,hc,hx=>cases hc; cases hx; exact .p (.v hb)
theorem zYC (v : Nat) (hv : v * 10 < 18446744073709551616) (S : ASt) : ADet Tryz.prog 230 [U64 v,U64 10] S (.tup [U64 0,U64 (v * 10 : Nat)]) S :=
 ADet.of_callsA (x:=.tuple #[.int .u64 0,.int .u64 (v * 10 : Nat)]) (zWA _ _ rfl rfl) Tryz.call230 fun Pr φ xs w hargs hR=>by
  obtain rfl:=zFO (l:=[.int .u64 v,.int .u64 10]) hargs
  refine (Tryz.bits_Mul64 v 10 (by omega) (by decide) w).mono ?_
  rintro e w' ⟨rfl,rfl⟩
  refine ⟨?_,Below.refl _ _⟩;rw [Nat.div_eq_of_lt hv,Nat.mod_eq_of_lt hv];rfl
theorem zTH (v : Nat) (hv : v * 10 < 18446744073709551616) (S : ASt) : ADet Tryz.prog 209 [.agg [B false,U64 v],.agg [B false,U64 10]] S (.tup [.agg [B false,U64 (v * 10 : Nat)],B true]) S:=by
 refine ADet.intro mixed Tryz.call209 Tryz.func209 rfl ?_
 have hm:=fun S=>zYC v hv S
 generalize v * 10 = V at *
 simp [Tryz.ntmps209];refine ⟨_,_,hm _,?_⟩;simp
theorem zTI (v : Int) (Pr : Prot) (φ : Fi2) : RA Pr φ (.tup [.agg [B false,U64 v],B true]) (.tuple #[.agg #[.bool false,.int .u64 v],.bool true]):=.tup rfl fun j c x hc hx=>by
 match j,hc,hx with
 | 0,hc,hx =>
  cases hc; cases hx;refine .agg rfl fun j c x hc hx=>?_
  match j,hc,hx with
  | 0,hc,hx=>cases hc; cases hx; exact .p (.v rfl)
  | 1,hc,hx=>cases hc; cases hx; exact .p (.v rfl)
 | 1,hc,hx=>cases hc; cases hx; exact .p (.v rfl)
theorem zTJ (v d : Int) (hv : 0 <= v) (hd : 0 <= d) (h : v + d < 18446744073709551616) (w : World) : (callFunc 231 #[.int .u64 v,.int .u64 d,.int .u64 0]).run Tryz.prog w = .ok (.value (.tuple #[.int .u64 (v + d),.int .u64 0])) w:=by
 rw [run_callFunc_extern Tryz.func231 (by kernel_rfl) (by kernel_rfl) (by kernel_rfl) (e:=add64Entry) (by kernel_rfl),run_add64 v d 0 hv hd (by omega) (by omega)]
 rw [show (v + d + 0) % 18446744073709551616 = v + d by omega,show (v + d + 0) / 18446744073709551616 = 0 by omega]
 rfl
theorem zTK (v d : Int) (hv : 0 <= v) (hd : 0 <= d) (h : v + d < 18446744073709551616) (w : World) : Calls Tryz.prog 210 #[.agg #[.bool false,.int .u64 v],.agg #[.bool false,.int .u64 d]] w fun e w'=>e = .returned (.tuple #[.agg #[.bool false,.int .u64 (v + d)],.bool true]) /\ Below w.heap.size w w':=by
 have hrun:=zTJ v d hv hd h
 generalize v + d = V at *
 go_enter Tryz.func210,Tryz.ntmps210
 go_wp2_with (simp only [hrun])
 refine bodyPost_ret (v:=.tuple #[.agg #[.bool false,.int .u64 V],.bool true]) ?_ rfl ⟨rfl,(((Below.refl _ _).alloc (Nat.le_refl _) _).alloc (by simp) _).alloc (by simp; omega) _⟩
 rw [results_cell_tmp Tryz.results210];simp [asAddr,loadVar,go_sem]
theorem zZl (v d : Int) (hv : 0 <= v) (hd : 0 <= d) (h : v + d < 18446744073709551616) (S : ASt) : ADet Tryz.prog 210 [.agg [B false,U64 v],.agg [B false,U64 d]] S (.tup [.agg [B false,U64 (v + d)],B true]) S :=
 ADet.of_callsA (zTI _) Tryz.call210 fun Pr φ xs w hargs hR=>by
  have g : ∀ (n : Int) x,RA Pr φ (.agg [B false,U64 n]) x -> x = .agg #[.bool false,.int .u64 n]:=fun n x h=>by
   exact zLu h rfl
  obtain ⟨hl,hc⟩:=hargs
  have e : xs = #[.agg #[.bool false,.int .u64 v],.agg #[.bool false,.int .u64 d]]:=by
   obtain ⟨l⟩:=xs
   match l,hl with
   | [x,y],_ =>
    rw [g v x (hc 0 _ _ rfl rfl),g d y (hc 1 _ _ rfl rfl)]
  subst e;exact zTK v d hv hd h w
theorem zWB (v : Nat) (hv : v < 9223372036854775808) (S : ASt) : ADet Tryz.prog 211 [.agg [B false,U64 v],B true] S (.tup [I v,I 0]) S:=by
 have h1 : ¬ (9223372036854775808 : Int) < (v : Int):=by omega
 have h2 : ¬ (v : Int) = 9223372036854775808:=by omega
 have h3 : IntKind.i64.wrap (v : Int) = (v : Int):=IntWalk.i64_in _ (by omega)
 have h4 : ((v : Int) == 9223372036854775808) = false:=by rw [beq_eq_false_iff_ne]; exact h2
 refine ADet.intro mixed Tryz.call211 Tryz.func211 rfl ?_;simp [Tryz.ntmps211,h1,h2,h3,h4]
theorem zTL (s : ByteArray) (hs : s.size <= 4000) (h0 : 0 < s.size) (hd : ∀ b ∈ s.data.toList,zAW b.toNat = true) (S : ASt) : ADet Tryz.prog 208 [Sg s,B false] S (B true) S:=by
 have hlen : s.data.toList.length = s.size:=by simp
 have hne : sEq s ⟨#[]⟩ = false:=zBh (by rintro rfl; exact absurd h0 (by decide))
 generalize hl : s.data.toList = l at *
 refine ADet.intro mixed Tryz.call208 Tryz.func208 rfl ?_;simp [Tryz.ntmps208];refine zE (fun q : Nat=>q <= s.size) (fun q=>([Sg s,B false,.any,.any,.any,.any,.any,I s.size,I q] ++ List.replicate 24 .any)) (fun q=>[] :: S) (fun q=>s.size - q) 0 (Nat.zero_le _) ?_ ?_ ?_
 .simp
 .simp
 intro q hq
 by_cases hlt : q < s.size
 .have hlt' : (q : Int) < (s.size : Int):=by omega
  obtain ⟨b,hb⟩ : ∃ b,l[q]? = some b:=⟨l[q]'(by omega),List.getElem?_eq_getElem (by omega)⟩
  have hbd:=hd b (List.mem_of_getElem? hb)
  unfold zAW at hbd;simp only [Bool.and_eq_true,decide_eq_true_eq] at hbd
  have h1 : ¬ (b.toNat : Int) < 48:=by omega
  have h2 : ¬ (57 : Int) < (b.toNat : Int):=by omega
  simp [hlt',hlt,hl,hb,h1,h2];exact ⟨q + 1,by omega,by omega,zD hlt (by unfold maxLen; omega)⟩
 .have hlt' : ¬ (q : Int) < (s.size : Int):=by omega
  simp [hlt',hlt,hne]
theorem zFq (l : List UInt8) (b : UInt8) : zBF (l ++ [b]) = zBF l * 10 + (b.toNat - 48):=by
 unfold zBF;rw [List.foldl_append]; rfl
theorem zNq (l r : List UInt8) : zBF l <= zBF (l ++ r):=by
 induction r generalizing l with
 | nil=>simp
 | cons b r ih =>
  have:=ih (l ++ [b])
  rw [List.append_assoc,zFq] at this
  show zBF l <= zBF (l ++ ([b] ++ r))
  omega
theorem zQW (s : ByteArray) (hs : s.size <= 4000) (h0 : 0 < s.size) (hd : ∀ b ∈ s.data.toList,zAW b.toNat = true) (hv : zBF s.data.toList < 9223372036854775808) (S : ASt) : ADet Tryz.prog 153 [Sg s] S (.tup [I (zBF s.data.toList),I 0]) S:=by
 have hlen : s.data.toList.length = s.size:=by simp
 have nC:=fun S=>zTL s hs h0 hd S
 have h0' : (0 : Int) < (s.size : Int):=by omega
 generalize hl : s.data.toList = l at *
 obtain ⟨c,r,hcr⟩ : ∃ c r,l = c :: r:=by
  cases l with
  | nil=>simp at hlen; omega
  | cons c r=>exact ⟨c,r,rfl⟩
 have hc:=hd c (by rw [hcr]; simp)
 have hl0 : l[0]? = some c:=by rw [hcr]; rfl
 have hc1 : ((c.toNat : Int) == 45) = false:=by
  unfold zAW at hc;simp only [Bool.and_eq_true,decide_eq_true_eq] at hc;rw [beq_eq_false_iff_ne]; omega
 have hc2 : ¬ (c.toNat : Int) = 45:=by
  simpa using hc1
 have hc3 : ¬ c = 45:=by
  rintro rfl; exact hc2 rfl
 refine ADet.intro mixed Tryz.call153 Tryz.func153 rfl ?_;simp [Tryz.ntmps153,h0,h0',hl,hl0,hc1,hc2,hc3];refine ⟨_,_,nC _,?_⟩;simp;refine zE (fun q : Nat=>q <= s.size) (fun q=>([Sg s,.any,.any,.any,B false,.ptr 0 0 0,B true,I q] ++ List.replicate 50 .any)) (fun q=>[.cells [B false,U64 (zBF (l.take q))] 243] :: S) (fun q=>s.size - q) 0 (Nat.zero_le _) ?_ ?_ ?_
 .simp
 .simp
  try rfl
 intro q hq
 by_cases hlt : q < s.size
 .have hlt' : (q : Int) < (s.size : Int):=by omega
  obtain ⟨b,hb⟩ : ∃ b,l[q]? = some b:=⟨l[q]'(by omega),List.getElem?_eq_getElem (by omega)⟩
  have hbd:=hd b (List.mem_of_getElem? hb)
  unfold zAW at hbd;simp only [Bool.and_eq_true,decide_eq_true_eq] at hbd
  have htk : l.take (q + 1) = l.take q ++ [b]:=by
   rw [List.take_add_one,hb]; rfl
  have hle:=zNq (l.take (q + 1)) (l.drop (q + 1))
  rw [List.take_append_drop] at hle
  have hsn:=zFq (l.take q) b
  rw [<- htk] at hsn
  obtain ⟨V,hV⟩ : ∃ V,V = zBF (l.take q):=⟨_,rfl⟩
  rw [<- hV] at hsn
  have tC:=fun S=>zTH V (by omega) S
  obtain ⟨W,hW⟩ : ∃ W,W = V * 10:=⟨_,rfl⟩
  rw [<- hW] at hsn tC
  have pC:=fun S=>zZl (W : Int) ((b.toNat : Int) - 48) (by omega) (by omega) (by omega) S
  have w1 : IntKind.u8.wrap ((b.toNat : Int) - 48) = (b.toNat : Int) - 48:=IntWalk.u8_in _ (by omega)
  have w2 : IntKind.u64.wrap ((b.toNat : Int) - 48) = (b.toNat : Int) - 48:=IntWalk.u64_in _ (by omega)
  have hnew : (W : Int) + ((b.toNat : Int) - 48) = (zBF (l.take (q + 1)) : Int):=by omega
  rw [hnew] at pC;simp [hlt',hlt,<- hV];refine ⟨_,_,tC _,?_⟩;simp;refine zA [] (by kernel_rfl) (by kernel_rfl) ?_
  simp [hl,hb,hlt,hlt',w1,w2];refine ⟨_,_,pC _,?_⟩;simp;exact ⟨q + 1,by omega,by omega,zD hlt (by unfold maxLen; omega),rfl⟩
 .have hlt' : ¬ (q : Int) < (s.size : Int):=by omega
  have hq' : l.take q = l:=List.take_of_length_le (by omega)
  have nuC:=fun S=>zWB (zBF l) hv S
  simp [hlt',hlt,hq'];refine ⟨_,_,nuC _,?_⟩;simp
end Go.Proofs.YtlclonljdagpkaaGreatDoor
namespace Go.Proofs.YtlclonljdagpkaaGreatDoor
open Go.RowKit
attribute [local simp] List.replicate List.range List.range.loop resA zR retA AV.cuts AV.cut AObj.cut trim wkR wkT wkL wkN wkNR wkNL wkM wkMR wkML
abbrev sg0 : ByteArray:=⟨#[61,61]⟩
abbrev sg1 : ByteArray:=⟨#[61,62]⟩
abbrev sg2 : ByteArray:=⟨#[45,62]⟩
theorem zYD (s : ByteArray) (hs : s.size <= 4000) (b : UInt8) (r : List UInt8) (hl : s.data.toList = b :: r) (S : ASt) : ADet Tryz.prog 154 [Sg s] S (I (zHe s.data.toList)) S:=by
 have hN : zHe s.data.toList = if (preB sg0 s || (preB sg1 s || preB sg2 s)) = true then 2 else if zLS.contains b = true then 1 else 0:=by
  simp only [zMd];unfold zHe;simp only [hl]
 rw [hN]
 generalize hp0 : preB sg0 s = p0 at *
 generalize hp1 : preB sg1 s = p1 at *
 generalize hp2 : preB sg2 s = p2 at *
 have g0:=fun S=>zEG s sg0 S
 have g1:=fun S=>zEG s sg1 S
 have g2:=fun S=>zEG s sg2 S
 rw [hp0] at g0;rw [hp1] at g1;rw [hp2] at g2;refine ADet.intro mixed Tryz.call154 Tryz.func154 rfl ?_;simp [Tryz.ntmps154];refine zE (fun q : Nat=>q <= 3 /\ (0 < q -> p0 = false) /\ (1 < q -> p1 = false) /\ (2 < q -> p2 = false)) (fun q=>[Sg s,.any,I 0,.any,.any,.osl 1 [[pS sg0],[pS sg1],[pS sg2]] 0 0,I 3,I q,.any,.any,.any,.any,.any,.any,.any,.any,.any,.any,.any]) (fun q=>[.tok 9 1 3] :: S) (fun q=>3 - q) 0 ⟨by omega,by omega,by omega,by omega⟩ ?_ ?_ ?_
 .simp
 .simp
 rintro q ⟨hq,h0,h1,h2⟩
 rcases (by omega : q = 0 \/ q = 1 \/ q = 2 \/ q = 3) with rfl | rfl | rfl | rfl
 .simp
  refine ⟨_,_,g0 _,?_⟩
  cases p0 with
  | true=>simp
  | false =>
   simp;exact ⟨1,by simp,by omega,by first | rfl | decide | simp⟩
 .have e0:=h0 (by omega)
  subst e0;simp;refine ⟨_,_,g1 _,?_⟩
  cases p1 with
  | true=>simp
  | false =>
   simp;exact ⟨2,by simp,by omega,by first | rfl | decide | simp⟩
 .have e0:=h0 (by omega)
  have e1:=h1 (by omega)
  subst e0 e1;simp;refine ⟨_,_,g2 _,?_⟩
  cases p2 with
  | true=>simp
  | false =>
   simp;exact ⟨3,by simp,by omega,by first | rfl | decide | simp⟩
 .have e0:=h0 (by omega)
  have e1:=h1 (by omega)
  have e2:=h2 (by omega)
  subst e0 e1 e2;simp [hl];refine ⟨_,_,zIF _ b _,?_⟩
  cases hc : zLS.contains b with
  | true =>
   have h3 : 0 <= Lib.indexByte [40,41,123,125,60,62,44,59,58,61,38,42,46,43,45,47,37] b:=zIH zLS b hc
   have hm : b ∈ zLS:=by simpa using hc
   simp [h3,hm]
  | false =>
   have h3 : ¬ 0 <= Lib.indexByte [40,41,123,125,60,62,44,59,58,61,38,42,46,43,45,47,37] b:=by
    have : Lib.indexByte [40,41,123,125,60,62,44,59,58,61,38,42,46,43,45,47,37] b = -1:=zIG zLS b hc
    omega
   have hm : ¬ b ∈ zLS:=by simpa using hc
   simp [h3,hm]
theorem zYE (b : Int) (S : ASt) : ADet Tryz.prog 148 [U b] S (B (zDP b)) S :=
 ADet.of_calls rfl Tryz.call148 fun Pr φ xs w hargs hR=>by
  obtain rfl:=zFO (l:=[.int .u8 b]) hargs
  refine (zGr b w).mono ?_
  rintro e w' ⟨rfl,rfl⟩
  exact ⟨rfl,Below.refl _ _⟩
theorem zYF (b : Int) (S : ASt) : ADet Tryz.prog 149 [U b] S (B (zDQ b)) S :=
 ADet.of_calls rfl Tryz.call149 fun Pr φ xs w hargs hR=>by
  obtain rfl:=zFO (l:=[.int .u8 b]) hargs
  refine (zGs b w).mono ?_
  rintro e w' ⟨rfl,rfl⟩
  exact ⟨rfl,Below.refl _ _⟩
theorem zYG (b : Int) (S : ASt) : ADet Tryz.prog 152 [U b] S (B (zAW b)) S :=
 ADet.of_calls rfl Tryz.call152 fun Pr φ xs w hargs hR=>by
  obtain rfl:=zFO (l:=[.int .u8 b]) hargs
  refine (zGt b w).mono ?_
  rintro e w' ⟨rfl,rfl⟩
  exact ⟨rfl,Below.refl _ _⟩
theorem runC (p : Int -> Bool) (K : FuncId) (s : ByteArray) (hs : s.size <= maxLen) (hK : ∀ args w,(callFunc K args).run Tryz.prog w = .ok (.enter K args) w)
  (hp : ∀ (b : Int) (w : World),Calls Tryz.prog K #[.int .u8 b] w fun e w'=>e = .returned (.bool (p b)) /\ w = w') (S : ASt) : ADet Tryz.prog 146 [Sg s,.fn (.func K) [] []] S (I (zAH p s.data.toList)) S :=
 ADet.of_calls rfl Tryz.call146 fun Pr φ xs w hargs hR=>by
  obtain ⟨hl,hc⟩:=hargs
  have e : xs = #[.string s,.func (.func K) #[] #[]]:=by
   obtain ⟨l⟩:=xs
   match l,hl with
   | [x,y],_ =>
    have e1:=zP (hc 0 _ _ rfl rfl) rfl
    have h2:=hc 1 _ _ rfl rfl
    generalize hy : (#[x,y] : Array Value)[1] = z at h2
    subst e1
    cases h2 with
    | @fn _ _ _ a b h1 h2 _ _ =>
     have ea : a = #[]:=Array.eq_empty_of_size_eq_zero h1.symm
     have eb : b = #[]:=Array.eq_empty_of_size_eq_zero h2.symm
     subst ea eb
     have hy' : y = .func (.func K) #[] #[]:=hy
     rw [hy']
  subst e;refine (zPq p K #[] s hs hK (fun b w=>hp b w) w).mono ?_
  rintro e w' ⟨rfl,rfl⟩
  exact ⟨rfl,Below.refl _ _⟩
theorem zTM (s : ByteArray) (hs : s.size <= 4000) (S : ASt) : ADet Tryz.prog 146 [Sg s,.fn (.func 150) [] []] S (I (zAH zCG s.data.toList)) S:=runC zCG 150 s (by unfold maxLen; omega) Tryz.call150 (fun b w=>zME b w) S
theorem zQX (s : ByteArray) (hs : s.size <= 4000) (S : ASt) : ADet Tryz.prog 146 [Sg s,.fn (.func 152) [] []] S (I (zAH zAW s.data.toList)) S:=runC zAW 152 s (by unfold maxLen; omega) Tryz.call152 (fun b w=>zGt b w) S
theorem zUL (s : ByteArray) (hs : s.size <= maxLen) (S : ASt) : ADet Tryz.prog 151 [Sg s] S (B (zIn s)) S :=
 ADet.of_calls rfl Tryz.call151 fun Pr φ xs w hargs hR=>by
  obtain rfl:=zP2 hargs
  exact zMG s hs w (zP0 hR zK5 zIt)
theorem zMf (s : ByteArray) (n : Nat) : s.extract 0 n = ⟨(s.data.toList.take n).toArray⟩:=zJ0 (by rw [zBa,List.drop_zero])
theorem zMg : ∀ (l : List UInt8),zHe l <= l.length:=fun l=>by
 unfold zHe;split
 .rename_i h
  simp only [Bool.or_eq_true] at h
  have key : ∀ a b : UInt8,List.isPrefixOf [a,b] l = true -> 2 <= l.length:=fun a b h=>by
   rw [List.isPrefixOf_iff_prefix] at h
   simpa using h.length_le
  rcases h with h | h | h <;> exact key _ _ h
 .cases l with
  | nil=>simp
  | cons b l=>simp; split <;> omega
theorem zQY (p : Int -> Bool) : ∀ l : List UInt8,∀ b ∈ l.take (zAH p l),p b.toNat = true
 | [],b,h=>by simp at h
 | c :: l,b,h=>by
  simp only [zAH] at h;split at h
  .rename_i hc
   rw [List.take_succ_cons] at h
   rcases List.mem_cons.1 h with rfl | h
   .exact hc
   .exact zQY p l b h
  .simp at h
theorem oneC (s : ByteArray) (hs : s.size <= 4000) (k : Int) (n : Nat) (h : oneF s.data.toList = some (k,n)) (S : ASt) : ADet Tryz.prog 80 [Sg s] S (.agg [U k,Sg (s.extract 0 n),I 0]) S:=by
 have hlen : s.data.toList.length = s.size:=by simp
 have hrp:=zTM s hs
 have hrd:=zQX s hs
 have hpl:=zCh zCG s.data.toList
 have hsl:=zMg s.data.toList
 have hsg : ∀ (b : UInt8) (r : List UInt8),s.data.toList = b :: r -> ∀ S,ADet Tryz.prog 154 [Sg s] S (I (zHe s.data.toList)) S:=fun b r hl S=>zYD s hs b r hl S
 unfold oneF at h;split at h
 .cases h
 rename_i b r hl
 have hsg:=hsg b r hl
 have lC:=zYE b.toNat
 have uC:=zYF b.toNat
 have dC:=zYG b.toNat
 have hwt : ∀ m,(s.extract 0 m).size <= maxLen:=fun m=>by
  rw [ByteArray.size_extract];unfold maxLen; omega
 refine ADet.intro mixed Tryz.call80 Tryz.func80 rfl ?_;simp [Tryz.ntmps80,hl];refine ⟨_,_,lC _,?_⟩
 have hpl' : zAH zCG s.data.toList <= s.size:=by omega
 have hsl' : zHe s.data.toList <= s.size:=by omega
 dsimp only at h
 rw [<- zMf] at h
 cases hlo : zDP b.toNat with
 | true =>
  rw [hlo,Bool.true_or,if_pos rfl] at h;simp;refine ⟨_,_,hrp _,?_⟩;simp [hpl'];refine ⟨_,_,zUL _ (hwt _) _,?_⟩
  cases hw : zIn (s.extract 0 (zAH zCG s.data.toList)) with
  | true =>
   rw [hw,if_pos rfl] at h;cases h
   simp
  | false =>
  rw [hw,if_neg (by simp)] at h
  simp;refine ⟨_,_,zBP _ (hwt _) _,?_⟩
  cases hn : zAX (s.extract 0 (zAH zCG s.data.toList)) with
  | true =>
   rw [hn,if_pos rfl] at h;cases h
   simp
  | false =>
  rw [hn,if_neg (by simp)] at h
  simp;refine ⟨_,_,zCl _ (hwt _) _,?_⟩
  cases ht : zBg (s.extract 0 (zAH zCG s.data.toList)) with
  | true =>
   rw [ht,if_pos rfl] at h;cases h
   simp
  | false =>
   rw [ht,if_neg (by simp)] at h
   cases h
 | false =>
 simp;refine ⟨_,_,uC _,?_⟩
 cases hup : zDQ b.toNat with
 | true =>
  rw [hlo,hup,Bool.or_true,if_pos rfl] at h;simp;refine ⟨_,_,hrp _,?_⟩;simp [hpl'];refine ⟨_,_,zUL _ (hwt _) _,?_⟩
  cases hw : zIn (s.extract 0 (zAH zCG s.data.toList)) with
  | true =>
   rw [hw,if_pos rfl] at h;cases h
   simp
  | false =>
  rw [hw,if_neg (by simp)] at h
  simp;refine ⟨_,_,zBP _ (hwt _) _,?_⟩
  cases hn : zAX (s.extract 0 (zAH zCG s.data.toList)) with
  | true =>
   rw [hn,if_pos rfl] at h;cases h
   simp
  | false =>
  rw [hn,if_neg (by simp)] at h
  simp;refine ⟨_,_,zCl _ (hwt _) _,?_⟩
  cases ht : zBg (s.extract 0 (zAH zCG s.data.toList)) with
  | true =>
   rw [ht,if_pos rfl] at h;cases h
   simp
  | false =>
   rw [ht,if_neg (by simp)] at h
   cases h
 | false =>
 rw [hlo,hup,Bool.or_false,if_neg (by simp)] at h
 simp;refine ⟨_,_,dC _,?_⟩
 cases hdi : zAW b.toNat with
 | true =>
  rw [hdi,if_pos rfl] at h;split at h
  .rename_i hd
   cases h
   have hrl : zAH zAW s.data.toList <= s.size:=by
    have:=zCh zAW s.data.toList
    omega
   have hpos : 0 < zAH zAW s.data.toList:=by
    rw [hl]; simp [zAH,hdi]
   have htx : (s.extract 0 (zAH zAW s.data.toList)).data.toList = s.data.toList.take (zAH zAW s.data.toList):=by
    rw [zBa,List.drop_zero]
   have hsz : (s.extract 0 (zAH zAW s.data.toList)).size = zAH zAW s.data.toList:=by
    rw [ByteArray.size_extract]; omega
   have hall : ∀ b ∈ s.data.toList.take (zAH zAW s.data.toList),zAW b.toNat = true:=zQY zAW s.data.toList
   have pC:=fun S=>zQW (s.extract 0 (zAH zAW s.data.toList)) (by omega) (by omega) (by rw [htx]; exact hall) (by rw [htx]; exact hd) S
   simp;refine ⟨_,_,hrd _,?_⟩;simp [hrl];refine ⟨_,_,pC _,?_⟩;simp
  .cases h
 | false =>
  rw [hdi,if_neg (by simp)] at h
  split at h
  .cases h
  .rename_i h0
   cases h
   have hpos : (0 : Int) < (zHe s.data.toList : Int):=by omega
   have hpos' : 0 < zHe s.data.toList:=by omega
   simp;refine ⟨_,_,hsg _,?_⟩;simp [hpos,hpos',hsl']
theorem zTN {l : List UInt8} {k : Int} {n : Nat} (h : oneF l = some (k,n)) : 1 <= k /\ k <= 5 /\ n <= l.length:=by
 have hp:=zCh zCG l
 have hd:=zCh zAW l
 have hs:=zMg l
 unfold oneF at h;split at h
 .cases h
 rename_i b r
 dsimp only at h
 split at h
 .split at h
  .cases h; exact ⟨by omega,by omega,hp⟩
  split at h
  .cases h; exact ⟨by omega,by omega,hp⟩
  split at h
  .cases h; exact ⟨by omega,by omega,hp⟩
  .cases h
 split at h
 .split at h
  .cases h; exact ⟨by omega,by omega,hd⟩
  .cases h
 .split at h
  .cases h
  .cases h; exact ⟨by omega,by omega,hs⟩
theorem zYH {l : List UInt8} {k : Int} {n : Nat} (h : oneF l = some (k,n)) : 1 <= n:=by
 unfold oneF at h;split at h
 .cases h
 rename_i b r
 dsimp only at h
 cases hlt : zDP b.toNat || zDQ b.toNat with
 | true =>
  have hp : 1 <= zAH zCG (b :: r):=by
   have : zCG b.toNat = true:=by
    unfold zCG;rw [hlt]; simp
   simp [zAH,this]
  rw [hlt,if_pos rfl] at h;split at h
  .cases h; exact hp
  split at h
  .cases h; exact hp
  split at h
  .cases h; exact hp
  .cases h
 | false =>
 rw [hlt,if_neg (by simp)] at h
 cases hd : zAW b.toNat with
 | true =>
  have hp : 1 <= zAH zAW (b :: r):=by simp [zAH,hd]
  rw [hd,if_pos rfl] at h;split at h
  .cases h; exact hp
  .cases h
 | false =>
  rw [hd,if_neg (by simp)] at h
  split at h
  .cases h
  .cases h; omega
theorem zI9 (s : ByteArray) (a : Nat) : (s.extract a s.size).data.toList = s.data.toList.drop a:=by
 rw [zBa]
 have : s.data.toList.length = s.size:=by simp
 rw [<- this,List.take_length]
theorem zJA : ∀ (f : Nat) (l : List UInt8) (m : Nat),zDs f l = some m -> m <= l.length
 | 0,l,m,h=>by simp [zDs] at h
 | f + 1,[],m,h=>by simp [zDs] at h; omega
 | f + 1,b :: r,m,h=>by
  simp only [zDs] at h;split at h
  .obtain ⟨m',h',rfl⟩:=Option.map_eq_some_iff.1 h
   have:=zJA f r m' h'
   simp; omega
  .split at h
   .cases h
   .cases h; omega
theorem allG (s : ByteArray) (hs : s.size <= 4000) (f0 f m : Nat) (ts : List Tok) (hb : zDs f0 s.data.toList = some m) (hl : lexF f m (s.data.toList.drop m) = some ts) (S : ASt) :
  ADet Tryz.prog 31 [Sg s] S (if ts.length <= 1500 then .tup [.p (.sl 3 (ts.map Tok.enc)),I 0,I 0] else .tup [nilS,I 0,I 4]) S:=by
 have hlen : s.data.toList.length = s.size:=by simp
 have hml:=zJA _ _ _ hb
 have h4 : ¬ (4000 : Int) < (s.size : Int):=by omega
 have bC:=fun S=>zMe s hs m f0 hb S
 refine ADet.intro mixed Tryz.call31 Tryz.func31 rfl ?_;simp [Tryz.ntmps31,h4];refine ⟨_,_,bC _,?_⟩;simp;refine zAR 83 3 (by decide) [] (fun a : Nat × List Tok × List Tok=>(∃ f',lexF f' a.1 (s.data.toList.drop a.1) = some a.2.2) /\ a.2.1 ++ a.2.2 = ts /\ a.1 <= s.size /\ a.2.1.length <= a.1) (fun a=>([Sg s,.any,nilS,I 0,I 0,.osl 3 (a.2.1.map Tok.enc) 0 0,I a.1] ++ List.replicate 39 .any)) (fun a=>[.tok 83 3 a.2.1.length] :: S) (fun a=>a.2.2.length) (m,[],ts) ⟨⟨f,hl⟩,rfl,by omega,by simp⟩ ?_ ?_ ?_ ?_
 .simp
 .simp
 .rfl
 rintro ⟨q,done,rest⟩ ⟨⟨f',hf⟩,hts2,hq,hdl⟩
 simp only at hf hts2 hq hdl
 cases f' with
 | zero=>simp [lexF] at hf
 | succ f' =>
 by_cases hlt : q < s.size
 .have hlt' : (q : Int) < (s.size : Int):=by omega
  cases hd : s.data.toList.drop q with
  | nil =>
   have:=congrArg List.length hd
   simp at this
   omega
  | cons b r =>
  rw [hd] at hf;simp only [lexF] at hf;split at hf
  .cases hf
  rename_i k n h1
  split at hf
  .cases hf
  rename_i m2 h2
  obtain ⟨rest',h3,hrest⟩:=Option.map_eq_some_iff.1 hf
  subst hrest
  obtain ⟨k1,k5,hn⟩:=zTN h1
  have hn1:=zYH h1
  have hbl : (b :: r).length = s.size - q:=by rw [<- hd]; simp
  rw [<- hd] at h1 h2 h3 hn;rw [List.drop_drop] at h2 h3
  have hm2:=zJA _ _ _ h2
  have hsz : (s.extract q s.size).size <= 4000:=by rw [ByteArray.size_extract]; omega
  have oC:=fun S=>oneC (s.extract q s.size) hsz k n (by rw [zI9]; exact h1) S
  have hk0 : ¬ k = 0:=by omega
  have hqs : q <= s.size:=by omega
  have htx : (s.extract q s.size).extract 0 n = ⟨((b :: r).take n).toArray⟩:=by rw [zMf,zI9,hd]
  have htz : ((s.extract q s.size).extract 0 n).size = n:=by
   rw [ByteArray.size_extract,ByteArray.size_extract];rw [List.length_drop] at hn; omega
  have hnq : q + n <= s.size:=by rw [List.length_drop] at hn; omega
  have hm3 : q + n + m2 <= s.size:=by rw [List.length_drop] at hm2; omega
  have hsz2 : (s.extract (q + n) s.size).size <= 4000:=by rw [ByteArray.size_extract]; omega
  have bC2:=fun S=>zMe (s.extract (q + n) s.size) hsz2 m2 f' (by rw [zI9]; exact h2) S
  obtain ⟨Q,hQ⟩ : ∃ Q,Q = q + n:=⟨_,rfl⟩
  obtain ⟨R,hR⟩ : ∃ R,R = Q + m2:=⟨_,rfl⟩
  rw [<- hQ] at hnq bC2
  have hw1 : IntKind.i64.wrap ((q : Int) + (n : Int)) = (Q : Int):=by
   rw [IntWalk.i64_in _ (by omega)]; omega
  have hw2 : IntKind.i64.wrap ((Q : Int) + (m2 : Int)) = (R : Int):=by
   rw [IntWalk.i64_in _ (by omega)]; omega
  have hap : done.length + 1 <= 4294967296:=by omega
  simp [hlt',hqs];refine ⟨_,_,oC _,?_⟩;simp [hk0,hap,htz,hw1,hnq];refine ⟨_,_,bC2 _,?_⟩;simp [hw2];refine ⟨R,done ++ [⟨k,⟨((b :: r).take n).toArray⟩,q⟩],rest',⟨⟨f',?_⟩,?_,by omega,by simp only [List.length_append,List.length_cons,List.length_nil]; omega⟩,?_,⟨?_,rfl⟩,?_⟩
  .rw [hR,hQ,show q + n + m2 = q + (n + m2) by omega]
   rw [show q + n + m2 = q + (n + m2) by omega] at h3
   exact h3
  .rw [<- hts2]; simp
  .simp
  .simp [Tok.enc,htx]
  .simp
 .have hlt' : ¬ (q : Int) < (s.size : Int):=by omega
  have hd : s.data.toList.drop q = []:=List.drop_of_length_le (by omega)
  rw [hd] at hf;simp only [lexF,Option.some.injEq] at hf;subst hf;rw [List.append_nil] at hts2;subst hts2
  by_cases hts : done.length <= 1500
  .have h15 : ¬ (1500 : Int) < (done.length : Int):=by omega
   simp [hlt',h15,hts]
  .have h15 : (1500 : Int) < (done.length : Int):=by omega
   simp [hlt',h15,hts]
theorem allC (s : ByteArray) (hs : s.size <= 4000) (f0 f m : Nat) (ts : List Tok) (hb : zDs f0 s.data.toList = some m) (hl : lexF f m (s.data.toList.drop m) = some ts) (hts : ts.length <= 1500) (S : ASt) :
  ADet Tryz.prog 31 [Sg s] S (.tup [.p (.sl 3 (ts.map Tok.enc)),I 0,I 0]) S:=by
 have:=allG s hs f0 f m ts hb hl S
 rwa [if_pos hts] at this
end Go.Proofs.YtlclonljdagpkaaGreatDoor
