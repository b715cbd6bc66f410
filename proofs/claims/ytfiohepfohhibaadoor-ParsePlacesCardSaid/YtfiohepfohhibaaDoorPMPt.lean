/- A part of the proof. The statement is proved in the claim's last text. -/
import Derived.Test.YtfiohepfohhibaaDoorPMWp
import Derived.Test.YtfiohepfohhibaaDoorPMLx
set_option linter.unusedVariables false
set_option linter.unusedSimpArgs false
set_option maxRecDepth 100000
set_option maxHeartbeats 32000000
namespace Go.Proofs.YtfiohepfohhibaaDoor
open Go.RowKit
structure Tok where
 kind : Int
 text : ByteArray
 pos : Nat
def Tok.enc (t : Tok) : List PV:=[pU t.kind,pS t.text,pI t.pos]
def spB (b : UInt8) : Bool:=b == 32 || b == 9 || b == 10 || b == 13
def betwF : Nat → List UInt8 → Option Nat
 | 0,_=>none
 | _ + 1,[]=>some 0
 | f + 1,b :: r =>
  if spB b then (betwF f r).map (· + 1)
  else match b,r with
   | 47,47 :: _=>none
   | _,_=>some 0
def digitsN (l : List UInt8) : Nat:=l.foldl (fun n b=>n * 10 + (b.toNat - 48)) 0
def signL : List UInt8:=[40,41,123,125,60,62,44,59,58,61,38,42,46,43,45,47,37]
def signN (l : List UInt8) : Nat :=
 if List.isPrefixOf [61,61] l || (List.isPrefixOf [61,62] l || List.isPrefixOf [45,62] l) then 2
 else match l with
  | b :: _=>if signL.contains b then 1 else 0
  | []=>0
def oneF (l : List UInt8) : Option (Int × Nat) :=
 match l with
 | []=>none
 | b :: _ =>
  if lowerB b.toNat || upperB b.toNat then
   let n:=runLen partB l
   let s : ByteArray:=⟨(l.take n).toArray⟩
   if wordB s then some (1,n) else if nameB s then some (2,n) else if typeB s then some (3,n) else none
  else if digitB b.toNat then
   if digitsN (l.take (runLen digitB l)) < 9223372036854775808 then some (4,runLen digitB l) else none
  else
   let n:=signN l
   if n = 0 then none else some (5,n)
def lexF : Nat → Nat → List UInt8 → Option (List Tok)
 | 0,_,_=>none
 | _ + 1,_,[]=>some []
 | f + 1,pos,b :: r =>
  match oneF (b :: r) with
  | none=>none
  | some (k,n) =>
   match betwF f ((b :: r).drop n) with
   | none=>none
   | some m=>(lexF f (pos + n + m) ((b :: r).drop (n + m))).map fun ts=>⟨k,⟨((b :: r).take n).toArray⟩,pos⟩ :: ts
structure RS where
 at_ : Nat
 bad : Bool
 full : Bool
def placeP (l : List Tok) (s : RS) : Nat:=match l[s.at_]? with | some t=>t.pos | none=>0
def isP (l : List Tok) (s : RS) (t : ByteArray) (k : Nat) : Bool:=!s.bad && match l[s.at_ + k]? with | some x=>sEq x.text t | none=>false
def mayP (l : List Tok) (s : RS) (t : ByteArray) : RS:=if isP l s t 0 = true then ⟨s.at_ + 1,s.bad,s.full⟩ else s
def mustP (l : List Tok) : RS → List ByteArray → RS
 | s,[]=>s
 | s,t :: ts=>mustP l ⟨(mayP l s t).at_,!isP l s t 0,s.full⟩ ts
def handP (l : List Tok) (s : RS) (k : Int) : Bool:=!s.bad && match l[s.at_]? with | some x=>x.kind == k | none=>false
def takeT (l : List Tok) (s : RS) (k : Int) : ByteArray:=if handP l s k = true then match l[s.at_]? with | some x=>x.text | none=>emS else emS
def takeP (l : List Tok) (s : RS) (k : Int) : RS:=if handP l s k = true then ⟨s.at_ + 1,s.bad,s.full⟩ else ⟨s.at_,true,s.full⟩
def wordK : List (ByteArray × Int):=[((⟨#[105,110,116]⟩ : ByteArray),1),((⟨#[98,111,111,108]⟩ : ByteArray),2),((⟨#[117,110,105,116]⟩ : ByteArray),3),((⟨#[65,116,111,109,105,99]⟩ : ByteArray),10)]
def wrapK : List (ByteArray × Int):=[((⟨#[66,111,120]⟩ : ByteArray),5),((⟨#[67,101,108,108]⟩ : ByteArray),6),((⟨#[82,99]⟩ : ByteArray),7),((⟨#[65,114,99]⟩ : ByteArray),8),((⟨#[77,117,116,101,120]⟩ : ByteArray),9),((⟨#[83,101,110,100,101,114]⟩ : ByteArray),11),((⟨#[82,101,99,101,105,118,101,114]⟩ : ByteArray),12)]
def findK (s : ByteArray) : List (ByteArray × Int) → Option Int
 | []=>none
 | (t,k) :: l=>if sEq s t = true then some k else findK s l
def zeroT : Ty:=.mk 0 emS []
def zeroX : Ex:=.mk 0 0 emS emS ⟨emS,[]⟩ [] 0
def kindP (l : List Tok) : Nat → RS → Option (Ty × RS)
 | 0,_=>none
 | n + 1,s =>
  if isP l s (⟨#[38]⟩ : ByteArray) 0 = true then
   let s1:=mayP l s (⟨#[38]⟩ : ByteArray)
   (kindP l n (mayP l s1 (⟨#[109,117,116]⟩ : ByteArray))).map fun r=>(.mk (if isP l s1 (⟨#[109,117,116]⟩ : ByteArray) 0 = true then 14 else 13) emS [r.1],r.2)
  else if handP l s 3 = true then some (.mk 4 (takeT l s 3) [],takeP l s 3)
  else
   match findK (takeT l s 1) wordK with
   | some k=>some (.mk k emS [],takeP l s 1)
   | none =>
    match findK (takeT l s 1) wrapK with
    | none=>some (zeroT,⟨s.at_,true,s.full⟩)
    | some k=>(kindP l n (mustP l (takeP l s 1) [(⟨#[60]⟩ : ByteArray)])).map fun r=>(.mk k emS [r.1],mustP l r.2 [(⟨#[62]⟩ : ByteArray)])
def fieldP (l : List Tok) (n : Nat) (s : RS) : Option (Fi × RS):=(kindP l n (mustP l (takeP l s 2) [(⟨#[58]⟩ : ByteArray)])).map fun r=>(⟨takeT l s 2,r.1⟩,r.2)
def variantP (l : List Tok) (n : Nat) (s : RS) : Option (Fi × RS) :=
 let s1:=takeP l s 3
 if isP l s1 (⟨#[40]⟩ : ByteArray) 0 = true then (kindP l n (mayP l s1 (⟨#[40]⟩ : ByteArray))).map fun r=>(⟨takeT l s 3,r.1⟩,mustP l r.2 [(⟨#[41]⟩ : ByteArray)])
 else some (⟨takeT l s 3,zeroT⟩,s1)
def listL {α : Type} (l : List Tok) (rd : RS → Option (α × RS)) : Nat → List α → RS → Option (List α × RS)
 | 0,_,_=>none
 | n + 1,acc,s =>
  if isP l s (⟨#[44]⟩ : ByteArray) 0 = true then
   match rd (mayP l s (⟨#[44]⟩ : ByteArray)) with
   | none=>none
   | some (x,s1)=>listL l rd n (acc ++ [x]) s1
  else some (acc,s)
def fewP (s : RS) (n : Nat) : RS:=⟨s.at_,s.bad,s.full || decide (6 < n)⟩
def listP {α : Type} (l : List Tok) (rd : RS → Option (α × RS)) (e : ByteArray) (n : Nat) (s : RS) : Option (List α × RS) :=
 if isP l s e 0 = true then some ([],mayP l s e)
 else
  match rd s with
  | none=>none
  | some (x,s1)=>(listL l rd n [x] s1).map fun r=>(r.1,fewP (mustP l r.2 [e]) r.1.length)
def pathL (l : List Tok) : Nat → List ByteArray → RS → Option (List ByteArray × RS)
 | 0,_,_=>none
 | n + 1,acc,s =>
  if isP l s (⟨#[46]⟩ : ByteArray) 0 = true then
   let s1:=mayP l s (⟨#[46]⟩ : ByteArray)
   if isP l s1 (⟨#[42]⟩ : ByteArray) 0 = true then pathL l n (acc ++ [(⟨#[42]⟩ : ByteArray)]) (mayP l s1 (⟨#[42]⟩ : ByteArray))
   else pathL l n (acc ++ [takeT l s1 2]) (takeP l s1 2)
  else some (acc,s)
def pathP (l : List Tok) (n : Nat) (s : RS) : Option (Pl × RS):=(pathL l n [] (takeP l s 2)).map fun r=>(⟨takeT l s 2,r.1⟩,r.2)
def simpleP (l : List Tok) (n : Nat) (s : RS) : Option (Ex × RS) :=
 if s.bad = true then some (zeroX,s)
 else match l[s.at_]? with
  | none=>some (zeroX,⟨s.at_,true,s.full⟩)
  | some x =>
   if x.kind = 4 then (if x.text = ⟨#[48]⟩ then some (.mk 1 0 emS emS ⟨emS,[]⟩ [] x.pos,⟨s.at_ + 1,s.bad,s.full⟩) else none)
   else if x.kind = 2 ∧ isP l s (⟨#[40]⟩ : ByteArray) 1 = false then (pathP l n s).map fun r=>(.mk 4 0 emS emS r.1 [] x.pos,r.2)
   else none
def signsK : Nat → List (ByteArray × Int)
 | 0=>[((⟨#[111,114]⟩ : ByteArray),17)]
 | 1=>[((⟨#[97,110,100]⟩ : ByteArray),16)]
 | 3=>[((⟨#[60]⟩ : ByteArray),14),((⟨#[61,61]⟩ : ByteArray),15)]
 | 4=>[((⟨#[43]⟩ : ByteArray),9),((⟨#[45]⟩ : ByteArray),10)]
 | 5=>[((⟨#[42]⟩ : ByteArray),11),((⟨#[47]⟩ : ByteArray),12),((⟨#[37]⟩ : ByteArray),13)]
 | _=>[]
def strongP (l : List Tok) (n : Nat) : Nat → RS → Option (Ex × RS)
 | 0,s=>if s.bad = true then some (zeroX,s) else if isP l s (⟨#[45]⟩ : ByteArray) 0 = true then none else simpleP l n s
 | j + 1,s =>
  if s.bad = true then some (zeroX,s)
  else if j = 3 ∧ isP l s (⟨#[110,111,116]⟩ : ByteArray) 0 = true then none
  else
   match strongP l n j s with
   | none=>none
   | some (e,s1) =>
    if s1.bad = true then some (e,s1)
    else match l[s1.at_]? with
     | none=>some (e,s1)
     | some x=>if (findK x.text (signsK (5 - j))).isSome then none else some (e,s1)
def startsK : List ByteArray:=[(⟨#[108,101,116]⟩ : ByteArray),(⟨#[100,114,111,112]⟩ : ByteArray),(⟨#[105,102]⟩ : ByteArray),(⟨#[119,104,105,108,101]⟩ : ByteArray),(⟨#[109,97,116,99,104]⟩ : ByteArray),(⟨#[115,99,111,112,101]⟩ : ByteArray),(⟨#[115,112,97,119,110]⟩ : ByteArray),(⟨#[108,111,99,107]⟩ : ByteArray),(⟨#[99,104,97,110]⟩ : ByteArray),(⟨#[123]⟩ : ByteArray)]
def bodyP (l : List Tok) (n : Nat) (s : RS) : Option (Ex × RS) :=
 if s.bad = true then some (zeroX,s)
 else
  let go:=fun _ : Unit=>match strongP l n 6 s with
   | none=>none
   | some (e,s1)=>if isP l s1 (⟨#[125]⟩ : ByteArray) 0 = true then some (e,s1) else none
  match l[s.at_]? with
  | none=>go ()
  | some x =>
   if startsK.any (fun t=>sEq x.text t) = true then none
   else if x.kind = 2 ∧ isP l s (⟨#[40]⟩ : ByteArray) 1 = false then
    match pathP l n s with
    | none=>none
    | some (p,s1)=>if s1.bad = false ∧ isP l s1 (⟨#[61]⟩ : ByteArray) 0 = true then none else go ()
   else go ()
def itemP (l : List Tok) (n : Nat) (s : RS) : Option (It × RS) :=
 if isP l s (⟨#[115,116,114,117,99,116]⟩ : ByteArray) 0 = true then
  let s1:=mayP l s (⟨#[115,116,114,117,99,116]⟩ : ByteArray)
  (listP l (fieldP l n) (⟨#[125]⟩ : ByteArray) n (mustP l (takeP l s1 3) [(⟨#[123]⟩ : ByteArray)])).map fun r=>(⟨1,takeT l s1 3,r.1,zeroT,[],zeroX,placeP l s⟩,r.2)
 else if isP l s (⟨#[101,110,117,109]⟩ : ByteArray) 0 = true then
  let s1:=mayP l s (⟨#[101,110,117,109]⟩ : ByteArray)
  (listP l (variantP l n) (⟨#[125]⟩ : ByteArray) n (mustP l (takeP l s1 3) [(⟨#[123]⟩ : ByteArray)])).map fun r=>(⟨2,takeT l s1 3,r.1,zeroT,[],zeroX,placeP l s⟩,r.2)
 else
  let s1:=mustP l s [(⟨#[102,110]⟩ : ByteArray)]
  match listP l (fieldP l n) (⟨#[41]⟩ : ByteArray) n (mustP l (takeP l s1 2) [(⟨#[40]⟩ : ByteArray)]) with
  | none=>none
  | some (fs,s2) =>
   match kindP l n (mustP l s2 [(⟨#[45,62]⟩ : ByteArray)]) with
   | none=>none
   | some (t,s3) =>
    match bodyP l n (mustP l s3 [(⟨#[123]⟩ : ByteArray)]) with
    | none=>none
    | some (e,s4)=>some (⟨3,takeT l s1 2,fs,t,[],e,placeP l s⟩,mustP l s4 [(⟨#[125]⟩ : ByteArray)])
mutual
def Ty.deep : Ty → Nat
 | .mk _ _ l=>Ty.deeps l + 1
def Ty.deeps : List Ty → Nat
 | []=>0
 | t :: l=>max t.deep (Ty.deeps l)
end
mutual
def Ex.deep : Ex → Nat
 | .mk _ _ _ _ _ l _=>Ex.deeps l + 1
def Ex.deeps : List Ex → Nat
 | []=>0
 | t :: l=>max t.deep (Ex.deeps l)
end
end Go.Proofs.YtfiohepfohhibaaDoor
namespace Go.Proofs.YtfiohepfohhibaaDoor
def zeroPl : Pl:=⟨emS,[]⟩
abbrev ex0 (op int : Int) (nm : ByteArray) (l : List Ex) (pos : Int) : Ex:=.mk op int nm emS zeroPl l pos
def numT (t : ByteArray) : Option Int:=if 0 < t.size ∧ t.size ≤ 4000 ∧ (t.data.toList.all fun b=>digitB b.toNat) = true ∧ digitsN t.data.toList < 9223372036854775808 then some (digitsN t.data.toList : Int) else none
def callK : List (ByteArray × Int):=[((⟨#[98,111,120]⟩ : ByteArray),21),((⟨#[117,110,98,111,120]⟩ : ByteArray),22),((⟨#[99,101,108,108]⟩ : ByteArray),23),((⟨#[114,99]⟩ : ByteArray),26),((⟨#[97,114,99]⟩ : ByteArray),27),((⟨#[109,117,116,101,120]⟩ : ByteArray),29),((⟨#[111,112,101,110]⟩ : ByteArray),30),((⟨#[97,116,111,109,105,99]⟩ : ByteArray),31),
 ((⟨#[103,101,116]⟩ : ByteArray),24),((⟨#[99,108,111,110,101]⟩ : ByteArray),28),((⟨#[108,111,97,100]⟩ : ByteArray),32),((⟨#[114,101,99,118]⟩ : ByteArray),36),((⟨#[115,101,116]⟩ : ByteArray),25),((⟨#[115,116,111,114,101]⟩ : ByteArray),33),((⟨#[102,101,116,99,104]⟩ : ByteArray),34),((⟨#[115,101,110,100]⟩ : ByteArray),35)]
def lentQ (l : List Tok) (n : Nat) (rd : RS → Option (Ex × RS)) (s : RS) : Option (Ex × RS) :=
 if isP l s (⟨#[38]⟩ : ByteArray) 0 = true then (pathP l n (mayP l (mayP l s (⟨#[38]⟩ : ByteArray)) (⟨#[109,117,116]⟩ : ByteArray))).map fun r=>(.mk (if isP l (mayP l s (⟨#[38]⟩ : ByteArray)) (⟨#[109,117,116]⟩ : ByteArray) 0 = true then 6 else 5) 0 emS emS r.1 [] (placeP l s),r.2)
 else rd s
def handQ (l : List Tok) (rd : RS → Option (Ex × RS)) (s : RS) : Option ((ByteArray × Ex) × RS):=(rd (mustP l (takeP l s 2) [(⟨#[61]⟩ : ByteArray)])).map fun r=>((takeT l s 2,r.1),r.2)
def calledQ (l : List Tok) (n : Nat) (rd : RS → Option (Ex × RS)) (op : Int) (pos : Int) (s : RS) : Option (Ex × RS) :=
 if op = 24 ∨ op = 28 ∨ op = 32 ∨ op = 36 then (pathP l n (mustP l s [(⟨#[40]⟩ : ByteArray)])).map fun r=>(.mk op 0 emS emS r.1 [] pos,mustP l r.2 [(⟨#[41]⟩ : ByteArray)])
 else if op = 25 ∨ op = 33 ∨ op = 34 ∨ op = 35 then
  match pathP l n (mustP l s [(⟨#[40]⟩ : ByteArray)]) with
  | none=>none
  | some (p,s2)=>(rd (mustP l s2 [(⟨#[44]⟩ : ByteArray)])).map fun r=>(.mk op 0 emS emS p [r.1] pos,mustP l r.2 [(⟨#[41]⟩ : ByteArray)])
 else (rd (mustP l s [(⟨#[40]⟩ : ByteArray)])).map fun r=>(ex0 op 0 emS [r.1] pos,mustP l r.2 [(⟨#[41]⟩ : ByteArray)])
def upperQ (l : List Tok) (n : Nat) (rd : RS → Option (Ex × RS)) (pos : Int) (s : RS) : Option (Ex × RS) :=
 if isP l (takeP l s 3) (⟨#[123]⟩ : ByteArray) 0 = true then (listP l (handQ l rd) (⟨#[125]⟩ : ByteArray) n (mayP l (takeP l s 3) (⟨#[123]⟩ : ByteArray))).map fun r=>(.mk 19 0 (takeT l s 3) emS ⟨emS,r.1.map (·.1)⟩ (r.1.map (·.2)) pos,r.2)
 else
  (fun (s2 : RS) =>
   if isP l (takeP l s2 3) (⟨#[40]⟩ : ByteArray) 0 = true then (rd (mayP l (takeP l s2 3) (⟨#[40]⟩ : ByteArray))).map fun r=>(.mk 20 0 (takeT l s 3) (takeT l s2 3) zeroPl [r.1] pos,mustP l r.2 [(⟨#[41]⟩ : ByteArray)])
   else some (.mk 20 0 (takeT l s 3) (takeT l s2 3) zeroPl [] pos,takeP l s2 3)) (mustP l (takeP l s 3) [(⟨#[46]⟩ : ByteArray)])
def simpleQ (l : List Tok) (n : Nat) (rd : RS → Option (Ex × RS)) (s : RS) : Option (Ex × RS) :=
 if s.bad = true then some (zeroX,s)
 else match l[s.at_]? with
  | none=>some (zeroX,⟨s.at_,true,s.full⟩)
  | some x =>
   if x.kind = 4 then (numT x.text).map fun v=>(ex0 1 v emS [] x.pos,⟨s.at_ + 1,s.bad,s.full⟩)
   else if x.kind = 3 then upperQ l n rd x.pos s
   else if x.kind = 2 then
    if isP l s (⟨#[40]⟩ : ByteArray) 1 = true then (listP l (lentQ l n rd) (⟨#[41]⟩ : ByteArray) n (mustP l (takeP l s 2) [(⟨#[40]⟩ : ByteArray)])).map fun r=>(ex0 18 0 (takeT l s 2) r.1 x.pos,r.2)
    else (pathP l n s).map fun r=>(.mk 4 0 emS emS r.1 [] x.pos,r.2)
   else match findK x.text callK with
    | some op=>calledQ l n rd op x.pos ⟨s.at_ + 1,s.bad,s.full⟩
    | none =>
     if isP l s (⟨#[116,114,117,101]⟩ : ByteArray) 0 = true then some (ex0 2 1 emS [] x.pos,mayP l s (⟨#[116,114,117,101]⟩ : ByteArray))
     else if isP l s (⟨#[102,97,108,115,101]⟩ : ByteArray) 0 = true then some (ex0 2 0 emS [] x.pos,mayP l s (⟨#[102,97,108,115,101]⟩ : ByteArray))
     else if isP l (mustP l s [(⟨#[40]⟩ : ByteArray)]) (⟨#[41]⟩ : ByteArray) 0 = true then some (ex0 3 0 emS [] x.pos,mayP l (mustP l s [(⟨#[40]⟩ : ByteArray)]) (⟨#[41]⟩ : ByteArray))
     else (rd (mustP l s [(⟨#[40]⟩ : ByteArray)])).map fun r=>(r.1,mustP l r.2 [(⟨#[41]⟩ : ByteArray)])
def signsQ (l : List Tok) (rd : RS → Option (Ex × RS)) (k : Nat) : Nat → Ex → RS → Option (Ex × RS)
 | 0,_,_=>none
 | n + 1,e,s =>
  if s.bad = true then some (e,s)
  else match l[s.at_]? with
   | none=>some (e,s)
   | some x=>match findK x.text (signsK k) with
    | none=>some (e,s)
    | some op=>match rd ⟨s.at_ + 1,s.bad,s.full⟩ with
     | none=>none
     | some (r,s1)=>if k = 3 then some (ex0 op 0 emS [e,r] x.pos,s1) else signsQ l rd k n (ex0 op 0 emS [e,r] x.pos) s1
def strongQ (l : List Tok) : Nat → Nat → RS → Option (Ex × RS)
 | 0,_,_=>none
 | n + 1,0,s =>
  if s.bad = true then some (zeroX,s)
  else if isP l s (⟨#[45]⟩ : ByteArray) 0 = true then (strongQ l n 0 (mayP l s (⟨#[45]⟩ : ByteArray))).map fun r=>(ex0 7 0 emS [r.1] (placeP l s),r.2)
  else simpleQ l n (strongQ l n 6) s
 | n + 1,j + 1,s =>
  if s.bad = true then some (zeroX,s)
  else if j = 3 ∧ isP l s (⟨#[110,111,116]⟩ : ByteArray) 0 = true then (strongQ l n 4 (mayP l s (⟨#[110,111,116]⟩ : ByteArray))).map fun r=>(ex0 8 0 emS [r.1] (placeP l s),r.2)
  else
   match strongQ l n j s with
   | none=>none
   | some (e,s1)=>signsQ l (strongQ l n j) (5 - j) n e s1
abbrev st0 (op : Int) (nm second : ByteArray) (es : List Ex) (body els : List St) : St:=.mk op nm second [] zeroT 0 zeroPl es body els [] 0
def St.at (s : St) (pos : Int) : St:=.mk s.op s.name s.second s.names s.type s.int s.place s.exprs s.body s.els s.arms pos
abbrev Blk:=RS → Option (List St × RS)
def nameQ (l : List Tok) (s : RS) : Option (ByteArray × RS):=some (takeT l s 2,takeP l s 2)
def letQ (l : List Tok) (n : Nat) (ex : RS → Option (Ex × RS)) (s : RS) : Option (St × RS) :=
 if handP l s 3 = true then
  match listP l (nameQ l) (⟨#[125]⟩ : ByteArray) n (mustP l (takeP l s 3) [(⟨#[123]⟩ : ByteArray)]) with
  | none=>none
  | some (ns,s2)=>(ex (mustP l s2 [(⟨#[61]⟩ : ByteArray)])).map fun r=>(.mk 2 (takeT l s 3) emS ns zeroT 0 zeroPl [r.1] [] [] [] 0,mustP l r.2 [(⟨#[59]⟩ : ByteArray)])
 else (lentQ l n ex (mustP l (takeP l s 2) [(⟨#[61]⟩ : ByteArray)])).map fun r=>(st0 1 (takeT l s 2) emS [r.1] [] [],mustP l r.2 [(⟨#[59]⟩ : ByteArray)])
def dropQ (l : List Tok) (s : RS) : Option (St × RS):=some (st0 5 (takeT l s 2) emS [] [] [],mustP l (takeP l s 2) [(⟨#[59]⟩ : ByteArray)])
def blockQ (l : List Tok) (inner : Blk) (s : RS) : Option (List St × RS):=inner (mustP l s [(⟨#[123]⟩ : ByteArray)])
def whileQ (l : List Tok) (ex : RS → Option (Ex × RS)) (inner : Blk) (s : RS) : Option (St × RS) :=
 match ex s with
 | none=>none
 | some (e,s1)=>(blockQ l inner s1).map fun r=>(st0 7 emS emS [e] r.1 [],r.2)
def branchQ (l : List Tok) (ex : RS → Option (Ex × RS)) (inner : Blk) (s : RS) : Option (St × RS) :=
 match ex s with
 | none=>none
 | some (e,s1)=>match blockQ l inner s1 with
  | none=>none
  | some (b,s2)=>if isP l s2 (⟨#[101,108,115,101]⟩ : ByteArray) 0 = true then (blockQ l inner (mayP l s2 (⟨#[101,108,115,101]⟩ : ByteArray))).map fun r=>(st0 6 emS emS [e] b r.1,r.2) else some (st0 6 emS emS [e] b [],s2)
def scopeQ (l : List Tok) (inner : Blk) (s : RS) : Option (St × RS):=(blockQ l inner s).map fun r=>(st0 9 emS emS [] r.1 [],r.2)
def plainQ (inner : Blk) (s : RS) : Option (St × RS):=(inner s).map fun r=>(st0 13 emS emS [] r.1 [],r.2)
def lockQ (l : List Tok) (n : Nat) (inner : Blk) (s : RS) : Option (St × RS) :=
 match pathP l n s with
 | none=>none
 | some (p,s1)=>(blockQ l inner (takeP l (mustP l s1 [(⟨#[97,115]⟩ : ByteArray)]) 2)).map fun r=>(.mk 11 (takeT l (mustP l s1 [(⟨#[97,115]⟩ : ByteArray)]) 2) emS [] zeroT 0 p [] r.1 [] [] 0,r.2)
def armQ (l : List Tok) (inner : Blk) (s : RS) : Option (Ar × RS) :=
 (fun (v : ByteArray) (s1 : RS) =>
  if isP l s1 (⟨#[40]⟩ : ByteArray) 0 = true then (blockQ l inner (mustP l (mustP l (takeP l (mayP l s1 (⟨#[40]⟩ : ByteArray)) 2) [(⟨#[41]⟩ : ByteArray)]) [(⟨#[61,62]⟩ : ByteArray)])).map fun r=>(⟨v,takeT l (mayP l s1 (⟨#[40]⟩ : ByteArray)) 2,r.1⟩,r.2)
  else (blockQ l inner (mustP l s1 [(⟨#[61,62]⟩ : ByteArray)])).map fun r=>(⟨v,emS,r.1⟩,r.2)) (takeT l s 3) (takeP l s 3)
def armsQ (l : List Tok) (inner : Blk) : Nat → List Ar → RS → Option (List Ar × RS)
 | 0,_,_=>none
 | n + 1,acc,s =>
  if s.bad = true then some (acc,s)
  else if isP l s (⟨#[125]⟩ : ByteArray) 0 = true then some (acc,mayP l s (⟨#[125]⟩ : ByteArray))
  else match armQ l inner s with
   | none=>none
   | some (a,s1)=>armsQ l inner n (acc ++ [a]) s1
def matchQ (l : List Tok) (n : Nat) (inner : Blk) (s : RS) : Option (St × RS) :=
 (fun (s1 : RS)=>(armsQ l inner n [] (mustP l (takeP l s1 3) [(⟨#[123]⟩ : ByteArray)])).map fun r=>(.mk 8 (takeT l s 2) (takeT l s1 3) [] zeroT 0 zeroPl [] [] [] r.1 0,fewP r.2 r.1.length)) (mustP l (takeP l s 2) [(⟨#[58]⟩ : ByteArray)])
def spawnQ (l : List Tok) (n : Nat) (ex : RS → Option (Ex × RS)) (inner : Blk) (s : RS) : Option (St × RS) :=
 match listP l (handQ l (lentQ l n ex)) (⟨#[41]⟩ : ByteArray) n (mustP l s [(⟨#[40]⟩ : ByteArray)]) with
 | none=>none
 | some (hs,s1)=>(blockQ l inner s1).map fun r=>(.mk 10 emS emS (hs.map (·.1)) zeroT 0 zeroPl (hs.map (·.2)) r.1 [] [] 0,r.2)
def numV (l : List Tok) (s : RS) : Option Int:=if handP l s 4 = true then numT (takeT l s 4) else some 0
def roomR (s : RS) (v : Int) : RS:=⟨s.at_,s.bad,s.full || (decide (v < 1) || decide (8 < v))⟩
def chanQ (l : List Tok) (n : Nat) (s : RS) : Option (St × RS) :=
 match kindP l n (mustP l s [(⟨#[60]⟩ : ByteArray)]) with
 | none=>none
 | some (t,s1) =>
  (fun (s2 : RS)=>(numV l s2).map fun v =>
   (fun (s3 : RS)=>(fun (s4 : RS)=>(.mk 12 (takeT l s3 2) (takeT l s4 2) [] t v zeroPl [] [] [] [] 0,mustP l (takeP l s4 2) [(⟨#[59]⟩ : ByteArray)])) (mustP l (takeP l s3 2) [(⟨#[44]⟩ : ByteArray)])) (mustP l (roomR (takeP l s2 4) v) [(⟨#[41]⟩ : ByteArray),(⟨#[97,115]⟩ : ByteArray)])) (mustP l s1 [(⟨#[62]⟩ : ByteArray),(⟨#[40]⟩ : ByteArray)])
def wordQ (l : List Tok) (n : Nat) (ex : RS → Option (Ex × RS)) (inner : Blk) (w : ByteArray) (s : RS) : Option (Option (St × RS)) :=
 if sEq w (⟨#[108,101,116]⟩ : ByteArray) = true then some (letQ l n ex s)
 else if sEq w (⟨#[100,114,111,112]⟩ : ByteArray) = true then some (dropQ l s)
 else if sEq w (⟨#[105,102]⟩ : ByteArray) = true then some (branchQ l ex inner s)
 else if sEq w (⟨#[119,104,105,108,101]⟩ : ByteArray) = true then some (whileQ l ex inner s)
 else if sEq w (⟨#[109,97,116,99,104]⟩ : ByteArray) = true then some (matchQ l n inner s)
 else if sEq w (⟨#[115,99,111,112,101]⟩ : ByteArray) = true then some (scopeQ l inner s)
 else if sEq w (⟨#[115,112,97,119,110]⟩ : ByteArray) = true then some (spawnQ l n ex inner s)
 else if sEq w (⟨#[108,111,99,107]⟩ : ByteArray) = true then some (lockQ l n inner s)
 else if sEq w (⟨#[99,104,97,110]⟩ : ByteArray) = true then some (chanQ l n s)
 else if sEq w (⟨#[123]⟩ : ByteArray) = true then some (plainQ inner s)
 else none
def firstQ (l : List Tok) (n : Nat) (ex : RS → Option (Ex × RS)) (inner : Blk) (s : RS) : Option (Option St × RS) :=
 if s.bad = true then some (none,s)
 else match l[s.at_]? with
  | none=>some (none,s)
  | some x=>match wordQ l n ex inner x.text ⟨s.at_ + 1,s.bad,s.full⟩ with
   | none=>some (none,s)
   | some none=>none
   | some (some (st,s1))=>some (some (st.at x.pos),s1)
def assignQ (l : List Tok) (n : Nat) (ex : RS → Option (Ex × RS)) (s : RS) : Option (Option St × RS) :=
 if s.bad = true then some (none,s)
 else match l[s.at_]? with
  | none=>some (none,s)
  | some x =>
   if x.kind = 2 ∧ isP l s (⟨#[40]⟩ : ByteArray) 1 = false then
    match pathP l n s with
    | none=>none
    | some (p,s1) =>
     if s1.bad = false ∧ isP l s1 (⟨#[61]⟩ : ByteArray) 0 = true then (ex (mayP l s1 (⟨#[61]⟩ : ByteArray))).map fun r=>(some (.mk 3 emS emS [] zeroT 0 p [r.1] [] [] [] x.pos),mustP l r.2 [(⟨#[59]⟩ : ByteArray)])
     else some (none,s)
   else some (none,s)
def stepQ (l : List Tok) (n : Nat) (ex : RS → Option (Ex × RS)) (inner : Blk) (s : RS) : Option (Option St × RS) :=
 match firstQ l n ex inner s with
 | none=>none
 | some (some st,s1)=>some (some st,s1)
 | some (none,s1)=>assignQ l n ex s1
def innerQ (l : List Tok) : Nat → List St → RS → Option (List St × RS)
 | 0,_,_=>none
 | n + 1,acc,s =>
  if s.bad = true then some (acc,s)
  else if isP l s (⟨#[125]⟩ : ByteArray) 0 = true then some (acc,mayP l s (⟨#[125]⟩ : ByteArray))
  else match stepQ l n (strongQ l n 6) (innerQ l n []) s with
   | none=>none
   | some (some st,s1)=>innerQ l n (acc ++ [st]) s1
   | some (none,s1)=>match strongQ l n 6 s1 with
    | none=>none
    | some (e,s2)=>innerQ l n (acc ++ [(st0 4 emS emS [e] [] []).at (placeP l s1)]) (mustP l s2 [(⟨#[59]⟩ : ByteArray)])
def bodyQ (l : List Tok) : Nat → List St → RS → Option ((List St × Ex) × RS)
 | 0,_,_=>none
 | n + 1,acc,s =>
  if s.bad = true then some (([],zeroX),s)
  else match stepQ l n (strongQ l n 6) (innerQ l n []) s with
   | none=>none
   | some (some st,s1)=>bodyQ l n (acc ++ [st]) s1
   | some (none,s1)=>match strongQ l n 6 s1 with
    | none=>none
    | some (e,s2)=>if isP l s2 (⟨#[125]⟩ : ByteArray) 0 = true then some ((acc,e),s2) else bodyQ l n (acc ++ [(st0 4 emS emS [e] [] []).at (placeP l s1)]) (mustP l s2 [(⟨#[59]⟩ : ByteArray)])
def itemQ (l : List Tok) (n : Nat) (s : RS) : Option (It × RS) :=
 if isP l s (⟨#[115,116,114,117,99,116]⟩ : ByteArray) 0 = true then itemP l n s
 else if isP l s (⟨#[101,110,117,109]⟩ : ByteArray) 0 = true then itemP l n s
 else
  match listP l (fieldP l n) (⟨#[41]⟩ : ByteArray) n (mustP l (takeP l (mustP l s [(⟨#[102,110]⟩ : ByteArray)]) 2) [(⟨#[40]⟩ : ByteArray)]) with
  | none=>none
  | some (fs,s2) =>
   match kindP l n (mustP l s2 [(⟨#[45,62]⟩ : ByteArray)]) with
   | none=>none
   | some (t,s3) =>
    match bodyQ l n [] (mustP l s3 [(⟨#[123]⟩ : ByteArray)]) with
    | none=>none
    | some ((b,e),s4)=>some (⟨3,takeT l (mustP l s [(⟨#[102,110]⟩ : ByteArray)]) 2,fs,t,b,e,placeP l s⟩,mustP l s4 [(⟨#[125]⟩ : ByteArray)])
def itemsQ (l : List Tok) (n : Nat) : Nat → List It → RS → Option (List It × RS)
 | 0,_,_=>none
 | f + 1,acc,s =>
  if s.at_ < l.length ∧ s.bad = false then
   match itemQ l n s with
   | none=>none
   | some (x,s1)=>itemsQ l n f (acc ++ [x]) s1
  else some (acc,s)
def parseQ (n : Nat) (s : ByteArray) : Option (List It) :=
 if 4000 < s.size then none
 else match betwF n s.data.toList with
  | none=>none
  | some m =>
   match lexF n m (s.data.toList.drop m) with
   | none=>none
   | some l =>
    if 1500 < l.length then none
    else match itemsQ l n n [] ⟨0,false,false⟩ with
     | none=>none
     | some (p,s1)=>if s1.bad = true ∨ s1.full = true ∨ 30 < p.length then none else some p
end Go.Proofs.YtfiohepfohhibaaDoor
