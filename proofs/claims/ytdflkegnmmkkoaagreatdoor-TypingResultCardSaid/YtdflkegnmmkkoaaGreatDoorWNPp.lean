/- A part of the proof. -/
import Derived.Test.YtdflkegnmmkkoaaGreatDoorWNSb
import Derived.Laws.ResultCell
set_option linter.unusedVariables false
set_option linter.unusedSimpArgs false
set_option maxRecDepth 100000
set_option maxHeartbeats 32000000
namespace Go.Proofs.YtdflkegnmmkkoaaGreatDoor
open Go.RowKit _root_.Go.Proofs.Tryz
structure Tok where
 kind:Int
 text:BA
 pos:Nat
def Tok.enc(t:Tok):List PV:=[pU t.kind,pS t.text,pI t.pos]
def spB(b:UInt8):Bool:=b==32||b==9||b==10||b==13
def zFI:Nat->List UInt8->Option Nat
 |0,_=>none
 |_+1,[]=>some 0
 |f+1,b::r=>
  if spB b then(zFI f r).map (· +1)
  else match b,r with
   |47,47::_=>none
   |_,_=>some 0
def zCA(l:List UInt8):Nat:=l.foldl (fun n b=>n*10+(b.toNat-48)) 0
def zMp:List UInt8:=[40,41,123,125,60,62,44,59,58,61,38,42,46,43,45,47,37]
def zIs(l:List UInt8):Nat:=
 if List.isPrefixOf [61,61] l||(List.isPrefixOf [61,62] l||List.isPrefixOf [45,62] l)then 2
 else match l with
  |b::_=>if zMp.contains b then 1 else 0
  | []=>0
def oneF(l:List UInt8):Option (Int × Nat):=
 match l with
 | []=>none
 |b::_=>
  if zEJ b.toNat||zEK b.toNat then
   let n:=zAW zDB l
   let s:BA:=⟨(l.take n).toArray⟩
   if zJ3 s then some (1,n)else if zBO s then some (2,n)else if zCW s then some (3,n)else none
  else if zAx b.toNat then
   if zCA (l.take (zAW zAx l))<9223372036854775808 then some (4,zAW zAx l)else none
  else
   let n:=zIs l
   if n=0 then none else some (5,n)
def lexF:Nat->Nat->List UInt8->Option (List Tok)
 |0,_,_=>none
 |_+1,_,[]=>some []
 |f+1,pos,b::r=>
  match oneF (b::r)with
  |none=>none
  |some (k,n)=>
   match zFI f ((b::r).drop n)with
   |none=>none
   |some m=>(lexF f (pos+n+m) ((b::r).drop (n+m))).map fun ts=>⟨k,⟨((b::r).take n).toArray⟩,pos⟩::ts
structure RS where
 at_:Nat
 bad:Bool
 full:Bool
def zBY(l:List Tok)(s:RS):Nat:=match l[s.at_]? with|some t=>t.pos|none=>0
def isP(l:List Tok)(s:RS)(t:BA)(k:Nat):Bool:=!s.bad&&match l[s.at_+k]? with|some x=>sEq x.text t|none=>false
def mayP(l:List Tok)(s:RS)(t:BA):RS:=if isP l s t 0=true then⟨s.at_+1,s.bad,s.full⟩else s
def zAY(l:List Tok):RS->List BA->RS
 |s,[]=>s
 |s,t::ts=>zAY l ⟨(mayP l s t).at_,!isP l s t 0,s.full⟩ ts
def zGV(l:List Tok)(s:RS)(k:Int):Bool:=!s.bad&&match l[s.at_]? with|some x=>x.kind==k|none=>false
def zAJ(l:List Tok)(s:RS)(k:Int):BA:=if zGV l s k=true then match l[s.at_]? with|some x=>x.text|none=>emS else emS
def zBN(l:List Tok)(s:RS)(k:Int):RS:=if zGV l s k=true then⟨s.at_+1,s.bad,s.full⟩else⟨s.at_,true,s.full⟩
def zDN:List (BA × Int):=[((⟨#[105,110,116]⟩:BA),1),((⟨#[98,111,111,108]⟩:BA),2),((⟨#[117,110,105,116]⟩:BA),3),((⟨#[65,116,111,109,105,99]⟩:BA),10)]
def zFJ:List (BA × Int):=[((⟨#[66,111,120]⟩:BA),5),((⟨#[67,101,108,108]⟩:BA),6),((⟨#[82,99]⟩:BA),7),((⟨#[65,114,99]⟩:BA),8),((⟨#[77,117,116,101,120]⟩:BA),9),((⟨#[83,101,110,100,101,114]⟩:BA),11),((⟨#[82,101,99,101,105,118,101,114]⟩:BA),12)]
def zB0(s:BA):List (BA × Int)->Option Int
 | []=>none
 |(t,k)::l=>if sEq s t=true then some k else zB0 s l
def zLa:Ty:=.mk 0 emS []
def zFa:Ex:=.mk 0 0 emS emS ⟨emS,[]⟩ [] 0
def zGy(l:List Tok):Nat->RS->Option (Ty × RS)
 |0,_=>none
 |n+1,s=>
  if isP l s (⟨#[38]⟩:BA) 0=true then
   let s1:=mayP l s (⟨#[38]⟩:BA)
   (zGy l n (mayP l s1 (⟨#[109,117,116]⟩:BA))).map fun r=>(.mk (if isP l s1 (⟨#[109,117,116]⟩:BA) 0=true then 14 else 13) emS [r.1],r.2)
  else if zGV l s 3=true then some (.mk 4 (zAJ l s 3) [],zBN l s 3)
  else
   match zB0 (zAJ l s 1) zDN with
   |some k=>some (.mk k emS [],zBN l s 1)
   |none=>
    match zB0 (zAJ l s 1) zFJ with
    |none=>some (zLa,⟨s.at_,true,s.full⟩)
    |some k=>(zGy l n (zAY l (zBN l s 1) [(⟨#[60]⟩:BA)])).map fun r=>(.mk k emS [r.1],zAY l r.2 [(⟨#[62]⟩:BA)])
def zH8(l:List Tok)(n:Nat)(s:RS):Option (Fi × RS):=(zGy l n (zAY l (zBN l s 2) [(⟨#[58]⟩:BA)])).map fun r=>(⟨zAJ l s 2,r.1⟩,r.2)
def zU2(l:List Tok)(n:Nat)(s:RS):Option (Fi × RS):=
 let s1:=zBN l s 3
 if isP l s1 (⟨#[40]⟩:BA) 0=true then(zGy l n (mayP l s1 (⟨#[40]⟩:BA))).map fun r=>(⟨zAJ l s 3,r.1⟩,zAY l r.2 [(⟨#[41]⟩:BA)])
 else some (⟨zAJ l s 3,zLa⟩,s1)
def zLb{α:Type}(l:List Tok)(rd:RS->Option (α × RS)):Nat->List α->RS->Option (List α × RS)
 |0,_,_=>none
 |n+1,acc,s=>
  if isP l s (⟨#[44]⟩:BA) 0=true then
   match rd (mayP l s (⟨#[44]⟩:BA))with
   |none=>none
   |some (x,s1)=>zLb l rd n (acc++[x]) s1
  else some (acc,s)
def fewP(s:RS)(n:Nat):RS:=⟨s.at_,s.bad,s.full||decide (6<n)⟩
def zLc{α:Type}(l:List Tok)(rd:RS->Option (α × RS))(e:BA)(n:Nat)(s:RS):Option (List α × RS):=
 if isP l s e 0=true then some ([],mayP l s e)
 else
  match rd s with
  |none=>none
  |some (x,s1)=>(zLb l rd n [x] s1).map fun r=>(r.1,fewP (zAY l r.2 [e]) r.1.length)
def zKG(l:List Tok):Nat->List BA->RS->Option (List BA × RS)
 |0,_,_=>none
 |n+1,acc,s=>
  if isP l s (⟨#[46]⟩:BA) 0=true then
   let s1:=mayP l s (⟨#[46]⟩:BA)
   if isP l s1 (⟨#[42]⟩:BA) 0=true then zKG l n (acc++[(⟨#[42]⟩:BA)]) (mayP l s1 (⟨#[42]⟩:BA))
   else zKG l n (acc++[zAJ l s1 2]) (zBN l s1 2)
  else some (acc,s)
def zGz(l:List Tok)(n:Nat)(s:RS):Option (Pl × RS):=(zKG l n [] (zBN l s 2)).map fun r=>(⟨zAJ l s 2,r.1⟩,r.2)
def zXw(l:List Tok)(n:Nat)(s:RS):Option (Ex × RS):=
 if s.bad=true then some (zFa,s)
 else match l[s.at_]? with
  |none=>some (zFa,⟨s.at_,true,s.full⟩)
  |some x=>
   if x.kind=4 then(if x.text=⟨#[48]⟩then some (.mk 1 0 emS emS ⟨emS,[]⟩ [] x.pos,⟨s.at_+1,s.bad,s.full⟩)else none)
   else if x.kind=2/\isP l s (⟨#[40]⟩:BA) 1=false then(zGz l n s).map fun r=>(.mk 4 0 emS emS r.1 [] x.pos,r.2)
   else none
def zB1:Nat->List (BA × Int)
 |0=>[((⟨#[111,114]⟩:BA),17)]
 |1=>[((⟨#[97,110,100]⟩:BA),16)]
 |3=>[((⟨#[60]⟩:BA),14),((⟨#[61,61]⟩:BA),15)]
 |4=>[((⟨#[43]⟩:BA),9),((⟨#[45]⟩:BA),10)]
 |5=>[((⟨#[42]⟩:BA),11),((⟨#[47]⟩:BA),12),((⟨#[37]⟩:BA),13)]
 |_=>[]
def zSC(l:List Tok)(n:Nat):Nat->RS->Option (Ex × RS)
 |0,s=>if s.bad=true then some (zFa,s)else if isP l s (⟨#[45]⟩:BA) 0=true then none else zXw l n s
 |j+1,s=>
  if s.bad=true then some (zFa,s)
  else if j=3/\isP l s (⟨#[110,111,116]⟩:BA) 0=true then none
  else
   match zSC l n j s with
   |none=>none
   |some (e,s1)=>
    if s1.bad=true then some (e,s1)
    else match l[s1.at_]? with
     |none=>some (e,s1)
     |some x=>if(zB0 x.text (zB1 (5-j))).isSome then none else some (e,s1)
def zH9:List BA:=[(⟨#[108,101,116]⟩:BA),(⟨#[100,114,111,112]⟩:BA),(⟨#[105,102]⟩:BA),(⟨#[119,104,105,108,101]⟩:BA),(⟨#[109,97,116,99,104]⟩:BA),(⟨#[115,99,111,112,101]⟩:BA),(⟨#[115,112,97,119,110]⟩:BA),(⟨#[108,111,99,107]⟩:BA),(⟨#[99,104,97,110]⟩:BA),(⟨#[123]⟩:BA)]
def zbs(l:List Tok)(n:Nat)(s:RS):Option (Ex × RS):=
 if s.bad=true then some (zFa,s)
 else
  let go:=fun _:Unit=>match zSC l n 6 s with
   |none=>none
   |some (e,s1)=>if isP l s1 (⟨#[125]⟩:BA) 0=true then some (e,s1)else none
  match l[s.at_]? with
  |none=>go ()
  |some x=>
   if zH9.any (fun t=>sEq x.text t)=true then none
   else if x.kind=2/\isP l s (⟨#[40]⟩:BA) 1=false then
    match zGz l n s with
    |none=>none
    |some (p,s1)=>if s1.bad=false/\isP l s1 (⟨#[61]⟩:BA) 0=true then none else go ()
   else go ()
def zU3(l:List Tok)(n:Nat)(s:RS):Option (It × RS):=
 if isP l s (⟨#[115,116,114,117,99,116]⟩:BA) 0=true then
  let s1:=mayP l s (⟨#[115,116,114,117,99,116]⟩:BA)
  (zLc l (zH8 l n) (⟨#[125]⟩:BA) n (zAY l (zBN l s1 3) [(⟨#[123]⟩:BA)])).map fun r=>(⟨1,zAJ l s1 3,r.1,zLa,[],zFa,zBY l s⟩,r.2)
 else if isP l s (⟨#[101,110,117,109]⟩:BA) 0=true then
  let s1:=mayP l s (⟨#[101,110,117,109]⟩:BA)
  (zLc l (zU2 l n) (⟨#[125]⟩:BA) n (zAY l (zBN l s1 3) [(⟨#[123]⟩:BA)])).map fun r=>(⟨2,zAJ l s1 3,r.1,zLa,[],zFa,zBY l s⟩,r.2)
 else
  let s1:=zAY l s [(⟨#[102,110]⟩:BA)]
  match zLc l (zH8 l n) (⟨#[41]⟩:BA) n (zAY l (zBN l s1 2) [(⟨#[40]⟩:BA)])with
  |none=>none
  |some (fs,s2)=>
   match zGy l n (zAY l s2 [(⟨#[45,62]⟩:BA)])with
   |none=>none
   |some (t,s3)=>
    match zbs l n (zAY l s3 [(⟨#[123]⟩:BA)])with
    |none=>none
    |some (e,s4)=>some (⟨3,zAJ l s1 2,fs,t,[],e,zBY l s⟩,zAY l s4 [(⟨#[125]⟩:BA)])
mutual
def Ty.deep:Ty->Nat
 | .mk _ _ l=>Ty.deeps l+1
def Ty.deeps:List Ty->Nat
 | []=>0
 |t::l=>max t.deep (Ty.deeps l)
end
mutual
def Ex.deep:Ex->Nat
 | .mk _ _ _ _ _ l _=>Ex.deeps l+1
def Ex.deeps:List Ex->Nat
 | []=>0
 |t::l=>max t.deep (Ex.deeps l)
end
attribute [local simp] List.replicate List.range List.range.loop
theorem zJK(s:BA)(b:UInt8)(S:ASt):ADet Tryz.prog 166 [Sg s,U b.toNat] S (I (Lib.indexByte s.data.toList b)) S:=
 ADet.of_calls rfl call166 fun Pr φ xs w da hR=>by
  obtain rfl:=zGT (l:=[.string s,.int .u8 b.toNat]) da
  refine(Tryz.strings_IndexByte s b.toNat w).mono ?_
  rintro e w' ⟨rfl,rfl⟩
  exact⟨by simp,Below.refl _ _⟩
theorem zU4(b:UInt8):(0<=Lib.indexByte [32,9,10,13] b) ↔ spB b=true:=by
 unfold spB
 by_cases h1:b=32
 .subst h1;decide
 by_cases h2:b=9
 .subst h2;decide
 by_cases h3:b=10
 .subst h3;decide
 by_cases h4:b=13
 .subst h4;decide
 have g1:((32:UInt8)==b)=false:=by simpa using fun h=>h1 h.symm
 have g2:((9:UInt8)==b)=false:=by simpa using fun h=>h2 h.symm
 have g3:((10:UInt8)==b)=false:=by simpa using fun h=>h3 h.symm
 have g4:((13:UInt8)==b)=false:=by simpa using fun h=>h4 h.symm
 simp[Lib.indexByte,g1,g2,g3,g4,h1,h2,h3,h4]
theorem zJL:∀(l:List UInt8) (b:UInt8),l.contains b=false->Lib.indexByte l b= -1
 | [],b,_=>rfl
 |c::l,b,h=>by
  simp only[List.contains_cons,Bool.or_eq_false_iff]at h
  have h1:(c==b)=false:=by
   have:=h.1
   rw[beq_eq_false_iff_ne]at this ⊢;exact fun e=>this e.symm
  simp[Lib.indexByte,h1,zJL l b h.2]
theorem zJM:∀(l:List UInt8) (b:UInt8),l.contains b=true->0<=Lib.indexByte l b
 | [],b,h=>by simp at h
 |c::l,b,h=>by
  simp only[List.contains_cons,Bool.or_eq_true]at h
  by_cases hc:c=b
  .subst hc;simp[Lib.indexByte]
  have h1:(c==b)=false:=by simpa using hc
  have h2:=zJM l b (h.resolve_left (by simpa using fun e=>hc e.symm))
  simp only[Lib.indexByte,h1];split
  .rename_i h3;simp at h3
  split
  .rename_i h4;simp at h4;omega
  omega
def preB(p a:BA):Bool:=decide (p.size<=a.size)&&sEq (a.extract 0 p.size) p
theorem zPM(a p:BA)(S:ASt):ADet Tryz.prog 197 [Sg a,Sg p] S (B (preB p a)) S:=by
 refine ADet.intro mixed call197 func197 rfl ?_;unfold preB
 by_cases h:p.size<=a.size
 .have h':(p.size:Int)<=(a.size:Int):=by omega
  simp[ntmps197,h,h']
 have h':¬(p.size:Int)<=(a.size:Int):=by omega
 simp[ntmps197,h,h']
theorem zE6(a p:BA)(S:ASt):ADet Tryz.prog 167 [Sg a,Sg p] S (B (preB p a)) S:=by
 refine ADet.intro mixed call167 func167 rfl ?_;simp[ntmps167];refine cq (zPM a p _) ?_;simp
theorem zNz(p a:BA):preB p a=p.data.toList.isPrefixOf a.data.toList:=by
 rw[Bool.eq_iff_iff,List.isPrefixOf_iff_prefix];unfold preB;simp only[Bool.and_eq_true,decide_eq_true_eq,zDZ]
 have hp:p.data.toList.length=p.size:=by simp
 have ha:a.data.toList.length=a.size:=by simp
 constructor
 .rintro⟨h1,h2⟩
  have h3:(a.extract 0 p.size).data.toList=p.data.toList:=by rw[h2]
  rw[zCO,List.drop_zero]at h3;exact⟨a.data.toList.drop p.size,by rw[<-h3,List.take_append_drop]⟩
 rintro⟨t,h⟩
 have h1:p.size<=a.size:=by rw[<-hp,<-ha,<-h];simp
 refine⟨h1,zLO ?_⟩;rw[zCO,List.drop_zero,<-h,<-hp,List.take_left]
theorem zN0(s:BA)(hs:s.size<=4000)(n f:Nat)(h:zFI f s.data.toList=some n)(S:ASt):ADet Tryz.prog 132 [Sg s] S (I n) S:=by
 have ca:s.data.toList.length=s.size:=by simp
 generalize hl:s.data.toList=l at*
 refine ADet.intro mixed call132 func132 rfl ?_;simp[ntmps132];refine zH (fun q:Nat=>q<=l.length/\∃f' m,zFI f' (l.drop q)=some m/\q+m=n) (fun q=>([Sg s,.any,.any,I q]++List.replicate 25 .any)) (fun q=>[]::S) (fun q=>l.length-q) 0 ⟨Nat.zero_le _,f,n,by simpa using h,by omega⟩ ?_ ?_ ?_
 .simp
 .simp
 rintro q ⟨hq,f',m,hm,ld⟩
 by_cases hlt:q<l.length
 .have aa:(q:Int)<(s.size:Int):=by omega
  obtain⟨b,hb⟩:∃b,l[q]? =some b:=⟨l[q],List.getElem?_eq_getElem hlt⟩
  have Qj:l.drop q=b::l.drop (q+1):=by
   rw[List.drop_eq_getElem_cons hlt]
   congr 1
   exact Option.some.inj ((List.getElem?_eq_getElem hlt).symm.trans hb)
  rw[Qj]at hm
  cases f' with
  |zero=>simp[zFI]at hm
  |succ f'=>
  have tg:=zU4 b
  simp[aa,hl,hb];refine cq (zJK _ b _) ?_
  cases hspb:spB b with
  |true=>
   rw[hspb]at tg;simp only[zFI,hspb,if_true]at hm
   obtain⟨m',um,rfl⟩:=Option.map_eq_some_iff.1 hm
   have h0:=tg.2 rfl
   simp[h0]
   exact⟨q+1,⟨by omega,f',m',um,by omega⟩,by omega,zA hlt (by unfold maxLen;omega)⟩
  |false=>
   rw[hspb]at tg
   have h0:¬0<=Lib.indexByte [32,9,10,13] b:=fun e=>by have:=tg.1 e;cases this
   have Qh:preB (⟨#[47,47]⟩:BA) (s.extract q s.size)=false/\m=0:=by
    simp only[zFI,hspb,Bool.false_eq_true,if_false]at hm;rw[zNz,zCO,hl,<-ca,List.take_length,Qj];split at hm
    .cases hm
    rename_i xb
    cases hm;refine⟨?_,rfl⟩;rw[Bool.eq_false_iff];intro hp
    cases hr:l.drop (q+1)with
    |nil=>rw[hr]at hp;simp at hp
    |cons c r=>
     rw[hr]at hp;simp at hp;exact xb r (by rw[hp.1]) (by rw[hr,hp.2])
   obtain⟨Qh,rfl⟩:=Qh
   have Wo:q<=s.size:=by omega
   simp[h0,Wo];refine cq (zE6 _ _ _) ?_;simp[Qh];omega
 have aa:¬(q:Int)<(s.size:Int):=by omega
 have An:m=0:=by
  rw[List.drop_of_length_le (by omega)]at hm
  cases f' with
  |zero=>simp[zFI]at hm
  |succ f'=>simp[zFI]at hm;exact hm.symm
 simp[aa];omega
attribute [local simp] List.forall_mem_cons List.contains_cons List.contains_nil List.find?
theorem ADet.of_callsA{P:Program}{K:FuncId}{args:List AV}{S:ASt}{r:AV}{x:Value}(hx:∀Pr φ,RA Pr φ r x)(hK:∀xs w,(callFunc K xs).run P w= .ok (.enter K xs) w)(h:∀Pr φ xs w,RL Pr φ args xs->Rel Pr φ S w->Calls P K xs w fun e w'=>e= .returned x/\Below w.heap.size w w'):ADet P K args S r S:=
 ⟨hK,fun Pr φ xs w da hR hne=>(h Pr φ xs w da hR).mono fun e w' ⟨he,hb⟩=>by
  obtain⟨s,r⟩:=zH4 hR hb
  exact⟨x,Pr,φ,he,s,r,hx Pr φ⟩⟩
abbrev U64(n:Int):AV:=.p (.v (.int .u64 n))
theorem zXx(a b:Value)(ha:atom a=true)(hb:atom b=true)(Pr:Prot)(φ:Fi2):RA Pr φ (.tup [.p (.v a),.p (.v b)]) (.tuple #[a,b]):=.tup rfl fun j c x hc hx=>by
 match j,hc,hx with
 |0,hc,hx=>cases hc;cases hx;exact .p (.v ha)
 |1,hc,hx=>cases hc;cases hx;exact .p (.v hb)
theorem zaH(v:Nat)(hv:v*10<18446744073709551616)(S:ASt):ADet Tryz.prog 212 [U64 v,U64 10] S (.tup [U64 0,U64 (v*10:Nat)]) S:=
 ADet.of_callsA (x:=.tuple #[.int .u64 0,.int .u64 (v*10:Nat)]) (zXx _ _ rfl rfl) call212 fun Pr φ xs w da hR=>by
  obtain rfl:=zGT (l:=[.int .u64 v,.int .u64 10]) da
  refine(Tryz.bits_Mul64 v 10 (by omega) (by decide) w).mono ?_
  rintro e w' ⟨rfl,rfl⟩
  refine⟨?_,Below.refl _ _⟩;rw[Nat.div_eq_of_lt hv,Nat.mod_eq_of_lt hv];rfl
theorem zU5(v:Nat)(hv:v*10<18446744073709551616)(S:ASt):ADet Tryz.prog 199 [.agg [B false,U64 v],.agg [B false,U64 10]] S (.tup [.agg [B false,U64 (v*10:Nat)],B true]) S:=by
 refine ADet.intro mixed call199 func199 rfl ?_
 have hm:=fun S=>zaH v hv S
 generalize v*10=V at*
 simp[ntmps199];refine cq (hm _) ?_;simp
theorem zU6(v:Int)(Pr:Prot)(φ:Fi2):RA Pr φ (.tup [.agg [B false,U64 v],B true]) (.tuple #[.agg #[.bool false,.int .u64 v],.bool true]):=.tup rfl fun j c x hc hx=>by
 match j,hc,hx with
 |0,hc,hx=>
  cases hc;cases hx;refine .agg rfl fun j c x hc hx=>?_
  match j,hc,hx with
  |0,hc,hx=>cases hc;cases hx;exact .p (.v rfl)
  |1,hc,hx=>cases hc;cases hx;exact .p (.v rfl)
 |1,hc,hx=>cases hc;cases hx;exact .p (.v rfl)
theorem zU7(v d:Int)(hv:0<=v)(hd:0<=d)(h:v+d<18446744073709551616)(w:World):(callFunc 213 #[.int .u64 v,.int .u64 d,.int .u64 0]).run Tryz.prog w= .ok (.value (.tuple #[.int .u64 (v+d),.int .u64 0])) w:=by
 rw[run_callFunc_extern func213 (by kernel_rfl) (by kernel_rfl) (by kernel_rfl) (e:=add64Entry) (by kernel_rfl),run_add64 v d 0 hv hd (by omega) (by omega)]
 rw[show(v+d+0)%18446744073709551616=v+d by omega,show(v+d+0)/18446744073709551616=0 by omega]
 rfl
theorem zU8(v d:Int)(hv:0<=v)(hd:0<=d)(h:v+d<18446744073709551616)(w:World):Calls Tryz.prog 200 #[.agg #[.bool false,.int .u64 v],.agg #[.bool false,.int .u64 d]] w fun e w'=>e= .returned (.tuple #[.agg #[.bool false,.int .u64 (v+d)],.bool true])/\Below w.heap.size w w':=by
 have ta:=zU7 v d hv hd h
 generalize v+d=V at*
 go_enter func200,ntmps200
 go_wp2_with (simp only[ta])
 refine bodyPost_ret (v:=.tuple #[.agg #[.bool false,.int .u64 V],.bool true]) ?_ rfl ⟨rfl,(((Below.refl _ _).alloc (Nat.le_refl _) _).alloc (by simp) _).alloc (by simp;omega) _⟩
 rw[results_cell_tmp Tryz.results200];simp[asAddr,loadVar,go_sem]
theorem zbt(v d:Int)(hv:0<=v)(hd:0<=d)(h:v+d<18446744073709551616)(S:ASt):ADet Tryz.prog 200 [.agg [B false,U64 v],.agg [B false,U64 d]] S (.tup [.agg [B false,U64 (v+d)],B true]) S:=
 ADet.of_callsA (zU6 _) call200 fun Pr φ xs w da hR=>by
  have g:∀(n:Int) x,RA Pr φ (.agg [B false,U64 n]) x->x= .agg #[.bool false,.int .u64 n]:=fun n x h=>by
   exact zNO h rfl
  obtain⟨hl,hc⟩:=da
  have e:xs= #[.agg #[.bool false,.int .u64 v],.agg #[.bool false,.int .u64 d]]:=by
   obtain⟨l⟩:=xs
   match l,hl with
   | [x,y],_=>
    rw[g v x (hc 0 _ _ rfl rfl),g d y (hc 1 _ _ rfl rfl)]
  subst e;exact zU8 v d hv hd h w
theorem zXy(v:Nat)(hv:v<9223372036854775808)(S:ASt):ADet Tryz.prog 201 [.agg [B false,U64 v],B true] S (.tup [I v,I 0]) S:=by
 have h1:¬(9223372036854775808:Int)<(v:Int):=by omega
 have h2:¬(v:Int)=9223372036854775808:=by omega
 have h3:IntKind.i64.wrap (v:Int)=(v:Int):=IntWalk.i64_in _ (by omega)
 have h4:((v:Int)==9223372036854775808)=false:=by rw[beq_eq_false_iff_ne];exact h2
 refine ADet.intro mixed call201 func201 rfl ?_;simp[ntmps201,h1,h2,h3,h4]
theorem zU9(s:BA)(hs:s.size<=4000)(h0:0<s.size)(hd:∀b∈s.data.toList,zAx b.toNat=true)(S:ASt):ADet Tryz.prog 198 [Sg s,B false] S (B true) S:=by
 have ca:s.data.toList.length=s.size:=by simp
 have hne:sEq s ⟨#[]⟩=false:=zCX (by rintro rfl;exact absurd h0 (by decide))
 generalize hl:s.data.toList=l at*
 refine ADet.intro mixed call198 func198 rfl ?_;simp[ntmps198];refine zH (fun q:Nat=>q<=s.size) (fun q=>([Sg s,B false,.any,.any,.any,.any,.any,I s.size,I q]++List.replicate 24 .any)) (fun q=>[]::S) (fun q=>s.size-q) 0 (Nat.zero_le _) ?_ ?_ ?_
 .simp
 .simp
 intro q hq
 by_cases hlt:q<s.size
 .have aa:(q:Int)<(s.size:Int):=by omega
  obtain⟨b,hb⟩:∃b,l[q]? =some b:=⟨l[q]'(by omega),List.getElem?_eq_getElem (by omega)⟩
  have Og:=hd b (List.mem_of_getElem? hb)
  unfold zAx at Og;simp only[Bool.and_eq_true,decide_eq_true_eq]at Og
  have h1:¬(b.toNat:Int)<48:=by omega
  have h2:¬(57:Int)<(b.toNat:Int):=by omega
  simp[aa,hlt,hl,hb,h1,h2];exact⟨q+1,by omega,by omega,zA hlt (by unfold maxLen;omega)⟩
 have aa:¬(q:Int)<(s.size:Int):=by omega
 simp[aa,hlt,hne]
theorem zGu(l:List UInt8)(b:UInt8):zCA (l++[b])=zCA l*10+(b.toNat-48):=by
 unfold zCA;rw[List.foldl_append];rfl
theorem zPN(l r:List UInt8):zCA l<=zCA (l++r):=by
 induction r generalizing l with
 |nil=>simp
 |cons b r ih=>
  have:=ih (l++[b])
  rw[List.append_assoc,zGu]at this
  show zCA l<=zCA (l++([b]++r))
  omega
theorem zWG(s:BA)(hs:s.size<=4000)(h0:0<s.size)(hd:∀b∈s.data.toList,zAx b.toNat=true)(hv:zCA s.data.toList<9223372036854775808)(S:ASt):ADet Tryz.prog 169 [Sg s] S (.tup [I (zCA s.data.toList),I 0]) S:=by
 have ca:s.data.toList.length=s.size:=by simp
 have nC:=fun S=>zU9 s hs h0 hd S
 have ga:(0:Int)<(s.size:Int):=by omega
 generalize hl:s.data.toList=l at*
 obtain⟨c,r,er⟩:∃c r,l=c::r:=by
  cases l with
  |nil=>simp at ca;omega
  |cons c r=>exact⟨c,r,rfl⟩
 have hc:=hd c (by rw[er];simp)
 have Ge:l[0]? =some c:=by rw[er];rfl
 have De:((c.toNat:Int)==45)=false:=by
  unfold zAx at hc;simp only[Bool.and_eq_true,decide_eq_true_eq]at hc;rw[beq_eq_false_iff_ne];omega
 have jg:¬(c.toNat:Int)=45:=by
  simpa using De
 have Ol:¬c=45:=by
  rintro rfl;exact jg rfl
 refine ADet.intro mixed call169 func169 rfl ?_;simp[ntmps169,h0,ga,hl,Ge,De,jg,Ol];refine cq (nC _) ?_;simp;refine zH (fun q:Nat=>q<=s.size) (fun q=>([Sg s,.any,.any,.any,B false,.ptr 0 0 0,B true,I q]++List.replicate 50 .any)) (fun q=>[.cells [B false,U64 (zCA (l.take q))] 243]::S) (fun q=>s.size-q) 0 (Nat.zero_le _) ?_ ?_ ?_
 .simp
 .simp
  try rfl
 intro q hq
 by_cases hlt:q<s.size
 .have aa:(q:Int)<(s.size:Int):=by omega
  obtain⟨b,hb⟩:∃b,l[q]? =some b:=⟨l[q]'(by omega),List.getElem?_eq_getElem (by omega)⟩
  have Og:=hd b (List.mem_of_getElem? hb)
  unfold zAx at Og;simp only[Bool.and_eq_true,decide_eq_true_eq]at Og
  have He:l.take (q+1)=l.take q++[b]:=by
   rw[List.take_add_one,hb];rfl
  have oa:=zPN (l.take (q+1)) (l.drop (q+1))
  rw[List.take_append_drop]at oa
  have Xo:=zGu (l.take q) b
  rw[<-He]at Xo
  obtain⟨V,hV⟩:∃V,V=zCA (l.take q):=⟨_,rfl⟩
  rw[<-hV]at Xo
  have tC:=fun S=>zU5 V (by omega) S
  obtain⟨W,hW⟩:∃W,W=V*10:=⟨_,rfl⟩
  rw[<-hW]at Xo tC
  have pC:=fun S=>zbt (W:Int) ((b.toNat:Int)-48) (by omega) (by omega) (by omega) S
  have w1:IntKind.u8.wrap ((b.toNat:Int)-48)=(b.toNat:Int)-48:=IntWalk.u8_in _ (by omega)
  have w2:IntKind.u64.wrap ((b.toNat:Int)-48)=(b.toNat:Int)-48:=IntWalk.u64_in _ (by omega)
  have Nb:(W:Int)+((b.toNat:Int)-48)=(zCA (l.take (q+1)):Int):=by omega
  rw[Nb]at pC;simp[aa,hlt,<-hV];refine cq (tC _) ?_;simp;refine dB [] (by kernel_rfl) ?_
  simp[hl,hb,hlt,aa,w1,w2];refine cq (pC _) ?_;simp;exact⟨q+1,by omega,by omega,zA hlt (by unfold maxLen;omega),rfl⟩
 have aa:¬(q:Int)<(s.size:Int):=by omega
 have Rj:l.take q=l:=List.take_of_length_le (by omega)
 have At:=fun S=>zXy (zCA l) hv S
 simp[aa,hlt,Rj];refine cq (At _) ?_;simp
end Go.Proofs.YtdflkegnmmkkoaaGreatDoor
namespace Go.Proofs.YtdflkegnmmkkoaaGreatDoor
open Go.RowKit _root_.Go.Proofs.Tryz
attribute [local simp] List.replicate List.range List.range.loop
abbrev sg0:BA:=⟨#[61,61]⟩
abbrev sg1:BA:=⟨#[61,62]⟩
abbrev sg2:BA:=⟨#[45,62]⟩
theorem zaI(s:BA)(hs:s.size<=4000)(b:UInt8)(r:List UInt8)(hl:s.data.toList=b::r)(S:ASt):ADet Tryz.prog 170 [Sg s] S (I (zIs s.data.toList)) S:=by
 have hN:zIs s.data.toList=if(preB sg0 s||(preB sg1 s||preB sg2 s))=true then 2 else if zMp.contains b=true then 1 else 0:=by
  simp only[zNz];unfold zIs;simp only[hl]
 rw[hN]
 generalize Bt:preB sg0 s=p0 at*
 generalize Hk:preB sg1 s=p1 at*
 generalize Ct:preB sg2 s=p2 at*
 have g0:=fun S=>zE6 s sg0 S
 have g1:=fun S=>zE6 s sg1 S
 have g2:=fun S=>zE6 s sg2 S
 rw[Bt]at g0;rw[Hk]at g1;rw[Ct]at g2;refine ADet.intro mixed call170 func170 rfl ?_;simp[ntmps170];refine zH (fun q:Nat=>q<=3/\(0<q->p0=false)/\(1<q->p1=false)/\(2<q->p2=false)) (fun q=>[Sg s,.any,I 0,.any,.any,.osl 1 [[pS sg0],[pS sg1],[pS sg2]] 0 0,I 3,I q,.any,.any,.any,.any,.any,.any,.any,.any,.any,.any,.any]) (fun q=>[.tok 9 1 3]::S) (fun q=>3-q) 0 ⟨by omega,by omega,by omega,by omega⟩ ?_ ?_ ?_
 .simp
 .simp
 rintro q ⟨hq,h0,h1,h2⟩
 rcases(by omega:q=0\/q=1\/q=2\/q=3)with rfl|rfl|rfl|rfl
 .simp
  refine cq (g0 _) ?_
  cases p0 with
  |true=>simp
  |false=>
   simp;exact⟨1,by simp,by omega,by first|rfl|decide|simp⟩
 .have e0:=h0 (by omega)
  subst e0;simp;refine cq (g1 _) ?_
  cases p1 with
  |true=>simp
  |false=>
   simp;exact⟨2,by simp,by omega,by first|rfl|decide|simp⟩
 .have e0:=h0 (by omega)
  have e1:=h1 (by omega)
  subst e0 e1;simp;refine cq (g2 _) ?_
  cases p2 with
  |true=>simp
  |false=>
   simp;exact⟨3,by simp,by omega,by first|rfl|decide|simp⟩
 have e0:=h0 (by omega)
 have e1:=h1 (by omega)
 have e2:=h2 (by omega)
 subst e0 e1 e2;simp[hl];refine cq (zJK _ b _) ?_
 cases hc:zMp.contains b with
 |true=>
  have h3:0<=Lib.indexByte [40,41,123,125,60,62,44,59,58,61,38,42,46,43,45,47,37] b:=zJM zMp b hc
  have hm:b∈zMp:=by simpa using hc
  simp[h3,hm]
 |false=>
  have h3:¬0<=Lib.indexByte [40,41,123,125,60,62,44,59,58,61,38,42,46,43,45,47,37] b:=by
   have:Lib.indexByte [40,41,123,125,60,62,44,59,58,61,38,42,46,43,45,47,37] b= -1:=zJL zMp b hc
   omega
  have hm:¬b∈zMp:=by simpa using hc
  simp[h3,hm]
theorem zaJ(b:Int)(S:ASt):ADet Tryz.prog 109 [U b] S (B (zEJ b)) S:=
 ADet.of_calls rfl call109 fun Pr φ xs w da hR=>by
  obtain rfl:=zGT (l:=[.int .u8 b]) da
  refine(zHy b w).mono ?_
  rintro e w' ⟨rfl,rfl⟩
  exact⟨rfl,Below.refl _ _⟩
theorem zaK(b:Int)(S:ASt):ADet Tryz.prog 126 [U b] S (B (zEK b)) S:=
 ADet.of_calls rfl call126 fun Pr φ xs w da hR=>by
  obtain rfl:=zGT (l:=[.int .u8 b]) da
  refine(zHz b w).mono ?_
  rintro e w' ⟨rfl,rfl⟩
  exact⟨rfl,Below.refl _ _⟩
theorem zaL(b:Int)(S:ASt):ADet Tryz.prog 162 [U b] S (B (zAx b)) S:=
 ADet.of_calls rfl call162 fun Pr φ xs w da hR=>by
  obtain rfl:=zGT (l:=[.int .u8 b]) da
  refine(zH0 b w).mono ?_
  rintro e w' ⟨rfl,rfl⟩
  exact⟨rfl,Below.refl _ _⟩
theorem runC(p:Int->Bool)(K:FuncId)(s:BA)(hs:s.size<=maxLen)(hK:∀args w,(callFunc K args).run Tryz.prog w= .ok (.enter K args) w)
  (hp:∀(b:Int) (w:World),Calls Tryz.prog K #[.int .u8 b] w fun e w'=>e= .returned (.bool (p b))/\w=w') (S:ASt):ADet Tryz.prog 127 [Sg s,.fn (.func K) [] []] S (I (zAW p s.data.toList)) S:=
 ADet.of_calls rfl call127 fun Pr φ xs w da hR=>by
  obtain⟨hl,hc⟩:=da
  have e:xs= #[.string s,.func (.func K) #[] #[]]:=by
   obtain⟨l⟩:=xs
   match l,hl with
   | [x,y],_=>
    have e1:=zT (hc 0 _ _ rfl rfl) rfl
    have h2:=hc 1 _ _ rfl rfl
    generalize hy:(#[x,y]:Array Value)[1]=z at h2
    subst e1
    cases h2 with
    | @fn _ _ _ a b h1 h2 _ _=>
     have ea:a= #[]:=Array.eq_empty_of_size_eq_zero h1.symm
     have eb:b= #[]:=Array.eq_empty_of_size_eq_zero h2.symm
     subst ea eb
     have eo:y= .func (.func K) #[] #[]:=hy
     rw[eo]
  subst e;refine(zRi p K #[] s hs hK (fun b w=>hp b w) w).mono ?_
  rintro e w' ⟨rfl,rfl⟩
  exact⟨rfl,Below.refl _ _⟩
theorem zVA(s:BA)(hs:s.size<=4000)(S:ASt):ADet Tryz.prog 127 [Sg s,.fn (.func 128) [] []] S (I (zAW zDB s.data.toList)) S:=runC zDB 128 s (by unfold maxLen;omega) call128 (fun b w=>zNk b w) S
theorem zSD(s:BA)(hs:s.size<=4000)(S:ASt):ADet Tryz.prog 127 [Sg s,.fn (.func 162) [] []] S (I (zAW zAx s.data.toList)) S:=runC zAx 162 s (by unfold maxLen;omega) call162 (fun b w=>zH0 b w) S
theorem zWH(s:BA)(hs:s.size<=maxLen)(S:ASt):ADet Tryz.prog 129 [Sg s] S (B (zJ3 s)) S:=
 ADet.of_calls rfl call129 fun Pr φ xs w da hR=>by
  obtain rfl:=zR1 da
  exact zNm s hs w (zRs hR zMa zKB)
theorem zN1(s:BA)(n:Nat):s.extract 0 n=⟨(s.data.toList.take n).toArray⟩:=zLO (by rw[zCO,List.drop_zero])
theorem zN2:∀(l:List UInt8),zIs l<=l.length:=fun l=>by
 unfold zIs;split
 .rename_i h
  simp only[Bool.or_eq_true]at h
  have key:∀a b:UInt8,List.isPrefixOf [a,b] l=true->2<=l.length:=fun a b h=>by
   rw[List.isPrefixOf_iff_prefix]at h
   simpa using h.length_le
  rcases h with h|h|h<;>exact key _ _ h
 cases l with
 |nil=>simp
 |cons b l=>simp;split<;>omega
theorem zSE(p:Int->Bool):∀l:List UInt8,∀b∈l.take (zAW p l),p b.toNat=true
 | [],b,h=>by simp at h
 |c::l,b,h=>by
  simp only[zAW]at h;split at h
  .rename_i hc
   rw[List.take_succ_cons]at h
   rcases List.mem_cons.1 h with rfl|h
   .exact hc
   exact zSE p l b h
  simp at h
theorem oneC(s:BA)(hs:s.size<=4000)(k:Int)(n:Nat)(h:oneF s.data.toList=some (k,n))(S:ASt):ADet Tryz.prog 133 [Sg s] S (.agg [U k,Sg (s.extract 0 n),I 0]) S:=by
 have ca:s.data.toList.length=s.size:=by simp
 have Wl:=zVA s hs
 have Oa:=zSD s hs
 have Na:=zDi zDB s.data.toList
 have xe:=zN2 s.data.toList
 have Yo:∀(b:UInt8) (r:List UInt8),s.data.toList=b::r->∀S,ADet Tryz.prog 170 [Sg s] S (I (zIs s.data.toList)) S:=fun b r hl S=>zaI s hs b r hl S
 unfold oneF at h;split at h
 .cases h
 rename_i b r hl
 have Yo:=Yo b r hl
 have lC:=zaJ b.toNat
 have uC:=zaK b.toNat
 have dC:=zaL b.toNat
 have sg:∀m,(s.extract 0 m).size<=maxLen:=fun m=>by
  rw[ByteArray.size_extract];unfold maxLen;omega
 refine ADet.intro mixed call133 func133 rfl ?_;simp[ntmps133,hl];refine cq (lC _) ?_
 have kj:zAW zDB s.data.toList<=s.size:=by omega
 have Kf:zIs s.data.toList<=s.size:=by omega
 dsimp only at h
 rw[<-zN1]at h
 cases Cc:zEJ b.toNat with
 |true=>
  rw[Cc,Bool.true_or,if_pos rfl]at h;simp;refine cq (Wl _) ?_;simp[kj];refine cq (zWH _ (sg _) _) ?_
  cases hw:zJ3 (s.extract 0 (zAW zDB s.data.toList))with
  |true=>
   rw[hw,if_pos rfl]at h;cases h
   simp
  |false=>
  rw[hw,if_neg (by simp)]at h
  simp;refine cq (zCE _ (sg _) _) ?_
  cases hn:zBO (s.extract 0 (zAW zDB s.data.toList))with
  |true=>
   rw[hn,if_pos rfl]at h;cases h
   simp
  |false=>
  rw[hn,if_neg (by simp)]at h
  simp;refine cq (zDj _ (sg _) _) ?_
  cases ht:zCW (s.extract 0 (zAW zDB s.data.toList))with
  |true=>
   rw[ht,if_pos rfl]at h;cases h
   simp
  |false=>
   rw[ht,if_neg (by simp)]at h
   cases h
 |false=>
 simp;refine cq (uC _) ?_
 cases gd:zEK b.toNat with
 |true=>
  rw[Cc,gd,Bool.or_true,if_pos rfl]at h;simp;refine cq (Wl _) ?_;simp[kj];refine cq (zWH _ (sg _) _) ?_
  cases hw:zJ3 (s.extract 0 (zAW zDB s.data.toList))with
  |true=>
   rw[hw,if_pos rfl]at h;cases h
   simp
  |false=>
  rw[hw,if_neg (by simp)]at h
  simp;refine cq (zCE _ (sg _) _) ?_
  cases hn:zBO (s.extract 0 (zAW zDB s.data.toList))with
  |true=>
   rw[hn,if_pos rfl]at h;cases h
   simp
  |false=>
  rw[hn,if_neg (by simp)]at h
  simp;refine cq (zDj _ (sg _) _) ?_
  cases ht:zCW (s.extract 0 (zAW zDB s.data.toList))with
  |true=>
   rw[ht,if_pos rfl]at h;cases h
   simp
  |false=>
   rw[ht,if_neg (by simp)]at h
   cases h
 |false=>
 rw[Cc,gd,Bool.or_false,if_neg (by simp)]at h
 simp;refine cq (dC _) ?_
 cases Sl:zAx b.toNat with
 |true=>
  rw[Sl,if_pos rfl]at h;split at h
  .rename_i hd
   cases h
   have Dd:zAW zAx s.data.toList<=s.size:=by
    have:=zDi zAx s.data.toList
    omega
   have fe:0<zAW zAx s.data.toList:=by
    rw[hl];simp[zAW,Sl]
   have Bn:(s.extract 0 (zAW zAx s.data.toList)).data.toList=s.data.toList.take (zAW zAx s.data.toList):=by
    rw[zCO,List.drop_zero]
   have cb:(s.extract 0 (zAW zAx s.data.toList)).size=zAW zAx s.data.toList:=by
    rw[ByteArray.size_extract];omega
   have ia:∀b∈s.data.toList.take (zAW zAx s.data.toList),zAx b.toNat=true:=zSE zAx s.data.toList
   have pC:=fun S=>zWG (s.extract 0 (zAW zAx s.data.toList)) (by omega) (by omega) (by rw[Bn];exact ia) (by rw[Bn];exact hd) S
   simp;refine cq (Oa _) ?_;simp[Dd];refine cq (pC _) ?_;simp
  cases h
 |false=>
  rw[Sl,if_neg (by simp)]at h
  split at h
  .cases h
  rename_i h0
  cases h
  have fe:(0:Int)<(zIs s.data.toList:Int):=by omega
  have vm:0<zIs s.data.toList:=by omega
  simp;refine cq (Yo _) ?_;simp[fe,vm,Kf]
theorem zVB{l:List UInt8}{k:Int}{n:Nat}(h:oneF l=some (k,n)):1<=k/\k<=5/\n<=l.length:=by
 have hp:=zDi zDB l
 have hd:=zDi zAx l
 have hs:=zN2 l
 unfold oneF at h;split at h
 .cases h
 rename_i b r
 dsimp only at h
 split at h
 .split at h
  .cases h;exact⟨by omega,by omega,hp⟩
  split at h
  .cases h;exact⟨by omega,by omega,hp⟩
  split at h
  .cases h;exact⟨by omega,by omega,hp⟩
  cases h
 split at h
 .split at h
  .cases h;exact⟨by omega,by omega,hd⟩
  cases h
 split at h
 .cases h
 cases h;exact⟨by omega,by omega,hs⟩
theorem zaM{l:List UInt8}{k:Int}{n:Nat}(h:oneF l=some (k,n)):1<=n:=by
 unfold oneF at h;split at h
 .cases h
 rename_i b r
 dsimp only at h
 cases hlt:zEJ b.toNat||zEK b.toNat with
 |true=>
  have hp:1<=zAW zDB (b::r):=by
   have:zDB b.toNat=true:=by
    unfold zDB;rw[hlt];simp
   simp[zAW,this]
  rw[hlt,if_pos rfl]at h;split at h
  .cases h;exact hp
  split at h
  .cases h;exact hp
  split at h
  .cases h;exact hp
  cases h
 |false=>
 rw[hlt,if_neg (by simp)]at h
 cases hd:zAx b.toNat with
 |true=>
  have hp:1<=zAW zAx (b::r):=by simp[zAW,hd]
  rw[hd,if_pos rfl]at h;split at h
  .cases h;exact hp
  cases h
 |false=>
  rw[hd,if_neg (by simp)]at h
  split at h
  .cases h
  cases h;omega
theorem zKH(s:BA)(a:Nat):(s.extract a s.size).data.toList=s.data.toList.drop a:=by
 rw[zCO]
 have:s.data.toList.length=s.size:=by simp
 rw[<-this,List.take_length]
theorem zKI:∀(f:Nat) (l:List UInt8) (m:Nat),zFI f l=some m->m<=l.length
 |0,l,m,h=>by simp[zFI]at h
 |f+1,[],m,h=>by simp[zFI]at h;omega
 |f+1,b::r,m,h=>by
  simp only[zFI]at h;split at h
  .obtain⟨m',h',rfl⟩:=Option.map_eq_some_iff.1 h
   have:=zKI f r m' h'
   simp;omega
  split at h
  .cases h
  cases h;omega
theorem allG(s:BA)(hs:s.size<=4000)(f0 f m:Nat)(ts:List Tok)(hb:zFI f0 s.data.toList=some m)(hl:lexF f m (s.data.toList.drop m)=some ts)(S:ASt):
  ADet Tryz.prog 111 [Sg s] S (if ts.length<=1500 then .tup [.p (.sl 3 (ts.map Tok.enc)),I 0,I 0]else .tup [nilS,I 0,I 4]) S:=by
 have ca:s.data.toList.length=s.size:=by simp
 have Hv:=zKI _ _ _ hb
 have h4:¬(4000:Int)<(s.size:Int):=by omega
 have bC:=fun S=>zN0 s hs m f0 hb S
 refine ADet.intro mixed call111 func111 rfl ?_;simp[ntmps111,h4];refine cq (bC _) ?_;simp;refine zAw 167 3 (by decide) [] (fun a:Nat × List Tok × List Tok=>(∃f',lexF f' a.1 (s.data.toList.drop a.1)=some a.2.2)/\a.2.1++a.2.2=ts/\a.1<=s.size/\a.2.1.length<=a.1) (fun a=>([Sg s,.any,nilS,I 0,I 0,.osl 3 (a.2.1.map Tok.enc) 0 0,I a.1]++List.replicate 39 .any)) (fun a=>[.tok 167 3 a.2.1.length]::S) (fun a=>a.2.2.length) (m,[],ts) ⟨⟨f,hl⟩,rfl,by omega,by simp⟩ ?_ ?_ ?_ ?_
 .simp
 .simp
 .rfl
 rintro⟨q,done,rest⟩ ⟨⟨f',hf⟩,lj,hq,pf⟩
 simp only at hf lj hq pf
 cases f' with
 |zero=>simp[lexF]at hf
 |succ f'=>
 by_cases hlt:q<s.size
 .have aa:(q:Int)<(s.size:Int):=by omega
  cases hd:s.data.toList.drop q with
  |nil=>
   have:=congrArg List.length hd
   simp at this
   omega
  |cons b r=>
  rw[hd]at hf;simp only[lexF]at hf;split at hf
  .cases hf
  rename_i k n h1
  split at hf
  .cases hf
  rename_i m2 h2
  obtain⟨wm,h3,Fa⟩:=Option.map_eq_some_iff.1 hf
  subst Fa
  obtain⟨k1,k5,hn⟩:=zVB h1
  have kd:=zaM h1
  have db:(b::r).length=s.size-q:=by rw[<-hd];simp
  rw[<-hd]at h1 h2 h3 hn;rw[List.drop_drop]at h2 h3
  have Pb:=zKI _ _ _ h2
  have cb:(s.extract q s.size).size<=4000:=by rw[ByteArray.size_extract];omega
  have oC:=fun S=>oneC (s.extract q s.size) cb k n (by rw[zKH];exact h1) S
  have jd:¬k=0:=by omega
  have Wo:q<=s.size:=by omega
  have Bn:(s.extract q s.size).extract 0 n=⟨((b::r).take n).toArray⟩:=by rw[zN1,zKH,hd]
  have Dt:((s.extract q s.size).extract 0 n).size=n:=by
   rw[ByteArray.size_extract,ByteArray.size_extract];rw[List.length_drop]at hn;omega
  have ir:q+n<=s.size:=by rw[List.length_drop]at hn;omega
  have Kk:q+n+m2<=s.size:=by rw[List.length_drop]at Pb;omega
  have Zo:(s.extract (q+n) s.size).size<=4000:=by rw[ByteArray.size_extract];omega
  have jr:=fun S=>zN0 (s.extract (q+n) s.size) Zo m2 f' (by rw[zKH];exact h2) S
  obtain⟨Q,hQ⟩:∃Q,Q=q+n:=⟨_,rfl⟩
  obtain⟨R,hR⟩:∃R,R=Q+m2:=⟨_,rfl⟩
  rw[<-hQ]at ir jr
  have Je:IntKind.i64.wrap ((q:Int)+(n:Int))=(Q:Int):=by
   rw[IntWalk.i64_in _ (by omega)];omega
  have ve:IntKind.i64.wrap ((Q:Int)+(m2:Int))=(R:Int):=by
   rw[IntWalk.i64_in _ (by omega)];omega
  have ef:done.length+1<=4294967296:=by omega
  simp[aa,Wo];refine cq (oC _) ?_;simp[jd,ef,Dt,Je,ir];refine cq (jr _) ?_;simp[ve];refine⟨R,done++[⟨k,⟨((b::r).take n).toArray⟩,q⟩],wm,⟨⟨f',?_⟩,?_,by omega,by simp only[List.length_append,List.length_cons,List.length_nil];omega⟩,?_,⟨?_,rfl⟩,?_⟩
  .rw[hR,hQ,show q+n+m2=q+(n+m2) by omega]
   rw[show q+n+m2=q+(n+m2) by omega]at h3
   exact h3
  .rw[<-lj];simp
  .simp
  .simp[Tok.enc,Bn]
  simp
 have aa:¬(q:Int)<(s.size:Int):=by omega
 have hd:s.data.toList.drop q=[]:=List.drop_of_length_le (by omega)
 rw[hd]at hf;simp only[lexF,Option.some.injEq]at hf;subst hf;rw[List.append_nil]at lj;subst lj
 by_cases pa:done.length<=1500
 .have ek:¬(1500:Int)<(done.length:Int):=by omega
  simp[aa,ek,pa]
 have ek:(1500:Int)<(done.length:Int):=by omega
 simp[aa,ek,pa]
theorem allC(s:BA)(hs:s.size<=4000)(f0 f m:Nat)(ts:List Tok)(hb:zFI f0 s.data.toList=some m)(hl:lexF f m (s.data.toList.drop m)=some ts)(pa:ts.length<=1500)(S:ASt):
  ADet Tryz.prog 111 [Sg s] S (.tup [.p (.sl 3 (ts.map Tok.enc)),I 0,I 0]) S:=by
 have:=allG s hs f0 f m ts hb hl S
 rwa [if_pos pa]at this
end Go.Proofs.YtdflkegnmmkkoaaGreatDoor
