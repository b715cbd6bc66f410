/- A part of the proof. The statement is proved in the claim's last text. -/
import Derived.Test.YtlclonljdagpkaaGreatDoorQNPp
import Derived.Test.YtlclonljdagpkaaGreatDoorQNPr
set_option linter.unusedVariables false
set_option linter.unusedSimpArgs false
set_option maxRecDepth 100000
set_option maxHeartbeats 32000000
namespace Go.Proofs.YtlclonljdagpkaaGreatDoor
def zDU : Pl:=⟨emS,[]⟩
abbrev ex0 (op int : Int) (nm : ByteArray) (l : List Ex) (pos : Int) : Ex:=.mk op int nm emS zDU l pos
def numT (t : ByteArray) : Option Int:=if 0 < t.size /\ t.size <= 4000 /\ (t.data.toList.all fun b=>zAW b.toNat) = true /\ zBF t.data.toList < 9223372036854775808 then some (zBF t.data.toList : Int) else none
def zKK : List (ByteArray × Int):=[((⟨#[98,111,120]⟩ : ByteArray),21),((⟨#[117,110,98,111,120]⟩ : ByteArray),22),((⟨#[99,101,108,108]⟩ : ByteArray),23),((⟨#[114,99]⟩ : ByteArray),26),((⟨#[97,114,99]⟩ : ByteArray),27),((⟨#[109,117,116,101,120]⟩ : ByteArray),29),((⟨#[111,112,101,110]⟩ : ByteArray),30),((⟨#[97,116,111,109,105,99]⟩ : ByteArray),31),
 ((⟨#[103,101,116]⟩ : ByteArray),24),((⟨#[99,108,111,110,101]⟩ : ByteArray),28),((⟨#[108,111,97,100]⟩ : ByteArray),32),((⟨#[114,101,99,118]⟩ : ByteArray),36),((⟨#[115,101,116]⟩ : ByteArray),25),((⟨#[115,116,111,114,101]⟩ : ByteArray),33),((⟨#[102,101,116,99,104]⟩ : ByteArray),34),((⟨#[115,101,110,100]⟩ : ByteArray),35)]
def zKL (l : List Tok) (n : Nat) (rd : RS -> Option (Ex × RS)) (s : RS) : Option (Ex × RS) :=
 if isP l s (⟨#[38]⟩ : ByteArray) 0 = true then (zE8 l n (mayP l (mayP l s (⟨#[38]⟩ : ByteArray)) (⟨#[109,117,116]⟩ : ByteArray))).map fun r=>(.mk (if isP l (mayP l s (⟨#[38]⟩ : ByteArray)) (⟨#[109,117,116]⟩ : ByteArray) 0 = true then 6 else 5) 0 emS emS r.1 [] (zAh l s),r.2)
 else rd s
def zKM (l : List Tok) (rd : RS -> Option (Ex × RS)) (s : RS) : Option ((ByteArray × Ex) × RS):=(rd (zV l (zg l s 2) [(⟨#[61]⟩ : ByteArray)])).map fun r=>((zU l s 2,r.1),r.2)
def zLX (l : List Tok) (n : Nat) (rd : RS -> Option (Ex × RS)) (op : Int) (pos : Int) (s : RS) : Option (Ex × RS) :=
 if op = 24 \/ op = 28 \/ op = 32 \/ op = 36 then (zE8 l n (zV l s [(⟨#[40]⟩ : ByteArray)])).map fun r=>(.mk op 0 emS emS r.1 [] pos,zV l r.2 [(⟨#[41]⟩ : ByteArray)])
 else if op = 25 \/ op = 33 \/ op = 34 \/ op = 35 then
  match zE8 l n (zV l s [(⟨#[40]⟩ : ByteArray)]) with
  | none=>none
  | some (p,s2)=>(rd (zV l s2 [(⟨#[44]⟩ : ByteArray)])).map fun r=>(.mk op 0 emS emS p [r.1] pos,zV l r.2 [(⟨#[41]⟩ : ByteArray)])
 else (rd (zV l s [(⟨#[40]⟩ : ByteArray)])).map fun r=>(ex0 op 0 emS [r.1] pos,zV l r.2 [(⟨#[41]⟩ : ByteArray)])
def zQd (l : List Tok) (n : Nat) (rd : RS -> Option (Ex × RS)) (pos : Int) (s : RS) : Option (Ex × RS) :=
 if isP l (zg l s 3) (⟨#[123]⟩ : ByteArray) 0 = true then (zCq l (zKM l rd) (⟨#[125]⟩ : ByteArray) n (mayP l (zg l s 3) (⟨#[123]⟩ : ByteArray))).map fun r=>(.mk 19 0 (zU l s 3) emS ⟨emS,r.1.map (·.1)⟩ (r.1.map (·.2)) pos,r.2)
 else
  (fun (s2 : RS) =>
   if isP l (zg l s2 3) (⟨#[40]⟩ : ByteArray) 0 = true then (rd (mayP l (zg l s2 3) (⟨#[40]⟩ : ByteArray))).map fun r=>(.mk 20 0 (zU l s 3) (zU l s2 3) zDU [r.1] pos,zV l r.2 [(⟨#[41]⟩ : ByteArray)])
   else some (.mk 20 0 (zU l s 3) (zU l s2 3) zDU [] pos,zg l s2 3)) (zV l (zg l s 3) [(⟨#[46]⟩ : ByteArray)])
def zLY (l : List Tok) (n : Nat) (rd : RS -> Option (Ex × RS)) (s : RS) : Option (Ex × RS) :=
 if s.bad = true then some (zEk,s)
 else match l[s.at_]? with
  | none=>some (zEk,⟨s.at_,true,s.full⟩)
  | some x =>
   if x.kind = 4 then (numT x.text).map fun v=>(ex0 1 v emS [] x.pos,⟨s.at_ + 1,s.bad,s.full⟩)
   else if x.kind = 3 then zQd l n rd x.pos s
   else if x.kind = 2 then
    if isP l s (⟨#[40]⟩ : ByteArray) 1 = true then (zCq l (zKL l n rd) (⟨#[41]⟩ : ByteArray) n (zV l (zg l s 2) [(⟨#[40]⟩ : ByteArray)])).map fun r=>(ex0 18 0 (zU l s 2) r.1 x.pos,r.2)
    else (zE8 l n s).map fun r=>(.mk 4 0 emS emS r.1 [] x.pos,r.2)
   else match zAn x.text zKK with
    | some op=>zLX l n rd op x.pos ⟨s.at_ + 1,s.bad,s.full⟩
    | none =>
     if isP l s (⟨#[116,114,117,101]⟩ : ByteArray) 0 = true then some (ex0 2 1 emS [] x.pos,mayP l s (⟨#[116,114,117,101]⟩ : ByteArray))
     else if isP l s (⟨#[102,97,108,115,101]⟩ : ByteArray) 0 = true then some (ex0 2 0 emS [] x.pos,mayP l s (⟨#[102,97,108,115,101]⟩ : ByteArray))
     else if isP l (zV l s [(⟨#[40]⟩ : ByteArray)]) (⟨#[41]⟩ : ByteArray) 0 = true then some (ex0 3 0 emS [] x.pos,mayP l (zV l s [(⟨#[40]⟩ : ByteArray)]) (⟨#[41]⟩ : ByteArray))
     else (rd (zV l s [(⟨#[40]⟩ : ByteArray)])).map fun r=>(r.1,zV l r.2 [(⟨#[41]⟩ : ByteArray)])
def zCY (l : List Tok) (rd : RS -> Option (Ex × RS)) (k : Nat) : Nat -> Ex -> RS -> Option (Ex × RS)
 | 0,_,_=>none
 | n + 1,e,s =>
  if s.bad = true then some (e,s)
  else match l[s.at_]? with
   | none=>some (e,s)
   | some x=>match zAn x.text (zAK k) with
    | none=>some (e,s)
    | some op=>match rd ⟨s.at_ + 1,s.bad,s.full⟩ with
     | none=>none
     | some (r,s1)=>if k = 3 then some (ex0 op 0 emS [e,r] x.pos,s1) else zCY l rd k n (ex0 op 0 emS [e,r] x.pos) s1
def zAN (l : List Tok) : Nat -> Nat -> RS -> Option (Ex × RS)
 | 0,_,_=>none
 | n + 1,0,s =>
  if s.bad = true then some (zEk,s)
  else if isP l s (⟨#[45]⟩ : ByteArray) 0 = true then (zAN l n 0 (mayP l s (⟨#[45]⟩ : ByteArray))).map fun r=>(ex0 7 0 emS [r.1] (zAh l s),r.2)
  else zLY l n (zAN l n 6) s
 | n + 1,j + 1,s =>
  if s.bad = true then some (zEk,s)
  else if j = 3 /\ isP l s (⟨#[110,111,116]⟩ : ByteArray) 0 = true then (zAN l n 4 (mayP l s (⟨#[110,111,116]⟩ : ByteArray))).map fun r=>(ex0 8 0 emS [r.1] (zAh l s),r.2)
  else
   match zAN l n j s with
   | none=>none
   | some (e,s1)=>zCY l (zAN l n j) (5 - j) n e s1
abbrev st0 (op : Int) (nm second : ByteArray) (es : List Ex) (body els : List St) : St:=.mk op nm second [] zEN 0 zDU es body els [] 0
def St.at (s : St) (pos : Int) : St:=.mk s.op s.name s.second s.names s.type s.int s.place s.exprs s.body s.els s.arms pos
abbrev Blk:=RS -> Option (List St × RS)
def zQe (l : List Tok) (s : RS) : Option (ByteArray × RS):=some (zU l s 2,zg l s 2)
def letQ (l : List Tok) (n : Nat) (ex : RS -> Option (Ex × RS)) (s : RS) : Option (St × RS) :=
 if zEj l s 3 = true then
  match zCq l (zQe l) (⟨#[125]⟩ : ByteArray) n (zV l (zg l s 3) [(⟨#[123]⟩ : ByteArray)]) with
  | none=>none
  | some (ns,s2)=>(ex (zV l s2 [(⟨#[61]⟩ : ByteArray)])).map fun r=>(.mk 2 (zU l s 3) emS ns zEN 0 zDU [r.1] [] [] [] 0,zV l r.2 [(⟨#[59]⟩ : ByteArray)])
 else (zKL l n ex (zV l (zg l s 2) [(⟨#[61]⟩ : ByteArray)])).map fun r=>(st0 1 (zU l s 2) emS [r.1] [] [],zV l r.2 [(⟨#[59]⟩ : ByteArray)])
def zWH (l : List Tok) (s : RS) : Option (St × RS):=some (st0 5 (zU l s 2) emS [] [] [],zV l (zg l s 2) [(⟨#[59]⟩ : ByteArray)])
def zE9 (l : List Tok) (inner : Blk) (s : RS) : Option (List St × RS):=inner (zV l s [(⟨#[123]⟩ : ByteArray)])
def zQf (l : List Tok) (ex : RS -> Option (Ex × RS)) (inner : Blk) (s : RS) : Option (St × RS) :=
 match ex s with
 | none=>none
 | some (e,s1)=>(zE9 l inner s1).map fun r=>(st0 7 emS emS [e] r.1 [],r.2)
def zLZ (l : List Tok) (ex : RS -> Option (Ex × RS)) (inner : Blk) (s : RS) : Option (St × RS) :=
 match ex s with
 | none=>none
 | some (e,s1)=>match zE9 l inner s1 with
  | none=>none
  | some (b,s2)=>if isP l s2 (⟨#[101,108,115,101]⟩ : ByteArray) 0 = true then (zE9 l inner (mayP l s2 (⟨#[101,108,115,101]⟩ : ByteArray))).map fun r=>(st0 6 emS emS [e] b r.1,r.2) else some (st0 6 emS emS [e] b [],s2)
def zQg (l : List Tok) (inner : Blk) (s : RS) : Option (St × RS):=(zE9 l inner s).map fun r=>(st0 9 emS emS [] r.1 [],r.2)
def zQh (inner : Blk) (s : RS) : Option (St × RS):=(inner s).map fun r=>(st0 13 emS emS [] r.1 [],r.2)
def zWI (l : List Tok) (n : Nat) (inner : Blk) (s : RS) : Option (St × RS) :=
 match zE8 l n s with
 | none=>none
 | some (p,s1)=>(zE9 l inner (zg l (zV l s1 [(⟨#[97,115]⟩ : ByteArray)]) 2)).map fun r=>(.mk 11 (zU l (zV l s1 [(⟨#[97,115]⟩ : ByteArray)]) 2) emS [] zEN 0 p [] r.1 [] [] 0,r.2)
def armQ (l : List Tok) (inner : Blk) (s : RS) : Option (Ar × RS) :=
 (fun (v : ByteArray) (s1 : RS) =>
  if isP l s1 (⟨#[40]⟩ : ByteArray) 0 = true then (zE9 l inner (zV l (zV l (zg l (mayP l s1 (⟨#[40]⟩ : ByteArray)) 2) [(⟨#[41]⟩ : ByteArray)]) [(⟨#[61,62]⟩ : ByteArray)])).map fun r=>(⟨v,zU l (mayP l s1 (⟨#[40]⟩ : ByteArray)) 2,r.1⟩,r.2)
  else (zE9 l inner (zV l s1 [(⟨#[61,62]⟩ : ByteArray)])).map fun r=>(⟨v,emS,r.1⟩,r.2)) (zU l s 3) (zg l s 3)
def zJC (l : List Tok) (inner : Blk) : Nat -> List Ar -> RS -> Option (List Ar × RS)
 | 0,_,_=>none
 | n + 1,acc,s =>
  if s.bad = true then some (acc,s)
  else if isP l s (⟨#[125]⟩ : ByteArray) 0 = true then some (acc,mayP l s (⟨#[125]⟩ : ByteArray))
  else match armQ l inner s with
   | none=>none
   | some (a,s1)=>zJC l inner n (acc ++ [a]) s1
def zQi (l : List Tok) (n : Nat) (inner : Blk) (s : RS) : Option (St × RS) :=
 (fun (s1 : RS)=>(zJC l inner n [] (zV l (zg l s1 3) [(⟨#[123]⟩ : ByteArray)])).map fun r=>(.mk 8 (zU l s 2) (zU l s1 3) [] zEN 0 zDU [] [] [] r.1 0,fewP r.2 r.1.length)) (zV l (zg l s 2) [(⟨#[58]⟩ : ByteArray)])
def zQj (l : List Tok) (n : Nat) (ex : RS -> Option (Ex × RS)) (inner : Blk) (s : RS) : Option (St × RS) :=
 match zCq l (zKM l (zKL l n ex)) (⟨#[41]⟩ : ByteArray) n (zV l s [(⟨#[40]⟩ : ByteArray)]) with
 | none=>none
 | some (hs,s1)=>(zE9 l inner s1).map fun r=>(.mk 10 emS emS (hs.map (·.1)) zEN 0 zDU (hs.map (·.2)) r.1 [] [] 0,r.2)
def zWJ (l : List Tok) (n : Nat) (s : RS) : Option (St × RS):=none
def zFA (l : List Tok) (n : Nat) (ex : RS -> Option (Ex × RS)) (inner : Blk) (w : ByteArray) (s : RS) : Option (Option (St × RS)) :=
 if sEq w (⟨#[108,101,116]⟩ : ByteArray) = true then some (letQ l n ex s)
 else if sEq w (⟨#[100,114,111,112]⟩ : ByteArray) = true then some (zWH l s)
 else if sEq w (⟨#[105,102]⟩ : ByteArray) = true then some (zLZ l ex inner s)
 else if sEq w (⟨#[119,104,105,108,101]⟩ : ByteArray) = true then some (zQf l ex inner s)
 else if sEq w (⟨#[109,97,116,99,104]⟩ : ByteArray) = true then some (zQi l n inner s)
 else if sEq w (⟨#[115,99,111,112,101]⟩ : ByteArray) = true then some (zQg l inner s)
 else if sEq w (⟨#[115,112,97,119,110]⟩ : ByteArray) = true then some (zQj l n ex inner s)
 else if sEq w (⟨#[108,111,99,107]⟩ : ByteArray) = true then some (zWI l n inner s)
 else if sEq w (⟨#[99,104,97,110]⟩ : ByteArray) = true then some (zWJ l n s)
 else if sEq w (⟨#[123]⟩ : ByteArray) = true then some (zQh inner s)
 else none
def zQk (l : List Tok) (n : Nat) (ex : RS -> Option (Ex × RS)) (inner : Blk) (s : RS) : Option (Option St × RS) :=
 if s.bad = true then some (none,s)
 else match l[s.at_]? with
  | none=>some (none,s)
  | some x=>match zFA l n ex inner x.text ⟨s.at_ + 1,s.bad,s.full⟩ with
   | none=>some (none,s)
   | some none=>none
   | some (some (st,s1))=>some (some (st.at x.pos),s1)
def zLa (l : List Tok) (n : Nat) (ex : RS -> Option (Ex × RS)) (s : RS) : Option (Option St × RS) :=
 if s.bad = true then some (none,s)
 else match l[s.at_]? with
  | none=>some (none,s)
  | some x =>
   if x.kind = 2 /\ isP l s (⟨#[40]⟩ : ByteArray) 1 = false then
    match zE8 l n s with
    | none=>none
    | some (p,s1) =>
     if s1.bad = false /\ isP l s1 (⟨#[61]⟩ : ByteArray) 0 = true then (ex (mayP l s1 (⟨#[61]⟩ : ByteArray))).map fun r=>(some (.mk 3 emS emS [] zEN 0 p [r.1] [] [] [] x.pos),zV l r.2 [(⟨#[59]⟩ : ByteArray)])
     else some (none,s)
   else some (none,s)
def zHH (l : List Tok) (n : Nat) (ex : RS -> Option (Ex × RS)) (inner : Blk) (s : RS) : Option (Option St × RS) :=
 match zQk l n ex inner s with
 | none=>none
 | some (some st,s1)=>some (some st,s1)
 | some (none,s1)=>zLa l n ex s1
def zBd (l : List Tok) : Nat -> List St -> RS -> Option (List St × RS)
 | 0,_,_=>none
 | n + 1,acc,s =>
  if s.bad = true then some (acc,s)
  else if isP l s (⟨#[125]⟩ : ByteArray) 0 = true then some (acc,mayP l s (⟨#[125]⟩ : ByteArray))
  else match zHH l n (zAN l n 6) (zBd l n []) s with
   | none=>none
   | some (some st,s1)=>zBd l n (acc ++ [st]) s1
   | some (none,s1)=>match zAN l n 6 s1 with
    | none=>none
    | some (e,s2)=>zBd l n (acc ++ [(st0 4 emS emS [e] [] []).at (zAh l s1)]) (zV l s2 [(⟨#[59]⟩ : ByteArray)])
def zHf (l : List Tok) : Nat -> List St -> RS -> Option ((List St × Ex) × RS)
 | 0,_,_=>none
 | n + 1,acc,s =>
  if s.bad = true then some (([],zEk),s)
  else match zHH l n (zAN l n 6) (zBd l n []) s with
   | none=>none
   | some (some st,s1)=>zHf l n (acc ++ [st]) s1
   | some (none,s1)=>match zAN l n 6 s1 with
    | none=>none
    | some (e,s2)=>if isP l s2 (⟨#[125]⟩ : ByteArray) 0 = true then some ((acc,e),s2) else zHf l n (acc ++ [(st0 4 emS emS [e] [] []).at (zAh l s1)]) (zV l s2 [(⟨#[59]⟩ : ByteArray)])
def zOK (l : List Tok) (n : Nat) (s : RS) : Option (It × RS) :=
 if isP l s (⟨#[115,116,114,117,99,116]⟩ : ByteArray) 0 = true then zFT l n s
 else if isP l s (⟨#[101,110,117,109]⟩ : ByteArray) 0 = true then zFT l n s
 else
  match zCq l (zG8 l n) (⟨#[41]⟩ : ByteArray) n (zV l (zg l (zV l s [(⟨#[102,110]⟩ : ByteArray)]) 2) [(⟨#[40]⟩ : ByteArray)]) with
  | none=>none
  | some (fs,s2) =>
   match zFv l n (zV l s2 [(⟨#[45,62]⟩ : ByteArray)]) with
   | none=>none
   | some (t,s3) =>
    match zHf l n [] (zV l s3 [(⟨#[123]⟩ : ByteArray)]) with
    | none=>none
    | some ((b,e),s4)=>some (⟨3,zU l (zV l s [(⟨#[102,110]⟩ : ByteArray)]) 2,fs,t,b,e,zAh l s⟩,zV l s4 [(⟨#[125]⟩ : ByteArray)])
def zKN (l : List Tok) (n : Nat) : Nat -> List It -> RS -> Option (List It × RS)
 | 0,_,_=>none
 | f + 1,acc,s =>
  if s.at_ < l.length /\ s.bad = false then
   match zOK l n s with
   | none=>none
   | some (x,s1)=>zKN l n f (acc ++ [x]) s1
  else some (acc,s)
def zCZ (n : Nat) (s : ByteArray) : Option (List It) :=
 if 4000 < s.size then none
 else match zDs n s.data.toList with
  | none=>none
  | some m =>
   match lexF n m (s.data.toList.drop m) with
   | none=>none
   | some l =>
    if 1500 < l.length then none
    else match zKN l n n [] ⟨0,false,false⟩ with
     | none=>none
     | some (p,s1)=>if s1.bad = true \/ s1.full = true \/ 30 < p.length then none else some p
end Go.Proofs.YtlclonljdagpkaaGreatDoor
namespace Go.Proofs.YtlclonljdagpkaaGreatDoor
open Go.RowKit
attribute [local simp] List.replicate List.range List.range.loop resA zR retA AV.cuts AV.cut AObj.cut trim wkR wkT wkL wkN wkNR wkNL wkM wkMR wkML
abbrev Hd:=ByteArray × Ex
def Hd.enc (h : Hd) : List PV:=pS h.1 :: h.2.enc
abbrev hdA (h : Hd) : AV:=.agg [Sg h.1,U h.2.op,I h.2.int,Sg h.2.name,Sg h.2.second,Sg h.2.place.name,.p (strs h.2.place.path),.p (.sl 8 (h.2.args.map Ex.enc)),I h.2.pos]
theorem zTR (h : Hd) : Hd.enc h = [pS h.1,pU h.2.op,pI h.2.int,pS h.2.name,pS h.2.second,pS h.2.place.name,strs h.2.place.path,.sl 8 (h.2.args.map Ex.enc),pI h.2.pos]:=by
 unfold Hd.enc; rw [zv]
def nmE (t : ByteArray) : List PV:=[pS t]
theorem zKO {α : Type} {l : List Tok} {rd : RS -> Option (α × RS)} (hrd : ∀ s x s',s.at_ <= l.length -> rd s = some (x,s') -> s'.at_ <= l.length) {e : ByteArray} {n : Nat} {s : RS} {xs : List α} {s' : RS} (hs : s.at_ <= l.length) (hn : n <= 100000) (h : zCq l rd e n s = some (xs,s')) : xs.length <= 1000000:=by
 unfold zCq at h;split at h
 .cases h; simp
 split at h
 .cases h
 rename_i x s1 h1
 obtain ⟨⟨ys,s2⟩,hk,he⟩:=Option.map_eq_some_iff.1 h
 cases he
 have:=(zDK hrd n [x] s1 _ _ (hrd _ _ _ hs h1) hk).2
 simp at this
 show ys.length <= 1000000
 omega
theorem zQl {K : Nat} {l : List Tok} {rd : RS -> Option (ByteArray × RS)} (hle : ∀ s x s',s.at_ <= l.length -> rd s = some (x,s') -> s'.at_ <= l.length) (hrd : ∀ s x s',s.at_ <= l.length -> rd s = some (x,s') -> RdC K [] l s s' (Sg x)) {e : ByteArray} {n : Nat} (hn : n <= 100000) {s : RS} {xs : List ByteArray} {s' : RS} (hs : s.at_ <= l.length) (h : zCq l rd e n s = some (xs,s')) :
  RdF 246 (fun d i=>[Sg e,.fn (.func K) [.ptr d i 0] []]) l s s' (.p (.sl 1 (xs.map nmE))):=by
 unfold zCq at h
 cases hi : isP l s e 0 with
 | true =>
  rw [hi,if_pos rfl] at h;cases h;refine RdF.less (r:=nilS) (by repeat' constructor) (RdF.intro fun S d i hR=>?_)
  refine ADet.intro mixed Tryz.call246 Tryz.func246 rfl ?_;simp [Tryz.ntmps246];refine ⟨_,_,(mayW s e).at hR hs _,?_⟩;rw [hi]
  simp
 | false =>
 rw [hi,if_neg (by simp)] at h
 split at h
 .cases h
 rename_i x s1 h1
 obtain ⟨⟨ys,s2⟩,hk,he⟩:=Option.map_eq_some_iff.1 h
 cases he
 have hm : mayP l s e = s:=by unfold mayP; rw [hi]; rfl
 have hs1:=hle _ _ _ hs h1
 have xC:=hrd _ _ _ hs h1
 obtain ⟨hs2,hyl⟩:=zDK hle n [x] s1 _ _ hs1 hk
 have hyl : ys.length <= n + 1:=by simp at hyl; omega
 have hs3:=zH [e] _ hs2
 refine RdF.intro fun S d i hR=>?_
 refine ADet.intro mixed Tryz.call246 Tryz.func246 rfl ?_;simp [Tryz.ntmps246];refine ⟨_,_,(mayW s e).at hR hs _,?_⟩;rw [hi,hm];simp;refine ⟨_,_,xC.at hR hs _,?_⟩;simp;refine zE (fun a : Nat × List ByteArray × RS=>zDt l rd a.1 a.2.1 a.2.2 = some (ys,s2) /\ a.2.1.length + a.1 <= n + 1 /\ 0 < a.2.1.length /\ a.2.2.at_ <= l.length) (fun a=>([.ptr (d + 1) i 0,Sg e,.fn (.func K) [.ptr (d + 1) i 0] [],.any,.any,.any,.any,.osl 1 (a.2.1.map nmE) 0 0] ++ List.replicate 22 .any)) (fun a=>[.tok 9 1 a.2.1.length] :: set2 S d i (rdO l a.2.2)) (fun a=>a.1) (n,[x],s1) ⟨hk,by simp; omega,by simp,hs1⟩ ?_ ?_ ?_
 .simp [nmE]
 .simp
 rintro ⟨k,acc,s4⟩ ⟨hl,hkn,hac,hs4⟩
 simp only at hl hkn hac hs4
 cases k with
 | zero=>simp [zDt] at hl
 | succ k =>
 unfold zDt at hl;simp;refine ⟨_,_,(mayW s4 (⟨#[44]⟩ : ByteArray)).at hR hs4 _,?_⟩
 cases hc : isP l s4 (⟨#[44]⟩ : ByteArray) 0 with
 | true =>
  rw [hc,if_pos rfl] at hl;split at hl
  .cases hl
  rename_i y s5 h5
  have hm4:=za (s:=s4) (⟨#[44]⟩ : ByteArray) hs4
  have yC:=hrd _ _ _ hm4 h5
  have hs5:=hle _ _ _ hm4 h5
  have hap : acc.length + 1 <= 4294967296:=by omega
  simp;refine ⟨_,_,yC.at hR hm4 _,?_⟩;simp [hap]
  exact ⟨k,acc ++ [y],s5,⟨hl,by simp; omega,by simp,hs5⟩,by omega,by simp [nmE],by simp,rfl⟩
 | false =>
  rw [hc,if_neg (by simp)] at hl
  cases hl
  have hm4 : mayP l s2 (⟨#[44]⟩ : ByteArray) = s2:=by unfold mayP; rw [hc]; rfl
  rw [hm4];simp;refine ⟨_,_,ADet.sub (.cons (.refl _) (.cons (.osl (.refl _)) (.refl _))) ((zB5 s2 [e] (by simp) hs2).at hR hs2 _),?_⟩
  simp;refine ⟨_,_,(fewW (zV l s2 [e]) ys.length).at hR hs3 _,?_⟩;simp
theorem zWK {K : Nat} {l : List Tok} {rd : RS -> Option (Ex × RS)} (hle : ∀ s x s',s.at_ <= l.length -> rd s = some (x,s') -> s'.at_ <= l.length) (hrd : ∀ s x s',s.at_ <= l.length -> rd s = some (x,s') -> RdC K [] l s s' (exV x)) {e : ByteArray} {n : Nat} (hn : n <= 100000) {s : RS} {xs : List Ex} {s' : RS} (hs : s.at_ <= l.length) (h : zCq l rd e n s = some (xs,s')) :
  RdF 253 (fun d i=>[Sg e,.fn (.func K) [.ptr d i 0] []]) l s s' (.p (.sl 8 (xs.map Ex.enc))):=by
 unfold zCq at h
 cases hi : isP l s e 0 with
 | true =>
  rw [hi,if_pos rfl] at h;cases h;refine RdF.less (r:=nilS) (by repeat' constructor) (RdF.intro fun S d i hR=>?_)
  refine ADet.intro mixed Tryz.call253 Tryz.func253 rfl ?_;simp [Tryz.ntmps253];refine ⟨_,_,(mayW s e).at hR hs _,?_⟩;rw [hi]
  simp
 | false =>
 rw [hi,if_neg (by simp)] at h
 split at h
 .cases h
 rename_i x s1 h1
 obtain ⟨⟨ys,s2⟩,hk,he⟩:=Option.map_eq_some_iff.1 h
 cases he
 have hm : mayP l s e = s:=by unfold mayP; rw [hi]; rfl
 have hs1:=hle _ _ _ hs h1
 have xC:=hrd _ _ _ hs h1
 obtain ⟨hs2,hyl⟩:=zDK hle n [x] s1 _ _ hs1 hk
 have hyl : ys.length <= n + 1:=by simp at hyl; omega
 have hs3:=zH [e] _ hs2
 refine RdF.intro fun S d i hR=>?_
 refine ADet.intro mixed Tryz.call253 Tryz.func253 rfl ?_;simp [Tryz.ntmps253];refine ⟨_,_,(mayW s e).at hR hs _,?_⟩;rw [hi,hm];simp;refine ⟨_,_,xC.at hR hs _,?_⟩;simp;refine zE (fun a : Nat × List Ex × RS=>zDt l rd a.1 a.2.1 a.2.2 = some (ys,s2) /\ a.2.1.length + a.1 <= n + 1 /\ 0 < a.2.1.length /\ a.2.2.at_ <= l.length) (fun a=>([.ptr (d + 1) i 0,Sg e,.fn (.func K) [.ptr (d + 1) i 0] [],.any,.any,.any,.any,.osl 8 (a.2.1.map Ex.enc) 0 0] ++ List.replicate 22 .any)) (fun a=>[.tok 40 8 a.2.1.length] :: set2 S d i (rdO l a.2.2)) (fun a=>a.1) (n,[x],s1) ⟨hk,by simp; omega,by simp,hs1⟩ ?_ ?_ ?_
 .simp [zv]
 .simp
 rintro ⟨k,acc,s4⟩ ⟨hl,hkn,hac,hs4⟩
 simp only at hl hkn hac hs4
 cases k with
 | zero=>simp [zDt] at hl
 | succ k =>
 unfold zDt at hl;simp;refine ⟨_,_,(mayW s4 (⟨#[44]⟩ : ByteArray)).at hR hs4 _,?_⟩
 cases hc : isP l s4 (⟨#[44]⟩ : ByteArray) 0 with
 | true =>
  rw [hc,if_pos rfl] at hl;split at hl
  .cases hl
  rename_i y s5 h5
  have hm4:=za (s:=s4) (⟨#[44]⟩ : ByteArray) hs4
  have yC:=hrd _ _ _ hm4 h5
  have hs5:=hle _ _ _ hm4 h5
  have hap : acc.length + 1 <= 4294967296:=by omega
  simp;refine ⟨_,_,yC.at hR hm4 _,?_⟩;simp [hap]
  exact ⟨k,acc ++ [y],s5,⟨hl,by simp; omega,by simp,hs5⟩,by omega,by simp [zv],by simp,rfl⟩
 | false =>
  rw [hc,if_neg (by simp)] at hl
  cases hl
  have hm4 : mayP l s2 (⟨#[44]⟩ : ByteArray) = s2:=by unfold mayP; rw [hc]; rfl
  rw [hm4];simp;refine ⟨_,_,ADet.sub (.cons (.refl _) (.cons (.osl (.refl _)) (.refl _))) ((zB5 s2 [e] (by simp) hs2).at hR hs2 _),?_⟩
  simp;refine ⟨_,_,(fewW (zV l s2 [e]) ys.length).at hR hs3 _,?_⟩;simp
theorem zQm {K : Nat} {l : List Tok} {rd : RS -> Option (Hd × RS)} (hle : ∀ s x s',s.at_ <= l.length -> rd s = some (x,s') -> s'.at_ <= l.length) (hrd : ∀ s x s',s.at_ <= l.length -> rd s = some (x,s') -> RdC K [] l s s' (hdA x)) {e : ByteArray} {n : Nat} (hn : n <= 100000) {s : RS} {xs : List Hd} {s' : RS} (hs : s.at_ <= l.length) (h : zCq l rd e n s = some (xs,s')) :
  RdF 249 (fun d i=>[Sg e,.fn (.func K) [.ptr d i 0] []]) l s s' (.p (.sl 9 (xs.map Hd.enc))):=by
 unfold zCq at h
 cases hi : isP l s e 0 with
 | true =>
  rw [hi,if_pos rfl] at h;cases h;refine RdF.less (r:=nilS) (by repeat' constructor) (RdF.intro fun S d i hR=>?_)
  refine ADet.intro mixed Tryz.call249 Tryz.func249 rfl ?_;simp [Tryz.ntmps249];refine ⟨_,_,(mayW s e).at hR hs _,?_⟩;rw [hi]
  simp
 | false =>
 rw [hi,if_neg (by simp)] at h
 split at h
 .cases h
 rename_i x s1 h1
 obtain ⟨⟨ys,s2⟩,hk,he⟩:=Option.map_eq_some_iff.1 h
 cases he
 have hm : mayP l s e = s:=by unfold mayP; rw [hi]; rfl
 have hs1:=hle _ _ _ hs h1
 have xC:=hrd _ _ _ hs h1
 obtain ⟨hs2,hyl⟩:=zDK hle n [x] s1 _ _ hs1 hk
 have hyl : ys.length <= n + 1:=by simp at hyl; omega
 have hs3:=zH [e] _ hs2
 refine RdF.intro fun S d i hR=>?_
 refine ADet.intro mixed Tryz.call249 Tryz.func249 rfl ?_;simp [Tryz.ntmps249];refine ⟨_,_,(mayW s e).at hR hs _,?_⟩;rw [hi,hm];simp;refine ⟨_,_,xC.at hR hs _,?_⟩;simp;refine zE (fun a : Nat × List Hd × RS=>zDt l rd a.1 a.2.1 a.2.2 = some (ys,s2) /\ a.2.1.length + a.1 <= n + 1 /\ 0 < a.2.1.length /\ a.2.2.at_ <= l.length) (fun a=>([.ptr (d + 1) i 0,Sg e,.fn (.func K) [.ptr (d + 1) i 0] [],.any,.any,.any,.any,.osl 9 (a.2.1.map Hd.enc) 0 0] ++ List.replicate 22 .any)) (fun a=>[.tok 269 9 a.2.1.length] :: set2 S d i (rdO l a.2.2)) (fun a=>a.1) (n,[x],s1) ⟨hk,by simp; omega,by simp,hs1⟩ ?_ ?_ ?_
 .simp [zTR]
 .simp
 rintro ⟨k,acc,s4⟩ ⟨hl,hkn,hac,hs4⟩
 simp only at hl hkn hac hs4
 cases k with
 | zero=>simp [zDt] at hl
 | succ k =>
 unfold zDt at hl;simp;refine ⟨_,_,(mayW s4 (⟨#[44]⟩ : ByteArray)).at hR hs4 _,?_⟩
 cases hc : isP l s4 (⟨#[44]⟩ : ByteArray) 0 with
 | true =>
  rw [hc,if_pos rfl] at hl;split at hl
  .cases hl
  rename_i y s5 h5
  have hm4:=za (s:=s4) (⟨#[44]⟩ : ByteArray) hs4
  have yC:=hrd _ _ _ hm4 h5
  have hs5:=hle _ _ _ hm4 h5
  have hap : acc.length + 1 <= 4294967296:=by omega
  simp;refine ⟨_,_,yC.at hR hm4 _,?_⟩;simp [hap]
  exact ⟨k,acc ++ [y],s5,⟨hl,by simp; omega,by simp,hs5⟩,by omega,by simp [zTR],by simp,rfl⟩
 | false =>
  rw [hc,if_neg (by simp)] at hl
  cases hl
  have hm4 : mayP l s2 (⟨#[44]⟩ : ByteArray) = s2:=by unfold mayP; rw [hc]; rfl
  rw [hm4];simp;refine ⟨_,_,ADet.sub (.cons (.refl _) (.cons (.osl (.refl _)) (.refl _))) ((zB5 s2 [e] (by simp) hs2).at hR hs2 _),?_⟩
  simp;refine ⟨_,_,(fewW (zV l s2 [e]) ys.length).at hR hs3 _,?_⟩;simp
end Go.Proofs.YtlclonljdagpkaaGreatDoor
namespace Go.Proofs.YtlclonljdagpkaaGreatDoor
open Go.RowKit
attribute [local simp] List.replicate List.range List.range.loop resA zR retA
def RdOk (l : List Tok) (rd : RS -> Option (Ex × RS)) : Prop:=∀ s e s',s.at_ <= l.length -> rd s = some (e,s') -> RdC 162 [] l s s' (exV e) /\ s'.at_ <= l.length
theorem zBN {l : List Tok} {s : RS} {t : ByteArray} (h : isP l s t 0 = false) : mayP l s t = s:=by unfold mayP; rw [h]; rfl
theorem zAL {l : List Tok} {s : RS} (t : ByteArray) (hs : s.at_ <= l.length) {S : ASt} {d i : Nat} {s0 : RS} (hR : RAt S d i l s0) (L : List AObj) (a b : Nat) :
  ADet Tryz.prog 84 [.ptr (d + 1) i 0,.osl 1 [[pS t]] a b] (L :: set2 S d i (rdO l s)) .un (L :: set2 S d i (rdO l (zV l s [t]))) :=
 ADet.sub (.cons (.refl _) (.cons (.osl (.refl _)) (.refl _))) ((zB5 s [t] (by simp) hs).at hR hs L)
theorem zTS {n : Nat} (hn : n <= 100000) {l : List Tok} {rd : RS -> Option (Ex × RS)} (hrd : RdOk l rd) {s : RS} {e : Ex} {s' : RS} (hs : s.at_ <= l.length) (h : zKL l n rd s = some (e,s')) : RdC 247 [] l s s' (exV e) /\ s'.at_ <= l.length:=by
 unfold zKL at h
 cases hi : isP l s (⟨#[38]⟩ : ByteArray) 0 with
 | false =>
  rw [hi,if_neg (by simp)] at h
  obtain ⟨eC,hs1⟩:=hrd _ _ _ hs h
  refine ⟨RdC.intro fun S d i hR=>?_,hs1⟩
  refine ADet.intro mixed Tryz.call247 Tryz.func247 rfl ?_;simp [Tryz.ntmps247];refine ⟨_,_,(zW s).at hR hs _,?_⟩;simp;refine ⟨_,_,(mayW s (⟨#[38]⟩ : ByteArray)).at hR hs _,?_⟩;rw [hi,zBN hi];simp;refine ⟨_,_,eC.at hR hs _,?_⟩
  simp
 | true =>
  rw [hi,if_pos rfl] at h
  obtain ⟨⟨p,s1⟩,hp,he⟩:=Option.map_eq_some_iff.1 h
  cases he
  have hm1:=za (s:=s) (⟨#[38]⟩ : ByteArray) hs
  have hm2:=za (s:=mayP l s (⟨#[38]⟩ : ByteArray)) (⟨#[109,117,116]⟩ : ByteArray) hm1
  have pC:=zLU hn hm2 hp
  refine ⟨?_,(zCX hm2 hp).1⟩
  cases h2 : isP l (mayP l s (⟨#[38]⟩ : ByteArray)) (⟨#[109,117,116]⟩ : ByteArray) 0 with
  | true =>
   rw [if_pos rfl];refine RdC.less (r:=.agg [U 6,I 0,Sg emS,Sg emS,Sg p.name,.p (strs p.path),nilS,I (zAh l s)]) (by repeat' constructor) (RdC.intro fun S d i hR=>?_)
   refine ADet.intro mixed Tryz.call247 Tryz.func247 rfl ?_;simp [Tryz.ntmps247];refine ⟨_,_,(zW s).at hR hs _,?_⟩;simp;refine ⟨_,_,(mayW s (⟨#[38]⟩ : ByteArray)).at hR hs _,?_⟩;rw [hi];simp;refine ⟨_,_,(mayW _ (⟨#[109,117,116]⟩ : ByteArray)).at hR hm1 _,?_⟩;rw [h2];simp;refine ⟨_,_,pC.at hR hm2 _,?_⟩
   simp
  | false =>
   rw [if_neg (by simp)]
   refine RdC.less (r:=.agg [U 5,I 0,Sg emS,Sg emS,Sg p.name,.p (strs p.path),nilS,I (zAh l s)]) (by repeat' constructor) (RdC.intro fun S d i hR=>?_)
   refine ADet.intro mixed Tryz.call247 Tryz.func247 rfl ?_;simp [Tryz.ntmps247];refine ⟨_,_,(zW s).at hR hs _,?_⟩;simp;refine ⟨_,_,(mayW s (⟨#[38]⟩ : ByteArray)).at hR hs _,?_⟩;rw [hi];simp;refine ⟨_,_,(mayW _ (⟨#[109,117,116]⟩ : ByteArray)).at hR hm1 _,?_⟩;rw [h2];simp;refine ⟨_,_,pC.at hR hm2 _,?_⟩;simp
theorem zUO {n : Nat} (hn : n <= 100000) {l : List Tok} {rd : RS -> Option (Ex × RS)} (hrd : RdOk l rd) {s : RS} {e : Hd} {s' : RS} (hs : s.at_ <= l.length) (h : zKM l (zKL l n rd) s = some (e,s')) : RdC 250 [] l s s' (hdA e) /\ s'.at_ <= l.length:=by
 unfold zKM at h
 obtain ⟨⟨x,s1⟩,hp,he⟩:=Option.map_eq_some_iff.1 h
 cases he
 have hm1:=zJ (s:=s) 2 hs
 have hm2:=zH [(⟨#[61]⟩ : ByteArray)] _ hm1
 obtain ⟨eC,hs1⟩:=zTS hn hrd hm2 hp
 refine ⟨RdC.intro fun S d i hR=>?_,hs1⟩
 refine ADet.intro mixed Tryz.call250 Tryz.func250 rfl ?_;simp [Tryz.ntmps250];refine ⟨_,_,(zB6 s).at hR hs _,?_⟩;simp;refine ⟨_,_,zAL _ hm1 hR _ _ _,?_⟩;simp;refine ⟨_,_,eC.at hR hm2 _,?_⟩;simp
theorem zMh {l : List Tok} {rd : RS -> Option (Ex × RS)} (hrd : RdOk l rd) {s : RS} {e : Hd} {s' : RS} (hs : s.at_ <= l.length) (h : zKM l rd s = some (e,s')) : RdC 257 [] l s s' (hdA e) /\ s'.at_ <= l.length:=by
 unfold zKM at h
 obtain ⟨⟨x,s1⟩,hp,he⟩:=Option.map_eq_some_iff.1 h
 cases he
 have hm1:=zJ (s:=s) 2 hs
 have hm2:=zH [(⟨#[61]⟩ : ByteArray)] _ hm1
 obtain ⟨eC,hs1⟩:=hrd _ _ _ hm2 hp
 refine ⟨RdC.intro fun S d i hR=>?_,hs1⟩
 refine ADet.intro mixed Tryz.call257 Tryz.func257 rfl ?_;simp [Tryz.ntmps257];refine ⟨_,_,(zB6 s).at hR hs _,?_⟩;simp;refine ⟨_,_,zAL _ hm1 hR _ _ _,?_⟩;simp;refine ⟨_,_,eC.at hR hm2 _,?_⟩;simp
end Go.Proofs.YtlclonljdagpkaaGreatDoor
