/- A part of the proof. -/
import Derived.Test.YtdflkegnmmkkoaaGreatDoorWNPr
set_option linter.unusedVariables false
set_option linter.unusedSimpArgs false
set_option maxRecDepth 100000
set_option maxHeartbeats 32000000
namespace Go.Proofs.YtdflkegnmmkkoaaGreatDoor
def zWO:Pl:=⟨emS,[]⟩
abbrev ex0(op int:Int)(nm:BA)(l:List Ex)(pos:Int):Ex:=.mk op int nm emS zWO l pos
def numT(t:BA):Option Int:=if 0<t.size/\t.size<=4000/\(t.data.toList.all fun b=>zAx b.toNat)=true/\zCA t.data.toList<9223372036854775808 then some (zCA t.data.toList:Int)else none
def zPy:List (BA × Int):=[((⟨#[98,111,120]⟩:BA),21),((⟨#[117,110,98,111,120]⟩:BA),22),((⟨#[99,101,108,108]⟩:BA),23),((⟨#[114,99]⟩:BA),26),((⟨#[97,114,99]⟩:BA),27),((⟨#[109,117,116,101,120]⟩:BA),29),((⟨#[111,112,101,110]⟩:BA),30),((⟨#[97,116,111,109,105,99]⟩:BA),31),
 ((⟨#[103,101,116]⟩:BA),24),((⟨#[99,108,111,110,101]⟩:BA),28),((⟨#[108,111,97,100]⟩:BA),32),((⟨#[114,101,99,118]⟩:BA),36),((⟨#[115,101,116]⟩:BA),25),((⟨#[115,116,111,114,101]⟩:BA),33),((⟨#[102,101,116,99,104]⟩:BA),34),((⟨#[115,101,110,100]⟩:BA),35)]
def zYQ(l:List Tok)(n:Nat)(rd:RS->Option (Ex × RS))(s:RS):Option (Ex × RS):=
 if isP l s (⟨#[38]⟩:BA) 0=true then(zGz l n (mayP l (mayP l s (⟨#[38]⟩:BA)) (⟨#[109,117,116]⟩:BA))).map fun r=>(.mk (if isP l (mayP l s (⟨#[38]⟩:BA)) (⟨#[109,117,116]⟩:BA) 0=true then 6 else 5) 0 emS emS r.1 [] (zBY l s),r.2)
 else rd s
def zM4(l:List Tok)(n:Nat)(rd:RS->Option (Ex × RS))(op:Int)(pos:Int)(s:RS):Option (Ex × RS):=
 if op=24\/op=28\/op=32\/op=36 then(zGz l n (zAY l s [(⟨#[40]⟩:BA)])).map fun r=>(.mk op 0 emS emS r.1 [] pos,zAY l r.2 [(⟨#[41]⟩:BA)])
 else if op=25\/op=33\/op=34\/op=35 then none
 else(rd (zAY l s [(⟨#[40]⟩:BA)])).map fun r=>(ex0 op 0 emS [r.1] pos,zAY l r.2 [(⟨#[41]⟩:BA)])
def zWP(l:List Tok)(n:Nat)(rd:RS->Option (Ex × RS))(pos:Int)(s:RS):Option (Ex × RS):=none
def zM5(l:List Tok)(n:Nat)(rd:RS->Option (Ex × RS))(s:RS):Option (Ex × RS):=
 if s.bad=true then some (zFa,s)
 else match l[s.at_]? with
  |none=>some (zFa,⟨s.at_,true,s.full⟩)
  |some x=>
   if x.kind=4 then(numT x.text).map fun v=>(ex0 1 v emS [] x.pos,⟨s.at_+1,s.bad,s.full⟩)
   else if x.kind=3 then zWP l n rd x.pos s
   else if x.kind=2 then
    if isP l s (⟨#[40]⟩:BA) 1=true then none
    else(zGz l n s).map fun r=>(.mk 4 0 emS emS r.1 [] x.pos,r.2)
   else match zB0 x.text zPy with
    |some op=>zM4 l n rd op x.pos ⟨s.at_+1,s.bad,s.full⟩
    |none=>none
def zDV(l:List Tok)(rd:RS->Option (Ex × RS))(k:Nat):Nat->Ex->RS->Option (Ex × RS)
 |0,_,_=>none
 |n+1,e,s=>
  if s.bad=true then some (e,s)
  else match l[s.at_]? with
   |none=>some (e,s)
   |some x=>match zB0 x.text (zB1 k)with
    |none=>some (e,s)
    |some op=>match rd ⟨s.at_+1,s.bad,s.full⟩with
     |none=>none
     |some (r,s1)=>if k=3 then some (ex0 op 0 emS [e,r] x.pos,s1)else zDV l rd k n (ex0 op 0 emS [e,r] x.pos) s1
def zAm(l:List Tok):Nat->Nat->RS->Option (Ex × RS)
 |0,_,_=>none
 |n+1,0,s=>
  if s.bad=true then some (zFa,s)
  else if isP l s (⟨#[45]⟩:BA) 0=true then none
  else zM5 l n (zAm l n 6) s
 |n+1,j+1,s=>
  if s.bad=true then some (zFa,s)
  else if j=3/\isP l s (⟨#[110,111,116]⟩:BA) 0=true then(zAm l n 4 (mayP l s (⟨#[110,111,116]⟩:BA))).map fun r=>(ex0 8 0 emS [r.1] (zBY l s),r.2)
  else
   match zAm l n j s with
   |none=>none
   |some (e,s1)=>zDV l (zAm l n j) (5-j) n e s1
abbrev st0(op:Int)(nm second:BA)(es:List Ex)(body els:List St):St:=.mk op nm second [] zLa 0 zWO es body els [] 0
def St.at(s:St)(pos:Int):St:=.mk s.op s.name s.u2 s.names s.type s.int s.place s.u3 s.body s.els s.arms pos
abbrev Blk:=RS->Option (List St × RS)
def letQ(l:List Tok)(n:Nat)(ex:RS->Option (Ex × RS))(s:RS):Option (St × RS):=
 if zGV l s 3=true then
  none
 else(zYQ l n ex (zAY l (zBN l s 2) [(⟨#[61]⟩:BA)])).map fun r=>(st0 1 (zAJ l s 2) emS [r.1] [] [],zAY l r.2 [(⟨#[59]⟩:BA)])
def zYR(l:List Tok)(s:RS):Option (St × RS):=none
def zWQ(l:List Tok)(ka:Blk)(s:RS):Option (List St × RS):=ka (zAY l s [(⟨#[123]⟩:BA)])
def zSq(l:List Tok)(ex:RS->Option (Ex × RS))(ka:Blk)(s:RS):Option (St × RS):=none
def zM6(l:List Tok)(ex:RS->Option (Ex × RS))(ka:Blk)(s:RS):Option (St × RS):=
 match ex s with
 |none=>none
 |some (e,s1)=>match zWQ l ka s1 with
  |none=>none
  |some (b,s2)=>if isP l s2 (⟨#[101,108,115,101]⟩:BA) 0=true then none else some (st0 6 emS emS [e] b [],s2)
def zSr(l:List Tok)(ka:Blk)(s:RS):Option (St × RS):=none
def zSs(ka:Blk)(s:RS):Option (St × RS):=none
def zYS(l:List Tok)(n:Nat)(ka:Blk)(s:RS):Option (St × RS):=none
def zSt(l:List Tok)(n:Nat)(ka:Blk)(s:RS):Option (St × RS):=none
def zSu(l:List Tok)(n:Nat)(ex:RS->Option (Ex × RS))(ka:Blk)(s:RS):Option (St × RS):=none
def zYT(l:List Tok)(n:Nat)(s:RS):Option (St × RS):=none
def zGE(l:List Tok)(n:Nat)(ex:RS->Option (Ex × RS))(ka:Blk)(w:BA)(s:RS):Option (Option (St × RS)):=
 if sEq w (⟨#[108,101,116]⟩:BA)=true then some (letQ l n ex s)
 else if sEq w (⟨#[100,114,111,112]⟩:BA)=true then some (zYR l s)
 else if sEq w (⟨#[105,102]⟩:BA)=true then some (zM6 l ex ka s)
 else if sEq w (⟨#[119,104,105,108,101]⟩:BA)=true then some (zSq l ex ka s)
 else if sEq w (⟨#[109,97,116,99,104]⟩:BA)=true then some (zSt l n ka s)
 else if sEq w (⟨#[115,99,111,112,101]⟩:BA)=true then some (zSr l ka s)
 else if sEq w (⟨#[115,112,97,119,110]⟩:BA)=true then some (zSu l n ex ka s)
 else if sEq w (⟨#[108,111,99,107]⟩:BA)=true then some (zYS l n ka s)
 else if sEq w (⟨#[99,104,97,110]⟩:BA)=true then some (zYT l n s)
 else if sEq w (⟨#[123]⟩:BA)=true then some (zSs ka s)
 else none
def zSv(l:List Tok)(n:Nat)(ex:RS->Option (Ex × RS))(ka:Blk)(s:RS):Option (Option St × RS):=
 if s.bad=true then some (none,s)
 else match l[s.at_]? with
  |none=>some (none,s)
  |some x=>match zGE l n ex ka x.text ⟨s.at_+1,s.bad,s.full⟩with
   |none=>some (none,s)
   |some none=>none
   |some (some (st,s1))=>some (some (st.at x.pos),s1)
def zM7(l:List Tok)(n:Nat)(ex:RS->Option (Ex × RS))(s:RS):Option (Option St × RS):=
 if s.bad=true then some (none,s)
 else match l[s.at_]? with
  |none=>some (none,s)
  |some x=>
   if x.kind=2/\isP l s (⟨#[40]⟩:BA) 1=false then
    match zGz l n s with
    |none=>none
    |some (p,s1)=>
     if s1.bad=false/\isP l s1 (⟨#[61]⟩:BA) 0=true then(ex (mayP l s1 (⟨#[61]⟩:BA))).map fun r=>(some (.mk 3 emS emS [] zLa 0 p [r.1] [] [] [] x.pos),zAY l r.2 [(⟨#[59]⟩:BA)])
     else some (none,s)
   else some (none,s)
def zIX(l:List Tok)(n:Nat)(ex:RS->Option (Ex × RS))(ka:Blk)(s:RS):Option (Option St × RS):=
 match zSv l n ex ka s with
 |none=>none
 |some (some st,s1)=>some (some st,s1)
 |some (none,s1)=>zM7 l n ex s1
def zCQ(l:List Tok):Nat->List St->RS->Option (List St × RS)
 |0,_,_=>none
 |n+1,acc,s=>
  if s.bad=true then some (acc,s)
  else if isP l s (⟨#[125]⟩:BA) 0=true then some (acc,mayP l s (⟨#[125]⟩:BA))
  else match zIX l n (zAm l n 6) (zCQ l n []) s with
   |none=>none
   |some (some st,s1)=>zCQ l n (acc++[st]) s1
   |some (none,s1)=>match zAm l n 6 s1 with
    |none=>none
    |some (e,s2)=>zCQ l n (acc++[(st0 4 emS emS [e] [] []).at (zBY l s1)]) (zAY l s2 [(⟨#[59]⟩:BA)])
def zIv(l:List Tok):Nat->List St->RS->Option ((List St × Ex) × RS)
 |0,_,_=>none
 |n+1,acc,s=>
  if s.bad=true then some (([],zFa),s)
  else match zIX l n (zAm l n 6) (zCQ l n []) s with
   |none=>none
   |some (some st,s1)=>zIv l n (acc++[st]) s1
   |some (none,s1)=>match zAm l n 6 s1 with
    |none=>none
    |some (e,s2)=>if isP l s2 (⟨#[125]⟩:BA) 0=true then some ((acc,e),s2)else zIv l n (acc++[(st0 4 emS emS [e] [] []).at (zBY l s1)]) (zAY l s2 [(⟨#[59]⟩:BA)])
def zPz(l:List Tok)(n:Nat)(s:RS):Option (It × RS):=
 if isP l s (⟨#[115,116,114,117,99,116]⟩:BA) 0=true then zU3 l n s
 else if isP l s (⟨#[101,110,117,109]⟩:BA) 0=true then none
 else
  match zLc l (zH8 l n) (⟨#[41]⟩:BA) n (zAY l (zBN l (zAY l s [(⟨#[102,110]⟩:BA)]) 2) [(⟨#[40]⟩:BA)])with
  |none=>none
  |some (fs,s2)=>
   match zGy l n (zAY l s2 [(⟨#[45,62]⟩:BA)])with
   |none=>none
   |some (t,s3)=>
    match zIv l n [] (zAY l s3 [(⟨#[123]⟩:BA)])with
    |none=>none
    |some ((b,e),s4)=>some (⟨3,zAJ l (zAY l s [(⟨#[102,110]⟩:BA)]) 2,fs,t,b,e,zBY l s⟩,zAY l s4 [(⟨#[125]⟩:BA)])
def zLx(l:List Tok)(n:Nat):Nat->List It->RS->Option (List It × RS)
 |0,_,_=>none
 |f+1,acc,s=>
  if s.at_<l.length/\s.bad=false then
   match zPz l n s with
   |none=>none
   |some (x,s1)=>zLx l n f (acc++[x]) s1
  else some (acc,s)
def zIY(n:Nat)(s:BA):Option (List It):=
 if 4000<s.size then none
 else match zFI n s.data.toList with
  |none=>none
  |some m=>
   match lexF n m (s.data.toList.drop m)with
   |none=>none
   |some l=>
    if 1500<l.length then none
    else match zLx l n n [] ⟨0,false,false⟩with
     |none=>none
     |some (p,s1)=>if s1.bad=true\/s1.full=true\/30<p.length then none else some p
end Go.Proofs.YtdflkegnmmkkoaaGreatDoor
namespace Go.Proofs.YtdflkegnmmkkoaaGreatDoor
open Go.RowKit _root_.Go.Proofs.Tryz
attribute [local simp] List.replicate List.range List.range.loop
variable{l:List Tok}{s:RS}
abbrev Hd:=BA × Ex
def Hd.enc(h:Hd):List PV:=pS h.1::h.2.enc
def RdOk(l:List Tok)(rd:RS->Option (Ex × RS)):Prop:=∀s e s',s.at_<=l.length->rd s=some (e,s')->RdC 178 [] l s s' (exV e)/\s'.at_<=l.length
theorem zIZ{t:BA}(h:isP l s t 0=false):mayP l s t=s:=by unfold mayP;rw[h];rfl
theorem zDW(t:BA)(hs:s.at_<=l.length){S:ASt}{d i:Nat}{s0:RS}(hR:RAt S d i l s0)(L:List AObj)(a b:Nat):
  ADet Tryz.prog 137 [.ptr (d+1) i 0,.osl 1 [[pS t]] a b] (L::set2 S d i (rdO l s)) .un (L::set2 S d i (rdO l (zAY l s [t]))):=
 ADet.sub (.cons (.refl _) (.cons (.osl (.refl _)) (.refl _))) ((zFb s [t] (by simp) hs).at hR hs L)
theorem zb1{n:Nat}(hn:n<=100000){rd:RS->Option (Ex × RS)}(Oa:RdOk l rd){e:Ex}{s':RS}(hs:s.at_<=l.length)(h:zYQ l n rd s=some (e,s')):RdC 229 [] l s s' (exV e)/\s'.at_<=l.length:=by
 unfold zYQ at h
 cases hi:isP l s (⟨#[38]⟩:BA) 0 with
 |false=>
  rw[hi,if_neg (by simp)]at h
  obtain⟨eC,Ma⟩:=Oa _ _ _ hs h
  refine⟨RdC.intro fun S d i hR=>?_,Ma⟩
  refine ADet.intro mixed call229 func229 rfl ?_;simp[ntmps229];refine cq ((zAZ s).at hR hs _) ?_;simp;refine cq ((mayW s (⟨#[38]⟩:BA)).at hR hs _) ?_;rw[hi,zIZ hi];simp;refine cq (eC.at hR hs _) ?_
  simp
 |true=>
  rw[hi,if_pos rfl]at h
  obtain⟨⟨p,s1⟩,hp,he⟩:=Option.map_eq_some_iff.1 h
  cases he
  have xa:=zA0 (s:=s) (⟨#[38]⟩:BA) hs
  have Pb:=zA0 (s:=mayP l s (⟨#[38]⟩:BA)) (⟨#[109,117,116]⟩:BA) xa
  have pC:=zSm hn Pb hp
  refine⟨?_,(zGC Pb hp).1⟩
  cases h2:isP l (mayP l s (⟨#[38]⟩:BA)) (⟨#[109,117,116]⟩:BA) 0 with
  |true=>
   rw[if_pos rfl];refine RdC.less (r:=.agg [U 6,I 0,Sg emS,Sg emS,Sg p.name,.p (strs p.path),nilS,I (zBY l s)]) (by repeat' constructor) (RdC.intro fun S d i hR=>?_)
   refine ADet.intro mixed call229 func229 rfl ?_;simp[ntmps229];refine cq ((zAZ s).at hR hs _) ?_;simp;refine cq ((mayW s (⟨#[38]⟩:BA)).at hR hs _) ?_;rw[hi];simp;refine cq ((mayW _ (⟨#[109,117,116]⟩:BA)).at hR xa _) ?_;rw[h2];simp;refine cq (pC.at hR Pb _) ?_
   simp
  |false=>
   rw[if_neg (by simp)]
   refine RdC.less (r:=.agg [U 5,I 0,Sg emS,Sg emS,Sg p.name,.p (strs p.path),nilS,I (zBY l s)]) (by repeat' constructor) (RdC.intro fun S d i hR=>?_)
   refine ADet.intro mixed call229 func229 rfl ?_;simp[ntmps229];refine cq ((zAZ s).at hR hs _) ?_;simp;refine cq ((mayW s (⟨#[38]⟩:BA)).at hR hs _) ?_;rw[hi];simp;refine cq ((mayW _ (⟨#[109,117,116]⟩:BA)).at hR xa _) ?_;rw[h2];simp;refine cq (pC.at hR Pb _) ?_;simp
attribute [local simp] List.forall_mem_cons List.contains_cons List.contains_nil List.find?
theorem zab(L:List AObj)(S:ASt):ADet Tryz.prog 236 [] (L::S) (.mp 0 L.length) ((L++[mapK zPy])::S):=by
 refine ADet.flat mixed call236 func236 rfl ?_;simp[ntmps236,zDC,zj,mapK,zPy,zCX]
theorem zVY{s s1:RS}{p:Pl}(op:Int)(pos:Int)(hop:op=24\/op=28\/op=32\/op=36)(hs:s.at_<=l.length)(pC:RdC 203 [] l (zAY l s [(⟨#[40]⟩:BA)]) s1 (plV p))(Ma:s1.at_<=l.length):RdC 237 [U op,I pos] l s (zAY l s1 [(⟨#[41]⟩:BA)]) (exV (.mk op 0 emS emS p [] pos)):=by
 have xa:=zk [(⟨#[40]⟩:BA)] _ hs
 refine RdC.less (r:=.agg [U op,I 0,Sg emS,Sg emS,Sg p.name,.p (strs p.path),nilS,I pos]) (by repeat' constructor) (RdC.intro fun S d i hR=>?_)
 refine ADet.intro mixed call237 func237 rfl ?_
 rcases hop with rfl|rfl|rfl|rfl
 all_goals
  simp[ntmps237];refine cq (zDW _ hs hR _ _ _) ?_;simp;refine cq (pC.at hR xa _) ?_;simp;refine cq (zDW _ Ma hR _ _ _) ?_;simp
theorem zVZ{s s2:RS}{e:Ex}(op:Int)(pos:Int)(h1:¬(op=24\/op=28\/op=32\/op=36))(h2:¬(op=25\/op=33\/op=34\/op=35))(hs:s.at_<=l.length)(eC:RdC 178 [] l (zAY l s [(⟨#[40]⟩:BA)]) s2 (exV e))(Ra:s2.at_<=l.length):RdC 237 [U op,I pos] l s (zAY l s2 [(⟨#[41]⟩:BA)]) (exV (ex0 op 0 emS [e] pos)):=by
 have xa:=zk [(⟨#[40]⟩:BA)] _ hs
 simp only[not_or]at h1 h2
 obtain⟨a1,a2,a3,a4⟩:=h1
 obtain⟨b1,b2,b3,b4⟩:=h2
 refine RdC.less (r:=.agg [U op,I 0,Sg emS,Sg emS,Sg emS,nilS,.p (.sl 8 ([e].map Ex.enc)),I pos]) (by repeat' constructor) (RdC.intro fun S d i hR=>?_)
 refine ADet.intro mixed call237 func237 rfl ?_;simp[ntmps237];refine cq (zDW _ hs hR _ _ _) ?_;simp[a1,a2,a3,a4,b1,b2,b3,b4];refine cq (eC.at hR xa _) ?_;simp;refine cq (zDW _ Ra hR _ _ _) ?_;simp[zg]
theorem zYU{n:Nat}(hn:n<=100000){rd:RS->Option (Ex × RS)}(Oa:RdOk l rd){op pos:Int}{e:Ex}{s':RS}(hs:s.at_<=l.length)(h:zM4 l n rd op pos s=some (e,s')):RdC 237 [U op,I pos] l s s' (exV e)/\s'.at_<=l.length:=by
 have xa:=zk [(⟨#[40]⟩:BA)] _ hs
 unfold zM4 at h;split at h
 .rename_i hop
  obtain⟨⟨p,s1⟩,hp,he⟩:=Option.map_eq_some_iff.1 h
  cases he
  have Ma:=(zGC xa hp).1
  exact⟨zVY op pos hop hs (zSm hn xa hp) Ma,zk _ _ Ma⟩
 rename_i hop
 split at h
 .rename_i Qa
  cases h
 rename_i Qa
 obtain⟨⟨x,s2⟩,hx,he⟩:=Option.map_eq_some_iff.1 h
 cases he
 obtain⟨eC,Ra⟩:=Oa _ _ _ xa hx
 exact⟨zVZ op pos hop Qa hs eC Ra,zk _ _ Ra⟩
end Go.Proofs.YtdflkegnmmkkoaaGreatDoor
