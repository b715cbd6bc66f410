/- A part of the proof. -/
import Derived.Test.YtdflkegnmmkkoaaGreatDoorXNVb
set_option linter.unusedVariables false
set_option linter.unusedSimpArgs false
set_option maxRecDepth 100000
set_option maxHeartbeats 32000000
namespace Go.Proofs.YtdflkegnmmkkoaaGreatDoor
def zW9:Pl:=⟨emS,[]⟩
abbrev ex0(op int:Int)(nm:BA)(l:List Ex)(pos:Int):Ex:=.mk op int nm emS zW9 l pos
def numT(t:BA):Option Int:=if 0<t.size/\t.size<=4000/\(t.data.toList.all fun b=>zAy b.toNat)=true/\zCI t.data.toList<9223372036854775808 then some (zCI t.data.toList:Int)else none
def zQD:List (BA × Int):=[((⟨#[98,111,120]⟩:BA),21),((⟨#[117,110,98,111,120]⟩:BA),22),((⟨#[99,101,108,108]⟩:BA),23),((⟨#[114,99]⟩:BA),26),((⟨#[97,114,99]⟩:BA),27),((⟨#[109,117,116,101,120]⟩:BA),29),((⟨#[111,112,101,110]⟩:BA),30),((⟨#[97,116,111,109,105,99]⟩:BA),31),
 ((⟨#[103,101,116]⟩:BA),24),((⟨#[99,108,111,110,101]⟩:BA),28),((⟨#[108,111,97,100]⟩:BA),32),((⟨#[114,101,99,118]⟩:BA),36),((⟨#[115,101,116]⟩:BA),25),((⟨#[115,116,111,114,101]⟩:BA),33),((⟨#[102,101,116,99,104]⟩:BA),34),((⟨#[115,101,110,100]⟩:BA),35)]
def zZO(l:List Tok)(n:Nat)(rd:RS->Option (Ex × RS))(s:RS):Option (Ex × RS):=
 if isP l s (⟨#[38]⟩:BA) 0=true then(zHN l n (mayP l (mayP l s (⟨#[38]⟩:BA)) (⟨#[109,117,116]⟩:BA))).map fun r=>(.mk (if isP l (mayP l s (⟨#[38]⟩:BA)) (⟨#[109,117,116]⟩:BA) 0=true then 6 else 5) 0 emS emS r.1 [] (zBd l s),r.2)
 else rd s
def zNK(l:List Tok)(n:Nat)(rd:RS->Option (Ex × RS))(op:Int)(pos:Int)(s:RS):Option (Ex × RS):=
 if op=24\/op=28\/op=32\/op=36 then(zHN l n (zAa l s [(⟨#[40]⟩:BA)])).map fun r=>(.mk op 0 emS emS r.1 [] pos,zAa l r.2 [(⟨#[41]⟩:BA)])
 else if op=25\/op=33\/op=34\/op=35 then none
 else(rd (zAa l s [(⟨#[40]⟩:BA)])).map fun r=>(ex0 op 0 emS [r.1] pos,zAa l r.2 [(⟨#[41]⟩:BA)])
def zXA(l:List Tok)(n:Nat)(rd:RS->Option (Ex × RS))(pos:Int)(s:RS):Option (Ex × RS):=none
def zNL(l:List Tok)(n:Nat)(rd:RS->Option (Ex × RS))(s:RS):Option (Ex × RS):=
 if s.bad=true then some (zFn,s)
 else match l[s.at_]? with
  |none=>some (zFn,⟨s.at_,true,s.full⟩)
  |some x=>
   if x.kind=4 then(numT x.text).map fun v=>(ex0 1 v emS [] x.pos,⟨s.at_+1,s.bad,s.full⟩)
   else if x.kind=3 then zXA l n rd x.pos s
   else if x.kind=2 then
    if isP l s (⟨#[40]⟩:BA) 1=true then none
    else(zHN l n s).map fun r=>(.mk 4 0 emS emS r.1 [] x.pos,r.2)
   else match zB7 x.text zQD with
    |some op=>zNK l n rd op x.pos ⟨s.at_+1,s.bad,s.full⟩
    |none=>none
def zDg(l:List Tok)(rd:RS->Option (Ex × RS))(k:Nat):Nat->Ex->RS->Option (Ex × RS)
 |0,_,_=>none
 |n+1,e,s=>
  if s.bad=true then some (e,s)
  else match l[s.at_]? with
   |none=>some (e,s)
   |some x=>match zB7 x.text (zB8 k)with
    |none=>some (e,s)
    |some op=>match rd ⟨s.at_+1,s.bad,s.full⟩with
     |none=>none
     |some (r,s1)=>if k=3 then some (ex0 op 0 emS [e,r] x.pos,s1)else zDg l rd k n (ex0 op 0 emS [e,r] x.pos) s1
def zAn(l:List Tok):Nat->Nat->RS->Option (Ex × RS)
 |0,_,_=>none
 |n+1,0,s=>
  if s.bad=true then some (zFn,s)
  else if isP l s (⟨#[45]⟩:BA) 0=true then none
  else zNL l n (zAn l n 6) s
 |n+1,j+1,s=>
  if s.bad=true then some (zFn,s)
  else if j=3/\isP l s (⟨#[110,111,116]⟩:BA) 0=true then(zAn l n 4 (mayP l s (⟨#[110,111,116]⟩:BA))).map fun r=>(ex0 8 0 emS [r.1] (zBd l s),r.2)
  else
   match zAn l n j s with
   |none=>none
   |some (e,s1)=>zDg l (zAn l n j) (5-j) n e s1
abbrev st0(op:Int)(nm second:BA)(es:List Ex)(body els:List St):St:=.mk op nm second [] zLn 0 zW9 es body els [] 0
def St.at(s:St)(pos:Int):St:=.mk s.op s.name s.u2 s.names s.type s.int s.place s.u3 s.body s.els s.arms pos
abbrev Blk:=RS->Option (List St × RS)
def letQ(l:List Tok)(n:Nat)(ex:RS->Option (Ex × RS))(s:RS):Option (St × RS):=
 if zGn l s 3=true then
  none
 else(zZO l n ex (zAa l (zBO l s 2) [(⟨#[61]⟩:BA)])).map fun r=>(st0 1 (zAN l s 2) emS [r.1] [] [],zAa l r.2 [(⟨#[59]⟩:BA)])
def zZP(l:List Tok)(s:RS):Option (St × RS):=none
def zXB(l:List Tok)(ka:Blk)(s:RS):Option (List St × RS):=ka (zAa l s [(⟨#[123]⟩:BA)])
def zTH(l:List Tok)(ex:RS->Option (Ex × RS))(ka:Blk)(s:RS):Option (St × RS):=none
def zNM(l:List Tok)(ex:RS->Option (Ex × RS))(ka:Blk)(s:RS):Option (St × RS):=
 match ex s with
 |none=>none
 |some (e,s1)=>match zXB l ka s1 with
  |none=>none
  |some (b,s2)=>if isP l s2 (⟨#[101,108,115,101]⟩:BA) 0=true then none else some (st0 6 emS emS [e] b [],s2)
def zTI(l:List Tok)(ka:Blk)(s:RS):Option (St × RS):=none
def zTJ(ka:Blk)(s:RS):Option (St × RS):=none
def zZQ(l:List Tok)(n:Nat)(ka:Blk)(s:RS):Option (St × RS):=none
def zTK(l:List Tok)(n:Nat)(ka:Blk)(s:RS):Option (St × RS):=none
def zTL(l:List Tok)(n:Nat)(ex:RS->Option (Ex × RS))(ka:Blk)(s:RS):Option (St × RS):=none
def zZR(l:List Tok)(n:Nat)(s:RS):Option (St × RS):=none
def zGZ(l:List Tok)(n:Nat)(ex:RS->Option (Ex × RS))(ka:Blk)(w:BA)(s:RS):Option (Option (St × RS)):=
 if sEq w (⟨#[108,101,116]⟩:BA)=true then some (letQ l n ex s)
 else if sEq w (⟨#[100,114,111,112]⟩:BA)=true then some (zZP l s)
 else if sEq w (⟨#[105,102]⟩:BA)=true then some (zNM l ex ka s)
 else if sEq w (⟨#[119,104,105,108,101]⟩:BA)=true then some (zTH l ex ka s)
 else if sEq w (⟨#[109,97,116,99,104]⟩:BA)=true then some (zTK l n ka s)
 else if sEq w (⟨#[115,99,111,112,101]⟩:BA)=true then some (zTI l ka s)
 else if sEq w (⟨#[115,112,97,119,110]⟩:BA)=true then some (zTL l n ex ka s)
 else if sEq w (⟨#[108,111,99,107]⟩:BA)=true then some (zZQ l n ka s)
 else if sEq w (⟨#[99,104,97,110]⟩:BA)=true then some (zZR l n s)
 else if sEq w (⟨#[123]⟩:BA)=true then some (zTJ ka s)
 else none
def zTM(l:List Tok)(n:Nat)(ex:RS->Option (Ex × RS))(ka:Blk)(s:RS):Option (Option St × RS):=
 if s.bad=true then some (none,s)
 else match l[s.at_]? with
  |none=>some (none,s)
  |some x=>match zGZ l n ex ka x.text ⟨s.at_+1,s.bad,s.full⟩with
   |none=>some (none,s)
   |some none=>none
   |some (some (st,s1))=>some (some (st.at x.pos),s1)
def zNN(l:List Tok)(n:Nat)(ex:RS->Option (Ex × RS))(s:RS):Option (Option St × RS):=
 if s.bad=true then some (none,s)
 else match l[s.at_]? with
  |none=>some (none,s)
  |some x=>
   if x.kind=2/\isP l s (⟨#[40]⟩:BA) 1=false then
    match zHN l n s with
    |none=>none
    |some (p,s1)=>
     if s1.bad=false/\isP l s1 (⟨#[61]⟩:BA) 0=true then(ex (mayP l s1 (⟨#[61]⟩:BA))).map fun r=>(some (.mk 3 emS emS [] zLn 0 p [r.1] [] [] [] x.pos),zAa l r.2 [(⟨#[59]⟩:BA)])
     else some (none,s)
   else some (none,s)
def zIx(l:List Tok)(n:Nat)(ex:RS->Option (Ex × RS))(ka:Blk)(s:RS):Option (Option St × RS):=
 match zTM l n ex ka s with
 |none=>none
 |some (some st,s1)=>some (some st,s1)
 |some (none,s1)=>zNN l n ex s1
def zCY(l:List Tok):Nat->List St->RS->Option (List St × RS)
 |0,_,_=>none
 |n+1,acc,s=>
  if s.bad=true then some (acc,s)
  else if isP l s (⟨#[125]⟩:BA) 0=true then some (acc,mayP l s (⟨#[125]⟩:BA))
  else match zIx l n (zAn l n 6) (zCY l n []) s with
   |none=>none
   |some (some st,s1)=>zCY l n (acc++[st]) s1
   |some (none,s1)=>match zAn l n 6 s1 with
    |none=>none
    |some (e,s2)=>zCY l n (acc++[(st0 4 emS emS [e] [] []).at (zBd l s1)]) (zAa l s2 [(⟨#[59]⟩:BA)])
def zJJ(l:List Tok):Nat->List St->RS->Option ((List St × Ex) × RS)
 |0,_,_=>none
 |n+1,acc,s=>
  if s.bad=true then some (([],zFn),s)
  else match zIx l n (zAn l n 6) (zCY l n []) s with
   |none=>none
   |some (some st,s1)=>zJJ l n (acc++[st]) s1
   |some (none,s1)=>match zAn l n 6 s1 with
    |none=>none
    |some (e,s2)=>if isP l s2 (⟨#[125]⟩:BA) 0=true then some ((acc,e),s2)else zJJ l n (acc++[(st0 4 emS emS [e] [] []).at (zBd l s1)]) (zAa l s2 [(⟨#[59]⟩:BA)])
def zQE(l:List Tok)(n:Nat)(s:RS):Option (It × RS):=
 if isP l s (⟨#[115,116,114,117,99,116]⟩:BA) 0=true then zVd l n s
 else if isP l s (⟨#[101,110,117,109]⟩:BA) 0=true then none
 else
  match zLp l (zIT l n) (⟨#[41]⟩:BA) n (zAa l (zBO l (zAa l s [(⟨#[102,110]⟩:BA)]) 2) [(⟨#[40]⟩:BA)])with
  |none=>none
  |some (fs,s2)=>
   match zHM l n (zAa l s2 [(⟨#[45,62]⟩:BA)])with
   |none=>none
   |some (t,s3)=>
    match zJJ l n [] (zAa l s3 [(⟨#[123]⟩:BA)])with
    |none=>none
    |some ((b,e),s4)=>some (⟨3,zAN l (zAa l s [(⟨#[102,110]⟩:BA)]) 2,fs,t,b,e,zBd l s⟩,zAa l s4 [(⟨#[125]⟩:BA)])
def zMC(l:List Tok)(n:Nat):Nat->List It->RS->Option (List It × RS)
 |0,_,_=>none
 |f+1,acc,s=>
  if s.at_<l.length/\s.bad=false then
   match zQE l n s with
   |none=>none
   |some (x,s1)=>zMC l n f (acc++[x]) s1
  else some (acc,s)
def zIy(n:Nat)(s:BA):Option (List It):=
 if 4000<s.size then none
 else match zFX n s.data.toList with
  |none=>none
  |some m=>
   match lexF n m (s.data.toList.drop m)with
   |none=>none
   |some l=>
    if 1500<l.length then none
    else match zMC l n n [] ⟨0,false,false⟩with
     |none=>none
     |some (p,s1)=>if s1.bad=true\/s1.full=true\/30<p.length then none else some p
end Go.Proofs.YtdflkegnmmkkoaaGreatDoor
namespace Go.Proofs.YtdflkegnmmkkoaaGreatDoor
open Go.RowKit _root_.Go.Proofs.Tryz
attribute [local simp] List.replicate List.range List.range.loop
variable{l:List Tok}{n:Nat}{s:RS}
abbrev Hd:=BA × Ex
def Hd.enc(h:Hd):List PV:=pS h.1::h.2.enc
def RdOk(l:List Tok)(rd:RS->Option (Ex × RS)):Prop:=∀s e s',s.at_<=l.length->rd s=some (e,s')->RdC 178 [] l s s' (exV e)/\s'.at_<=l.length
theorem zIz{t:BA}(h:isP l s t 0=false):mayP l s t=s:=by unfold mayP;rw[h];rfl
theorem zDh(t:BA)(hs:s.at_<=l.length){S:ASt}{d i:Nat}{s0:RS}(hR:RAt S d i l s0)(L:List AObj)(a b:Nat):
  ADet Tryz.prog 137 [.ptr (d+1) i 0,.osl 1 [[pS t]] a b] (L::set2 S d i (rdO l s)) .un (L::set2 S d i (rdO l (zAa l s [t]))):=
 ADet.sub (.cons (.refl _) (.cons (.osl (.refl _)) (.refl _))) ((zFo s [t] (by simp) hs).at hR hs L)
theorem zcv(hn:n<=100000){rd:RS->Option (Ex × RS)}(Na:RdOk l rd){e:Ex}{s':RS}(hs:s.at_<=l.length)(h:zZO l n rd s=some (e,s')):RdC 229 [] l s s' (exV e)/\s'.at_<=l.length:=by
 unfold zZO at h
 cases hi:isP l s (⟨#[38]⟩:BA) 0 with
 |false=>
  rw[hi,if_neg (by simp)]at h
  obtain⟨eC,La⟩:=Na _ _ _ hs h
  refine⟨RdC.intro fun S d i hR=>?_,La⟩
  refine ADet.intro mixed call229 func229 rfl ?_;simp[ntmps229];refine cq ((zAb s).at hR hs _) ?_;simp;refine cq ((mayW s (⟨#[38]⟩:BA)).at hR hs _) ?_;rw[hi,zIz hi];simp;refine cq (eC.at hR hs _) ?_
  simp
 |true=>
  rw[hi,if_pos rfl]at h
  obtain⟨⟨p,s1⟩,hp,he⟩:=Option.map_eq_some_iff.1 h
  cases he
  have ya:=zA2 (s:=s) (⟨#[38]⟩:BA) hs
  have Ob:=zA2 (s:=mayP l s (⟨#[38]⟩:BA)) (⟨#[109,117,116]⟩:BA) ya
  have pC:=zS6 hn Ob hp
  refine⟨?_,(zGT Ob hp).1⟩
  cases h2:isP l (mayP l s (⟨#[38]⟩:BA)) (⟨#[109,117,116]⟩:BA) 0 with
  |true=>
   rw[if_pos rfl];refine RdC.less (r:=.agg [U 6,I 0,Sg emS,Sg emS,Sg p.name,.p (strs p.path),nilS,I (zBd l s)]) (by repeat' constructor) (RdC.intro fun S d i hR=>?_)
   refine ADet.intro mixed call229 func229 rfl ?_;simp[ntmps229];refine cq ((zAb s).at hR hs _) ?_;simp;refine cq ((mayW s (⟨#[38]⟩:BA)).at hR hs _) ?_;rw[hi];simp;refine cq ((mayW _ (⟨#[109,117,116]⟩:BA)).at hR ya _) ?_;rw[h2];simp;refine cq (pC.at hR Ob _) ?_
   simp
  |false=>
   rw[if_neg (by simp)]
   refine RdC.less (r:=.agg [U 5,I 0,Sg emS,Sg emS,Sg p.name,.p (strs p.path),nilS,I (zBd l s)]) (by repeat' constructor) (RdC.intro fun S d i hR=>?_)
   refine ADet.intro mixed call229 func229 rfl ?_;simp[ntmps229];refine cq ((zAb s).at hR hs _) ?_;simp;refine cq ((mayW s (⟨#[38]⟩:BA)).at hR hs _) ?_;rw[hi];simp;refine cq ((mayW _ (⟨#[109,117,116]⟩:BA)).at hR ya _) ?_;rw[h2];simp;refine cq (pC.at hR Ob _) ?_;simp
attribute [local simp] List.forall_mem_cons List.contains_cons List.contains_nil List.find?
theorem zbg(L:List AObj)(S:ASt):ADet Tryz.prog 236 [] (L::S) (.mp 0 L.length) ((L++[mapK zQD])::S):=by
 refine ADet.flat mixed call236 func236 rfl ?_;simp[ntmps236,zDK,zj,mapK,zQD,zCg]
theorem zWK{s s1:RS}{p:Pl}(op:Int)(pos:Int)(hop:op=24\/op=28\/op=32\/op=36)(hs:s.at_<=l.length)(pC:RdC 203 [] l (zAa l s [(⟨#[40]⟩:BA)]) s1 (plV p))(La:s1.at_<=l.length):RdC 237 [U op,I pos] l s (zAa l s1 [(⟨#[41]⟩:BA)]) (exV (.mk op 0 emS emS p [] pos)):=by
 have ya:=zk [(⟨#[40]⟩:BA)] _ hs
 refine RdC.less (r:=.agg [U op,I 0,Sg emS,Sg emS,Sg p.name,.p (strs p.path),nilS,I pos]) (by repeat' constructor) (RdC.intro fun S d i hR=>?_)
 refine ADet.intro mixed call237 func237 rfl ?_
 rcases hop with rfl|rfl|rfl|rfl
 all_goals
  simp[ntmps237];refine cq (zDh _ hs hR _ _ _) ?_;simp;refine cq (pC.at hR ya _) ?_;simp;refine cq (zDh _ La hR _ _ _) ?_;simp
theorem zWL{s s2:RS}{e:Ex}(op:Int)(pos:Int)(h1:¬(op=24\/op=28\/op=32\/op=36))(h2:¬(op=25\/op=33\/op=34\/op=35))(hs:s.at_<=l.length)(eC:RdC 178 [] l (zAa l s [(⟨#[40]⟩:BA)]) s2 (exV e))(Ra:s2.at_<=l.length):RdC 237 [U op,I pos] l s (zAa l s2 [(⟨#[41]⟩:BA)]) (exV (ex0 op 0 emS [e] pos)):=by
 have ya:=zk [(⟨#[40]⟩:BA)] _ hs
 simp only[not_or]at h1 h2
 obtain⟨a1,a2,a3,a4⟩:=h1
 obtain⟨b1,b2,b3,b4⟩:=h2
 refine RdC.less (r:=.agg [U op,I 0,Sg emS,Sg emS,Sg emS,nilS,.p (.sl 8 ([e].map Ex.enc)),I pos]) (by repeat' constructor) (RdC.intro fun S d i hR=>?_)
 refine ADet.intro mixed call237 func237 rfl ?_;simp[ntmps237];refine cq (zDh _ hs hR _ _ _) ?_;simp[a1,a2,a3,a4,b1,b2,b3,b4];refine cq (eC.at hR ya _) ?_;simp;refine cq (zDh _ Ra hR _ _ _) ?_;simp[zm]
theorem zZS(hn:n<=100000){rd:RS->Option (Ex × RS)}(Na:RdOk l rd){op pos:Int}{e:Ex}{s':RS}(hs:s.at_<=l.length)(h:zNK l n rd op pos s=some (e,s')):RdC 237 [U op,I pos] l s s' (exV e)/\s'.at_<=l.length:=by
 have ya:=zk [(⟨#[40]⟩:BA)] _ hs
 unfold zNK at h;split at h
 .rename_i hop
  obtain⟨⟨p,s1⟩,hp,he⟩:=Option.map_eq_some_iff.1 h
  cases he
  have La:=(zGT ya hp).1
  exact⟨zWK op pos hop hs (zS6 hn ya hp) La,zk _ _ La⟩
 rename_i hop
 split at h
 .rename_i Qa
  cases h
 rename_i Qa
 obtain⟨⟨x,s2⟩,hx,he⟩:=Option.map_eq_some_iff.1 h
 cases he
 obtain⟨eC,Ra⟩:=Na _ _ _ ya hx
 exact⟨zWL op pos hop Qa hs eC Ra,zk _ _ Ra⟩
theorem zC2{x:Tok}(h:l[s.at_]? =some x):zBd l s=x.pos:=by unfold zBd;rw[h]
def SgOk(l:List Tok)(k:Nat)(rd:RS->Option (Ex × RS)):Prop:=∀s e s',s.at_<=l.length->rd s=some (e,s')->RdC 204 [I k] l s s' (exV e)/\s'.at_<=l.length
structure XQ where
 e:Ex
 q:PV
 rw:List (List PV)
abbrev XQ.row(x:XQ):List PV:=[pU x.e.op,pI x.e.int,pS x.e.name,pS x.e.u2,pS x.e.place.name,x.q,.sl 8 x.rw,pI x.e.pos]
abbrev XQ.av(x:XQ):List AV:=[U x.e.op,I x.e.int,Sg x.e.name,Sg x.e.u2,Sg x.e.place.name,.p x.q,.p (.sl 8 x.rw),I x.e.pos]
def XQ.ok(x:XQ):Prop:=LeP x.q (strs x.e.place.path)/\LeRows x.rw (x.e.args.map Ex.enc)
def XQ.of(e:Ex):XQ:=⟨e,strs e.place.path,e.args.map Ex.enc⟩
theorem XQ.of_ok(e:Ex):(XQ.of e).ok:=⟨.refl _,.refl _⟩
def XQ.two(x:XQ)(op:Int)(r:Ex)(pos:Int):XQ:=⟨ex0 op 0 emS [x.e,r] pos,.v (.slice none 0 0),[x.row,r.enc]⟩
theorem XQ.row_le{x:XQ}(h:x.ok):LeRow x.row x.e.enc:=by
 rw[zm];exact .cons (.refl _) (.cons (.refl _) (.cons (.refl _) (.cons (.refl _) (.cons (.refl _) (.cons h.1 (.cons (.sl h.2) (.refl _)))))))
theorem XQ.two_ok{x:XQ}(h:x.ok)(op:Int)(r:Ex)(pos:Int):(x.two op r pos).ok:=⟨.nil 1,.cons (XQ.row_le h) (.refl _)⟩
theorem XQ.av_le{x:XQ}(h:x.ok):LeA (.agg x.av) (exV x.e):=.agg (.cons (.refl _) (.cons (.refl _) (.cons (.refl _) (.cons (.refl _) (.cons (.refl _) (.cons (.p h.1) (.cons (.p (.sl h.2)) (.refl _))))))))
def zBf(l:List Tok)(rd:RS->Option (Ex × RS))(k:Nat):Nat->XQ->RS->Option (XQ × RS)
 |0,_,_=>none
 |n+1,x,s=>
  if s.bad=true then some (x,s)
  else match l[s.at_]? with
   |none=>some (x,s)
   |some t=>match zB7 t.text (zB8 k)with
    |none=>some (x,s)
    |some op=>match rd ⟨s.at_+1,s.bad,s.full⟩with
     |none=>none
     |some (r,s1)=>if k=3 then some (x.two op r t.pos,s1)else zBf l rd k n (x.two op r t.pos) s1
theorem zDS{l:List Tok}{rd:RS->Option (Ex × RS)}{k:Nat}:∀(n:Nat) (x:XQ) (s:RS) (e':Ex) (s':RS),x.ok->zDg l rd k n x.e s=some (e',s')->∃y,zBf l rd k n x s=some (y,s')/\y.e=e'/\y.ok
 |0,x,s,e',s',ho,h=>by simp[zDg]at h
 |n+1,x,s,e',s',ho,h=>by
  unfold zDg at h;unfold zBf
  cases hb:s.bad with
  |true=>
   rw[hb,if_pos rfl]at h;cases h
   exact⟨x,by rw[if_pos rfl],rfl,ho⟩
  |false=>
  rw[hb,if_neg (by simp)]at h
  rw[if_neg (by simp)]
  cases hx:l[s.at_]? with
  |none=>rw[hx]at h;cases h;exact⟨x,rfl,rfl,ho⟩
  |some t=>
  rw[hx]at h
  dsimp only at h ⊢
  cases hf:zB7 t.text (zB8 k)with
  |none=>rw[hf]at h;cases h;exact⟨x,rfl,rfl,ho⟩
  |some op=>
  rw[hf]at h
  dsimp only at h ⊢
  cases hr:rd ⟨s.at_+1,false,s.full⟩with
  |none=>rw[hr]at h;cases h
  |some y=>
  obtain⟨r,s1⟩:=y
  rw[hr]at h
  dsimp only at h ⊢
  by_cases h3:k=3
  .rw[if_pos h3]at h ⊢
   cases h;exact⟨_,rfl,rfl,XQ.two_ok ho _ _ _⟩
  rw[if_neg h3]at h ⊢
  exact zDS n _ s1 e' s' (XQ.two_ok ho _ _ _) h
theorem zbh{rd:RS->Option (Ex × RS)}(Na:SgOk l 1 rd){s s1 s':RS}{e0 e':Ex}(hs:s.at_<=l.length)(hb:s.bad=false)(h1:rd s=some (e0,s1))(hq:zDg l rd 0 n e0 s1=some (e',s'))(Qc:s'.at_<=l.length):RdC 204 [I (0:Nat)] l s s' (exV e'):=by
 obtain⟨y,h,rfl,hy⟩:=zDS n (XQ.of e0) s1 e' s' (XQ.of_ok e0) hq
 refine RdC.less (r:=.agg y.av) (XQ.av_le hy) (RdC.intro fun S d i hR=>?_)
 have ho:=(hR.upd s hs).o
 have hn:=hR.n
 obtain⟨ih,La⟩:=Na _ _ _ hs h1
 refine ADet.intro mixed call204 func204 rfl ?_;simp[ntmps204];refine cq ((zAb s).at hR hs _) ?_;simp[ho,hb];refine cq (ih.at hR hs _) ?_;simp;refine zF (fun a:Nat × XQ × RS=>zBf l rd 0 a.1 a.2.1 a.2.2=some (y,s')/\a.2.2.at_<=l.length) (fun a=>([.ptr (d+1) i 0,I 0,.any,.any,.ptr 0 0 0,.any,.ptr 0 1 0]++List.replicate 103 .any)) (fun a=>[.cells [.any,.any,.any,.any,.any,.any,.any,.any] 43,.cells a.2.1.av 43]::set2 S d i (rdO l a.2.2)) (fun a=>a.1) (n,XQ.of e0,s1) ⟨h,La⟩ ?_ ?_ ?_
 .simp
 .simp[XQ.of]
 clear ih La h1 h ho hq
 rintro⟨m,e,s4⟩ ⟨hl,Va⟩
 simp only at hl Va
 cases m with
 |zero=>simp[zBf]at hl
 |succ m=>
 have yb:=(hR.upd s4 Va).o
 unfold zBf at hl;simp;refine dB [] (by kernel_rfl) ?_
 cases hb4:s4.bad with
 |true=>
  rw[hb4,if_pos rfl]at hl;cases hl
  simp[yb,hb4]
 |false=>
 rw[hb4,if_neg (by simp)]at hl
 cases hx:l[s4.at_]? with
 |none=>
  rw[hx]at hl;cases hl
  have hlt:¬(s'.at_:Int)<(l.length:Int):=by have:=List.getElem?_eq_none_iff.1 hx;omega
  simp[yb,hb4,hlt]
 |some x=>
 rw[hx]at hl
 have Ef:s4.at_<l.length:=(List.getElem?_eq_some_iff.1 hx).1
 have hlt:(s4.at_:Int)<(l.length:Int):=by omega
 dsimp only at hl
 obtain⟨j,hj⟩:=z7 x.text (zB8 0) 0
 simp[yb,hb4,hlt];refine dB [(5,1),(9,1),(12,1)] (by kernel_rfl) ?_
 simp[yb,hb4,hlt]
 obtain⟨X,sC⟩:=zJy 0 (by omega) [.cells [.any,.any,.any,.any,.any,.any,.any,.any] 43,.cells e.av 43] (set2 S d i (rdO l s4))
 refine cq sC ?_
 cases hf:zB7 x.text (zB8 0)with
 |none=>
  rw[hf]at hl hj;rw[Option.map_none]at hj;cases hl
  simp[yb,hb4,hlt,hx,Tok.enc,zGU,mapK,hj]
 |some op=>
  rw[hf]at hl hj;rw[Option.map_some]at hj
  dsimp only at hl
  have Ma:=zC2 hx
  obtain⟨Q,hQ⟩:∃Q,Q=s4.at_+1:=⟨_,rfl⟩
  have hw:IntKind.i64.wrap ((s4.at_:Int)+1)=(Q:Int):=by rw[hQ];exact zCk (b:=1) (by unfold maxLen;omega)
  rw[<-hQ]at hl
  have Ge:(⟨Q,s4.bad,s4.full⟩:RS).at_<=l.length:=by show Q<=_;omega
  have Um:=(hR.upd ⟨Q,s4.bad,s4.full⟩ Ge).o
  cases hr:rd ⟨Q,s4.bad,s4.full⟩with
  |none=>rw[<-hb4,hr]at hl;cases hl
  |some r=>
  obtain⟨r,s6⟩:=r
  rw[<-hb4,hr]at hl
  obtain⟨rC,kc⟩:=Na _ _ _ Ge hr
  rw[hb4]at rC;simp[yb,hb4,hlt,hx,Tok.enc,zGU,mapK,hj];refine cq ((zAb s4).at hR Va _) ?_;rw[Ma];simp[yb,hb4,hw];refine cq (rC.at hR (by show Q<=_;omega) _) ?_
  simp[zm]
  have we:zBf l rd 0 m (e.two op r x.pos) s6=some (y,s'):=hl
  exact⟨m,e.two op r x.pos,s6,⟨we,kc⟩,by omega,by simp[XQ.two,zm,ex0];exact⟨rfl,rfl,rfl,rfl,rfl,rfl⟩,rfl⟩
theorem zbi{rd:RS->Option (Ex × RS)}(Na:SgOk l 2 rd){s s1 s':RS}{e0 e':Ex}(hs:s.at_<=l.length)(hb:s.bad=false)(h1:rd s=some (e0,s1))(hq:zDg l rd 1 n e0 s1=some (e',s'))(Qc:s'.at_<=l.length):RdC 204 [I (1:Nat)] l s s' (exV e'):=by
 obtain⟨y,h,rfl,hy⟩:=zDS n (XQ.of e0) s1 e' s' (XQ.of_ok e0) hq
 refine RdC.less (r:=.agg y.av) (XQ.av_le hy) (RdC.intro fun S d i hR=>?_)
 have ho:=(hR.upd s hs).o
 have hn:=hR.n
 obtain⟨ih,La⟩:=Na _ _ _ hs h1
 refine ADet.intro mixed call204 func204 rfl ?_;simp[ntmps204];refine cq ((zAb s).at hR hs _) ?_;simp[ho,hb];refine cq (ih.at hR hs _) ?_;simp;refine zF (fun a:Nat × XQ × RS=>zBf l rd 1 a.1 a.2.1 a.2.2=some (y,s')/\a.2.2.at_<=l.length) (fun a=>([.ptr (d+1) i 0,I 1,.any,.any,.ptr 0 0 0,.any,.ptr 0 1 0]++List.replicate 103 .any)) (fun a=>[.cells [.any,.any,.any,.any,.any,.any,.any,.any] 43,.cells a.2.1.av 43]::set2 S d i (rdO l a.2.2)) (fun a=>a.1) (n,XQ.of e0,s1) ⟨h,La⟩ ?_ ?_ ?_
 .simp
 .simp[XQ.of]
 clear ih La h1 h ho hq
 rintro⟨m,e,s4⟩ ⟨hl,Va⟩
 simp only at hl Va
 cases m with
 |zero=>simp[zBf]at hl
 |succ m=>
 have yb:=(hR.upd s4 Va).o
 unfold zBf at hl;simp;refine dB [] (by kernel_rfl) ?_
 cases hb4:s4.bad with
 |true=>
  rw[hb4,if_pos rfl]at hl;cases hl
  simp[yb,hb4]
 |false=>
 rw[hb4,if_neg (by simp)]at hl
 cases hx:l[s4.at_]? with
 |none=>
  rw[hx]at hl;cases hl
  have hlt:¬(s'.at_:Int)<(l.length:Int):=by have:=List.getElem?_eq_none_iff.1 hx;omega
  simp[yb,hb4,hlt]
 |some x=>
 rw[hx]at hl
 have Ef:s4.at_<l.length:=(List.getElem?_eq_some_iff.1 hx).1
 have hlt:(s4.at_:Int)<(l.length:Int):=by omega
 dsimp only at hl
 obtain⟨j,hj⟩:=z7 x.text (zB8 1) 0
 simp[yb,hb4,hlt];refine dB [(5,1),(9,1),(12,1)] (by kernel_rfl) ?_
 simp[yb,hb4,hlt]
 obtain⟨X,sC⟩:=zJy 1 (by omega) [.cells [.any,.any,.any,.any,.any,.any,.any,.any] 43,.cells e.av 43] (set2 S d i (rdO l s4))
 refine cq sC ?_
 cases hf:zB7 x.text (zB8 1)with
 |none=>
  rw[hf]at hl hj;rw[Option.map_none]at hj;cases hl
  simp[yb,hb4,hlt,hx,Tok.enc,zGU,mapK,hj]
 |some op=>
  rw[hf]at hl hj;rw[Option.map_some]at hj
  dsimp only at hl
  have Ma:=zC2 hx
  obtain⟨Q,hQ⟩:∃Q,Q=s4.at_+1:=⟨_,rfl⟩
  have hw:IntKind.i64.wrap ((s4.at_:Int)+1)=(Q:Int):=by rw[hQ];exact zCk (b:=1) (by unfold maxLen;omega)
  rw[<-hQ]at hl
  have Ge:(⟨Q,s4.bad,s4.full⟩:RS).at_<=l.length:=by show Q<=_;omega
  have Um:=(hR.upd ⟨Q,s4.bad,s4.full⟩ Ge).o
  cases hr:rd ⟨Q,s4.bad,s4.full⟩with
  |none=>rw[<-hb4,hr]at hl;cases hl
  |some r=>
  obtain⟨r,s6⟩:=r
  rw[<-hb4,hr]at hl
  obtain⟨rC,kc⟩:=Na _ _ _ Ge hr
  rw[hb4]at rC;simp[yb,hb4,hlt,hx,Tok.enc,zGU,mapK,hj];refine cq ((zAb s4).at hR Va _) ?_;rw[Ma];simp[yb,hb4,hw];refine cq (rC.at hR (by show Q<=_;omega) _) ?_
  simp[zm]
  have we:zBf l rd 1 m (e.two op r x.pos) s6=some (y,s'):=hl
  exact⟨m,e.two op r x.pos,s6,⟨we,kc⟩,by omega,by simp[XQ.two,zm,ex0];exact⟨rfl,rfl,rfl,rfl,rfl,rfl⟩,rfl⟩
theorem zbj{rd:RS->Option (Ex × RS)}(Na:SgOk l 3 rd){s s1 s':RS}{e0 e':Ex}(hs:s.at_<=l.length)(hb:s.bad=false)(wb:isP l s (⟨#[110,111,116]⟩:BA) 0=false)(h1:rd s=some (e0,s1))(hq:zDg l rd 2 n e0 s1=some (e',s'))(Qc:s'.at_<=l.length):RdC 204 [I (2:Nat)] l s s' (exV e'):=by
 obtain⟨y,h,rfl,hy⟩:=zDS n (XQ.of e0) s1 e' s' (XQ.of_ok e0) hq
 refine RdC.less (r:=.agg y.av) (XQ.av_le hy) (RdC.intro fun S d i hR=>?_)
 have ho:=(hR.upd s hs).o
 have hn:=hR.n
 obtain⟨ih,La⟩:=Na _ _ _ hs h1
 refine ADet.intro mixed call204 func204 rfl ?_;simp[ntmps204];refine cq ((zAb s).at hR hs _) ?_;simp[ho,hb];refine cq ((mayW s (⟨#[110,111,116]⟩:BA)).at hR hs _) ?_;rw[wb,zIz wb];simp;refine cq (ih.at hR hs _) ?_;simp;refine zF (fun a:Nat × XQ × RS=>zBf l rd 2 a.1 a.2.1 a.2.2=some (y,s')/\a.2.2.at_<=l.length) (fun a=>([.ptr (d+1) i 0,I 2,.any,.any,.ptr 0 0 0,.any,.ptr 0 1 0]++List.replicate 103 .any)) (fun a=>[.cells [.any,.any,.any,.any,.any,.any,.any,.any] 43,.cells a.2.1.av 43]::set2 S d i (rdO l a.2.2)) (fun a=>a.1) (n,XQ.of e0,s1) ⟨h,La⟩ ?_ ?_ ?_
 .simp
 .simp[XQ.of]
 clear ih La h1 h ho hq
 rintro⟨m,e,s4⟩ ⟨hl,Va⟩
 simp only at hl Va
 cases m with
 |zero=>simp[zBf]at hl
 |succ m=>
 have yb:=(hR.upd s4 Va).o
 unfold zBf at hl;simp;refine dB [] (by kernel_rfl) ?_
 cases hb4:s4.bad with
 |true=>
  rw[hb4,if_pos rfl]at hl;cases hl
  simp[yb,hb4]
 |false=>
 rw[hb4,if_neg (by simp)]at hl
 cases hx:l[s4.at_]? with
 |none=>
  rw[hx]at hl;cases hl
  have hlt:¬(s'.at_:Int)<(l.length:Int):=by have:=List.getElem?_eq_none_iff.1 hx;omega
  simp[yb,hb4,hlt]
 |some x=>
 rw[hx]at hl
 have Ef:s4.at_<l.length:=(List.getElem?_eq_some_iff.1 hx).1
 have hlt:(s4.at_:Int)<(l.length:Int):=by omega
 dsimp only at hl
 obtain⟨j,hj⟩:=z7 x.text (zB8 2) 0
 simp[yb,hb4,hlt];refine dB [(5,1),(9,1),(12,1)] (by kernel_rfl) ?_
 simp[yb,hb4,hlt]
 obtain⟨X,sC⟩:=zJy 2 (by omega) [.cells [.any,.any,.any,.any,.any,.any,.any,.any] 43,.cells e.av 43] (set2 S d i (rdO l s4))
 refine cq sC ?_
 cases hf:zB7 x.text (zB8 2)with
 |none=>
  rw[hf]at hl hj;rw[Option.map_none]at hj;cases hl
  simp[yb,hb4,hlt,hx,Tok.enc,zGU,mapK,hj]
 |some op=>
  rw[hf]at hl hj;rw[Option.map_some]at hj
  dsimp only at hl
  have Ma:=zC2 hx
  obtain⟨Q,hQ⟩:∃Q,Q=s4.at_+1:=⟨_,rfl⟩
  have hw:IntKind.i64.wrap ((s4.at_:Int)+1)=(Q:Int):=by rw[hQ];exact zCk (b:=1) (by unfold maxLen;omega)
  rw[<-hQ]at hl
  have Ge:(⟨Q,s4.bad,s4.full⟩:RS).at_<=l.length:=by show Q<=_;omega
  have Um:=(hR.upd ⟨Q,s4.bad,s4.full⟩ Ge).o
  cases hr:rd ⟨Q,s4.bad,s4.full⟩with
  |none=>rw[<-hb4,hr]at hl;cases hl
  |some r=>
  obtain⟨r,s6⟩:=r
  rw[<-hb4,hr]at hl
  obtain⟨rC,kc⟩:=Na _ _ _ Ge hr
  rw[hb4]at rC;simp[yb,hb4,hlt,hx,Tok.enc,zGU,mapK,hj];refine cq ((zAb s4).at hR Va _) ?_;rw[Ma];simp[yb,hb4,hw];refine cq (rC.at hR (by show Q<=_;omega) _) ?_
  simp[zm]
  have we:zBf l rd 2 m (e.two op r x.pos) s6=some (y,s'):=hl
  exact⟨m,e.two op r x.pos,s6,⟨we,kc⟩,by omega,by simp[XQ.two,zm,ex0];exact⟨rfl,rfl,rfl,rfl,rfl,rfl⟩,rfl⟩
theorem zbk{rd:RS->Option (Ex × RS)}(Na:SgOk l 4 rd){s s1 s':RS}{e0 e':Ex}(hs:s.at_<=l.length)(hb:s.bad=false)(h1:rd s=some (e0,s1))(hq:zDg l rd 3 n e0 s1=some (e',s'))(Qc:s'.at_<=l.length):RdC 204 [I (3:Nat)] l s s' (exV e'):=by
 obtain⟨y,h,rfl,hy⟩:=zDS n (XQ.of e0) s1 e' s' (XQ.of_ok e0) hq
 refine RdC.less (r:=.agg y.av) (XQ.av_le hy) (RdC.intro fun S d i hR=>?_)
 have ho:=(hR.upd s hs).o
 have hn:=hR.n
 obtain⟨ih,La⟩:=Na _ _ _ hs h1
 refine ADet.intro mixed call204 func204 rfl ?_;simp[ntmps204];refine cq ((zAb s).at hR hs _) ?_;simp[ho,hb];refine cq (ih.at hR hs _) ?_;simp;refine zF (fun a:Nat × XQ × RS=>zBf l rd 3 a.1 a.2.1 a.2.2=some (y,s')/\a.2.2.at_<=l.length) (fun a=>([.ptr (d+1) i 0,I 3,.any,.any,.ptr 0 0 0,.any,.ptr 0 1 0]++List.replicate 103 .any)) (fun a=>[.cells [.any,.any,.any,.any,.any,.any,.any,.any] 43,.cells a.2.1.av 43]::set2 S d i (rdO l a.2.2)) (fun a=>a.1) (n,XQ.of e0,s1) ⟨h,La⟩ ?_ ?_ ?_
 .simp
 .simp[XQ.of]
 clear ih La h1 h ho hq
 rintro⟨m,e,s4⟩ ⟨hl,Va⟩
 simp only at hl Va
 cases m with
 |zero=>simp[zBf]at hl
 |succ m=>
 have yb:=(hR.upd s4 Va).o
 unfold zBf at hl;simp;refine dB [] (by kernel_rfl) ?_
 cases hb4:s4.bad with
 |true=>
  rw[hb4,if_pos rfl]at hl;cases hl
  simp[yb,hb4]
 |false=>
 rw[hb4,if_neg (by simp)]at hl
 cases hx:l[s4.at_]? with
 |none=>
  rw[hx]at hl;cases hl
  have hlt:¬(s'.at_:Int)<(l.length:Int):=by have:=List.getElem?_eq_none_iff.1 hx;omega
  simp[yb,hb4,hlt]
 |some x=>
 rw[hx]at hl
 have Ef:s4.at_<l.length:=(List.getElem?_eq_some_iff.1 hx).1
 have hlt:(s4.at_:Int)<(l.length:Int):=by omega
 dsimp only at hl
 obtain⟨j,hj⟩:=z7 x.text (zB8 3) 0
 simp[yb,hb4,hlt];refine dB [(5,1),(9,1),(12,1)] (by kernel_rfl) ?_
 simp[yb,hb4,hlt]
 obtain⟨X,sC⟩:=zJy 3 (by omega) [.cells [.any,.any,.any,.any,.any,.any,.any,.any] 43,.cells e.av 43] (set2 S d i (rdO l s4))
 refine cq sC ?_
 cases hf:zB7 x.text (zB8 3)with
 |none=>
  rw[hf]at hl hj;rw[Option.map_none]at hj;cases hl
  simp[yb,hb4,hlt,hx,Tok.enc,zGU,mapK,hj]
 |some op=>
  rw[hf]at hl hj;rw[Option.map_some]at hj
  dsimp only at hl
  have Ma:=zC2 hx
  obtain⟨Q,hQ⟩:∃Q,Q=s4.at_+1:=⟨_,rfl⟩
  have hw:IntKind.i64.wrap ((s4.at_:Int)+1)=(Q:Int):=by rw[hQ];exact zCk (b:=1) (by unfold maxLen;omega)
  rw[<-hQ]at hl
  have Ge:(⟨Q,s4.bad,s4.full⟩:RS).at_<=l.length:=by show Q<=_;omega
  have Um:=(hR.upd ⟨Q,s4.bad,s4.full⟩ Ge).o
  cases hr:rd ⟨Q,s4.bad,s4.full⟩with
  |none=>rw[<-hb4,hr]at hl;cases hl
  |some r=>
  obtain⟨r,s6⟩:=r
  rw[<-hb4,hr]at hl
  obtain⟨rC,kc⟩:=Na _ _ _ Ge hr
  rw[hb4]at rC;simp[yb,hb4,hlt,hx,Tok.enc,zGU,mapK,hj];refine cq ((zAb s4).at hR Va _) ?_;rw[Ma];simp[yb,hb4,hw];refine cq (rC.at hR (by show Q<=_;omega) _) ?_
  simp[zm]
  have we:some (e.two op r x.pos,s6)=some (y,s'):=hl
  cases we;simp[XQ.two,zm];exact⟨rfl,rfl,rfl,rfl,rfl,rfl⟩
theorem zbl{rd:RS->Option (Ex × RS)}(Na:SgOk l 5 rd){s s1 s':RS}{e0 e':Ex}(hs:s.at_<=l.length)(hb:s.bad=false)(h1:rd s=some (e0,s1))(hq:zDg l rd 4 n e0 s1=some (e',s'))(Qc:s'.at_<=l.length):RdC 204 [I (4:Nat)] l s s' (exV e'):=by
 obtain⟨y,h,rfl,hy⟩:=zDS n (XQ.of e0) s1 e' s' (XQ.of_ok e0) hq
 refine RdC.less (r:=.agg y.av) (XQ.av_le hy) (RdC.intro fun S d i hR=>?_)
 have ho:=(hR.upd s hs).o
 have hn:=hR.n
 obtain⟨ih,La⟩:=Na _ _ _ hs h1
 refine ADet.intro mixed call204 func204 rfl ?_;simp[ntmps204];refine cq ((zAb s).at hR hs _) ?_;simp[ho,hb];refine cq (ih.at hR hs _) ?_;simp;refine zF (fun a:Nat × XQ × RS=>zBf l rd 4 a.1 a.2.1 a.2.2=some (y,s')/\a.2.2.at_<=l.length) (fun a=>([.ptr (d+1) i 0,I 4,.any,.any,.ptr 0 0 0,.any,.ptr 0 1 0]++List.replicate 103 .any)) (fun a=>[.cells [.any,.any,.any,.any,.any,.any,.any,.any] 43,.cells a.2.1.av 43]::set2 S d i (rdO l a.2.2)) (fun a=>a.1) (n,XQ.of e0,s1) ⟨h,La⟩ ?_ ?_ ?_
 .simp
 .simp[XQ.of]
 clear ih La h1 h ho hq
 rintro⟨m,e,s4⟩ ⟨hl,Va⟩
 simp only at hl Va
 cases m with
 |zero=>simp[zBf]at hl
 |succ m=>
 have yb:=(hR.upd s4 Va).o
 unfold zBf at hl;simp;refine dB [] (by kernel_rfl) ?_
 cases hb4:s4.bad with
 |true=>
  rw[hb4,if_pos rfl]at hl;cases hl
  simp[yb,hb4]
 |false=>
 rw[hb4,if_neg (by simp)]at hl
 cases hx:l[s4.at_]? with
 |none=>
  rw[hx]at hl;cases hl
  have hlt:¬(s'.at_:Int)<(l.length:Int):=by have:=List.getElem?_eq_none_iff.1 hx;omega
  simp[yb,hb4,hlt]
 |some x=>
 rw[hx]at hl
 have Ef:s4.at_<l.length:=(List.getElem?_eq_some_iff.1 hx).1
 have hlt:(s4.at_:Int)<(l.length:Int):=by omega
 dsimp only at hl
 obtain⟨j,hj⟩:=z7 x.text (zB8 4) 0
 simp[yb,hb4,hlt];refine dB [(5,1),(9,1),(12,1)] (by kernel_rfl) ?_
 simp[yb,hb4,hlt]
 obtain⟨X,sC⟩:=zJy 4 (by omega) [.cells [.any,.any,.any,.any,.any,.any,.any,.any] 43,.cells e.av 43] (set2 S d i (rdO l s4))
 refine cq sC ?_
 cases hf:zB7 x.text (zB8 4)with
 |none=>
  rw[hf]at hl hj;rw[Option.map_none]at hj;cases hl
  simp[yb,hb4,hlt,hx,Tok.enc,zGU,mapK,hj]
 |some op=>
  rw[hf]at hl hj;rw[Option.map_some]at hj
  dsimp only at hl
  have Ma:=zC2 hx
  obtain⟨Q,hQ⟩:∃Q,Q=s4.at_+1:=⟨_,rfl⟩
  have hw:IntKind.i64.wrap ((s4.at_:Int)+1)=(Q:Int):=by rw[hQ];exact zCk (b:=1) (by unfold maxLen;omega)
  rw[<-hQ]at hl
  have Ge:(⟨Q,s4.bad,s4.full⟩:RS).at_<=l.length:=by show Q<=_;omega
  have Um:=(hR.upd ⟨Q,s4.bad,s4.full⟩ Ge).o
  cases hr:rd ⟨Q,s4.bad,s4.full⟩with
  |none=>rw[<-hb4,hr]at hl;cases hl
  |some r=>
  obtain⟨r,s6⟩:=r
  rw[<-hb4,hr]at hl
  obtain⟨rC,kc⟩:=Na _ _ _ Ge hr
  rw[hb4]at rC;simp[yb,hb4,hlt,hx,Tok.enc,zGU,mapK,hj];refine cq ((zAb s4).at hR Va _) ?_;rw[Ma];simp[yb,hb4,hw];refine cq (rC.at hR (by show Q<=_;omega) _) ?_
  simp[zm]
  have we:zBf l rd 4 m (e.two op r x.pos) s6=some (y,s'):=hl
  exact⟨m,e.two op r x.pos,s6,⟨we,kc⟩,by omega,by simp[XQ.two,zm,ex0];exact⟨rfl,rfl,rfl,rfl,rfl,rfl⟩,rfl⟩
theorem zbm{rd:RS->Option (Ex × RS)}(Na:SgOk l 6 rd){s s1 s':RS}{e0 e':Ex}(hs:s.at_<=l.length)(hb:s.bad=false)(h1:rd s=some (e0,s1))(hq:zDg l rd 5 n e0 s1=some (e',s'))(Qc:s'.at_<=l.length):RdC 204 [I (5:Nat)] l s s' (exV e'):=by
 obtain⟨y,h,rfl,hy⟩:=zDS n (XQ.of e0) s1 e' s' (XQ.of_ok e0) hq
 refine RdC.less (r:=.agg y.av) (XQ.av_le hy) (RdC.intro fun S d i hR=>?_)
 have ho:=(hR.upd s hs).o
 have hn:=hR.n
 obtain⟨ih,La⟩:=Na _ _ _ hs h1
 refine ADet.intro mixed call204 func204 rfl ?_;simp[ntmps204];refine cq ((zAb s).at hR hs _) ?_;simp[ho,hb];refine cq (ih.at hR hs _) ?_;simp;refine zF (fun a:Nat × XQ × RS=>zBf l rd 5 a.1 a.2.1 a.2.2=some (y,s')/\a.2.2.at_<=l.length) (fun a=>([.ptr (d+1) i 0,I 5,.any,.any,.ptr 0 0 0,.any,.ptr 0 1 0]++List.replicate 103 .any)) (fun a=>[.cells [.any,.any,.any,.any,.any,.any,.any,.any] 43,.cells a.2.1.av 43]::set2 S d i (rdO l a.2.2)) (fun a=>a.1) (n,XQ.of e0,s1) ⟨h,La⟩ ?_ ?_ ?_
 .simp
 .simp[XQ.of]
 clear ih La h1 h ho hq
 rintro⟨m,e,s4⟩ ⟨hl,Va⟩
 simp only at hl Va
 cases m with
 |zero=>simp[zBf]at hl
 |succ m=>
 have yb:=(hR.upd s4 Va).o
 unfold zBf at hl;simp;refine dB [] (by kernel_rfl) ?_
 cases hb4:s4.bad with
 |true=>
  rw[hb4,if_pos rfl]at hl;cases hl
  simp[yb,hb4]
 |false=>
 rw[hb4,if_neg (by simp)]at hl
 cases hx:l[s4.at_]? with
 |none=>
  rw[hx]at hl;cases hl
  have hlt:¬(s'.at_:Int)<(l.length:Int):=by have:=List.getElem?_eq_none_iff.1 hx;omega
  simp[yb,hb4,hlt]
 |some x=>
 rw[hx]at hl
 have Ef:s4.at_<l.length:=(List.getElem?_eq_some_iff.1 hx).1
 have hlt:(s4.at_:Int)<(l.length:Int):=by omega
 dsimp only at hl
 obtain⟨j,hj⟩:=z7 x.text (zB8 5) 0
 simp[yb,hb4,hlt];refine dB [(5,1),(9,1),(12,1)] (by kernel_rfl) ?_
 simp[yb,hb4,hlt]
 obtain⟨X,sC⟩:=zJy 5 (by omega) [.cells [.any,.any,.any,.any,.any,.any,.any,.any] 43,.cells e.av 43] (set2 S d i (rdO l s4))
 refine cq sC ?_
 cases hf:zB7 x.text (zB8 5)with
 |none=>
  rw[hf]at hl hj;rw[Option.map_none]at hj;cases hl
  simp[yb,hb4,hlt,hx,Tok.enc,zGU,mapK,hj]
 |some op=>
  rw[hf]at hl hj;rw[Option.map_some]at hj
  dsimp only at hl
  have Ma:=zC2 hx
  obtain⟨Q,hQ⟩:∃Q,Q=s4.at_+1:=⟨_,rfl⟩
  have hw:IntKind.i64.wrap ((s4.at_:Int)+1)=(Q:Int):=by rw[hQ];exact zCk (b:=1) (by unfold maxLen;omega)
  rw[<-hQ]at hl
  have Ge:(⟨Q,s4.bad,s4.full⟩:RS).at_<=l.length:=by show Q<=_;omega
  have Um:=(hR.upd ⟨Q,s4.bad,s4.full⟩ Ge).o
  cases hr:rd ⟨Q,s4.bad,s4.full⟩with
  |none=>rw[<-hb4,hr]at hl;cases hl
  |some r=>
  obtain⟨r,s6⟩:=r
  rw[<-hb4,hr]at hl
  obtain⟨rC,kc⟩:=Na _ _ _ Ge hr
  rw[hb4]at rC;simp[yb,hb4,hlt,hx,Tok.enc,zGU,mapK,hj];refine cq ((zAb s4).at hR Va _) ?_;rw[Ma];simp[yb,hb4,hw];refine cq (rC.at hR (by show Q<=_;omega) _) ?_
  simp[zm]
  have we:zBf l rd 5 m (e.two op r x.pos) s6=some (y,s'):=hl
  exact⟨m,e.two op r x.pos,s6,⟨we,kc⟩,by omega,by simp[XQ.two,zm,ex0];exact⟨rfl,rfl,rfl,rfl,rfl,rfl⟩,rfl⟩
end Go.Proofs.YtdflkegnmmkkoaaGreatDoor
