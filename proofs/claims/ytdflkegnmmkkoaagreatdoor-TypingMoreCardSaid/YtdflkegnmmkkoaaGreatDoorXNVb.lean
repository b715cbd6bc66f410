/- A part of the proof. -/
import Derived.Test.YtdflkegnmmkkoaaGreatDoorXNPq
set_option linter.unusedVariables false
set_option linter.unusedSimpArgs false
set_option maxRecDepth 100000
set_option maxHeartbeats 32000000
namespace Go.Proofs.YtdflkegnmmkkoaaGreatDoor
open Go.RowKit _root_.Go.Proofs.Tryz
attribute [local simp] List.replicate List.range List.range.loop
variable{l:List Tok}{n:Nat}{s':RS}{s:RS}
def RdF(F:Nat)(args:Nat->Nat->List AV)(l:List Tok)(s s':RS)(r:AV):Prop:=∀(S:ASt) (d i:Nat),RAt S d i l s->ADet Tryz.prog F (.ptr d i 0::args d i) S r (set2 S d i (rdO l s'))
theorem RdF.at{F:Nat}{args:Nat->Nat->List AV}{s s1 s2:RS}{r:AV}(hw:RdF F args l s1 s2 r){S:ASt}{d i:Nat}(h:RAt S d i l s)(h1:s1.at_<=l.length)(L:List AObj):
  ADet Tryz.prog F (.ptr (d+1) i 0::args (d+1) i) (L::set2 S d i (rdO l s1)) r (L::set2 S d i (rdO l s2)):=by
 have:=hw _ _ i ((h.upd s1 h1).push L)
 rw[zBH,zBW]at this;exact this
theorem RdF.intro{F:Nat}{args:Nat->Nat->List AV}{s s':RS}{r:AV}(hw:∀(S:ASt) (d i:Nat),RAt S d i l s->ADet Tryz.prog F (.ptr d i 0::args d i) (set2 S d i (rdO l s)) r (set2 S d i (rdO l s'))):RdF F args l s s' r:=fun S d i h=>by
 have:=hw S d i h
 rw[h.same]at this;exact this
theorem RdF.less{F:Nat}{args:Nat->Nat->List AV}{s s':RS}{r r':AV}(ta:LeA r r')(h:RdF F args l s s' r):RdF F args l s s' r':=fun S d i hR=>ADet.less ta (h S d i hR)
abbrev fiA(x:Fi):AV:=.agg [Sg x.name,U x.type.kind,Sg x.type.name,.p (.sl 3 (x.type.args.map Ty.enc))]
theorem zGS{x:Fi}(hs:s.at_<=l.length)(h:zIT l n s=some (x,s')):s'.at_<=l.length:=by
 unfold zIT at h
 obtain⟨⟨t,s1⟩,hk,he⟩:=Option.map_eq_some_iff.1 h
 cases he;exact zGF n l _ t _ (zk _ _ (zAF 2 hs)) hk
theorem zS5{x:Fi}(hs:s.at_<=l.length)(h:zIT l n s=some (x,s')):RdC 139 [] l s s' (fiA x):=by
 unfold zIT at h
 obtain⟨⟨t,s1⟩,hk,he⟩:=Option.map_eq_some_iff.1 h
 cases he
 have h1:=zAF (s:=s) 2 hs
 have h2:=zk [(⟨#[58]⟩:BA)] _ h1
 have kC:=zOG n l _ t s1 h2 hk
 refine RdC.intro fun S d i hR=>?_
 refine ADet.intro mixed call139 func139 rfl ?_;simp[ntmps139];refine cq ((zIV s).at hR hs _) ?_;simp;refine cq (ADet.sub (.cons (.refl _) (.cons (.osl (.refl _)) (.refl _))) ((zFo (zBO l s 2) [(⟨#[58]⟩:BA)] (by simp) h1).at hR h1 _)) ?_
 simp;refine cq (kC.at hR h2 _) ?_;simp
theorem zKq{α:Type}{l:List Tok}{rd:RS->Option (α × RS)}(Na:∀s x s',s.at_<=l.length->rd s=some (x,s')->s'.at_<=l.length):∀(n:Nat) (acc:List α) (s:RS) (xs:List α) (s':RS),s.at_<=l.length->zLo l rd n acc s=some (xs,s')->s'.at_<=l.length/\xs.length<=acc.length+n
 |0,acc,s,xs,s',hs,h=>by simp[zLo]at h
 |n+1,acc,s,xs,s',hs,h=>by
  unfold zLo at h;split at h
  .split at h
   .cases h
   rename_i x s1 h1
   have:=zKq Na n _ s1 xs s' (Na _ _ _ (zA2 _ hs) h1) h
   simp at this;exact⟨this.1,by omega⟩
  cases h;exact⟨hs,by omega⟩
theorem zOb{α:Type}{rd:RS->Option (α × RS)}(Na:∀s x s',s.at_<=l.length->rd s=some (x,s')->s'.at_<=l.length){e:BA}{xs:List α}(hs:s.at_<=l.length)(h:zLp l rd e n s=some (xs,s')):s'.at_<=l.length:=by
 unfold zLp at h;split at h
 .cases h;exact zA2 _ hs
 split at h
 .cases h
 rename_i x s1 h1
 obtain⟨⟨ys,s2⟩,hk,he⟩:=Option.map_eq_some_iff.1 h
 cases he;exact zk [e] _ (zKq Na n [x] s1 _ _ (Na _ _ _ hs h1) hk).1
theorem zJx{K:Nat}{rd:RS->Option (Fi × RS)}(ta:∀s x s',s.at_<=l.length->rd s=some (x,s')->s'.at_<=l.length)(Na:∀s x s',s.at_<=l.length->rd s=some (x,s')->RdC K [] l s s' (fiA x)){e:BA}(hn:n<=100000){xs:List Fi}(hs:s.at_<=l.length)(h:zLp l rd e n s=some (xs,s')):
  RdF 138 (fun d i=>[Sg e,.fn (.func K) [.ptr d i 0] []]) l s s' (.p (.sl 4 (xs.map Fi.enc))):=by
 unfold zLp at h
 cases hi:isP l s e 0 with
 |true=>
  rw[hi,if_pos rfl]at h;cases h;refine RdF.less (r:=nilS) (by repeat' constructor) (RdF.intro fun S d i hR=>?_)
  refine ADet.intro mixed call138 func138 rfl ?_;simp[ntmps138];refine cq ((mayW s e).at hR hs _) ?_;rw[hi]
  simp
 |false=>
 rw[hi,if_neg (by simp)]at h
 split at h
 .cases h
 rename_i x s1 h1
 obtain⟨⟨ys,s2⟩,hk,he⟩:=Option.map_eq_some_iff.1 h
 cases he
 have hm:mayP l s e=s:=by unfold mayP;rw[hi];rfl
 have La:=ta _ _ _ hs h1
 have xC:=Na _ _ _ hs h1
 obtain⟨Ra,kn⟩:=zKq ta n [x] s1 _ _ La hk
 have kn:ys.length<=n+1:=by simp at kn;omega
 have Bf:=zk [e] _ Ra
 refine RdF.intro fun S d i hR=>?_
 refine ADet.intro mixed call138 func138 rfl ?_;simp[ntmps138];refine cq ((mayW s e).at hR hs _) ?_;rw[hi,hm];simp;refine cq (xC.at hR hs _) ?_;simp;refine zF (fun a:Nat × List Fi × RS=>zLo l rd a.1 a.2.1 a.2.2=some (ys,s2)/\a.2.1.length+a.1<=n+1/\0<a.2.1.length/\a.2.2.at_<=l.length) (fun a=>([.ptr (d+1) i 0,Sg e,.fn (.func K) [.ptr (d+1) i 0] [],.any,.any,.any,.any,.osl 4 (a.2.1.map Fi.enc) 0 0]++List.replicate 22 .any)) (fun a=>[.tok 60 4 a.2.1.length]::set2 S d i (rdO l a.2.2)) (fun a=>a.1) (n,[x],s1) ⟨hk,by simp;omega,by simp,La⟩ ?_ ?_ ?_
 .simp[Fi.enc]
 .simp
 rintro⟨k,acc,s4⟩ ⟨hl,vj,ku,Va⟩
 simp only at hl vj ku Va
 cases k with
 |zero=>simp[zLo]at hl
 |succ k=>
 unfold zLo at hl;simp;refine cq ((mayW s4 (⟨#[44]⟩:BA)).at hR Va _) ?_
 cases hc:isP l s4 (⟨#[44]⟩:BA) 0 with
 |true=>
  rw[hc,if_pos rfl]at hl;split at hl
  .cases hl
  rename_i y s5 h5
  have Yf:=zA2 (s:=s4) (⟨#[44]⟩:BA) Va
  have yC:=Na _ _ _ Yf h5
  have bf:=ta _ _ _ Yf h5
  have Sf:acc.length+1<=4294967296:=by omega
  simp;refine cq (yC.at hR Yf _) ?_;simp[Sf]
  exact⟨k,acc++[y],s5,⟨hl,by simp;omega,by simp,bf⟩,by omega,by simp[Fi.enc],by simp,rfl⟩
 |false=>
  rw[hc,if_neg (by simp)]at hl
  cases hl
  have Yf:mayP l s2 (⟨#[44]⟩:BA)=s2:=by unfold mayP;rw[hc];rfl
  rw[Yf];simp;refine cq (ADet.sub (.cons (.refl _) (.cons (.osl (.refl _)) (.refl _))) ((zFo s2 [e] (by simp) Ra).at hR Ra _)) ?_
  simp;refine cq ((fewW (zAa l s2 [e]) ys.length).at hR Bf _) ?_;simp
attribute [local simp] List.forall_mem_cons List.contains_cons List.contains_nil List.find?
theorem zKr{l:List Tok}:∀(n:Nat) (acc:List BA) (s:RS) (xs:List BA) (s':RS),s.at_<=l.length->zKa l n acc s=some (xs,s')->s'.at_<=l.length/\xs.length<=acc.length+n/\s'.full=s.full
 |0,acc,s,xs,s',hs,h=>by simp[zKa]at h
 |n+1,acc,s,xs,s',hs,h=>by
  unfold zKa at h
  have fm:∀(s:RS) t,(mayP l s t).full=s.full:=fun s t=>by unfold mayP;split<;>rfl
  have ft:∀(s:RS) k,(zBO l s k).full=s.full:=fun s k=>by unfold zBO;split<;>rfl
  split at h
  .dsimp only at h
   split at h
   .have:=zKr n _ _ xs s' (zA2 _ (zA2 _ hs)) h
    simp at this;exact⟨this.1,by omega,by rw[this.2.2,fm,fm]⟩
   have:=zKr n _ _ xs s' (zAF 2 (zA2 _ hs)) h
   simp at this;exact⟨this.1,by omega,by rw[this.2.2,ft,fm]⟩
  cases h;exact⟨hs,by omega,rfl⟩
theorem zGT{x:Pl}(hs:s.at_<=l.length)(h:zHN l n s=some (x,s')):s'.at_<=l.length/\s'.full=s.full:=by
 unfold zHN at h
 obtain⟨⟨t,s1⟩,hk,he⟩:=Option.map_eq_some_iff.1 h
 cases he
 have:=zKr n _ _ t _ (zAF 2 hs) hk
 have ft:∀(s:RS) k,(zBO l s k).full=s.full:=fun s k=>by unfold zBO;split<;>rfl
 exact⟨this.1,by rw[this.2.2,ft]⟩
theorem zS6(hn:n<=100000){x:Pl}(hs:s.at_<=l.length)(h:zHN l n s=some (x,s')):RdC 203 [] l s s' (plV x):=by
 unfold zHN at h
 obtain⟨⟨ps,s1⟩,hk,he⟩:=Option.map_eq_some_iff.1 h
 cases he
 have h1:=zAF (s:=s) 2 hs
 refine RdC.intro fun S d i hR=>?_
 refine ADet.intro mixed call203 func203 rfl ?_;simp[ntmps203];refine cq ((zIV s).at hR hs _) ?_;simp;refine zA8 9 1 (by decide) [.cells [.any,.any] 40,.cells [Sg (zAN l s 2),.osl 1 [] 0 2] 40] (fun a:Nat × List BA × RS=>zKa l a.1 a.2.1 a.2.2=some (ps,s1)/\a.2.1.length+a.1<=n/\a.2.2.at_<=l.length) (fun a=>([.ptr (d+1) i 0,.any,.ptr 0 0 0,.ptr 0 1 0]++List.replicate 20 .any)) (fun a=>[.cells [.any,.any] 40,.cells [Sg (zAN l s 2),.osl 1 (a.2.1.map fun s=>[pS s]) 0 2] 40,.tok 9 1 a.2.1.length]::set2 S d i (rdO l a.2.2)) (fun a=>a.1) (n,[],zBO l s 2) ⟨hk,by simp,h1⟩ ?_ ?_ ?_ ?_
 .simp
 .simp
 .rfl
 rintro⟨k,acc,s4⟩ ⟨hl,vj,Va⟩
 simp only at hl vj Va
 cases k with
 |zero=>simp[zKa]at hl
 |succ k=>
 unfold zKa at hl;simp;refine cq ((mayW s4 (⟨#[46]⟩:BA)).at hR Va _) ?_
 cases hc:isP l s4 (⟨#[46]⟩:BA) 0 with
 |true=>
  rw[hc,if_pos rfl]at hl
  dsimp only at hl
  have Yf:=zA2 (s:=s4) (⟨#[46]⟩:BA) Va
  have Sf:acc.length+1<=4294967296:=by omega
  simp;refine cq ((mayW _ (⟨#[42]⟩:BA)).at hR Yf _) ?_
  cases hd:isP l (mayP l s4 (⟨#[46]⟩:BA)) (⟨#[42]⟩:BA) 0 with
  |true=>
   rw[hd,if_pos rfl]at hl;simp[Sf]
   refine⟨k,acc++[(⟨#[42]⟩:BA)],_,⟨hl,by simp;omega,zA2 _ Yf⟩,by omega,⟨by simp,by simp⟩,rfl⟩
  |false=>
   rw[hd,if_neg (by simp)]at hl
   have Km:mayP l (mayP l s4 (⟨#[46]⟩:BA)) (⟨#[42]⟩:BA)=mayP l s4 (⟨#[46]⟩:BA):=by
    generalize mayP l s4 (⟨#[46]⟩:BA)=s5 at*
    unfold mayP;rw[hd];rfl
   rw[Km];simp;refine dB [(1,3),(1,4)] (by kernel_rfl) ?_
   simp;refine cq ((zIV _).at hR Yf _) ?_;simp[Sf]
   exact⟨k,acc++[zAN l (mayP l s4 (⟨#[46]⟩:BA)) 2],_,⟨hl,by simp;omega,zAF 2 Yf⟩,by omega,⟨by simp,by simp⟩,rfl⟩
 |false=>
  rw[hc,if_neg (by simp)]at hl
  cases hl
  have Yf:mayP l s1 (⟨#[46]⟩:BA)=s1:=by unfold mayP;rw[hc];rfl
  rw[Yf];simp[strs]
def zGU:List AObj:=[mapK (zB8 0),mapK (zB8 1),mapK (zB8 2),mapK (zB8 3),mapK (zB8 4),mapK (zB8 5)]
theorem zJy(k:Nat)(hk:k<=5)(L:List AObj)(S:ASt):∃X,ADet Tryz.prog 225 [I k] (L::S) (.mp 0 (L.length+k)) ((L++zGU++[X])::S):=by
 rcases(by omega:k=0\/k=1\/k=2\/k=3\/k=4\/k=5)with rfl|rfl|rfl|rfl|rfl|rfl
 all_goals
  refine⟨?_,ADet.flat mixed call225 func225 rfl ?_⟩
  rotate_left
  simp[ntmps225,zDK,zj,mapK,zB8,zCg,zGU];rfl
def zDR(d i:Nat):List (BA × Nat):=[((⟨#[108,101,116]⟩:BA),214),((⟨#[100,114,111,112]⟩:BA),215),((⟨#[105,102]⟩:BA),216),((⟨#[119,104,105,108,101]⟩:BA),217),((⟨#[109,97,116,99,104]⟩:BA),218),((⟨#[115,99,111,112,101]⟩:BA),219),((⟨#[115,112,97,119,110]⟩:BA),220),((⟨#[108,111,99,107]⟩:BA),221),((⟨#[99,104,97,110]⟩:BA),222),((⟨#[123]⟩:BA),223)]
def mapS(d i:Nat):AObj:=.map ((zDR d i).map fun x=>(.string x.1,.fn (.func x.2) [.ptr d i 0] []))
theorem zS7(d i:Nat)(L:List AObj)(S:ASt):ADet Tryz.prog 202 [.ptr d i 0] (L::S) (.mp 0 L.length) ((L++[mapS d i])::S):=by
 refine ADet.flat mixed call202 func202 rfl ?_;simp[ntmps202,zDK,zj,mapS,zDR,zCg]
theorem zS8(d i:Nat)(s:BA)(h:zIU.any (fun t=>sEq s t)=false):zAm .string (.string s) ((zDR d i).map fun x=>(.string x.1,.fn (.func x.2) [.ptr d i 0] [])) 0=some none:=by
 simp only[zIU,List.any_cons,List.any_nil,Bool.or_eq_false_iff]at h
 obtain⟨h1,h2,h3,h4,h5,h6,h7,h8,h9,h10,_⟩:=h
 simp only[zDR,List.map_cons,List.map_nil,zj,h1,h2,h3,h4,h5,h6,h7,h8,h9,h10,Bool.false_eq_true,if_false];rfl
end Go.Proofs.YtdflkegnmmkkoaaGreatDoor
namespace Go.Proofs.YtdflkegnmmkkoaaGreatDoor
open Go.RowKit _root_.Go.Proofs.Tryz
attribute [local simp] List.replicate List.range List.range.loop
variable{l:List Tok}{s:RS}
abbrev itA(x:It):AV:=.agg [U x.kind,Sg x.name,.p (.sl 4 (x.fields.map Fi.enc)),U x.result.kind,Sg x.result.name,.p (.sl 3 (x.result.args.map Ty.enc)),.p (.sl 15 (x.body.map St.enc)),
 U x.ret.op,I x.ret.int,Sg x.ret.name,Sg x.ret.u2,Sg x.ret.place.name,.p (strs x.ret.place.path),.p (.sl 8 (x.ret.args.map Ex.enc)),I x.ret.pos,I x.pos]
abbrev itZ(k:Int)(nm:BA)(fs:List Fi)(pos:Int):AV:=.agg [U k,Sg nm,.p (.sl 4 (fs.map Fi.enc)),U 0,Sg emS,nilS,nilS,U 0,I 0,Sg emS,Sg emS,Sg emS,nilS,nilS,I 0,I pos]
theorem zba(k:Int)(nm:BA)(fs:List Fi)(pos:Int):LeA (itZ k nm fs pos) (itA ⟨k,nm,fs,zLn,[],zFn,pos⟩):=by
 repeat' constructor
theorem zAb(s:RS):RdC 134 [] l s s (I (zBd l s)):=RdC.intro fun S d i h=>by
 rw[h.same];exact rAtC h
theorem zNF{n:Nat}(hn:n<=100000){x:It}{s':RS}(hs:s.at_<=l.length)(h1:isP l s (⟨#[115,116,114,117,99,116]⟩:BA) 0=true)(h:zVd l n s=some (x,s')):RdC 113 [] l s s' (itA x):=by
 unfold zVd at h;rw[h1,if_pos rfl]at h
 dsimp only at h
 obtain⟨⟨fs,s1⟩,hk,he⟩:=Option.map_eq_some_iff.1 h
 cases he
 have ya:=zA2 (s:=s) (⟨#[115,116,114,117,99,116]⟩:BA) hs
 have Ob:=zAF (s:=mayP l s (⟨#[115,116,114,117,99,116]⟩:BA)) 3 ya
 have Jk:=zk [(⟨#[123]⟩:BA)] _ Ob
 have lC:=zJx (K:=139) (fun s x s' a b=>zGS a b) (fun s x s' a b=>zS5 a b) hn Jk hk
 refine RdC.less (zba _ _ _ _) (RdC.intro fun S d i hR=>?_)
 refine ADet.intro mixed call113 func113 rfl ?_;simp[ntmps113];refine cq ((zAb s).at hR hs _) ?_;simp;refine cq ((mayW s (⟨#[115,116,114,117,99,116]⟩:BA)).at hR hs _) ?_;rw[h1];simp;refine cq ((zWx _).at hR ya _) ?_;simp;refine cq (ADet.sub (.cons (.refl _) (.cons (.osl (.refl _)) (.refl _))) ((zFo _ [(⟨#[123]⟩:BA)] (by simp) Ob).at hR Ob _)) ?_
 simp;refine cq (lC.at hR Jk _) ?_;simp
attribute [local simp] List.forall_mem_cons List.contains_cons List.contains_nil List.find?
abbrev exZ:AV:=.agg [U 0,I 0,Sg emS,Sg emS,Sg emS,nilS,nilS,I 0]
theorem zL5:LeA exZ (exV zFn):=by repeat' constructor
theorem zP7(hb:s.bad=true):RdC 224 [] l s s exZ:=fun S d i hR=>by
 have ho:=hR.o
 have Ti:set2 S d i (rdO l s)=S:=hR.same
 have Na:rdO l ⟨s.at_,true,s.full⟩=rdO l s:=by rw[<-hb]
 refine ADet.intro mixed call224 func224 rfl ?_;simp[ntmps224];refine dB [] (by kernel_rfl) ?_
 simp[ho,hb];exact congrArg (set2 S d i) Na
theorem zP8(hb:s.bad=false)(hlt:¬s.at_<l.length):RdC 224 [] l s ⟨s.at_,true,s.full⟩ exZ:=fun S d i hR=>by
 have ho:=hR.o
 have aa:(l.length:Int)<=(s.at_:Int):=by omega
 refine ADet.intro mixed call224 func224 rfl ?_;simp[ntmps224];refine dB [] (by kernel_rfl) ?_
 simp[ho,hb,aa]
theorem zP9{n:Nat}(hn:n<=100000){x:Tok}{p:Pl}{s':RS}(hs:s.at_<=l.length)(hb:s.bad=false)(hx:l[s.at_]? =some x)(hk:x.kind=2)(hi:isP l s (⟨#[40]⟩:BA) 1=false)(hp:zHN l n s=some (p,s')):RdC 224 [] l s s' (exV (.mk 4 0 emS emS p [] x.pos)):=by
 refine RdC.less (r:=.agg [U 4,I 0,Sg emS,Sg emS,Sg p.name,.p (strs p.path),nilS,I x.pos]) (by repeat' constructor) (RdC.intro fun S d i hR=>?_)
 have ho:=(hR.upd s hs).o
 have hlt:=(List.getElem?_eq_some_iff.1 hx).1
 have aa:¬(l.length:Int)<=(s.at_:Int):=by omega
 have ab:(s.at_:Int)<(l.length:Int):=by omega
 clear hlt
 have pC:=zS6 hn hs hp
 have iC:=fun L=>isC ((hR.upd s hs).push L) (⟨#[40]⟩:BA) 1 (by omega)
 rw[hi]at iC;refine ADet.intro mixed call224 func224 rfl ?_;simp[ntmps224];refine dB [] (by kernel_rfl) ?_
 simp[ho,hb,aa];refine dB [(3,10),(7,10),(9,10)] (by kernel_rfl) ?_
 simp[ho,hx,ab,Tok.enc,hk];refine cq (iC _) ?_;simp;refine dB [(3,1)] (by kernel_rfl) ?_
 simp;refine cq (pC.at hR hs _) ?_;simp
end Go.Proofs.YtdflkegnmmkkoaaGreatDoor
namespace Go.Proofs.YtdflkegnmmkkoaaGreatDoor
open Go.RowKit _root_.Go.Proofs.Tryz
attribute [local simp] List.replicate List.range List.range.loop
attribute [local simp] List.forall_mem_cons List.contains_cons List.contains_nil List.find?
variable{l:List Tok}{s:RS}{x:Tok}
abbrev stZ:AV:=.agg [U 0,Sg emS,Sg emS,nilS,U 0,Sg emS,nilS,I 0,Sg emS,nilS,nilS,nilS,nilS,nilS,I 0]
abbrev stAs(nm:BA)(lu:AV)(pos:Nat):AV:=.agg [U 3,Sg emS,Sg emS,nilS,U 0,Sg emS,nilS,I 0,Sg nm,lu,nilS,nilS,nilS,nilS,I pos]
theorem zS9(hs:s.at_<=l.length)(hb:s.bad=false)(hlt:¬(s.at_:Int)<(l.length:Int)):RdC 176 [] l s s (.tup [stZ,B false]):=RdC.intro fun S d i hR=>by
 have ho:=(hR.upd s hs).o
 have aa:(l.length:Int)<=(s.at_:Int):=by omega
 refine ADet.intro mixed call176 func176 rfl ?_;simp[ntmps176];refine dB [] (by kernel_rfl) ?_
 simp[ho,hb,aa]
theorem zQA(hs:s.at_<=l.length)(hb:s.bad=false)(hx:l[s.at_]? =some x)(hn:zIU.any (fun t=>sEq x.text t)=false):RdC 176 [] l s s (.tup [stZ,B false]):=RdC.intro fun S d i hR=>by
 have ho:=(hR.upd s hs).o
 have hlt:=(List.getElem?_eq_some_iff.1 hx).1
 have aa:¬(l.length:Int)<=(s.at_:Int):=by omega
 have ab:(s.at_:Int)<(l.length:Int):=by omega
 clear hlt
 have hj:=zS8 (d+1) i x.text hn
 refine ADet.intro mixed call176 func176 rfl ?_;simp[ntmps176];refine dB [] (by kernel_rfl) ?_
 simp[ho,hb,aa];refine dB [(5,1),(9,1),(12,1)] (by kernel_rfl) ?_
 simp[ho,hb,aa];refine cq (zS7 _ _ _ _) ?_;simp[ho,hb,ab,hx,Tok.enc,mapS,hj]
theorem zQB(hs:s.at_<=l.length)(hb:s.bad=false)(hlt:¬(s.at_:Int)<(l.length:Int)):RdC 177 [] l s s (.tup [stAs emS nilS (zBd l s),B false]):=RdC.intro fun S d i hR=>by
 have ho:=(hR.upd s hs).o
 have aa:(l.length:Int)<=(s.at_:Int):=by omega
 refine ADet.intro mixed call177 func177 rfl ?_;simp[ntmps177,ho];refine cq ((zAb s).at hR hs _) ?_;simp;refine dB [] (by kernel_rfl) ?_
 simp[ho,hb,aa]
theorem zNG(hs:s.at_<=l.length)(hb:s.bad=false)(hx:l[s.at_]? =some x)(hk:¬x.kind=2):RdC 177 [] l s s (.tup [stAs emS nilS (zBd l s),B false]):=RdC.intro fun S d i hR=>by
 have ho:=(hR.upd s hs).o
 have hlt:=(List.getElem?_eq_some_iff.1 hx).1
 have aa:¬(l.length:Int)<=(s.at_:Int):=by omega
 have ab:(s.at_:Int)<(l.length:Int):=by omega
 clear hlt
 have dc:(x.kind !=2)=true:=by simpa using hk
 refine ADet.intro mixed call177 func177 rfl ?_;simp[ntmps177,ho];refine cq ((zAb s).at hR hs _) ?_;simp;refine dB [] (by kernel_rfl) ?_
 simp[ho,hb,aa,ab,hx,Tok.enc,dc]
theorem zNH(hs:s.at_<=l.length)(hb:s.bad=false)(hx:l[s.at_]? =some x)(hk:x.kind=2)(hi:isP l s (⟨#[40]⟩:BA) 1=true):RdC 177 [] l s s (.tup [stAs emS nilS (zBd l s),B false]):=RdC.intro fun S d i hR=>by
 have ho:=(hR.upd s hs).o
 have hlt:=(List.getElem?_eq_some_iff.1 hx).1
 have aa:¬(l.length:Int)<=(s.at_:Int):=by omega
 have ab:(s.at_:Int)<(l.length:Int):=by omega
 clear hlt
 have iC:=fun L=>isC ((hR.upd s hs).push L) (⟨#[40]⟩:BA) 1 (by omega)
 rw[hi]at iC;refine ADet.intro mixed call177 func177 rfl ?_;simp[ntmps177,ho];refine cq ((zAb s).at hR hs _) ?_;simp;refine dB [] (by kernel_rfl) ?_
 simp[ho,hb,aa,ab,hx,Tok.enc,hk];refine cq (iC _) ?_;simp
theorem zNI{n:Nat}(hn:n<=100000){p:Pl}{s1:RS}(hs:s.at_<=l.length)(hb:s.bad=false)(hx:l[s.at_]? =some x)(hk:x.kind=2)(hi:isP l s (⟨#[40]⟩:BA) 1=false)(hp:zHN l n s=some (p,s1))(he:s1.bad=true\/(s1.bad=false/\isP l s1 (⟨#[61]⟩:BA) 0=false)):RdC 177 [] l s s (.tup [stAs p.name (.p (strs p.path)) (zBd l s),B false]):=RdC.intro fun S d i hR=>by
 have ho:=(hR.upd s hs).o
 have Tj:=hR.o
 have hz:rdO l s= .cells [.p (.sl 3 (l.map Tok.enc)),I s.at_,B false,B s.full] 164:=by rw[<-hb]
 have hlt:=(List.getElem?_eq_some_iff.1 hx).1
 have aa:¬(l.length:Int)<=(s.at_:Int):=by omega
 have ab:(s.at_:Int)<(l.length:Int):=by omega
 clear hlt
 have iC:=fun L=>isC ((hR.upd s hs).push L) (⟨#[40]⟩:BA) 1 (by omega)
 rw[hi]at iC
 have pC:=zS6 hn hs hp
 obtain⟨La,Sj⟩:=zGT hs hp
 have nc:=(hR.upd s1 La).o
 refine ADet.intro mixed call177 func177 rfl ?_;simp[ntmps177,ho];refine cq ((zAb s).at hR hs _) ?_;simp;refine dB [] (by kernel_rfl) ?_
 simp[ho,hb,aa,ab,hx,Tok.enc,hk];refine cq (iC _) ?_;simp;refine cq (pC.at hR hs _) ?_;simp[nc]
 rcases he with wa|⟨wa,hq⟩
 .simp[nc,wa,Tj,Sj]
  exact congrArg (set2 S d i) hz.symm
 have hm:mayP l s1 (⟨#[61]⟩:BA)=s1:=by unfold mayP;rw[hq];rfl
 simp[wa];refine cq ((mayW s1 (⟨#[61]⟩:BA)).at hR La _) ?_;rw[hq,hm];simp[nc,wa,Tj,Sj];exact congrArg (set2 S d i) hz.symm
def mxL(l:List Nat):Nat:=l.foldr max 0
theorem zWF(l:List Nat)(x:Nat):mxL (l++[x])=max (mxL l) x:=by
 induction l with
 |nil=>simp[mxL]
 |cons a l ih=>
  have:mxL (a::(l++[x]))=max a (mxL (l++[x])):=rfl
  rw[List.cons_append,this,ih]
  show max a (max (mxL l) x)=max (max a (mxL l)) x
  omega
theorem zET{α:Type}(f:α->Nat)(l:List α){q:Nat}(h:q<l.length):mxL ((l.map f).take (q+1))=max (mxL ((l.map f).take q)) (f l[q]):=by
 rw[<-List.map_take,<-List.map_take,List.take_succ_eq_append_getElem h,List.map_append,List.map_singleton,zWF]
theorem zE4{l:List Nat}{x:Nat}(h:x∈l):x<=mxL l:=by
 induction l with
 |nil=>cases h
 |cons a l ih=>
  have e:mxL (a::l)=max a (mxL l):=rfl
  rcases List.mem_cons.1 h with rfl|h
  .omega
  have:=ih h;omega
theorem zY8(l:List Ty):Ty.deeps l=mxL (l.map Ty.deep):=by
 induction l with
 |nil=>rfl
 |cons t l ih=>rw[Ty.deeps,ih];rfl
theorem zbb(t:Ty):t.deep=mxL (t.args.map Ty.deep)+1:=by
 cases t;rw[Ty.deep,zY8];rfl
theorem zY9(l:List Ex):Ex.deeps l=mxL (l.map Ex.deep):=by
 induction l with
 |nil=>rfl
 |cons t l ih=>rw[Ex.deeps,ih];rfl
theorem zbc(t:Ex):t.deep=mxL (t.args.map Ex.deep)+1:=by
 cases t;rw[Ex.deep,zY9];rfl
theorem zFQ{a:Nat}(h:a<=1000000):IntKind.i64.wrap ((a:Int)+1)=((a+1:Nat):Int):=by
 rw[IntWalk.i64_in _ (by omega)];omega
theorem zIs:∀(t:Ty),t.deep<=1000000->∀(S:ASt),ADet Tryz.prog 179 [tyV t] S (I t.deep) S:=by
 refine Ty.ind fun t ih hd S=>?_
 refine ADet.okA call179 0 2 rfl rfl fun na=>?_
 have ca:=okl na
 have rl:=zbb t
 refine ADet.intro mixed call179 func179 rfl ?_;simp[ntmps179];refine zF (fun q:Nat=>q<=t.args.length) (fun q=>[.any,.ptr 0 0 0,.any,I (mxL ((t.args.map Ty.deep).take q)),.any,.any,.any,.p (.sl 3 (t.args.map Ty.enc)),I t.args.length,I q,.any,.any,.any,.any,.any,.any,.any,.any,.any,.any]) (fun q=>[.cells [U t.kind,Sg t.name,.p (.sl 3 (t.args.map Ty.enc))] 36]::S) (fun q=>t.args.length-q) 0 (Nat.zero_le _) ?_ ?_ ?_
 .simp[mxL]
 .simp
 intro q hq
 by_cases hlt:q<t.args.length
 .have hT:=zET Ty.deep t.args hlt
  have Pc:t.args[q].deep<=mxL (t.args.map Ty.deep):=zE4 (List.mem_map_of_mem (List.getElem_mem hlt))
  have hx:=ih _ (List.getElem_mem hlt) (by omega)
  have aa:(q:Int)<(t.args.length:Int):=by omega
  simp[hlt,aa,zd];refine cq (hx _) ?_;simp;exact⟨q+1,hlt,by omega,by rw[hT];split<;>omega,zB hlt⟩
 have ht:(t.args.map Ty.deep).take q=t.args.map Ty.deep:=List.take_of_length_le (by simp;omega)
 have aa:¬(q:Int)<(t.args.length:Int):=by omega
 have hw:=zFQ (a:=mxL (t.args.map Ty.deep)) (by omega)
 simp[aa,ht,hw,rl]
theorem zIt:∀(t:Ex),t.deep<=1000000->∀(S:ASt),ADet Tryz.prog 180 [exV t] S (I t.deep) S:=by
 refine Ex.ind fun t ih hd S=>?_
 refine ADet.okA call180 0 6 rfl rfl fun na=>?_
 have ca:=okl na
 have rl:=zbc t
 refine ADet.intro mixed call180 func180 rfl ?_;simp[ntmps180];refine zF (fun q:Nat=>q<=t.args.length) (fun q=>[.any,.ptr 0 0 0,.any,I (mxL ((t.args.map Ex.deep).take q)),.any,.any,.any,.p (.sl 8 (t.args.map Ex.enc)),I t.args.length,I q,.any,.any,.any,.any,.any,.any,.any,.any,.any,.any]) (fun q=>[.cells [U t.op,I t.int,Sg t.name,Sg t.u2,Sg t.place.name,.p (strs t.place.path),.p (.sl 8 (t.args.map Ex.enc)),I t.pos] 43]::S) (fun q=>t.args.length-q) 0 (Nat.zero_le _) ?_ ?_ ?_
 .simp[mxL]
 .simp
 intro q hq
 by_cases hlt:q<t.args.length
 .have hT:=zET Ex.deep t.args hlt
  have Pc:t.args[q].deep<=mxL (t.args.map Ex.deep):=zE4 (List.mem_map_of_mem (List.getElem_mem hlt))
  have hx:=ih _ (List.getElem_mem hlt) (by omega)
  have aa:(q:Int)<(t.args.length:Int):=by omega
  simp[hlt,aa,zm];refine cq (hx _) ?_;simp;exact⟨q+1,hlt,by omega,by rw[hT];split<;>omega,zB hlt⟩
 have ht:(t.args.map Ex.deep).take q=t.args.map Ex.deep:=List.take_of_length_le (by simp;omega)
 have aa:¬(q:Int)<(t.args.length:Int):=by omega
 have hw:=zFQ (a:=mxL (t.args.map Ex.deep)) (by omega)
 simp[aa,ht,hw,rl]
end Go.Proofs.YtdflkegnmmkkoaaGreatDoor
