/- A part of the proof. -/
import Derived.Test.YtdflkegnmmkkoaaGreatDoorWNPq
set_option linter.unusedVariables false
set_option linter.unusedSimpArgs false
set_option maxRecDepth 100000
set_option maxHeartbeats 32000000
namespace Go.Proofs.YtdflkegnmmkkoaaGreatDoor
open Go.RowKit _root_.Go.Proofs.Tryz
attribute [local simp] List.replicate List.range List.range.loop
variable{l:List Tok}{n:Nat}{s':RS}{s:RS}
def RdF(F:Nat)(args:Nat->Nat->List AV)(l:List Tok)(s s':RS)(r:AV):Prop:=∀(S:ASt) (d i:Nat),RAt S d i l s->ADet Tryz.prog F (.ptr d i 0::args d i) S r (set2 S d i (rdO l s'))
theorem RdF.at{F:Nat}{args:Nat->Nat->List AV}{s s1 s2:RS}{r:AV}(hw:RdF F args l s1 s2 r){S:ASt}{d i:Nat}(h:RAt S d i l s)(h1:s1.at_<=l.length)(L:List AObj):
  ADet Tryz.prog F (.ptr (d+1) i 0::args (d+1) i) (L::set2 S d i (rdO l s1)) r (L::set2 S d i (rdO l s2)):=by
 have:=hw _ _ i ((h.upd s1 h1).push L)
 rw[zAy,zBT]at this;exact this
theorem RdF.intro{F:Nat}{args:Nat->Nat->List AV}{s s':RS}{r:AV}(hw:∀(S:ASt) (d i:Nat),RAt S d i l s->ADet Tryz.prog F (.ptr d i 0::args d i) (set2 S d i (rdO l s)) r (set2 S d i (rdO l s'))):RdF F args l s s' r:=fun S d i h=>by
 have:=hw S d i h
 rw[h.same]at this;exact this
theorem RdF.less{F:Nat}{args:Nat->Nat->List AV}{s s':RS}{r r':AV}(oa:LeA r r')(h:RdF F args l s s' r):RdF F args l s s' r':=fun S d i hR=>ADet.less oa (h S d i hR)
abbrev fiA(x:Fi):AV:=.agg [Sg x.name,U x.type.kind,Sg x.type.name,.p (.sl 3 (x.type.args.map Ty.enc))]
theorem zGB{x:Fi}(hs:s.at_<=l.length)(h:zH8 l n s=some (x,s')):s'.at_<=l.length:=by
 unfold zH8 at h
 obtain⟨⟨t,s1⟩,hk,he⟩:=Option.map_eq_some_iff.1 h
 cases he;exact zFz n l _ t _ (zk _ _ (z9 2 hs)) hk
theorem zSl{x:Fi}(hs:s.at_<=l.length)(h:zH8 l n s=some (x,s')):RdC 139 [] l s s' (fiA x):=by
 unfold zH8 at h
 obtain⟨⟨t,s1⟩,hk,he⟩:=Option.map_eq_some_iff.1 h
 cases he
 have h1:=z9 (s:=s) 2 hs
 have h2:=zk [(⟨#[58]⟩:BA)] _ h1
 have kC:=zN3 n l _ t s1 h2 hk
 refine RdC.intro fun S d i hR=>?_
 refine ADet.intro mixed call139 func139 rfl ?_;simp[ntmps139];refine cq ((zIA s).at hR hs _) ?_;simp;refine cq (ADet.sub (.cons (.refl _) (.cons (.osl (.refl _)) (.refl _))) ((zFb (zBN l s 2) [(⟨#[58]⟩:BA)] (by simp) h1).at hR h1 _)) ?_
 simp;refine cq (kC.at hR h2 _) ?_;simp
theorem zKa{α:Type}{l:List Tok}{rd:RS->Option (α × RS)}(Oa:∀s x s',s.at_<=l.length->rd s=some (x,s')->s'.at_<=l.length):∀(n:Nat) (acc:List α) (s:RS) (xs:List α) (s':RS),s.at_<=l.length->zLb l rd n acc s=some (xs,s')->s'.at_<=l.length/\xs.length<=acc.length+n
 |0,acc,s,xs,s',hs,h=>by simp[zLb]at h
 |n+1,acc,s,xs,s',hs,h=>by
  unfold zLb at h;split at h
  .split at h
   .cases h
   rename_i x s1 h1
   have:=zKa Oa n _ s1 xs s' (Oa _ _ _ (zA0 _ hs) h1) h
   simp at this;exact⟨this.1,by omega⟩
  cases h;exact⟨hs,by omega⟩
theorem zOP{α:Type}{rd:RS->Option (α × RS)}(Oa:∀s x s',s.at_<=l.length->rd s=some (x,s')->s'.at_<=l.length){e:BA}{xs:List α}(hs:s.at_<=l.length)(h:zLc l rd e n s=some (xs,s')):s'.at_<=l.length:=by
 unfold zLc at h;split at h
 .cases h;exact zA0 _ hs
 split at h
 .cases h
 rename_i x s1 h1
 obtain⟨⟨ys,s2⟩,hk,he⟩:=Option.map_eq_some_iff.1 h
 cases he;exact zk [e] _ (zKa Oa n [x] s1 _ _ (Oa _ _ _ hs h1) hk).1
theorem zJa{K:Nat}{rd:RS->Option (Fi × RS)}(oa:∀s x s',s.at_<=l.length->rd s=some (x,s')->s'.at_<=l.length)(Oa:∀s x s',s.at_<=l.length->rd s=some (x,s')->RdC K [] l s s' (fiA x)){e:BA}(hn:n<=100000){xs:List Fi}(hs:s.at_<=l.length)(h:zLc l rd e n s=some (xs,s')):
  RdF 138 (fun d i=>[Sg e,.fn (.func K) [.ptr d i 0] []]) l s s' (.p (.sl 4 (xs.map Fi.enc))):=by
 unfold zLc at h
 cases hi:isP l s e 0 with
 |true=>
  rw[hi,if_pos rfl]at h;cases h;refine RdF.less (r:=nilS) (by repeat' constructor) (RdF.intro fun S d i hR=>?_)
  refine ADet.intro mixed call138 func138 rfl ?_;simp[ntmps138];refine cq ((mayW s e).at hR hs _) ?_;rw[hi]
  simp
 |false=>
 rw[hi,if_neg (by simp)]at h
 split at h
 .cases h
 rename_i x s1 h1
 obtain⟨⟨ys,s2⟩,hk,he⟩:=Option.map_eq_some_iff.1 h
 cases he
 have hm:mayP l s e=s:=by unfold mayP;rw[hi];rfl
 have Ma:=oa _ _ _ hs h1
 have xC:=Oa _ _ _ hs h1
 obtain⟨Ra,tn⟩:=zKa oa n [x] s1 _ _ Ma hk
 have tn:ys.length<=n+1:=by simp at tn;omega
 have Lf:=zk [e] _ Ra
 refine RdF.intro fun S d i hR=>?_
 refine ADet.intro mixed call138 func138 rfl ?_;simp[ntmps138];refine cq ((mayW s e).at hR hs _) ?_;rw[hi,hm];simp;refine cq (xC.at hR hs _) ?_;simp;refine zH (fun a:Nat × List Fi × RS=>zLb l rd a.1 a.2.1 a.2.2=some (ys,s2)/\a.2.1.length+a.1<=n+1/\0<a.2.1.length/\a.2.2.at_<=l.length) (fun a=>([.ptr (d+1) i 0,Sg e,.fn (.func K) [.ptr (d+1) i 0] [],.any,.any,.any,.any,.osl 4 (a.2.1.map Fi.enc) 0 0]++List.replicate 22 .any)) (fun a=>[.tok 60 4 a.2.1.length]::set2 S d i (rdO l a.2.2)) (fun a=>a.1) (n,[x],s1) ⟨hk,by simp;omega,by simp,Ma⟩ ?_ ?_ ?_
 .simp[Fi.enc]
 .simp
 rintro⟨k,acc,s4⟩ ⟨hl,sh,Eu,Ua⟩
 simp only at hl sh Eu Ua
 cases k with
 |zero=>simp[zLb]at hl
 |succ k=>
 unfold zLb at hl;simp;refine cq ((mayW s4 (⟨#[44]⟩:BA)).at hR Ua _) ?_
 cases hc:isP l s4 (⟨#[44]⟩:BA) 0 with
 |true=>
  rw[hc,if_pos rfl]at hl;split at hl
  .cases hl
  rename_i y s5 h5
  have gg:=zA0 (s:=s4) (⟨#[44]⟩:BA) Ua
  have yC:=Oa _ _ _ gg h5
  have lf:=oa _ _ _ gg h5
  have ef:acc.length+1<=4294967296:=by omega
  simp;refine cq (yC.at hR gg _) ?_;simp[ef]
  exact⟨k,acc++[y],s5,⟨hl,by simp;omega,by simp,lf⟩,by omega,by simp[Fi.enc],by simp,rfl⟩
 |false=>
  rw[hc,if_neg (by simp)]at hl
  cases hl
  have gg:mayP l s2 (⟨#[44]⟩:BA)=s2:=by unfold mayP;rw[hc];rfl
  rw[gg];simp;refine cq (ADet.sub (.cons (.refl _) (.cons (.osl (.refl _)) (.refl _))) ((zFb s2 [e] (by simp) Ra).at hR Ra _)) ?_
  simp;refine cq ((fewW (zAY l s2 [e]) ys.length).at hR Lf _) ?_;simp
attribute [local simp] List.forall_mem_cons List.contains_cons List.contains_nil List.find?
theorem zKb{l:List Tok}:∀(n:Nat) (acc:List BA) (s:RS) (xs:List BA) (s':RS),s.at_<=l.length->zKG l n acc s=some (xs,s')->s'.at_<=l.length/\xs.length<=acc.length+n/\s'.full=s.full
 |0,acc,s,xs,s',hs,h=>by simp[zKG]at h
 |n+1,acc,s,xs,s',hs,h=>by
  unfold zKG at h
  have fm:∀(s:RS) t,(mayP l s t).full=s.full:=fun s t=>by unfold mayP;split<;>rfl
  have ft:∀(s:RS) k,(zBN l s k).full=s.full:=fun s k=>by unfold zBN;split<;>rfl
  split at h
  .dsimp only at h
   split at h
   .have:=zKb n _ _ xs s' (zA0 _ (zA0 _ hs)) h
    simp at this;exact⟨this.1,by omega,by rw[this.2.2,fm,fm]⟩
   have:=zKb n _ _ xs s' (z9 2 (zA0 _ hs)) h
   simp at this;exact⟨this.1,by omega,by rw[this.2.2,ft,fm]⟩
  cases h;exact⟨hs,by omega,rfl⟩
theorem zGC{x:Pl}(hs:s.at_<=l.length)(h:zGz l n s=some (x,s')):s'.at_<=l.length/\s'.full=s.full:=by
 unfold zGz at h
 obtain⟨⟨t,s1⟩,hk,he⟩:=Option.map_eq_some_iff.1 h
 cases he
 have:=zKb n _ _ t _ (z9 2 hs) hk
 have ft:∀(s:RS) k,(zBN l s k).full=s.full:=fun s k=>by unfold zBN;split<;>rfl
 exact⟨this.1,by rw[this.2.2,ft]⟩
theorem zSm(hn:n<=100000){x:Pl}(hs:s.at_<=l.length)(h:zGz l n s=some (x,s')):RdC 203 [] l s s' (plV x):=by
 unfold zGz at h
 obtain⟨⟨ps,s1⟩,hk,he⟩:=Option.map_eq_some_iff.1 h
 cases he
 have h1:=z9 (s:=s) 2 hs
 refine RdC.intro fun S d i hR=>?_
 refine ADet.intro mixed call203 func203 rfl ?_;simp[ntmps203];refine cq ((zIA s).at hR hs _) ?_;simp;refine zAw 9 1 (by decide) [.cells [.any,.any] 40,.cells [Sg (zAJ l s 2),.osl 1 [] 0 2] 40] (fun a:Nat × List BA × RS=>zKG l a.1 a.2.1 a.2.2=some (ps,s1)/\a.2.1.length+a.1<=n/\a.2.2.at_<=l.length) (fun a=>([.ptr (d+1) i 0,.any,.ptr 0 0 0,.ptr 0 1 0]++List.replicate 20 .any)) (fun a=>[.cells [.any,.any] 40,.cells [Sg (zAJ l s 2),.osl 1 (a.2.1.map fun s=>[pS s]) 0 2] 40,.tok 9 1 a.2.1.length]::set2 S d i (rdO l a.2.2)) (fun a=>a.1) (n,[],zBN l s 2) ⟨hk,by simp,h1⟩ ?_ ?_ ?_ ?_
 .simp
 .simp
 .rfl
 rintro⟨k,acc,s4⟩ ⟨hl,sh,Ua⟩
 simp only at hl sh Ua
 cases k with
 |zero=>simp[zKG]at hl
 |succ k=>
 unfold zKG at hl;simp;refine cq ((mayW s4 (⟨#[46]⟩:BA)).at hR Ua _) ?_
 cases hc:isP l s4 (⟨#[46]⟩:BA) 0 with
 |true=>
  rw[hc,if_pos rfl]at hl
  dsimp only at hl
  have gg:=zA0 (s:=s4) (⟨#[46]⟩:BA) Ua
  have ef:acc.length+1<=4294967296:=by omega
  simp;refine cq ((mayW _ (⟨#[42]⟩:BA)).at hR gg _) ?_
  cases hd:isP l (mayP l s4 (⟨#[46]⟩:BA)) (⟨#[42]⟩:BA) 0 with
  |true=>
   rw[hd,if_pos rfl]at hl;simp[ef]
   refine⟨k,acc++[(⟨#[42]⟩:BA)],_,⟨hl,by simp;omega,zA0 _ gg⟩,by omega,⟨by simp,by simp⟩,rfl⟩
  |false=>
   rw[hd,if_neg (by simp)]at hl
   have Pm:mayP l (mayP l s4 (⟨#[46]⟩:BA)) (⟨#[42]⟩:BA)=mayP l s4 (⟨#[46]⟩:BA):=by
    generalize mayP l s4 (⟨#[46]⟩:BA)=s5 at*
    unfold mayP;rw[hd];rfl
   rw[Pm];simp;refine dB [(1,3),(1,4)] (by kernel_rfl) ?_
   simp;refine cq ((zIA _).at hR gg _) ?_;simp[ef]
   exact⟨k,acc++[zAJ l (mayP l s4 (⟨#[46]⟩:BA)) 2],_,⟨hl,by simp;omega,z9 2 gg⟩,by omega,⟨by simp,by simp⟩,rfl⟩
 |false=>
  rw[hc,if_neg (by simp)]at hl
  cases hl
  have gg:mayP l s1 (⟨#[46]⟩:BA)=s1:=by unfold mayP;rw[hc];rfl
  rw[gg];simp[strs]
def zGD:List AObj:=[mapK (zB1 0),mapK (zB1 1),mapK (zB1 2),mapK (zB1 3),mapK (zB1 4),mapK (zB1 5)]
theorem zJb(k:Nat)(hk:k<=5)(L:List AObj)(S:ASt):∃X,ADet Tryz.prog 225 [I k] (L::S) (.mp 0 (L.length+k)) ((L++zGD++[X])::S):=by
 rcases(by omega:k=0\/k=1\/k=2\/k=3\/k=4\/k=5)with rfl|rfl|rfl|rfl|rfl|rfl
 all_goals
  refine⟨?_,ADet.flat mixed call225 func225 rfl ?_⟩
  rotate_left
  simp[ntmps225,zDC,zj,mapK,zB1,zCX,zGD];rfl
def zDI(d i:Nat):List (BA × Nat):=[((⟨#[108,101,116]⟩:BA),214),((⟨#[100,114,111,112]⟩:BA),215),((⟨#[105,102]⟩:BA),216),((⟨#[119,104,105,108,101]⟩:BA),217),((⟨#[109,97,116,99,104]⟩:BA),218),((⟨#[115,99,111,112,101]⟩:BA),219),((⟨#[115,112,97,119,110]⟩:BA),220),((⟨#[108,111,99,107]⟩:BA),221),((⟨#[99,104,97,110]⟩:BA),222),((⟨#[123]⟩:BA),223)]
def mapS(d i:Nat):AObj:=.map ((zDI d i).map fun x=>(.string x.1,.fn (.func x.2) [.ptr d i 0] []))
theorem zSn(d i:Nat)(L:List AObj)(S:ASt):ADet Tryz.prog 202 [.ptr d i 0] (L::S) (.mp 0 L.length) ((L++[mapS d i])::S):=by
 refine ADet.flat mixed call202 func202 rfl ?_;simp[ntmps202,zDC,zj,mapS,zDI,zCX]
theorem zSo(d i:Nat)(s:BA)(h:zH9.any (fun t=>sEq s t)=false):zAk .string (.string s) ((zDI d i).map fun x=>(.string x.1,.fn (.func x.2) [.ptr d i 0] [])) 0=some none:=by
 simp only[zH9,List.any_cons,List.any_nil,Bool.or_eq_false_iff]at h
 obtain⟨h1,h2,h3,h4,h5,h6,h7,h8,h9,h10,_⟩:=h
 simp only[zDI,List.map_cons,List.map_nil,zj,h1,h2,h3,h4,h5,h6,h7,h8,h9,h10,Bool.false_eq_true,if_false];rfl
end Go.Proofs.YtdflkegnmmkkoaaGreatDoor
namespace Go.Proofs.YtdflkegnmmkkoaaGreatDoor
open Go.RowKit _root_.Go.Proofs.Tryz
attribute [local simp] List.replicate List.range List.range.loop
variable{l:List Tok}{s:RS}
abbrev itA(x:It):AV:=.agg [U x.kind,Sg x.name,.p (.sl 4 (x.fields.map Fi.enc)),U x.result.kind,Sg x.result.name,.p (.sl 3 (x.result.args.map Ty.enc)),.p (.sl 15 (x.body.map St.enc)),
 U x.ret.op,I x.ret.int,Sg x.ret.name,Sg x.ret.u2,Sg x.ret.place.name,.p (strs x.ret.place.path),.p (.sl 8 (x.ret.args.map Ex.enc)),I x.ret.pos,I x.pos]
abbrev itZ(k:Int)(nm:BA)(fs:List Fi)(pos:Int):AV:=.agg [U k,Sg nm,.p (.sl 4 (fs.map Fi.enc)),U 0,Sg emS,nilS,nilS,U 0,I 0,Sg emS,Sg emS,Sg emS,nilS,nilS,I 0,I pos]
theorem zaY(k:Int)(nm:BA)(fs:List Fi)(pos:Int):LeA (itZ k nm fs pos) (itA ⟨k,nm,fs,zLa,[],zFa,pos⟩):=by
 repeat' constructor
theorem zAZ(s:RS):RdC 134 [] l s s (I (zBY l s)):=RdC.intro fun S d i h=>by
 rw[h.same];exact rAtC h
theorem zM0{n:Nat}(hn:n<=100000){x:It}{s':RS}(hs:s.at_<=l.length)(h1:isP l s (⟨#[115,116,114,117,99,116]⟩:BA) 0=true)(h:zU3 l n s=some (x,s')):RdC 113 [] l s s' (itA x):=by
 unfold zU3 at h;rw[h1,if_pos rfl]at h
 dsimp only at h
 obtain⟨⟨fs,s1⟩,hk,he⟩:=Option.map_eq_some_iff.1 h
 cases he
 have xa:=zA0 (s:=s) (⟨#[115,116,114,117,99,116]⟩:BA) hs
 have Pb:=z9 (s:=mayP l s (⟨#[115,116,114,117,99,116]⟩:BA)) 3 xa
 have Kk:=zk [(⟨#[123]⟩:BA)] _ Pb
 have lC:=zJa (K:=139) (fun s x s' a b=>zGB a b) (fun s x s' a b=>zSl a b) hn Kk hk
 refine RdC.less (zaY _ _ _ _) (RdC.intro fun S d i hR=>?_)
 refine ADet.intro mixed call113 func113 rfl ?_;simp[ntmps113];refine cq ((zAZ s).at hR hs _) ?_;simp;refine cq ((mayW s (⟨#[115,116,114,117,99,116]⟩:BA)).at hR hs _) ?_;rw[h1];simp;refine cq ((zWI _).at hR xa _) ?_;simp;refine cq (ADet.sub (.cons (.refl _) (.cons (.osl (.refl _)) (.refl _))) ((zFb _ [(⟨#[123]⟩:BA)] (by simp) Pb).at hR Pb _)) ?_
 simp;refine cq (lC.at hR Kk _) ?_;simp
attribute [local simp] List.forall_mem_cons List.contains_cons List.contains_nil List.find?
abbrev exZ:AV:=.agg [U 0,I 0,Sg emS,Sg emS,Sg emS,nilS,nilS,I 0]
theorem zLw:LeA exZ (exV zFa):=by repeat' constructor
theorem zPt(hb:s.bad=true):RdC 224 [] l s s exZ:=fun S d i hR=>by
 have ho:=hR.o
 have Ri:set2 S d i (rdO l s)=S:=hR.same
 have Oa:rdO l ⟨s.at_,true,s.full⟩=rdO l s:=by rw[<-hb]
 refine ADet.intro mixed call224 func224 rfl ?_;simp[ntmps224];refine dB [] (by kernel_rfl) ?_
 simp[ho,hb];exact congrArg (set2 S d i) Oa
theorem zPu(hb:s.bad=false)(hlt:¬s.at_<l.length):RdC 224 [] l s ⟨s.at_,true,s.full⟩ exZ:=fun S d i hR=>by
 have ho:=hR.o
 have aa:(l.length:Int)<=(s.at_:Int):=by omega
 refine ADet.intro mixed call224 func224 rfl ?_;simp[ntmps224];refine dB [] (by kernel_rfl) ?_
 simp[ho,hb,aa]
theorem zPv{n:Nat}(hn:n<=100000){x:Tok}{p:Pl}{s':RS}(hs:s.at_<=l.length)(hb:s.bad=false)(hx:l[s.at_]? =some x)(hk:x.kind=2)(hi:isP l s (⟨#[40]⟩:BA) 1=false)(hp:zGz l n s=some (p,s')):RdC 224 [] l s s' (exV (.mk 4 0 emS emS p [] x.pos)):=by
 refine RdC.less (r:=.agg [U 4,I 0,Sg emS,Sg emS,Sg p.name,.p (strs p.path),nilS,I x.pos]) (by repeat' constructor) (RdC.intro fun S d i hR=>?_)
 have ho:=(hR.upd s hs).o
 have hlt:=(List.getElem?_eq_some_iff.1 hx).1
 have aa:¬(l.length:Int)<=(s.at_:Int):=by omega
 have Ia:(s.at_:Int)<(l.length:Int):=by omega
 clear hlt
 have pC:=zSm hn hs hp
 have iC:=fun L=>isC ((hR.upd s hs).push L) (⟨#[40]⟩:BA) 1 (by omega)
 rw[hi]at iC;refine ADet.intro mixed call224 func224 rfl ?_;simp[ntmps224];refine dB [] (by kernel_rfl) ?_
 simp[ho,hb,aa];refine dB [(3,10),(7,10),(9,10)] (by kernel_rfl) ?_
 simp[ho,hx,Ia,Tok.enc,hk];refine cq (iC _) ?_;simp;refine dB [(3,1)] (by kernel_rfl) ?_
 simp;refine cq (pC.at hR hs _) ?_;simp
end Go.Proofs.YtdflkegnmmkkoaaGreatDoor
