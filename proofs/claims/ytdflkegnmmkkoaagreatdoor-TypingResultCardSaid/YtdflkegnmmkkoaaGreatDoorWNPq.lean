/- A part of the proof. -/
import Derived.Test.YtdflkegnmmkkoaaGreatDoorWNPp
set_option linter.unusedVariables false
set_option linter.unusedSimpArgs false
set_option maxRecDepth 100000
set_option maxHeartbeats 32000000
namespace Go.Proofs.YtdflkegnmmkkoaaGreatDoor
open Go.RowKit _root_.Go.Proofs.Tryz
attribute [local simp] List.replicate List.range List.range.loop List.forall_mem_cons List.contains_cons List.contains_nil List.find?
variable{S:ASt}{l:List Tok}{s:RS}
abbrev rdO(l:List Tok)(s:RS):AObj:=.cells [.p (.sl 3 (l.map Tok.enc)),I s.at_,B s.bad,B s.full] 164
structure RAt (S:ASt) (d i:Nat) (l:List Tok) (s:RS):Prop where
 o:get2 S d i=some (rdO l s)
 le:s.at_<=l.length
 n:l.length<=1500
theorem RAt.push{d i:Nat}(h:RAt S d i l s)(L:List AObj):RAt (L::S) (d+1) i l s:=⟨h.o,h.le,h.n⟩
theorem RAt.upd{d i:Nat}(h:RAt S d i l s)(s':RS)(hl:s'.at_<=l.length):RAt (set2 S d i (rdO l s')) d i l s':=⟨by rw[zu,h.o];rfl,hl,h.n⟩
theorem RAt.same{d i:Nat}(h:RAt S d i l s):set2 S d i (rdO l s)=S:=zAN h.o
theorem zCb{a b:Nat}(h:a+b<=maxLen):IntKind.i64.wrap ((a:Int)+(b:Int))=((a+b:Nat):Int):=by
 unfold maxLen at h;rw[IntWalk.i64_in _ (by omega)];omega
theorem rAtC{d i:Nat}(h:RAt S d i l s):ADet Tryz.prog 134 [.ptr d i 0] S (I (zBY l s)) S:=by
 have ho:=h.o
 have oa:=h.le
 refine ADet.intro mixed call134 func134 rfl ?_;simp[ntmps134];refine dB [] (by kernel_rfl) ?_
 unfold zBY
 by_cases hlt:s.at_<l.length
 .have aa:(s.at_:Int)<(l.length:Int):=by omega
  obtain⟨t,ht⟩:∃t,l[s.at_]? =some t:=⟨_,List.getElem?_eq_getElem hlt⟩
  simp[ho,aa,hlt];refine dB [] (by kernel_rfl) ?_
  simp[ho,aa,hlt,ht,Tok.enc]
 have aa:¬(s.at_:Int)<(l.length:Int):=by omega
 have hn:l[s.at_]? =none:=List.getElem?_eq_none (by omega)
 simp[ho,aa,hlt,hn]
theorem isC{d i:Nat}(h:RAt S d i l s)(t:BA)(k:Nat)(hk:k<=1):ADet Tryz.prog 171 [.ptr d i 0,Sg t,I k] S (B (isP l s t k)) S:=by
 have ho:=h.o
 have oa:=h.le
 have hn:=h.n
 have hw:IntKind.i64.wrap ((s.at_:Int)+(k:Int))=((s.at_+k:Nat):Int):=zCb (by unfold maxLen;omega)
 obtain⟨Q,hQ⟩:∃Q,Q=s.at_+k:=⟨_,rfl⟩
 rw[<-hQ]at hw;refine ADet.intro mixed call171 func171 rfl ?_;simp[ntmps171];refine dB [] (by kernel_rfl) ?_
 unfold isP;rw[<-hQ]
 cases hb:s.bad with
 |true=>simp[ho,hb]
 |false=>
  by_cases hlt:Q<l.length
  .have aa:(Q:Int)<(l.length:Int):=by omega
   obtain⟨x,ht⟩:∃t,l[Q]? =some t:=⟨_,List.getElem?_eq_getElem hlt⟩
   simp[ho,hb,hw,aa,hlt,ht,Tok.enc]
  have aa:¬(Q:Int)<(l.length:Int):=by omega
  have hn:l[Q]? =none:=List.getElem?_eq_none (by omega)
  simp[ho,hb,hw,aa,hlt,hn]
theorem zaN{t:BA}{k:Nat}(h:isP l s t k=true):s.at_+k<l.length:=by
 unfold isP at h
 rcases Nat.lt_or_ge (s.at_+k) l.length with hl|hl
 .exact hl
 rw[List.getElem?_eq_none hl]at h;simp at h
theorem zA0(t:BA)(h:s.at_<=l.length):(mayP l s t).at_<=l.length:=by
 unfold mayP;split
 .rename_i hi;have:=zaN hi;show s.at_+1<=_;omega
 exact h
theorem mayC{d i:Nat}(h:RAt S d i l s)(t:BA):ADet Tryz.prog 135 [.ptr d i 0,Sg t] S (B (isP l s t 0)) (set2 S d i (rdO l (mayP l s t))):=by
 have ho:=h.o
 have oa:=h.le
 have hn:=h.n
 have hw:IntKind.i64.wrap ((s.at_:Int)+1)=((s.at_+1:Nat):Int):=zCb (b:=1) (by unfold maxLen;omega)
 refine ADet.intro mixed call135 func135 rfl ?_;simp[ntmps135];refine cq (isC (h.push _) t 0 (by omega)) ?_
 unfold mayP
 cases hi:isP l s t 0 with
 |true=>
  simp[ho,hw]
  rfl
 |false=>
  have:=h.same
  simp[ho];exact this.symm
def RdC(F:Nat)(args:List AV)(l:List Tok)(s s':RS)(r:AV):Prop:=∀(S:ASt) (d i:Nat),RAt S d i l s->ADet Tryz.prog F (.ptr d i 0::args) S r (set2 S d i (rdO l s'))
theorem RdC.at{F:Nat}{args:List AV}{s s1 s2:RS}{r:AV}(hw:RdC F args l s1 s2 r){d i:Nat}(h:RAt S d i l s)(h1:s1.at_<=l.length)(L:List AObj):
  ADet Tryz.prog F (.ptr (d+1) i 0::args) (L::set2 S d i (rdO l s1)) r (L::set2 S d i (rdO l s2)):=by
 have:=hw _ _ i ((h.upd s1 h1).push L)
 rw[zAy,zBT]at this;exact this
theorem RdC.intro{F:Nat}{args:List AV}{s s':RS}{r:AV}(hw:∀(S:ASt) (d i:Nat),RAt S d i l s->ADet Tryz.prog F (.ptr d i 0::args) (set2 S d i (rdO l s)) r (set2 S d i (rdO l s'))):RdC F args l s s' r:=fun S d i h=>by
 have:=hw S d i h
 rw[h.same]at this;exact this
theorem mayW(s:RS)(t:BA):RdC 135 [Sg t] l s (mayP l s t) (B (isP l s t 0)):=fun S d i h=>mayC h t
theorem zk{l:List Tok}:∀(ts:List BA) (s:RS),s.at_<=l.length->(zAY l s ts).at_<=l.length
 | [],s,h=>h
 |t::ts,s,h=>zk ts _ (zA0 t h)
theorem zFb(s:RS)(ts:List BA)(pa:ts.length<=10)(hs:s.at_<=l.length):RdC 137 [.p (.sl 1 (ts.map fun t=>[pS t]))] l s (zAY l s ts) .un:=RdC.intro fun S d i h=>by
 refine ADet.intro mixed call137 func137 rfl ?_;simp[ntmps137];refine zH (fun a:Nat × RS=>a.1<=ts.length/\a.2.at_<=l.length/\zAY l a.2 (ts.drop a.1)=zAY l s ts) (fun a=>[.ptr (d+1) i 0,.any,.any,.any,.any,.any,.p (.sl 1 (ts.map fun t=>[pS t])),I ts.length,I a.1,.any,.any,.any,.any,.any,.any,.any,.any,.any,.any,.any]) (fun a=>[]::set2 S d i (rdO l a.2)) (fun a=>ts.length-a.1) (0,s) ⟨Nat.zero_le _,hs,rfl⟩ ?_ ?_ ?_
 .simp
 .simp
 rintro⟨q,s1⟩ ⟨hq,h1,hm⟩
 simp only at hq h1 hm
 by_cases hlt:q<ts.length
 .have aa:(q:Int)<(ts.length:Int):=by omega
  obtain⟨t,ht⟩:∃t,ts[q]? =some t:=⟨_,List.getElem?_eq_getElem hlt⟩
  have hd:ts.drop q=t::ts.drop (q+1):=by
   rw[List.drop_eq_getElem_cons hlt]
   congr 1
   exact Option.some.inj ((List.getElem?_eq_getElem hlt).symm.trans ht)
  rw[hd]at hm
  have mC:=fun L=>(mayW s1 t).at h h1 L
  have ho:=(h.upd (mayP l s1 t) (zA0 t h1)).o
  have Rb:set2 (set2 S d i (rdO l (mayP l s1 t))) d i (rdO l ⟨(mayP l s1 t).at_,!isP l s1 t 0,s1.full⟩)=set2 S d i (rdO l ⟨(mayP l s1 t).at_,!isP l s1 t 0,s1.full⟩):=zBT _ _ _ _ _
  have Mh:(mayP l s1 t).full=s1.full:=by unfold mayP;split<;>rfl
  simp[aa,ht];refine cq (mC _) ?_;simp[ho];exact⟨q+1,⟨(mayP l s1 t).at_,!isP l s1 t 0,s1.full⟩,⟨by omega,zA0 t h1,hm⟩,by omega,zA hlt (by unfold maxLen;omega),by rw[Mh]⟩
 have aa:¬(q:Int)<(ts.length:Int):=by omega
 have hd:ts.drop q=[]:=List.drop_of_length_le (by omega)
 rw[hd]at hm
 have hm:s1=zAY l s ts:=hm
 simp[aa,hm]
theorem zG0(s:RS)(k:Int):RdC 172 [U k] l s (zBN l s k) (Sg (zAJ l s k)):=fun S d i h=>by
 have ho:=h.o
 have oa:=h.le
 have hn:=h.n
 have hw:IntKind.i64.wrap ((s.at_:Int)+1)=((s.at_+1:Nat):Int):=zCb (b:=1) (by unfold maxLen;omega)
 refine ADet.intro mixed call172 func172 rfl ?_;simp[ntmps172];refine dB [] (by kernel_rfl) ?_
 unfold zBN zAJ zGV
 cases hb:s.bad with
 |true=>
  simp[ho,hb]
 |false=>
  by_cases hlt:s.at_<l.length
  .have aa:(s.at_:Int)<(l.length:Int):=by omega
   have Ia:¬(l.length:Int)<=(s.at_:Int):=by omega
   obtain⟨x,ht⟩:∃t,l[s.at_]? =some t:=⟨_,List.getElem?_eq_getElem hlt⟩
   by_cases hk:x.kind=k
   .have ve:IntKind.i64.wrap (s.at_:Int)=(s.at_:Int):=IntWalk.i64_in _ (by omega)
    simp[ho,hb,aa,Ia,ht,Tok.enc,hk,hw];refine dB [] (by kernel_rfl) ?_
    simp[ho,hb,aa,Ia,ht,Tok.enc,hk,hw,ve];rfl
   simp[ho,hb,aa,Ia,ht,Tok.enc,hk]
  have aa:(l.length:Int)<=(s.at_:Int):=by omega
  have hn:l[s.at_]? =none:=List.getElem?_eq_none (by omega)
  simp[ho,hb,aa,hlt,hn]
end Go.Proofs.YtdflkegnmmkkoaaGreatDoor
namespace Go.Proofs.YtdflkegnmmkkoaaGreatDoor
open Go.RowKit _root_.Go.Proofs.Tryz
attribute [local simp] List.replicate List.range List.range.loop
variable{k:Int}{l:List Tok}{s:RS}
theorem zIA(s:RS):RdC 141 [] l s (zBN l s 2) (Sg (zAJ l s 2)):=fun S d i h=>by
 refine ADet.intro mixed call141 func141 rfl ?_;simp[ntmps141];refine cq (zG0 s 2 _ _ _ (h.push _)) ?_;simp
theorem zWI(s:RS):RdC 136 [] l s (zBN l s 3) (Sg (zAJ l s 3)):=fun S d i h=>by
 refine ADet.intro mixed call136 func136 rfl ?_;simp[ntmps136];refine cq (zG0 s 3 _ _ _ (h.push _)) ?_;simp
theorem fewW(s:RS)(n:Nat):RdC 173 [I n,I 6] l s (fewP s n) .un:=fun S d i h=>by
 have ho:=h.o
 refine ADet.intro mixed call173 func173 rfl ?_;simp[ntmps173];unfold fewP
 by_cases h6:6<n
 .have sk:(6:Int)<(n:Int):=by omega
  cases hf:s.full<;>simp[ho,hf,h6,sk]
 have sk:¬(6:Int)<(n:Int):=by omega
 cases hf:s.full<;>simp[ho,hf,h6,sk]
def mapK(l:List (BA × Int)):AObj:=.map (l.map fun x=>(.string x.1,U x.2))
theorem z5(s:BA):∀(l:List (BA × Int)) (i:Nat),∃j,zAk .string (.string s) (l.map fun x=>(.string x.1,U x.2)) i=some ((zB0 s l).map fun k=>(j,U k))
 | [],i=>⟨0,rfl⟩
 |(t,k)::l,i=>by
  rw[List.map_cons,zj,zB0]
  cases sEq s t with
  |true=>exact⟨i,rfl⟩
  |false=>exact z5 s l (i+1)
theorem zEB(L:List AObj)(S:ASt):ADet Tryz.prog 174 [] (L::S) (.mp 0 L.length) ((L++[mapK zDN])::S):=by
 refine ADet.flat mixed call174 func174 rfl ?_;simp[ntmps174,zDC,zj,mapK,zDN,zCX]
theorem zGW(L:List AObj)(S:ASt):ADet Tryz.prog 175 [] (L::S) (.mp 0 L.length) ((L++[mapK zFJ])::S):=by
 refine ADet.flat mixed call175 func175 rfl ?_;simp[ntmps175,zDC,zj,mapK,zFJ,zCX]
abbrev tyA(t:Ty):AV:=.agg [U t.kind,Sg t.name,.p (.sl 3 (t.args.map Ty.enc))]
theorem RdC.less{F:Nat}{args:List AV}{s s':RS}{r r':AV}(oa:LeA r r')(h:RdC F args l s s' r):RdC F args l s s' r':=fun S d i hR=>ADet.less oa (h S d i hR)
theorem zEC(h:zGV l s k=false):s.bad=true\/(s.bad=false/\¬(s.at_:Int)<(l.length:Int))\/(s.bad=false/\(s.at_:Int)<(l.length:Int)/\∃x,l[s.at_]? =some x/\¬x.kind=k):=by
 unfold zGV at h
 cases hb:s.bad with
 |true=>exact .inl rfl
 |false=>
  cases hx:l[s.at_]? with
  |none=>
   have:=List.getElem?_eq_none_iff.1 hx
   exact .inr (.inl ⟨rfl,by omega⟩)
  |some x=>
   have:=(List.getElem?_eq_some_iff.1 hx).1
   rw[hb,hx]at h;exact .inr (.inr ⟨rfl,by omega,x,rfl,by simpa using h⟩)
theorem zJN(h:zGV l s k=true):s.bad=false/\(s.at_:Int)<(l.length:Int)/\∃x,l[s.at_]? =some x/\x.kind=k:=by
 unfold zGV at h;simp only[Bool.and_eq_true,Bool.not_eq_true']at h
 cases hx:l[s.at_]? with
 |none=>rw[hx]at h;simp at h
 |some x=>
  have:=(List.getElem?_eq_some_iff.1 hx).1
  rw[hx]at h;exact⟨h.1,by omega,x,rfl,by simpa using h.2⟩
theorem z9(k:Int)(h:s.at_<=l.length):(zBN l s k).at_<=l.length:=by
 unfold zBN;split
 .rename_i hh
  obtain⟨_,hlt,_⟩:=zJN hh
  show s.at_+1<=_;omega
 exact h
theorem zFz:∀(n:Nat) (l:List Tok) (s:RS) (t:Ty) (s':RS),s.at_<=l.length->zGy l n s=some (t,s')->s'.at_<=l.length
 |0,l,s,t,s',_,h=>by simp[zGy]at h
 |n+1,l,s,t,s',hs,h=>by
  unfold zGy at h;split at h
  .obtain⟨⟨t1,s1⟩,hk,he⟩:=Option.map_eq_some_iff.1 h
   cases he;exact zFz n l _ t1 _ (zA0 _ (zA0 _ hs)) hk
  split at h
  .cases h;exact z9 3 hs
  split at h
  .cases h;exact z9 1 hs
  split at h
  .cases h;exact hs
  obtain⟨⟨t1,s1⟩,hk,he⟩:=Option.map_eq_some_iff.1 h
  cases he;exact zk _ _ (zFz n l _ t1 _ (zk _ _ (z9 1 hs)) hk)
attribute [local simp] List.forall_mem_cons List.contains_cons List.contains_nil List.find?
theorem zPO(hs:s.at_<=l.length)(h1:isP l s (⟨#[38]⟩:BA) 0=false)(hf:zB0 (zAJ l s 1) zDN=some k)(hb:s.bad=true):RdC 142 [] l s (zBN l s 1) (.agg [U k,Sg emS,nilS]):=by
 have hm:mayP l s (⟨#[38]⟩:BA)=s:=by unfold mayP;rw[h1];rfl
 have Jc:=z9 (s:=s) 1 hs
 obtain⟨j,hj⟩:=z5 (zAJ l s 1) zDN 0
 rw[hf,Option.map_some]at hj;refine RdC.intro fun S d i hR=>?_
 have ho:=(hR.upd s hs).o
 have ei:=(hR.upd _ Jc).o
 have oa:=hs
 have hn:=hR.n
 refine ADet.intro mixed call142 func142 rfl ?_;simp[ntmps142];refine cq ((mayW s (⟨#[38]⟩:BA)).at hR hs _) ?_;rw[h1,hm];simp[ho];refine dB [] (by kernel_rfl) ?_
 simp[ho,hb];refine cq ((zG0 s 1).at hR hs _) ?_;simp;refine cq (zEB _ _) ?_;simp[mapK,hj]
theorem zPP(hs:s.at_<=l.length)(h1:isP l s (⟨#[38]⟩:BA) 0=false)(hf:zB0 (zAJ l s 1) zDN=some k)(hb:s.bad=false)(hlt:¬(s.at_:Int)<(l.length:Int)):RdC 142 [] l s (zBN l s 1) (.agg [U k,Sg emS,nilS]):=by
 have hm:mayP l s (⟨#[38]⟩:BA)=s:=by unfold mayP;rw[h1];rfl
 have Jc:=z9 (s:=s) 1 hs
 obtain⟨j,hj⟩:=z5 (zAJ l s 1) zDN 0
 rw[hf,Option.map_some]at hj;refine RdC.intro fun S d i hR=>?_
 have ho:=(hR.upd s hs).o
 have ei:=(hR.upd _ Jc).o
 have oa:=hs
 have hn:=hR.n
 refine ADet.intro mixed call142 func142 rfl ?_;simp[ntmps142];refine cq ((mayW s (⟨#[38]⟩:BA)).at hR hs _) ?_;rw[h1,hm];simp[ho];refine dB [] (by kernel_rfl) ?_
 simp[ho,hb,hlt];refine cq ((zG0 s 1).at hR hs _) ?_;simp;refine cq (zEB _ _) ?_;simp[mapK,hj]
theorem zPQ(hs:s.at_<=l.length)(h1:isP l s (⟨#[38]⟩:BA) 0=false)(hf:zB0 (zAJ l s 1) zDN=some k)(hb:s.bad=false)(hlt:(s.at_:Int)<(l.length:Int)){x:Tok}(hx:l[s.at_]? =some x)(hk:¬x.kind=3):RdC 142 [] l s (zBN l s 1) (.agg [U k,Sg emS,nilS]):=by
 have hm:mayP l s (⟨#[38]⟩:BA)=s:=by unfold mayP;rw[h1];rfl
 have Jc:=z9 (s:=s) 1 hs
 obtain⟨j,hj⟩:=z5 (zAJ l s 1) zDN 0
 rw[hf,Option.map_some]at hj;refine RdC.intro fun S d i hR=>?_
 have ho:=(hR.upd s hs).o
 have ei:=(hR.upd _ Jc).o
 have oa:=hs
 have hn:=hR.n
 refine ADet.intro mixed call142 func142 rfl ?_;simp[ntmps142];refine cq ((mayW s (⟨#[38]⟩:BA)).at hR hs _) ?_;rw[h1,hm];simp[ho];refine dB [] (by kernel_rfl) ?_
 simp[ho,hb,hlt,hx,hk,Tok.enc];refine cq ((zG0 s 1).at hR hs _) ?_;simp;refine cq (zEB _ _) ?_;simp[mapK,hj]
theorem zPR(hs:s.at_<=l.length)(h1:isP l s (⟨#[38]⟩:BA) 0=false)(hf:zB0 (zAJ l s 1) zDN=none)(hg:zB0 (zAJ l s 1) zFJ=none)(hb:s.bad=true):RdC 142 [] l s ⟨s.at_,true,s.full⟩ (.agg [U 0,Sg emS,nilS]):=by
 have hm:mayP l s (⟨#[38]⟩:BA)=s:=by unfold mayP;rw[h1];rfl
 have Jc:=z9 (s:=s) 1 hs
 obtain⟨j,hj⟩:=z5 (zAJ l s 1) zDN 0
 rw[hf,Option.map_none]at hj
 obtain⟨j2,Mf⟩:=z5 (zAJ l s 1) zFJ 0
 rw[hg,Option.map_none]at Mf
 have Sj:(zBN l s 1).full=s.full:=by unfold zBN;split<;>rfl
 refine RdC.intro fun S d i hR=>?_
 have ho:=(hR.upd s hs).o
 have ei:=(hR.upd _ Jc).o
 have oa:=hs
 have hn:=hR.n
 refine ADet.intro mixed call142 func142 rfl ?_;simp[ntmps142];refine cq ((mayW s (⟨#[38]⟩:BA)).at hR hs _) ?_;rw[h1,hm];simp[ho];refine dB [] (by kernel_rfl) ?_
 simp[ho,hb];refine cq ((zG0 s 1).at hR hs _) ?_;simp;refine cq (zEB _ _) ?_;simp[mapK,hj];refine cq (zGW _ _) ?_
 have Tj:=hR.o
 simp[mapK,Mf,ei,Sj,Tj]
theorem zPS(hs:s.at_<=l.length)(h1:isP l s (⟨#[38]⟩:BA) 0=false)(hf:zB0 (zAJ l s 1) zDN=none)(hg:zB0 (zAJ l s 1) zFJ=none)(hb:s.bad=false)(hlt:¬(s.at_:Int)<(l.length:Int)):RdC 142 [] l s ⟨s.at_,true,s.full⟩ (.agg [U 0,Sg emS,nilS]):=by
 have hm:mayP l s (⟨#[38]⟩:BA)=s:=by unfold mayP;rw[h1];rfl
 have Jc:=z9 (s:=s) 1 hs
 obtain⟨j,hj⟩:=z5 (zAJ l s 1) zDN 0
 rw[hf,Option.map_none]at hj
 obtain⟨j2,Mf⟩:=z5 (zAJ l s 1) zFJ 0
 rw[hg,Option.map_none]at Mf
 have Sj:(zBN l s 1).full=s.full:=by unfold zBN;split<;>rfl
 refine RdC.intro fun S d i hR=>?_
 have ho:=(hR.upd s hs).o
 have ei:=(hR.upd _ Jc).o
 have oa:=hs
 have hn:=hR.n
 refine ADet.intro mixed call142 func142 rfl ?_;simp[ntmps142];refine cq ((mayW s (⟨#[38]⟩:BA)).at hR hs _) ?_;rw[h1,hm];simp[ho];refine dB [] (by kernel_rfl) ?_
 simp[ho,hb,hlt];refine cq ((zG0 s 1).at hR hs _) ?_;simp;refine cq (zEB _ _) ?_;simp[mapK,hj];refine cq (zGW _ _) ?_
 have Tj:=hR.o
 simp[mapK,Mf,ei,Sj,Tj]
theorem zPT(hs:s.at_<=l.length)(h1:isP l s (⟨#[38]⟩:BA) 0=false)(hf:zB0 (zAJ l s 1) zDN=none)(hg:zB0 (zAJ l s 1) zFJ=none)(hb:s.bad=false)(hlt:(s.at_:Int)<(l.length:Int)){x:Tok}(hx:l[s.at_]? =some x)(hk:¬x.kind=3):RdC 142 [] l s ⟨s.at_,true,s.full⟩ (.agg [U 0,Sg emS,nilS]):=by
 have hm:mayP l s (⟨#[38]⟩:BA)=s:=by unfold mayP;rw[h1];rfl
 have Jc:=z9 (s:=s) 1 hs
 obtain⟨j,hj⟩:=z5 (zAJ l s 1) zDN 0
 rw[hf,Option.map_none]at hj
 obtain⟨j2,Mf⟩:=z5 (zAJ l s 1) zFJ 0
 rw[hg,Option.map_none]at Mf
 have Sj:(zBN l s 1).full=s.full:=by unfold zBN;split<;>rfl
 refine RdC.intro fun S d i hR=>?_
 have ho:=(hR.upd s hs).o
 have ei:=(hR.upd _ Jc).o
 have oa:=hs
 have hn:=hR.n
 refine ADet.intro mixed call142 func142 rfl ?_;simp[ntmps142];refine cq ((mayW s (⟨#[38]⟩:BA)).at hR hs _) ?_;rw[h1,hm];simp[ho];refine dB [] (by kernel_rfl) ?_
 simp[ho,hb,hlt,hx,hk,Tok.enc];refine cq ((zG0 s 1).at hR hs _) ?_;simp;refine cq (zEB _ _) ?_;simp[mapK,hj];refine cq (zGW _ _) ?_
 have Tj:=hR.o
 simp[mapK,Mf,ei,Sj,Tj]
theorem zPU{t1:Ty}{s1:RS}(hs:s.at_<=l.length)(h1:isP l s (⟨#[38]⟩:BA) 0=false)(hf:zB0 (zAJ l s 1) zDN=none)(hg:zB0 (zAJ l s 1) zFJ=some k)(Pb:s1.at_<=l.length)(ih:RdC 142 [] l (zAY l (zBN l s 1) [(⟨#[60]⟩:BA)]) s1 (tyA t1))(hb:s.bad=true):RdC 142 [] l s (zAY l s1 [(⟨#[62]⟩:BA)]) (tyA (.mk k emS [t1])):=by
 have hm:mayP l s (⟨#[38]⟩:BA)=s:=by unfold mayP;rw[h1];rfl
 have Jc:=z9 (s:=s) 1 hs
 obtain⟨j,hj⟩:=z5 (zAJ l s 1) zDN 0
 rw[hf,Option.map_none]at hj
 obtain⟨j2,Mf⟩:=z5 (zAJ l s 1) zFJ 0
 rw[hg,Option.map_some]at Mf
 have xa:=zk [(⟨#[60]⟩:BA)] _ Jc
 refine RdC.intro fun S d i hR=>?_
 have ho:=(hR.upd s hs).o
 have ei:=(hR.upd _ Jc).o
 have oa:=hs
 have hn:=hR.n
 refine ADet.intro mixed call142 func142 rfl ?_;simp[ntmps142];refine cq ((mayW s (⟨#[38]⟩:BA)).at hR hs _) ?_;rw[h1,hm];simp[ho];refine dB [] (by kernel_rfl) ?_
 simp[ho,hb];refine cq ((zG0 s 1).at hR hs _) ?_;simp;refine cq (zEB _ _) ?_;simp[mapK,hj];refine cq (zGW _ _) ?_;simp[mapK,Mf];refine cq (ADet.sub (.cons (.refl _) (.cons (.osl (.refl _)) (.refl _))) ((zFb (zBN l s 1) [(⟨#[60]⟩:BA)] (by simp) Jc).at hR Jc _)) ?_
 simp;refine cq (ih.at hR xa _) ?_;simp;refine cq (ADet.sub (.cons (.refl _) (.cons (.osl (.refl _)) (.refl _))) ((zFb s1 [(⟨#[62]⟩:BA)] (by simp) Pb).at hR Pb _)) ?_
 simp;exact⟨rfl,rfl,by simp[Ty.args,ze]⟩
theorem zPV{t1:Ty}{s1:RS}(hs:s.at_<=l.length)(h1:isP l s (⟨#[38]⟩:BA) 0=false)(hf:zB0 (zAJ l s 1) zDN=none)(hg:zB0 (zAJ l s 1) zFJ=some k)(Pb:s1.at_<=l.length)(ih:RdC 142 [] l (zAY l (zBN l s 1) [(⟨#[60]⟩:BA)]) s1 (tyA t1))(hb:s.bad=false)(hlt:¬(s.at_:Int)<(l.length:Int)):RdC 142 [] l s (zAY l s1 [(⟨#[62]⟩:BA)]) (tyA (.mk k emS [t1])):=by
 have hm:mayP l s (⟨#[38]⟩:BA)=s:=by unfold mayP;rw[h1];rfl
 have Jc:=z9 (s:=s) 1 hs
 obtain⟨j,hj⟩:=z5 (zAJ l s 1) zDN 0
 rw[hf,Option.map_none]at hj
 obtain⟨j2,Mf⟩:=z5 (zAJ l s 1) zFJ 0
 rw[hg,Option.map_some]at Mf
 have xa:=zk [(⟨#[60]⟩:BA)] _ Jc
 refine RdC.intro fun S d i hR=>?_
 have ho:=(hR.upd s hs).o
 have ei:=(hR.upd _ Jc).o
 have oa:=hs
 have hn:=hR.n
 refine ADet.intro mixed call142 func142 rfl ?_;simp[ntmps142];refine cq ((mayW s (⟨#[38]⟩:BA)).at hR hs _) ?_;rw[h1,hm];simp[ho];refine dB [] (by kernel_rfl) ?_
 simp[ho,hb,hlt];refine cq ((zG0 s 1).at hR hs _) ?_;simp;refine cq (zEB _ _) ?_;simp[mapK,hj];refine cq (zGW _ _) ?_;simp[mapK,Mf];refine cq (ADet.sub (.cons (.refl _) (.cons (.osl (.refl _)) (.refl _))) ((zFb (zBN l s 1) [(⟨#[60]⟩:BA)] (by simp) Jc).at hR Jc _)) ?_
 simp;refine cq (ih.at hR xa _) ?_;simp;refine cq (ADet.sub (.cons (.refl _) (.cons (.osl (.refl _)) (.refl _))) ((zFb s1 [(⟨#[62]⟩:BA)] (by simp) Pb).at hR Pb _)) ?_
 simp;exact⟨rfl,rfl,by simp[Ty.args,ze]⟩
theorem zPW{t1:Ty}{s1:RS}(hs:s.at_<=l.length)(h1:isP l s (⟨#[38]⟩:BA) 0=false)(hf:zB0 (zAJ l s 1) zDN=none)(hg:zB0 (zAJ l s 1) zFJ=some k)(Pb:s1.at_<=l.length)(ih:RdC 142 [] l (zAY l (zBN l s 1) [(⟨#[60]⟩:BA)]) s1 (tyA t1))(hb:s.bad=false)(hlt:(s.at_:Int)<(l.length:Int)){x:Tok}(hx:l[s.at_]? =some x)(hk:¬x.kind=3):RdC 142 [] l s (zAY l s1 [(⟨#[62]⟩:BA)]) (tyA (.mk k emS [t1])):=by
 have hm:mayP l s (⟨#[38]⟩:BA)=s:=by unfold mayP;rw[h1];rfl
 have Jc:=z9 (s:=s) 1 hs
 obtain⟨j,hj⟩:=z5 (zAJ l s 1) zDN 0
 rw[hf,Option.map_none]at hj
 obtain⟨j2,Mf⟩:=z5 (zAJ l s 1) zFJ 0
 rw[hg,Option.map_some]at Mf
 have xa:=zk [(⟨#[60]⟩:BA)] _ Jc
 refine RdC.intro fun S d i hR=>?_
 have ho:=(hR.upd s hs).o
 have ei:=(hR.upd _ Jc).o
 have oa:=hs
 have hn:=hR.n
 refine ADet.intro mixed call142 func142 rfl ?_;simp[ntmps142];refine cq ((mayW s (⟨#[38]⟩:BA)).at hR hs _) ?_;rw[h1,hm];simp[ho];refine dB [] (by kernel_rfl) ?_
 simp[ho,hb,hlt,hx,hk,Tok.enc];refine cq ((zG0 s 1).at hR hs _) ?_;simp;refine cq (zEB _ _) ?_;simp[mapK,hj];refine cq (zGW _ _) ?_;simp[mapK,Mf];refine cq (ADet.sub (.cons (.refl _) (.cons (.osl (.refl _)) (.refl _))) ((zFb (zBN l s 1) [(⟨#[60]⟩:BA)] (by simp) Jc).at hR Jc _)) ?_
 simp;refine cq (ih.at hR xa _) ?_;simp;refine cq (ADet.sub (.cons (.refl _) (.cons (.osl (.refl _)) (.refl _))) ((zFb s1 [(⟨#[62]⟩:BA)] (by simp) Pb).at hR Pb _)) ?_
 simp;exact⟨rfl,rfl,by simp[Ty.args,ze]⟩
theorem zN3:∀(n:Nat) (l:List Tok) (s:RS) (t:Ty) (s':RS),s.at_<=l.length->zGy l n s=some (t,s')->RdC 142 [] l s s' (tyA t)
 |0,l,s,t,s',_,h=>by simp[zGy]at h
 |n+1,l,s,t,s',hs,h=>by
  unfold zGy at h
  cases h1:isP l s (⟨#[38]⟩:BA) 0 with
  |true=>
   rw[h1,if_pos rfl]at h
   dsimp only at h
   obtain⟨⟨t1,s1⟩,hk,he⟩:=Option.map_eq_some_iff.1 h
   have xa:=zA0 (s:=s) (⟨#[38]⟩:BA) hs
   have Pb:=zA0 (s:=mayP l s (⟨#[38]⟩:BA)) (⟨#[109,117,116]⟩:BA) xa
   have ih:=zN3 n l _ t1 s1 Pb hk
   refine RdC.intro fun S d i hR=>?_
   refine ADet.intro mixed call142 func142 rfl ?_;simp[ntmps142];refine cq ((mayW s (⟨#[38]⟩:BA)).at hR hs _) ?_;rw[h1];simp;refine cq ((mayW _ (⟨#[109,117,116]⟩:BA)).at hR xa _) ?_
   cases h2:isP l (mayP l s (⟨#[38]⟩:BA)) (⟨#[109,117,116]⟩:BA) 0 with
   |true=>
    rw[h2]at he;cases he;simp;refine cq (ih.at hR Pb _) ?_;simp
    exact⟨rfl,rfl,by simp[Ty.args,ze]⟩
   |false=>
    rw[h2]at he;cases he;simp;refine cq (ih.at hR Pb _) ?_;simp
    exact⟨rfl,rfl,by simp[Ty.args,ze]⟩
  |false=>
  rw[h1,if_neg (by simp)]at h
  cases hh:zGV l s 3 with
  |true=>
   rw[hh,if_pos rfl]at h;cases h
   obtain⟨hb,hlt,x,hx,hk⟩:=zJN hh
   refine RdC.less (r:=.agg [U 4,Sg (zAJ l s 3),nilS]) (by repeat' constructor) (RdC.intro fun S d i hR=>?_)
   have hm:mayP l s (⟨#[38]⟩:BA)=s:=by unfold mayP;rw[h1];rfl
   have ho:=(hR.upd s hs).o
   refine ADet.intro mixed call142 func142 rfl ?_;simp[ntmps142];refine cq ((mayW s (⟨#[38]⟩:BA)).at hR hs _) ?_;rw[h1,hm];simp[ho];refine dB [] (by kernel_rfl) ?_
   simp[ho,hb,hlt,hx,hk,Tok.enc];refine cq ((zWI s).at hR hs _) ?_
   simp
  |false=>
  rw[hh,if_neg (by simp)]at h
  have Jc:=z9 (s:=s) 1 hs
  cases hf:zB0 (zAJ l s 1) zDN with
  |some k=>
   rw[hf]at h;cases h;refine RdC.less (r:=.agg [U k,Sg emS,nilS]) (by repeat' constructor) ?_
   rcases zEC hh with hb|⟨hb,hlt⟩|⟨hb,hlt,x,hx,hk⟩
   .exact zPO hs h1 hf hb
   .exact zPP hs h1 hf hb hlt
   exact zPQ hs h1 hf hb hlt hx hk
  |none=>
  rw[hf]at h
  dsimp only at h
  cases hg:zB0 (zAJ l s 1) zFJ with
  |none=>
   rw[hg]at h;cases h;refine RdC.less (r:=.agg [U 0,Sg emS,nilS]) (by repeat' constructor) ?_
   rcases zEC hh with hb|⟨hb,hlt⟩|⟨hb,hlt,x,hx,hk⟩
   .exact zPR hs h1 hf hg hb
   .exact zPS hs h1 hf hg hb hlt
   exact zPT hs h1 hf hg hb hlt hx hk
  |some k=>
   rw[hg]at h
   dsimp only at h
   obtain⟨⟨t1,s1⟩,hk,he⟩:=Option.map_eq_some_iff.1 h
   cases he
   have xa:=zk [(⟨#[60]⟩:BA)] _ Jc
   have Pb:=zFz n l _ t1 s1 xa hk
   have ih:=zN3 n l _ t1 s1 xa hk
   rcases zEC hh with hb|⟨hb,hlt⟩|⟨hb,hlt,x,hx,hk⟩
   .exact zPU hs h1 hf hg Pb ih hb
   .exact zPV hs h1 hf hg Pb ih hb hlt
   exact zPW hs h1 hf hg Pb ih hb hlt hx hk
end Go.Proofs.YtdflkegnmmkkoaaGreatDoor
