/- A part of the proof. -/
import Derived.Test.YtdflkegnmmkkoaaGreatDoorWNPs
set_option linter.unusedVariables false
set_option linter.unusedSimpArgs false
set_option maxRecDepth 100000
set_option maxHeartbeats 32000000
namespace Go.Proofs.YtdflkegnmmkkoaaGreatDoor
open Go.RowKit _root_.Go.Proofs.Tryz
attribute [local simp] List.replicate List.range List.range.loop List.forall_mem_cons List.contains_cons List.contains_nil List.find?
variable{l:List Tok}{s:RS}{x:Tok}
abbrev stZ:AV:=.agg [U 0,Sg emS,Sg emS,nilS,U 0,Sg emS,nilS,I 0,Sg emS,nilS,nilS,nilS,nilS,nilS,I 0]
abbrev stAs(nm:BA)(Fu:AV)(pos:Nat):AV:=.agg [U 3,Sg emS,Sg emS,nilS,U 0,Sg emS,nilS,I 0,Sg nm,Fu,nilS,nilS,nilS,nilS,I pos]
theorem zSp(hs:s.at_<=l.length)(hb:s.bad=false)(hlt:¬(s.at_:Int)<(l.length:Int)):RdC 176 [] l s s (.tup [stZ,B false]):=RdC.intro fun S d i hR=>by
 have ho:=(hR.upd s hs).o
 have aa:(l.length:Int)<=(s.at_:Int):=by omega
 refine ADet.intro mixed call176 func176 rfl ?_;simp[ntmps176];refine dB [] (by kernel_rfl) ?_
 simp[ho,hb,aa]
theorem zPw(hs:s.at_<=l.length)(hb:s.bad=false)(hx:l[s.at_]? =some x)(hn:zH9.any (fun t=>sEq x.text t)=false):RdC 176 [] l s s (.tup [stZ,B false]):=RdC.intro fun S d i hR=>by
 have ho:=(hR.upd s hs).o
 have hlt:=(List.getElem?_eq_some_iff.1 hx).1
 have aa:¬(l.length:Int)<=(s.at_:Int):=by omega
 have Ia:(s.at_:Int)<(l.length:Int):=by omega
 clear hlt
 have hj:=zSo (d+1) i x.text hn
 refine ADet.intro mixed call176 func176 rfl ?_;simp[ntmps176];refine dB [] (by kernel_rfl) ?_
 simp[ho,hb,aa];refine dB [(5,1),(9,1),(12,1)] (by kernel_rfl) ?_
 simp[ho,hb,aa];refine cq (zSn _ _ _ _) ?_;simp[ho,hb,Ia,hx,Tok.enc,mapS,hj]
theorem zPx(hs:s.at_<=l.length)(hb:s.bad=false)(hlt:¬(s.at_:Int)<(l.length:Int)):RdC 177 [] l s s (.tup [stAs emS nilS (zBY l s),B false]):=RdC.intro fun S d i hR=>by
 have ho:=(hR.upd s hs).o
 have aa:(l.length:Int)<=(s.at_:Int):=by omega
 refine ADet.intro mixed call177 func177 rfl ?_;simp[ntmps177,ho];refine cq ((zAZ s).at hR hs _) ?_;simp;refine dB [] (by kernel_rfl) ?_
 simp[ho,hb,aa]
theorem zM1(hs:s.at_<=l.length)(hb:s.bad=false)(hx:l[s.at_]? =some x)(hk:¬x.kind=2):RdC 177 [] l s s (.tup [stAs emS nilS (zBY l s),B false]):=RdC.intro fun S d i hR=>by
 have ho:=(hR.upd s hs).o
 have hlt:=(List.getElem?_eq_some_iff.1 hx).1
 have aa:¬(l.length:Int)<=(s.at_:Int):=by omega
 have Ia:(s.at_:Int)<(l.length:Int):=by omega
 clear hlt
 have Qb:(x.kind !=2)=true:=by simpa using hk
 refine ADet.intro mixed call177 func177 rfl ?_;simp[ntmps177,ho];refine cq ((zAZ s).at hR hs _) ?_;simp;refine dB [] (by kernel_rfl) ?_
 simp[ho,hb,aa,Ia,hx,Tok.enc,Qb]
theorem zM2(hs:s.at_<=l.length)(hb:s.bad=false)(hx:l[s.at_]? =some x)(hk:x.kind=2)(hi:isP l s (⟨#[40]⟩:BA) 1=true):RdC 177 [] l s s (.tup [stAs emS nilS (zBY l s),B false]):=RdC.intro fun S d i hR=>by
 have ho:=(hR.upd s hs).o
 have hlt:=(List.getElem?_eq_some_iff.1 hx).1
 have aa:¬(l.length:Int)<=(s.at_:Int):=by omega
 have Ia:(s.at_:Int)<(l.length:Int):=by omega
 clear hlt
 have iC:=fun L=>isC ((hR.upd s hs).push L) (⟨#[40]⟩:BA) 1 (by omega)
 rw[hi]at iC;refine ADet.intro mixed call177 func177 rfl ?_;simp[ntmps177,ho];refine cq ((zAZ s).at hR hs _) ?_;simp;refine dB [] (by kernel_rfl) ?_
 simp[ho,hb,aa,Ia,hx,Tok.enc,hk];refine cq (iC _) ?_;simp
theorem zM3{n:Nat}(hn:n<=100000){p:Pl}{s1:RS}(hs:s.at_<=l.length)(hb:s.bad=false)(hx:l[s.at_]? =some x)(hk:x.kind=2)(hi:isP l s (⟨#[40]⟩:BA) 1=false)(hp:zGz l n s=some (p,s1))(he:s1.bad=true\/(s1.bad=false/\isP l s1 (⟨#[61]⟩:BA) 0=false)):RdC 177 [] l s s (.tup [stAs p.name (.p (strs p.path)) (zBY l s),B false]):=RdC.intro fun S d i hR=>by
 have ho:=(hR.upd s hs).o
 have Tj:=hR.o
 have hz:rdO l s= .cells [.p (.sl 3 (l.map Tok.enc)),I s.at_,B false,B s.full] 164:=by rw[<-hb]
 have hlt:=(List.getElem?_eq_some_iff.1 hx).1
 have aa:¬(l.length:Int)<=(s.at_:Int):=by omega
 have Ia:(s.at_:Int)<(l.length:Int):=by omega
 clear hlt
 have iC:=fun L=>isC ((hR.upd s hs).push L) (⟨#[40]⟩:BA) 1 (by omega)
 rw[hi]at iC
 have pC:=zSm hn hs hp
 obtain⟨Ma,Sj⟩:=zGC hs hp
 have nc:=(hR.upd s1 Ma).o
 refine ADet.intro mixed call177 func177 rfl ?_;simp[ntmps177,ho];refine cq ((zAZ s).at hR hs _) ?_;simp;refine dB [] (by kernel_rfl) ?_
 simp[ho,hb,aa,Ia,hx,Tok.enc,hk];refine cq (iC _) ?_;simp;refine cq (pC.at hR hs _) ?_;simp[nc]
 rcases he with va|⟨va,hq⟩
 .simp[nc,va,Tj,Sj]
  exact congrArg (set2 S d i) hz.symm
 have hm:mayP l s1 (⟨#[61]⟩:BA)=s1:=by unfold mayP;rw[hq];rfl
 simp[va];refine cq ((mayW s1 (⟨#[61]⟩:BA)).at hR Ma _) ?_;rw[hq,hm];simp[nc,va,Tj,Sj];exact congrArg (set2 S d i) hz.symm
def mxL(l:List Nat):Nat:=l.foldr max 0
theorem zVX(l:List Nat)(x:Nat):mxL (l++[x])=max (mxL l) x:=by
 induction l with
 |nil=>simp[mxL]
 |cons a l ih=>
  have:mxL (a::(l++[x]))=max a (mxL (l++[x])):=rfl
  rw[List.cons_append,this,ih]
  show max a (max (mxL l) x)=max (max a (mxL l)) x
  omega
theorem zEG{α:Type}(f:α->Nat)(l:List α){q:Nat}(h:q<l.length):mxL ((l.map f).take (q+1))=max (mxL ((l.map f).take q)) (f l[q]):=by
 rw[<-List.map_take,<-List.map_take,List.take_succ_eq_append_getElem h,List.map_append,List.map_singleton,zVX]
theorem zEm{l:List Nat}{x:Nat}(h:x∈l):x<=mxL l:=by
 induction l with
 |nil=>cases h
 |cons a l ih=>
  have e:mxL (a::l)=max a (mxL l):=rfl
  rcases List.mem_cons.1 h with rfl|h
  .omega
  have:=ih h;omega
theorem zYO(l:List Ty):Ty.deeps l=mxL (l.map Ty.deep):=by
 induction l with
 |nil=>rfl
 |cons t l ih=>rw[Ty.deeps,ih];rfl
theorem zaZ(t:Ty):t.deep=mxL (t.args.map Ty.deep)+1:=by
 cases t;rw[Ty.deep,zYO];rfl
theorem zYP(l:List Ex):Ex.deeps l=mxL (l.map Ex.deep):=by
 induction l with
 |nil=>rfl
 |cons t l ih=>rw[Ex.deeps,ih];rfl
theorem zaa(t:Ex):t.deep=mxL (t.args.map Ex.deep)+1:=by
 cases t;rw[Ex.deep,zYP];rfl
theorem zFE{a:Nat}(h:a<=1000000):IntKind.i64.wrap ((a:Int)+1)=((a+1:Nat):Int):=by
 rw[IntWalk.i64_in _ (by omega)];omega
theorem zIV:∀(t:Ty),t.deep<=1000000->∀(S:ASt),ADet Tryz.prog 179 [tyV t] S (I t.deep) S:=by
 refine Ty.ind fun t ih hd S=>?_
 refine ADet.okA call179 0 2 rfl rfl fun na=>?_
 have ca:=okl na
 have vl:=zaZ t
 refine ADet.intro mixed call179 func179 rfl ?_;simp[ntmps179];refine zH (fun q:Nat=>q<=t.args.length) (fun q=>[.any,.ptr 0 0 0,.any,I (mxL ((t.args.map Ty.deep).take q)),.any,.any,.any,.p (.sl 3 (t.args.map Ty.enc)),I t.args.length,I q,.any,.any,.any,.any,.any,.any,.any,.any,.any,.any]) (fun q=>[.cells [U t.kind,Sg t.name,.p (.sl 3 (t.args.map Ty.enc))] 36]::S) (fun q=>t.args.length-q) 0 (Nat.zero_le _) ?_ ?_ ?_
 .simp[mxL]
 .simp
 intro q hq
 by_cases hlt:q<t.args.length
 .have hT:=zEG Ty.deep t.args hlt
  have Pc:t.args[q].deep<=mxL (t.args.map Ty.deep):=zEm (List.mem_map_of_mem (List.getElem_mem hlt))
  have hx:=ih _ (List.getElem_mem hlt) (by omega)
  have aa:(q:Int)<(t.args.length:Int):=by omega
  simp[hlt,aa,ze];refine cq (hx _) ?_;simp;exact⟨q+1,hlt,by omega,by rw[hT];split<;>omega,zA hlt⟩
 have ht:(t.args.map Ty.deep).take q=t.args.map Ty.deep:=List.take_of_length_le (by simp;omega)
 have aa:¬(q:Int)<(t.args.length:Int):=by omega
 have hw:=zFE (a:=mxL (t.args.map Ty.deep)) (by omega)
 simp[aa,ht,hw,vl]
theorem zIW:∀(t:Ex),t.deep<=1000000->∀(S:ASt),ADet Tryz.prog 180 [exV t] S (I t.deep) S:=by
 refine Ex.ind fun t ih hd S=>?_
 refine ADet.okA call180 0 6 rfl rfl fun na=>?_
 have ca:=okl na
 have vl:=zaa t
 refine ADet.intro mixed call180 func180 rfl ?_;simp[ntmps180];refine zH (fun q:Nat=>q<=t.args.length) (fun q=>[.any,.ptr 0 0 0,.any,I (mxL ((t.args.map Ex.deep).take q)),.any,.any,.any,.p (.sl 8 (t.args.map Ex.enc)),I t.args.length,I q,.any,.any,.any,.any,.any,.any,.any,.any,.any,.any]) (fun q=>[.cells [U t.op,I t.int,Sg t.name,Sg t.u2,Sg t.place.name,.p (strs t.place.path),.p (.sl 8 (t.args.map Ex.enc)),I t.pos] 43]::S) (fun q=>t.args.length-q) 0 (Nat.zero_le _) ?_ ?_ ?_
 .simp[mxL]
 .simp
 intro q hq
 by_cases hlt:q<t.args.length
 .have hT:=zEG Ex.deep t.args hlt
  have Pc:t.args[q].deep<=mxL (t.args.map Ex.deep):=zEm (List.mem_map_of_mem (List.getElem_mem hlt))
  have hx:=ih _ (List.getElem_mem hlt) (by omega)
  have aa:(q:Int)<(t.args.length:Int):=by omega
  simp[hlt,aa,zg];refine cq (hx _) ?_;simp;exact⟨q+1,hlt,by omega,by rw[hT];split<;>omega,zA hlt⟩
 have ht:(t.args.map Ex.deep).take q=t.args.map Ex.deep:=List.take_of_length_le (by simp;omega)
 have aa:¬(q:Int)<(t.args.length:Int):=by omega
 have hw:=zFE (a:=mxL (t.args.map Ex.deep)) (by omega)
 simp[aa,ht,hw,vl]
end Go.Proofs.YtdflkegnmmkkoaaGreatDoor
