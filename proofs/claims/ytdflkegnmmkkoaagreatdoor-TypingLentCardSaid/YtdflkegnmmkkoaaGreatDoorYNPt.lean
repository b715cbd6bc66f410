/- A part of the proof. -/
import Derived.Test.YtdflkegnmmkkoaaGreatDoorYNPs
set_option linter.unusedVariables false
set_option linter.unusedSimpArgs false
set_option maxRecDepth 100000
set_option maxHeartbeats 32000000
namespace Go.Proofs.YtdflkegnmmkkoaaGreatDoor
open Go.RowKit _root_.Go.Proofs.Tryz
attribute [local simp] List.replicate List.range List.range.loop List.forall_mem_cons List.contains_cons List.contains_nil List.find?
variable{l:List Tok}{s:RS}{x:Tok}
abbrev stZ:AV:=.agg [U 0,Sg emS,Sg emS,nilS,U 0,Sg emS,nilS,I 0,Sg emS,nilS,nilS,nilS,nilS,nilS,I 0]
abbrev stAs(nm:BA)(su:AV)(pos:Nat):AV:=.agg [U 3,Sg emS,Sg emS,nilS,U 0,Sg emS,nilS,I 0,Sg nm,su,nilS,nilS,nilS,nilS,I pos]
theorem zSh(hs:s.at_<=l.length)(hb:s.bad=false)(hlt:¬(s.at_:Int)<(l.length:Int)):RdC 176 [] l s s (.tup [stZ,B false]):=RdC.intro fun S d i hR=>by
 have ho:=(hR.upd s hs).o
 have aa:(l.length:Int)<=(s.at_:Int):=by omega
 refine ADet.intro mixed call176 func176 rfl ?_;simp[ntmps176];refine dB [] (by kernel_rfl) ?_
 simp[ho,hb,aa]
theorem zPq(hs:s.at_<=l.length)(hb:s.bad=false)(hx:l[s.at_]? =some x)(hn:zIQ.any (fun t=>sEq x.text t)=false):RdC 176 [] l s s (.tup [stZ,B false]):=RdC.intro fun S d i hR=>by
 have ho:=(hR.upd s hs).o
 have hlt:=(List.getElem?_eq_some_iff.1 hx).1
 have aa:¬(l.length:Int)<=(s.at_:Int):=by omega
 have ab:(s.at_:Int)<(l.length:Int):=by omega
 clear hlt
 have hj:=zSg (d+1) i x.text hn
 refine ADet.intro mixed call176 func176 rfl ?_;simp[ntmps176];refine dB [] (by kernel_rfl) ?_
 simp[ho,hb,aa];refine dB [(5,1),(9,1),(12,1)] (by kernel_rfl) ?_
 simp[ho,hb,aa];refine cq (zSf _ _ _ _) ?_;simp[ho,hb,ab,hx,Tok.enc,mapS,hj]
theorem zPr(hs:s.at_<=l.length)(hb:s.bad=false)(hlt:¬(s.at_:Int)<(l.length:Int)):RdC 177 [] l s s (.tup [stAs emS nilS (zBd l s),B false]):=RdC.intro fun S d i hR=>by
 have ho:=(hR.upd s hs).o
 have aa:(l.length:Int)<=(s.at_:Int):=by omega
 refine ADet.intro mixed call177 func177 rfl ?_;simp[ntmps177,ho];refine cq ((zAe s).at hR hs _) ?_;simp;refine dB [] (by kernel_rfl) ?_
 simp[ho,hb,aa]
theorem zM6(hs:s.at_<=l.length)(hb:s.bad=false)(hx:l[s.at_]? =some x)(hk:¬x.kind=2):RdC 177 [] l s s (.tup [stAs emS nilS (zBd l s),B false]):=RdC.intro fun S d i hR=>by
 have ho:=(hR.upd s hs).o
 have hlt:=(List.getElem?_eq_some_iff.1 hx).1
 have aa:¬(l.length:Int)<=(s.at_:Int):=by omega
 have ab:(s.at_:Int)<(l.length:Int):=by omega
 clear hlt
 have Yb:(x.kind !=2)=true:=by simpa using hk
 refine ADet.intro mixed call177 func177 rfl ?_;simp[ntmps177,ho];refine cq ((zAe s).at hR hs _) ?_;simp;refine dB [] (by kernel_rfl) ?_
 simp[ho,hb,aa,ab,hx,Tok.enc,Yb]
theorem zM7(hs:s.at_<=l.length)(hb:s.bad=false)(hx:l[s.at_]? =some x)(hk:x.kind=2)(hi:isP l s (⟨#[40]⟩:BA) 1=true):RdC 177 [] l s s (.tup [stAs emS nilS (zBd l s),B false]):=RdC.intro fun S d i hR=>by
 have ho:=(hR.upd s hs).o
 have hlt:=(List.getElem?_eq_some_iff.1 hx).1
 have aa:¬(l.length:Int)<=(s.at_:Int):=by omega
 have ab:(s.at_:Int)<(l.length:Int):=by omega
 clear hlt
 have iC:=fun L=>isC ((hR.upd s hs).push L) (⟨#[40]⟩:BA) 1 (by omega)
 rw[hi]at iC;refine ADet.intro mixed call177 func177 rfl ?_;simp[ntmps177,ho];refine cq ((zAe s).at hR hs _) ?_;simp;refine dB [] (by kernel_rfl) ?_
 simp[ho,hb,aa,ab,hx,Tok.enc,hk];refine cq (iC _) ?_;simp
theorem zM8{n:Nat}(hn:n<=100000){p:Pl}{s1:RS}(hs:s.at_<=l.length)(hb:s.bad=false)(hx:l[s.at_]? =some x)(hk:x.kind=2)(hi:isP l s (⟨#[40]⟩:BA) 1=false)(hp:zHL l n s=some (p,s1))(he:s1.bad=true\/(s1.bad=false/\isP l s1 (⟨#[61]⟩:BA) 0=false)):RdC 177 [] l s s (.tup [stAs p.name (.p (strs p.path)) (zBd l s),B false]):=RdC.intro fun S d i hR=>by
 have ho:=(hR.upd s hs).o
 have ak:=hR.o
 have hz:rdO l s= .cells [.p (.sl 3 (l.map Tok.enc)),I s.at_,B false,B s.full] 164:=by rw[<-hb]
 have hlt:=(List.getElem?_eq_some_iff.1 hx).1
 have aa:¬(l.length:Int)<=(s.at_:Int):=by omega
 have ab:(s.at_:Int)<(l.length:Int):=by omega
 clear hlt
 have iC:=fun L=>isC ((hR.upd s hs).push L) (⟨#[40]⟩:BA) 1 (by omega)
 rw[hi]at iC
 have pC:=zSe hn hs hp
 obtain⟨La,Zj⟩:=zGR hs hp
 have mc:=(hR.upd s1 La).o
 refine ADet.intro mixed call177 func177 rfl ?_;simp[ntmps177,ho];refine cq ((zAe s).at hR hs _) ?_;simp;refine dB [] (by kernel_rfl) ?_
 simp[ho,hb,aa,ab,hx,Tok.enc,hk];refine cq (iC _) ?_;simp;refine cq (pC.at hR hs _) ?_;simp[mc]
 rcases he with va|⟨va,hq⟩
 .simp[mc,va,ak,Zj]
  exact congrArg (set2 S d i) hz.symm
 have hm:mayP l s1 (⟨#[61]⟩:BA)=s1:=by unfold mayP;rw[hq];rfl
 simp[va];refine cq ((mayW s1 (⟨#[61]⟩:BA)).at hR La _) ?_;rw[hq,hm];simp[mc,va,ak,Zj];exact congrArg (set2 S d i) hz.symm
def mxL(l:List Nat):Nat:=l.foldr max 0
theorem zVP(l:List Nat)(x:Nat):mxL (l++[x])=max (mxL l) x:=by
 induction l with
 |nil=>simp[mxL]
 |cons a l ih=>
  have:mxL (a::(l++[x]))=max a (mxL (l++[x])):=rfl
  rw[List.cons_append,this,ih]
  show max a (max (mxL l) x)=max (max a (mxL l)) x
  omega
theorem zET{α:Type}(f:α->Nat)(l:List α){q:Nat}(h:q<l.length):mxL ((l.map f).take (q+1))=max (mxL ((l.map f).take q)) (f l[q]):=by
 rw[<-List.map_take,<-List.map_take,List.take_succ_eq_append_getElem h,List.map_append,List.map_singleton,zVP]
theorem zEw{l:List Nat}{x:Nat}(h:x∈l):x<=mxL l:=by
 induction l with
 |nil=>cases h
 |cons a l ih=>
  have e:mxL (a::l)=max a (mxL l):=rfl
  rcases List.mem_cons.1 h with rfl|h
  .omega
  have:=ih h;omega
theorem zYD(l:List Ty):Ty.deeps l=mxL (l.map Ty.deep):=by
 induction l with
 |nil=>rfl
 |cons t l ih=>rw[Ty.deeps,ih];rfl
theorem zaH(t:Ty):t.deep=mxL (t.args.map Ty.deep)+1:=by
 cases t;rw[Ty.deep,zYD];rfl
theorem zYE(l:List Ex):Ex.deeps l=mxL (l.map Ex.deep):=by
 induction l with
 |nil=>rfl
 |cons t l ih=>rw[Ex.deeps,ih];rfl
theorem zaI(t:Ex):t.deep=mxL (t.args.map Ex.deep)+1:=by
 cases t;rw[Ex.deep,zYE];rfl
theorem zFO{a:Nat}(h:a<=1000000):IntKind.i64.wrap ((a:Int)+1)=((a+1:Nat):Int):=by
 rw[IntWalk.i64_in _ (by omega)];omega
theorem zIn:∀(t:Ty),t.deep<=1000000->∀(S:ASt),ADet Tryz.prog 179 [tyV t] S (I t.deep) S:=by
 refine Ty.ind fun t ih hd S=>?_
 refine ADet.okA call179 0 2 rfl rfl fun na=>?_
 have ca:=okl na
 have Al:=zaH t
 refine ADet.intro mixed call179 func179 rfl ?_;simp[ntmps179];refine zF (fun q:Nat=>q<=t.args.length) (fun q=>[.any,.ptr 0 0 0,.any,I (mxL ((t.args.map Ty.deep).take q)),.any,.any,.any,.p (.sl 3 (t.args.map Ty.enc)),I t.args.length,I q,.any,.any,.any,.any,.any,.any,.any,.any,.any,.any]) (fun q=>[.cells [U t.kind,Sg t.name,.p (.sl 3 (t.args.map Ty.enc))] 36]::S) (fun q=>t.args.length-q) 0 (Nat.zero_le _) ?_ ?_ ?_
 .simp[mxL]
 .simp
 intro q hq
 by_cases hlt:q<t.args.length
 .have hT:=zET Ty.deep t.args hlt
  have Qc:t.args[q].deep<=mxL (t.args.map Ty.deep):=zEw (List.mem_map_of_mem (List.getElem_mem hlt))
  have hx:=ih _ (List.getElem_mem hlt) (by omega)
  have aa:(q:Int)<(t.args.length:Int):=by omega
  simp[hlt,aa,zc];refine cq (hx _) ?_;simp;exact⟨q+1,hlt,by omega,by rw[hT];split<;>omega,zB hlt⟩
 have ht:(t.args.map Ty.deep).take q=t.args.map Ty.deep:=List.take_of_length_le (by simp;omega)
 have aa:¬(q:Int)<(t.args.length:Int):=by omega
 have hw:=zFO (a:=mxL (t.args.map Ty.deep)) (by omega)
 simp[aa,ht,hw,Al]
theorem zIo:∀(t:Ex),t.deep<=1000000->∀(S:ASt),ADet Tryz.prog 180 [exV t] S (I t.deep) S:=by
 refine Ex.ind fun t ih hd S=>?_
 refine ADet.okA call180 0 6 rfl rfl fun na=>?_
 have ca:=okl na
 have Al:=zaI t
 refine ADet.intro mixed call180 func180 rfl ?_;simp[ntmps180];refine zF (fun q:Nat=>q<=t.args.length) (fun q=>[.any,.ptr 0 0 0,.any,I (mxL ((t.args.map Ex.deep).take q)),.any,.any,.any,.p (.sl 8 (t.args.map Ex.enc)),I t.args.length,I q,.any,.any,.any,.any,.any,.any,.any,.any,.any,.any]) (fun q=>[.cells [U t.op,I t.int,Sg t.name,Sg t.u2,Sg t.place.name,.p (strs t.place.path),.p (.sl 8 (t.args.map Ex.enc)),I t.pos] 43]::S) (fun q=>t.args.length-q) 0 (Nat.zero_le _) ?_ ?_ ?_
 .simp[mxL]
 .simp
 intro q hq
 by_cases hlt:q<t.args.length
 .have hT:=zET Ex.deep t.args hlt
  have Qc:t.args[q].deep<=mxL (t.args.map Ex.deep):=zEw (List.mem_map_of_mem (List.getElem_mem hlt))
  have hx:=ih _ (List.getElem_mem hlt) (by omega)
  have aa:(q:Int)<(t.args.length:Int):=by omega
  simp[hlt,aa,zf];refine cq (hx _) ?_;simp;exact⟨q+1,hlt,by omega,by rw[hT];split<;>omega,zB hlt⟩
 have ht:(t.args.map Ex.deep).take q=t.args.map Ex.deep:=List.take_of_length_le (by simp;omega)
 have aa:¬(q:Int)<(t.args.length:Int):=by omega
 have hw:=zFO (a:=mxL (t.args.map Ex.deep)) (by omega)
 simp[aa,ht,hw,Al]
end Go.Proofs.YtdflkegnmmkkoaaGreatDoor
