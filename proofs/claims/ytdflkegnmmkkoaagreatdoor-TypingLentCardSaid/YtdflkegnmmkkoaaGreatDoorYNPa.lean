/- A part of the proof. -/
import Derived.Test.YtdflkegnmmkkoaaGreatDoorYNSd
set_option linter.unusedVariables false
set_option linter.unusedSimpArgs false
set_option maxRecDepth 100000
set_option maxHeartbeats 32000000
namespace Go.Proofs.YtdflkegnmmkkoaaGreatDoor
open Go.RowKit _root_.Go.Proofs.Tryz
attribute [local simp] List.replicate List.range List.range.loop List.forall_mem_cons List.contains_cons List.contains_nil List.find?
variable{F:Nat}{S:ASt}{args:List AV}{p:List It}
def KC(p:List It)(F:Nat)(args:List AV)(l l':List Flt):Prop:=∀(S:ASt) (d:Nat),Lk p S d l->ADet Tryz.prog F (.ptr d 3 0::args) S .un (updK S d l')
theorem KC.at{l l1 l2:List Flt}(hw:KC p F args l1 l2){d:Nat}(h:Lk p S d l)(L:List AObj):ADet Tryz.prog F (.ptr (d+1) 3 0::args) (L::updK S d l1) .un (L::updK S d l2):=by
 have:=hw _ _ ((h.updK l1).cons L)
 rw[zGK,zLt h]at this;exact this
theorem KC.intro{l l':List Flt}(hw:∀(S:ASt) (d:Nat),Lk p S d l->ADet Tryz.prog F (.ptr d 3 0::args) (updK S d l) .un (updK S d l')):KC p F args l l':=fun S d h=>by
 have:=hw S d h
 rw[zDx h]at this;exact this
theorem zEX(p:List It)(xb:Bool)(e a:Int)(l:List Flt)(hl:l.length+1<=4294967296):KC p 60 [B xb,I e,I a] l (l++zJ xb e a):=fun S d h=>by
 have ho:=h.l
 have ht:=h.r
 have hs:=zDx h
 unfold zJ;refine ADet.intro mixed call60 func60 rfl ?_
 cases xb with
 |true=>simp[ntmps60,hs]
 |false=>
  simp only[nlO,rwO]at ho ht
  have n1:=fun(T:ASt) o=>zBz T d (i:=4) (j:=3) o (by omega)
  have n2:=fun(T:ASt) o=>zBz T d (i:=3) (j:=4) o (by omega)
  simp[ntmps60,ho,ht,n1,n2,hl,updK,nlO,rwO,rowC,fltE]
abbrev itZ1:AV:=.agg [U 0,Sg emS,nilS,U 0,Sg emS,nilS,nilS,U 0,I 0,Sg emS,Sg emS,Sg emS,nilS,nilS,I 0,I 0]
def zPl(p:List It)(k:Int)(s:BA):AV:=match zg p s with|some x=>.tup [itV x,B (decide (x.kind=k))]|none=>.tup [itZ1,B false]
theorem zJl(p:List It)(k:Int)(s:BA)(l:List Flt)(S:ASt)(d:Nat)(h:Lk p S d l):ADet Tryz.prog 154 [.ptr d 3 0,U k,Sg s] S (zPl p k s) S:=by
 have ho:=h.l
 have ht:=h.t
 simp only[nlO]at ho
 obtain⟨j,hj⟩:=zGr p s
 unfold zPl;refine ADet.intro mixed call154 func154 rfl ?_
 cases hf:zg p s with
 |none=>
  rw[hf]at hj;simp only[Option.map_none]at hj;simp[ntmps154,ho,ht,hj];refine dB [(4,8)] (by kernel_rfl) ?_
  simp
 |some x=>
  rw[hf]at hj;simp only[Option.map_some]at hj;simp[ntmps154,ho,ht,hj];refine dB [(4,8)] (by kernel_rfl) ?_
  by_cases hk:x.kind=k
  .simp[hk]
  have Yb:(x.kind==k)=false:=by simpa using hk
  simp[hk,Yb]
theorem zCA{α:Type}(g:α->Nat){l:List α}{q:Nat}(h:q<l.length):((l.take q).map g).sum+g l[q]<=(l.map g).sum:=by
 have e:(l.map g).sum=((l.take q).map g).sum+((l.drop q).map g).sum:=by
  rw[<-List.sum_append,<-List.map_append,List.take_append_drop]
 rw[e,List.drop_eq_getElem_cons h,List.map_cons,List.sum_cons];omega
theorem zXv(p:List It)(pos:Int):∀(t:Ty) (l:List Flt),l.length+t.nd<=4000000000->KC p 62 [tyV t,I pos] l (l++t.nm p pos):=by
 refine Ty.ind fun t ih l hl=>KC.intro fun S d h=>?_
 refine ADet.okA call62 1 2 rfl rfl fun na=>?_
 have ca:=okl na
 have Td:=tyNd t
 obtain⟨W,hW⟩:∃W,W=l++(if t.kind=4 then zJ (zg p t.name).isSome 60 pos else []):=⟨_,rfl⟩
 obtain⟨F,hF⟩:∃F:Nat->List Flt,F=fun q=>W++(t.args.take q).flatMap (Ty.nm p pos):=⟨_,rfl⟩
 have yb:F 0=W:=by rw[hF];simp
 have Zb:F t.args.length=l++t.nm p pos:=by rw[hF,hW,tyNm];simp
 have Jb:∀q (h:q<t.args.length),F (q+1)=F q++t.args[q].nm p pos:=fun q h=>by rw[hF];simp only[List.take_succ_eq_append_getElem h,List.flatMap_append,List.append_assoc];simp
 have Dt:W.length<=l.length+1:=by
  rw[hW,List.length_append]
  have:(if t.kind=4 then zJ (zg p t.name).isSome 60 pos else []).length<=1:=by
   split
   .exact zu _ _ _
   simp
  omega
 have Ib:∀q (h:q<t.args.length),(F q).length+t.args[q].nd<=4000000000:=fun q h=>by
  have e1:=zCA Ty.nd h
  have e2:=zFC (Ty.nm p pos) Ty.nd (t.args.take q) fun x _=>zFD p pos x
  rw[hF];simp only[List.length_append];omega
 clear hF;rw[<-Zb]
 have ho:=h.l
 have ht:=h.t
 simp only[nlO]at ho
 have hs:=zDx h
 obtain⟨j,hj⟩:=zGr p t.name
 have ho:=h.l
 have ht:=h.t
 simp only[nlO]at ho
 have hs:=zDx h
 obtain⟨j,hj⟩:=zGr p t.name
 refine ADet.intro mixed call62 func62 rfl ?_;simp[ntmps62,hs]
 by_cases h4:t.kind=4
 .rw[if_pos h4]at hW
  have nc:=fun b L=>(zEX p b 60 pos l (by omega)).at h L
  rw[hs]at nc
  cases hf:zg p t.name with
  |none=>
   rw[hf]at hj hW;simp only[Option.map_none]at hj
   have Ag:l++zJ false 60 pos=W:=hW.symm
   simp[h4];refine dB [(3,10),(5,10),(6,10)] (by kernel_rfl) ?_
   simp[ho,ht,hj];refine cq (nc false _) ?_;simp;refine zF (fun q:Nat=>q<=t.args.length) (fun q=>([.ptr (d+1) 3 0,.any,I pos]++(List.replicate 25 .any++[.p (.sl 3 (t.args.map Ty.enc)),I t.args.length,I q,.any,.any,.any,.any,.any,.any,.any,.any]))) (fun q=>[.cells [U t.kind,Sg t.name,.p (.sl 3 (t.args.map Ty.enc))] 36,.dead]::updK S d (F q)) (fun q=>t.args.length-q) 0 (Nat.zero_le _) ?_ ?_ ?_
   .simp
   .simp[yb,Ag,h4]
   intro q mi
   by_cases hlt:q<t.args.length
   .have aa:(q:Int)<(t.args.length:Int):=by omega
    have hw:=zB hlt
    have hx:=fun L=>(ih _ (List.getElem_mem hlt) (F q) (Ib q hlt)).at h L
    rw[<-Jb q hlt]at hx
    have Ea:t.args.length-(q+1)<t.args.length-q:=by omega
    generalize he:t.args[q]=x at*
    simp[hlt,aa,he,zc];refine cq (hx _) ?_;simp;exact⟨q+1,hlt,Ea,hw,rfl⟩
   have aa:¬(q:Int)<(t.args.length:Int):=by omega
   have Oa:q=t.args.length:=by omega
   subst Oa
   simp
  |some x=>
   rw[hf]at hj hW;simp only[Option.map_some]at hj
   have Ag:l++zJ true 60 pos=W:=hW.symm
   simp[h4];refine dB [(3,10),(5,10),(6,10)] (by kernel_rfl) ?_
   simp[ho,ht,hj];refine cq (nc true _) ?_;simp;refine zF (fun q:Nat=>q<=t.args.length) (fun q=>([.ptr (d+1) 3 0,.any,I pos]++(List.replicate 25 .any++[.p (.sl 3 (t.args.map Ty.enc)),I t.args.length,I q,.any,.any,.any,.any,.any,.any,.any,.any]))) (fun q=>[.cells [U t.kind,Sg t.name,.p (.sl 3 (t.args.map Ty.enc))] 36,.dead]::updK S d (F q)) (fun q=>t.args.length-q) 0 (Nat.zero_le _) ?_ ?_ ?_
   .simp
   .simp[yb,Ag,h4]
   intro q mi
   by_cases hlt:q<t.args.length
   .have aa:(q:Int)<(t.args.length:Int):=by omega
    have hw:=zB hlt
    have hx:=fun L=>(ih _ (List.getElem_mem hlt) (F q) (Ib q hlt)).at h L
    rw[<-Jb q hlt]at hx
    have Ea:t.args.length-(q+1)<t.args.length-q:=by omega
    generalize he:t.args[q]=x at*
    simp[hlt,aa,he,zc];refine cq (hx _) ?_;simp;exact⟨q+1,hlt,Ea,hw,rfl⟩
   have aa:¬(q:Int)<(t.args.length:Int):=by omega
   have Oa:q=t.args.length:=by omega
   subst Oa;simp
 rw[if_neg h4,List.append_nil]at hW
 have Ag:l=W:=hW.symm
 simp[h4];refine zF (fun q:Nat=>q<=t.args.length) (fun q=>([.ptr (d+1) 3 0,.any,I pos]++(List.replicate 25 .any++[.p (.sl 3 (t.args.map Ty.enc)),I t.args.length,I q,.any,.any,.any,.any,.any,.any,.any,.any]))) (fun q=>[.cells [U t.kind,Sg t.name,.p (.sl 3 (t.args.map Ty.enc))] 36]::updK S d (F q)) (fun q=>t.args.length-q) 0 (Nat.zero_le _) ?_ ?_ ?_
 .simp
 .simp[yb,<-Ag,hs]
 intro q mi
 by_cases hlt:q<t.args.length
 .have aa:(q:Int)<(t.args.length:Int):=by omega
  have hw:=zB hlt
  have hx:=fun L=>(ih _ (List.getElem_mem hlt) (F q) (Ib q hlt)).at h L
  rw[<-Jb q hlt]at hx
  have Ea:t.args.length-(q+1)<t.args.length-q:=by omega
  generalize he:t.args[q]=x at*
  simp[hlt,aa,he,zc];refine cq (hx _) ?_;simp;exact⟨q+1,hlt,Ea,hw,rfl⟩
 have aa:¬(q:Int)<(t.args.length:Int):=by omega
 have Oa:q=t.args.length:=by omega
 subst Oa;simp
def FC(p:List It)(F:Nat)(args:List AV)(σ τ:Nf):Prop:=∀(S:ASt) (c:Cf),NAt p S c σ->ADet Tryz.prog F (.ptr c.d c.jF 0::args) S .un (updF S c τ)
theorem FC.at{σ σ1 σ2:Nf}(hw:FC p F args σ1 σ2){c:Cf}(h:NAt p S c σ)(L:List AObj):ADet Tryz.prog F (.ptr (c.d+1) c.jF 0::args) (L::updF S c σ1) .un (L::updF S c σ2):=by
 have:=hw _ _ ((h.updF σ1).cons L)
 rw[zAt,zCu h]at this;exact this
theorem FC.intro{σ τ:Nf}(hw:∀(S:ASt) (c:Cf),NAt p S c σ->ADet Tryz.prog F (.ptr c.d c.jF 0::args) (updF S c σ) .un (updF S c τ)):FC p F args σ τ:=fun S c h=>by
 have:=hw S c h
 rw[zAU h]at this;exact this
theorem KC.inF{σ σ1:Nf}{l2:List Flt}(hw:KC p F args σ1.fl l2){c:Cf}(h:NAt p S c σ)(L:List AObj):ADet Tryz.prog F (.ptr (c.k+c.d+1) 3 0::args) (L::updF S c σ1) .un (L::updF S c ⟨σ1.made,σ1.count,σ1.opn,l2⟩):=by
 have a:=h.updF σ1
 have:=hw _ _ (a.k.cons L)
 rw[zGK,zIb a,zCu h]at this;exact this
theorem KC.inF0{σ:Nf}{l2:List Flt}(hw:KC p F args σ.fl l2){c:Cf}(h:NAt p S c σ)(L:List AObj):ADet Tryz.prog F (.ptr (c.k+c.d+1) 3 0::args) (L::S) .un (L::updF S c ⟨σ.made,σ.count,σ.opn,l2⟩):=by
 have:=hw.inF h L
 rw[zAU h]at this;exact this
theorem zST(p:List It)(s:BA)(pos:Int)(σ:Nf)(hl:σ.fl.length+1<=4294967296):FC p 155 [Sg s,I pos] σ (σ.add (zJ (mIs σ.made s) 60 pos)):=fun S c h=>by
 have ho:=h.n
 have hm:=h.m
 simp only[fnO]at ho;simp only[mdO]at hm
 have nc:=fun b L=>(zEX p b 60 pos σ.fl hl).inF0 h L
 unfold Nf.add;refine ADet.intro mixed call155 func155 rfl ?_;simp[ntmps155];refine dB [] (by kernel_rfl) ?_
 rcases zDe s σ.made 0 with⟨h1,h2,h3⟩|⟨j,b,h1,h2,h3⟩
 .have hi:mIs σ.made s=false:=by unfold mIs;rw[h1];rfl
  simp[ho,hm,h2];refine cq (nc false _) ?_;simp[hi]
 have hi:mIs σ.made s=b:=by unfold mIs;rw[h1];rfl
 simp[ho,hm,h2];refine cq (nc b _) ?_;simp[hi]
def clo(c:Cf)(g:Fg):AV:=.fn (.func 190) [] [.bx [B g.2],.bx [.ptr c.d c.jF 0],.bx [Sg g.1]]
theorem zXw(p:List It)(g:Fg)(σ:Nf)(S:ASt)(c:Cf)(h:NAt p S c σ):zRM Tryz.prog 190 [.bx [B g.2],.bx [.ptr c.d c.jF 0],.bx [Sg g.1]] S (updF S c (σ.put g)):=by
 have ho:=h.n
 have hm:=h.m
 simp only[fnO]at ho;simp only[mdO]at hm
 have Ph:updF S c (σ.put g)=set2 S c.d c.jM (mdO (mPut σ.made g.1 g.2)):=by
  have hs:=zAU h
  refine zJj (by rw[zFJ,zBo]) fun d i=>?_
  rw[zB7 h,zQ _ h.m]
  have hne:=h.ne
  have e:=zB7 h σ d i
  rw[hs]at e
  by_cases h1:d=c.d/\i=c.jF
  .rw[if_pos h1,if_neg (by omega)]
   rw[if_pos h1]at e;rw[e];rfl
  rw[if_neg h1]
  by_cases h2:d=c.d/\i=c.jM
  .rw[if_pos h2,if_pos h2];rfl
  rw[if_neg h2,if_neg h2]
  rw[if_neg h1,if_neg h2]at e;rw[e]
  show(if d=c.e/\i=3 then some (nlO σ.fl.length)else if d=c.e/\i=4 then some (rwO σ.fl)else _)=_
  repeat' (first|rfl|split)
 rw[Ph];refine zRM.intro mixed call190 func190 rfl rfl ?_;simp[ntmps190];refine dB [] (by kernel_rfl) ?_
 rcases zDe g.1 σ.made 0 with⟨h1,h2,h3⟩|⟨j,b,h1,h2,h3⟩
 .simp[ho,hm,h2,zJ9]
  rw[h3];simp[mdO,mdE]
 simp[ho,hm,h2,zJ9]
 rw[mdO,h3]
theorem zaC(p:List It)(s:BA)(pos:Int)(σ:Nf)(hl:σ.fl.length+1<=4294967296)(hc:σ.count<4294967296)(S:ASt)(c:Cf)(h:NAt p S c σ):ADet Tryz.prog 153 [.ptr c.d c.jF 0,Sg s,I pos] S (clo c (s,mIs σ.made s)) (updF S c (σ.mk1 s pos)):=by
 have ho:=h.n
 have hm:=h.m
 have nc:=fun b L=>(zEX p b 60 pos σ.fl hl).inF0 h L
 have e1:=zIb h (σ.fl++zJ (mGet σ.made s).isNone 60 pos)
 have hA:=h.updF ⟨σ.made,σ.count,σ.opn,σ.fl++zJ (mGet σ.made s).isNone 60 pos⟩
 have Aa:=hA.n
 have ym:=hA.m
 have Tb:set2 (set2 (updF S c ⟨σ.made,σ.count,σ.opn,σ.fl++zJ (mGet σ.made s).isNone 60 pos⟩) c.d c.jM (mdO (mPut σ.made s true))) c.d c.jF (fnO c ⟨mPut σ.made s true,σ.count+1,σ.opn,σ.fl++zJ (mGet σ.made s).isNone 60 pos⟩)=updF S c (σ.mk1 s pos):=by
  rw[<-e1];rfl
 generalize hT:updF S c ⟨σ.made,σ.count,σ.opn,σ.fl++zJ (mGet σ.made s).isNone 60 pos⟩=T at*
 have n1:=fun o=>zBz T c.d (i:=c.jM) (j:=c.jF) o (fun e=>h.ne e.symm)
 simp only[fnO]at ho Aa;simp only[mdO]at hm ym
 have qr:IntKind.i64.wrap ((σ.count:Int)+1)=((σ.count+1:Nat):Int):=zB (n:=4294967296) hc (by unfold maxLen;omega)
 refine ADet.introFz [(2,[B (mIs σ.made s)],106),(0,[.ptr (c.d+1) c.jF 0],103),(1,[Sg s],9)] mixed call153 func153 rfl ?_;simp[ntmps153];refine dB [(0,9),(3,9),(4,9),(5,9)] (by kernel_rfl) ?_
 rcases zDe s σ.made 0 with⟨h1,h2,h3⟩|⟨j,b,h1,h2,h3⟩
 .have hi:mIs σ.made s=false:=by unfold mIs;rw[h1];rfl
  simp only[h1,Option.isNone_none]at hT;simp[ho,hm,h2];refine cq (nc true _) ?_;simp;rw[hT];refine dB [] (by kernel_rfl) ?_
  rw[h3]at Tb;simp[Aa,ym,h2,n1,qr,zOu,FzOk,AV.fz,AV.fzs,clo,hi,zA5]
  simpa [mdO,fnO,mdE]using Tb
 have hi:mIs σ.made s=b:=by unfold mIs;rw[h1];rfl
 simp[ho,hm,h2];refine cq (nc false _) ?_;simp;simp only[h1,Option.isNone_some]at hT;rw[hT];refine dB [] (by kernel_rfl) ?_
 simp only[mdO]at Tb;rw[h3]at Tb;simp[Aa,ym,h2,n1,qr,zOu,FzOk,AV.fz,AV.fzs,clo,hi,zA5]
 simpa [fnO]using Tb
end Go.Proofs.YtdflkegnmmkkoaaGreatDoor
namespace Go.Proofs.YtdflkegnmmkkoaaGreatDoor
open Go.RowKit _root_.Go.Proofs.Tryz
attribute [local simp] List.replicate List.range List.range.loop
theorem zLx(S:ASt)(L:List AObj)(d:Nat):ADet Tryz.prog 63 [.ptr d 3 0] (L::S) (.ptr 0 (L.length+1) 0) ((L++[.map [],.cells [.ptr d 3 0,.mp 0 L.length,I 0,I 0] 109])::S):=by
 refine ADet.flat mixed call63 func63 rfl ?_;simp[ntmps63]
abbrev fiZ1:AV:=.agg [Sg emS,U 0,Sg emS,nilS]
def zHi(l:List Fi)(s:BA):AV:=match zBv l s with|some v=>.tup [fiV v,B true]|none=>.tup [fiZ1,B false]
theorem zLy{l:List Fi}{s:BA}(h:∀i (hi:i<l.length),sEq l[i].name s=false):zBv l s=none:=by
 unfold zBv;rw[List.find?_eq_none];intro x hx
 obtain⟨i,hi,rfl⟩:=List.getElem_of_mem hx
 rw[h i hi];simp
theorem zLz{l:List Fi}{s:BA}{q:Nat}(h:∀i (hi:i<l.length),i<q->sEq l[i].name s=false)(hq:q<l.length)(hp:sEq l[q].name s=true):zBv l s=some l[q]:=by
 unfold zBv;rw[List.find?_eq_some_iff_getElem];exact⟨hp,q,hq,rfl,fun j hj=>by rw[h j (by omega) hj];rfl⟩
theorem zKb(x:It)(s:BA)(S:ASt):ADet Tryz.prog 159 [itV x,Sg s] S (zHi x.fields s) S:=by
 refine ADet.okA call159 0 2 rfl rfl fun na=>?_
 have ca:=okl na
 unfold zHi;refine ADet.intro mixed call159 func159 rfl ?_;simp[ntmps159];refine zF (fun q:Nat=>q<=x.fields.length/\∀i (hi:i<x.fields.length),i<q->sEq x.fields[i].name s=false) (fun q=>[.any,Sg s,.ptr 0 0 0,.any,.ptr 0 1 0,.any,.any,.any,.any,.p (.sl 4 (x.fields.map Fi.enc)),I x.fields.length,I q,.any,.any,.any,.any,.any,.any,.any,.any,.any,.any]) (fun q=>[.cells (itU x) 45,.cells [Sg emS,U 0,Sg emS,nilS] 60]::S) (fun q=>x.fields.length-q) 0 ⟨Nat.zero_le _,fun i hi h=>by omega⟩ ?_ ?_ ?_
 .simp
 .simp
 rintro q ⟨hq,ia⟩
 by_cases hlt:q<x.fields.length
 .have aa:(q:Int)<(x.fields.length:Int):=by omega
  have hw:=zB hlt
  have hs:=zLz ia hlt
  generalize hf:x.fields[q]=f at*
  cases hp:sEq f.name s with
  |true=>
   have hs:=hs hp
   simp[hlt,aa,hf,Fi.enc,hp,hs]
  |false=>
   simp[hlt,aa,hf,Fi.enc,hp]
   exact⟨q+1,⟨hlt,fun i hi h=>by
    rcases Nat.lt_or_ge i q with h'|h'
    .exact ia i hi h'
    obtain rfl:i=q:=by omega
    rw[hf];exact hp⟩,by omega,hw⟩
 have aa:¬(q:Int)<(x.fields.length:Int):=by omega
 have hs:=zLy fun i hi=>ia i hi (by omega)
 simp[aa,hs]
def zGM:List (BA × Nat)->BA->List (BA × Nat)
 | [],s=>[(s,1)]
 |e::m,s=>if sEq s e.1=true then(s,e.2+1)::m else e::zGM m s
def zGN:List (BA × Nat)->BA->Nat
 | [],_=>0
 |e::m,s=>if sEq s e.1=true then e.2 else zGN m s
def ctE(m:List (BA × Nat)):List (Value × AV):=m.map fun e=>(.string e.1,I e.2)
def metC(l:List BA):List (BA × Nat):=l.foldl zGM []
theorem zGt(m:List (BA × Nat))(s t:BA):zGN (zGM m s) t=zGN m t+if sEq s t=true then 1 else 0:=by
 induction m with
 |nil=>
  simp only[zGM,zGN]
  rw[show sEq t s=sEq s t by
   by_cases h:t=s
   .subst h;rfl
   rw[zCV h,zCV fun e=>h e.symm]]
  split<;>rfl
 |cons e m ih=>
  unfold zGM
  by_cases h:sEq s e.1=true
  .rw[if_pos h]
   have:=zDk.1 h
   subst this;unfold zGN
   by_cases ht:t=e.1
   .subst ht;simp
   rw[if_neg (by rw[zCV ht];simp),if_neg (by rw[zCV ht];simp),if_neg (by rw[zCV fun e=>ht e.symm];simp),Nat.add_zero]
  rw[if_neg h]
  unfold zGN
  by_cases ht:sEq t e.1=true
  .rw[if_pos ht,if_pos ht]
   have:=zDk.1 ht
   subst this;rw[if_neg h,Nat.add_zero]
  rw[if_neg ht,if_neg ht,ih]
theorem zKc(l:List BA)(s:BA):zGN (metC l) s=cntN l s:=by
 have key:∀(l:List BA) (m:List (BA × Nat)),zGN (l.foldl zGM m) s=zGN m s+cntN l s:=by
  intro l
  induction l with
  |nil=>intro m;simp[cntN]
  |cons x l ih=>
   intro m;rw[List.foldl_cons,ih,zGt];unfold cntN;rw[List.countP_cons];omega
 unfold metC;rw[key];simp[zGN]
theorem zL0(l:List BA)(s:BA):metC (l++[s])=zGM (metC l) s:=by unfold metC;rw[List.foldl_append];rfl
theorem zFM(s:BA):∀(m:List (BA × Nat)) (i:Nat),(zGN m s=0/\zAr .string (.string s) (ctE m) i=some none/\ctE (zGM m s)=ctE m++[(.string s,I 1)])\/∃j,zAr .string (.string s) (ctE m) i=some (some (i+j,I (zGN m s)))/\ctE (zGM m s)=(ctE m).set j (.string s,I (zGN m s+1:Nat))
 | [],i=>.inl ⟨rfl,rfl,rfl⟩
 |e::m,i=>by
  have hd:ctE (e::m)=(.string e.1,I e.2)::ctE m:=rfl
  rw[hd,zl,zGN,zGM]
  by_cases h:sEq s e.1=true
  .rw[if_pos h,if_pos h,if_pos h]
   exact .inr ⟨0,rfl,rfl⟩
  rw[if_neg h,if_neg h,if_neg h]
  rcases zFM s m (i+1)with⟨h1,h2,h3⟩|⟨j,h2,h3⟩
  .exact .inl ⟨h1,h2,by show(.string e.1,I e.2)::ctE (zGM m s)=_;rw[h3];rfl⟩
  refine .inr ⟨j+1,by rw[h2];congr 2;simp;omega,?_⟩
  show(.string e.1,I e.2)::ctE (zGM m s)=_
  rw[h3];rfl
theorem zJm(n:Nat)(m:List (BA × Nat)):(ctE m).map (fun kv=>(kv.1,AV.cut n kv.2))=ctE m:=by
 unfold ctE;rw[List.map_map];rfl
theorem zSU(l:List BA)(s:BA):cntN l s<=l.length:=List.countP_le_length
abbrev arsV(l:List Ar):AV:=.p (.sl 3 (l.map Ar.enc))
def arVn(a:Ar):BA:=a.variant
theorem zIi(x:It):∀(l:List Fg) (met:List BA) (k:List Fg),zFR x met (l++k)=(zFR x met l&&zFR x (met++l.map (·.1)) k)
 | [],met,k=>by simp[zFR]
 |b::l,met,k=>by
  show zFR x met (b::(l++k))=_
  have e1:zFR x met (b::(l++k))=((match zBv x.fields b.1 with|some v=>(b.2==decide (v.type.kind≠0))|none=>false)&&(decide (cntN met b.1=0)&&zFR x (met++[b.1]) (l++k))):=rfl
  have e2:zFR x met (b::l)=((match zBv x.fields b.1 with|some v=>(b.2==decide (v.type.kind≠0))|none=>false)&&(decide (cntN met b.1=0)&&zFR x (met++[b.1]) l)):=rfl
  rw[e1,e2,zIi x l (met++[b.1]) k];simp only[List.map_cons,List.append_assoc,List.singleton_append];rw[Bool.and_assoc,Bool.and_assoc]
def zXx(x:It)(met:List BA)(a:Ar):Bool:=(match zBv x.fields a.variant with|some v=>(!sEq a.name emS)==decide (v.type.kind≠0)|none=>false)&&decide (cntN met a.variant=0)
theorem zL1(x:It)(l:List Ar){q:Nat}(h:q<l.length)(ia:zFR x [] ((l.take q).map armF)=true):zFR x [] ((l.take (q+1)).map armF)=zXx x ((l.take q).map arVn) l[q]:=by
 rw[List.take_succ_eq_append_getElem h,List.map_append,zIi,ia,Bool.true_and,List.nil_append,List.map_map];simp only[List.map_cons,List.map_nil,zFR,Bool.and_true];rfl
theorem zSV(x:It)(l:List Ar){q:Nat}(h:q<l.length)(ia:zFR x [] ((l.take q).map armF)=true)(wb:zXx x ((l.take q).map arVn) l[q]=false):zFi x (l.map armF)=false:=by
 have e:=zL1 x l h ia
 rw[wb]at e
 have:l.map armF=(l.take (q+1)).map armF++(l.drop (q+1)).map armF:=by rw[<-List.map_append,List.take_append_drop]
 unfold zFi;rw[this,zIi,e];rfl
theorem zXy(x:It)(l:List Ar)(hl:l.length<=20000)(hx:x.fields.length<=20000)(S:ASt):ADet Tryz.prog 191 [itV x,arsV l] S (B (zFi x (l.map armF))) S:=by
 refine ADet.intro mixed call191 func191 rfl ?_;simp[ntmps191];refine zF (fun q:Nat=>q<=l.length/\zFR x [] ((l.take q).map armF)=true) (fun q=>([.any,arsV l,.ptr 0 0 0,.any,.any,.mp 0 1,.any,.any,.any,.any,.any,.any,.any,arsV l,I l.length,I q]++List.replicate 48 .any)) (fun q=>[.cells (itU x) 45,.map (ctE (metC ((l.take q).map arVn)))]::S) (fun q=>l.length-q) 0 ⟨Nat.zero_le _,rfl⟩ ?_ ?_ ?_
 .simp
 .simp[metC,ctE]
 rintro q ⟨hq,ia⟩
 by_cases hlt:q<l.length
 .have aa:(q:Int)<(l.length:Int):=by omega
  have hw:=zB hlt (by unfold maxLen;omega)
  have Ke:(l.take (q+1)).map arVn=(l.take q).map arVn++[l[q].variant]:=by rw[List.take_succ_eq_append_getElem hlt,List.map_append];rfl
  have Ba:=zL1 x l hlt ia
  have wb:=zSV x l hlt ia
  have Xk:=zKc ((l.take q).map arVn) l[q].variant
  have Hb:=zSU ((l.take q).map arVn) l[q].variant
  have fj:=zL0 ((l.take q).map arVn) l[q].variant
  rw[List.length_map,List.length_take,Nat.min_eq_left hq]at Hb
  have Km:=fun S=>zKb x l[q].variant S
  have jb:=zFM l[q].variant (metC ((l.take q).map arVn)) 0
  have pe:=zFM l[q].variant (zGM (metC ((l.take q).map arVn)) l[q].variant) 0
  rw[Xk]at jb;rw[zGt,Xk]at pe;simp only[sEq_self,if_true]at pe;rw[<-fj,<-Ke]at pe;unfold zXx at Ba wb;unfold zHi at Km
  generalize hn:cntN ((l.take q).map arVn) l[q].variant=n at*
  have Le:IntKind.i64.wrap ((n:Int)+1)=((n+1:Nat):Int):=zB (n:=4294967296) (by omega) (by unfold maxLen;omega)
  rw[<-Ke]at fj
  have Ea:l.length-(q+1)<l.length-q:=by omega
  have xa:∃j1,zAr .string (.string l[q].variant) (ctE (metC ((l.take (q+1)).map arVn))) 0=some (some (j1,I (n+1:Nat))):=by
   rcases pe with⟨h1,_,_⟩|⟨j,h1,_⟩
   .omega
   exact⟨_,h1⟩
  obtain⟨j1,xa⟩:=xa
  clear pe;rw[<-fj]at jb
  generalize Dg:metC ((l.take (q+1)).map arVn)=m1 at*
  generalize Qq:metC ((l.take q).map arVn)=m0 at*
  generalize ha:l[q]=a at*
  simp[hlt,aa,ha,Ar.enc];refine cq (Km _) ?_
  have ov:(1<(n:Int)+1)=(0<n):=by rw[eq_iff_iff];omega
  rcases jb with⟨h1,h2,h3⟩|⟨j,h2,h3⟩
  .have Nc:n=0:=by omega
   have Pd:IntKind.i64.wrap 1=1:=rfl
   have Fb:ctE m0++[(.string a.variant,I 1)]=ctE m1:=h3.symm
   cases hvf:zBv x.fields a.variant with
   |none=>
    rw[hvf]at Ba wb;simp[h2,Fb,xa,Pd,hvf]
    exact wb rfl
   |some v=>
    rw[hvf]at Ba wb;simp only at Ba wb
    by_cases hn0:n=0
    .subst hn0
     cases hs:sEq a.name emS with
     |true=>
      by_cases hz:v.type.kind=0
      .have Lc:(v.type.kind !=0)=false:=by simpa using hz
       simp[h2,Fb,xa,Pd,hvf,hs,hz,Lc];exact⟨q+1,⟨hlt,by rw[<-List.map_take,Ba,hs,hz];rfl⟩,Ea,hw,by rw[zJm,<-List.map_take,Dg]⟩
      have Lc:(v.type.kind !=0)=true:=by simpa using hz
      simp[h2,Fb,xa,Pd,hvf,hs,Lc]
      exact wb (by rw[hs];simp[hz])
     |false=>
      by_cases hz:v.type.kind=0
      .have Lc:(v.type.kind !=0)=false:=by simpa using hz
       simp[h2,Fb,xa,Pd,hvf,hs,Lc];exact wb (by rw[hs];simp[hz])
      have Lc:(v.type.kind !=0)=true:=by simpa using hz
      simp[h2,Fb,xa,Pd,hvf,hs,hz,Lc];exact⟨q+1,⟨hlt,by rw[<-List.map_take,Ba,hs];simp[hz]⟩,Ea,hw,by rw[zJm,<-List.map_take,Dg]⟩
    have kd:(0<n):=by omega
    have hn2:(1:Int)<(n:Int)+1:=by omega
    have wb:=wb (by simp[hn0])
    cases hs:sEq a.name emS with
    |true=>
     by_cases hz:v.type.kind=0
     .have Lc:(v.type.kind !=0)=false:=by simpa using hz
      simp[h2,Fb,xa,Pd,hvf,hs,Lc,hn0,kd,hn2,wb]
     have Lc:(v.type.kind !=0)=true:=by simpa using hz
     simp[h2,Fb,xa,Pd,hvf,hs,Lc,hn0,kd,hn2,wb]
    |false=>
     by_cases hz:v.type.kind=0
     .have Lc:(v.type.kind !=0)=false:=by simpa using hz
      simp[h2,Fb,xa,Pd,hvf,hs,Lc,hn0,kd,hn2,wb]
     have Lc:(v.type.kind !=0)=true:=by simpa using hz
     simp[h2,Fb,xa,Pd,hvf,hs,Lc,hn0,kd,hn2,wb]
  have Fb:(ctE m0).set j (.string a.variant,I ((n:Int)+1))=ctE m1:=h3.symm
  cases hvf:zBv x.fields a.variant with
  |none=>
   rw[hvf]at Ba wb;simp[h2,Fb,xa,Le,hvf]
   exact wb rfl
  |some v=>
   rw[hvf]at Ba wb;simp only at Ba wb
   by_cases hn0:n=0
   .subst hn0
    have Fb:(ctE m0).set j (.string a.variant,I 1)=ctE m1:=by simpa using Fb
    have xa:zAr .string (.string a.variant) (ctE m1) 0=some (some (j1,I 1)):=by simpa using xa
    have Pd:IntKind.i64.wrap 1=1:=rfl
    cases hs:sEq a.name emS with
    |true=>
     by_cases hz:v.type.kind=0
     .have Lc:(v.type.kind !=0)=false:=by simpa using hz
      simp[h2,Fb,xa,Pd,hvf,hs,hz,Lc];exact⟨q+1,⟨hlt,by rw[<-List.map_take,Ba,hs,hz];rfl⟩,Ea,hw,by rw[zJm,<-List.map_take,Dg]⟩
     have Lc:(v.type.kind !=0)=true:=by simpa using hz
     simp[h2,Fb,xa,Pd,hvf,hs,Lc]
     exact wb (by rw[hs];simp[hz])
    |false=>
     by_cases hz:v.type.kind=0
     .have Lc:(v.type.kind !=0)=false:=by simpa using hz
      simp[h2,Fb,xa,Pd,hvf,hs,Lc];exact wb (by rw[hs];simp[hz])
     have Lc:(v.type.kind !=0)=true:=by simpa using hz
     simp[h2,Fb,xa,Pd,hvf,hs,hz,Lc];exact⟨q+1,⟨hlt,by rw[<-List.map_take,Ba,hs];simp[hz]⟩,Ea,hw,by rw[zJm,<-List.map_take,Dg]⟩
   have kd:(0<n):=by omega
   have hn2:(1:Int)<(n:Int)+1:=by omega
   have wb:=wb (by simp[hn0])
   cases hs:sEq a.name emS with
   |true=>
    by_cases hz:v.type.kind=0
    .have Lc:(v.type.kind !=0)=false:=by simpa using hz
     simp[h2,Fb,xa,Le,hvf,hs,Lc,hn0,kd,hn2,wb]
    have Lc:(v.type.kind !=0)=true:=by simpa using hz
    simp[h2,Fb,xa,Le,hvf,hs,Lc,hn0,kd,hn2,wb]
   |false=>
    by_cases hz:v.type.kind=0
    .have Lc:(v.type.kind !=0)=false:=by simpa using hz
     simp[h2,Fb,xa,Le,hvf,hs,Lc,hn0,kd,hn2,wb]
    have Lc:(v.type.kind !=0)=true:=by simpa using hz
    simp[h2,Fb,xa,Le,hvf,hs,Lc,hn0,kd,hn2,wb]
 have aa:¬(q:Int)<(l.length:Int):=by omega
 have Oa:q=l.length:=by omega
 subst Oa;rw[List.take_length]at ia;simp;clear hlt aa hq
 have Et:(l.map armF).map (·.1)=l.map arVn:=by rw[List.map_map];rfl
 have jp:zFi x (l.map armF)=x.fields.all fun v=>decide (0<cntN (l.map arVn) v.name):=by
  unfold zFi;rw[ia,Bool.true_and,Et]
 have Lm:x.fields.length<=maxLen:=by unfold maxLen;omega
 rw[jp];refine zF (fun q:Nat=>q<=x.fields.length/\∀i (hi:i<x.fields.length),i<q->0<cntN (l.map arVn) x.fields[i].name) (fun q=>([.any,.any,.ptr 0 0 0,.any,.any,.mp 0 1]++(List.replicate 46 .any++[.p (.sl 4 (x.fields.map Fi.enc)),I x.fields.length,I q,.any,.any,.any,.any,.any,.any,.any,.any,.any]))) (fun q=>[.cells (itU x) 45,.map (ctE (metC (l.map arVn)))]::S) (fun q=>x.fields.length-q) 0 ⟨Nat.zero_le _,fun i hi h=>by omega⟩ ?_ ?_ ?_
 .simp
 .simp
 rintro q ⟨hq,vd⟩
 by_cases hlt:q<x.fields.length
 .have aa:(q:Int)<(x.fields.length:Int):=by omega
  have hw:=zB hlt Lm
  have Xk:=zKc (l.map arVn) x.fields[q].name
  have jb:=zFM x.fields[q].name (metC (l.map arVn)) 0
  rw[Xk]at jb
  have wb:cntN (l.map arVn) x.fields[q].name=0->(x.fields.all fun v=>decide (0<cntN (l.map arVn) v.name))=false:=fun h0=>by
   rw[List.all_eq_false];exact⟨_,List.getElem_mem hlt,by rw[h0];simp⟩
  have Ea:x.fields.length-(q+1)<x.fields.length-q:=by omega
  have Ba:∀n,n=cntN (l.map arVn) x.fields[q].name->0<n->∀i (hi:i<x.fields.length),i<q+1->0<cntN (l.map arVn) x.fields[i].name:=fun n hn h0 i hi Ug=>by
   rcases Nat.lt_or_ge i q with h'|h'
   .exact vd i hi h'
   obtain rfl:i=q:=by omega
   rw[<-hn];exact h0
  generalize hn:cntN (l.map arVn) x.fields[q].name=n at*
  generalize Vg:x.fields[q]=f at*
  generalize (x.fields.all fun v=>decide (0<cntN (l.map arVn) v.name))=R at*
  rcases jb with⟨h1,h2,h3⟩|⟨j,h2,h3⟩
  .have hR:=wb h1
   simp[hlt,aa,Vg,Fi.enc,h2,hR]
  by_cases h0:n=0
  .have hR:=wb h0
   subst h0;simp[hlt,aa,Vg,Fi.enc,h2,hR]
  have hz:((n:Int)==0)=false:=by simpa using h0
  simp[hlt,aa,Vg,Fi.enc,h2,h0,hz];exact⟨q+1,⟨hlt,Ba n rfl (by omega)⟩,Ea,hw,by rw[zJm]⟩
 have aa:¬(q:Int)<(x.fields.length:Int):=by omega
 have hR:(x.fields.all fun v=>decide (0<cntN (l.map arVn) v.name))=true:=by
  rw[List.all_eq_true];intro v hv
  obtain⟨i,hi,rfl⟩:=List.getElem_of_mem hv
  simpa using vd i hi (by omega)
 rw[hR];simp[aa]
end Go.Proofs.YtdflkegnmmkkoaaGreatDoor
