/- A part of the proof. -/
import Derived.Test.YtdflkegnmmkkoaaGreatDoorWNSd
set_option linter.unusedVariables false
set_option linter.unusedSimpArgs false
set_option maxRecDepth 100000
set_option maxHeartbeats 32000000
namespace Go.Proofs.YtdflkegnmmkkoaaGreatDoor
open Go.RowKit _root_.Go.Proofs.Tryz
attribute [local simp] List.replicate List.range List.range.loop List.forall_mem_cons List.contains_cons List.contains_nil List.find?
variable{F:Nat}{S:ASt}{args:List AV}{p:List It}
def KC(p:List It)(F:Nat)(args:List AV)(l l':List Flt):Prop:=∀(S:ASt) (d:Nat),Lk p S d l->ADet Tryz.prog F (.ptr d 3 0::args) S .un (updK S d l')
theorem KC.at{l l1 l2:List Flt}(hw:KC p F args l1 l2){d:Nat}(h:Lk p S d l)(L:List AObj):ADet Tryz.prog F (.ptr (d+1) 3 0::args) (L::updK S d l1) .un (L::updK S d l2):=by
 have:=hw _ _ ((h.updK l1).cons L)
 rw[zF5,zLl h]at this;exact this
theorem KC.intro{l l':List Flt}(hw:∀(S:ASt) (d:Nat),Lk p S d l->ADet Tryz.prog F (.ptr d 3 0::args) (updK S d l) .un (updK S d l')):KC p F args l l':=fun S d h=>by
 have:=hw S d h
 rw[zDo h]at this;exact this
theorem zEL(p:List It)(yb:Bool)(e a:Int)(l:List Flt)(hl:l.length+1<=4294967296):KC p 60 [B yb,I e,I a] l (l++zI yb e a):=fun S d h=>by
 have ho:=h.l
 have ht:=h.r
 have hs:=zDo h
 unfold zI;refine ADet.intro mixed call60 func60 rfl ?_
 cases yb with
 |true=>simp[ntmps60,hs]
 |false=>
  simp only[nlO,rwO]at ho ht
  have n1:=fun(T:ASt) o=>zBv T d (i:=4) (j:=3) o (by omega)
  have n2:=fun(T:ASt) o=>zBv T d (i:=3) (j:=4) o (by omega)
  simp[ntmps60,ho,ht,n1,n2,hl,updK,nlO,rwO,rowC,fltE]
abbrev itZ1:AV:=.agg [U 0,Sg emS,nilS,U 0,Sg emS,nilS,nilS,U 0,I 0,Sg emS,Sg emS,Sg emS,nilS,nilS,I 0,I 0]
def zPr(p:List It)(k:Int)(s:BA):AV:=match zb p s with|some x=>.tup [itV x,B (decide (x.kind=k))]|none=>.tup [itZ1,B false]
theorem zJW(p:List It)(k:Int)(s:BA)(l:List Flt)(S:ASt)(d:Nat)(h:Lk p S d l):ADet Tryz.prog 154 [.ptr d 3 0,U k,Sg s] S (zPr p k s) S:=by
 have ho:=h.l
 have ht:=h.t
 simp only[nlO]at ho
 obtain⟨j,hj⟩:=zGd p s
 unfold zPr;refine ADet.intro mixed call154 func154 rfl ?_
 cases hf:zb p s with
 |none=>
  rw[hf]at hj;simp only[Option.map_none]at hj;simp[ntmps154,ho,ht,hj];refine dB [(4,8)] (by kernel_rfl) ?_
  simp
 |some x=>
  rw[hf]at hj;simp only[Option.map_some]at hj;simp[ntmps154,ho,ht,hj];refine dB [(4,8)] (by kernel_rfl) ?_
  by_cases hk:x.kind=k
  .simp[hk]
  have Qb:(x.kind==k)=false:=by simpa using hk
  simp[hk,Qb]
theorem zCB{α:Type}(g:α->Nat){l:List α}{q:Nat}(h:q<l.length):((l.take q).map g).sum+g l[q]<=(l.map g).sum:=by
 have e:(l.map g).sum=((l.take q).map g).sum+((l.drop q).map g).sum:=by
  rw[<-List.sum_append,<-List.map_append,List.take_append_drop]
 rw[e,List.drop_eq_getElem_cons h,List.map_cons,List.sum_cons];omega
theorem zX8(p:List It)(pos:Int):∀(t:Ty) (l:List Flt),l.length+t.nd<=4000000000->KC p 62 [tyV t,I pos] l (l++t.nm p pos):=by
 refine Ty.ind fun t ih l hl=>KC.intro fun S d h=>?_
 refine ADet.okA call62 1 2 rfl rfl fun na=>?_
 have ca:=okl na
 have Ed:=tyNd t
 obtain⟨W,hW⟩:∃W,W=l++(if t.kind=4 then zI (zb p t.name).isSome 60 pos else []):=⟨_,rfl⟩
 obtain⟨F,hF⟩:∃F:Nat->List Flt,F=fun q=>W++(t.args.take q).flatMap (Ty.nm p pos):=⟨_,rfl⟩
 have Ab:F 0=W:=by rw[hF];simp
 have Yb:F t.args.length=l++t.nm p pos:=by rw[hF,hW,tyNm];simp
 have Ib:∀q (h:q<t.args.length),F (q+1)=F q++t.args[q].nm p pos:=fun q h=>by rw[hF];simp only[List.take_succ_eq_append_getElem h,List.flatMap_append,List.append_assoc];simp
 have Pt:W.length<=l.length+1:=by
  rw[hW,List.length_append]
  have:(if t.kind=4 then zI (zb p t.name).isSome 60 pos else []).length<=1:=by
   split
   .exact zq _ _ _
   simp
  omega
 have Hb:∀q (h:q<t.args.length),(F q).length+t.args[q].nd<=4000000000:=fun q h=>by
  have e1:=zCB Ty.nd h
  have e2:=zE3 (Ty.nm p pos) Ty.nd (t.args.take q) fun x _=>zE4 p pos x
  rw[hF];simp only[List.length_append];omega
 clear hF;rw[<-Yb]
 have ho:=h.l
 have ht:=h.t
 simp only[nlO]at ho
 have hs:=zDo h
 obtain⟨j,hj⟩:=zGd p t.name
 have ho:=h.l
 have ht:=h.t
 simp only[nlO]at ho
 have hs:=zDo h
 obtain⟨j,hj⟩:=zGd p t.name
 refine ADet.intro mixed call62 func62 rfl ?_;simp[ntmps62,hs]
 by_cases h4:t.kind=4
 .rw[if_pos h4]at hW
  have gc:=fun b L=>(zEL p b 60 pos l (by omega)).at h L
  rw[hs]at gc
  cases hf:zb p t.name with
  |none=>
   rw[hf]at hj hW;simp only[Option.map_none]at hj
   have xg:l++zI false 60 pos=W:=hW.symm
   simp[h4];refine dB [(3,10),(5,10),(6,10)] (by kernel_rfl) ?_
   simp[ho,ht,hj];refine cq (gc false _) ?_;simp;refine zH (fun q:Nat=>q<=t.args.length) (fun q=>([.ptr (d+1) 3 0,.any,I pos]++(List.replicate 25 .any++[.p (.sl 3 (t.args.map Ty.enc)),I t.args.length,I q,.any,.any,.any,.any,.any,.any,.any,.any]))) (fun q=>[.cells [U t.kind,Sg t.name,.p (.sl 3 (t.args.map Ty.enc))] 36,.dead]::updK S d (F q)) (fun q=>t.args.length-q) 0 (Nat.zero_le _) ?_ ?_ ?_
   .simp
   .simp[Ab,xg,h4]
   intro q xm
   by_cases hlt:q<t.args.length
   .have aa:(q:Int)<(t.args.length:Int):=by omega
    have hw:=zA hlt
    have hx:=fun L=>(ih _ (List.getElem_mem hlt) (F q) (Hb q hlt)).at h L
    rw[<-Ib q hlt]at hx
    have Aa:t.args.length-(q+1)<t.args.length-q:=by omega
    generalize he:t.args[q]=x at*
    simp[hlt,aa,he,ze];refine cq (hx _) ?_;simp;exact⟨q+1,hlt,Aa,hw,rfl⟩
   have aa:¬(q:Int)<(t.args.length:Int):=by omega
   have Ya:q=t.args.length:=by omega
   subst Ya
   simp
  |some x=>
   rw[hf]at hj hW;simp only[Option.map_some]at hj
   have xg:l++zI true 60 pos=W:=hW.symm
   simp[h4];refine dB [(3,10),(5,10),(6,10)] (by kernel_rfl) ?_
   simp[ho,ht,hj];refine cq (gc true _) ?_;simp;refine zH (fun q:Nat=>q<=t.args.length) (fun q=>([.ptr (d+1) 3 0,.any,I pos]++(List.replicate 25 .any++[.p (.sl 3 (t.args.map Ty.enc)),I t.args.length,I q,.any,.any,.any,.any,.any,.any,.any,.any]))) (fun q=>[.cells [U t.kind,Sg t.name,.p (.sl 3 (t.args.map Ty.enc))] 36,.dead]::updK S d (F q)) (fun q=>t.args.length-q) 0 (Nat.zero_le _) ?_ ?_ ?_
   .simp
   .simp[Ab,xg,h4]
   intro q xm
   by_cases hlt:q<t.args.length
   .have aa:(q:Int)<(t.args.length:Int):=by omega
    have hw:=zA hlt
    have hx:=fun L=>(ih _ (List.getElem_mem hlt) (F q) (Hb q hlt)).at h L
    rw[<-Ib q hlt]at hx
    have Aa:t.args.length-(q+1)<t.args.length-q:=by omega
    generalize he:t.args[q]=x at*
    simp[hlt,aa,he,ze];refine cq (hx _) ?_;simp;exact⟨q+1,hlt,Aa,hw,rfl⟩
   have aa:¬(q:Int)<(t.args.length:Int):=by omega
   have Ya:q=t.args.length:=by omega
   subst Ya;simp
 rw[if_neg h4,List.append_nil]at hW
 have xg:l=W:=hW.symm
 simp[h4];refine zH (fun q:Nat=>q<=t.args.length) (fun q=>([.ptr (d+1) 3 0,.any,I pos]++(List.replicate 25 .any++[.p (.sl 3 (t.args.map Ty.enc)),I t.args.length,I q,.any,.any,.any,.any,.any,.any,.any,.any]))) (fun q=>[.cells [U t.kind,Sg t.name,.p (.sl 3 (t.args.map Ty.enc))] 36]::updK S d (F q)) (fun q=>t.args.length-q) 0 (Nat.zero_le _) ?_ ?_ ?_
 .simp
 .simp[Ab,<-xg,hs]
 intro q xm
 by_cases hlt:q<t.args.length
 .have aa:(q:Int)<(t.args.length:Int):=by omega
  have hw:=zA hlt
  have hx:=fun L=>(ih _ (List.getElem_mem hlt) (F q) (Hb q hlt)).at h L
  rw[<-Ib q hlt]at hx
  have Aa:t.args.length-(q+1)<t.args.length-q:=by omega
  generalize he:t.args[q]=x at*
  simp[hlt,aa,he,ze];refine cq (hx _) ?_;simp;exact⟨q+1,hlt,Aa,hw,rfl⟩
 have aa:¬(q:Int)<(t.args.length:Int):=by omega
 have Ya:q=t.args.length:=by omega
 subst Ya;simp
def FC(p:List It)(F:Nat)(args:List AV)(σ τ:Nf):Prop:=∀(S:ASt) (c:Cf),NAt p S c σ->ADet Tryz.prog F (.ptr c.d c.jF 0::args) S .un (updF S c τ)
theorem FC.at{σ σ1 σ2:Nf}(hw:FC p F args σ1 σ2){c:Cf}(h:NAt p S c σ)(L:List AObj):ADet Tryz.prog F (.ptr (c.d+1) c.jF 0::args) (L::updF S c σ1) .un (L::updF S c σ2):=by
 have:=hw _ _ ((h.updF σ1).cons L)
 rw[zAl,zCn h]at this;exact this
theorem FC.intro{σ τ:Nf}(hw:∀(S:ASt) (c:Cf),NAt p S c σ->ADet Tryz.prog F (.ptr c.d c.jF 0::args) (updF S c σ) .un (updF S c τ)):FC p F args σ τ:=fun S c h=>by
 have:=hw S c h
 rw[zAR h]at this;exact this
theorem KC.inF{σ σ1:Nf}{l2:List Flt}(hw:KC p F args σ1.fl l2){c:Cf}(h:NAt p S c σ)(L:List AObj):ADet Tryz.prog F (.ptr (c.k+c.d+1) 3 0::args) (L::updF S c σ1) .un (L::updF S c ⟨σ1.made,σ1.count,σ1.opn,l2⟩):=by
 have a:=h.updF σ1
 have:=hw _ _ (a.k.cons L)
 rw[zF5,zIL a,zCn h]at this;exact this
theorem KC.inF0{σ:Nf}{l2:List Flt}(hw:KC p F args σ.fl l2){c:Cf}(h:NAt p S c σ)(L:List AObj):ADet Tryz.prog F (.ptr (c.k+c.d+1) 3 0::args) (L::S) .un (L::updF S c ⟨σ.made,σ.count,σ.opn,l2⟩):=by
 have:=hw.inF h L
 rw[zAR h]at this;exact this
theorem zSZ(p:List It)(s:BA)(pos:Int)(σ:Nf)(hl:σ.fl.length+1<=4294967296):FC p 155 [Sg s,I pos] σ (σ.add (zI (mIs σ.made s) 60 pos)):=fun S c h=>by
 have ho:=h.n
 have hm:=h.m
 simp only[fnO]at ho;simp only[mdO]at hm
 have gc:=fun b L=>(zEL p b 60 pos σ.fl hl).inF0 h L
 unfold Nf.add;refine ADet.intro mixed call155 func155 rfl ?_;simp[ntmps155];refine dB [] (by kernel_rfl) ?_
 rcases zDU s σ.made 0 with⟨h1,h2,h3⟩|⟨j,b,h1,h2,h3⟩
 .have hi:mIs σ.made s=false:=by unfold mIs;rw[h1];rfl
  simp[ho,hm,h2];refine cq (gc false _) ?_;simp[hi]
 have hi:mIs σ.made s=b:=by unfold mIs;rw[h1];rfl
 simp[ho,hm,h2];refine cq (gc b _) ?_;simp[hi]
def clo(c:Cf)(g:Fg):AV:=.fn (.func 190) [] [.bx [B g.2],.bx [.ptr c.d c.jF 0],.bx [Sg g.1]]
theorem zX9(p:List It)(g:Fg)(σ:Nf)(S:ASt)(c:Cf)(h:NAt p S c σ):zRP Tryz.prog 190 [.bx [B g.2],.bx [.ptr c.d c.jF 0],.bx [Sg g.1]] S (updF S c (σ.put g)):=by
 have ho:=h.n
 have hm:=h.m
 simp only[fnO]at ho;simp only[mdO]at hm
 have Ph:updF S c (σ.put g)=set2 S c.d c.jM (mdO (mPut σ.made g.1 g.2)):=by
  have hs:=zAR h
  refine zJT (by rw[zE9,zBR]) fun d i=>?_
  rw[zB7 h,zQ _ h.m]
  have hne:=h.ne
  have e:=zB7 h σ d i
  rw[hs]at e
  by_cases h1:d=c.d/\i=c.jF
  .rw[if_pos h1,if_neg (by omega)]
   rw[if_pos h1]at e;rw[e];rfl
  rw[if_neg h1]
  by_cases h2:d=c.d/\i=c.jM
  .rw[if_pos h2,if_pos h2];rfl
  rw[if_neg h2,if_neg h2]
  rw[if_neg h1,if_neg h2]at e;rw[e]
  show(if d=c.e/\i=3 then some (nlO σ.fl.length)else if d=c.e/\i=4 then some (rwO σ.fl)else _)=_
  repeat' (first|rfl|split)
 rw[Ph];refine zRP.intro mixed call190 func190 rfl rfl ?_;simp[ntmps190];refine dB [] (by kernel_rfl) ?_
 rcases zDU g.1 σ.made 0 with⟨h1,h2,h3⟩|⟨j,b,h1,h2,h3⟩
 .simp[ho,hm,h2,zJy]
  rw[h3];simp[mdO,mdE]
 simp[ho,hm,h2,zJy]
 rw[mdO,h3]
theorem zaU(p:List It)(s:BA)(pos:Int)(σ:Nf)(hl:σ.fl.length+1<=4294967296)(hc:σ.count<4294967296)(S:ASt)(c:Cf)(h:NAt p S c σ):ADet Tryz.prog 153 [.ptr c.d c.jF 0,Sg s,I pos] S (clo c (s,mIs σ.made s)) (updF S c (σ.mk1 s pos)):=by
 have ho:=h.n
 have hm:=h.m
 have gc:=fun b L=>(zEL p b 60 pos σ.fl hl).inF0 h L
 have e1:=zIL h (σ.fl++zI (mGet σ.made s).isNone 60 pos)
 have hA:=h.updF ⟨σ.made,σ.count,σ.opn,σ.fl++zI (mGet σ.made s).isNone 60 pos⟩
 have ya:=hA.n
 have um:=hA.m
 have Rb:set2 (set2 (updF S c ⟨σ.made,σ.count,σ.opn,σ.fl++zI (mGet σ.made s).isNone 60 pos⟩) c.d c.jM (mdO (mPut σ.made s true))) c.d c.jF (fnO c ⟨mPut σ.made s true,σ.count+1,σ.opn,σ.fl++zI (mGet σ.made s).isNone 60 pos⟩)=updF S c (σ.mk1 s pos):=by
  rw[<-e1];rfl
 generalize hT:updF S c ⟨σ.made,σ.count,σ.opn,σ.fl++zI (mGet σ.made s).isNone 60 pos⟩=T at*
 have n1:=fun o=>zBv T c.d (i:=c.jM) (j:=c.jF) o (fun e=>h.ne e.symm)
 simp only[fnO]at ho ya;simp only[mdO]at hm um
 have yr:IntKind.i64.wrap ((σ.count:Int)+1)=((σ.count+1:Nat):Int):=zA (n:=4294967296) hc (by unfold maxLen;omega)
 refine ADet.introFz [(2,[B (mIs σ.made s)],106),(0,[.ptr (c.d+1) c.jF 0],103),(1,[Sg s],9)] mixed call153 func153 rfl ?_;simp[ntmps153];refine dB [(0,9),(3,9),(4,9),(5,9)] (by kernel_rfl) ?_
 rcases zDU s σ.made 0 with⟨h1,h2,h3⟩|⟨j,b,h1,h2,h3⟩
 .have hi:mIs σ.made s=false:=by unfold mIs;rw[h1];rfl
  simp only[h1,Option.isNone_none]at hT;simp[ho,hm,h2];refine cq (gc true _) ?_;simp;rw[hT];refine dB [] (by kernel_rfl) ?_
  rw[h3]at Rb;simp[ya,um,h2,n1,yr,zOu,FzOk,AV.fz,AV.fzs,clo,hi,zAy]
  simpa [mdO,fnO,mdE]using Rb
 have hi:mIs σ.made s=b:=by unfold mIs;rw[h1];rfl
 simp[ho,hm,h2];refine cq (gc false _) ?_;simp;simp only[h1,Option.isNone_some]at hT;rw[hT];refine dB [] (by kernel_rfl) ?_
 simp only[mdO]at Rb;rw[h3]at Rb;simp[ya,um,h2,n1,yr,zOu,FzOk,AV.fz,AV.fzs,clo,hi,zAy]
 simpa [fnO]using Rb
end Go.Proofs.YtdflkegnmmkkoaaGreatDoor
namespace Go.Proofs.YtdflkegnmmkkoaaGreatDoor
open Go.RowKit _root_.Go.Proofs.Tryz
attribute [local simp] List.replicate List.range List.range.loop
theorem zLp(S:ASt)(L:List AObj)(d:Nat):ADet Tryz.prog 63 [.ptr d 3 0] (L::S) (.ptr 0 (L.length+1) 0) ((L++[.map [],.cells [.ptr d 3 0,.mp 0 L.length,I 0,I 0] 109])::S):=by
 refine ADet.flat mixed call63 func63 rfl ?_;simp[ntmps63]
abbrev fiZ1:AV:=.agg [Sg emS,U 0,Sg emS,nilS]
def zHM(l:List Fi)(s:BA):AV:=match zBq l s with|some v=>.tup [fiV v,B true]|none=>.tup [fiZ1,B false]
theorem zLq{l:List Fi}{s:BA}(h:∀i (hi:i<l.length),sEq l[i].name s=false):zBq l s=none:=by
 unfold zBq;rw[List.find?_eq_none];intro x hx
 obtain⟨i,hi,rfl⟩:=List.getElem_of_mem hx
 rw[h i hi];simp
theorem zLr{l:List Fi}{s:BA}{q:Nat}(h:∀i (hi:i<l.length),i<q->sEq l[i].name s=false)(hq:q<l.length)(hp:sEq l[q].name s=true):zBq l s=some l[q]:=by
 unfold zBq;rw[List.find?_eq_some_iff_getElem];exact⟨hp,q,hq,rfl,fun j hj=>by rw[h j (by omega) hj];rfl⟩
theorem zKU(x:It)(s:BA)(S:ASt):ADet Tryz.prog 159 [itV x,Sg s] S (zHM x.fields s) S:=by
 refine ADet.okA call159 0 2 rfl rfl fun na=>?_
 have ca:=okl na
 unfold zHM;refine ADet.intro mixed call159 func159 rfl ?_;simp[ntmps159];refine zH (fun q:Nat=>q<=x.fields.length/\∀i (hi:i<x.fields.length),i<q->sEq x.fields[i].name s=false) (fun q=>[.any,Sg s,.ptr 0 0 0,.any,.ptr 0 1 0,.any,.any,.any,.any,.p (.sl 4 (x.fields.map Fi.enc)),I x.fields.length,I q,.any,.any,.any,.any,.any,.any,.any,.any,.any,.any]) (fun q=>[.cells (itU x) 45,.cells [Sg emS,U 0,Sg emS,nilS] 60]::S) (fun q=>x.fields.length-q) 0 ⟨Nat.zero_le _,fun i hi h=>by omega⟩ ?_ ?_ ?_
 .simp
 .simp
 rintro q ⟨hq,ia⟩
 by_cases hlt:q<x.fields.length
 .have aa:(q:Int)<(x.fields.length:Int):=by omega
  have hw:=zA hlt
  have hs:=zLr ia hlt
  generalize hf:x.fields[q]=f at*
  cases hp:sEq f.name s with
  |true=>
   have hs:=hs hp
   simp[hlt,aa,hf,Fi.enc,hp,hs]
  |false=>
   simp[hlt,aa,hf,Fi.enc,hp]
   exact⟨q+1,⟨hlt,fun i hi h=>by
    rcases Nat.lt_or_ge i q with h'|h'
    .exact ia i hi h'
    obtain rfl:i=q:=by omega
    rw[hf];exact hp⟩,by omega,hw⟩
 have aa:¬(q:Int)<(x.fields.length:Int):=by omega
 have hs:=zLq fun i hi=>ia i hi (by omega)
 simp[aa,hs]
def zF7:List (BA × Nat)->BA->List (BA × Nat)
 | [],s=>[(s,1)]
 |e::m,s=>if sEq s e.1=true then(s,e.2+1)::m else e::zF7 m s
def zF8:List (BA × Nat)->BA->Nat
 | [],_=>0
 |e::m,s=>if sEq s e.1=true then e.2 else zF8 m s
def ctE(m:List (BA × Nat)):List (Value × AV):=m.map fun e=>(.string e.1,I e.2)
def metC(l:List BA):List (BA × Nat):=l.foldl zF7 []
theorem zGg(m:List (BA × Nat))(s t:BA):zF8 (zF7 m s) t=zF8 m t+if sEq s t=true then 1 else 0:=by
 induction m with
 |nil=>
  simp only[zF7,zF8]
  rw[show sEq t s=sEq s t by
   by_cases h:t=s
   .subst h;rfl
   rw[zCX h,zCX fun e=>h e.symm]]
  split<;>rfl
 |cons e m ih=>
  unfold zF7
  by_cases h:sEq s e.1=true
  .rw[if_pos h]
   have:=zDZ.1 h
   subst this;unfold zF8
   by_cases ht:t=e.1
   .subst ht;simp
   rw[if_neg (by rw[zCX ht];simp),if_neg (by rw[zCX ht];simp),if_neg (by rw[zCX fun e=>ht e.symm];simp),Nat.add_zero]
  rw[if_neg h]
  unfold zF8
  by_cases ht:sEq t e.1=true
  .rw[if_pos ht,if_pos ht]
   have:=zDZ.1 ht
   subst this;rw[if_neg h,Nat.add_zero]
  rw[if_neg ht,if_neg ht,ih]
theorem zKV(l:List BA)(s:BA):zF8 (metC l) s=cntN l s:=by
 have key:∀(l:List BA) (m:List (BA × Nat)),zF8 (l.foldl zF7 m) s=zF8 m s+cntN l s:=by
  intro l
  induction l with
  |nil=>intro m;simp[cntN]
  |cons x l ih=>
   intro m;rw[List.foldl_cons,ih,zGg];unfold cntN;rw[List.countP_cons];omega
 unfold metC;rw[key];simp[zF8]
theorem zLs(l:List BA)(s:BA):metC (l++[s])=zF7 (metC l) s:=by unfold metC;rw[List.foldl_append];rfl
theorem zFC(s:BA):∀(m:List (BA × Nat)) (i:Nat),(zF8 m s=0/\zAk .string (.string s) (ctE m) i=some none/\ctE (zF7 m s)=ctE m++[(.string s,I 1)])\/∃j,zAk .string (.string s) (ctE m) i=some (some (i+j,I (zF8 m s)))/\ctE (zF7 m s)=(ctE m).set j (.string s,I (zF8 m s+1:Nat))
 | [],i=>.inl ⟨rfl,rfl,rfl⟩
 |e::m,i=>by
  have hd:ctE (e::m)=(.string e.1,I e.2)::ctE m:=rfl
  rw[hd,zj,zF8,zF7]
  by_cases h:sEq s e.1=true
  .rw[if_pos h,if_pos h,if_pos h]
   exact .inr ⟨0,rfl,rfl⟩
  rw[if_neg h,if_neg h,if_neg h]
  rcases zFC s m (i+1)with⟨h1,h2,h3⟩|⟨j,h2,h3⟩
  .exact .inl ⟨h1,h2,by show(.string e.1,I e.2)::ctE (zF7 m s)=_;rw[h3];rfl⟩
  refine .inr ⟨j+1,by rw[h2];congr 2;simp;omega,?_⟩
  show(.string e.1,I e.2)::ctE (zF7 m s)=_
  rw[h3];rfl
theorem zJX(n:Nat)(m:List (BA × Nat)):(ctE m).map (fun kv=>(kv.1,AV.cut n kv.2))=ctE m:=by
 unfold ctE;rw[List.map_map];rfl
theorem zSa(l:List BA)(s:BA):cntN l s<=l.length:=List.countP_le_length
abbrev arsV(l:List Ar):AV:=.p (.sl 3 (l.map Ar.enc))
def arVn(a:Ar):BA:=a.variant
theorem zIQ(x:It):∀(l:List Fg) (met:List BA) (k:List Fg),zFH x met (l++k)=(zFH x met l&&zFH x (met++l.map (·.1)) k)
 | [],met,k=>by simp[zFH]
 |b::l,met,k=>by
  show zFH x met (b::(l++k))=_
  have e1:zFH x met (b::(l++k))=((match zBq x.fields b.1 with|some v=>(b.2==decide (v.type.kind≠0))|none=>false)&&(decide (cntN met b.1=0)&&zFH x (met++[b.1]) (l++k))):=rfl
  have e2:zFH x met (b::l)=((match zBq x.fields b.1 with|some v=>(b.2==decide (v.type.kind≠0))|none=>false)&&(decide (cntN met b.1=0)&&zFH x (met++[b.1]) l)):=rfl
  rw[e1,e2,zIQ x l (met++[b.1]) k];simp only[List.map_cons,List.append_assoc,List.singleton_append];rw[Bool.and_assoc,Bool.and_assoc]
def zYA(x:It)(met:List BA)(a:Ar):Bool:=(match zBq x.fields a.variant with|some v=>(!sEq a.name emS)==decide (v.type.kind≠0)|none=>false)&&decide (cntN met a.variant=0)
theorem zLt(x:It)(l:List Ar){q:Nat}(h:q<l.length)(ia:zFH x [] ((l.take q).map armF)=true):zFH x [] ((l.take (q+1)).map armF)=zYA x ((l.take q).map arVn) l[q]:=by
 rw[List.take_succ_eq_append_getElem h,List.map_append,zIQ,ia,Bool.true_and,List.nil_append,List.map_map];simp only[List.map_cons,List.map_nil,zFH,Bool.and_true];rfl
theorem zSb(x:It)(l:List Ar){q:Nat}(h:q<l.length)(ia:zFH x [] ((l.take q).map armF)=true)(xb:zYA x ((l.take q).map arVn) l[q]=false):zFX x (l.map armF)=false:=by
 have e:=zLt x l h ia
 rw[xb]at e
 have:l.map armF=(l.take (q+1)).map armF++(l.drop (q+1)).map armF:=by rw[<-List.map_append,List.take_append_drop]
 unfold zFX;rw[this,zIQ,e];rfl
theorem zYB(x:It)(l:List Ar)(hl:l.length<=20000)(hx:x.fields.length<=20000)(S:ASt):ADet Tryz.prog 191 [itV x,arsV l] S (B (zFX x (l.map armF))) S:=by
 refine ADet.intro mixed call191 func191 rfl ?_;simp[ntmps191];refine zH (fun q:Nat=>q<=l.length/\zFH x [] ((l.take q).map armF)=true) (fun q=>([.any,arsV l,.ptr 0 0 0,.any,.any,.mp 0 1,.any,.any,.any,.any,.any,.any,.any,arsV l,I l.length,I q]++List.replicate 48 .any)) (fun q=>[.cells (itU x) 45,.map (ctE (metC ((l.take q).map arVn)))]::S) (fun q=>l.length-q) 0 ⟨Nat.zero_le _,rfl⟩ ?_ ?_ ?_
 .simp
 .simp[metC,ctE]
 rintro q ⟨hq,ia⟩
 by_cases hlt:q<l.length
 .have aa:(q:Int)<(l.length:Int):=by omega
  have hw:=zA hlt (by unfold maxLen;omega)
  have He:(l.take (q+1)).map arVn=(l.take q).map arVn++[l[q].variant]:=by rw[List.take_succ_eq_append_getElem hlt,List.map_append];rfl
  have Ca:=zLt x l hlt ia
  have xb:=zSb x l hlt ia
  have Rk:=zKV ((l.take q).map arVn) l[q].variant
  have kb:=zSa ((l.take q).map arVn) l[q].variant
  have Xi:=zLs ((l.take q).map arVn) l[q].variant
  rw[List.length_map,List.length_take,Nat.min_eq_left hq]at kb
  have Gm:=fun S=>zKU x l[q].variant S
  have pb:=zFC l[q].variant (metC ((l.take q).map arVn)) 0
  have oe:=zFC l[q].variant (zF7 (metC ((l.take q).map arVn)) l[q].variant) 0
  rw[Rk]at pb;rw[zGg,Rk]at oe;simp only[sEq_self,if_true]at oe;rw[<-Xi,<-He]at oe;unfold zYA at Ca xb;unfold zHM at Gm
  generalize hn:cntN ((l.take q).map arVn) l[q].variant=n at*
  have Je:IntKind.i64.wrap ((n:Int)+1)=((n+1:Nat):Int):=zA (n:=4294967296) (by omega) (by unfold maxLen;omega)
  rw[<-He]at Xi
  have Aa:l.length-(q+1)<l.length-q:=by omega
  have xa:∃j1,zAk .string (.string l[q].variant) (ctE (metC ((l.take (q+1)).map arVn))) 0=some (some (j1,I (n+1:Nat))):=by
   rcases oe with⟨h1,_,_⟩|⟨j,h1,_⟩
   .omega
   exact⟨_,h1⟩
  obtain⟨j1,xa⟩:=xa
  clear oe;rw[<-Xi]at pb
  generalize Bg:metC ((l.take (q+1)).map arVn)=m1 at*
  generalize Wq:metC ((l.take q).map arVn)=m0 at*
  generalize ha:l[q]=a at*
  simp[hlt,aa,ha,Ar.enc];refine cq (Gm _) ?_
  have Iv:(1<(n:Int)+1)=(0<n):=by rw[eq_iff_iff];omega
  rcases pb with⟨h1,h2,h3⟩|⟨j,h2,h3⟩
  .have ye:n=0:=by omega
   have Qc:IntKind.i64.wrap 1=1:=rfl
   have Fb:ctE m0++[(.string a.variant,I 1)]=ctE m1:=h3.symm
   cases hvf:zBq x.fields a.variant with
   |none=>
    rw[hvf]at Ca xb;simp[h2,Fb,xa,Qc,hvf]
    exact xb rfl
   |some v=>
    rw[hvf]at Ca xb;simp only at Ca xb
    by_cases hn0:n=0
    .subst hn0
     cases hs:sEq a.name emS with
     |true=>
      by_cases hz:v.type.kind=0
      .have Kc:(v.type.kind !=0)=false:=by simpa using hz
       simp[h2,Fb,xa,Qc,hvf,hs,hz,Kc];exact⟨q+1,⟨hlt,by rw[<-List.map_take,Ca,hs,hz];rfl⟩,Aa,hw,by rw[zJX,<-List.map_take,Bg]⟩
      have Kc:(v.type.kind !=0)=true:=by simpa using hz
      simp[h2,Fb,xa,Qc,hvf,hs,Kc]
      exact xb (by rw[hs];simp[hz])
     |false=>
      by_cases hz:v.type.kind=0
      .have Kc:(v.type.kind !=0)=false:=by simpa using hz
       simp[h2,Fb,xa,Qc,hvf,hs,Kc];exact xb (by rw[hs];simp[hz])
      have Kc:(v.type.kind !=0)=true:=by simpa using hz
      simp[h2,Fb,xa,Qc,hvf,hs,hz,Kc];exact⟨q+1,⟨hlt,by rw[<-List.map_take,Ca,hs];simp[hz]⟩,Aa,hw,by rw[zJX,<-List.map_take,Bg]⟩
    have kd:(0<n):=by omega
    have hn2:(1:Int)<(n:Int)+1:=by omega
    have xb:=xb (by simp[hn0])
    cases hs:sEq a.name emS with
    |true=>
     by_cases hz:v.type.kind=0
     .have Kc:(v.type.kind !=0)=false:=by simpa using hz
      simp[h2,Fb,xa,Qc,hvf,hs,Kc,hn0,kd,hn2,xb]
     have Kc:(v.type.kind !=0)=true:=by simpa using hz
     simp[h2,Fb,xa,Qc,hvf,hs,Kc,hn0,kd,hn2,xb]
    |false=>
     by_cases hz:v.type.kind=0
     .have Kc:(v.type.kind !=0)=false:=by simpa using hz
      simp[h2,Fb,xa,Qc,hvf,hs,Kc,hn0,kd,hn2,xb]
     have Kc:(v.type.kind !=0)=true:=by simpa using hz
     simp[h2,Fb,xa,Qc,hvf,hs,Kc,hn0,kd,hn2,xb]
  have Fb:(ctE m0).set j (.string a.variant,I ((n:Int)+1))=ctE m1:=h3.symm
  cases hvf:zBq x.fields a.variant with
  |none=>
   rw[hvf]at Ca xb;simp[h2,Fb,xa,Je,hvf]
   exact xb rfl
  |some v=>
   rw[hvf]at Ca xb;simp only at Ca xb
   by_cases hn0:n=0
   .subst hn0
    have Fb:(ctE m0).set j (.string a.variant,I 1)=ctE m1:=by simpa using Fb
    have xa:zAk .string (.string a.variant) (ctE m1) 0=some (some (j1,I 1)):=by simpa using xa
    have Qc:IntKind.i64.wrap 1=1:=rfl
    cases hs:sEq a.name emS with
    |true=>
     by_cases hz:v.type.kind=0
     .have Kc:(v.type.kind !=0)=false:=by simpa using hz
      simp[h2,Fb,xa,Qc,hvf,hs,hz,Kc];exact⟨q+1,⟨hlt,by rw[<-List.map_take,Ca,hs,hz];rfl⟩,Aa,hw,by rw[zJX,<-List.map_take,Bg]⟩
     have Kc:(v.type.kind !=0)=true:=by simpa using hz
     simp[h2,Fb,xa,Qc,hvf,hs,Kc]
     exact xb (by rw[hs];simp[hz])
    |false=>
     by_cases hz:v.type.kind=0
     .have Kc:(v.type.kind !=0)=false:=by simpa using hz
      simp[h2,Fb,xa,Qc,hvf,hs,Kc];exact xb (by rw[hs];simp[hz])
     have Kc:(v.type.kind !=0)=true:=by simpa using hz
     simp[h2,Fb,xa,Qc,hvf,hs,hz,Kc];exact⟨q+1,⟨hlt,by rw[<-List.map_take,Ca,hs];simp[hz]⟩,Aa,hw,by rw[zJX,<-List.map_take,Bg]⟩
   have kd:(0<n):=by omega
   have hn2:(1:Int)<(n:Int)+1:=by omega
   have xb:=xb (by simp[hn0])
   cases hs:sEq a.name emS with
   |true=>
    by_cases hz:v.type.kind=0
    .have Kc:(v.type.kind !=0)=false:=by simpa using hz
     simp[h2,Fb,xa,Je,hvf,hs,Kc,hn0,kd,hn2,xb]
    have Kc:(v.type.kind !=0)=true:=by simpa using hz
    simp[h2,Fb,xa,Je,hvf,hs,Kc,hn0,kd,hn2,xb]
   |false=>
    by_cases hz:v.type.kind=0
    .have Kc:(v.type.kind !=0)=false:=by simpa using hz
     simp[h2,Fb,xa,Je,hvf,hs,Kc,hn0,kd,hn2,xb]
    have Kc:(v.type.kind !=0)=true:=by simpa using hz
    simp[h2,Fb,xa,Je,hvf,hs,Kc,hn0,kd,hn2,xb]
 have aa:¬(q:Int)<(l.length:Int):=by omega
 have Ya:q=l.length:=by omega
 subst Ya;rw[List.take_length]at ia;simp;clear hlt aa hq
 have Qt:(l.map armF).map (·.1)=l.map arVn:=by rw[List.map_map];rfl
 have pp:zFX x (l.map armF)=x.fields.all fun v=>decide (0<cntN (l.map arVn) v.name):=by
  unfold zFX;rw[ia,Bool.true_and,Qt]
 have Hm:x.fields.length<=maxLen:=by unfold maxLen;omega
 rw[pp];refine zH (fun q:Nat=>q<=x.fields.length/\∀i (hi:i<x.fields.length),i<q->0<cntN (l.map arVn) x.fields[i].name) (fun q=>([.any,.any,.ptr 0 0 0,.any,.any,.mp 0 1]++(List.replicate 46 .any++[.p (.sl 4 (x.fields.map Fi.enc)),I x.fields.length,I q,.any,.any,.any,.any,.any,.any,.any,.any,.any]))) (fun q=>[.cells (itU x) 45,.map (ctE (metC (l.map arVn)))]::S) (fun q=>x.fields.length-q) 0 ⟨Nat.zero_le _,fun i hi h=>by omega⟩ ?_ ?_ ?_
 .simp
 .simp
 rintro q ⟨hq,fe⟩
 by_cases hlt:q<x.fields.length
 .have aa:(q:Int)<(x.fields.length:Int):=by omega
  have hw:=zA hlt Hm
  have Rk:=zKV (l.map arVn) x.fields[q].name
  have pb:=zFC x.fields[q].name (metC (l.map arVn)) 0
  rw[Rk]at pb
  have xb:cntN (l.map arVn) x.fields[q].name=0->(x.fields.all fun v=>decide (0<cntN (l.map arVn) v.name))=false:=fun h0=>by
   rw[List.all_eq_false];exact⟨_,List.getElem_mem hlt,by rw[h0];simp⟩
  have Aa:x.fields.length-(q+1)<x.fields.length-q:=by omega
  have Ca:∀n,n=cntN (l.map arVn) x.fields[q].name->0<n->∀i (hi:i<x.fields.length),i<q+1->0<cntN (l.map arVn) x.fields[i].name:=fun n hn h0 i hi Pg=>by
   rcases Nat.lt_or_ge i q with h'|h'
   .exact fe i hi h'
   obtain rfl:i=q:=by omega
   rw[<-hn];exact h0
  generalize hn:cntN (l.map arVn) x.fields[q].name=n at*
  generalize Qg:x.fields[q]=f at*
  generalize (x.fields.all fun v=>decide (0<cntN (l.map arVn) v.name))=R at*
  rcases pb with⟨h1,h2,h3⟩|⟨j,h2,h3⟩
  .have hR:=xb h1
   simp[hlt,aa,Qg,Fi.enc,h2,hR]
  by_cases h0:n=0
  .have hR:=xb h0
   subst h0;simp[hlt,aa,Qg,Fi.enc,h2,hR]
  have hz:((n:Int)==0)=false:=by simpa using h0
  simp[hlt,aa,Qg,Fi.enc,h2,h0,hz];exact⟨q+1,⟨hlt,Ca n rfl (by omega)⟩,Aa,hw,by rw[zJX]⟩
 have aa:¬(q:Int)<(x.fields.length:Int):=by omega
 have hR:(x.fields.all fun v=>decide (0<cntN (l.map arVn) v.name))=true:=by
  rw[List.all_eq_true];intro v hv
  obtain⟨i,hi,rfl⟩:=List.getElem_of_mem hv
  simpa using fe i hi (by omega)
 rw[hR];simp[aa]
end Go.Proofs.YtdflkegnmmkkoaaGreatDoor
