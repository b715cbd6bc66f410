/- A part of the proof. -/
import Derived.Test.YtgpajpilkapciaaGreatDoorXNVl
set_option linter.unusedVariables false
set_option linter.unusedSimpArgs false
set_option maxRecDepth 100000
set_option maxHeartbeats 32000000
namespace Go.Proofs.YtgpajpilkapciaaGreatDoor
open Go.RowKit _root_.Go.Proofs.Tryz
attribute [local simp] List.replicate List.range List.range.loop zf za zn zb List.forall_mem_cons List.contains_cons List.contains_nil List.find? zm zl zZ
variable{F:Nat}{S:ASt}{args:List AV}{p:List It}
def KC(p:List It)(F:Nat)(args:List AV)(l l':List Flt):Prop:=∀(S:ASt) (d:Nat),Lk p S d l->ADet Tryz.prog F (.ptr d 3 0::args) S .un (updK S d l')
theorem KC.at{l l1 l2:List Flt}(hw:KC p F args l1 l2){d:Nat}(h:Lk p S d l)(L:List AObj):ADet Tryz.prog F (.ptr (d+1) 3 0::args) (L::updK S d l1) .un (L::updK S d l2):=by
 have:=hw _ _ ((h.updK l1).cons L)
 rw[zF4,zLS h]at this;exact this
theorem KC.intro{l l':List Flt}(hw:∀(S:ASt) (d:Nat),Lk p S d l->ADet Tryz.prog F (.ptr d 3 0::args) (updK S d l) .un (updK S d l')):KC p F args l l':=fun S d h=>by
 have:=hw S d h
 rw[zDf h]at this;exact this
theorem zD8(p:List It)(kb:Bool)(e a:Int)(l:List Flt)(hl:l.length+1<=4294967296):KC p 27 [B kb,I e,I a] l (l++zI kb e a):=fun S d h=>by
 have ho:=h.l
 have ht:=h.r
 have hs:=zDf h
 unfold zI;refine ADet.intro mixed call27 func27 rfl ?_
 cases kb with
 |true=>simp[ntmps27,hs]
 |false=>
  simp only[nlO,rwO]at ho ht
  have n1:=fun(T:ASt) o=>zBq T d (i:=4) (j:=3) o (by omega)
  have n2:=fun(T:ASt) o=>zBq T d (i:=3) (j:=4) o (by omega)
  simp[ntmps27,ho,ht,n1,n2,hl,updK,nlO,rwO,rowC,fltE]
abbrev itZ1:AV:=.agg [U 0,Sg emS,nilS,U 0,Sg emS,nilS,nilS,U 0,I 0,Sg emS,Sg emS,Sg emS,nilS,nilS,I 0,I 0]
def zO1(p:List It)(k:Int)(s:BA):AV:=match zU p s with|some x=>.tup [itV x,B (decide (x.kind=k))]|none=>.tup [itZ1,B false]
theorem zI5(p:List It)(k:Int)(s:BA)(l:List Flt)(S:ASt)(d:Nat)(h:Lk p S d l):ADet Tryz.prog 91 [.ptr d 3 0,U k,Sg s] S (zO1 p k s) S:=by
 have ho:=h.l
 have ht:=h.t
 simp only[nlO]at ho
 obtain⟨j,hj⟩:=zGV p s
 unfold zO1;refine ADet.intro mixed call91 func91 rfl ?_
 cases hf:zU p s with
 |none=>
  rw[hf]at hj;simp only[Option.map_none]at hj;simp[ntmps91,ho,ht,hj];refine dB [(4,8)] (by kernel_rfl) ?_
  simp
 |some x=>
  rw[hf]at hj;simp only[Option.map_some]at hj;simp[ntmps91,ho,ht,hj];refine dB [(4,8)] (by kernel_rfl) ?_
  by_cases hk:x.kind=k
  .simp[hk]
  have Vb:(x.kind==k)=false:=by simpa using hk
  simp[hk,Vb]
theorem zB4{α:Type}(g:α->Nat){l:List α}{q:Nat}(h:q<l.length):((l.take q).map g).sum+g l[q]<=(l.map g).sum:=by
 have e:(l.map g).sum=((l.take q).map g).sum+((l.drop q).map g).sum:=by
  rw[<-List.sum_append,<-List.map_append,List.take_append_drop]
 rw[e,List.drop_eq_getElem_cons h,List.map_cons,List.sum_cons];omega
theorem zXE(p:List It)(pos:Int):∀(t:Ty) (l:List Flt),l.length+t.nd<=4000000000->KC p 29 [tyV t,I pos] l (l++t.nm p pos):=by
 refine Ty.ind fun t ih l hl=>KC.intro fun S d h=>?_
 refine ADet.okA call29 1 2 rfl rfl fun na=>?_
 have ca:=okl na
 have fb:=tyNd t
 obtain⟨W,hW⟩:∃W,W=l++(if t.kind=4 then zI (zU p t.name).isSome 60 pos else []):=⟨_,rfl⟩
 obtain⟨F,hF⟩:∃F:Nat->List Flt,F=fun q=>W++(t.args.take q).flatMap (Ty.nm p pos):=⟨_,rfl⟩
 have mb:F 0=W:=by rw[hF];simp
 have Qb:F t.args.length=l++t.nm p pos:=by rw[hF,hW,tyNm];simp
 have Gb:∀q (h:q<t.args.length),F (q+1)=F q++t.args[q].nm p pos:=fun q h=>by rw[hF];simp only[List.take_succ_eq_append_getElem h,List.flatMap_append,List.append_assoc];simp
 have Yt:W.length<=l.length+1:=by
  rw[hW,List.length_append]
  have:(if t.kind=4 then zI (zU p t.name).isSome 60 pos else []).length<=1:=by
   split
   .exact zo _ _ _
   simp
  omega
 have Fb:∀q (h:q<t.args.length),(F q).length+t.args[q].nd<=4000000000:=fun q h=>by
  have e1:=zB4 Ty.nd h
  have e2:=zEm (Ty.nm p pos) Ty.nd (t.args.take q) fun x _=>zEn p pos x
  rw[hF];simp only[List.length_append];omega
 clear hF;rw[<-Qb]
 have ho:=h.l
 have ht:=h.t
 simp only[nlO]at ho
 have hs:=zDf h
 obtain⟨j,hj⟩:=zGV p t.name
 have ho:=h.l
 have ht:=h.t
 simp only[nlO]at ho
 have hs:=zDf h
 obtain⟨j,hj⟩:=zGV p t.name
 refine ADet.intro mixed call29 func29 rfl ?_;simp[ntmps29,hs]
 by_cases h4:t.kind=4
 .rw[if_pos h4]at hW
  have Ya:=fun b L=>(zD8 p b 60 pos l (by omega)).at h L
  rw[hs]at Ya
  cases hf:zU p t.name with
  |none=>
   rw[hf]at hj hW;simp only[Option.map_none]at hj
   have jg:l++zI false 60 pos=W:=hW.symm
   simp[h4];refine dB [(3,10),(5,10),(6,10)] (by kernel_rfl) ?_
   simp[ho,ht,hj];refine cq (Ya false _) ?_;simp;refine zH (fun q:Nat=>q<=t.args.length) (fun q=>([.ptr (d+1) 3 0,.any,I pos]++(List.replicate 25 .any++[.p (.sl 3 (t.args.map Ty.enc)),I t.args.length,I q,.any,.any,.any,.any,.any,.any,.any,.any]))) (fun q=>[.cells [U t.kind,Sg t.name,.p (.sl 3 (t.args.map Ty.enc))] 35,.dead]::updK S d (F q)) (fun q=>t.args.length-q) 0 (Nat.zero_le _) ?_ ?_ ?_
   .simp
   .simp[mb,jg,h4]
   intro q Gj
   by_cases hlt:q<t.args.length
   .have aa:(q:Int)<(t.args.length:Int):=by omega
    have hw:=zA hlt
    have hx:=fun L=>(ih _ (List.getElem_mem hlt) (F q) (Fb q hlt)).at h L
    rw[<-Gb q hlt]at hx
    have ra:t.args.length-(q+1)<t.args.length-q:=by omega
    generalize he:t.args[q]=x at*
    simp[hlt,aa,he,zP];refine cq (hx _) ?_;simp;exact⟨q+1,hlt,ra,hw,rfl⟩
   have aa:¬(q:Int)<(t.args.length:Int):=by omega
   have Na:q=t.args.length:=by omega
   subst Na
   simp
  |some x=>
   rw[hf]at hj hW;simp only[Option.map_some]at hj
   have jg:l++zI true 60 pos=W:=hW.symm
   simp[h4];refine dB [(3,10),(5,10),(6,10)] (by kernel_rfl) ?_
   simp[ho,ht,hj];refine cq (Ya true _) ?_;simp;refine zH (fun q:Nat=>q<=t.args.length) (fun q=>([.ptr (d+1) 3 0,.any,I pos]++(List.replicate 25 .any++[.p (.sl 3 (t.args.map Ty.enc)),I t.args.length,I q,.any,.any,.any,.any,.any,.any,.any,.any]))) (fun q=>[.cells [U t.kind,Sg t.name,.p (.sl 3 (t.args.map Ty.enc))] 35,.dead]::updK S d (F q)) (fun q=>t.args.length-q) 0 (Nat.zero_le _) ?_ ?_ ?_
   .simp
   .simp[mb,jg,h4]
   intro q Gj
   by_cases hlt:q<t.args.length
   .have aa:(q:Int)<(t.args.length:Int):=by omega
    have hw:=zA hlt
    have hx:=fun L=>(ih _ (List.getElem_mem hlt) (F q) (Fb q hlt)).at h L
    rw[<-Gb q hlt]at hx
    have ra:t.args.length-(q+1)<t.args.length-q:=by omega
    generalize he:t.args[q]=x at*
    simp[hlt,aa,he,zP];refine cq (hx _) ?_;simp;exact⟨q+1,hlt,ra,hw,rfl⟩
   have aa:¬(q:Int)<(t.args.length:Int):=by omega
   have Na:q=t.args.length:=by omega
   subst Na;simp
 rw[if_neg h4,List.append_nil]at hW
 have jg:l=W:=hW.symm
 simp[h4];refine zH (fun q:Nat=>q<=t.args.length) (fun q=>([.ptr (d+1) 3 0,.any,I pos]++(List.replicate 25 .any++[.p (.sl 3 (t.args.map Ty.enc)),I t.args.length,I q,.any,.any,.any,.any,.any,.any,.any,.any]))) (fun q=>[.cells [U t.kind,Sg t.name,.p (.sl 3 (t.args.map Ty.enc))] 35]::updK S d (F q)) (fun q=>t.args.length-q) 0 (Nat.zero_le _) ?_ ?_ ?_
 .simp
 .simp[mb,<-jg,hs]
 intro q Gj
 by_cases hlt:q<t.args.length
 .have aa:(q:Int)<(t.args.length:Int):=by omega
  have hw:=zA hlt
  have hx:=fun L=>(ih _ (List.getElem_mem hlt) (F q) (Fb q hlt)).at h L
  rw[<-Gb q hlt]at hx
  have ra:t.args.length-(q+1)<t.args.length-q:=by omega
  generalize he:t.args[q]=x at*
  simp[hlt,aa,he,zP];refine cq (hx _) ?_;simp;exact⟨q+1,hlt,ra,hw,rfl⟩
 have aa:¬(q:Int)<(t.args.length:Int):=by omega
 have Na:q=t.args.length:=by omega
 subst Na;simp
def FC(p:List It)(F:Nat)(args:List AV)(σ τ:Nf):Prop:=∀(S:ASt) (c:Cf),NAt p S c σ->ADet Tryz.prog F (.ptr c.d c.jF 0::args) S .un (updF S c τ)
theorem FC.at{σ σ1 σ2:Nf}(hw:FC p F args σ1 σ2){c:Cf}(h:NAt p S c σ)(L:List AObj):ADet Tryz.prog F (.ptr (c.d+1) c.jF 0::args) (L::updF S c σ1) .un (L::updF S c σ2):=by
 have:=hw _ _ ((h.updF σ1).cons L)
 rw[zAk,zCk h]at this;exact this
theorem FC.intro{σ τ:Nf}(hw:∀(S:ASt) (c:Cf),NAt p S c σ->ADet Tryz.prog F (.ptr c.d c.jF 0::args) (updF S c σ) .un (updF S c τ)):FC p F args σ τ:=fun S c h=>by
 have:=hw S c h
 rw[zAQ h]at this;exact this
theorem KC.inF{σ σ1:Nf}{l2:List Flt}(hw:KC p F args σ1.fl l2){c:Cf}(h:NAt p S c σ)(L:List AObj):ADet Tryz.prog F (.ptr (c.k+c.d+1) 3 0::args) (L::updF S c σ1) .un (L::updF S c ⟨σ1.made,σ1.count,σ1.opn,l2⟩):=by
 have a:=h.updF σ1
 have:=hw _ _ (a.k.cons L)
 rw[zF4,zIC a,zCk h]at this;exact this
theorem KC.inF0{σ:Nf}{l2:List Flt}(hw:KC p F args σ.fl l2){c:Cf}(h:NAt p S c σ)(L:List AObj):ADet Tryz.prog F (.ptr (c.k+c.d+1) 3 0::args) (L::S) .un (L::updF S c ⟨σ.made,σ.count,σ.opn,l2⟩):=by
 have:=hw.inF h L
 rw[zAQ h]at this;exact this
theorem zRP(p:List It)(s:BA)(pos:Int)(σ:Nf)(hl:σ.fl.length+1<=4294967296):FC p 92 [Sg s,I pos] σ (σ.add (zI (mIs σ.made s) 60 pos)):=fun S c h=>by
 have ho:=h.n
 have hm:=h.m
 simp only[fnO]at ho;simp only[mdO]at hm
 have Ya:=fun b L=>(zD8 p b 60 pos σ.fl hl).inF0 h L
 unfold Nf.add;refine ADet.intro mixed call92 func92 rfl ?_;simp[ntmps92];refine dB [] (by kernel_rfl) ?_
 rcases zDK s σ.made 0 with⟨h1,h2,h3⟩|⟨j,b,h1,h2,h3⟩
 .have hi:mIs σ.made s=false:=by unfold mIs;rw[h1];rfl
  simp[ho,hm,h2];refine cq (Ya false _) ?_;simp[hi]
 have hi:mIs σ.made s=b:=by unfold mIs;rw[h1];rfl
 simp[ho,hm,h2];refine cq (Ya b _) ?_;simp[hi]
def clo(c:Cf)(g:Fg):AV:=.fn (.func 133) [] [.bx [B g.2],.bx [.ptr c.d c.jF 0],.bx [Sg g.1]]
theorem zXF(p:List It)(g:Fg)(σ:Nf)(S:ASt)(c:Cf)(h:NAt p S c σ):zQE Tryz.prog 133 [.bx [B g.2],.bx [.ptr c.d c.jF 0],.bx [Sg g.1]] S (updF S c (σ.put g)):=by
 have ho:=h.n
 have hm:=h.m
 simp only[fnO]at ho;simp only[mdO]at hm
 have Hh:updF S c (σ.put g)=set2 S c.d c.jM (mdO (mPut σ.made g.1 g.2)):=by
  have hs:=zAQ h
  refine zDe (by rw[zEx,zAH]) fun d i=>?_
  rw[zBy h,zF _ h.m]
  have hne:=h.ne
  have e:=zBy h σ d i
  rw[hs]at e
  by_cases h1:d=c.d/\i=c.jF
  .rw[if_pos h1,if_neg (by omega)]
   rw[if_pos h1]at e;rw[e];rfl
  rw[if_neg h1]
  by_cases h2:d=c.d/\i=c.jM
  .rw[if_pos h2,if_pos h2];rfl
  rw[if_neg h2,if_neg h2]
  rw[if_neg h1,if_neg h2]at e;rw[e]
  show(if d=c.e/\i=3 then some (nlO σ.fl.length)else if d=c.e/\i=4 then some (rwO σ.fl)else _)=_
  repeat' (first|rfl|split)
 rw[Hh];refine zQE.intro mixed call133 func133 rfl rfl ?_;simp[ntmps133];refine dB [] (by kernel_rfl) ?_
 rcases zDK g.1 σ.made 0 with⟨h1,h2,h3⟩|⟨j,b,h1,h2,h3⟩
 .simp[ho,hm,h2,zJW]
  rw[h3];simp[mdO,mdE]
 simp[ho,hm,h2,zJW]
 rw[mdO,h3]
theorem zZV(p:List It)(s:BA)(pos:Int)(σ:Nf)(hl:σ.fl.length+1<=4294967296)(hc:σ.count<4294967296)(S:ASt)(c:Cf)(h:NAt p S c σ):ADet Tryz.prog 90 [.ptr c.d c.jF 0,Sg s,I pos] S (clo c (s,mIs σ.made s)) (updF S c (σ.mk1 s pos)):=by
 have ho:=h.n
 have hm:=h.m
 have Ya:=fun b L=>(zD8 p b 60 pos σ.fl hl).inF0 h L
 have e1:=zIC h (σ.fl++zI (mGet σ.made s).isNone 60 pos)
 have hA:=h.updF ⟨σ.made,σ.count,σ.opn,σ.fl++zI (mGet σ.made s).isNone 60 pos⟩
 have wa:=hA.n
 have yp:=hA.m
 have Bc:set2 (set2 (updF S c ⟨σ.made,σ.count,σ.opn,σ.fl++zI (mGet σ.made s).isNone 60 pos⟩) c.d c.jM (mdO (mPut σ.made s true))) c.d c.jF (fnO c ⟨mPut σ.made s true,σ.count+1,σ.opn,σ.fl++zI (mGet σ.made s).isNone 60 pos⟩)=updF S c (σ.mk1 s pos):=by
  rw[<-e1];rfl
 generalize hT:updF S c ⟨σ.made,σ.count,σ.opn,σ.fl++zI (mGet σ.made s).isNone 60 pos⟩=T at*
 have n1:=fun o=>zBq T c.d (i:=c.jM) (j:=c.jF) o (fun e=>h.ne e.symm)
 simp only[fnO]at ho wa;simp only[mdO]at hm yp
 have Xq:IntKind.i64.wrap ((σ.count:Int)+1)=((σ.count+1:Nat):Int):=zA (n:=4294967296) hc (by unfold maxLen;omega)
 refine ADet.introFz [(2,[B (mIs σ.made s)],94),(0,[.ptr (c.d+1) c.jF 0],91),(1,[Sg s],9)] mixed call90 func90 rfl ?_;simp[ntmps90];refine dB [(0,9),(3,9),(4,9),(5,9)] (by kernel_rfl) ?_
 rcases zDK s σ.made 0 with⟨h1,h2,h3⟩|⟨j,b,h1,h2,h3⟩
 .have hi:mIs σ.made s=false:=by unfold mIs;rw[h1];rfl
  simp only[h1,Option.isNone_none]at hT;simp[ho,hm,h2];refine cq (Ya true _) ?_;simp;rw[hT];refine dB [] (by kernel_rfl) ?_
  rw[h3]at Bc;simp[wa,yp,h2,n1,Xq,zOI,FzOk,AV.fz,AV.fzs,clo,hi,zAi]
  simpa [mdO,fnO,mdE]using Bc
 have hi:mIs σ.made s=b:=by unfold mIs;rw[h1];rfl
 simp[ho,hm,h2];refine cq (Ya false _) ?_;simp;simp only[h1,Option.isNone_some]at hT;rw[hT];refine dB [] (by kernel_rfl) ?_
 simp only[mdO]at Bc;rw[h3]at Bc;simp[wa,yp,h2,n1,Xq,zOI,FzOk,AV.fz,AV.fzs,clo,hi,zAi]
 simpa [fnO]using Bc
end Go.Proofs.YtgpajpilkapciaaGreatDoor
namespace Go.Proofs.YtgpajpilkapciaaGreatDoor
open Go.RowKit _root_.Go.Proofs.Tryz
attribute [local simp] List.replicate List.range List.range.loop
theorem zLK(S:ASt)(L:List AObj)(d:Nat):ADet Tryz.prog 30 [.ptr d 3 0] (L::S) (.ptr 0 (L.length+1) 0) ((L++[.map [],.cells [.ptr d 3 0,.mp 0 L.length,I 0,I 0] 97])::S):=by
 refine ADet.flat mixed call30 func30 rfl ?_;simp[ntmps30]
abbrev fiZ1:AV:=.agg [Sg emS,U 0,Sg emS,nilS]
def zHB(l:List Fi)(s:BA):AV:=match zBj l s with|some v=>.tup [fiV v,B true]|none=>.tup [fiZ1,B false]
theorem zLL{l:List Fi}{s:BA}(h:∀i (hi:i<l.length),sEq l[i].name s=false):zBj l s=none:=by
 unfold zBj;rw[List.find?_eq_none];intro x hx
 obtain⟨i,hi,rfl⟩:=List.getElem_of_mem hx
 rw[h i hi];simp
theorem zLM{l:List Fi}{s:BA}{q:Nat}(h:∀i (hi:i<l.length),i<q->sEq l[i].name s=false)(hq:q<l.length)(hp:sEq l[q].name s=true):zBj l s=some l[q]:=by
 unfold zBj;rw[List.find?_eq_some_iff_getElem];exact⟨hp,q,hq,rfl,fun j hj=>by rw[h j (by omega) hj];rfl⟩
theorem zJ0(x:It)(s:BA)(S:ASt):ADet Tryz.prog 96 [itV x,Sg s] S (zHB x.fields s) S:=by
 refine ADet.okA call96 0 2 rfl rfl fun na=>?_
 have ca:=okl na
 unfold zHB;refine ADet.intro mixed call96 func96 rfl ?_;simp[ntmps96];refine zH (fun q:Nat=>q<=x.fields.length/\∀i (hi:i<x.fields.length),i<q->sEq x.fields[i].name s=false) (fun q=>[.any,Sg s,.ptr 0 0 0,.any,.ptr 0 1 0,.any,.any,.any,.any,.p (.sl 4 (x.fields.map Fi.enc)),I x.fields.length,I q,.any,.any,.any,.any,.any,.any,.any,.any,.any,.any]) (fun q=>[.cells (itU x) 44,.cells [Sg emS,U 0,Sg emS,nilS] 79]::S) (fun q=>x.fields.length-q) 0 ⟨Nat.zero_le _,fun i hi h=>by omega⟩ ?_ ?_ ?_
 .simp
 .simp
 rintro q ⟨hq,ja⟩
 by_cases hlt:q<x.fields.length
 .have aa:(q:Int)<(x.fields.length:Int):=by omega
  have hw:=zA hlt
  have hs:=zLM ja hlt
  generalize hf:x.fields[q]=f at*
  cases hp:sEq f.name s with
  |true=>
   have hs:=hs hp
   simp[hlt,aa,hf,Fi.enc,hp,hs]
  |false=>
   simp[hlt,aa,hf,Fi.enc,hp]
   exact⟨q+1,⟨hlt,fun i hi h=>by
    rcases Nat.lt_or_ge i q with h'|h'
    .exact ja i hi h'
    obtain rfl:i=q:=by omega
    rw[hf];exact hp⟩,by omega,hw⟩
 have aa:¬(q:Int)<(x.fields.length:Int):=by omega
 have hs:=zLL fun i hi=>ja i hi (by omega)
 simp[aa,hs]
def zFx:List (BA × Nat)->BA->List (BA × Nat)
 | [],s=>[(s,1)]
 |e::m,s=>if sEq s e.1=true then(s,e.2+1)::m else e::zFx m s
def zFy:List (BA × Nat)->BA->Nat
 | [],_=>0
 |e::m,s=>if sEq s e.1=true then e.2 else zFy m s
def ctE(m:List (BA × Nat)):List (Value × AV):=m.map fun e=>(.string e.1,I e.2)
def metC(l:List BA):List (BA × Nat):=l.foldl zFx []
theorem zGT(m:List (BA × Nat))(s t:BA):zFy (zFx m s) t=zFy m t+if sEq s t=true then 1 else 0:=by
 induction m with
 |nil=>
  simp only[zFx,zFy]
  rw[show sEq t s=sEq s t by
   by_cases h:t=s
   .subst h;rfl
   rw[zDW h,zDW fun e=>h e.symm]]
  split<;>rfl
 |cons e m ih=>
  unfold zFx
  by_cases h:sEq s e.1=true
  .rw[if_pos h]
   have:=zB3.1 h
   subst this;unfold zFy
   by_cases ht:t=e.1
   .subst ht;simp
   rw[if_neg (by rw[zDW ht];simp),if_neg (by rw[zDW ht];simp),if_neg (by rw[zDW fun e=>ht e.symm];simp),Nat.add_zero]
  rw[if_neg h]
  unfold zFy
  by_cases ht:sEq t e.1=true
  .rw[if_pos ht,if_pos ht]
   have:=zB3.1 ht
   subst this;rw[if_neg h,Nat.add_zero]
  rw[if_neg ht,if_neg ht,ih]
theorem zJ1(l:List BA)(s:BA):zFy (metC l) s=cntN l s:=by
 have key:∀(l:List BA) (m:List (BA × Nat)),zFy (l.foldl zFx m) s=zFy m s+cntN l s:=by
  intro l
  induction l with
  |nil=>intro m;simp[cntN]
  |cons x l ih=>
   intro m;rw[List.foldl_cons,ih,zGT];unfold cntN;rw[List.countP_cons];omega
 unfold metC;rw[key];simp[zFy]
theorem zLN(l:List BA)(s:BA):metC (l++[s])=zFx (metC l) s:=by unfold metC;rw[List.foldl_append];rfl
theorem zEu(s:BA):∀(m:List (BA × Nat)) (i:Nat),(zFy m s=0/\zA0 .string (.string s) (ctE m) i=some none/\ctE (zFx m s)=ctE m++[(.string s,I 1)])\/∃j,zA0 .string (.string s) (ctE m) i=some (some (i+j,I (zFy m s)))/\ctE (zFx m s)=(ctE m).set j (.string s,I (zFy m s+1:Nat))
 | [],i=>.inl ⟨rfl,rfl,rfl⟩
 |e::m,i=>by
  have hd:ctE (e::m)=(.string e.1,I e.2)::ctE m:=rfl
  rw[hd,zDr,zFy,zFx]
  by_cases h:sEq s e.1=true
  .rw[if_pos h,if_pos h,if_pos h]
   exact .inr ⟨0,rfl,rfl⟩
  rw[if_neg h,if_neg h,if_neg h]
  rcases zEu s m (i+1)with⟨h1,h2,h3⟩|⟨j,h2,h3⟩
  .exact .inl ⟨h1,h2,by show(.string e.1,I e.2)::ctE (zFx m s)=_;rw[h3];rfl⟩
  refine .inr ⟨j+1,by rw[h2];congr 2;simp;omega,?_⟩
  show(.string e.1,I e.2)::ctE (zFx m s)=_
  rw[h3];rfl
theorem zI6(n:Nat)(m:List (BA × Nat)):(ctE m).map (fun kv=>(kv.1,AV.cut n kv.2))=ctE m:=by
 unfold ctE;rw[List.map_map];rfl
theorem zRQ(l:List BA)(s:BA):cntN l s<=l.length:=List.countP_le_length
abbrev arsV(l:List Ar):AV:=.p (.sl 3 (l.map Ar.enc))
def arVn(a:Ar):BA:=a.variant
theorem zH3(x:It):∀(l:List Fg) (met:List BA) (k:List Fg),zE0 x met (l++k)=(zE0 x met l&&zE0 x (met++l.map (·.1)) k)
 | [],met,k=>by simp[zE0]
 |b::l,met,k=>by
  show zE0 x met (b::(l++k))=_
  have e1:zE0 x met (b::(l++k))=((match zBj x.fields b.1 with|some v=>(b.2==decide (v.type.kind≠0))|none=>false)&&(decide (cntN met b.1=0)&&zE0 x (met++[b.1]) (l++k))):=rfl
  have e2:zE0 x met (b::l)=((match zBj x.fields b.1 with|some v=>(b.2==decide (v.type.kind≠0))|none=>false)&&(decide (cntN met b.1=0)&&zE0 x (met++[b.1]) l)):=rfl
  rw[e1,e2,zH3 x l (met++[b.1]) k];simp only[List.map_cons,List.append_assoc,List.singleton_append];rw[Bool.and_assoc,Bool.and_assoc]
def zXG(x:It)(met:List BA)(a:Ar):Bool:=(match zBj x.fields a.variant with|some v=>(!sEq a.name emS)==decide (v.type.kind≠0)|none=>false)&&decide (cntN met a.variant=0)
theorem zLO(x:It)(l:List Ar){q:Nat}(h:q<l.length)(ja:zE0 x [] ((l.take q).map armF)=true):zE0 x [] ((l.take (q+1)).map armF)=zXG x ((l.take q).map arVn) l[q]:=by
 rw[List.take_succ_eq_append_getElem h,List.map_append,zH3,ja,Bool.true_and,List.nil_append,List.map_map];simp only[List.map_cons,List.map_nil,zE0,Bool.and_true];rfl
theorem zRR(x:It)(l:List Ar){q:Nat}(h:q<l.length)(ja:zE0 x [] ((l.take q).map armF)=true)(Mb:zXG x ((l.take q).map arVn) l[q]=false):zFI x (l.map armF)=false:=by
 have e:=zLO x l h ja
 rw[Mb]at e
 have:l.map armF=(l.take (q+1)).map armF++(l.drop (q+1)).map armF:=by rw[<-List.map_append,List.take_append_drop]
 unfold zFI;rw[this,zH3,e];rfl
theorem zXH(x:It)(l:List Ar)(hl:l.length<=20000)(hx:x.fields.length<=20000)(S:ASt):ADet Tryz.prog 134 [itV x,arsV l] S (B (zFI x (l.map armF))) S:=by
 refine ADet.intro mixed call134 func134 rfl ?_;simp[ntmps134];refine zH (fun q:Nat=>q<=l.length/\zE0 x [] ((l.take q).map armF)=true) (fun q=>([.any,arsV l,.ptr 0 0 0,.any,.any,.mp 0 1,.any,.any,.any,.any,.any,.any,.any,arsV l,I l.length,I q]++List.replicate 48 .any)) (fun q=>[.cells (itU x) 44,.map (ctE (metC ((l.take q).map arVn)))]::S) (fun q=>l.length-q) 0 ⟨Nat.zero_le _,rfl⟩ ?_ ?_ ?_
 .simp
 .simp[metC,ctE]
 rintro q ⟨hq,ja⟩
 by_cases hlt:q<l.length
 .have aa:(q:Int)<(l.length:Int):=by omega
  have hw:=zA hlt (by unfold maxLen;omega)
  have Ye:(l.take (q+1)).map arVn=(l.take q).map arVn++[l[q].variant]:=by rw[List.take_succ_eq_append_getElem hlt,List.map_append];rfl
  have Aa:=zLO x l hlt ja
  have Mb:=zRR x l hlt ja
  have ej:=zJ1 ((l.take q).map arVn) l[q].variant
  have Ab:=zRQ ((l.take q).map arVn) l[q].variant
  have Pi:=zLN ((l.take q).map arVn) l[q].variant
  rw[List.length_map,List.length_take,Nat.min_eq_left hq]at Ab
  have Em:=fun S=>zJ0 x l[q].variant S
  have ab:=zEu l[q].variant (metC ((l.take q).map arVn)) 0
  have de:=zEu l[q].variant (zFx (metC ((l.take q).map arVn)) l[q].variant) 0
  rw[ej]at ab;rw[zGT,ej]at de;simp only[sEq_self,if_true]at de;rw[<-Pi,<-Ye]at de;unfold zXG at Aa Mb;unfold zHB at Em
  generalize hn:cntN ((l.take q).map arVn) l[q].variant=n at*
  have Ee:IntKind.i64.wrap ((n:Int)+1)=((n+1:Nat):Int):=zA (n:=4294967296) (by omega) (by unfold maxLen;omega)
  rw[<-Ye]at Pi
  have ra:l.length-(q+1)<l.length-q:=by omega
  have nb:∃j1,zA0 .string (.string l[q].variant) (ctE (metC ((l.take (q+1)).map arVn))) 0=some (some (j1,I (n+1:Nat))):=by
   rcases de with⟨h1,_,_⟩|⟨j,h1,_⟩
   .omega
   exact⟨_,h1⟩
  obtain⟨j1,nb⟩:=nb
  clear de;rw[<-Pi]at ab
  generalize ng:metC ((l.take (q+1)).map arVn)=m1 at*
  generalize sk:metC ((l.take q).map arVn)=m0 at*
  generalize ha:l[q]=a at*
  simp[hlt,aa,ha,Ar.enc];refine cq (Em _) ?_
  have rn:(1<(n:Int)+1)=(0<n):=by rw[eq_iff_iff];omega
  rcases ab with⟨h1,h2,h3⟩|⟨j,h2,h3⟩
  .have rd:n=0:=by omega
   have Hd:IntKind.i64.wrap 1=1:=rfl
   have yb:ctE m0++[(.string a.variant,I 1)]=ctE m1:=h3.symm
   cases hvf:zBj x.fields a.variant with
   |none=>
    rw[hvf]at Aa Mb;simp[h2,yb,nb,Hd,hvf]
    exact Mb rfl
   |some v=>
    rw[hvf]at Aa Mb;simp only at Aa Mb
    by_cases hn0:n=0
    .subst hn0
     cases hs:sEq a.name emS with
     |true=>
      by_cases hz:v.type.kind=0
      .have hz':(v.type.kind !=0)=false:=by simpa using hz
       simp[h2,yb,nb,Hd,hvf,hs,hz,hz'];exact⟨q+1,⟨hlt,by rw[<-List.map_take,Aa,hs,hz];rfl⟩,ra,hw,by rw[zI6,<-List.map_take,ng]⟩
      have hz':(v.type.kind !=0)=true:=by simpa using hz
      simp[h2,yb,nb,Hd,hvf,hs,hz']
      exact Mb (by rw[hs];simp[hz])
     |false=>
      by_cases hz:v.type.kind=0
      .have hz':(v.type.kind !=0)=false:=by simpa using hz
       simp[h2,yb,nb,Hd,hvf,hs,hz'];exact Mb (by rw[hs];simp[hz])
      have hz':(v.type.kind !=0)=true:=by simpa using hz
      simp[h2,yb,nb,Hd,hvf,hs,hz,hz'];exact⟨q+1,⟨hlt,by rw[<-List.map_take,Aa,hs];simp[hz]⟩,ra,hw,by rw[zI6,<-List.map_take,ng]⟩
    have vc:(0<n):=by omega
    have hn2:(1:Int)<(n:Int)+1:=by omega
    have Mb:=Mb (by simp[hn0])
    cases hs:sEq a.name emS with
    |true=>
     by_cases hz:v.type.kind=0
     .have hz':(v.type.kind !=0)=false:=by simpa using hz
      simp[h2,yb,nb,Hd,hvf,hs,hz',hn0,vc,hn2,Mb]
     have hz':(v.type.kind !=0)=true:=by simpa using hz
     simp[h2,yb,nb,Hd,hvf,hs,hz',hn0,vc,hn2,Mb]
    |false=>
     by_cases hz:v.type.kind=0
     .have hz':(v.type.kind !=0)=false:=by simpa using hz
      simp[h2,yb,nb,Hd,hvf,hs,hz',hn0,vc,hn2,Mb]
     have hz':(v.type.kind !=0)=true:=by simpa using hz
     simp[h2,yb,nb,Hd,hvf,hs,hz',hn0,vc,hn2,Mb]
  have yb:(ctE m0).set j (.string a.variant,I ((n:Int)+1))=ctE m1:=h3.symm
  cases hvf:zBj x.fields a.variant with
  |none=>
   rw[hvf]at Aa Mb;simp[h2,yb,nb,Ee,hvf]
   exact Mb rfl
  |some v=>
   rw[hvf]at Aa Mb;simp only at Aa Mb
   by_cases hn0:n=0
   .subst hn0
    have yb:(ctE m0).set j (.string a.variant,I 1)=ctE m1:=by simpa using yb
    have nb:zA0 .string (.string a.variant) (ctE m1) 0=some (some (j1,I 1)):=by simpa using nb
    have Hd:IntKind.i64.wrap 1=1:=rfl
    cases hs:sEq a.name emS with
    |true=>
     by_cases hz:v.type.kind=0
     .have hz':(v.type.kind !=0)=false:=by simpa using hz
      simp[h2,yb,nb,Hd,hvf,hs,hz,hz'];exact⟨q+1,⟨hlt,by rw[<-List.map_take,Aa,hs,hz];rfl⟩,ra,hw,by rw[zI6,<-List.map_take,ng]⟩
     have hz':(v.type.kind !=0)=true:=by simpa using hz
     simp[h2,yb,nb,Hd,hvf,hs,hz']
     exact Mb (by rw[hs];simp[hz])
    |false=>
     by_cases hz:v.type.kind=0
     .have hz':(v.type.kind !=0)=false:=by simpa using hz
      simp[h2,yb,nb,Hd,hvf,hs,hz'];exact Mb (by rw[hs];simp[hz])
     have hz':(v.type.kind !=0)=true:=by simpa using hz
     simp[h2,yb,nb,Hd,hvf,hs,hz,hz'];exact⟨q+1,⟨hlt,by rw[<-List.map_take,Aa,hs];simp[hz]⟩,ra,hw,by rw[zI6,<-List.map_take,ng]⟩
   have vc:(0<n):=by omega
   have hn2:(1:Int)<(n:Int)+1:=by omega
   have Mb:=Mb (by simp[hn0])
   cases hs:sEq a.name emS with
   |true=>
    by_cases hz:v.type.kind=0
    .have hz':(v.type.kind !=0)=false:=by simpa using hz
     simp[h2,yb,nb,Ee,hvf,hs,hz',hn0,vc,hn2,Mb]
    have hz':(v.type.kind !=0)=true:=by simpa using hz
    simp[h2,yb,nb,Ee,hvf,hs,hz',hn0,vc,hn2,Mb]
   |false=>
    by_cases hz:v.type.kind=0
    .have hz':(v.type.kind !=0)=false:=by simpa using hz
     simp[h2,yb,nb,Ee,hvf,hs,hz',hn0,vc,hn2,Mb]
    have hz':(v.type.kind !=0)=true:=by simpa using hz
    simp[h2,yb,nb,Ee,hvf,hs,hz',hn0,vc,hn2,Mb]
 have aa:¬(q:Int)<(l.length:Int):=by omega
 have Na:q=l.length:=by omega
 subst Na;rw[List.take_length]at ja;simp;clear hlt aa hq
 have Zt:(l.map armF).map (·.1)=l.map arVn:=by rw[List.map_map];rfl
 have Ap:zFI x (l.map armF)=x.fields.all fun v=>decide (0<cntN (l.map arVn) v.name):=by
  unfold zFI;rw[ja,Bool.true_and,Zt]
 have Fm:x.fields.length<=maxLen:=by unfold maxLen;omega
 rw[Ap];refine zH (fun q:Nat=>q<=x.fields.length/\∀i (hi:i<x.fields.length),i<q->0<cntN (l.map arVn) x.fields[i].name) (fun q=>([.any,.any,.ptr 0 0 0,.any,.any,.mp 0 1]++(List.replicate 46 .any++[.p (.sl 4 (x.fields.map Fi.enc)),I x.fields.length,I q,.any,.any,.any,.any,.any,.any,.any,.any,.any]))) (fun q=>[.cells (itU x) 44,.map (ctE (metC (l.map arVn)))]::S) (fun q=>x.fields.length-q) 0 ⟨Nat.zero_le _,fun i hi h=>by omega⟩ ?_ ?_ ?_
 .simp
 .simp
 rintro q ⟨hq,Xd⟩
 by_cases hlt:q<x.fields.length
 .have aa:(q:Int)<(x.fields.length:Int):=by omega
  have hw:=zA hlt Fm
  have ej:=zJ1 (l.map arVn) x.fields[q].name
  have ab:=zEu x.fields[q].name (metC (l.map arVn)) 0
  rw[ej]at ab
  have Mb:cntN (l.map arVn) x.fields[q].name=0->(x.fields.all fun v=>decide (0<cntN (l.map arVn) v.name))=false:=fun h0=>by
   rw[List.all_eq_false];exact⟨_,List.getElem_mem hlt,by rw[h0];simp⟩
  have ra:x.fields.length-(q+1)<x.fields.length-q:=by omega
  have Aa:∀n,n=cntN (l.map arVn) x.fields[q].name->0<n->∀i (hi:i<x.fields.length),i<q+1->0<cntN (l.map arVn) x.fields[i].name:=fun n hn h0 i hi Dg=>by
   rcases Nat.lt_or_ge i q with h'|h'
   .exact Xd i hi h'
   obtain rfl:i=q:=by omega
   rw[<-hn];exact h0
  generalize hn:cntN (l.map arVn) x.fields[q].name=n at*
  generalize Eg:x.fields[q]=f at*
  generalize (x.fields.all fun v=>decide (0<cntN (l.map arVn) v.name))=R at*
  rcases ab with⟨h1,h2,h3⟩|⟨j,h2,h3⟩
  .have hR:=Mb h1
   simp[hlt,aa,Eg,Fi.enc,h2,hR]
  by_cases h0:n=0
  .have hR:=Mb h0
   subst h0;simp[hlt,aa,Eg,Fi.enc,h2,hR]
  have hz:((n:Int)==0)=false:=by simpa using h0
  simp[hlt,aa,Eg,Fi.enc,h2,h0,hz];exact⟨q+1,⟨hlt,Aa n rfl (by omega)⟩,ra,hw,by rw[zI6]⟩
 have aa:¬(q:Int)<(x.fields.length:Int):=by omega
 have hR:(x.fields.all fun v=>decide (0<cntN (l.map arVn) v.name))=true:=by
  rw[List.all_eq_true];intro v hv
  obtain⟨i,hi,rfl⟩:=List.getElem_of_mem hv
  simpa using Xd i hi (by omega)
 rw[hR];simp[aa]
attribute [local simp] zf za zn zb List.forall_mem_cons List.contains_cons List.contains_nil List.find? zm zl zZ
theorem zNe:∀(fs:List Fi) (ss:List BA),fs.length=ss.length->(litB fs ss=true ↔ ∀i (h1:i<fs.length) (h2:i<ss.length),sEq fs[i].name ss[i]=true)
 | [],[],_=>by simp[litB]
 |f::fs,s::ss,h=>by
  have ih:=zNe fs ss (by simpa using h)
  unfold litB;rw[Bool.and_eq_true,ih];constructor
  .rintro⟨h1,h2⟩ i i1 i2
   cases i with
   |zero=>exact h1
   |succ i=>exact h2 i (by simpa using i1) (by simpa using i2)
  intro ja
  exact⟨ja 0 (by simp) (by simp),fun i i1 i2=>ja (i+1) (by simpa using i1) (by simpa using i2)⟩
 | [],_::_,h=>by simp at h
 |_::_,[],h=>by simp at h
theorem zXI(p:List It)(e:Ex)(h19:¬e.op=19)(σ:Nf)(S:ASt)(c:Cf)(h:NAt p S c σ):ADet Tryz.prog 55 [.ptr c.d c.jF 0,exV e] S (B (zE6 p σ.made e.op e.name e.u4 e.place e.args.length)) S:=by
 refine ADet.okA call55 1 6 rfl rfl fun na=>?_
 have ca:=okl na
 have ho:=h.n
 have hm:=h.m
 have ht:=h.k.t
 have hf:=h.k.f
 have hl:=h.k.l
 simp only[fnO]at ho;simp only[mdO]at hm;simp only[nlO,Cf.e]at hl;simp only[Cf.e]at ht hf
 have xf:∀L:List AObj,get2 (L::S) (c.k+(c.d+1)) 3=some (.cells [.mp 0 1,.mp 0 2,.rsl 0 4 σ.fl.length 2] 85):=fun L=>hl
 have Oj:∀L:List AObj,get2 (L::S) (c.k+(c.d+1)) 2=some (.map (itE (zAE p true p.length))):=fun L=>hf
 unfold zE6
 have Gm:=fun k=>zI5 p k e.name σ.fl S _ h.k
 have kd:=fun k L=>zI5 p k e.name σ.fl (L::S) _ (h.k.cons L)
 simp only[Cf.e]at kd;unfold zO1 at kd;refine ADet.intro mixed call55 func55 rfl ?_
 by_cases nh:e.op=18
 .obtain⟨j,hj⟩:=zNo p e.name
  simp[ntmps55,nh];refine dB [(3,13),(6,13),(8,13),(9,13)] (by kernel_rfl) ?_
  cases Pc:fnIt p e.name with
  |none=>
   rw[Pc]at hj;simp only[Option.map_none]at hj
   simp[ho,xf,Oj,hj]
  |some x=>
   rw[Pc]at hj;simp only[Option.map_some]at hj;simp[ho,xf,Oj,hj];rw[Bool.eq_iff_iff,beq_iff_eq,decide_eq_true_eq];omega
 have au:(e.op==18)=false:=by simpa using nh
 by_cases h20:e.op=20
 .have Em:=fun x S=>zJ0 x e.u4 S
  have bu:∀S,ADet Tryz.prog 96 [itZ1,Sg e.u4] S (.tup [fiZ1,B false]) S:=fun S=>ADet.sub (by repeat' constructor) (zJ0 ⟨0,emS,[],.mk 0 emS [],[],.mk 0 0 emS emS ⟨emS,[]⟩ [] 0,0⟩ e.u4 S)
  unfold zHB at Em;simp[ntmps55,h20];refine zCe [(10,11,7)] [] (by kernel_rfl) (by kernel_rfl) (by kernel_rfl) (by simp) ?_
  cases Pc:zU p e.name with
  |none=>
   rw[Pc]at kd;simp[ho];refine cq (kd 2 _) ?_;simp;refine cq (bu _) ?_
   simp
  |some x=>
   rw[Pc]at kd;simp[ho];refine cq (kd 2 _) ?_;simp;refine cq (Em _ _) ?_
   cases hvf:zBj x.fields e.u4 with
   |none=>
    by_cases hk:x.kind=2
    .simp[hk]
    simp[hk]
   |some v=>
    by_cases hk:x.kind=2
    .simp[hk]
     by_cases hz:v.type.kind=0
     .simp[hz]
     have hz':(v.type.kind !=0)=true:=by simpa using hz
     simp[hz,hz']
    simp[hk]
 have cu:(e.op==20)=false:=by simpa using h20
 have du:(e.op==19)=false:=by simpa using h19
 simp[ntmps55,nh,h20,h19,au,cu,du];refine dB [] (by kernel_rfl) ?_
 cases hs:sEq e.place.name emS with
 |true=>simp[hs]
 |false=>
  rcases zDK e.place.name σ.made 0 with⟨h1,h2,h3⟩|⟨j,b,h1,h2,h3⟩
  .have hi:mIs σ.made e.place.name=false:=by unfold mIs;rw[h1];rfl
   simp[hs,ho,hm,h2,hi]
  have hi:mIs σ.made e.place.name=b:=by unfold mIs;rw[h1];rfl
  simp[hs,ho,hm,h2,hi]
theorem zXJ(p:List It)(e:Ex)(h19:e.op=19)(Ua:e.place.path.length=e.args.length)(σ:Nf)(S:ASt)(c:Cf)(h:NAt p S c σ):ADet Tryz.prog 55 [.ptr c.d c.jF 0,exV e] S (B (zE6 p σ.made e.op e.name e.u4 e.place e.args.length)) S:=by
 refine ADet.okA call55 1 6 rfl rfl fun na=>?_
 have ca:=okl na
 have ho:=h.n
 have hm:=h.m
 have ht:=h.k.t
 have hf:=h.k.f
 have hl:=h.k.l
 simp only[fnO]at ho;simp only[mdO]at hm;simp only[nlO,Cf.e]at hl;simp only[Cf.e]at ht hf
 have xf:∀L:List AObj,get2 (L::S) (c.k+(c.d+1)) 3=some (.cells [.mp 0 1,.mp 0 2,.rsl 0 4 σ.fl.length 2] 85):=fun L=>hl
 have Oj:∀L:List AObj,get2 (L::S) (c.k+(c.d+1)) 2=some (.map (itE (zAE p true p.length))):=fun L=>hf
 unfold zE6
 have Gm:=fun k=>zI5 p k e.name σ.fl S _ h.k
 have kd:=fun k L=>zI5 p k e.name σ.fl (L::S) _ (h.k.cons L)
 simp only[Cf.e]at kd;unfold zO1 at kd;refine ADet.intro mixed call55 func55 rfl ?_;simp[ntmps55,h19];refine zCe [(10,11,11)] [] (by kernel_rfl) (by kernel_rfl) (by kernel_rfl) (by simp) ?_
 cases Pc:zU p e.name with
 |none=>
  rw[Pc]at kd;simp[ho];refine cq (kd 1 _) ?_;simp;refine zH (fun q:Nat=>q=0) (fun q=>([.ptr (c.d+1) c.jF 0,.any,.any,.ptr 0 0 0,.any,.any,.any,.any,.any,.any,.any,.any,B false,I q]++List.replicate 122 .any)) (fun q=>[.cells [U e.op,I e.int,Sg e.name,Sg e.u4,Sg e.place.name,.p (strs e.place.path),.p (.sl 8 (e.args.map Ex.enc)),I e.pos] 42,.dead]::S) (fun q=>0) 0 rfl ?_ ?_ ?_
  .simp
  .simp[h19]
  rintro q rfl
  by_cases hz:0<e.args.length
  .simp[hz]
  simp[hz]
 |some x=>
  rw[Pc]at kd;simp[ho];refine cq (kd 1 _) ?_
  by_cases hk:x.kind=1
  .by_cases hn:x.fields.length=e.args.length
   .simp[hk,hn]
    have Bp:e.place.path.length=x.fields.length:=by omega
    have eu:x.fields.length<=maxLen:=by rw[hn];exact ca
    obtain⟨R,hR⟩:∃R,R=litB x.fields e.place.path:=⟨_,rfl⟩
    have Nk:=zNe x.fields e.place.path Bp.symm
    rw[<-hR]at Nk;refine zH (fun y:Nat × Bool=>y.1<=x.fields.length/\(y.2=true->∀i (h1:i<x.fields.length) (h2:i<e.place.path.length),i<y.1->sEq x.fields[i].name e.place.path[i]=true)/\(y.2=false->R=false)) (fun y=>([.ptr (c.d+1) c.jF 0,.any,.any,.ptr 0 0 0,.any,.any,.any,.any,.any,.any,.any,.ptr 0 1 0,B y.2,I y.1]++List.replicate 122 .any)) (fun y=>[.cells [U e.op,I e.int,Sg e.name,Sg e.u4,Sg e.place.name,.p (strs e.place.path),.p (.sl 8 (e.args.map Ex.enc)),I e.pos] 42,.cells (itU x) 44]::S) (fun y=>x.fields.length-y.1) (0,true) ⟨Nat.zero_le _,fun _ i _ _ h=>absurd h (by simp),fun h=>by cases h⟩ ?_ ?_ ?_
    .simp
    .simp[h19,hk]
    rintro⟨q,b⟩ ⟨hq,Cp,Pf⟩
    simp only at hq Cp Pf
    by_cases hlt:q<x.fields.length
    .have aa:(q:Int)<(e.args.length:Int):=by omega
     cases b with
     |false=>
      have Dp:=Pf rfl
      simp[aa,<-hR,Dp]
     |true=>
      have hw:=zA hlt eu
      have pm:q<e.place.path.length:=by omega
      simp[aa];refine dB [] (by kernel_rfl) ?_
      have ra:x.fields.length-(q+1)<x.fields.length-q:=by omega
      have Ra:∀b',sEq x.fields[q].name e.place.path[q]=b'->(b'=true->∀i (h1:i<x.fields.length) (h2:i<e.place.path.length),i<q+1->sEq x.fields[i].name e.place.path[i]=true)/\(b'=false->R=false):=fun b' hb=>by
       refine⟨fun Gf i h1 h2 hi=>?_,fun Gf=>?_⟩
       .rcases Nat.lt_or_ge i q with h'|h'
        .exact Cp rfl i h1 h2 h'
        obtain rfl:i=q:=by omega
        rw[hb,Gf]
       cases hRR:R with
       |false=>rfl
       |true=>
        have:=Nk.1 hRR q hlt pm
        rw[hb,Gf]at this;cases this
      generalize Eg:x.fields[q]=f at*
      generalize On:e.place.path[q]=s at*
      simp[hlt,pm,Eg,On,Fi.enc,strs]
      by_cases hb:sEq f.name s=true
      .exact⟨q+1,.inr ⟨⟨hlt,(Ra true hb).1 rfl⟩,ra,hb,hw⟩⟩
      have Gf:sEq f.name s=false:=by simpa using hb
      exact⟨q+1,.inl ⟨⟨hlt,(Ra false Gf).2 rfl⟩,ra,Gf,hw⟩⟩
    have aa:¬(q:Int)<(e.args.length:Int):=by omega
    cases b with
    |false=>
     have Dp:=Pf rfl
     simp[aa,<-hR,Dp]
    |true=>
     have fu:R=true:=Nk.2 fun i h1 h2=>Cp rfl i h1 h2 (by omega)
     simp[aa,<-hR,fu]
   have gn:((x.fields.length:Int)==(e.args.length:Int))=false:=by simpa using fun h=>hn (by omega)
   simp[hk,hn,gn];refine zH (fun q:Nat=>q=0) (fun q=>([.ptr (c.d+1) c.jF 0,.any,.any,.ptr 0 0 0,.any,.any,.any,.any,.any,.any,.any,.any,B false,I q]++List.replicate 122 .any)) (fun q=>[.cells [U e.op,I e.int,Sg e.name,Sg e.u4,Sg e.place.name,.p (strs e.place.path),.p (.sl 8 (e.args.map Ex.enc)),I e.pos] 42,.dead]::S) (fun q=>0) 0 rfl ?_ ?_ ?_
   .simp
   .simp[h19]
   rintro q rfl
   by_cases hz:0<e.args.length
   .simp[hz]
   simp[hz]
  simp[hk]
  refine zH (fun q:Nat=>q=0) (fun q=>([.ptr (c.d+1) c.jF 0,.any,.any,.ptr 0 0 0,.any,.any,.any,.any,.any,.any,.any,.any,B false,I q]++List.replicate 122 .any)) (fun q=>[.cells [U e.op,I e.int,Sg e.name,Sg e.u4,Sg e.place.name,.p (strs e.place.path),.p (.sl 8 (e.args.map Ex.enc)),I e.pos] 42,.dead]::S) (fun q=>0) 0 rfl ?_ ?_ ?_
  .simp
  .simp[h19]
  rintro q rfl
  by_cases hz:0<e.args.length
  .simp[hz]
  simp[hz]
theorem zVQ(p:List It)(e:Ex)(he:e.op=19->e.place.path.length=e.args.length)(σ:Nf)(S:ASt)(c:Cf)(h:NAt p S c σ):ADet Tryz.prog 55 [.ptr c.d c.jF 0,exV e] S (B (zE6 p σ.made e.op e.name e.u4 e.place e.args.length)) S:=by
 by_cases h19:e.op=19
 .exact zXJ p e h19 (he h19) σ S c h
 exact zXI p e h19 σ S c h
theorem zLP{e:Ex}{d:Int}(h:e.whole d=true):(e.op=19->e.place.path.length=e.args.length)/\∀x∈e.args,x.whole (d-1)=true:=by
 rw[zGK]at h;simp only[Bool.and_eq_true]at h
 obtain⟨_,h1,h2⟩:=h
 refine⟨fun h19=>?_,fun x hx=>?_⟩
 .unfold zKv at h1
  simp only[Bool.and_eq_true]at h1
  have:=h1.2.2.2
  rw[h19]at this;simp[zHp,shP]at this;exact this.2.1
 unfold zq at h2
 simp only[Bool.and_eq_true,decide_eq_true_eq]at h2;rw[List.take_of_length_le (by omega)]at h2
 have:=List.all_eq_true.1 h2.2 x hx
 simp only[Bool.and_eq_true]at this;exact this.2
theorem Nf.add_nil(σ:Nf):σ.add []=σ:=by unfold Nf.add;simp
theorem Nf.add_add(σ:Nf)(a b:List Flt):(σ.add a).add b=σ.add (a++b):=by unfold Nf.add;simp
theorem zH4(p:List It):∀(e:Ex) (d:Int) (σ:Nf),e.whole d=true->σ.fl.length+e.nd<=4000000000->FC p 33 [exV e] σ (σ.add (e.nm p σ.made)):=by
 refine Ex.ind fun e ih dd σ Mc hl=>FC.intro fun S c h=>?_
 refine ADet.okA call33 1 6 rfl rfl fun na=>?_
 have ca:=okl na
 have fb:=exNd e
 obtain⟨Kj,ea⟩:=zLP Mc
 obtain⟨W,hW⟩:∃W,W=zI (zE6 p σ.made e.op e.name e.u4 e.place e.args.length) 60 e.pos:=⟨_,rfl⟩
 obtain⟨F,hF⟩:∃F:Nat->List Flt,F=fun q=>W++(e.args.take q).flatMap (Ex.nm p σ.made):=⟨_,rfl⟩
 have mb:F 0=W:=by rw[hF];simp
 have Qb:F e.args.length=e.nm p σ.made:=by rw[hF,hW,exNm];simp
 have Gb:∀q (h:q<e.args.length),F (q+1)=F q++e.args[q].nm p σ.made:=fun q h=>by rw[hF];simp only[List.take_succ_eq_append_getElem h,List.flatMap_append,List.append_assoc];simp
 have Yt:W.length<=1:=by rw[hW];exact zo _ _ _
 have Fb:∀q (h:q<e.args.length),(σ.add (F q)).fl.length+e.args[q].nd<=4000000000:=fun q h=>by
  have e1:=zB4 Ex.nd h
  have e2:=zEm (Ex.nm p σ.made) Ex.nd (e.args.take q) fun x _=>zJf p σ.made x
  rw[hF];simp only[Nf.add,List.length_append];omega
 clear hF;rw[<-Qb]
 have ho:=(h.updF σ).n
 have hs:=zAQ h
 rw[hs]at ho;simp only[fnO]at ho
 have Fa:=fun S' c' h'=>zVQ p e Kj σ S' c' h'
 have vc:=fun L:List AObj=>zVQ p e Kj σ (L::S) c.up (h.cons L)
 have Ya:=fun b L=>(zD8 p b 60 e.pos σ.fl (by omega)).inF0 h L
 have Aa:∀X,(⟨σ.made,σ.count,σ.opn,σ.fl++X⟩:Nf)=σ.add X:=fun X=>rfl
 simp only[Aa]at Ya;simp only[Cf.up]at vc
 generalize hb:zE6 p σ.made e.op e.name e.u4 e.place e.args.length=b at*
 refine ADet.intro mixed call33 func33 rfl ?_;simp[ntmps33,hs];refine dB [(3,6),(8,6)] (by kernel_rfl) ?_
 simp[ho];refine cq (vc _) ?_;simp;refine cq (Ya b _) ?_;rw[<-hW];simp;refine zH (fun q:Nat=>q<=e.args.length) (fun q=>([.ptr (c.d+1) c.jF 0]++(List.replicate 16 .any++[.p (.sl 8 (e.args.map Ex.enc)),I e.args.length,I q,.any,.any,.any,.any,.any,.any,.any]))) (fun q=>[.cells [U e.op,I e.int,Sg e.name,Sg e.u4,Sg e.place.name,.p (strs e.place.path),.p (.sl 8 (e.args.map Ex.enc)),I e.pos] 42]::updF S c (σ.add (F q))) (fun q=>e.args.length-q) 0 (Nat.zero_le _) ?_ ?_ ?_
 .simp
 .simp[mb]
 intro q Gj
 by_cases hlt:q<e.args.length
 .have aa:(q:Int)<(e.args.length:Int):=by omega
  have hw:=zA hlt
  have hx:=fun L=>(ih _ (List.getElem_mem hlt) _ (σ.add (F q)) (ea _ (List.getElem_mem hlt)) (Fb q hlt)).at h L
  rw[Nf.add_add,show(σ.add (F q)).made=σ.made from rfl,<-Gb q hlt]at hx
  have ra:e.args.length-(q+1)<e.args.length-q:=by omega
  generalize he:e.args[q]=x at*
  simp[hlt,aa,he,zy];refine cq (hx _) ?_;simp;exact⟨q+1,hlt,ra,hw,rfl⟩
 have aa:¬(q:Int)<(e.args.length:Int):=by omega
 have Na:q=e.args.length:=by omega
 subst Na;simp
end Go.Proofs.YtgpajpilkapciaaGreatDoor
namespace Go.Proofs.YtgpajpilkapciaaGreatDoor
open Go.RowKit _root_.Go.Proofs.Tryz
attribute [local simp] List.replicate List.range List.range.loop
attribute [local simp] zHe zGd zIl zKe zEL zGJ zHf zIm zGe zKf zIn zHg zIo zHh zKg zEM zHi zDo zFe zHj zIp zHk zFE zIk
def BdN(σ:Nf)(n:Nat):Prop:=σ.fl.length+n<=4000000000/\σ.count+n<=4000000000/\σ.opn+n<=4000000000
theorem BdN.near{σ τ:Nf}{n m k:Nat}(h:BdN σ k)(hn:Near σ n τ)(hk:n+m<=k):BdN τ m:=by
 obtain⟨h1,h2,h3⟩:=h
 obtain⟨n1,n2,n3,n4,n5⟩:=hn
 exact⟨by omega,by omega,by rw[n5];omega⟩
def zab(c:Cf)(m:Nat)(M:List AObj)(r:AV)(bf:List Fg):Prop:=
 (bf=[]/\r= .p (.sl 1 [])/\∃k,M=List.replicate k .dead)\/∃k,r= .rsl 0 (m+k) bf.length 1/\M=List.replicate k .dead++[.row 1 1 bf.length (bf.map (clo c))]
def StmC(p:List It)(s:St):Prop:=∀σ,BdN σ s.nd->∀(S:ASt) (c:Cf),NAt p S c σ->∀L:List AObj,wkL L L->∃M r,ADet Tryz.prog 54 [.ptr (c.d+1) c.jF 0,.agg (stV s)] (L::S) r ((L++M)::updF S c (s.nm p σ).1)/\zab c.up L.length M r (s.nm p σ).2
theorem zNf{P:Program}:∀(a b:List AV) (S S1 S2:ASt),DRun P a S S1->DRun P b S1 S2->DRun P (a++b) S S2
 | [],b,S,S1,S2,h,k=>by cases h;exact k
 | .fn (.func K) xs ys::a,b,S,S1,S2,⟨T,h1,h2⟩,k=>⟨T,h1,zNf a b T S1 S2 h2 k⟩
theorem zJ2(p:List It)(c:Cf):∀(bf:List Fg) (σ:Nf) (S:ASt),NAt p S c σ->DRun Tryz.prog (bf.map (clo c)).reverse S (updF S c (Nf.undo bf σ))
 | [],σ,S,h=>by rw[Nf.undo,zAQ h];rfl
 |g::bf,σ,S,h=>by
  rw[List.map_cons,List.reverse_cons,Nf.undo]
  have ih:=zJ2 p c bf σ S h
  refine zNf _ _ _ _ _ ih ?_
  have hA:=h.updF (Nf.undo bf σ)
  have:=zXF p g (Nf.undo bf σ) _ c hA
  rw[zCk h]at this;exact⟨_,this,rfl⟩
theorem zEv(n:Nat)(c:Cf)(bf:List Fg):AV.cuts n (bf.map (clo c.up))=bf.map (clo c.up):=by
 rw[zFX,List.map_map];rfl
theorem zFz(n:Nat)(c:Cf)(bf:List Fg):AV.cuts n (bf.map (clo c.up)).reverse=(bf.map (clo c.up)).reverse:=by
 rw[<-List.map_reverse,zEv]
theorem zRS(p:List It):∀(a b:List St) (σ:Nf),St.nms p (a++b) σ=((St.nms p b (St.nms p a σ).1).1,(St.nms p a σ).2++(St.nms p b (St.nms p a σ).1).2)
 | [],b,σ=>by simp[St.nms]
 |s::a,b,σ=>by
  simp only[List.cons_append,St.nms,zRS p a b,List.append_assoc]
theorem zUV(s:St)(k N:Nat):∀o∈AObj.cells (stV s) 57::List.replicate k AObj.dead,wkL [o.cut N] [o]:=fun o ho=>by
 rcases List.mem_cons.1 ho with rfl|ho
 .exact⟨⟨rfl,zS _⟩,trivial⟩
 rw[List.eq_of_mem_replicate ho];trivial
theorem zRT(s:St)(k N n:Nat)(c:Cf)(bf:List Fg):∀o∈AObj.cells (stV s) 57::(List.replicate k AObj.dead++[.row 1 1 n (bf.map (clo c.up))]),wkL [o.cut N] [o]:=fun o ho=>by
 rcases List.mem_cons.1 ho with rfl|ho
 .exact⟨⟨rfl,zS _⟩,trivial⟩
 rcases List.mem_append.1 ho with ho|ho
 .rw[List.eq_of_mem_replicate ho];trivial
 rw[List.mem_singleton.1 ho]
 show wkL [AObj.row _ 1 _ (AV.cuts N _)] _
 rw[zEv];exact⟨⟨⟨rfl,rfl,rfl⟩,zS _⟩,trivial⟩
theorem zRU(p:List It)(l:List St)(hl:∀s∈l,StmC p s)(σ:Nf)(hb:BdN σ (l.map St.nd).sum)(K:Nat)(caps:List AV)(τ:Nf)(S:ASt)(c:Cf)(h:NAt p S c σ)
  (hE:∀L:List AObj,ADet Tryz.prog K (AV.ups 1 caps) (L::updF S c (St.nms p l σ).1) .un (L::updF S c τ)):
  ADet Tryz.prog 31 [.ptr c.d c.jF 0,.p (.sl 15 (l.map St.enc)),.fn (.func K) [] caps] S .un (updF S c (Nf.undo (St.nms p l σ).2 τ)):=by
 refine ADet.okP call31 1 rfl fun na=>?_
 have ca:=okl na
 have hs:=zAQ h
 obtain⟨F,hF⟩:∃F:Nat->Nf × List Fg,F=fun q=>St.nms p (l.take q) σ:=⟨_,rfl⟩
 have mb:F 0=(σ,[]):=by rw[hF];simp[St.nms]
 have Qb:F l.length=St.nms p l σ:=by rw[hF];simp
 have Gb:∀q (hq:q<l.length),F (q+1)=((l[q].nm p (F q).1).1,(F q).2++(l[q].nm p (F q).1).2):=fun q hq=>by
  rw[hF];simp only[List.take_succ_eq_append_getElem hq,zRS];simp[St.nms]
 have Fb:∀q (hq:q<l.length),BdN (F q).1 l[q].nd:=fun q hq=>by
  have e1:=zB4 St.nd hq
  have e2:=(zCN p (l:=l.take q) (fun s _ σ=>zC5 p s σ) σ).1
  rw[hF];exact hb.near e2 (by omega)
 clear hF;rw[<-Qb]at hE ⊢;refine ADet.introD mixed call31 func31 rfl rfl ?_;simp[ntmps31];refine zEk (fun q:Nat=>q<=l.length) (fun q=>([.ptr (c.d+1) c.jF 0,.any,.fn (.func K) [] (AV.ups 1 caps),.any,.any,.any,.any,.any,.any,.any,.p (.sl 15 (l.map St.enc)),I l.length,I q]++List.replicate 16 .any)) (fun q=>[]::updF S c (F q).1) (fun q=>((F q).2.map (clo c.up)).reverse) (fun q=>l.length-q) (fun _=>0) 0 (Nat.zero_le _) (fun _ _=>Nat.le_refl _) ?_ ?_ ?_ ?_
 .simp
 .simp[mb,hs]
 .simp[mb]
 intro q hq
 by_cases hlt:q<l.length
 .have aa:(q:Int)<(l.length:Int):=by omega
  have hw:=zA hlt
  have Qa:=Gb q hlt
  have ra:l.length-(q+1)<l.length-q:=by omega
  obtain⟨M,r,hx,Tb⟩:=hl _ (List.getElem_mem hlt) (F q).1 (Fb q hlt) _ c (h.updF (F q).1) [.cells (stV l[q]) 57] ⟨⟨rfl,zS _⟩,trivial⟩
  rw[zCk h]at hx
  generalize he:l[q]=s at*
  generalize Ma:(s.nm p (F q).1).1=σ1 at*
  generalize ee:(s.nm p (F q).1).2=fg at*
  simp[hlt,aa,he,zBN];refine cq hx ?_
  rcases Tb with⟨h1,h2,k,h3⟩|⟨k,h2,h3⟩
  .subst h2 h3
   simp;refine zEk (fun q2:Nat=>q2<=fg.length) (fun q2=>[.ptr (c.d+1) c.jF 0,.any,.fn (.func K) [] (AV.ups 1 caps),.any,.any,.any,.any,.any,.any,.any,.p (.sl 15 (l.map St.enc)),I l.length,I q,.any,.any,.any,.any,.any,.p (.sl 1 []),I 0,I q2,.any,.any,.any,.any,.any,.any,.any,.any]) (fun _=>((.cells (stV s) 57::List.replicate k .dead)::updF S c σ1)) (fun q2=>(((F q).2++fg.take q2).map (clo c.up)).reverse) (fun q2=>fg.length-q2) (fun _=>k+1) 0 (Nat.zero_le _) (fun _ _=>by simp[top]) ?_ ?_ ?_ ?_
   .simp
   .exact⟨zF3 (m:=k+1) (zUV s k (k+1)),rfl⟩
   .simp
   intro q2 Na
   by_cases ve:q2<fg.length
   .rw[h1]at ve;simp at ve
   have di:¬(q2:Int)<(fg.length:Int):=by omega
   have Ep:q2=fg.length:=by omega
   subst Ep;simp;refine⟨q+1,hlt,ra,hw,by rw[Qa],?_⟩
   rw[<-List.reverse_append,<-List.map_append,zFz,Qa]
  subst h2 h3
  have ic:fg.length<=maxLen:=by
   have:=(zC5 p s (F q).1).2
   have h2:=(Fb q hlt).1
   rw[he]at h2;rw[ee]at this;unfold maxLen;omega
  simp;refine zEk (fun q2:Nat=>q2<=fg.length) (fun q2=>[.ptr (c.d+1) c.jF 0,.any,.fn (.func K) [] (AV.ups 1 caps),.any,.any,.any,.any,.any,.any,.any,.p (.sl 15 (l.map St.enc)),I l.length,I q,.any,.any,.any,.any,.any,.rsl 0 (1+k) fg.length 1,I fg.length,I q2,.any,.any,.any,.any,.any,.any,.any,.any]) (fun _=>((.cells (stV s) 57::(List.replicate k .dead++[.row 1 1 fg.length (fg.map (clo c.up))]))::updF S c σ1)) (fun q2=>(((F q).2++fg.take q2).map (clo c.up)).reverse) (fun q2=>fg.length-q2) (fun _=>k+2) 0 (Nat.zero_le _) (fun _ _=>by simp[top]) ?_ ?_ ?_ ?_
  .simp
  .exact⟨zF3 (m:=k+2) (zRT s k (k+2) fg.length c fg),rfl⟩
  .simp
  intro q2 Na
  by_cases ve:q2<fg.length
  .have di:(q2:Int)<(fg.length:Int):=by omega
   have He:=zA ve ic
   have Fp:fg.length-(q2+1)<fg.length-q2:=by omega
   have gc:(fg.map (clo c.up))[q2]? =some (clo c.up fg[q2]):=by rw[List.getElem?_map,List.getElem?_eq_getElem ve];rfl
   have Ye:fg.take (q2+1)=fg.take q2++[fg[q2]]:=List.take_succ_eq_append_getElem ve
   have gu:=(zRT s k (k+2) fg.length c fg)
   have Bj:=zUe (N:=k+2) (S:=updF S c σ1) (by simp) gu
   have ub:(AObj.cells (stV s) 57::(List.replicate k .dead++[.row 1 1 fg.length (fg.map (clo c.up))]))[1+k]? =some (.row 1 1 fg.length (fg.map (clo c.up))):=by
    rw[Nat.add_comm,List.getElem?_cons_succ,List.getElem?_append_right (by simp)];simp
   have Ll:=zEv (k+2) c ((F q).2++fg.take (q2+1))
   generalize hg:fg[q2]=g at*
   have vd:(clo c.up g).up 0=clo c.up g:=rfl
   generalize (AObj.cells (stV s) 57::(List.replicate k .dead++[.row 1 1 fg.length (fg.map (clo c.up))]))=LL at*
   have Gp:AV.up 0 (clo c.up g)= .fn (.func 133) [] [.bx [B g.2],.bx [.ptr (c.d+1) c.jF 0],.bx [Sg g.1]]:=rfl
   have e:clo c.up g::((List.take q2 (List.map (clo c.up) fg)).reverse++(List.map (clo c.up) (F q).2).reverse)=(((F q).2++fg.take (q2+1)).map (clo c.up)).reverse:=by rw[Ye];simp
   have e2:AV.cuts (k+2) (clo c.up g::((List.take q2 (List.map (clo c.up) fg)).reverse++(List.map (clo c.up) (F q).2).reverse))=(List.take (q2+1) (List.map (clo c.up) fg)).reverse++(List.map (clo c.up) (F q).2).reverse:=by rw[e,zFz];simp
   simp[ve,di,ub,gc,hg,Gp,-trim,-wkT];exact⟨q2+1,ve,Fp,⟨by omega,He⟩,Bj,e2⟩
  have di:¬(q2:Int)<(fg.length:Int):=by omega
  have Ep:q2=fg.length:=by omega
  subst Ep;simp;refine⟨q+1,hlt,ra,hw,by rw[Qa],?_⟩
  rw[<-List.reverse_append,<-List.map_append,zFz,Qa]
 have aa:¬(q:Int)<(l.length:Int):=by omega
 have Na:q=l.length:=by omega
 subst Na;simp;refine cq (hE _) ?_
 have hA:=(h.updF τ).cons []
 have hd:=zJ2 p c.up (F l.length).2 τ _ hA
 rw[zAk,zCk h]at hd;simp;exact⟨_,hd,rfl⟩
theorem zJ3:∀(a b:List BA) (pos:Int) (σ:Nf),Nf.mkS (a++b) pos σ=((Nf.mkS b pos (Nf.mkS a pos σ).1).1,(Nf.mkS a pos σ).2++(Nf.mkS b pos (Nf.mkS a pos σ).1).2)
 | [],b,pos,σ=>by simp[Nf.mkS]
 |s::a,b,pos,σ=>by
  simp only[List.cons_append,Nf.mkS,zJ3 a b]
theorem zH5{p:List It}{s:BA}{pos:Int}{σ σ0:Nf}(hl:σ.fl.length+1<=4294967296)(hc:σ.count<4294967296){S:ASt}{c:Cf}(h:NAt p S c σ0)(L:List AObj):ADet Tryz.prog 90 [.ptr (c.d+1) c.jF 0,Sg s,I pos] (L::updF S c σ) (clo c.up (s,mIs σ.made s)) (L::updF S c (σ.mk1 s pos)):=by
 have:=zZV p s pos σ hl hc _ c.up ((h.updF σ).cons L)
 rw[zAk,zCk h]at this;exact this
theorem zF0(p:List It)(l:List St)(hl:∀s∈l,StmC p s)(pos:Int)(names:List BA)(σ:Nf)(hb:BdN σ (names.length+(l.map St.nd).sum)):FC p 95 [.p (.sl 15 (l.map St.enc)),I pos,.p (strs names)] σ (zAT p l pos names σ):=fun S c h=>by
 refine ADet.okP call95 3 rfl fun na=>?_
 have ca:names.length<=maxLen:=okl na
 have hs:=zAQ h
 obtain⟨F,hF⟩:∃F:Nat->Nf × List Fg,F=fun q=>Nf.mkS (names.take q) pos σ:=⟨_,rfl⟩
 have mb:F 0=(σ,[]):=by rw[hF];simp[Nf.mkS]
 have Qb:F names.length=Nf.mkS names pos σ:=by rw[hF];simp
 have Gb:∀q (hq:q<names.length),F (q+1)=((F q).1.mk1 names[q] pos,(F q).2++[(names[q],mIs (F q).1.made names[q])]):=fun q hq=>by
  rw[hF];simp only[List.take_succ_eq_append_getElem hq,zJ3];simp[Nf.mkS]
 have Fb:∀q,q<names.length->BdN (F q).1 1:=fun q hq=>by
  have e2:=(zAy (names.take q) pos σ).1
  rw[hF];exact hb.near e2 (by simp;omega)
 have Kf:BdN (F names.length).1 (l.map St.nd).sum:=by
  rw[Qb];exact hb.near (zAy names pos σ).1 (Nat.le_refl _)
 have Bc:zAT p l pos names σ=Nf.undo (F names.length).2 (Nf.undo (St.nms p l (F names.length).1).2 (St.nms p l (F names.length).1).1):=by rw[Qb];rfl
 clear hF;rw[Bc]
 have hE:∀S:ASt,ADet Tryz.prog 136 [] S .un S:=fun S=>by
  refine ADet.intro mixed call136 func136 rfl ?_;simp[ntmps136]
 have Aa:=zRU p l hl (F names.length).1 Kf 136 [] (St.nms p l (F names.length).1).1 _ c.up ((h.updF (F names.length).1).cons []) (fun L=>hE _)
 rw[zAk,zCk h]at Aa;refine ADet.introD mixed call95 func95 rfl rfl ?_;simp[ntmps95,strs];refine zEk (fun q:Nat=>q<=names.length) (fun q=>[.ptr (c.d+1) c.jF 0,.p (.sl 15 (l.map St.enc)),I pos,.any,.any,.any,.any,.any,.any,.any,.p (.sl 1 (names.map fun s=>[pS s])),I names.length,I q,.any,.any,.any,.any,.any,.any,.any,.any,.any,.any,.any]) (fun q=>[]::updF S c (F q).1) (fun q=>((F q).2.map (clo c.up)).reverse) (fun q=>names.length-q) (fun _=>0) 0 (Nat.zero_le _) (fun _ _=>Nat.le_refl _) ?_ ?_ ?_ ?_
 .simp
 .simp[mb,hs]
 .simp[mb]
 intro q hq
 by_cases hlt:q<names.length
 .have aa:(q:Int)<(names.length:Int):=by omega
  have hw:=zA hlt
  have Qa:=Gb q hlt
  have ra:names.length-(q+1)<names.length-q:=by omega
  have ei:=Fb q hlt
  have Ka:=fun L=>zH5 (p:=p) (s:=names[q]) (pos:=pos) (σ:=(F q).1) (by have:=ei.1;omega) (by have:=ei.2.1;omega) h L
  generalize he:names[q]=s at*
  simp[hlt,aa,he];refine cq (Ka _) ?_
  have Ab:∀b,clo c.up (s,b)= .fn (.func 133) [] [.bx [B b],.bx [.ptr (c.d+1) c.jF 0],.bx [Sg s]]:=fun _=>rfl
  have e2:AV.cuts 0 (clo c.up (s,mIs (F q).1.made s)::(List.map (clo c.up) (F q).2).reverse)=(List.map (clo c.up) (F (q+1)).2).reverse:=by
   have:clo c.up (s,mIs (F q).1.made s)::(List.map (clo c.up) (F q).2).reverse=(List.map (clo c.up) ((F q).2++[(s,mIs (F q).1.made s)])).reverse:=by simp
   rw[this,zFz,Qa]
  simp[Ab];exact⟨q+1,hlt,ra,hw,by rw[Qa],e2⟩
 have aa:¬(q:Int)<(names.length:Int):=by omega
 have Na:q=names.length:=by omega
 subst Na;simp;refine cq Aa ?_
 have hA:=(h.updF (Nf.undo (St.nms p l (F names.length).1).2 (St.nms p l (F names.length).1).1)).cons []
 have hd:=zJ2 p c.up (F names.length).2 _ _ hA
 rw[zAk,zCk h]at hd;simp;exact⟨_,hd,rfl⟩
end Go.Proofs.YtgpajpilkapciaaGreatDoor
