/- A part of the proof. -/
import Derived.Test.YtdflkegnmmkkoaaGreatDoorXNVl
set_option linter.unusedVariables false
set_option linter.unusedSimpArgs false
set_option maxRecDepth 100000
set_option maxHeartbeats 32000000
namespace Go.Proofs.YtdflkegnmmkkoaaGreatDoor
open Go.RowKit _root_.Go.Proofs.Tryz
attribute [local simp] List.replicate List.range List.range.loop List.forall_mem_cons List.contains_cons List.contains_nil List.find?
variable{F:Nat}{S:ASt}{args:List AV}{p:List It}
def KC(p:List It)(F:Nat)(args:List AV)(l l':List Flt):Prop:=∀(S:ASt) (d:Nat),Lk p S d l->ADet Tryz.prog F (.ptr d 3 0::args) S .un (updK S d l')
theorem KC.at{l l1 l2:List Flt}(hw:KC p F args l1 l2){d:Nat}(h:Lk p S d l)(L:List AObj):ADet Tryz.prog F (.ptr (d+1) 3 0::args) (L::updK S d l1) .un (L::updK S d l2):=by
 have:=hw _ _ ((h.updK l1).cons L)
 rw[zGf,zMK h]at this;exact this
theorem KC.intro{l l':List Flt}(hw:∀(S:ASt) (d:Nat),Lk p S d l->ADet Tryz.prog F (.ptr d 3 0::args) (updK S d l) .un (updK S d l')):KC p F args l l':=fun S d h=>by
 have:=hw S d h
 rw[zD6 h]at this;exact this
theorem zEY(p:List It)(xb:Bool)(e a:Int)(l:List Flt)(hl:l.length+1<=4294967296):KC p 60 [B xb,I e,I a] l (l++zH xb e a):=fun S d h=>by
 have ho:=h.l
 have ht:=h.r
 have hs:=zD6 h
 unfold zH;refine ADet.intro mixed call60 func60 rfl ?_
 cases xb with
 |true=>simp[ntmps60,hs]
 |false=>
  simp only[nlO,rwO]at ho ht
  have n1:=fun(T:ASt) o=>zB2 T d (i:=4) (j:=3) o (by omega)
  have n2:=fun(T:ASt) o=>zB2 T d (i:=3) (j:=4) o (by omega)
  simp[ntmps60,ho,ht,n1,n2,hl,updK,nlO,rwO,rowC,fltE]
abbrev itZ1:AV:=.agg [U 0,Sg emS,nilS,U 0,Sg emS,nilS,nilS,U 0,I 0,Sg emS,Sg emS,Sg emS,nilS,nilS,I 0,I 0]
def zQC(p:List It)(k:Int)(s:BA):AV:=match zK p s with|some x=>.tup [itV x,B (decide (x.kind=k))]|none=>.tup [itZ1,B false]
theorem zJz(p:List It)(k:Int)(s:BA)(l:List Flt)(S:ASt)(d:Nat)(h:Lk p S d l):ADet Tryz.prog 154 [.ptr d 3 0,U k,Sg s] S (zQC p k s) S:=by
 have ho:=h.l
 have ht:=h.t
 simp only[nlO]at ho
 obtain⟨j,hj⟩:=zG2 p s
 unfold zQC;refine ADet.intro mixed call154 func154 rfl ?_
 cases hf:zK p s with
 |none=>
  rw[hf]at hj;simp only[Option.map_none]at hj;simp[ntmps154,ho,ht,hj];refine dB [(4,8)] (by kernel_rfl) ?_
  simp
 |some x=>
  rw[hf]at hj;simp only[Option.map_some]at hj;simp[ntmps154,ho,ht,hj];refine dB [(4,8)] (by kernel_rfl) ?_
  by_cases hk:x.kind=k
  .simp[hk]
  have dc:(x.kind==k)=false:=by simpa using hk
  simp[hk,dc]
theorem zCJ{α:Type}(g:α->Nat){l:List α}{q:Nat}(h:q<l.length):((l.take q).map g).sum+g l[q]<=(l.map g).sum:=by
 have e:(l.map g).sum=((l.take q).map g).sum+((l.drop q).map g).sum:=by
  rw[<-List.sum_append,<-List.map_append,List.take_append_drop]
 rw[e,List.drop_eq_getElem_cons h,List.map_cons,List.sum_cons];omega
theorem zZA(p:List It)(pos:Int):∀(t:Ty) (l:List Flt),l.length+t.nd<=4000000000->KC p 62 [tyV t,I pos] l (l++t.nm p pos):=by
 refine Ty.ind fun t ih l hl=>KC.intro fun S d h=>?_
 refine ADet.okA call62 1 2 rfl rfl fun na=>?_
 have ca:=okl na
 have Cd:=tyNd t
 obtain⟨W,hW⟩:∃W,W=l++(if t.kind=4 then zH (zK p t.name).isSome 60 pos else []):=⟨_,rfl⟩
 obtain⟨F,hF⟩:∃F:Nat->List Flt,F=fun q=>W++(t.args.take q).flatMap (Ty.nm p pos):=⟨_,rfl⟩
 have rb:F 0=W:=by rw[hF];simp
 have Xb:F t.args.length=l++t.nm p pos:=by rw[hF,hW,tyNm];simp
 have Gb:∀q (h:q<t.args.length),F (q+1)=F q++t.args[q].nm p pos:=fun q h=>by rw[hF];simp only[List.take_succ_eq_append_getElem h,List.flatMap_append,List.append_assoc];simp
 have mu:W.length<=l.length+1:=by
  rw[hW,List.length_append]
  have:(if t.kind=4 then zH (zK p t.name).isSome 60 pos else []).length<=1:=by
   split
   .exact zr _ _ _
   simp
  omega
 have Fb:∀q (h:q<t.args.length),(F q).length+t.args[q].nd<=4000000000:=fun q h=>by
  have e1:=zCJ Ty.nd h
  have e2:=zFG (Ty.nm p pos) Ty.nd (t.args.take q) fun x _=>zFH p pos x
  rw[hF];simp only[List.length_append];omega
 clear hF;rw[<-Xb]
 have ho:=h.l
 have ht:=h.t
 simp only[nlO]at ho
 have hs:=zD6 h
 obtain⟨j,hj⟩:=zG2 p t.name
 have ho:=h.l
 have ht:=h.t
 simp only[nlO]at ho
 have hs:=zD6 h
 obtain⟨j,hj⟩:=zG2 p t.name
 refine ADet.intro mixed call62 func62 rfl ?_;simp[ntmps62,hs]
 by_cases h4:t.kind=4
 .rw[if_pos h4]at hW
  have pc:=fun b L=>(zEY p b 60 pos l (by omega)).at h L
  rw[hs]at pc
  cases hf:zK p t.name with
  |none=>
   rw[hf]at hj hW;simp only[Option.map_none]at hj
   have ug:l++zH false 60 pos=W:=hW.symm
   simp[h4];refine dB [(3,10),(5,10),(6,10)] (by kernel_rfl) ?_
   simp[ho,ht,hj];refine cq (pc false _) ?_;simp;refine zF (fun q:Nat=>q<=t.args.length) (fun q=>([.ptr (d+1) 3 0,.any,I pos]++(List.replicate 25 .any++[.p (.sl 3 (t.args.map Ty.enc)),I t.args.length,I q,.any,.any,.any,.any,.any,.any,.any,.any]))) (fun q=>[.cells [U t.kind,Sg t.name,.p (.sl 3 (t.args.map Ty.enc))] 36,.dead]::updK S d (F q)) (fun q=>t.args.length-q) 0 (Nat.zero_le _) ?_ ?_ ?_
   .simp
   .simp[rb,ug,h4]
   intro q lh
   by_cases hlt:q<t.args.length
   .have aa:(q:Int)<(t.args.length:Int):=by omega
    have hw:=zB hlt
    have hx:=fun L=>(ih _ (List.getElem_mem hlt) (F q) (Fb q hlt)).at h L
    rw[<-Gb q hlt]at hx
    have Da:t.args.length-(q+1)<t.args.length-q:=by omega
    generalize he:t.args[q]=x at*
    simp[hlt,aa,he,zd];refine cq (hx _) ?_;simp;exact⟨q+1,hlt,Da,hw,rfl⟩
   have aa:¬(q:Int)<(t.args.length:Int):=by omega
   have Pa:q=t.args.length:=by omega
   subst Pa
   simp
  |some x=>
   rw[hf]at hj hW;simp only[Option.map_some]at hj
   have ug:l++zH true 60 pos=W:=hW.symm
   simp[h4];refine dB [(3,10),(5,10),(6,10)] (by kernel_rfl) ?_
   simp[ho,ht,hj];refine cq (pc true _) ?_;simp;refine zF (fun q:Nat=>q<=t.args.length) (fun q=>([.ptr (d+1) 3 0,.any,I pos]++(List.replicate 25 .any++[.p (.sl 3 (t.args.map Ty.enc)),I t.args.length,I q,.any,.any,.any,.any,.any,.any,.any,.any]))) (fun q=>[.cells [U t.kind,Sg t.name,.p (.sl 3 (t.args.map Ty.enc))] 36,.dead]::updK S d (F q)) (fun q=>t.args.length-q) 0 (Nat.zero_le _) ?_ ?_ ?_
   .simp
   .simp[rb,ug,h4]
   intro q lh
   by_cases hlt:q<t.args.length
   .have aa:(q:Int)<(t.args.length:Int):=by omega
    have hw:=zB hlt
    have hx:=fun L=>(ih _ (List.getElem_mem hlt) (F q) (Fb q hlt)).at h L
    rw[<-Gb q hlt]at hx
    have Da:t.args.length-(q+1)<t.args.length-q:=by omega
    generalize he:t.args[q]=x at*
    simp[hlt,aa,he,zd];refine cq (hx _) ?_;simp;exact⟨q+1,hlt,Da,hw,rfl⟩
   have aa:¬(q:Int)<(t.args.length:Int):=by omega
   have Pa:q=t.args.length:=by omega
   subst Pa;simp
 rw[if_neg h4,List.append_nil]at hW
 have ug:l=W:=hW.symm
 simp[h4];refine zF (fun q:Nat=>q<=t.args.length) (fun q=>([.ptr (d+1) 3 0,.any,I pos]++(List.replicate 25 .any++[.p (.sl 3 (t.args.map Ty.enc)),I t.args.length,I q,.any,.any,.any,.any,.any,.any,.any,.any]))) (fun q=>[.cells [U t.kind,Sg t.name,.p (.sl 3 (t.args.map Ty.enc))] 36]::updK S d (F q)) (fun q=>t.args.length-q) 0 (Nat.zero_le _) ?_ ?_ ?_
 .simp
 .simp[rb,<-ug,hs]
 intro q lh
 by_cases hlt:q<t.args.length
 .have aa:(q:Int)<(t.args.length:Int):=by omega
  have hw:=zB hlt
  have hx:=fun L=>(ih _ (List.getElem_mem hlt) (F q) (Fb q hlt)).at h L
  rw[<-Gb q hlt]at hx
  have Da:t.args.length-(q+1)<t.args.length-q:=by omega
  generalize he:t.args[q]=x at*
  simp[hlt,aa,he,zd];refine cq (hx _) ?_;simp;exact⟨q+1,hlt,Da,hw,rfl⟩
 have aa:¬(q:Int)<(t.args.length:Int):=by omega
 have Pa:q=t.args.length:=by omega
 subst Pa;simp
def FC(p:List It)(F:Nat)(args:List AV)(σ τ:Nf):Prop:=∀(S:ASt) (c:Cf),NAt p S c σ->ADet Tryz.prog F (.ptr c.d c.jF 0::args) S .un (updF S c τ)
theorem FC.at{σ σ1 σ2:Nf}(hw:FC p F args σ1 σ2){c:Cf}(h:NAt p S c σ)(L:List AObj):ADet Tryz.prog F (.ptr (c.d+1) c.jF 0::args) (L::updF S c σ1) .un (L::updF S c σ2):=by
 have:=hw _ _ ((h.updF σ1).cons L)
 rw[zAo,zC3 h]at this;exact this
theorem FC.intro{σ τ:Nf}(hw:∀(S:ASt) (c:Cf),NAt p S c σ->ADet Tryz.prog F (.ptr c.d c.jF 0::args) (updF S c σ) .un (updF S c τ)):FC p F args σ τ:=fun S c h=>by
 have:=hw S c h
 rw[zAV h]at this;exact this
theorem KC.inF{σ σ1:Nf}{l2:List Flt}(hw:KC p F args σ1.fl l2){c:Cf}(h:NAt p S c σ)(L:List AObj):ADet Tryz.prog F (.ptr (c.k+c.d+1) 3 0::args) (L::updF S c σ1) .un (L::updF S c ⟨σ1.made,σ1.count,σ1.opn,l2⟩):=by
 have a:=h.updF σ1
 have:=hw _ _ (a.k.cons L)
 rw[zGf,zJA a,zC3 h]at this;exact this
theorem KC.inF0{σ:Nf}{l2:List Flt}(hw:KC p F args σ.fl l2){c:Cf}(h:NAt p S c σ)(L:List AObj):ADet Tryz.prog F (.ptr (c.k+c.d+1) 3 0::args) (L::S) .un (L::updF S c ⟨σ.made,σ.count,σ.opn,l2⟩):=by
 have:=hw.inF h L
 rw[zAV h]at this;exact this
theorem zTA(p:List It)(s:BA)(pos:Int)(σ:Nf)(hl:σ.fl.length+1<=4294967296):FC p 155 [Sg s,I pos] σ (σ.add (zH (mIs σ.made s) 60 pos)):=fun S c h=>by
 have ho:=h.n
 have hm:=h.m
 simp only[fnO]at ho;simp only[mdO]at hm
 have pc:=fun b L=>(zEY p b 60 pos σ.fl hl).inF0 h L
 unfold Nf.add;refine ADet.intro mixed call155 func155 rfl ?_;simp[ntmps155];refine dB [] (by kernel_rfl) ?_
 rcases zDi s σ.made 0 with⟨h1,h2,h3⟩|⟨j,b,h1,h2,h3⟩
 .have hi:mIs σ.made s=false:=by unfold mIs;rw[h1];rfl
  simp[ho,hm,h2];refine cq (pc false _) ?_;simp[hi]
 have hi:mIs σ.made s=b:=by unfold mIs;rw[h1];rfl
 simp[ho,hm,h2];refine cq (pc b _) ?_;simp[hi]
def clo(c:Cf)(g:Fg):AV:=.fn (.func 190) [] [.bx [B g.2],.bx [.ptr c.d c.jF 0],.bx [Sg g.1]]
theorem zZB(p:List It)(g:Fg)(σ:Nf)(S:ASt)(c:Cf)(h:NAt p S c σ):zRh Tryz.prog 190 [.bx [B g.2],.bx [.ptr c.d c.jF 0],.bx [Sg g.1]] S (updF S c (σ.put g)):=by
 have ho:=h.n
 have hm:=h.m
 simp only[fnO]at ho;simp only[mdO]at hm
 have Lh:updF S c (σ.put g)=set2 S c.d c.jM (mdO (mPut σ.made g.1 g.2)):=by
  have hs:=zAV h
  refine zJ4 (by rw[zFV,zBr]) fun d i=>?_
  rw[zCH h,zQ _ h.m]
  have hne:=h.ne
  have e:=zCH h σ d i
  rw[hs]at e
  by_cases h1:d=c.d/\i=c.jF
  .rw[if_pos h1,if_neg (by omega)]
   rw[if_pos h1]at e;rw[e];rfl
  rw[if_neg h1]
  by_cases h2:d=c.d/\i=c.jM
  .rw[if_pos h2,if_pos h2];rfl
  rw[if_neg h2,if_neg h2]
  rw[if_neg h1,if_neg h2]at e;rw[e]
  show(if d=c.e/\i=3 then some (nlO σ.fl.length)else if d=c.e/\i=4 then some (rwO σ.fl)else _)=_
  repeat' (first|rfl|split)
 rw[Lh];refine zRh.intro mixed call190 func190 rfl rfl ?_;simp[ntmps190];refine dB [] (by kernel_rfl) ?_
 rcases zDi g.1 σ.made 0 with⟨h1,h2,h3⟩|⟨j,b,h1,h2,h3⟩
 .simp[ho,hm,h2,zKJ]
  rw[h3];simp[mdO,mdE]
 simp[ho,hm,h2,zKJ]
 rw[mdO,h3]
theorem zbd(p:List It)(s:BA)(pos:Int)(σ:Nf)(hl:σ.fl.length+1<=4294967296)(hc:σ.count<4294967296)(S:ASt)(c:Cf)(h:NAt p S c σ):ADet Tryz.prog 153 [.ptr c.d c.jF 0,Sg s,I pos] S (clo c (s,mIs σ.made s)) (updF S c (σ.mk1 s pos)):=by
 have ho:=h.n
 have hm:=h.m
 have pc:=fun b L=>(zEY p b 60 pos σ.fl hl).inF0 h L
 have e1:=zJA h (σ.fl++zH (mGet σ.made s).isNone 60 pos)
 have hA:=h.updF ⟨σ.made,σ.count,σ.opn,σ.fl++zH (mGet σ.made s).isNone 60 pos⟩
 have Ba:=hA.n
 have pm:=hA.m
 have Pb:set2 (set2 (updF S c ⟨σ.made,σ.count,σ.opn,σ.fl++zH (mGet σ.made s).isNone 60 pos⟩) c.d c.jM (mdO (mPut σ.made s true))) c.d c.jF (fnO c ⟨mPut σ.made s true,σ.count+1,σ.opn,σ.fl++zH (mGet σ.made s).isNone 60 pos⟩)=updF S c (σ.mk1 s pos):=by
  rw[<-e1];rfl
 generalize hT:updF S c ⟨σ.made,σ.count,σ.opn,σ.fl++zH (mGet σ.made s).isNone 60 pos⟩=T at*
 have n1:=fun o=>zB2 T c.d (i:=c.jM) (j:=c.jF) o (fun e=>h.ne e.symm)
 simp only[fnO]at ho Ba;simp only[mdO]at hm pm
 have xr:IntKind.i64.wrap ((σ.count:Int)+1)=((σ.count+1:Nat):Int):=zB (n:=4294967296) hc (by unfold maxLen;omega)
 refine ADet.introFz [(2,[B (mIs σ.made s)],106),(0,[.ptr (c.d+1) c.jF 0],103),(1,[Sg s],9)] mixed call153 func153 rfl ?_;simp[ntmps153];refine dB [(0,9),(3,9),(4,9),(5,9)] (by kernel_rfl) ?_
 rcases zDi s σ.made 0 with⟨h1,h2,h3⟩|⟨j,b,h1,h2,h3⟩
 .have hi:mIs σ.made s=false:=by unfold mIs;rw[h1];rfl
  simp only[h1,Option.isNone_none]at hT;simp[ho,hm,h2];refine cq (pc true _) ?_;simp;rw[hT];refine dB [] (by kernel_rfl) ?_
  rw[h3]at Pb;simp[Ba,pm,h2,n1,xr,zO8,FzOk,AV.fz,AV.fzs,clo,hi,zBH]
  simpa [mdO,fnO,mdE]using Pb
 have hi:mIs σ.made s=b:=by unfold mIs;rw[h1];rfl
 simp[ho,hm,h2];refine cq (pc false _) ?_;simp;simp only[h1,Option.isNone_some]at hT;rw[hT];refine dB [] (by kernel_rfl) ?_
 simp only[mdO]at Pb;rw[h3]at Pb;simp[Ba,pm,h2,n1,xr,zO8,FzOk,AV.fz,AV.fzs,clo,hi,zBH]
 simpa [fnO]using Pb
end Go.Proofs.YtdflkegnmmkkoaaGreatDoor
namespace Go.Proofs.YtdflkegnmmkkoaaGreatDoor
open Go.RowKit _root_.Go.Proofs.Tryz
attribute [local simp] List.replicate List.range List.range.loop
theorem zL6(S:ASt)(L:List AObj)(d:Nat):ADet Tryz.prog 63 [.ptr d 3 0] (L::S) (.ptr 0 (L.length+1) 0) ((L++[.map [],.cells [.ptr d 3 0,.mp 0 L.length,I 0,I 0] 109])::S):=by
 refine ADet.flat mixed call63 func63 rfl ?_;simp[ntmps63]
abbrev fiZ1:AV:=.agg [Sg emS,U 0,Sg emS,nilS]
def zHk(l:List Fi)(s:BA):AV:=match zBy l s with|some v=>.tup [fiV v,B true]|none=>.tup [fiZ1,B false]
theorem zL7{l:List Fi}{s:BA}(h:∀i (hi:i<l.length),sEq l[i].name s=false):zBy l s=none:=by
 unfold zBy;rw[List.find?_eq_none];intro x hx
 obtain⟨i,hi,rfl⟩:=List.getElem_of_mem hx
 rw[h i hi];simp
theorem zL8{l:List Fi}{s:BA}{q:Nat}(h:∀i (hi:i<l.length),i<q->sEq l[i].name s=false)(hq:q<l.length)(hp:sEq l[q].name s=true):zBy l s=some l[q]:=by
 unfold zBy;rw[List.find?_eq_some_iff_getElem];exact⟨hp,q,hq,rfl,fun j hj=>by rw[h j (by omega) hj];rfl⟩
theorem zKs(x:It)(s:BA)(S:ASt):ADet Tryz.prog 159 [itV x,Sg s] S (zHk x.fields s) S:=by
 refine ADet.okA call159 0 2 rfl rfl fun na=>?_
 have ca:=okl na
 unfold zHk;refine ADet.intro mixed call159 func159 rfl ?_;simp[ntmps159];refine zF (fun q:Nat=>q<=x.fields.length/\∀i (hi:i<x.fields.length),i<q->sEq x.fields[i].name s=false) (fun q=>[.any,Sg s,.ptr 0 0 0,.any,.ptr 0 1 0,.any,.any,.any,.any,.p (.sl 4 (x.fields.map Fi.enc)),I x.fields.length,I q,.any,.any,.any,.any,.any,.any,.any,.any,.any,.any]) (fun q=>[.cells (itU x) 45,.cells [Sg emS,U 0,Sg emS,nilS] 60]::S) (fun q=>x.fields.length-q) 0 ⟨Nat.zero_le _,fun i hi h=>by omega⟩ ?_ ?_ ?_
 .simp
 .simp
 rintro q ⟨hq,ia⟩
 by_cases hlt:q<x.fields.length
 .have aa:(q:Int)<(x.fields.length:Int):=by omega
  have hw:=zB hlt
  have hs:=zL8 ia hlt
  generalize hf:x.fields[q]=f at*
  cases hp:sEq f.name s with
  |true=>
   have hs:=hs hp
   simp[hlt,aa,hf,Fi.enc,hp,hs]
  |false=>
   simp[hlt,aa,hf,Fi.enc,hp]
   exact⟨q+1,⟨hlt,fun i hi h=>by
    rcases Nat.lt_or_ge i q with h'|h'
    .exact ia i hi h'
    obtain rfl:i=q:=by omega
    rw[hf];exact hp⟩,by omega,hw⟩
 have aa:¬(q:Int)<(x.fields.length:Int):=by omega
 have hs:=zL7 fun i hi=>ia i hi (by omega)
 simp[aa,hs]
def zGV:List (BA × Nat)->BA->List (BA × Nat)
 | [],s=>[(s,1)]
 |e::m,s=>if sEq s e.1=true then(s,e.2+1)::m else e::zGV m s
def zGW:List (BA × Nat)->BA->Nat
 | [],_=>0
 |e::m,s=>if sEq s e.1=true then e.2 else zGW m s
def ctE(m:List (BA × Nat)):List (Value × AV):=m.map fun e=>(.string e.1,I e.2)
def metC(l:List BA):List (BA × Nat):=l.foldl zGV []
theorem zGx(m:List (BA × Nat))(s t:BA):zGW (zGV m s) t=zGW m t+if sEq s t=true then 1 else 0:=by
 induction m with
 |nil=>
  simp only[zGV,zGW]
  rw[show sEq t s=sEq s t by
   by_cases h:t=s
   .subst h;rfl
   rw[zCg h,zCg fun e=>h e.symm]]
  split<;>rfl
 |cons e m ih=>
  unfold zGV
  by_cases h:sEq s e.1=true
  .rw[if_pos h]
   have:=zCR.1 h
   subst this;unfold zGW
   by_cases ht:t=e.1
   .subst ht;simp
   rw[if_neg (by rw[zCg ht];simp),if_neg (by rw[zCg ht];simp),if_neg (by rw[zCg fun e=>ht e.symm];simp),Nat.add_zero]
  rw[if_neg h]
  unfold zGW
  by_cases ht:sEq t e.1=true
  .rw[if_pos ht,if_pos ht]
   have:=zCR.1 ht
   subst this;rw[if_neg h,Nat.add_zero]
  rw[if_neg ht,if_neg ht,ih]
theorem zKt(l:List BA)(s:BA):zGW (metC l) s=cntN l s:=by
 have key:∀(l:List BA) (m:List (BA × Nat)),zGW (l.foldl zGV m) s=zGW m s+cntN l s:=by
  intro l
  induction l with
  |nil=>intro m;simp[cntN]
  |cons x l ih=>
   intro m;rw[List.foldl_cons,ih,zGx];unfold cntN;rw[List.countP_cons];omega
 unfold metC;rw[key];simp[zGW]
theorem zL9(l:List BA)(s:BA):metC (l++[s])=zGV (metC l) s:=by unfold metC;rw[List.foldl_append];rfl
theorem zFR(s:BA):∀(m:List (BA × Nat)) (i:Nat),(zGW m s=0/\zAm .string (.string s) (ctE m) i=some none/\ctE (zGV m s)=ctE m++[(.string s,I 1)])\/∃j,zAm .string (.string s) (ctE m) i=some (some (i+j,I (zGW m s)))/\ctE (zGV m s)=(ctE m).set j (.string s,I (zGW m s+1:Nat))
 | [],i=>.inl ⟨rfl,rfl,rfl⟩
 |e::m,i=>by
  have hd:ctE (e::m)=(.string e.1,I e.2)::ctE m:=rfl
  rw[hd,zj,zGW,zGV]
  by_cases h:sEq s e.1=true
  .rw[if_pos h,if_pos h,if_pos h]
   exact .inr ⟨0,rfl,rfl⟩
  rw[if_neg h,if_neg h,if_neg h]
  rcases zFR s m (i+1)with⟨h1,h2,h3⟩|⟨j,h2,h3⟩
  .exact .inl ⟨h1,h2,by show(.string e.1,I e.2)::ctE (zGV m s)=_;rw[h3];rfl⟩
  refine .inr ⟨j+1,by rw[h2];congr 2;simp;omega,?_⟩
  show(.string e.1,I e.2)::ctE (zGV m s)=_
  rw[h3];rfl
theorem zJ0(n:Nat)(m:List (BA × Nat)):(ctE m).map (fun kv=>(kv.1,AV.cut n kv.2))=ctE m:=by
 unfold ctE;rw[List.map_map];rfl
theorem zTB(l:List BA)(s:BA):cntN l s<=l.length:=List.countP_le_length
abbrev arsV(l:List Ar):AV:=.p (.sl 3 (l.map Ar.enc))
def arVn(a:Ar):BA:=a.variant
theorem zIu(x:It):∀(l:List Fg) (met:List BA) (k:List Fg),zDw x met (l++k)=(zDw x met l&&zDw x (met++l.map (·.1)) k)
 | [],met,k=>by simp[zDw]
 |b::l,met,k=>by
  show zDw x met (b::(l++k))=_
  have e1:zDw x met (b::(l++k))=((match zBy x.fields b.1 with|some v=>(b.2==decide (v.type.kind≠0))|none=>false)&&(decide (cntN met b.1=0)&&zDw x (met++[b.1]) (l++k))):=rfl
  have e2:zDw x met (b::l)=((match zBy x.fields b.1 with|some v=>(b.2==decide (v.type.kind≠0))|none=>false)&&(decide (cntN met b.1=0)&&zDw x (met++[b.1]) l)):=rfl
  rw[e1,e2,zIu x l (met++[b.1]) k];simp only[List.map_cons,List.append_assoc,List.singleton_append];rw[Bool.and_assoc,Bool.and_assoc]
def zZC(x:It)(met:List BA)(a:Ar):Bool:=(match zBy x.fields a.variant with|some v=>(!sEq a.name emS)==decide (v.type.kind≠0)|none=>false)&&decide (cntN met a.variant=0)
theorem zMA(x:It)(l:List Ar){q:Nat}(h:q<l.length)(ia:zDw x [] ((l.take q).map armF)=true):zDw x [] ((l.take (q+1)).map armF)=zZC x ((l.take q).map arVn) l[q]:=by
 rw[List.take_succ_eq_append_getElem h,List.map_append,zIu,ia,Bool.true_and,List.nil_append,List.map_map];simp only[List.map_cons,List.map_nil,zDw,Bool.and_true];rfl
theorem zTC(x:It)(l:List Ar){q:Nat}(h:q<l.length)(ia:zDw x [] ((l.take q).map armF)=true)(wb:zZC x ((l.take q).map arVn) l[q]=false):zDl x (l.map armF)=false:=by
 have e:=zMA x l h ia
 rw[wb]at e
 have:l.map armF=(l.take (q+1)).map armF++(l.drop (q+1)).map armF:=by rw[<-List.map_append,List.take_append_drop]
 unfold zDl;rw[this,zIu,e];rfl
theorem zZD(x:It)(l:List Ar)(hl:l.length<=20000)(hx:x.fields.length<=20000)(S:ASt):ADet Tryz.prog 191 [itV x,arsV l] S (B (zDl x (l.map armF))) S:=by
 refine ADet.intro mixed call191 func191 rfl ?_;simp[ntmps191];refine zF (fun q:Nat=>q<=l.length/\zDw x [] ((l.take q).map armF)=true) (fun q=>([.any,arsV l,.ptr 0 0 0,.any,.any,.mp 0 1,.any,.any,.any,.any,.any,.any,.any,arsV l,I l.length,I q]++List.replicate 48 .any)) (fun q=>[.cells (itU x) 45,.map (ctE (metC ((l.take q).map arVn)))]::S) (fun q=>l.length-q) 0 ⟨Nat.zero_le _,rfl⟩ ?_ ?_ ?_
 .simp
 .simp[metC,ctE]
 rintro q ⟨hq,ia⟩
 by_cases hlt:q<l.length
 .have aa:(q:Int)<(l.length:Int):=by omega
  have hw:=zB hlt (by unfold maxLen;omega)
  have De:(l.take (q+1)).map arVn=(l.take q).map arVn++[l[q].variant]:=by rw[List.take_succ_eq_append_getElem hlt,List.map_append];rfl
  have Ca:=zMA x l hlt ia
  have wb:=zTC x l hlt ia
  have Qk:=zKt ((l.take q).map arVn) l[q].variant
  have Eb:=zTB ((l.take q).map arVn) l[q].variant
  have Zi:=zL9 ((l.take q).map arVn) l[q].variant
  rw[List.length_map,List.length_take,Nat.min_eq_left hq]at Eb
  have Pm:=fun S=>zKs x l[q].variant S
  have jb:=zFR l[q].variant (metC ((l.take q).map arVn)) 0
  have je:=zFR l[q].variant (zGV (metC ((l.take q).map arVn)) l[q].variant) 0
  rw[Qk]at jb;rw[zGx,Qk]at je;simp only[sEq_self,if_true]at je;rw[<-Zi,<-De]at je;unfold zZC at Ca wb;unfold zHk at Pm
  generalize hn:cntN ((l.take q).map arVn) l[q].variant=n at*
  have Ee:IntKind.i64.wrap ((n:Int)+1)=((n+1:Nat):Int):=zB (n:=4294967296) (by omega) (by unfold maxLen;omega)
  rw[<-De]at Zi
  have Da:l.length-(q+1)<l.length-q:=by omega
  have ya:∃j1,zAm .string (.string l[q].variant) (ctE (metC ((l.take (q+1)).map arVn))) 0=some (some (j1,I (n+1:Nat))):=by
   rcases je with⟨h1,_,_⟩|⟨j,h1,_⟩
   .omega
   exact⟨_,h1⟩
  obtain⟨j1,ya⟩:=ya
  clear je;rw[<-Zi]at jb
  generalize wg:metC ((l.take (q+1)).map arVn)=m1 at*
  generalize Uq:metC ((l.take q).map arVn)=m0 at*
  generalize ha:l[q]=a at*
  simp[hlt,aa,ha,Ar.enc];refine cq (Pm _) ?_
  have fv:(1<(n:Int)+1)=(0<n):=by rw[eq_iff_iff];omega
  rcases jb with⟨h1,h2,h3⟩|⟨j,h2,h3⟩
  .have ue:n=0:=by omega
   have Ld:IntKind.i64.wrap 1=1:=rfl
   have Db:ctE m0++[(.string a.variant,I 1)]=ctE m1:=h3.symm
   cases hvf:zBy x.fields a.variant with
   |none=>
    rw[hvf]at Ca wb;simp[h2,Db,ya,Ld,hvf]
    exact wb rfl
   |some v=>
    rw[hvf]at Ca wb;simp only at Ca wb
    by_cases hn0:n=0
    .subst hn0
     cases hs:sEq a.name emS with
     |true=>
      by_cases hz:v.type.kind=0
      .have Kc:(v.type.kind !=0)=false:=by simpa using hz
       simp[h2,Db,ya,Ld,hvf,hs,hz,Kc];exact⟨q+1,⟨hlt,by rw[<-List.map_take,Ca,hs,hz];rfl⟩,Da,hw,by rw[zJ0,<-List.map_take,wg]⟩
      have Kc:(v.type.kind !=0)=true:=by simpa using hz
      simp[h2,Db,ya,Ld,hvf,hs,Kc]
      exact wb (by rw[hs];simp[hz])
     |false=>
      by_cases hz:v.type.kind=0
      .have Kc:(v.type.kind !=0)=false:=by simpa using hz
       simp[h2,Db,ya,Ld,hvf,hs,Kc];exact wb (by rw[hs];simp[hz])
      have Kc:(v.type.kind !=0)=true:=by simpa using hz
      simp[h2,Db,ya,Ld,hvf,hs,hz,Kc];exact⟨q+1,⟨hlt,by rw[<-List.map_take,Ca,hs];simp[hz]⟩,Da,hw,by rw[zJ0,<-List.map_take,wg]⟩
    have ld:(0<n):=by omega
    have hn2:(1:Int)<(n:Int)+1:=by omega
    have wb:=wb (by simp[hn0])
    cases hs:sEq a.name emS with
    |true=>
     by_cases hz:v.type.kind=0
     .have Kc:(v.type.kind !=0)=false:=by simpa using hz
      simp[h2,Db,ya,Ld,hvf,hs,Kc,hn0,ld,hn2,wb]
     have Kc:(v.type.kind !=0)=true:=by simpa using hz
     simp[h2,Db,ya,Ld,hvf,hs,Kc,hn0,ld,hn2,wb]
    |false=>
     by_cases hz:v.type.kind=0
     .have Kc:(v.type.kind !=0)=false:=by simpa using hz
      simp[h2,Db,ya,Ld,hvf,hs,Kc,hn0,ld,hn2,wb]
     have Kc:(v.type.kind !=0)=true:=by simpa using hz
     simp[h2,Db,ya,Ld,hvf,hs,Kc,hn0,ld,hn2,wb]
  have Db:(ctE m0).set j (.string a.variant,I ((n:Int)+1))=ctE m1:=h3.symm
  cases hvf:zBy x.fields a.variant with
  |none=>
   rw[hvf]at Ca wb;simp[h2,Db,ya,Ee,hvf]
   exact wb rfl
  |some v=>
   rw[hvf]at Ca wb;simp only at Ca wb
   by_cases hn0:n=0
   .subst hn0
    have Db:(ctE m0).set j (.string a.variant,I 1)=ctE m1:=by simpa using Db
    have ya:zAm .string (.string a.variant) (ctE m1) 0=some (some (j1,I 1)):=by simpa using ya
    have Ld:IntKind.i64.wrap 1=1:=rfl
    cases hs:sEq a.name emS with
    |true=>
     by_cases hz:v.type.kind=0
     .have Kc:(v.type.kind !=0)=false:=by simpa using hz
      simp[h2,Db,ya,Ld,hvf,hs,hz,Kc];exact⟨q+1,⟨hlt,by rw[<-List.map_take,Ca,hs,hz];rfl⟩,Da,hw,by rw[zJ0,<-List.map_take,wg]⟩
     have Kc:(v.type.kind !=0)=true:=by simpa using hz
     simp[h2,Db,ya,Ld,hvf,hs,Kc]
     exact wb (by rw[hs];simp[hz])
    |false=>
     by_cases hz:v.type.kind=0
     .have Kc:(v.type.kind !=0)=false:=by simpa using hz
      simp[h2,Db,ya,Ld,hvf,hs,Kc];exact wb (by rw[hs];simp[hz])
     have Kc:(v.type.kind !=0)=true:=by simpa using hz
     simp[h2,Db,ya,Ld,hvf,hs,hz,Kc];exact⟨q+1,⟨hlt,by rw[<-List.map_take,Ca,hs];simp[hz]⟩,Da,hw,by rw[zJ0,<-List.map_take,wg]⟩
   have ld:(0<n):=by omega
   have hn2:(1:Int)<(n:Int)+1:=by omega
   have wb:=wb (by simp[hn0])
   cases hs:sEq a.name emS with
   |true=>
    by_cases hz:v.type.kind=0
    .have Kc:(v.type.kind !=0)=false:=by simpa using hz
     simp[h2,Db,ya,Ee,hvf,hs,Kc,hn0,ld,hn2,wb]
    have Kc:(v.type.kind !=0)=true:=by simpa using hz
    simp[h2,Db,ya,Ee,hvf,hs,Kc,hn0,ld,hn2,wb]
   |false=>
    by_cases hz:v.type.kind=0
    .have Kc:(v.type.kind !=0)=false:=by simpa using hz
     simp[h2,Db,ya,Ee,hvf,hs,Kc,hn0,ld,hn2,wb]
    have Kc:(v.type.kind !=0)=true:=by simpa using hz
    simp[h2,Db,ya,Ee,hvf,hs,Kc,hn0,ld,hn2,wb]
 have aa:¬(q:Int)<(l.length:Int):=by omega
 have Pa:q=l.length:=by omega
 subst Pa;rw[List.take_length]at ia;simp;clear hlt aa hq
 have nu:(l.map armF).map (·.1)=l.map arVn:=by rw[List.map_map];rfl
 have Vp:zDl x (l.map armF)=x.fields.all fun v=>decide (0<cntN (l.map arVn) v.name):=by
  unfold zDl;rw[ia,Bool.true_and,nu]
 have Qm:x.fields.length<=maxLen:=by unfold maxLen;omega
 rw[Vp];refine zF (fun q:Nat=>q<=x.fields.length/\∀i (hi:i<x.fields.length),i<q->0<cntN (l.map arVn) x.fields[i].name) (fun q=>([.any,.any,.ptr 0 0 0,.any,.any,.mp 0 1]++(List.replicate 46 .any++[.p (.sl 4 (x.fields.map Fi.enc)),I x.fields.length,I q,.any,.any,.any,.any,.any,.any,.any,.any,.any]))) (fun q=>[.cells (itU x) 45,.map (ctE (metC (l.map arVn)))]::S) (fun q=>x.fields.length-q) 0 ⟨Nat.zero_le _,fun i hi h=>by omega⟩ ?_ ?_ ?_
 .simp
 .simp
 rintro q ⟨hq,ce⟩
 by_cases hlt:q<x.fields.length
 .have aa:(q:Int)<(x.fields.length:Int):=by omega
  have hw:=zB hlt Qm
  have Qk:=zKt (l.map arVn) x.fields[q].name
  have jb:=zFR x.fields[q].name (metC (l.map arVn)) 0
  rw[Qk]at jb
  have wb:cntN (l.map arVn) x.fields[q].name=0->(x.fields.all fun v=>decide (0<cntN (l.map arVn) v.name))=false:=fun h0=>by
   rw[List.all_eq_false];exact⟨_,List.getElem_mem hlt,by rw[h0];simp⟩
  have Da:x.fields.length-(q+1)<x.fields.length-q:=by omega
  have Ca:∀n,n=cntN (l.map arVn) x.fields[q].name->0<n->∀i (hi:i<x.fields.length),i<q+1->0<cntN (l.map arVn) x.fields[i].name:=fun n hn h0 i hi Mg=>by
   rcases Nat.lt_or_ge i q with h'|h'
   .exact ce i hi h'
   obtain rfl:i=q:=by omega
   rw[<-hn];exact h0
  generalize hn:cntN (l.map arVn) x.fields[q].name=n at*
  generalize Ng:x.fields[q]=f at*
  generalize (x.fields.all fun v=>decide (0<cntN (l.map arVn) v.name))=R at*
  rcases jb with⟨h1,h2,h3⟩|⟨j,h2,h3⟩
  .have hR:=wb h1
   simp[hlt,aa,Ng,Fi.enc,h2,hR]
  by_cases h0:n=0
  .have hR:=wb h0
   subst h0;simp[hlt,aa,Ng,Fi.enc,h2,hR]
  have hz:((n:Int)==0)=false:=by simpa using h0
  simp[hlt,aa,Ng,Fi.enc,h2,h0,hz];exact⟨q+1,⟨hlt,Ca n rfl (by omega)⟩,Da,hw,by rw[zJ0]⟩
 have aa:¬(q:Int)<(x.fields.length:Int):=by omega
 have hR:(x.fields.all fun v=>decide (0<cntN (l.map arVn) v.name))=true:=by
  rw[List.all_eq_true];intro v hv
  obtain⟨i,hi,rfl⟩:=List.getElem_of_mem hv
  simpa using ce i hi (by omega)
 rw[hR];simp[aa]
attribute [local simp] List.forall_mem_cons List.contains_cons List.contains_nil List.find?
theorem zOc:∀(fs:List Fi) (ss:List BA),fs.length=ss.length->(litB fs ss=true ↔ ∀i (h1:i<fs.length) (h2:i<ss.length),sEq fs[i].name ss[i]=true)
 | [],[],_=>by simp[litB]
 |f::fs,s::ss,h=>by
  have ih:=zOc fs ss (by simpa using h)
  unfold litB;rw[Bool.and_eq_true,ih];constructor
  .rintro⟨h1,h2⟩ i i1 i2
   cases i with
   |zero=>exact h1
   |succ i=>exact h2 i (by simpa using i1) (by simpa using i2)
  intro ia
  exact⟨ia 0 (by simp) (by simp),fun i i1 i2=>ia (i+1) (by simpa using i1) (by simpa using i2)⟩
 | [],_::_,h=>by simp at h
 |_::_,[],h=>by simp at h
theorem zZE(p:List It)(e:Ex)(h19:¬e.op=19)(σ:Nf)(S:ASt)(c:Cf)(h:NAt p S c σ):ADet Tryz.prog 119 [.ptr c.d c.jF 0,exV e] S (B (zCX p σ.made e.op e.name e.u2 e.place e.args.length)) S:=by
 refine ADet.okA call119 1 6 rfl rfl fun na=>?_
 have ca:=okl na
 have ho:=h.n
 have hm:=h.m
 have ht:=h.k.t
 have hf:=h.k.f
 have hl:=h.k.l
 simp only[fnO]at ho;simp only[mdO]at hm;simp only[nlO,Cf.e]at hl;simp only[Cf.e]at ht hf
 have mg:∀L:List AObj,get2 (L::S) (c.k+(c.d+1)) 3=some (.cells [.mp 0 1,.mp 0 2,.rsl 0 4 σ.fl.length 2] 98):=fun L=>hl
 have vl:∀L:List AObj,get2 (L::S) (c.k+(c.d+1)) 2=some (.map (itE (zAL p true p.length))):=fun L=>hf
 unfold zCX
 have Rm:=fun k=>zJz p k e.name σ.fl S _ h.k
 have wd:=fun k L=>zJz p k e.name σ.fl (L::S) _ (h.k.cons L)
 simp only[Cf.e]at wd;unfold zQC at wd;refine ADet.intro mixed call119 func119 rfl ?_
 by_cases Tf:e.op=18
 .obtain⟨j,hj⟩:=zOp p e.name
  simp[ntmps119,Tf];refine dB [(3,13),(6,13),(8,13),(9,13)] (by kernel_rfl) ?_
  cases Wc:fnIt p e.name with
  |none=>
   rw[Wc]at hj;simp only[Option.map_none]at hj
   simp[ho,mg,vl,hj]
  |some x=>
   rw[Wc]at hj;simp only[Option.map_some]at hj;simp[ho,mg,vl,hj];rw[Bool.eq_iff_iff,beq_iff_eq,decide_eq_true_eq];omega
 have ou:(e.op==18)=false:=by simpa using Tf
 by_cases h20:e.op=20
 .have Pm:=fun x S=>zKs x e.u2 S
  have pu:∀S,ADet Tryz.prog 159 [itZ1,Sg e.u2] S (.tup [fiZ1,B false]) S:=fun S=>ADet.sub (by repeat' constructor) (zKs ⟨0,emS,[],.mk 0 emS [],[],.mk 0 0 emS emS ⟨emS,[]⟩ [] 0,0⟩ e.u2 S)
  unfold zHk at Pm;simp[ntmps119,h20];refine zEj [(10,11,7)] [] (by kernel_rfl) (by kernel_rfl) (by kernel_rfl) (by simp) ?_
  cases Wc:zK p e.name with
  |none=>
   rw[Wc]at wd;simp[ho];refine cq (wd 2 _) ?_;simp;refine cq (pu _) ?_
   simp
  |some x=>
   rw[Wc]at wd;simp[ho];refine cq (wd 2 _) ?_;simp;refine cq (Pm _ _) ?_
   cases hvf:zBy x.fields e.u2 with
   |none=>
    by_cases hk:x.kind=2
    .simp[hk]
    simp[hk]
   |some v=>
    by_cases hk:x.kind=2
    .simp[hk]
     by_cases hz:v.type.kind=0
     .simp[hz]
     have Kc:(v.type.kind !=0)=true:=by simpa using hz
     simp[hz,Kc]
    simp[hk]
 have qu:(e.op==20)=false:=by simpa using h20
 have ru:(e.op==19)=false:=by simpa using h19
 simp[ntmps119,Tf,h20,h19,ou,qu,ru];refine dB [] (by kernel_rfl) ?_
 cases hs:sEq e.place.name emS with
 |true=>simp[hs]
 |false=>
  rcases zDi e.place.name σ.made 0 with⟨h1,h2,h3⟩|⟨j,b,h1,h2,h3⟩
  .have hi:mIs σ.made e.place.name=false:=by unfold mIs;rw[h1];rfl
   simp[hs,ho,hm,h2,hi]
  have hi:mIs σ.made e.place.name=b:=by unfold mIs;rw[h1];rfl
  simp[hs,ho,hm,h2,hi]
theorem zZF(p:List It)(e:Ex)(h19:e.op=19)(Ma:e.place.path.length=e.args.length)(σ:Nf)(S:ASt)(c:Cf)(h:NAt p S c σ):ADet Tryz.prog 119 [.ptr c.d c.jF 0,exV e] S (B (zCX p σ.made e.op e.name e.u2 e.place e.args.length)) S:=by
 refine ADet.okA call119 1 6 rfl rfl fun na=>?_
 have ca:=okl na
 have ho:=h.n
 have hm:=h.m
 have ht:=h.k.t
 have hf:=h.k.f
 have hl:=h.k.l
 simp only[fnO]at ho;simp only[mdO]at hm;simp only[nlO,Cf.e]at hl;simp only[Cf.e]at ht hf
 have mg:∀L:List AObj,get2 (L::S) (c.k+(c.d+1)) 3=some (.cells [.mp 0 1,.mp 0 2,.rsl 0 4 σ.fl.length 2] 98):=fun L=>hl
 have vl:∀L:List AObj,get2 (L::S) (c.k+(c.d+1)) 2=some (.map (itE (zAL p true p.length))):=fun L=>hf
 unfold zCX
 have Rm:=fun k=>zJz p k e.name σ.fl S _ h.k
 have wd:=fun k L=>zJz p k e.name σ.fl (L::S) _ (h.k.cons L)
 simp only[Cf.e]at wd;unfold zQC at wd;refine ADet.intro mixed call119 func119 rfl ?_;simp[ntmps119,h19];refine zEj [(10,11,11)] [] (by kernel_rfl) (by kernel_rfl) (by kernel_rfl) (by simp) ?_
 cases Wc:zK p e.name with
 |none=>
  rw[Wc]at wd;simp[ho];refine cq (wd 1 _) ?_;simp;refine zF (fun q:Nat=>q=0) (fun q=>([.ptr (c.d+1) c.jF 0,.any,.any,.ptr 0 0 0,.any,.any,.any,.any,.any,.any,.any,.any,B false,I q]++List.replicate 122 .any)) (fun q=>[.cells [U e.op,I e.int,Sg e.name,Sg e.u2,Sg e.place.name,.p (strs e.place.path),.p (.sl 8 (e.args.map Ex.enc)),I e.pos] 43,.dead]::S) (fun q=>0) 0 rfl ?_ ?_ ?_
  .simp
  .simp[h19]
  rintro q rfl
  by_cases hz:0<e.args.length
  .simp[hz]
  simp[hz]
 |some x=>
  rw[Wc]at wd;simp[ho];refine cq (wd 1 _) ?_
  by_cases hk:x.kind=1
  .by_cases hn:x.fields.length=e.args.length
   .simp[hk,hn]
    have lj:e.place.path.length=x.fields.length:=by omega
    have Bp:x.fields.length<=maxLen:=by rw[hn];exact ca
    obtain⟨R,hR⟩:∃R,R=litB x.fields e.place.path:=⟨_,rfl⟩
    have Zk:=zOc x.fields e.place.path lj.symm
    rw[<-hR]at Zk;refine zF (fun y:Nat × Bool=>y.1<=x.fields.length/\(y.2=true->∀i (h1:i<x.fields.length) (h2:i<e.place.path.length),i<y.1->sEq x.fields[i].name e.place.path[i]=true)/\(y.2=false->R=false)) (fun y=>([.ptr (c.d+1) c.jF 0,.any,.any,.ptr 0 0 0,.any,.any,.any,.any,.any,.any,.any,.ptr 0 1 0,B y.2,I y.1]++List.replicate 122 .any)) (fun y=>[.cells [U e.op,I e.int,Sg e.name,Sg e.u2,Sg e.place.name,.p (strs e.place.path),.p (.sl 8 (e.args.map Ex.enc)),I e.pos] 43,.cells (itU x) 45]::S) (fun y=>x.fields.length-y.1) (0,true) ⟨Nat.zero_le _,fun _ i _ _ h=>absurd h (by simp),fun h=>by cases h⟩ ?_ ?_ ?_
    .simp
    .simp[h19,hk]
    rintro⟨q,b⟩ ⟨hq,Wp,pg⟩
    simp only at hq Wp pg
    by_cases hlt:q<x.fields.length
    .have aa:(q:Int)<(e.args.length:Int):=by omega
     cases b with
     |false=>
      have Xp:=pg rfl
      simp[aa,<-hR,Xp]
     |true=>
      have hw:=zB hlt Bp
      have ym:q<e.place.path.length:=by omega
      simp[aa];refine dB [] (by kernel_rfl) ?_
      have Da:x.fields.length-(q+1)<x.fields.length-q:=by omega
      have Xa:∀b',sEq x.fields[q].name e.place.path[q]=b'->(b'=true->∀i (h1:i<x.fields.length) (h2:i<e.place.path.length),i<q+1->sEq x.fields[i].name e.place.path[i]=true)/\(b'=false->R=false):=fun b' hb=>by
       refine⟨fun Bg i h1 h2 hi=>?_,fun Bg=>?_⟩
       .rcases Nat.lt_or_ge i q with h'|h'
        .exact Wp rfl i h1 h2 h'
        obtain rfl:i=q:=by omega
        rw[hb,Bg]
       cases hRR:R with
       |false=>rfl
       |true=>
        have:=Zk.1 hRR q hlt ym
        rw[hb,Bg]at this;cases this
      generalize Ng:x.fields[q]=f at*
      generalize su:e.place.path[q]=s at*
      simp[hlt,ym,Ng,su,Fi.enc,strs]
      by_cases hb:sEq f.name s=true
      .exact⟨q+1,.inr ⟨⟨hlt,(Xa true hb).1 rfl⟩,Da,hb,hw⟩⟩
      have Bg:sEq f.name s=false:=by simpa using hb
      exact⟨q+1,.inl ⟨⟨hlt,(Xa false Bg).2 rfl⟩,Da,Bg,hw⟩⟩
    have aa:¬(q:Int)<(e.args.length:Int):=by omega
    cases b with
    |false=>
     have Xp:=pg rfl
     simp[aa,<-hR,Xp]
    |true=>
     have tu:R=true:=Zk.2 fun i h1 h2=>Wp rfl i h1 h2 (by omega)
     simp[aa,<-hR,tu]
   have wn:((x.fields.length:Int)==(e.args.length:Int))=false:=by simpa using fun h=>hn (by omega)
   simp[hk,hn,wn];refine zF (fun q:Nat=>q=0) (fun q=>([.ptr (c.d+1) c.jF 0,.any,.any,.ptr 0 0 0,.any,.any,.any,.any,.any,.any,.any,.any,B false,I q]++List.replicate 122 .any)) (fun q=>[.cells [U e.op,I e.int,Sg e.name,Sg e.u2,Sg e.place.name,.p (strs e.place.path),.p (.sl 8 (e.args.map Ex.enc)),I e.pos] 43,.dead]::S) (fun q=>0) 0 rfl ?_ ?_ ?_
   .simp
   .simp[h19]
   rintro q rfl
   by_cases hz:0<e.args.length
   .simp[hz]
   simp[hz]
  simp[hk]
  refine zF (fun q:Nat=>q=0) (fun q=>([.ptr (c.d+1) c.jF 0,.any,.any,.ptr 0 0 0,.any,.any,.any,.any,.any,.any,.any,.any,B false,I q]++List.replicate 122 .any)) (fun q=>[.cells [U e.op,I e.int,Sg e.name,Sg e.u2,Sg e.place.name,.p (strs e.place.path),.p (.sl 8 (e.args.map Ex.enc)),I e.pos] 43,.dead]::S) (fun q=>0) 0 rfl ?_ ?_ ?_
  .simp
  .simp[h19]
  rintro q rfl
  by_cases hz:0<e.args.length
  .simp[hz]
  simp[hz]
theorem zW8(p:List It)(e:Ex)(he:e.op=19->e.place.path.length=e.args.length)(σ:Nf)(S:ASt)(c:Cf)(h:NAt p S c σ):ADet Tryz.prog 119 [.ptr c.d c.jF 0,exV e] S (B (zCX p σ.made e.op e.name e.u2 e.place e.args.length)) S:=by
 by_cases h19:e.op=19
 .exact zZF p e h19 (he h19) σ S c h
 exact zZE p e h19 σ S c h
theorem zMB{e:Ex}{d:Int}(h:e.whole d=true):(e.op=19->e.place.path.length=e.args.length)/\∀x∈e.args,x.whole (d-1)=true:=by
 rw[zDu]at h;simp only[Bool.and_eq_true]at h
 obtain⟨_,h1,h2⟩:=h
 refine⟨fun h19=>?_,fun x hx=>?_⟩
 .unfold zLh at h1
  simp only[Bool.and_eq_true]at h1
  have:=h1.2.2.2
  rw[h19]at this;simp[zIP,shP]at this;exact this.2.1
 unfold zv at h2
 simp only[Bool.and_eq_true,decide_eq_true_eq]at h2;rw[List.take_of_length_le (by omega)]at h2
 have:=List.all_eq_true.1 h2.2 x hx
 simp only[Bool.and_eq_true]at this;exact this.2
theorem Nf.add_nil(σ:Nf):σ.add []=σ:=by unfold Nf.add;simp
theorem Nf.add_add(σ:Nf)(a b:List Flt):(σ.add a).add b=σ.add (a++b):=by unfold Nf.add;simp
theorem zIv(p:List It):∀(e:Ex) (d:Int) (σ:Nf),e.whole d=true->σ.fl.length+e.nd<=4000000000->FC p 66 [exV e] σ (σ.add (e.nm p σ.made)):=by
 refine Ex.ind fun e ih dd σ Rc hl=>FC.intro fun S c h=>?_
 refine ADet.okA call66 1 6 rfl rfl fun na=>?_
 have ca:=okl na
 have Cd:=exNd e
 obtain⟨ak,da⟩:=zMB Rc
 obtain⟨W,hW⟩:∃W,W=zH (zCX p σ.made e.op e.name e.u2 e.place e.args.length) 60 e.pos:=⟨_,rfl⟩
 obtain⟨F,hF⟩:∃F:Nat->List Flt,F=fun q=>W++(e.args.take q).flatMap (Ex.nm p σ.made):=⟨_,rfl⟩
 have rb:F 0=W:=by rw[hF];simp
 have Xb:F e.args.length=e.nm p σ.made:=by rw[hF,hW,exNm];simp
 have Gb:∀q (h:q<e.args.length),F (q+1)=F q++e.args[q].nm p σ.made:=fun q h=>by rw[hF];simp only[List.take_succ_eq_append_getElem h,List.flatMap_append,List.append_assoc];simp
 have mu:W.length<=1:=by rw[hW];exact zr _ _ _
 have Fb:∀q (h:q<e.args.length),(σ.add (F q)).fl.length+e.args[q].nd<=4000000000:=fun q h=>by
  have e1:=zCJ Ex.nd h
  have e2:=zFG (Ex.nm p σ.made) Ex.nd (e.args.take q) fun x _=>zKS p σ.made x
  rw[hF];simp only[Nf.add,List.length_append];omega
 clear hF;rw[<-Xb]
 have ho:=(h.updF σ).n
 have hs:=zAV h
 rw[hs]at ho;simp only[fnO]at ho
 have Ha:=fun S' c' h'=>zW8 p e ak σ S' c' h'
 have ld:=fun L:List AObj=>zW8 p e ak σ (L::S) c.up (h.cons L)
 have pc:=fun b L=>(zEY p b 60 e.pos σ.fl (by omega)).inF0 h L
 have Ca:∀X,(⟨σ.made,σ.count,σ.opn,σ.fl++X⟩:Nf)=σ.add X:=fun X=>rfl
 simp only[Ca]at pc;simp only[Cf.up]at ld
 generalize hb:zCX p σ.made e.op e.name e.u2 e.place e.args.length=b at*
 refine ADet.intro mixed call66 func66 rfl ?_;simp[ntmps66,hs];refine dB [(3,6),(8,6)] (by kernel_rfl) ?_
 simp[ho];refine cq (ld _) ?_;simp;refine cq (pc b _) ?_;rw[<-hW];simp;refine zF (fun q:Nat=>q<=e.args.length) (fun q=>([.ptr (c.d+1) c.jF 0]++(List.replicate 16 .any++[.p (.sl 8 (e.args.map Ex.enc)),I e.args.length,I q,.any,.any,.any,.any,.any,.any,.any]))) (fun q=>[.cells [U e.op,I e.int,Sg e.name,Sg e.u2,Sg e.place.name,.p (strs e.place.path),.p (.sl 8 (e.args.map Ex.enc)),I e.pos] 43]::updF S c (σ.add (F q))) (fun q=>e.args.length-q) 0 (Nat.zero_le _) ?_ ?_ ?_
 .simp
 .simp[rb]
 intro q lh
 by_cases hlt:q<e.args.length
 .have aa:(q:Int)<(e.args.length:Int):=by omega
  have hw:=zB hlt
  have hx:=fun L=>(ih _ (List.getElem_mem hlt) _ (σ.add (F q)) (da _ (List.getElem_mem hlt)) (Fb q hlt)).at h L
  rw[Nf.add_add,show(σ.add (F q)).made=σ.made from rfl,<-Gb q hlt]at hx
  have Da:e.args.length-(q+1)<e.args.length-q:=by omega
  generalize he:e.args[q]=x at*
  simp[hlt,aa,he,zm];refine cq (hx _) ?_;simp;exact⟨q+1,hlt,Da,hw,rfl⟩
 have aa:¬(q:Int)<(e.args.length:Int):=by omega
 have Pa:q=e.args.length:=by omega
 subst Pa;simp
end Go.Proofs.YtdflkegnmmkkoaaGreatDoor
namespace Go.Proofs.YtdflkegnmmkkoaaGreatDoor
open Go.RowKit _root_.Go.Proofs.Tryz
attribute [local simp] List.replicate List.range List.range.loop
attribute [local simp] zIC zG7 zJY zLT zEm zGk zID zJZ zG8 zLU zJa zIE zJb zIF zLV zEn zIG zEH zF9 zIH zJc zII zFh zJX
def BdN(σ:Nf)(n:Nat):Prop:=σ.fl.length+n<=4000000000/\σ.count+n<=4000000000/\σ.opn+n<=4000000000
theorem BdN.near{σ τ:Nf}{n m k:Nat}(h:BdN σ k)(hn:Near σ n τ)(hk:n+m<=k):BdN τ m:=by
 obtain⟨h1,h2,h3⟩:=h
 obtain⟨n1,n2,n3,n4,n5⟩:=hn
 exact⟨by omega,by omega,by rw[n5];omega⟩
def zcu(c:Cf)(m:Nat)(M:List AObj)(r:AV)(df:List Fg):Prop:=
 (df=[]/\r= .p (.sl 1 [])/\∃k,M=List.replicate k .dead)\/∃k,r= .rsl 0 (m+k) df.length 1/\M=List.replicate k .dead++[.row 1 1 df.length (df.map (clo c))]
def StmC(p:List It)(s:St):Prop:=∀σ,BdN σ s.nd->∀(S:ASt) (c:Cf),NAt p S c σ->∀L:List AObj,wkL L L->∃M r,ADet Tryz.prog 118 [.ptr (c.d+1) c.jF 0,.agg (stV s)] (L::S) r ((L++M)::updF S c (s.nm p σ).1)/\zcu c.up L.length M r (s.nm p σ).2
theorem zOd{P:Program}:∀(a b:List AV) (S S1 S2:ASt),DRun P a S S1->DRun P b S1 S2->DRun P (a++b) S S2
 | [],b,S,S1,S2,h,k=>by cases h;exact k
 | .fn (.func K) xs ys::a,b,S,S1,S2,⟨T,h1,h2⟩,k=>⟨T,h1,zOd a b T S1 S2 h2 k⟩
theorem zKu(p:List It)(c:Cf):∀(df:List Fg) (σ:Nf) (S:ASt),NAt p S c σ->DRun Tryz.prog (df.map (clo c)).reverse S (updF S c (Nf.undo df σ))
 | [],σ,S,h=>by rw[Nf.undo,zAV h];rfl
 |g::df,σ,S,h=>by
  rw[List.map_cons,List.reverse_cons,Nf.undo]
  have ih:=zKu p c df σ S h
  refine zOd _ _ _ _ _ ih ?_
  have hA:=h.updF (Nf.undo df σ)
  have:=zZB p g (Nf.undo df σ) _ c hA
  rw[zC3 h]at this;exact⟨_,this,rfl⟩
theorem zFS(n:Nat)(c:Cf)(df:List Fg):AV.cuts n (df.map (clo c.up))=df.map (clo c.up):=by
 rw[zF1,List.map_map];rfl
theorem zGX(n:Nat)(c:Cf)(df:List Fg):AV.cuts n (df.map (clo c.up)).reverse=(df.map (clo c.up)).reverse:=by
 rw[<-List.map_reverse,zFS]
theorem zTD(p:List It):∀(a b:List St) (σ:Nf),St.nms p (a++b) σ=((St.nms p b (St.nms p a σ).1).1,(St.nms p a σ).2++(St.nms p b (St.nms p a σ).1).2)
 | [],b,σ=>by simp[St.nms]
 |s::a,b,σ=>by
  simp only[List.cons_append,St.nms,zTD p a b,List.append_assoc]
theorem zWG(s:St)(k N:Nat):∀o∈AObj.cells (stV s) 49::List.replicate k AObj.dead,wkL [o.cut N] [o]:=fun o ho=>by
 rcases List.mem_cons.1 ho with rfl|ho
 .exact⟨⟨rfl,ze _⟩,trivial⟩
 rw[List.eq_of_mem_replicate ho];trivial
theorem zTE(s:St)(k N n:Nat)(c:Cf)(df:List Fg):∀o∈AObj.cells (stV s) 49::(List.replicate k AObj.dead++[.row 1 1 n (df.map (clo c.up))]),wkL [o.cut N] [o]:=fun o ho=>by
 rcases List.mem_cons.1 ho with rfl|ho
 .exact⟨⟨rfl,ze _⟩,trivial⟩
 rcases List.mem_append.1 ho with ho|ho
 .rw[List.eq_of_mem_replicate ho];trivial
 rw[List.mem_singleton.1 ho]
 show wkL [AObj.row _ 1 _ (AV.cuts N _)] _
 rw[zFS];exact⟨⟨⟨rfl,rfl,rfl⟩,ze _⟩,trivial⟩
theorem zTF(p:List It)(l:List St)(hl:∀s∈l,StmC p s)(σ:Nf)(hb:BdN σ (l.map St.nd).sum)(K:Nat)(caps:List AV)(τ:Nf)(S:ASt)(c:Cf)(h:NAt p S c σ)
  (hE:∀L:List AObj,ADet Tryz.prog K (AV.ups 1 caps) (L::updF S c (St.nms p l σ).1) .un (L::updF S c τ)):
  ADet Tryz.prog 64 [.ptr c.d c.jF 0,.p (.sl 15 (l.map St.enc)),.fn (.func K) [] caps] S .un (updF S c (Nf.undo (St.nms p l σ).2 τ)):=by
 refine ADet.okP call64 1 rfl fun na=>?_
 have ca:=okl na
 have hs:=zAV h
 obtain⟨F,hF⟩:∃F:Nat->Nf × List Fg,F=fun q=>St.nms p (l.take q) σ:=⟨_,rfl⟩
 have rb:F 0=(σ,[]):=by rw[hF];simp[St.nms]
 have Xb:F l.length=St.nms p l σ:=by rw[hF];simp
 have Gb:∀q (hq:q<l.length),F (q+1)=((l[q].nm p (F q).1).1,(F q).2++(l[q].nm p (F q).1).2):=fun q hq=>by
  rw[hF];simp only[List.take_succ_eq_append_getElem hq,zTD];simp[St.nms]
 have Fb:∀q (hq:q<l.length),BdN (F q).1 l[q].nd:=fun q hq=>by
  have e1:=zCJ St.nd hq
  have e2:=(zBj p (l:=l.take q) (fun s _ σ=>zCS p s σ) σ).1
  rw[hF];exact hb.near e2 (by omega)
 clear hF;rw[<-Xb]at hE ⊢;refine ADet.introD mixed call64 func64 rfl rfl ?_;simp[ntmps64];refine zFE (fun q:Nat=>q<=l.length) (fun q=>([.ptr (c.d+1) c.jF 0,.any,.fn (.func K) [] (AV.ups 1 caps),.any,.any,.any,.any,.any,.any,.any,.p (.sl 15 (l.map St.enc)),I l.length,I q]++List.replicate 16 .any)) (fun q=>[]::updF S c (F q).1) (fun q=>((F q).2.map (clo c.up)).reverse) (fun q=>l.length-q) (fun _=>0) 0 (Nat.zero_le _) (fun _ _=>Nat.le_refl _) ?_ ?_ ?_ ?_
 .simp
 .simp[rb,hs]
 .simp[rb]
 intro q hq
 by_cases hlt:q<l.length
 .have aa:(q:Int)<(l.length:Int):=by omega
  have hw:=zB hlt
  have Wa:=Gb q hlt
  have Da:l.length-(q+1)<l.length-q:=by omega
  obtain⟨M,r,hx,ac⟩:=hl _ (List.getElem_mem hlt) (F q).1 (Fb q hlt) _ c (h.updF (F q).1) [.cells (stV l[q]) 49] ⟨⟨rfl,ze _⟩,trivial⟩
  rw[zC3 h]at hx
  generalize he:l[q]=s at*
  generalize Ta:(s.nm p (F q).1).1=σ1 at*
  generalize Fe:(s.nm p (F q).1).2=fg at*
  simp[hlt,aa,he,zCd];refine cq hx ?_
  rcases ac with⟨h1,h2,k,h3⟩|⟨k,h2,h3⟩
  .subst h2 h3
   simp;refine zFE (fun q2:Nat=>q2<=fg.length) (fun q2=>[.ptr (c.d+1) c.jF 0,.any,.fn (.func K) [] (AV.ups 1 caps),.any,.any,.any,.any,.any,.any,.any,.p (.sl 15 (l.map St.enc)),I l.length,I q,.any,.any,.any,.any,.any,.p (.sl 1 []),I 0,I q2,.any,.any,.any,.any,.any,.any,.any,.any]) (fun _=>((.cells (stV s) 49::List.replicate k .dead)::updF S c σ1)) (fun q2=>(((F q).2++fg.take q2).map (clo c.up)).reverse) (fun q2=>fg.length-q2) (fun _=>k+1) 0 (Nat.zero_le _) (fun _ _=>by simp[top]) ?_ ?_ ?_ ?_
   .simp
   .exact⟨zI9 (m:=k+1) (zWG s k (k+1)),rfl⟩
   .simp
   intro q2 Pa
   by_cases ab:q2<fg.length
   .rw[h1]at ab;simp at ab
   have qi:¬(q2:Int)<(fg.length:Int):=by omega
   have Yp:q2=fg.length:=by omega
   subst Yp;simp;refine⟨q+1,hlt,Da,hw,by rw[Wa],?_⟩
   rw[<-List.reverse_append,<-List.map_append,zGX,Wa]
  subst h2 h3
  have Nc:fg.length<=maxLen:=by
   have:=(zCS p s (F q).1).2
   have h2:=(Fb q hlt).1
   rw[he]at h2;rw[Fe]at this;unfold maxLen;omega
  simp;refine zFE (fun q2:Nat=>q2<=fg.length) (fun q2=>[.ptr (c.d+1) c.jF 0,.any,.fn (.func K) [] (AV.ups 1 caps),.any,.any,.any,.any,.any,.any,.any,.p (.sl 15 (l.map St.enc)),I l.length,I q,.any,.any,.any,.any,.any,.rsl 0 (1+k) fg.length 1,I fg.length,I q2,.any,.any,.any,.any,.any,.any,.any,.any]) (fun _=>((.cells (stV s) 49::(List.replicate k .dead++[.row 1 1 fg.length (fg.map (clo c.up))]))::updF S c σ1)) (fun q2=>(((F q).2++fg.take q2).map (clo c.up)).reverse) (fun q2=>fg.length-q2) (fun _=>k+2) 0 (Nat.zero_le _) (fun _ _=>by simp[top]) ?_ ?_ ?_ ?_
  .simp
  .exact⟨zI9 (m:=k+2) (zTE s k (k+2) fg.length c fg),rfl⟩
  .simp
  intro q2 Pa
  by_cases ab:q2<fg.length
  .have qi:(q2:Int)<(fg.length:Int):=by omega
   have xd:=zB ab Nc
   have Zp:fg.length-(q2+1)<fg.length-q2:=by omega
   have mc:(fg.map (clo c.up))[q2]? =some (clo c.up fg[q2]):=by rw[List.getElem?_map,List.getElem?_eq_getElem ab];rfl
   have De:fg.take (q2+1)=fg.take q2++[fg[q2]]:=List.take_succ_eq_append_getElem ab
   have uu:=(zTE s k (k+2) fg.length c fg)
   have ng:=zWg (N:=k+2) (S:=updF S c σ1) (by simp) uu
   have Bb:(AObj.cells (stV s) 49::(List.replicate k .dead++[.row 1 1 fg.length (fg.map (clo c.up))]))[1+k]? =some (.row 1 1 fg.length (fg.map (clo c.up))):=by
    rw[Nat.add_comm,List.getElem?_cons_succ,List.getElem?_append_right (by simp)];simp
   have Rl:=zFS (k+2) c ((F q).2++fg.take (q2+1))
   generalize hg:fg[q2]=g at*
   have kd:(clo c.up g).up 0=clo c.up g:=rfl
   generalize (AObj.cells (stV s) 49::(List.replicate k .dead++[.row 1 1 fg.length (fg.map (clo c.up))]))=LL at*
   have aq:AV.up 0 (clo c.up g)= .fn (.func 190) [] [.bx [B g.2],.bx [.ptr (c.d+1) c.jF 0],.bx [Sg g.1]]:=rfl
   have e:clo c.up g::((List.take q2 (List.map (clo c.up) fg)).reverse++(List.map (clo c.up) (F q).2).reverse)=(((F q).2++fg.take (q2+1)).map (clo c.up)).reverse:=by rw[De];simp
   have e2:AV.cuts (k+2) (clo c.up g::((List.take q2 (List.map (clo c.up) fg)).reverse++(List.map (clo c.up) (F q).2).reverse))=(List.take (q2+1) (List.map (clo c.up) fg)).reverse++(List.map (clo c.up) (F q).2).reverse:=by rw[e,zGX];simp
   simp[ab,qi,Bb,mc,hg,aq,-trim,-wkT];exact⟨q2+1,ab,Zp,⟨by omega,xd⟩,ng,e2⟩
  have qi:¬(q2:Int)<(fg.length:Int):=by omega
  have Yp:q2=fg.length:=by omega
  subst Yp;simp;refine⟨q+1,hlt,Da,hw,by rw[Wa],?_⟩
  rw[<-List.reverse_append,<-List.map_append,zGX,Wa]
 have aa:¬(q:Int)<(l.length:Int):=by omega
 have Pa:q=l.length:=by omega
 subst Pa;simp;refine cq (hE _) ?_
 have hA:=(h.updF τ).cons []
 have hd:=zKu p c.up (F l.length).2 τ _ hA
 rw[zAo,zC3 h]at hd;simp;exact⟨_,hd,rfl⟩
theorem zKv:∀(a b:List BA) (pos:Int) (σ:Nf),Nf.mkS (a++b) pos σ=((Nf.mkS b pos (Nf.mkS a pos σ).1).1,(Nf.mkS a pos σ).2++(Nf.mkS b pos (Nf.mkS a pos σ).1).2)
 | [],b,pos,σ=>by simp[Nf.mkS]
 |s::a,b,pos,σ=>by
  simp only[List.cons_append,Nf.mkS,zKv a b]
theorem zIw{p:List It}{s:BA}{pos:Int}{σ σ0:Nf}(hl:σ.fl.length+1<=4294967296)(hc:σ.count<4294967296){S:ASt}{c:Cf}(h:NAt p S c σ0)(L:List AObj):ADet Tryz.prog 153 [.ptr (c.d+1) c.jF 0,Sg s,I pos] (L::updF S c σ) (clo c.up (s,mIs σ.made s)) (L::updF S c (σ.mk1 s pos)):=by
 have:=zbd p s pos σ hl hc _ c.up ((h.updF σ).cons L)
 rw[zAo,zC3 h]at this;exact this
theorem zGY(p:List It)(l:List St)(hl:∀s∈l,StmC p s)(pos:Int)(names:List BA)(σ:Nf)(hb:BdN σ (names.length+(l.map St.nd).sum)):FC p 158 [.p (.sl 15 (l.map St.enc)),I pos,.p (strs names)] σ (z8 p l pos names σ):=fun S c h=>by
 refine ADet.okP call158 3 rfl fun na=>?_
 have ca:names.length<=maxLen:=okl na
 have hs:=zAV h
 obtain⟨F,hF⟩:∃F:Nat->Nf × List Fg,F=fun q=>Nf.mkS (names.take q) pos σ:=⟨_,rfl⟩
 have rb:F 0=(σ,[]):=by rw[hF];simp[Nf.mkS]
 have Xb:F names.length=Nf.mkS names pos σ:=by rw[hF];simp
 have Gb:∀q (hq:q<names.length),F (q+1)=((F q).1.mk1 names[q] pos,(F q).2++[(names[q],mIs (F q).1.made names[q])]):=fun q hq=>by
  rw[hF];simp only[List.take_succ_eq_append_getElem hq,zKv];simp[Nf.mkS]
 have Fb:∀q,q<names.length->BdN (F q).1 1:=fun q hq=>by
  have e2:=(zAT (names.take q) pos σ).1
  rw[hF];exact hb.near e2 (by simp;omega)
 have Pf:BdN (F names.length).1 (l.map St.nd).sum:=by
  rw[Xb];exact hb.near (zAT names pos σ).1 (Nat.le_refl _)
 have Pb:z8 p l pos names σ=Nf.undo (F names.length).2 (Nf.undo (St.nms p l (F names.length).1).2 (St.nms p l (F names.length).1).1):=by rw[Xb];rfl
 clear hF;rw[Pb]
 have hE:∀S:ASt,ADet Tryz.prog 193 [] S .un S:=fun S=>by
  refine ADet.intro mixed call193 func193 rfl ?_;simp[ntmps193]
 have Ca:=zTF p l hl (F names.length).1 Pf 193 [] (St.nms p l (F names.length).1).1 _ c.up ((h.updF (F names.length).1).cons []) (fun L=>hE _)
 rw[zAo,zC3 h]at Ca;refine ADet.introD mixed call158 func158 rfl rfl ?_;simp[ntmps158,strs];refine zFE (fun q:Nat=>q<=names.length) (fun q=>[.ptr (c.d+1) c.jF 0,.p (.sl 15 (l.map St.enc)),I pos,.any,.any,.any,.any,.any,.any,.any,.p (.sl 1 (names.map fun s=>[pS s])),I names.length,I q,.any,.any,.any,.any,.any,.any,.any,.any,.any,.any,.any]) (fun q=>[]::updF S c (F q).1) (fun q=>((F q).2.map (clo c.up)).reverse) (fun q=>names.length-q) (fun _=>0) 0 (Nat.zero_le _) (fun _ _=>Nat.le_refl _) ?_ ?_ ?_ ?_
 .simp
 .simp[rb,hs]
 .simp[rb]
 intro q hq
 by_cases hlt:q<names.length
 .have aa:(q:Int)<(names.length:Int):=by omega
  have hw:=zB hlt
  have Wa:=Gb q hlt
  have Da:names.length-(q+1)<names.length-q:=by omega
  have ri:=Fb q hlt
  have Sa:=fun L=>zIw (p:=p) (s:=names[q]) (pos:=pos) (σ:=(F q).1) (by have:=ri.1;omega) (by have:=ri.2.1;omega) h L
  generalize he:names[q]=s at*
  simp[hlt,aa,he];refine cq (Sa _) ?_
  have Eb:∀b,clo c.up (s,b)= .fn (.func 190) [] [.bx [B b],.bx [.ptr (c.d+1) c.jF 0],.bx [Sg s]]:=fun _=>rfl
  have e2:AV.cuts 0 (clo c.up (s,mIs (F q).1.made s)::(List.map (clo c.up) (F q).2).reverse)=(List.map (clo c.up) (F (q+1)).2).reverse:=by
   have:clo c.up (s,mIs (F q).1.made s)::(List.map (clo c.up) (F q).2).reverse=(List.map (clo c.up) ((F q).2++[(s,mIs (F q).1.made s)])).reverse:=by simp
   rw[this,zGX,Wa]
  simp[Eb];exact⟨q+1,hlt,Da,hw,by rw[Wa],e2⟩
 have aa:¬(q:Int)<(names.length:Int):=by omega
 have Pa:q=names.length:=by omega
 subst Pa;simp;refine cq Ca ?_
 have hA:=(h.updF (Nf.undo (St.nms p l (F names.length).1).2 (St.nms p l (F names.length).1).1)).cons []
 have hd:=zKu p c.up (F names.length).2 _ _ hA
 rw[zAo,zC3 h]at hd;simp;exact⟨_,hd,rfl⟩
end Go.Proofs.YtdflkegnmmkkoaaGreatDoor
