/- A part of the proof. -/
import Derived.Test.YtdflkegnmmkkoaaGreatDoorYNPa
import Derived.Test.YtdflkegnmmkkoaaGreatDoorYMLe
set_option linter.unusedVariables false
set_option linter.unusedSimpArgs false
set_option maxRecDepth 100000
set_option maxHeartbeats 32000000
namespace Go.Proofs.YtdflkegnmmkkoaaGreatDoor
open Go.RowKit _root_.Go.Proofs.Tryz
attribute [local simp] List.replicate List.range List.range.loop List.forall_mem_cons List.contains_cons List.contains_nil List.find?
theorem zOL:∀(fs:List Fi) (ss:List BA),fs.length=ss.length->(litB fs ss=true ↔ ∀i (h1:i<fs.length) (h2:i<ss.length),sEq fs[i].name ss[i]=true)
 | [],[],_=>by simp[litB]
 |f::fs,s::ss,h=>by
  have ih:=zOL fs ss (by simpa using h)
  unfold litB;rw[Bool.and_eq_true,ih];constructor
  .rintro⟨h1,h2⟩ i i1 i2
   cases i with
   |zero=>exact h1
   |succ i=>exact h2 i (by simpa using i1) (by simpa using i2)
  intro ia
  exact⟨ia 0 (by simp) (by simp),fun i i1 i2=>ia (i+1) (by simpa using i1) (by simpa using i2)⟩
 | [],_::_,h=>by simp at h
 |_::_,[],h=>by simp at h
theorem zXz(p:List It)(e:Ex)(h19:¬e.op=19)(σ:Nf)(S:ASt)(c:Cf)(h:NAt p S c σ):ADet Tryz.prog 119 [.ptr c.d c.jF 0,exV e] S (B (zFX p σ.made e.op e.name e.u2 e.place e.args.length)) S:=by
 refine ADet.okA call119 1 6 rfl rfl fun na=>?_
 have ca:=okl na
 have ho:=h.n
 have hm:=h.m
 have ht:=h.k.t
 have hf:=h.k.f
 have hl:=h.k.l
 simp only[fnO]at ho;simp only[mdO]at hm;simp only[nlO,Cf.e]at hl;simp only[Cf.e]at ht hf
 have Df:∀L:List AObj,get2 (L::S) (c.k+(c.d+1)) 3=some (.cells [.mp 0 1,.mp 0 2,.rsl 0 4 σ.fl.length 2] 98):=fun L=>hl
 have El:∀L:List AObj,get2 (L::S) (c.k+(c.d+1)) 2=some (.map (itE (zAI p true p.length))):=fun L=>hf
 unfold zFX
 have Mm:=fun k=>zJl p k e.name σ.fl S _ h.k
 have yd:=fun k L=>zJl p k e.name σ.fl (L::S) _ (h.k.cons L)
 simp only[Cf.e]at yd;unfold zPl at yd;refine ADet.intro mixed call119 func119 rfl ?_
 by_cases ph:e.op=18
 .obtain⟨j,hj⟩:=zOI p e.name
  simp[ntmps119,ph];refine dB [(3,13),(6,13),(8,13),(9,13)] (by kernel_rfl) ?_
  cases Vc:fnIt p e.name with
  |none=>
   rw[Vc]at hj;simp only[Option.map_none]at hj
   simp[ho,Df,El,hj]
  |some x=>
   rw[Vc]at hj;simp only[Option.map_some]at hj;simp[ho,Df,El,hj];rw[Bool.eq_iff_iff,beq_iff_eq,decide_eq_true_eq];omega
 have Ft:(e.op==18)=false:=by simpa using ph
 by_cases h20:e.op=20
 .have Km:=fun x S=>zKb x e.u2 S
  have Gt:∀S,ADet Tryz.prog 159 [itZ1,Sg e.u2] S (.tup [fiZ1,B false]) S:=fun S=>ADet.sub (by repeat' constructor) (zKb ⟨0,emS,[],.mk 0 emS [],[],.mk 0 0 emS emS ⟨emS,[]⟩ [] 0,0⟩ e.u2 S)
  unfold zHi at Km;simp[ntmps119,h20];refine zAs [(10,11,7)] [] (by kernel_rfl) (by kernel_rfl) (by kernel_rfl) (by simp) ?_
  cases Vc:zg p e.name with
  |none=>
   rw[Vc]at yd;simp[ho];refine cq (yd 2 _) ?_;simp;refine cq (Gt _) ?_
   simp
  |some x=>
   rw[Vc]at yd;simp[ho];refine cq (yd 2 _) ?_;simp;refine cq (Km _ _) ?_
   cases hvf:zBv x.fields e.u2 with
   |none=>
    by_cases hk:x.kind=2
    .simp[hk]
    simp[hk]
   |some v=>
    by_cases hk:x.kind=2
    .simp[hk]
     by_cases hz:v.type.kind=0
     .simp[hz]
     have Lc:(v.type.kind !=0)=true:=by simpa using hz
     simp[hz,Lc]
    simp[hk]
 have Ht:(e.op==20)=false:=by simpa using h20
 have Jt:(e.op==19)=false:=by simpa using h19
 simp[ntmps119,ph,h20,h19,Ft,Ht,Jt];refine dB [] (by kernel_rfl) ?_
 cases hs:sEq e.place.name emS with
 |true=>simp[hs]
 |false=>
  rcases zDe e.place.name σ.made 0 with⟨h1,h2,h3⟩|⟨j,b,h1,h2,h3⟩
  .have hi:mIs σ.made e.place.name=false:=by unfold mIs;rw[h1];rfl
   simp[hs,ho,hm,h2,hi]
  have hi:mIs σ.made e.place.name=b:=by unfold mIs;rw[h1];rfl
  simp[hs,ho,hm,h2,hi]
theorem zX0(p:List It)(e:Ex)(h19:e.op=19)(Ia:e.place.path.length=e.args.length)(σ:Nf)(S:ASt)(c:Cf)(h:NAt p S c σ):ADet Tryz.prog 119 [.ptr c.d c.jF 0,exV e] S (B (zFX p σ.made e.op e.name e.u2 e.place e.args.length)) S:=by
 refine ADet.okA call119 1 6 rfl rfl fun na=>?_
 have ca:=okl na
 have ho:=h.n
 have hm:=h.m
 have ht:=h.k.t
 have hf:=h.k.f
 have hl:=h.k.l
 simp only[fnO]at ho;simp only[mdO]at hm;simp only[nlO,Cf.e]at hl;simp only[Cf.e]at ht hf
 have Df:∀L:List AObj,get2 (L::S) (c.k+(c.d+1)) 3=some (.cells [.mp 0 1,.mp 0 2,.rsl 0 4 σ.fl.length 2] 98):=fun L=>hl
 have El:∀L:List AObj,get2 (L::S) (c.k+(c.d+1)) 2=some (.map (itE (zAI p true p.length))):=fun L=>hf
 unfold zFX
 have Mm:=fun k=>zJl p k e.name σ.fl S _ h.k
 have yd:=fun k L=>zJl p k e.name σ.fl (L::S) _ (h.k.cons L)
 simp only[Cf.e]at yd;unfold zPl at yd;refine ADet.intro mixed call119 func119 rfl ?_;simp[ntmps119,h19];refine zAs [(10,11,11)] [] (by kernel_rfl) (by kernel_rfl) (by kernel_rfl) (by simp) ?_
 cases Vc:zg p e.name with
 |none=>
  rw[Vc]at yd;simp[ho];refine cq (yd 1 _) ?_;simp;refine zF (fun q:Nat=>q=0) (fun q=>([.ptr (c.d+1) c.jF 0,.any,.any,.ptr 0 0 0,.any,.any,.any,.any,.any,.any,.any,.any,B false,I q]++List.replicate 122 .any)) (fun q=>[.cells [U e.op,I e.int,Sg e.name,Sg e.u2,Sg e.place.name,.p (strs e.place.path),.p (.sl 8 (e.args.map Ex.enc)),I e.pos] 43,.dead]::S) (fun q=>0) 0 rfl ?_ ?_ ?_
  .simp
  .simp[h19]
  rintro q rfl
  by_cases hz:0<e.args.length
  .simp[hz]
  simp[hz]
 |some x=>
  rw[Vc]at yd;simp[ho];refine cq (yd 1 _) ?_
  by_cases hk:x.kind=1
  .by_cases hn:x.fields.length=e.args.length
   .simp[hk,hn]
    have rj:e.place.path.length=x.fields.length:=by omega
    have kp:x.fields.length<=maxLen:=by rw[hn];exact ca
    obtain⟨R,hR⟩:∃R,R=litB x.fields e.place.path:=⟨_,rfl⟩
    have Yk:=zOL x.fields e.place.path rj.symm
    rw[<-hR]at Yk;refine zF (fun y:Nat × Bool=>y.1<=x.fields.length/\(y.2=true->∀i (h1:i<x.fields.length) (h2:i<e.place.path.length),i<y.1->sEq x.fields[i].name e.place.path[i]=true)/\(y.2=false->R=false)) (fun y=>([.ptr (c.d+1) c.jF 0,.any,.any,.ptr 0 0 0,.any,.any,.any,.any,.any,.any,.any,.ptr 0 1 0,B y.2,I y.1]++List.replicate 122 .any)) (fun y=>[.cells [U e.op,I e.int,Sg e.name,Sg e.u2,Sg e.place.name,.p (strs e.place.path),.p (.sl 8 (e.args.map Ex.enc)),I e.pos] 43,.cells (itU x) 45]::S) (fun y=>x.fields.length-y.1) (0,true) ⟨Nat.zero_le _,fun _ i _ _ h=>absurd h (by simp),fun h=>by cases h⟩ ?_ ?_ ?_
    .simp
    .simp[h19,hk]
    rintro⟨q,b⟩ ⟨hq,pp,Je⟩
    simp only at hq pp Je
    by_cases hlt:q<x.fields.length
    .have aa:(q:Int)<(e.args.length:Int):=by omega
     cases b with
     |false=>
      have qp:=Je rfl
      simp[aa,<-hR,qp]
     |true=>
      have hw:=zB hlt kp
      have Im:q<e.place.path.length:=by omega
      simp[aa];refine dB [] (by kernel_rfl) ?_
      have Ea:x.fields.length-(q+1)<x.fields.length-q:=by omega
      have Pa:∀b',sEq x.fields[q].name e.place.path[q]=b'->(b'=true->∀i (h1:i<x.fields.length) (h2:i<e.place.path.length),i<q+1->sEq x.fields[i].name e.place.path[i]=true)/\(b'=false->R=false):=fun b' hb=>by
       refine⟨fun Jg i h1 h2 hi=>?_,fun Jg=>?_⟩
       .rcases Nat.lt_or_ge i q with h'|h'
        .exact pp rfl i h1 h2 h'
        obtain rfl:i=q:=by omega
        rw[hb,Jg]
       cases hRR:R with
       |false=>rfl
       |true=>
        have:=Yk.1 hRR q hlt Im
        rw[hb,Jg]at this;cases this
      generalize Vg:x.fields[q]=f at*
      generalize Kt:e.place.path[q]=s at*
      simp[hlt,Im,Vg,Kt,Fi.enc,strs]
      by_cases hb:sEq f.name s=true
      .exact⟨q+1,.inr ⟨⟨hlt,(Pa true hb).1 rfl⟩,Ea,hb,hw⟩⟩
      have Jg:sEq f.name s=false:=by simpa using hb
      exact⟨q+1,.inl ⟨⟨hlt,(Pa false Jg).2 rfl⟩,Ea,Jg,hw⟩⟩
    have aa:¬(q:Int)<(e.args.length:Int):=by omega
    cases b with
    |false=>
     have qp:=Je rfl
     simp[aa,<-hR,qp]
    |true=>
     have Lt:R=true:=Yk.2 fun i h1 h2=>pp rfl i h1 h2 (by omega)
     simp[aa,<-hR,Lt]
   have Cn:((x.fields.length:Int)==(e.args.length:Int))=false:=by simpa using fun h=>hn (by omega)
   simp[hk,hn,Cn];refine zF (fun q:Nat=>q=0) (fun q=>([.ptr (c.d+1) c.jF 0,.any,.any,.ptr 0 0 0,.any,.any,.any,.any,.any,.any,.any,.any,B false,I q]++List.replicate 122 .any)) (fun q=>[.cells [U e.op,I e.int,Sg e.name,Sg e.u2,Sg e.place.name,.p (strs e.place.path),.p (.sl 8 (e.args.map Ex.enc)),I e.pos] 43,.dead]::S) (fun q=>0) 0 rfl ?_ ?_ ?_
   .simp
   .simp[h19]
   rintro q rfl
   by_cases hz:0<e.args.length
   .simp[hz]
   simp[hz]
  simp[hk]
  refine zF (fun q:Nat=>q=0) (fun q=>([.ptr (c.d+1) c.jF 0,.any,.any,.ptr 0 0 0,.any,.any,.any,.any,.any,.any,.any,.any,B false,I q]++List.replicate 122 .any)) (fun q=>[.cells [U e.op,I e.int,Sg e.name,Sg e.u2,Sg e.place.name,.p (strs e.place.path),.p (.sl 8 (e.args.map Ex.enc)),I e.pos] 43,.dead]::S) (fun q=>0) 0 rfl ?_ ?_ ?_
  .simp
  .simp[h19]
  rintro q rfl
  by_cases hz:0<e.args.length
  .simp[hz]
  simp[hz]
theorem zV8(p:List It)(e:Ex)(he:e.op=19->e.place.path.length=e.args.length)(σ:Nf)(S:ASt)(c:Cf)(h:NAt p S c σ):ADet Tryz.prog 119 [.ptr c.d c.jF 0,exV e] S (B (zFX p σ.made e.op e.name e.u2 e.place e.args.length)) S:=by
 by_cases h19:e.op=19
 .exact zX0 p e h19 (he h19) σ S c h
 exact zXz p e h19 σ S c h
theorem zL2{e:Ex}{d:Int}(h:e.whole d=true):(e.op=19->e.place.path.length=e.args.length)/\∀x∈e.args,x.whole (d-1)=true:=by
 rw[zCi]at h;simp only[Bool.and_eq_true]at h
 obtain⟨_,h1,h2⟩:=h
 refine⟨fun h19=>?_,fun x hx=>?_⟩
 .unfold zG7 at h1
  simp only[Bool.and_eq_true]at h1
  have:=h1.2.2.2
  rw[h19]at this;simp[zGi,shP]at this;exact this.2.1
 unfold z7 at h2
 simp only[Bool.and_eq_true,decide_eq_true_eq]at h2;rw[List.take_of_length_le (by omega)]at h2
 have:=List.all_eq_true.1 h2.2 x hx
 simp only[Bool.and_eq_true]at this;exact this.2
theorem Nf.add_nil(σ:Nf):σ.add []=σ:=by unfold Nf.add;simp
theorem Nf.add_add(σ:Nf)(a b:List Flt):(σ.add a).add b=σ.add (a++b):=by unfold Nf.add;simp
theorem zIj(p:List It):∀(e:Ex) (d:Int) (σ:Nf),e.whole d=true->σ.fl.length+e.nd<=4000000000->FC p 66 [exV e] σ (σ.add (e.nm p σ.made)):=by
 refine Ex.ind fun e ih dd σ Za hl=>FC.intro fun S c h=>?_
 refine ADet.okA call66 1 6 rfl rfl fun na=>?_
 have ca:=okl na
 have Td:=exNd e
 obtain⟨jk,da⟩:=zL2 Za
 obtain⟨W,hW⟩:∃W,W=zJ (zFX p σ.made e.op e.name e.u2 e.place e.args.length) 60 e.pos:=⟨_,rfl⟩
 obtain⟨F,hF⟩:∃F:Nat->List Flt,F=fun q=>W++(e.args.take q).flatMap (Ex.nm p σ.made):=⟨_,rfl⟩
 have yb:F 0=W:=by rw[hF];simp
 have Zb:F e.args.length=e.nm p σ.made:=by rw[hF,hW,exNm];simp
 have Jb:∀q (h:q<e.args.length),F (q+1)=F q++e.args[q].nm p σ.made:=fun q h=>by rw[hF];simp only[List.take_succ_eq_append_getElem h,List.flatMap_append,List.append_assoc];simp
 have Dt:W.length<=1:=by rw[hW];exact zu _ _ _
 have Ib:∀q (h:q<e.args.length),(σ.add (F q)).fl.length+e.args[q].nd<=4000000000:=fun q h=>by
  have e1:=zCA Ex.nd h
  have e2:=zFC (Ex.nm p σ.made) Ex.nd (e.args.take q) fun x _=>zKJ p σ.made x
  rw[hF];simp only[Nf.add,List.length_append];omega
 clear hF;rw[<-Zb]
 have ho:=(h.updF σ).n
 have hs:=zAU h
 rw[hs]at ho;simp only[fnO]at ho
 have Fa:=fun S' c' h'=>zV8 p e jk σ S' c' h'
 have kd:=fun L:List AObj=>zV8 p e jk σ (L::S) c.up (h.cons L)
 have nc:=fun b L=>(zEX p b 60 e.pos σ.fl (by omega)).inF0 h L
 have Ba:∀X,(⟨σ.made,σ.count,σ.opn,σ.fl++X⟩:Nf)=σ.add X:=fun X=>rfl
 simp only[Ba]at nc;simp only[Cf.up]at kd
 generalize hb:zFX p σ.made e.op e.name e.u2 e.place e.args.length=b at*
 refine ADet.intro mixed call66 func66 rfl ?_;simp[ntmps66,hs];refine dB [(3,6),(8,6)] (by kernel_rfl) ?_
 simp[ho];refine cq (kd _) ?_;simp;refine cq (nc b _) ?_;rw[<-hW];simp;refine zF (fun q:Nat=>q<=e.args.length) (fun q=>([.ptr (c.d+1) c.jF 0]++(List.replicate 16 .any++[.p (.sl 8 (e.args.map Ex.enc)),I e.args.length,I q,.any,.any,.any,.any,.any,.any,.any]))) (fun q=>[.cells [U e.op,I e.int,Sg e.name,Sg e.u2,Sg e.place.name,.p (strs e.place.path),.p (.sl 8 (e.args.map Ex.enc)),I e.pos] 43]::updF S c (σ.add (F q))) (fun q=>e.args.length-q) 0 (Nat.zero_le _) ?_ ?_ ?_
 .simp
 .simp[yb]
 intro q mi
 by_cases hlt:q<e.args.length
 .have aa:(q:Int)<(e.args.length:Int):=by omega
  have hw:=zB hlt
  have hx:=fun L=>(ih _ (List.getElem_mem hlt) _ (σ.add (F q)) (da _ (List.getElem_mem hlt)) (Ib q hlt)).at h L
  rw[Nf.add_add,show(σ.add (F q)).made=σ.made from rfl,<-Jb q hlt]at hx
  have Ea:e.args.length-(q+1)<e.args.length-q:=by omega
  generalize he:e.args[q]=x at*
  simp[hlt,aa,he,zf];refine cq (hx _) ?_;simp;exact⟨q+1,hlt,Ea,hw,rfl⟩
 have aa:¬(q:Int)<(e.args.length:Int):=by omega
 have Oa:q=e.args.length:=by omega
 subst Oa;simp
end Go.Proofs.YtdflkegnmmkkoaaGreatDoor
namespace Go.Proofs.YtdflkegnmmkkoaaGreatDoor
open Go.RowKit _root_.Go.Proofs.Tryz
attribute [local simp] List.replicate List.range List.range.loop
attribute [local simp] zIA zG3 zJT zLN zEk zGh zIB zJU zG4 zLO zJV zIC zJW zID zLP zEl zIE zEA zF6 zIF zJX zIG zFe zJS
def BdN(σ:Nf)(n:Nat):Prop:=σ.fl.length+n<=4000000000/\σ.count+n<=4000000000/\σ.opn+n<=4000000000
theorem BdN.near{σ τ:Nf}{n m k:Nat}(h:BdN σ k)(hn:Near σ n τ)(hk:n+m<=k):BdN τ m:=by
 obtain⟨h1,h2,h3⟩:=h
 obtain⟨n1,n2,n3,n4,n5⟩:=hn
 exact⟨by omega,by omega,by rw[n5];omega⟩
def zbZ(c:Cf)(m:Nat)(M:List AObj)(r:AV)(lf:List Fg):Prop:=
 (lf=[]/\r= .p (.sl 1 [])/\∃k,M=List.replicate k .dead)\/∃k,r= .rsl 0 (m+k) lf.length 1/\M=List.replicate k .dead++[.row 1 1 lf.length (lf.map (clo c))]
def StmC(p:List It)(s:St):Prop:=∀σ,BdN σ s.nd->∀(S:ASt) (c:Cf),NAt p S c σ->∀L:List AObj,wkL L L->∃M r,ADet Tryz.prog 118 [.ptr (c.d+1) c.jF 0,.agg (stV s)] (L::S) r ((L++M)::updF S c (s.nm p σ).1)/\zbZ c.up L.length M r (s.nm p σ).2
theorem zOM{P:Program}:∀(a b:List AV) (S S1 S2:ASt),DRun P a S S1->DRun P b S1 S2->DRun P (a++b) S S2
 | [],b,S,S1,S2,h,k=>by cases h;exact k
 | .fn (.func K) xs ys::a,b,S,S1,S2,⟨T,h1,h2⟩,k=>⟨T,h1,zOM a b T S1 S2 h2 k⟩
theorem zKd(p:List It)(c:Cf):∀(lf:List Fg) (σ:Nf) (S:ASt),NAt p S c σ->DRun Tryz.prog (lf.map (clo c)).reverse S (updF S c (Nf.undo lf σ))
 | [],σ,S,h=>by rw[Nf.undo,zAU h];rfl
 |g::lf,σ,S,h=>by
  rw[List.map_cons,List.reverse_cons,Nf.undo]
  have ih:=zKd p c lf σ S h
  refine zOM _ _ _ _ _ ih ?_
  have hA:=h.updF (Nf.undo lf σ)
  have:=zXw p g (Nf.undo lf σ) _ c hA
  rw[zCu h]at this;exact⟨_,this,rfl⟩
theorem zFN(n:Nat)(c:Cf)(lf:List Fg):AV.cuts n (lf.map (clo c.up))=lf.map (clo c.up):=by
 rw[zFz,List.map_map];rfl
theorem zGO(n:Nat)(c:Cf)(lf:List Fg):AV.cuts n (lf.map (clo c.up)).reverse=(lf.map (clo c.up)).reverse:=by
 rw[<-List.map_reverse,zFN]
theorem zSW(p:List It):∀(a b:List St) (σ:Nf),St.nms p (a++b) σ=((St.nms p b (St.nms p a σ).1).1,(St.nms p a σ).2++(St.nms p b (St.nms p a σ).1).2)
 | [],b,σ=>by simp[St.nms]
 |s::a,b,σ=>by
  simp only[List.cons_append,St.nms,zSW p a b,List.append_assoc]
theorem zVK(s:St)(k N:Nat):∀o∈AObj.cells (stV s) 49::List.replicate k AObj.dead,wkL [o.cut N] [o]:=fun o ho=>by
 rcases List.mem_cons.1 ho with rfl|ho
 .exact⟨⟨rfl,zh _⟩,trivial⟩
 rw[List.eq_of_mem_replicate ho];trivial
theorem zSX(s:St)(k N n:Nat)(c:Cf)(lf:List Fg):∀o∈AObj.cells (stV s) 49::(List.replicate k AObj.dead++[.row 1 1 n (lf.map (clo c.up))]),wkL [o.cut N] [o]:=fun o ho=>by
 rcases List.mem_cons.1 ho with rfl|ho
 .exact⟨⟨rfl,zh _⟩,trivial⟩
 rcases List.mem_append.1 ho with ho|ho
 .rw[List.eq_of_mem_replicate ho];trivial
 rw[List.mem_singleton.1 ho]
 show wkL [AObj.row _ 1 _ (AV.cuts N _)] _
 rw[zFN];exact⟨⟨⟨rfl,rfl,rfl⟩,zh _⟩,trivial⟩
theorem zSY(p:List It)(l:List St)(hl:∀s∈l,StmC p s)(σ:Nf)(hb:BdN σ (l.map St.nd).sum)(K:Nat)(caps:List AV)(τ:Nf)(S:ASt)(c:Cf)(h:NAt p S c σ)
  (hE:∀L:List AObj,ADet Tryz.prog K (AV.ups 1 caps) (L::updF S c (St.nms p l σ).1) .un (L::updF S c τ)):
  ADet Tryz.prog 64 [.ptr c.d c.jF 0,.p (.sl 15 (l.map St.enc)),.fn (.func K) [] caps] S .un (updF S c (Nf.undo (St.nms p l σ).2 τ)):=by
 refine ADet.okP call64 1 rfl fun na=>?_
 have ca:=okl na
 have hs:=zAU h
 obtain⟨F,hF⟩:∃F:Nat->Nf × List Fg,F=fun q=>St.nms p (l.take q) σ:=⟨_,rfl⟩
 have yb:F 0=(σ,[]):=by rw[hF];simp[St.nms]
 have Zb:F l.length=St.nms p l σ:=by rw[hF];simp
 have Jb:∀q (hq:q<l.length),F (q+1)=((l[q].nm p (F q).1).1,(F q).2++(l[q].nm p (F q).1).2):=fun q hq=>by
  rw[hF];simp only[List.take_succ_eq_append_getElem hq,zSW];simp[St.nms]
 have Ib:∀q (hq:q<l.length),BdN (F q).1 l[q].nd:=fun q hq=>by
  have e1:=zCA St.nd hq
  have e2:=(zCY p (l:=l.take q) (fun s _ σ=>zDN p s σ) σ).1
  rw[hF];exact hb.near e2 (by omega)
 clear hF;rw[<-Zb]at hE ⊢;refine ADet.introD mixed call64 func64 rfl rfl ?_;simp[ntmps64];refine zFA (fun q:Nat=>q<=l.length) (fun q=>([.ptr (c.d+1) c.jF 0,.any,.fn (.func K) [] (AV.ups 1 caps),.any,.any,.any,.any,.any,.any,.any,.p (.sl 15 (l.map St.enc)),I l.length,I q]++List.replicate 16 .any)) (fun q=>[]::updF S c (F q).1) (fun q=>((F q).2.map (clo c.up)).reverse) (fun q=>l.length-q) (fun _=>0) 0 (Nat.zero_le _) (fun _ _=>Nat.le_refl _) ?_ ?_ ?_ ?_
 .simp
 .simp[yb,hs]
 .simp[yb]
 intro q hq
 by_cases hlt:q<l.length
 .have aa:(q:Int)<(l.length:Int):=by omega
  have hw:=zB hlt
  have Wa:=Jb q hlt
  have Ea:l.length-(q+1)<l.length-q:=by omega
  obtain⟨M,r,hx,cc⟩:=hl _ (List.getElem_mem hlt) (F q).1 (Ib q hlt) _ c (h.updF (F q).1) [.cells (stV l[q]) 49] ⟨⟨rfl,zh _⟩,trivial⟩
  rw[zCu h]at hx
  generalize he:l[q]=s at*
  generalize Ta:(s.nm p (F q).1).1=σ1 at*
  generalize Me:(s.nm p (F q).1).2=fg at*
  simp[hlt,aa,he,zCS];refine cq hx ?_
  rcases cc with⟨h1,h2,k,h3⟩|⟨k,h2,h3⟩
  .subst h2 h3
   simp;refine zFA (fun q2:Nat=>q2<=fg.length) (fun q2=>[.ptr (c.d+1) c.jF 0,.any,.fn (.func K) [] (AV.ups 1 caps),.any,.any,.any,.any,.any,.any,.any,.p (.sl 15 (l.map St.enc)),I l.length,I q,.any,.any,.any,.any,.any,.p (.sl 1 []),I 0,I q2,.any,.any,.any,.any,.any,.any,.any,.any]) (fun _=>((.cells (stV s) 49::List.replicate k .dead)::updF S c σ1)) (fun q2=>(((F q).2++fg.take q2).map (clo c.up)).reverse) (fun q2=>fg.length-q2) (fun _=>k+1) 0 (Nat.zero_le _) (fun _ _=>by simp[top]) ?_ ?_ ?_ ?_
   .simp
   .exact⟨zIa (m:=k+1) (zVK s k (k+1)),rfl⟩
   .simp
   intro q2 Oa
   by_cases ab:q2<fg.length
   .rw[h1]at ab;simp at ab
   have pi:¬(q2:Int)<(fg.length:Int):=by omega
   have Cj:q2=fg.length:=by omega
   subst Cj;simp;refine⟨q+1,hlt,Ea,hw,by rw[Wa],?_⟩
   rw[<-List.reverse_append,<-List.map_append,zGO,Wa]
  subst h2 h3
  have jd:fg.length<=maxLen:=by
   have:=(zDN p s (F q).1).2
   have h2:=(Ib q hlt).1
   rw[he]at h2;rw[Me]at this;unfold maxLen;omega
  simp;refine zFA (fun q2:Nat=>q2<=fg.length) (fun q2=>[.ptr (c.d+1) c.jF 0,.any,.fn (.func K) [] (AV.ups 1 caps),.any,.any,.any,.any,.any,.any,.any,.p (.sl 15 (l.map St.enc)),I l.length,I q,.any,.any,.any,.any,.any,.rsl 0 (1+k) fg.length 1,I fg.length,I q2,.any,.any,.any,.any,.any,.any,.any,.any]) (fun _=>((.cells (stV s) 49::(List.replicate k .dead++[.row 1 1 fg.length (fg.map (clo c.up))]))::updF S c σ1)) (fun q2=>(((F q).2++fg.take q2).map (clo c.up)).reverse) (fun q2=>fg.length-q2) (fun _=>k+2) 0 (Nat.zero_le _) (fun _ _=>by simp[top]) ?_ ?_ ?_ ?_
  .simp
  .exact⟨zIa (m:=k+2) (zSX s k (k+2) fg.length c fg),rfl⟩
  .simp
  intro q2 Oa
  by_cases ab:q2<fg.length
  .have pi:(q2:Int)<(fg.length:Int):=by omega
   have ye:=zB ab jd
   have vp:fg.length-(q2+1)<fg.length-q2:=by omega
   have lc:(fg.map (clo c.up))[q2]? =some (clo c.up fg[q2]):=by rw[List.getElem?_map,List.getElem?_eq_getElem ab];rfl
   have Ke:fg.take (q2+1)=fg.take q2++[fg[q2]]:=List.take_succ_eq_append_getElem ab
   have Zk:=(zSX s k (k+2) fg.length c fg)
   have ug:=zVJ (N:=k+2) (S:=updF S c σ1) (by simp) Zk
   have Cb:(AObj.cells (stV s) 49::(List.replicate k .dead++[.row 1 1 fg.length (fg.map (clo c.up))]))[1+k]? =some (.row 1 1 fg.length (fg.map (clo c.up))):=by
    rw[Nat.add_comm,List.getElem?_cons_succ,List.getElem?_append_right (by simp)];simp
   have Zl:=zFN (k+2) c ((F q).2++fg.take (q2+1))
   generalize hg:fg[q2]=g at*
   have gd:(clo c.up g).up 0=clo c.up g:=rfl
   generalize (AObj.cells (stV s) 49::(List.replicate k .dead++[.row 1 1 fg.length (fg.map (clo c.up))]))=LL at*
   have xp:AV.up 0 (clo c.up g)= .fn (.func 190) [] [.bx [B g.2],.bx [.ptr (c.d+1) c.jF 0],.bx [Sg g.1]]:=rfl
   have e:clo c.up g::((List.take q2 (List.map (clo c.up) fg)).reverse++(List.map (clo c.up) (F q).2).reverse)=(((F q).2++fg.take (q2+1)).map (clo c.up)).reverse:=by rw[Ke];simp
   have e2:AV.cuts (k+2) (clo c.up g::((List.take q2 (List.map (clo c.up) fg)).reverse++(List.map (clo c.up) (F q).2).reverse))=(List.take (q2+1) (List.map (clo c.up) fg)).reverse++(List.map (clo c.up) (F q).2).reverse:=by rw[e,zGO];simp
   simp[ab,pi,Cb,lc,hg,xp,-trim,-wkT];exact⟨q2+1,ab,vp,⟨by omega,ye⟩,ug,e2⟩
  have pi:¬(q2:Int)<(fg.length:Int):=by omega
  have Cj:q2=fg.length:=by omega
  subst Cj;simp;refine⟨q+1,hlt,Ea,hw,by rw[Wa],?_⟩
  rw[<-List.reverse_append,<-List.map_append,zGO,Wa]
 have aa:¬(q:Int)<(l.length:Int):=by omega
 have Oa:q=l.length:=by omega
 subst Oa;simp;refine cq (hE _) ?_
 have hA:=(h.updF τ).cons []
 have hd:=zKd p c.up (F l.length).2 τ _ hA
 rw[zAt,zCu h]at hd;simp;exact⟨_,hd,rfl⟩
theorem zKe:∀(a b:List BA) (pos:Int) (σ:Nf),Nf.mkS (a++b) pos σ=((Nf.mkS b pos (Nf.mkS a pos σ).1).1,(Nf.mkS a pos σ).2++(Nf.mkS b pos (Nf.mkS a pos σ).1).2)
 | [],b,pos,σ=>by simp[Nf.mkS]
 |s::a,b,pos,σ=>by
  simp only[List.cons_append,Nf.mkS,zKe a b]
theorem zIk{p:List It}{s:BA}{pos:Int}{σ σ0:Nf}(hl:σ.fl.length+1<=4294967296)(hc:σ.count<4294967296){S:ASt}{c:Cf}(h:NAt p S c σ0)(L:List AObj):ADet Tryz.prog 153 [.ptr (c.d+1) c.jF 0,Sg s,I pos] (L::updF S c σ) (clo c.up (s,mIs σ.made s)) (L::updF S c (σ.mk1 s pos)):=by
 have:=zaC p s pos σ hl hc _ c.up ((h.updF σ).cons L)
 rw[zAt,zCu h]at this;exact this
theorem zGP(p:List It)(l:List St)(hl:∀s∈l,StmC p s)(pos:Int)(names:List BA)(σ:Nf)(hb:BdN σ (names.length+(l.map St.nd).sum)):FC p 158 [.p (.sl 15 (l.map St.enc)),I pos,.p (strs names)] σ (zAZ p l pos names σ):=fun S c h=>by
 refine ADet.okP call158 3 rfl fun na=>?_
 have ca:names.length<=maxLen:=okl na
 have hs:=zAU h
 obtain⟨F,hF⟩:∃F:Nat->Nf × List Fg,F=fun q=>Nf.mkS (names.take q) pos σ:=⟨_,rfl⟩
 have yb:F 0=(σ,[]):=by rw[hF];simp[Nf.mkS]
 have Zb:F names.length=Nf.mkS names pos σ:=by rw[hF];simp
 have Jb:∀q (hq:q<names.length),F (q+1)=((F q).1.mk1 names[q] pos,(F q).2++[(names[q],mIs (F q).1.made names[q])]):=fun q hq=>by
  rw[hF];simp only[List.take_succ_eq_append_getElem hq,zKe];simp[Nf.mkS]
 have Ib:∀q,q<names.length->BdN (F q).1 1:=fun q hq=>by
  have e2:=(zBJ (names.take q) pos σ).1
  rw[hF];exact hb.near e2 (by simp;omega)
 have Xf:BdN (F names.length).1 (l.map St.nd).sum:=by
  rw[Zb];exact hb.near (zBJ names pos σ).1 (Nat.le_refl _)
 have Tb:zAZ p l pos names σ=Nf.undo (F names.length).2 (Nf.undo (St.nms p l (F names.length).1).2 (St.nms p l (F names.length).1).1):=by rw[Zb];rfl
 clear hF;rw[Tb]
 have hE:∀S:ASt,ADet Tryz.prog 193 [] S .un S:=fun S=>by
  refine ADet.intro mixed call193 func193 rfl ?_;simp[ntmps193]
 have Ba:=zSY p l hl (F names.length).1 Xf 193 [] (St.nms p l (F names.length).1).1 _ c.up ((h.updF (F names.length).1).cons []) (fun L=>hE _)
 rw[zAt,zCu h]at Ba;refine ADet.introD mixed call158 func158 rfl rfl ?_;simp[ntmps158,strs];refine zFA (fun q:Nat=>q<=names.length) (fun q=>[.ptr (c.d+1) c.jF 0,.p (.sl 15 (l.map St.enc)),I pos,.any,.any,.any,.any,.any,.any,.any,.p (.sl 1 (names.map fun s=>[pS s])),I names.length,I q,.any,.any,.any,.any,.any,.any,.any,.any,.any,.any,.any]) (fun q=>[]::updF S c (F q).1) (fun q=>((F q).2.map (clo c.up)).reverse) (fun q=>names.length-q) (fun _=>0) 0 (Nat.zero_le _) (fun _ _=>Nat.le_refl _) ?_ ?_ ?_ ?_
 .simp
 .simp[yb,hs]
 .simp[yb]
 intro q hq
 by_cases hlt:q<names.length
 .have aa:(q:Int)<(names.length:Int):=by omega
  have hw:=zB hlt
  have Wa:=Jb q hlt
  have Ea:names.length-(q+1)<names.length-q:=by omega
  have qi:=Ib q hlt
  have Sa:=fun L=>zIk (p:=p) (s:=names[q]) (pos:=pos) (σ:=(F q).1) (by have:=qi.1;omega) (by have:=qi.2.1;omega) h L
  generalize he:names[q]=s at*
  simp[hlt,aa,he];refine cq (Sa _) ?_
  have Hb:∀b,clo c.up (s,b)= .fn (.func 190) [] [.bx [B b],.bx [.ptr (c.d+1) c.jF 0],.bx [Sg s]]:=fun _=>rfl
  have e2:AV.cuts 0 (clo c.up (s,mIs (F q).1.made s)::(List.map (clo c.up) (F q).2).reverse)=(List.map (clo c.up) (F (q+1)).2).reverse:=by
   have:clo c.up (s,mIs (F q).1.made s)::(List.map (clo c.up) (F q).2).reverse=(List.map (clo c.up) ((F q).2++[(s,mIs (F q).1.made s)])).reverse:=by simp
   rw[this,zGO,Wa]
  simp[Hb];exact⟨q+1,hlt,Ea,hw,by rw[Wa],e2⟩
 have aa:¬(q:Int)<(names.length:Int):=by omega
 have Oa:q=names.length:=by omega
 subst Oa;simp;refine cq Ba ?_
 have hA:=(h.updF (Nf.undo (St.nms p l (F names.length).1).2 (St.nms p l (F names.length).1).1)).cons []
 have hd:=zKd p c.up (F names.length).2 _ _ hA
 rw[zAt,zCu h]at hd;simp;exact⟨_,hd,rfl⟩
end Go.Proofs.YtdflkegnmmkkoaaGreatDoor
