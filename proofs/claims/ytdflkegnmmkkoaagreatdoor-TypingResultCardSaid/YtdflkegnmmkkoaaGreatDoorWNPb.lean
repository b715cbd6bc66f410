/- A part of the proof. -/
import Derived.Test.YtdflkegnmmkkoaaGreatDoorWNPa
set_option linter.unusedVariables false
set_option linter.unusedSimpArgs false
set_option maxRecDepth 100000
set_option maxHeartbeats 32000000
namespace Go.Proofs.YtdflkegnmmkkoaaGreatDoor
open Go.RowKit _root_.Go.Proofs.Tryz
attribute [local simp] List.replicate List.range List.range.loop List.forall_mem_cons List.contains_cons List.contains_nil List.find?
theorem zOJ:∀(fs:List Fi) (ss:List BA),fs.length=ss.length->(litB fs ss=true ↔ ∀i (h1:i<fs.length) (h2:i<ss.length),sEq fs[i].name ss[i]=true)
 | [],[],_=>by simp[litB]
 |f::fs,s::ss,h=>by
  have ih:=zOJ fs ss (by simpa using h)
  unfold litB;rw[Bool.and_eq_true,ih];constructor
  .rintro⟨h1,h2⟩ i i1 i2
   cases i with
   |zero=>exact h1
   |succ i=>exact h2 i (by simpa using i1) (by simpa using i2)
  intro ia
  exact⟨ia 0 (by simp) (by simp),fun i i1 i2=>ia (i+1) (by simpa using i1) (by simpa using i2)⟩
 | [],_::_,h=>by simp at h
 |_::_,[],h=>by simp at h
theorem zYC(p:List It)(e:Ex)(h19:¬e.op=19)(σ:Nf)(S:ASt)(c:Cf)(h:NAt p S c σ):ADet Tryz.prog 119 [.ptr c.d c.jF 0,exV e] S (B (zDG p σ.made e.op e.name e.u2 e.place e.args.length)) S:=by
 refine ADet.okA call119 1 6 rfl rfl fun na=>?_
 have ca:=okl na
 have ho:=h.n
 have hm:=h.m
 have ht:=h.k.t
 have hf:=h.k.f
 have hl:=h.k.l
 simp only[fnO]at ho;simp only[mdO]at hm;simp only[nlO,Cf.e]at hl;simp only[Cf.e]at ht hf
 have rg:∀L:List AObj,get2 (L::S) (c.k+(c.d+1)) 3=some (.cells [.mp 0 1,.mp 0 2,.rsl 0 4 σ.fl.length 2] 98):=fun L=>hl
 have Al:∀L:List AObj,get2 (L::S) (c.k+(c.d+1)) 2=some (.map (itE (zAH p true p.length))):=fun L=>hf
 unfold zDG
 have Im:=fun k=>zJW p k e.name σ.fl S _ h.k
 have wd:=fun k L=>zJW p k e.name σ.fl (L::S) _ (h.k.cons L)
 simp only[Cf.e]at wd;unfold zPr at wd;refine ADet.intro mixed call119 func119 rfl ?_
 by_cases rh:e.op=18
 .obtain⟨j,hj⟩:=zOG p e.name
  simp[ntmps119,rh];refine dB [(3,13),(6,13),(8,13),(9,13)] (by kernel_rfl) ?_
  cases Uc:fnIt p e.name with
  |none=>
   rw[Uc]at hj;simp only[Option.map_none]at hj
   simp[ho,rg,Al,hj]
  |some x=>
   rw[Uc]at hj;simp only[Option.map_some]at hj;simp[ho,rg,Al,hj];rw[Bool.eq_iff_iff,beq_iff_eq,decide_eq_true_eq];omega
 have Rt:(e.op==18)=false:=by simpa using rh
 by_cases h20:e.op=20
 .have Gm:=fun x S=>zKU x e.u2 S
  have Tt:∀S,ADet Tryz.prog 159 [itZ1,Sg e.u2] S (.tup [fiZ1,B false]) S:=fun S=>ADet.sub (by repeat' constructor) (zKU ⟨0,emS,[],.mk 0 emS [],[],.mk 0 0 emS emS ⟨emS,[]⟩ [] 0,0⟩ e.u2 S)
  unfold zHM at Gm;simp[ntmps119,h20];refine zEV [(10,11,7)] [] (by kernel_rfl) (by kernel_rfl) (by kernel_rfl) (by simp) ?_
  cases Uc:zb p e.name with
  |none=>
   rw[Uc]at wd;simp[ho];refine cq (wd 2 _) ?_;simp;refine cq (Tt _) ?_
   simp
  |some x=>
   rw[Uc]at wd;simp[ho];refine cq (wd 2 _) ?_;simp;refine cq (Gm _ _) ?_
   cases hvf:zBq x.fields e.u2 with
   |none=>
    by_cases hk:x.kind=2
    .simp[hk]
    simp[hk]
   |some v=>
    by_cases hk:x.kind=2
    .simp[hk]
     by_cases hz:v.type.kind=0
     .simp[hz]
     have Kc:(v.type.kind !=0)=true:=by simpa using hz
     simp[hz,Kc]
    simp[hk]
 have Ut:(e.op==20)=false:=by simpa using h20
 have Vt:(e.op==19)=false:=by simpa using h19
 simp[ntmps119,rh,h20,h19,Rt,Ut,Vt];refine dB [] (by kernel_rfl) ?_
 cases hs:sEq e.place.name emS with
 |true=>simp[hs]
 |false=>
  rcases zDU e.place.name σ.made 0 with⟨h1,h2,h3⟩|⟨j,b,h1,h2,h3⟩
  .have hi:mIs σ.made e.place.name=false:=by unfold mIs;rw[h1];rfl
   simp[hs,ho,hm,h2,hi]
  have hi:mIs σ.made e.place.name=b:=by unfold mIs;rw[h1];rfl
  simp[hs,ho,hm,h2,hi]
theorem zYD(p:List It)(e:Ex)(h19:e.op=19)(Na:e.place.path.length=e.args.length)(σ:Nf)(S:ASt)(c:Cf)(h:NAt p S c σ):ADet Tryz.prog 119 [.ptr c.d c.jF 0,exV e] S (B (zDG p σ.made e.op e.name e.u2 e.place e.args.length)) S:=by
 refine ADet.okA call119 1 6 rfl rfl fun na=>?_
 have ca:=okl na
 have ho:=h.n
 have hm:=h.m
 have ht:=h.k.t
 have hf:=h.k.f
 have hl:=h.k.l
 simp only[fnO]at ho;simp only[mdO]at hm;simp only[nlO,Cf.e]at hl;simp only[Cf.e]at ht hf
 have rg:∀L:List AObj,get2 (L::S) (c.k+(c.d+1)) 3=some (.cells [.mp 0 1,.mp 0 2,.rsl 0 4 σ.fl.length 2] 98):=fun L=>hl
 have Al:∀L:List AObj,get2 (L::S) (c.k+(c.d+1)) 2=some (.map (itE (zAH p true p.length))):=fun L=>hf
 unfold zDG
 have Im:=fun k=>zJW p k e.name σ.fl S _ h.k
 have wd:=fun k L=>zJW p k e.name σ.fl (L::S) _ (h.k.cons L)
 simp only[Cf.e]at wd;unfold zPr at wd;refine ADet.intro mixed call119 func119 rfl ?_;simp[ntmps119,h19];refine zEV [(10,11,11)] [] (by kernel_rfl) (by kernel_rfl) (by kernel_rfl) (by simp) ?_
 cases Uc:zb p e.name with
 |none=>
  rw[Uc]at wd;simp[ho];refine cq (wd 1 _) ?_;simp;refine zH (fun q:Nat=>q=0) (fun q=>([.ptr (c.d+1) c.jF 0,.any,.any,.ptr 0 0 0,.any,.any,.any,.any,.any,.any,.any,.any,B false,I q]++List.replicate 122 .any)) (fun q=>[.cells [U e.op,I e.int,Sg e.name,Sg e.u2,Sg e.place.name,.p (strs e.place.path),.p (.sl 8 (e.args.map Ex.enc)),I e.pos] 43,.dead]::S) (fun q=>0) 0 rfl ?_ ?_ ?_
  .simp
  .simp[h19]
  rintro q rfl
  by_cases hz:0<e.args.length
  .simp[hz]
  simp[hz]
 |some x=>
  rw[Uc]at wd;simp[ho];refine cq (wd 1 _) ?_
  by_cases hk:x.kind=1
  .by_cases hn:x.fields.length=e.args.length
   .simp[hk,hn]
    have kj:e.place.path.length=x.fields.length:=by omega
    have qp:x.fields.length<=maxLen:=by rw[hn];exact ca
    obtain⟨R,hR⟩:∃R,R=litB x.fields e.place.path:=⟨_,rfl⟩
    have Sk:=zOJ x.fields e.place.path kj.symm
    rw[<-hR]at Sk;refine zH (fun y:Nat × Bool=>y.1<=x.fields.length/\(y.2=true->∀i (h1:i<x.fields.length) (h2:i<e.place.path.length),i<y.1->sEq x.fields[i].name e.place.path[i]=true)/\(y.2=false->R=false)) (fun y=>([.ptr (c.d+1) c.jF 0,.any,.any,.ptr 0 0 0,.any,.any,.any,.any,.any,.any,.any,.ptr 0 1 0,B y.2,I y.1]++List.replicate 122 .any)) (fun y=>[.cells [U e.op,I e.int,Sg e.name,Sg e.u2,Sg e.place.name,.p (strs e.place.path),.p (.sl 8 (e.args.map Ex.enc)),I e.pos] 43,.cells (itU x) 45]::S) (fun y=>x.fields.length-y.1) (0,true) ⟨Nat.zero_le _,fun _ i _ _ h=>absurd h (by simp),fun h=>by cases h⟩ ?_ ?_ ?_
    .simp
    .simp[h19,hk]
    rintro⟨q,b⟩ ⟨hq,vp,dg⟩
    simp only at hq vp dg
    by_cases hlt:q<x.fields.length
    .have aa:(q:Int)<(e.args.length:Int):=by omega
     cases b with
     |false=>
      have xp:=dg rfl
      simp[aa,<-hR,xp]
     |true=>
      have hw:=zA hlt qp
      have Em:q<e.place.path.length:=by omega
      simp[aa];refine dB [] (by kernel_rfl) ?_
      have Aa:x.fields.length-(q+1)<x.fields.length-q:=by omega
      have Za:∀b',sEq x.fields[q].name e.place.path[q]=b'->(b'=true->∀i (h1:i<x.fields.length) (h2:i<e.place.path.length),i<q+1->sEq x.fields[i].name e.place.path[i]=true)/\(b'=false->R=false):=fun b' hb=>by
       refine⟨fun Eg i h1 h2 hi=>?_,fun Eg=>?_⟩
       .rcases Nat.lt_or_ge i q with h'|h'
        .exact vp rfl i h1 h2 h'
        obtain rfl:i=q:=by omega
        rw[hb,Eg]
       cases hRR:R with
       |false=>rfl
       |true=>
        have:=Sk.1 hRR q hlt Em
        rw[hb,Eg]at this;cases this
      generalize Qg:x.fields[q]=f at*
      generalize Wt:e.place.path[q]=s at*
      simp[hlt,Em,Qg,Wt,Fi.enc,strs]
      by_cases hb:sEq f.name s=true
      .exact⟨q+1,.inr ⟨⟨hlt,(Za true hb).1 rfl⟩,Aa,hb,hw⟩⟩
      have Eg:sEq f.name s=false:=by simpa using hb
      exact⟨q+1,.inl ⟨⟨hlt,(Za false Eg).2 rfl⟩,Aa,Eg,hw⟩⟩
    have aa:¬(q:Int)<(e.args.length:Int):=by omega
    cases b with
    |false=>
     have xp:=dg rfl
     simp[aa,<-hR,xp]
    |true=>
     have Xt:R=true:=Sk.2 fun i h1 h2=>vp rfl i h1 h2 (by omega)
     simp[aa,<-hR,Xt]
   have Cn:((x.fields.length:Int)==(e.args.length:Int))=false:=by simpa using fun h=>hn (by omega)
   simp[hk,hn,Cn];refine zH (fun q:Nat=>q=0) (fun q=>([.ptr (c.d+1) c.jF 0,.any,.any,.ptr 0 0 0,.any,.any,.any,.any,.any,.any,.any,.any,B false,I q]++List.replicate 122 .any)) (fun q=>[.cells [U e.op,I e.int,Sg e.name,Sg e.u2,Sg e.place.name,.p (strs e.place.path),.p (.sl 8 (e.args.map Ex.enc)),I e.pos] 43,.dead]::S) (fun q=>0) 0 rfl ?_ ?_ ?_
   .simp
   .simp[h19]
   rintro q rfl
   by_cases hz:0<e.args.length
   .simp[hz]
   simp[hz]
  simp[hk]
  refine zH (fun q:Nat=>q=0) (fun q=>([.ptr (c.d+1) c.jF 0,.any,.any,.ptr 0 0 0,.any,.any,.any,.any,.any,.any,.any,.any,B false,I q]++List.replicate 122 .any)) (fun q=>[.cells [U e.op,I e.int,Sg e.name,Sg e.u2,Sg e.place.name,.p (strs e.place.path),.p (.sl 8 (e.args.map Ex.enc)),I e.pos] 43,.dead]::S) (fun q=>0) 0 rfl ?_ ?_ ?_
  .simp
  .simp[h19]
  rintro q rfl
  by_cases hz:0<e.args.length
  .simp[hz]
  simp[hz]
theorem zWM(p:List It)(e:Ex)(he:e.op=19->e.place.path.length=e.args.length)(σ:Nf)(S:ASt)(c:Cf)(h:NAt p S c σ):ADet Tryz.prog 119 [.ptr c.d c.jF 0,exV e] S (B (zDG p σ.made e.op e.name e.u2 e.place e.args.length)) S:=by
 by_cases h19:e.op=19
 .exact zYD p e h19 (he h19) σ S c h
 exact zYC p e h19 σ S c h
theorem zLu{e:Ex}{d:Int}(h:e.whole d=true):(e.op=19->e.place.path.length=e.args.length)/\∀x∈e.args,x.whole (d-1)=true:=by
 rw[zE2]at h;simp only[Bool.and_eq_true]at h
 obtain⟨_,h1,h2⟩:=h
 refine⟨fun h19=>?_,fun x hx=>?_⟩
 .unfold zLS at h1
  simp only[Bool.and_eq_true]at h1
  have:=h1.2.2.2
  rw[h19]at this;simp[zH3,shP]at this;exact this.2.1
 unfold zt at h2
 simp only[Bool.and_eq_true,decide_eq_true_eq]at h2;rw[List.take_of_length_le (by omega)]at h2
 have:=List.all_eq_true.1 h2.2 x hx
 simp only[Bool.and_eq_true]at this;exact this.2
theorem Nf.add_nil(σ:Nf):σ.add []=σ:=by unfold Nf.add;simp
theorem Nf.add_add(σ:Nf)(a b:List Flt):(σ.add a).add b=σ.add (a++b):=by unfold Nf.add;simp
theorem zIR(p:List It):∀(e:Ex) (d:Int) (σ:Nf),e.whole d=true->σ.fl.length+e.nd<=4000000000->FC p 66 [exV e] σ (σ.add (e.nm p σ.made)):=by
 refine Ex.ind fun e ih dd σ Lc hl=>FC.intro fun S c h=>?_
 refine ADet.okA call66 1 6 rfl rfl fun na=>?_
 have ca:=okl na
 have Ed:=exNd e
 obtain⟨Xj,da⟩:=zLu Lc
 obtain⟨W,hW⟩:∃W,W=zI (zDG p σ.made e.op e.name e.u2 e.place e.args.length) 60 e.pos:=⟨_,rfl⟩
 obtain⟨F,hF⟩:∃F:Nat->List Flt,F=fun q=>W++(e.args.take q).flatMap (Ex.nm p σ.made):=⟨_,rfl⟩
 have Ab:F 0=W:=by rw[hF];simp
 have Yb:F e.args.length=e.nm p σ.made:=by rw[hF,hW,exNm];simp
 have Ib:∀q (h:q<e.args.length),F (q+1)=F q++e.args[q].nm p σ.made:=fun q h=>by rw[hF];simp only[List.take_succ_eq_append_getElem h,List.flatMap_append,List.append_assoc];simp
 have Pt:W.length<=1:=by rw[hW];exact zq _ _ _
 have Hb:∀q (h:q<e.args.length),(σ.add (F q)).fl.length+e.args[q].nd<=4000000000:=fun q h=>by
  have e1:=zCB Ex.nd h
  have e2:=zE3 (Ex.nm p σ.made) Ex.nd (e.args.take q) fun x _=>zJ8 p σ.made x
  rw[hF];simp only[Nf.add,List.length_append];omega
 clear hF;rw[<-Yb]
 have ho:=(h.updF σ).n
 have hs:=zAR h
 rw[hs]at ho;simp only[fnO]at ho
 have Ja:=fun S' c' h'=>zWM p e Xj σ S' c' h'
 have kd:=fun L:List AObj=>zWM p e Xj σ (L::S) c.up (h.cons L)
 have gc:=fun b L=>(zEL p b 60 e.pos σ.fl (by omega)).inF0 h L
 have Ca:∀X,(⟨σ.made,σ.count,σ.opn,σ.fl++X⟩:Nf)=σ.add X:=fun X=>rfl
 simp only[Ca]at gc;simp only[Cf.up]at kd
 generalize hb:zDG p σ.made e.op e.name e.u2 e.place e.args.length=b at*
 refine ADet.intro mixed call66 func66 rfl ?_;simp[ntmps66,hs];refine dB [(3,6),(8,6)] (by kernel_rfl) ?_
 simp[ho];refine cq (kd _) ?_;simp;refine cq (gc b _) ?_;rw[<-hW];simp;refine zH (fun q:Nat=>q<=e.args.length) (fun q=>([.ptr (c.d+1) c.jF 0]++(List.replicate 16 .any++[.p (.sl 8 (e.args.map Ex.enc)),I e.args.length,I q,.any,.any,.any,.any,.any,.any,.any]))) (fun q=>[.cells [U e.op,I e.int,Sg e.name,Sg e.u2,Sg e.place.name,.p (strs e.place.path),.p (.sl 8 (e.args.map Ex.enc)),I e.pos] 43]::updF S c (σ.add (F q))) (fun q=>e.args.length-q) 0 (Nat.zero_le _) ?_ ?_ ?_
 .simp
 .simp[Ab]
 intro q xm
 by_cases hlt:q<e.args.length
 .have aa:(q:Int)<(e.args.length:Int):=by omega
  have hw:=zA hlt
  have hx:=fun L=>(ih _ (List.getElem_mem hlt) _ (σ.add (F q)) (da _ (List.getElem_mem hlt)) (Hb q hlt)).at h L
  rw[Nf.add_add,show(σ.add (F q)).made=σ.made from rfl,<-Ib q hlt]at hx
  have Aa:e.args.length-(q+1)<e.args.length-q:=by omega
  generalize he:e.args[q]=x at*
  simp[hlt,aa,he,zg];refine cq (hx _) ?_;simp;exact⟨q+1,hlt,Aa,hw,rfl⟩
 have aa:¬(q:Int)<(e.args.length:Int):=by omega
 have Ya:q=e.args.length:=by omega
 subst Ya;simp
end Go.Proofs.YtdflkegnmmkkoaaGreatDoor
namespace Go.Proofs.YtdflkegnmmkkoaaGreatDoor
open Go.RowKit _root_.Go.Proofs.Tryz
attribute [local simp] List.replicate List.range List.range.loop
attribute [local simp] zHq zGo zJB zLE zEY zGS zHr zJC zGp zLF zJD zHs zJE zHt zLG zEZ zHu zD2 zFs zHv zJF zHw zFU zJA
def BdN(σ:Nf)(n:Nat):Prop:=σ.fl.length+n<=4000000000/\σ.count+n<=4000000000/\σ.opn+n<=4000000000
theorem BdN.near{σ τ:Nf}{n m k:Nat}(h:BdN σ k)(hn:Near σ n τ)(hk:n+m<=k):BdN τ m:=by
 obtain⟨h1,h2,h3⟩:=h
 obtain⟨n1,n2,n3,n4,n5⟩:=hn
 exact⟨by omega,by omega,by rw[n5];omega⟩
def zbx(c:Cf)(m:Nat)(M:List AObj)(r:AV)(ff:List Fg):Prop:=
 (ff=[]/\r= .p (.sl 1 [])/\∃k,M=List.replicate k .dead)\/∃k,r= .rsl 0 (m+k) ff.length 1/\M=List.replicate k .dead++[.row 1 1 ff.length (ff.map (clo c))]
def StmC(p:List It)(s:St):Prop:=∀σ,BdN σ s.nd->∀(S:ASt) (c:Cf),NAt p S c σ->∀L:List AObj,wkL L L->∃M r,ADet Tryz.prog 118 [.ptr (c.d+1) c.jF 0,.agg (stV s)] (L::S) r ((L++M)::updF S c (s.nm p σ).1)/\zbx c.up L.length M r (s.nm p σ).2
theorem zOK{P:Program}:∀(a b:List AV) (S S1 S2:ASt),DRun P a S S1->DRun P b S1 S2->DRun P (a++b) S S2
 | [],b,S,S1,S2,h,k=>by cases h;exact k
 | .fn (.func K) xs ys::a,b,S,S1,S2,⟨T,h1,h2⟩,k=>⟨T,h1,zOK a b T S1 S2 h2 k⟩
theorem zKW(p:List It)(c:Cf):∀(ff:List Fg) (σ:Nf) (S:ASt),NAt p S c σ->DRun Tryz.prog (ff.map (clo c)).reverse S (updF S c (Nf.undo ff σ))
 | [],σ,S,h=>by rw[Nf.undo,zAR h];rfl
 |g::ff,σ,S,h=>by
  rw[List.map_cons,List.reverse_cons,Nf.undo]
  have ih:=zKW p c ff σ S h
  refine zOK _ _ _ _ _ ih ?_
  have hA:=h.updF (Nf.undo ff σ)
  have:=zX9 p g (Nf.undo ff σ) _ c hA
  rw[zCn h]at this;exact⟨_,this,rfl⟩
theorem zFD(n:Nat)(c:Cf)(ff:List Fg):AV.cuts n (ff.map (clo c.up))=ff.map (clo c.up):=by
 rw[zDs,List.map_map];rfl
theorem zF9(n:Nat)(c:Cf)(ff:List Fg):AV.cuts n (ff.map (clo c.up)).reverse=(ff.map (clo c.up)).reverse:=by
 rw[<-List.map_reverse,zFD]
theorem zSc(p:List It):∀(a b:List St) (σ:Nf),St.nms p (a++b) σ=((St.nms p b (St.nms p a σ).1).1,(St.nms p a σ).2++(St.nms p b (St.nms p a σ).1).2)
 | [],b,σ=>by simp[St.nms]
 |s::a,b,σ=>by
  simp only[List.cons_append,St.nms,zSc p a b,List.append_assoc]
theorem zVS(s:St)(k N:Nat):∀o∈AObj.cells (stV s) 49::List.replicate k AObj.dead,wkL [o.cut N] [o]:=fun o ho=>by
 rcases List.mem_cons.1 ho with rfl|ho
 .exact⟨⟨rfl,za _⟩,trivial⟩
 rw[List.eq_of_mem_replicate ho];trivial
theorem zSd(s:St)(k N n:Nat)(c:Cf)(ff:List Fg):∀o∈AObj.cells (stV s) 49::(List.replicate k AObj.dead++[.row 1 1 n (ff.map (clo c.up))]),wkL [o.cut N] [o]:=fun o ho=>by
 rcases List.mem_cons.1 ho with rfl|ho
 .exact⟨⟨rfl,za _⟩,trivial⟩
 rcases List.mem_append.1 ho with ho|ho
 .rw[List.eq_of_mem_replicate ho];trivial
 rw[List.mem_singleton.1 ho]
 show wkL [AObj.row _ 1 _ (AV.cuts N _)] _
 rw[zFD];exact⟨⟨⟨rfl,rfl,rfl⟩,za _⟩,trivial⟩
theorem zSe(p:List It)(l:List St)(hl:∀s∈l,StmC p s)(σ:Nf)(hb:BdN σ (l.map St.nd).sum)(K:Nat)(caps:List AV)(τ:Nf)(S:ASt)(c:Cf)(h:NAt p S c σ)
  (hE:∀L:List AObj,ADet Tryz.prog K (AV.ups 1 caps) (L::updF S c (St.nms p l σ).1) .un (L::updF S c τ)):
  ADet Tryz.prog 64 [.ptr c.d c.jF 0,.p (.sl 15 (l.map St.enc)),.fn (.func K) [] caps] S .un (updF S c (Nf.undo (St.nms p l σ).2 τ)):=by
 refine ADet.okP call64 1 rfl fun na=>?_
 have ca:=okl na
 have hs:=zAR h
 obtain⟨F,hF⟩:∃F:Nat->Nf × List Fg,F=fun q=>St.nms p (l.take q) σ:=⟨_,rfl⟩
 have Ab:F 0=(σ,[]):=by rw[hF];simp[St.nms]
 have Yb:F l.length=St.nms p l σ:=by rw[hF];simp
 have Ib:∀q (hq:q<l.length),F (q+1)=((l[q].nm p (F q).1).1,(F q).2++(l[q].nm p (F q).1).2):=fun q hq=>by
  rw[hF];simp only[List.take_succ_eq_append_getElem hq,zSc];simp[St.nms]
 have Hb:∀q (hq:q<l.length),BdN (F q).1 l[q].nd:=fun q hq=>by
  have e1:=zCB St.nd hq
  have e2:=(zCD p (l:=l.take q) (fun s _ σ=>zCu p s σ) σ).1
  rw[hF];exact hb.near e2 (by omega)
 clear hF;rw[<-Yb]at hE ⊢;refine ADet.introD mixed call64 func64 rfl rfl ?_;simp[ntmps64];refine zE0 (fun q:Nat=>q<=l.length) (fun q=>([.ptr (c.d+1) c.jF 0,.any,.fn (.func K) [] (AV.ups 1 caps),.any,.any,.any,.any,.any,.any,.any,.p (.sl 15 (l.map St.enc)),I l.length,I q]++List.replicate 16 .any)) (fun q=>[]::updF S c (F q).1) (fun q=>((F q).2.map (clo c.up)).reverse) (fun q=>l.length-q) (fun _=>0) 0 (Nat.zero_le _) (fun _ _=>Nat.le_refl _) ?_ ?_ ?_ ?_
 .simp
 .simp[Ab,hs]
 .simp[Ab]
 intro q hq
 by_cases hlt:q<l.length
 .have aa:(q:Int)<(l.length:Int):=by omega
  have hw:=zA hlt
  have Xa:=Ib q hlt
  have Aa:l.length-(q+1)<l.length-q:=by omega
  obtain⟨M,r,hx,bc⟩:=hl _ (List.getElem_mem hlt) (F q).1 (Hb q hlt) _ c (h.updF (F q).1) [.cells (stV l[q]) 49] ⟨⟨rfl,za _⟩,trivial⟩
  rw[zCn h]at hx
  generalize he:l[q]=s at*
  generalize Sa:(s.nm p (F q).1).1=σ1 at*
  generalize Ke:(s.nm p (F q).1).2=fg at*
  simp[hlt,aa,he,zCR];refine cq hx ?_
  rcases bc with⟨h1,h2,k,h3⟩|⟨k,h2,h3⟩
  .subst h2 h3
   simp;refine zE0 (fun q2:Nat=>q2<=fg.length) (fun q2=>[.ptr (c.d+1) c.jF 0,.any,.fn (.func K) [] (AV.ups 1 caps),.any,.any,.any,.any,.any,.any,.any,.p (.sl 15 (l.map St.enc)),I l.length,I q,.any,.any,.any,.any,.any,.p (.sl 1 []),I 0,I q2,.any,.any,.any,.any,.any,.any,.any,.any]) (fun _=>((.cells (stV s) 49::List.replicate k .dead)::updF S c σ1)) (fun q2=>(((F q).2++fg.take q2).map (clo c.up)).reverse) (fun q2=>fg.length-q2) (fun _=>k+1) 0 (Nat.zero_le _) (fun _ _=>by simp[top]) ?_ ?_ ?_ ?_
   .simp
   .exact⟨zIK (m:=k+1) (zVS s k (k+1)),rfl⟩
   .simp
   intro q2 Ya
   by_cases Ia:q2<fg.length
   .rw[h1]at Ia;simp at Ia
   have li:¬(q2:Int)<(fg.length:Int):=by omega
   have yp:q2=fg.length:=by omega
   subst yp;simp;refine⟨q+1,hlt,Aa,hw,by rw[Xa],?_⟩
   rw[<-List.reverse_append,<-List.map_append,zF9,Xa]
  subst h2 h3
  have Vc:fg.length<=maxLen:=by
   have:=(zCu p s (F q).1).2
   have h2:=(Hb q hlt).1
   rw[he]at h2;rw[Ke]at this;unfold maxLen;omega
  simp;refine zE0 (fun q2:Nat=>q2<=fg.length) (fun q2=>[.ptr (c.d+1) c.jF 0,.any,.fn (.func K) [] (AV.ups 1 caps),.any,.any,.any,.any,.any,.any,.any,.p (.sl 15 (l.map St.enc)),I l.length,I q,.any,.any,.any,.any,.any,.rsl 0 (1+k) fg.length 1,I fg.length,I q2,.any,.any,.any,.any,.any,.any,.any,.any]) (fun _=>((.cells (stV s) 49::(List.replicate k .dead++[.row 1 1 fg.length (fg.map (clo c.up))]))::updF S c σ1)) (fun q2=>(((F q).2++fg.take q2).map (clo c.up)).reverse) (fun q2=>fg.length-q2) (fun _=>k+2) 0 (Nat.zero_le _) (fun _ _=>by simp[top]) ?_ ?_ ?_ ?_
  .simp
  .exact⟨zIK (m:=k+2) (zSd s k (k+2) fg.length c fg),rfl⟩
  .simp
  intro q2 Ya
  by_cases Ia:q2<fg.length
  .have li:(q2:Int)<(fg.length:Int):=by omega
   have ve:=zA Ia Vc
   have Ap:fg.length-(q2+1)<fg.length-q2:=by omega
   have mc:(fg.map (clo c.up))[q2]? =some (clo c.up fg[q2]):=by rw[List.getElem?_map,List.getElem?_eq_getElem Ia];rfl
   have He:fg.take (q2+1)=fg.take q2++[fg[q2]]:=List.take_succ_eq_append_getElem Ia
   have Yt:=(zSd s k (k+2) fg.length c fg)
   have sg:=zVQ (N:=k+2) (S:=updF S c σ1) (by simp) Yt
   have fb:(AObj.cells (stV s) 49::(List.replicate k .dead++[.row 1 1 fg.length (fg.map (clo c.up))]))[1+k]? =some (.row 1 1 fg.length (fg.map (clo c.up))):=by
    rw[Nat.add_comm,List.getElem?_cons_succ,List.getElem?_append_right (by simp)];simp
   have Yi:=zFD (k+2) c ((F q).2++fg.take (q2+1))
   generalize hg:fg[q2]=g at*
   have gd:(clo c.up g).up 0=clo c.up g:=rfl
   generalize (AObj.cells (stV s) 49::(List.replicate k .dead++[.row 1 1 fg.length (fg.map (clo c.up))]))=LL at*
   have Bp:AV.up 0 (clo c.up g)= .fn (.func 190) [] [.bx [B g.2],.bx [.ptr (c.d+1) c.jF 0],.bx [Sg g.1]]:=rfl
   have e:clo c.up g::((List.take q2 (List.map (clo c.up) fg)).reverse++(List.map (clo c.up) (F q).2).reverse)=(((F q).2++fg.take (q2+1)).map (clo c.up)).reverse:=by rw[He];simp
   have e2:AV.cuts (k+2) (clo c.up g::((List.take q2 (List.map (clo c.up) fg)).reverse++(List.map (clo c.up) (F q).2).reverse))=(List.take (q2+1) (List.map (clo c.up) fg)).reverse++(List.map (clo c.up) (F q).2).reverse:=by rw[e,zF9];simp
   simp[Ia,li,fb,mc,hg,Bp,-trim,-wkT];exact⟨q2+1,Ia,Ap,⟨by omega,ve⟩,sg,e2⟩
  have li:¬(q2:Int)<(fg.length:Int):=by omega
  have yp:q2=fg.length:=by omega
  subst yp;simp;refine⟨q+1,hlt,Aa,hw,by rw[Xa],?_⟩
  rw[<-List.reverse_append,<-List.map_append,zF9,Xa]
 have aa:¬(q:Int)<(l.length:Int):=by omega
 have Ya:q=l.length:=by omega
 subst Ya;simp;refine cq (hE _) ?_
 have hA:=(h.updF τ).cons []
 have hd:=zKW p c.up (F l.length).2 τ _ hA
 rw[zAl,zCn h]at hd;simp;exact⟨_,hd,rfl⟩
theorem zKX:∀(a b:List BA) (pos:Int) (σ:Nf),Nf.mkS (a++b) pos σ=((Nf.mkS b pos (Nf.mkS a pos σ).1).1,(Nf.mkS a pos σ).2++(Nf.mkS b pos (Nf.mkS a pos σ).1).2)
 | [],b,pos,σ=>by simp[Nf.mkS]
 |s::a,b,pos,σ=>by
  simp only[List.cons_append,Nf.mkS,zKX a b]
theorem zIS{p:List It}{s:BA}{pos:Int}{σ σ0:Nf}(hl:σ.fl.length+1<=4294967296)(hc:σ.count<4294967296){S:ASt}{c:Cf}(h:NAt p S c σ0)(L:List AObj):ADet Tryz.prog 153 [.ptr (c.d+1) c.jF 0,Sg s,I pos] (L::updF S c σ) (clo c.up (s,mIs σ.made s)) (L::updF S c (σ.mk1 s pos)):=by
 have:=zaU p s pos σ hl hc _ c.up ((h.updF σ).cons L)
 rw[zAl,zCn h]at this;exact this
theorem zGA(p:List It)(l:List St)(hl:∀s∈l,StmC p s)(pos:Int)(names:List BA)(σ:Nf)(hb:BdN σ (names.length+(l.map St.nd).sum)):FC p 158 [.p (.sl 15 (l.map St.enc)),I pos,.p (strs names)] σ (zAB p l pos names σ):=fun S c h=>by
 refine ADet.okP call158 3 rfl fun na=>?_
 have ca:names.length<=maxLen:=okl na
 have hs:=zAR h
 obtain⟨F,hF⟩:∃F:Nat->Nf × List Fg,F=fun q=>Nf.mkS (names.take q) pos σ:=⟨_,rfl⟩
 have Ab:F 0=(σ,[]):=by rw[hF];simp[Nf.mkS]
 have Yb:F names.length=Nf.mkS names pos σ:=by rw[hF];simp
 have Ib:∀q (hq:q<names.length),F (q+1)=((F q).1.mk1 names[q] pos,(F q).2++[(names[q],mIs (F q).1.made names[q])]):=fun q hq=>by
  rw[hF];simp only[List.take_succ_eq_append_getElem hq,zKX];simp[Nf.mkS]
 have Hb:∀q,q<names.length->BdN (F q).1 1:=fun q hq=>by
  have e2:=(zBC (names.take q) pos σ).1
  rw[hF];exact hb.near e2 (by simp;omega)
 have bg:BdN (F names.length).1 (l.map St.nd).sum:=by
  rw[Yb];exact hb.near (zBC names pos σ).1 (Nat.le_refl _)
 have Rb:zAB p l pos names σ=Nf.undo (F names.length).2 (Nf.undo (St.nms p l (F names.length).1).2 (St.nms p l (F names.length).1).1):=by rw[Yb];rfl
 clear hF;rw[Rb]
 have hE:∀S:ASt,ADet Tryz.prog 193 [] S .un S:=fun S=>by
  refine ADet.intro mixed call193 func193 rfl ?_;simp[ntmps193]
 have Ca:=zSe p l hl (F names.length).1 bg 193 [] (St.nms p l (F names.length).1).1 _ c.up ((h.updF (F names.length).1).cons []) (fun L=>hE _)
 rw[zAl,zCn h]at Ca;refine ADet.introD mixed call158 func158 rfl rfl ?_;simp[ntmps158,strs];refine zE0 (fun q:Nat=>q<=names.length) (fun q=>[.ptr (c.d+1) c.jF 0,.p (.sl 15 (l.map St.enc)),I pos,.any,.any,.any,.any,.any,.any,.any,.p (.sl 1 (names.map fun s=>[pS s])),I names.length,I q,.any,.any,.any,.any,.any,.any,.any,.any,.any,.any,.any]) (fun q=>[]::updF S c (F q).1) (fun q=>((F q).2.map (clo c.up)).reverse) (fun q=>names.length-q) (fun _=>0) 0 (Nat.zero_le _) (fun _ _=>Nat.le_refl _) ?_ ?_ ?_ ?_
 .simp
 .simp[Ab,hs]
 .simp[Ab]
 intro q hq
 by_cases hlt:q<names.length
 .have aa:(q:Int)<(names.length:Int):=by omega
  have hw:=zA hlt
  have Xa:=Ib q hlt
  have Aa:names.length-(q+1)<names.length-q:=by omega
  have mi:=Hb q hlt
  have Ha:=fun L=>zIS (p:=p) (s:=names[q]) (pos:=pos) (σ:=(F q).1) (by have:=mi.1;omega) (by have:=mi.2.1;omega) h L
  generalize he:names[q]=s at*
  simp[hlt,aa,he];refine cq (Ha _) ?_
  have kb:∀b,clo c.up (s,b)= .fn (.func 190) [] [.bx [B b],.bx [.ptr (c.d+1) c.jF 0],.bx [Sg s]]:=fun _=>rfl
  have e2:AV.cuts 0 (clo c.up (s,mIs (F q).1.made s)::(List.map (clo c.up) (F q).2).reverse)=(List.map (clo c.up) (F (q+1)).2).reverse:=by
   have:clo c.up (s,mIs (F q).1.made s)::(List.map (clo c.up) (F q).2).reverse=(List.map (clo c.up) ((F q).2++[(s,mIs (F q).1.made s)])).reverse:=by simp
   rw[this,zF9,Xa]
  simp[kb];exact⟨q+1,hlt,Aa,hw,by rw[Xa],e2⟩
 have aa:¬(q:Int)<(names.length:Int):=by omega
 have Ya:q=names.length:=by omega
 subst Ya;simp;refine cq Ca ?_
 have hA:=(h.updF (Nf.undo (St.nms p l (F names.length).1).2 (St.nms p l (F names.length).1).1)).cons []
 have hd:=zKW p c.up (F names.length).2 _ _ hA
 rw[zAl,zCn h]at hd;simp;exact⟨_,hd,rfl⟩
end Go.Proofs.YtdflkegnmmkkoaaGreatDoor
