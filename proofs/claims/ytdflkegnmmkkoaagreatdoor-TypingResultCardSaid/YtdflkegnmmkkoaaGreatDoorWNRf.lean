/- A part of the proof. -/
import Derived.Test.YtdflkegnmmkkoaaGreatDoorWNPe
import Derived.Test.YtdflkegnmmkkoaaGreatDoorWMWi
set_option linter.unusedVariables false
set_option linter.unusedSimpArgs false
set_option maxRecDepth 100000
set_option maxHeartbeats 32000000
namespace Go.Proofs.YtdflkegnmmkkoaaGreatDoor
open Go.RowKit _root_.Go.Proofs.Tryz
theorem zKY{s:St}{d:Int}(h:s.whole d=true):(∀x∈s.body,x.whole (d-1)=true)/\(∀x∈s.els,x.whole (d-1)=true)/\∀a∈s.arms,∀x∈a.body,x.whole (d-1)=true:=by
 rw[zC]at h;simp only[Bool.and_eq_true]at h
 obtain⟨_,_,_,_,_,_,h1,h2,h3⟩:=h
 refine⟨fun x hx=>List.all_eq_true.1 h1 x hx,fun x hx=>List.all_eq_true.1 h2 x hx,fun a ha x hx=>?_⟩
 unfold zt at h3;simp only[Bool.and_eq_true,decide_eq_true_eq]at h3;rw[List.take_of_length_le (by omega)]at h3
 have:=List.all_eq_true.1 h3.2 a ha
 unfold Ar.whole at this;simp only[Bool.and_eq_true]at this;exact List.all_eq_true.1 this.2.2 x hx
theorem zby(p:List It)(hp:∀x∈p,x.fields.length<=20000)(s:St):∀d:Int,s.whole d=true->StmC p s:=by
 refine St.ind (p:=fun s=>∀d:Int,s.whole d=true->StmC p s) ?_ s
 intro s b1 b2 b3 d h
 obtain⟨w1,w2,w3⟩:=zKY h
 have i1:∀x∈s.body,StmC p x:=fun x hx=>b1 x hx _ (w1 x hx)
 have i2:∀x∈s.els,StmC p x:=fun x hx=>b2 x hx _ (w2 x hx)
 have i3:∀a∈s.arms,∀x∈a.body,StmC p x:=fun a ha x hx=>b3 a ha x hx _ (w3 a ha x hx)
 by_cases o1:s.op=1
 .exact zYK p hp s d h i1 i2 i3 o1
 by_cases o2:s.op=2
 .exact zYL p hp s d h i1 i2 i3 o2
 by_cases o3:s.op=3
 .exact zYE p hp s d h i1 i2 i3 o3
 by_cases o5:s.op=5
 .exact zYF p hp s d h i1 i2 i3 o5
 by_cases Ai:s.op=12
 .exact zVV p hp s d h i1 i2 i3 Ai
 by_cases o8:s.op=8
 .exact zYG p hp s d h i1 i2 i3 o8
 by_cases Bi:s.op=10
 .exact zVT p hp s d h i1 i2 i3 Bi
 by_cases o9:s.op=9
 .exact zYI p hp s d h i1 i2 i3 o9
 by_cases Ci:s.op=11
 .exact zVU p hp s d h i1 i2 i3 Ci
 exact zYJ p hp s d h i1 i2 i3 o1 o2 o3 o5 Ai o8 Bi o9 Ci
attribute [local simp] List.replicate List.range List.range.loop
def zIT(p:List It):List Bool:=p.mapIdx fun q x=>zBL p q x
theorem zDp(p:List It):(zIT p).length=p.length:=by unfold zIT;simp
theorem zJY(p:List It)(q:Nat)(h:q<p.length):(zIT p)[q]'(by rw[zDp];exact h)=zBL p q p[q]:=by unfold zIT;simp
def bolE(b:Bool):List PV:=[.v (.bool b)]
theorem zYM(a b:List It):itE (a++b)=itE a++itE b:=by unfold itE;rw[List.map_append]
theorem zPs(p:List It)(q:Nat)(h:q<p.length)(fn:Bool)(hk:decide (p[q].kind=3)=fn)(ha:zBL p q p[q]=false):itE (zAH p fn (q+1))=itE (zAH p fn q)++[(.string p[q].name,itV p[q])]:=by
 rw[zAH,List.getElem?_eq_getElem h];simp only;rw[if_pos (by simp[hk,ha]),zYM]
 rfl
theorem zSg(p:List It)(q:Nat)(h:q<p.length)(fn:Bool)(hk:decide (p[q].kind=3)=(!fn)\/zBL p q p[q]=true):zAH p fn (q+1)=zAH p fn q:=by
 rw[zAH,List.getElem?_eq_getElem h];simp only;rw[if_neg]
 rcases hk with hk|hk
 .rw[hk];cases fn<;>simp
 rw[hk];simp
theorem zYN(p:List It)(lu:p.length<=20000)(o:AObj)(R:ASt):ADet Tryz.prog 59 [.ptr 0 3 0,.agg [.p (prog p)]] ([o,.map [],.map [],.cells [.mp 0 1,.mp 0 2,nilS] 98]::R) (.p (.sl 1 ((zIT p).map bolE))) ([o,.map (itE (zAH p false p.length)),.map (itE (zAH p true p.length)),.cells [.mp 0 1,.mp 0 2,nilS] 98]::R):=by
 refine ADet.okA call59 1 0 rfl rfl fun na=>?_
 have ca:p.length<=maxLen:=okl na
 obtain⟨al,kf⟩:∃al,al=(zIT p).map bolE:=⟨_,rfl⟩
 have Fd:al.length=p.length:=by rw[kf,List.length_map,zDp]
 have halt:∀q (h:q<p.length),al.take (q+1)=al.take q++[[.v (.bool (zBL p q p[q]))]]:=fun q h=>by
  have this:al[q]? =some [.v (.bool (zBL p q p[q]))]:=by
   rw[kf,List.getElem?_map,List.getElem?_eq_getElem (by rw[zDp];exact h),zJY p q h]
   rfl
  rw[List.take_succ_eq_append_getElem (by rw[Fd];exact h),(List.getElem?_eq_some_iff.1 this).2]
 rw[<-kf];clear kf;refine ADet.intro mixed call59 func59 rfl ?_;simp[ntmps59,prog];refine zAw 4 1 (by decide) [.cells [.p (.sl 16 (p.map It.enc))] 24] (fun q:Nat=>q<=p.length) (fun q=>([.ptr 1 3 0,.any,.any,.ptr 0 0 0,.any,.osl 1 (al.take q) 0 1,.any,.any,.any,.any,.any,.any,.p (.sl 16 (p.map It.enc)),I p.length,I q]++List.replicate 33 .any)) (fun q=>[.cells [.p (.sl 16 (p.map It.enc))] 24,.tok 4 1 q]::[o,.map (itE (zAH p false q)),.map (itE (zAH p true q)),.cells [.mp 0 1,.mp 0 2,nilS] 98]::R) (fun q=>p.length-q) 0 (Nat.zero_le _) ?_ ?_ ?_ ?_
 .simp
 .simp
 .simp[zAH,itE]
 intro q hq
 by_cases hlt:q<p.length
 .have aa:(q:Int)<(p.length:Int):=by omega
  have hw:=zA hlt
  have Aa:p.length-(q+1)<p.length-q:=by omega
  have He:=halt q hlt
  have ul:=zLk p q hlt
  have hy:=zPs p q hlt
  have hn:=zSg p q hlt
  have Qg:=fun fn=>zHK p[q].name (zAH p fn q) 0
  have Jc:(al.take q).length=q:=by rw[List.length_take,Fd];omega
  have oa:q<=4294967295:=by omega
  generalize hx:p[q]=x at*
  generalize al.take q=rc at*
  generalize ha:zBL p q x=a at*
  by_cases h3:x.kind=3
  .have Fb:decide (x.kind=3)=true:=decide_eq_true h3
   rw[Fb]at ul
   obtain⟨j,hj⟩:=Qg true
   have kd:=hn false (.inl (by simp[h3]))
   cases a with
   |true=>
    have hn2:=hn true (.inr rfl)
    obtain⟨y,uj⟩:=Option.isSome_iff_exists.1 ul
    rw[uj,Option.map_some]at hj;simp[hlt,aa,hx,It.enc,h3,hj,Jc,oa]
    exact⟨q+1,hlt,Aa,⟨He.symm,hw⟩,⟨rfl,by rw[kd],by rw[hn2]⟩⟩
   |false=>
    have Ip:=hy true Fb rfl
    have uj:=Option.isSome_eq_false_iff.1 ul
    rw[Option.isNone_iff_eq_none]at uj;rw[uj,Option.map_none]at hj;simp[hlt,aa,hx,It.enc,h3,hj,Jc,oa];exact⟨q+1,hlt,Aa,⟨He.symm,hw⟩,⟨rfl,by rw[kd],by rw[Ip,<-h3]⟩⟩
  have Fb:decide (x.kind=3)=false:=decide_eq_false h3
  have Mn:(x.kind==3)=false:=by simpa using h3
  rw[Fb]at ul
  obtain⟨j,hj⟩:=Qg false
  have kd:=hn true (.inl (by simp[h3]))
  cases a with
  |true=>
   have hn2:=hn false (.inr rfl)
   obtain⟨y,uj⟩:=Option.isSome_iff_exists.1 ul
   rw[uj,Option.map_some]at hj;simp[hlt,aa,hx,It.enc,h3,Mn,hj,Jc,oa]
   exact⟨q+1,hlt,Aa,⟨He.symm,hw⟩,⟨rfl,by rw[hn2],by rw[kd]⟩⟩
  |false=>
   have Ip:=hy false Fb rfl
   have uj:=Option.isSome_eq_false_iff.1 ul
   rw[Option.isNone_iff_eq_none]at uj;rw[uj,Option.map_none]at hj;simp[hlt,aa,hx,It.enc,h3,Mn,hj,Jc,oa];exact⟨q+1,hlt,Aa,⟨He.symm,hw⟩,⟨rfl,by rw[Ip],by rw[kd]⟩⟩
 have aa:¬(q:Int)<(p.length:Int):=by omega
 have Ya:q=p.length:=by omega
 subst Ya
 have Lm:al.take p.length=al:=List.take_of_length_le (by rw[Fd];exact Nat.le_refl _)
 simp[Lm]
theorem zIU(p:List It)(pos:Int):∀(a b:List Fi) (met:List BA),zBA p pos met (a++b)=zBA p pos met a++zBA p pos (met++a.map Fi.name) b
 | [],b,met=>by simp[zBA]
 |f::a,b,met=>by simp[zBA,zIU p pos a b,List.append_assoc]
def Fi.nd1(f:Fi):Nat:=1+f.type.nd
theorem zEF(p:List It)(pos:Int):∀(l:List Fi) (met:List BA),(zBA p pos met l).length<=(l.map Fi.nd1).sum
 | [],met=>Nat.le_refl _
 |f::l,met=>by
  have h1:=zq (decide (cntN met f.name=0)) 60 pos
  have h2:=zE4 p pos f.type
  have h3:=zEF p pos l (met++[f.name])
  simp only[zBA,List.length_append,List.map_cons,List.sum_cons,Fi.nd1];omega
theorem zbz(p:List It)(l:List Flt)(hl:l.length+1<=4294967296):KC p 67 [] l (l++zI (zLT p zLU) 62 0):=fun S d h=>by
 have ho:=h.l
 have hf:=h.f
 simp only[nlO]at ho
 obtain⟨j,hj⟩:=zOG p zLU
 have gc:=fun b L=>(zEL p b 62 0 l hl).at h L
 rw[zDo h]at gc;unfold zLT;refine ADet.intro mixed call67 func67 rfl ?_
 cases Uc:fnIt p zLU with
 |none=>
  rw[Uc,Option.map_none]at hj;unfold zLU at hj;simp[ntmps67,ho,hf,hj];refine cq (gc false _) ?_
  simp
 |some x=>
  rw[Uc,Option.map_some]at hj;unfold zLU at hj
  have Nn:(x.result.kind==1)=decide (x.result.kind=1):=by rw[Bool.eq_iff_iff];simp
  by_cases h0:x.fields=[]
  .simp[ntmps67,ho,hf,hj,h0,Nn]
   refine cq (gc (decide (x.result.kind=1)) _) ?_;simp[h0]
  simp[ntmps67,ho,hf,hj,h0]
  refine cq (gc false _) ?_;simp[h0]
theorem zVW(p:List It)(x:It)(l:List Flt)(hl:l.length+(x.fields.map Fi.nd1).sum<=4000000000)(hx:x.fields.length<=20000):KC p 61 [itV x] l (l++zBA p x.pos [] x.fields):=fun S d h=>by
 have ca:x.fields.length<=maxLen:=by unfold maxLen;omega
 have vb:=zDo h
 obtain⟨F,hF⟩:∃F:Nat->List Flt,F=fun q=>l++zBA p x.pos [] (x.fields.take q):=⟨_,rfl⟩
 have Ab:F 0=l:=by rw[hF];simp[zBA]
 have Yb:F x.fields.length=l++zBA p x.pos [] x.fields:=by rw[hF];simp
 have Ib:∀q (hq:q<x.fields.length),F (q+1)=(F q++zI (decide (cntN ((x.fields.take q).map Fi.name) x.fields[q].name=0)) 60 x.pos)++x.fields[q].type.nm p x.pos:=fun q hq=>by
  rw[hF];simp only[List.take_succ_eq_append_getElem hq,zIU];simp[zBA]
 have Hb:∀q (hq:q<x.fields.length),(F q).length+(1+x.fields[q].type.nd)<=4000000000:=fun q hq=>by
  have e1:=zCB Fi.nd1 hq
  have e2:=zEF p x.pos (x.fields.take q) []
  rw[hF];simp only[List.length_append];unfold Fi.nd1 at*;omega
 clear hF;rw[<-Yb];refine ADet.intro mixed call61 func61 rfl ?_;simp[ntmps61];refine zH (fun q:Nat=>q<=x.fields.length) (fun q=>([.ptr (d+1) 3 0,.any,.any,.ptr 0 0 0,.mp 0 1,.any,.any,.any,.any,.p (.sl 4 (x.fields.map Fi.enc)),I x.fields.length,I q]++List.replicate 24 .any)) (fun q=>[.cells (itU x) 45,.map (ctE (metC ((x.fields.take q).map Fi.name)))]::updK S d (F q)) (fun q=>x.fields.length-q) 0 (Nat.zero_le _) ?_ ?_ ?_
 .simp
 .simp[metC,ctE,Ab,vb]
 intro q hq
 by_cases hlt:q<x.fields.length
 .have aa:(q:Int)<(x.fields.length:Int):=by omega
  have hw:=zA hlt ca
  have Aa:x.fields.length-(q+1)<x.fields.length-q:=by omega
  have Xa:=Ib q hlt
  have mu:=Hb q hlt
  have He:(x.fields.take (q+1)).map Fi.name=(x.fields.take q).map Fi.name++[x.fields[q].name]:=by rw[List.take_succ_eq_append_getElem hlt,List.map_append];rfl
  have Rk:=zKV ((x.fields.take q).map Fi.name) x.fields[q].name
  have kb:=zSa ((x.fields.take q).map Fi.name) x.fields[q].name
  have Xi:=zLs ((x.fields.take q).map Fi.name) x.fields[q].name
  rw[List.length_map,List.length_take,Nat.min_eq_left hq]at kb
  have pb:=zFC x.fields[q].name (metC ((x.fields.take q).map Fi.name)) 0
  have oe:=zFC x.fields[q].name (zF7 (metC ((x.fields.take q).map Fi.name)) x.fields[q].name) 0
  rw[Rk]at pb;rw[zGg,Rk]at oe;simp only[sEq_self,if_true]at oe;rw[<-Xi,<-He]at oe
  generalize hn:cntN ((x.fields.take q).map Fi.name) x.fields[q].name=n at*
  have Je:IntKind.i64.wrap ((n:Int)+1)=((n+1:Nat):Int):=zA (n:=4294967296) (by omega) (by unfold maxLen;omega)
  rw[<-He]at Xi
  have xa:∃j1,zAk .string (.string x.fields[q].name) (ctE (metC ((x.fields.take (q+1)).map Fi.name))) 0=some (some (j1,I (n+1:Nat))):=by
   rcases oe with⟨h1,_,_⟩|⟨j,h1,_⟩
   .omega
   exact⟨_,h1⟩
  obtain⟨j1,xa⟩:=xa
  clear oe;rw[<-Xi]at pb
  have gc:=fun b L=>(zEL p b 60 x.pos (F q) (by omega)).at h L
  have Di:=fun b L=>(zX8 p x.pos x.fields[q].type (F q++zI b 60 x.pos) (by have:=zq b 60 x.pos;simp only[List.length_append];omega)).at h L
  generalize Bg:metC ((x.fields.take (q+1)).map Fi.name)=m1 at*
  generalize Wq:metC ((x.fields.take q).map Fi.name)=m0 at*
  generalize hf:x.fields[q]=f at*
  have Dr:=zJX 2 m1
  rcases pb with⟨h1,h2,h3⟩|⟨j,h2,h3⟩
  .have ye:n=0:=by omega
   have Qc:IntKind.i64.wrap 1=1:=rfl
   subst ye
   have Fb:ctE m0++[(.string f.name,I 1)]=ctE m1:=h3.symm
   have xa:zAk .string (.string f.name) (ctE m1) 0=some (some (j1,I 1)):=by simpa using xa
   simp[hlt,aa,hf,Fi.enc,h2,Fb,xa,Qc];refine cq (gc true _) ?_;simp;refine cq (Di true _) ?_;simp;exact⟨q+1,hlt,Aa,hw,by rw[Dr,<-List.map_take,Bg],by rw[Xa,List.append_assoc]<;>rfl⟩
  have Fb:(ctE m0).set j (.string f.name,I ((n:Int)+1))=ctE m1:=h3.symm
  have hb:((n:Int)+1==1)=decide (n=0):=by rw[Bool.eq_iff_iff];simp;omega
  have ve:IntKind.i64.wrap ((n:Int)+1)=(n:Int)+1:=Je
  have xa:zAk .string (.string f.name) (ctE m1) 0=some (some (j1,I ((n:Int)+1))):=xa
  simp[hlt,aa,hf,Fi.enc,h2,Fb,xa,ve,hb];refine cq (gc (decide (n=0)) _) ?_;simp;refine cq (Di (decide (n=0)) _) ?_;simp;exact⟨q+1,hlt,Aa,hw,by rw[Dr,<-List.map_take,Bg],by rw[Xa,List.append_assoc]<;>rfl⟩
 have aa:¬(q:Int)<(x.fields.length:Int):=by omega
 have Ya:q=x.fields.length:=by omega
 subst Ya;simp
def lev(p:List It)(fl:List Flt)(ext:List AObj):List AObj:=.cells [.p (.sl 16 (p.map It.enc))] 24:: .map (itE (zAH p false p.length)):: .map (itE (zAH p true p.length))::nlO fl.length::rwO fl::ext
theorem zb0(p:List It)(fl:List Flt)(ext:List AObj)(R:ASt):Lk p (lev p fl ext::R) 0 fl:=⟨rfl,rfl,rfl,rfl⟩
def c0F:Cf:=⟨0,0,7,6⟩
def levF(p:List It)(x:It)(σ:Nf)(b:List AObj):List AObj:=lev p σ.fl (.cells (itU x) 45::mdO σ.made::fnO c0F σ::b)
theorem zWN(p:List It)(x:It)(σ:Nf)(b:List AObj)(R:ASt):NAt p (levF p x σ b::R) c0F σ:=⟨⟨rfl,rfl,rfl,rfl⟩,rfl,rfl,fun _=>by unfold c0F;simp,fun _=>by unfold c0F;simp,by unfold c0F;simp⟩
theorem zKZ(p:List It)(x:It)(σ τ:Nf)(b:List AObj)(R:ASt):updF (levF p x σ b::R) c0F τ=levF p x τ b::R:=rfl
theorem KC.lev{p:List It}{F:Nat}{args:List AV}{l l':List Flt}(h:KC p F args l l')(ext:List AObj)(R:ASt):ADet Tryz.prog F (.ptr 0 3 0::args) (lev p l ext::R) .un (lev p l' ext::R):=h _ 0 (zb0 p l ext R)
theorem endK(p:List It)(x:It)(σ:Nf)(b:List AObj)(d:Int)(hw:x.ret.whole d=true)(hl:σ.fl.length+x.ret.nd<=4000000000)(L:List AObj)(R:ASt):ADet Tryz.prog 65 [.ptr 1 8 0,.ptr 1 5 0] (L::levF p x σ (.cells [.ptr 0 7 0] 103::b)::R) .un (L::levF p x (σ.add (x.ret.nm p σ.made)) (.cells [.ptr 0 7 0] 103::b)::R):=by
 have hx:=zIR p x.ret d σ hw hl ([]::L::levF p x σ (.cells [.ptr 0 7 0] 103::b)::R) c0F.up.up (((zWN p x σ _ R).cons L).cons [])
 rw[zAl,zAl,zKZ]at hx;refine ADet.intro mixed call65 func65 rfl ?_
 have g1:get2 (levF p x σ (.cells [.ptr 0 7 0] 103::b)::R) 0 8=some (.cells [.ptr 0 7 0] 103):=rfl
 have g2:get2 (levF p x σ (.cells [.ptr 0 7 0] 103::b)::R) 0 5=some (.cells (itU x) 45):=rfl
 generalize levF p x σ (.cells [.ptr 0 7 0] 103::b)=LL at*
 simp[ntmps65,g1,g2];refine cq hx ?_;simp
attribute [local simp] List.forall_mem_cons List.contains_cons List.contains_nil List.find?
theorem zJZ(p:List It):∀(a b:List It) (i:Nat) (fl:List Flt),zDR p i (a++b) fl=zDR p (i+a.length) b (zDR p i a fl)
 | [],b,i,fl=>rfl
 |x::a,b,i,fl=>by
  rw[List.cons_append,zDR,zDR,zJZ p a b,List.length_cons]
  congr 1
  omega
theorem zLv(p:List It)(x:It)(fl:List Flt):Near ⟨(x.fields.map Fi.name).foldl (fun m s=>mPut m s true) [],x.fields.length,0,fl⟩ ((x.body.map St.nd).sum+x.ret.nd) (zFv p x fl):=by
 have e1:=(zCD p (l:=x.body) (fun s _ σ=>zCu p s σ) ⟨(x.fields.map Fi.name).foldl (fun m s=>mPut m s true) [],x.fields.length,0,fl⟩).1
 have e2:=e1.trans (Near.add _ (zJ8 p (St.nms p x.body ⟨(x.fields.map Fi.name).foldl (fun m s=>mPut m s true) [],x.fields.length,0,fl⟩).1.made x.ret))
 exact(e2.trans (zEf (St.nms p x.body ⟨(x.fields.map Fi.name).foldl (fun m s=>mPut m s true) [],x.fields.length,0,fl⟩).2 _)).le (by omega)
theorem zSh(p:List It)(q:Nat)(x:It)(fl:List Flt):(zCt p q x fl).length<=fl.length+x.nd:=by
 have h1:=zq (!zBL p q x) 60 x.pos
 have h2:=zEF p x.pos x.fields []
 have h3:=zE4 p x.pos x.result
 have h4:=zLv p x (((fl++zI (!zBL p q x) 60 x.pos)++zBA p x.pos [] x.fields)++x.result.nm p x.pos)
 have h5:=zq (decide ((zFv p x (((fl++zI (!zBL p q x) 60 x.pos)++zBA p x.pos [] x.fields)++x.result.nm p x.pos)).count<=60)) 4 x.pos
 have h6:=h4.2.1
 have e:(x.fields.map Fi.nd1).sum=(x.fields.map Fi.nd).sum:=rfl
 unfold zCt It.nd;simp only;split
 .simp only[List.length_append]at*
  omega
 simp only[List.length_append]at*
 omega
theorem zGh(p:List It):∀(l:List It) (q:Nat) (fl:List Flt),(zDR p q l fl).length<=fl.length+(l.map It.nd).sum
 | [],q,fl=>Nat.le_refl _
 |x::l,q,fl=>by
  have h1:=zGh p l (q+1) (zCt p q x fl)
  have h2:=zSh p q x fl
  rw[zDR,List.map_cons,List.sum_cons];omega
theorem zGv(n:Nat)(l:List It):(itE l).map (fun kv=>(kv.1,AV.cut n kv.2))=itE l:=by
 unfold itE;rw[List.map_map];rfl
theorem zSi(n:Nat)(m:List Fg):(mdE m).map (fun kv=>(kv.1,AV.cut n kv.2))=mdE m:=by
 unfold mdE;rw[List.map_map];rfl
theorem zaX(n:Nat)(fl:List Flt):AObj.mrg n (rwO fl)=rwO fl:=by
 show AObj.row _ _ _ (AV.mrgs n (rowC fltE fl))=_
 rw[zHA];rfl
theorem zOO(n:Nat)(fl:List Flt):AObj.cut n (rwO fl)=rwO fl:=by
 show AObj.row _ _ _ (AV.cuts n (rowC fltE fl))=_
 rw[zJ1];rfl
theorem zSj(p:List It)(hs:PrSm p)(Ed:(p.map It.nd).sum<=30000)(hw:zAF p=true)(L:List AObj)(cd:wkL L L)(R:ASt):ADet Tryz.prog 32 [.agg [.p (prog p)]] (L::R) (.rsl 0 (L.length+4) (zBM p).length 2) ((L++[.dead,.dead,.dead,.dead,rwO (zBM p)])::R):=by
 have rl:=fun S=>zGU p hs S
 rw[hw]at rl;refine ADet.after (S':=(L++(lev p (zBM p) []).map (AObj.mrg L.length))::R) ⟨zBW cd ?_,rfl⟩ ?_
 .show wkL [AObj.mrg L.length (rwO (zBM p))] [rwO (zBM p)]
  rw[zaX];exact⟨⟨⟨rfl,rfl,rfl⟩,za _⟩,trivial⟩
 refine ADet.merge mixed call32 func32 rfl ?_
 have hp:p.length<=20000:=hs.1
 have ca:p.length<=maxLen:=by unfold maxLen;omega
 have Vc:∀x∈p,x.fields.length<=20000:=fun x hx=>(hs.2 x hx).2.1.1
 have nu:∀x∈p,x.whole 39=true:=by
  unfold zAF zt at hw;simp only[Bool.and_eq_true,decide_eq_true_eq]at hw;rw[List.take_of_length_le (by omega)]at hw
  exact List.all_eq_true.1 hw.2
 obtain⟨F,hF⟩:∃F:Nat->List Flt,F=fun q=>zDR p 0 (p.take q) []:=⟨_,rfl⟩
 have Ab:F 0=[]:=by rw[hF];rfl
 have Yb:F p.length=zDR p 0 p []:=by rw[hF];simp
 have Ib:∀q (hq:q<p.length),F (q+1)=zCt p q p[q] (F q):=fun q hq=>by
  rw[hF];simp only[List.take_succ_eq_append_getElem hq,zJZ,List.length_take,Nat.min_eq_left (Nat.le_of_lt hq),Nat.zero_add];rfl
 have Hb:∀q (hq:q<p.length),(F q).length+p[q].nd<=30000:=fun q hq=>by
  have e1:=zCB It.nd hq
  have e2:=zGh p (p.take q) 0 []
  rw[hF];simp only[List.length_nil]at e2 ⊢;omega
 have Kv:(F p.length).length<=30000:=by
  have e2:=zGh p p 0 []
  rw[Yb];simp only[List.length_nil]at e2;omega
 have Vd:zBM p=F p.length++zI (zLT p zLU) 62 0:=by unfold zBM;rw[if_pos hw,Yb]
 clear hF
 have Er:=fun o R=>zYN p hp o R
 obtain⟨al,kf⟩:∃al,al=(zIT p).map bolE:=⟨_,rfl⟩
 have Jp:∀q (h:q<p.length),al[q]? =some [.v (.bool (zBL p q p[q]))]:=fun q h=>by
  rw[kf,List.getElem?_map,List.getElem?_eq_getElem (by rw[zDp];exact h),zJY p q h]
  rfl
 have ia:al.length=p.length:=by rw[kf,List.length_map,zDp]
 rw[<-kf]at Er;clear kf
 have ou:=fun R=>(zbz p (F p.length) (by omega)).lev [] R
 simp[ntmps32];refine cq (rl _) ?_;simp;refine cq (Er _ _) ?_;simp[prog];refine zET 32 2 (by decide) [.cells [.p (.sl 16 (p.map It.enc))] 24,.map (itE (zAH p false p.length)),.map (itE (zAH p true p.length)),nlO 0] (fun q:Nat=>q<=p.length) (fun q=>([.any,.ptr 0 0 0,.any,.ptr 0 3 0,.p (.sl 1 al)]++(List.replicate 18 .any++([.p (.sl 16 (p.map It.enc)),I p.length,I q]++List.replicate 69 .any)))) (fun q=>lev p (F q) []::L::R) (fun q=>p.length-q) (fun _=>5) 0 (Nat.zero_le _) ?_ ?_ ?_ ?_ ?_
 .intro q _;simp[lev]
 .simp
 .exact⟨⟨rfl,.inr (.inl rfl),trivial⟩,rfl,rfl,⟨rfl,.inr (.inl rfl),.inr (.inl rfl),.inr (.inr ⟨rfl,rfl⟩),trivial⟩,trivial⟩
 .simp[Ab,lev,rwO,rowC]
 intro q hq
 by_cases hlt:q<p.length
 .have aa:(q:Int)<(p.length:Int):=by omega
  have ve:=zA hlt ca
  have Aa:p.length-(q+1)<p.length-q:=by omega
  have Xa:=Ib q hlt
  have mu:=Hb q hlt
  have Gj:q<al.length:=by rw[ia];exact hlt
  have pu:al[q]=[.v (.bool (zBL p q p[q]))]:=(List.getElem?_eq_some_iff.1 (Jp q hlt)).2
  have qu:=Vc _ (List.getElem_mem hlt)
  have ru:=nu _ (List.getElem_mem hlt)
  generalize hx:p[q]=x at*
  generalize ha:zBL p q x=a at*
  have su:x.nd=3+((x.fields.map Fi.nd1).sum+(x.result.nd+((x.body.map St.nd).sum+x.ret.nd))):=rfl
  have gc:=fun ext R=>(zEL p (!a) 60 x.pos (F q) (by omega)).lev ext R
  have Lv:=zq (!a) 60 x.pos
  obtain⟨f1,dg⟩:∃f,f=F q++zI (!a) 60 x.pos:=⟨_,rfl⟩
  rw[<-dg]at gc
  have tu:f1.length<=(F q).length+1:=by rw[dg,List.length_append];omega
  have Uc:=fun ext R=>(zVW p x f1 (by omega) qu).lev ext R
  have Mv:=zEF p x.pos x.fields []
  obtain⟨f2,qf⟩:∃f,f=f1++zBA p x.pos [] x.fields:=⟨_,rfl⟩
  rw[<-qf]at Uc
  have uu:f2.length<=f1.length+(x.fields.map Fi.nd1).sum:=by rw[qf,List.length_append];omega
  simp[hlt,aa,hx,It.enc,lev];refine dB [] (by kernel_rfl) ?_
  simp[pu,Gj];refine cq (gc [.cells (itU x) 45] _) ?_;simp;refine cq (Uc [.cells (itU x) 45] _) ?_;simp[lev]
  by_cases h3:x.kind=3
  .have Di:=fun ext R=>(zX8 p x.pos x.result f2 (by omega)).lev ext R
   have Nv:=zE4 p x.pos x.result
   obtain⟨f3,yn⟩:∃f,f=f2++x.result.nm p x.pos:=⟨_,rfl⟩
   rw[<-yn]at Di
   have vu:f3.length<=f2.length+x.result.nd:=by rw[yn,List.length_append];omega
   simp[h3];refine cq (Di [.cells (itU x) 45] _) ?_;simp[lev];refine cq (zLp (L::R) (lev p f3 [.cells (itU x) 45]) 0) ?_;simp[lev]
   obtain⟨M,hM⟩:∃M:Nat->List Fg,M=fun k=>((x.fields.take k).map Fi.name).foldl (fun m s=>mPut m s true) []:=⟨_,rfl⟩
   have wu:M 0=[]:=by rw[hM];rfl
   have xu:M x.fields.length=(x.fields.map Fi.name).foldl (fun m s=>mPut m s true) []:=by rw[hM];simp
   have yu:∀k (hk:k<x.fields.length),M (k+1)=mPut (M k) x.fields[k].name true:=fun k hk=>by
    rw[hM];simp only[List.take_succ_eq_append_getElem hk,List.map_append,List.foldl_append];rfl
   clear hM
   have Kp:x.fields.length<=maxLen:=by unfold maxLen;omega
   refine zH (fun k:Nat=>k<=x.fields.length) (fun k=>([.any,.ptr 0 0 0,.any,.ptr 0 3 0,.p (.sl 1 al),I q,.ptr 0 5 0,.ptr 0 8 0]++(List.replicate 15 .any++([.p (.sl 16 (p.map It.enc)),I p.length,I q]++(List.replicate 28 .any++([.p (.sl 4 (x.fields.map Fi.enc)),I x.fields.length,I k]++List.replicate 38 .any)))))) (fun k=>levF p x ⟨M k,0,0,f3⟩ [.cells [.ptr 0 7 0] 103]::L::R) (fun k=>x.fields.length-k) 0 (Nat.zero_le _) ?_ ?_ ?_
   .simp
   .simp[levF,lev,fnO,mdO,mdE,wu,c0F]
    exact⟨⟨rfl,za _⟩,⟨⟨rfl,rfl,rfl⟩,za _⟩,⟨rfl,za _⟩,rfl,⟨rfl,za _⟩,⟨rfl,za _⟩,trivial⟩
   intro k hk
   by_cases Yj:k<x.fields.length
   .have Mm:(k:Int)<(x.fields.length:Int):=by omega
    have Gr:=zA Yj Kp
    have Ha:=yu k Yj
    have Nm:x.fields.length-(k+1)<x.fields.length-k:=by omega
    generalize hy:x.fields[k]=y at*
    simp[Yj,Mm,hy,Fi.enc,levF,lev,fnO,c0F];refine dB [] (by kernel_rfl) ?_
    rcases zDU y.name (M k) 0 with⟨g1,g2,g3⟩|⟨j,b,g1,g2,g3⟩
    .simp[g2,mdO]
     refine⟨k+1,Yj,Nm,Gr,zGv _ _,zGv _ _,?_⟩
     have e1:(mdE (M k)).map (fun kv=>(kv.1,AV.cut 9 kv.2))++[(.string y.name,.agg [.p (.v (.bool true))])]=mdE (M (k+1)):=by rw[zSi,Ha];rw[g3];unfold mdE;rw[List.map_append];rfl
     rw[e1]
     show wkL [nlO f3.length,AObj.cut 9 (rwO f3),.cells (itU x) 45,.map (mdE (M (k+1))),.cells [.ptr 0 3 0,.mp 0 6,I 0,I 0] 109,.cells [.ptr 0 7 0] 103] _
     rw[zOO];exact⟨⟨rfl,za _⟩,⟨⟨rfl,rfl,rfl⟩,za _⟩,⟨rfl,za _⟩,rfl,⟨rfl,za _⟩,⟨rfl,za _⟩,trivial⟩
    simp[g2,mdO]
    refine⟨k+1,Yj,Nm,Gr,zGv _ _,zGv _ _,?_⟩
    have e1:((mdE (M k)).map (fun kv=>(kv.1,AV.cut 9 kv.2))).set j (.string y.name,.agg [.p (.v (.bool true))])=mdE (M (k+1)):=by rw[zSi,Ha];rw[g3]
    rw[e1]
    show wkL [nlO f3.length,AObj.cut 9 (rwO f3),.cells (itU x) 45,.map (mdE (M (k+1))),.cells [.ptr 0 3 0,.mp 0 6,I 0,I 0] 109,.cells [.ptr 0 7 0] 103] _
    rw[zOO];exact⟨⟨rfl,za _⟩,⟨⟨rfl,rfl,rfl⟩,za _⟩,⟨rfl,za _⟩,rfl,⟨rfl,za _⟩,⟨rfl,za _⟩,trivial⟩
   have Mm:¬(k:Int)<(x.fields.length:Int):=by omega
   have If:k=x.fields.length:=by omega
   subst If;simp[levF,lev,fnO,c0F]
   obtain⟨σ,hσ⟩:∃σ:Nf,σ=⟨M x.fields.length,x.fields.length,0,f3⟩:=⟨_,rfl⟩
   obtain⟨τ,hτ⟩:∃τ,τ=(St.nms p x.body σ).1.add (x.ret.nm p (St.nms p x.body σ).1.made):=⟨_,rfl⟩
   obtain⟨g,eg⟩:∃g,g=Nf.undo (St.nms p x.body σ).2 τ:=⟨_,rfl⟩
   have pi:=ru
   unfold It.whole at pi;rw[if_neg (by omega),if_pos h3]at pi
   simp only[Bool.and_eq_true]at pi
   have Au:∀s∈x.body,s.whole 38=true:=fun s hs=>List.all_eq_true.1 pi.2.2.2.2.2 s hs
   have Om:x.ret.whole 38=true:=pi.2.2.2.2.1
   have Ce:=(zCD p (l:=x.body) (fun s _ σ=>zCu p s σ) σ).1
   have Ov:σ.fl.length=f3.length:=by rw[hσ]
   have Og:BdN σ (x.body.map St.nd).sum:=by
    rw[hσ];exact⟨by simp only;omega,by simp only;omega,by simp only;omega⟩
   have Xb:(St.nms p x.body σ).1.fl.length+x.ret.nd<=4000000000:=by
    have:=Ce.2.1
    omega
   have Of:g=zFv p x f3:=by rw[eg,hτ,hσ,xu];rfl
   have hE:∀LL:List AObj,ADet Tryz.prog 65 (AV.ups 1 [.ptr 0 8 0,.ptr 0 5 0]) (LL::updF (levF p x σ [.cells [.ptr 0 7 0] 103]::L::R) c0F (St.nms p x.body σ).1) .un (LL::updF (levF p x σ [.cells [.ptr 0 7 0] 103]::L::R) c0F τ):=fun LL=>by
    rw[zKZ,zKZ,hτ];exact endK p x (St.nms p x.body σ).1 [] 38 Om Xb LL (L::R)
   have Ca:=zSe p x.body (fun s hs=>zby p Vc s 38 (Au s hs)) σ Og 65 [.ptr 0 8 0,.ptr 0 5 0] τ _ c0F (zWN p x σ [.cells [.ptr 0 7 0] 103] (L::R)) hE
   rw[zKZ,<-eg]at Ca
   have Bu:g.fl.length+1<=4294967296:=by
    have:=(zLv p x f3).2.1
    rw[Of];simp only at this;omega
   have Cu:=fun ext R=>(zEL p (decide (g.count<=60)) 4 x.pos g.fl Bu).lev ext R
   have ij:F (q+1)=g.fl++zI (decide (g.count<=60)) 4 x.pos:=by
    rw[Xa];unfold zCt;simp only;rw[ha,if_pos h3,Of,yn,qf,dg]
   have Du:=Ca
   rw[hσ]at Ca;refine cq Ca ?_;simp[levF,lev,fnO,c0F];refine dB [] (by kernel_rfl) ?_
   have Tk:decide ((g.count:Int)<=60)=decide (g.count<=60):=decide_eq_decide.2 (by omega)
   simp[Tk];refine cq (Cu [.cells (itU x) 45,mdO g.made,fnO c0F g,.cells [.ptr 0 7 0] 103] _) ?_;simp[lev,nlO]
   exact⟨q+1,hlt,Aa,ve,zGv _ _,zGv _ _,by rw[ij];simp,by
    rw[<-ij]
    show wkL [AObj.cut 5 (rwO (F (q+1)))] [rwO (F (q+1))]
    rw[zOO];exact⟨⟨⟨rfl,rfl,rfl⟩,za _⟩,trivial⟩⟩
  have Mn:(x.kind==3)=false:=by simpa using h3
  have ij:F (q+1)=f2:=by
   rw[Xa];unfold zCt;simp only;rw[ha,if_neg h3,qf,dg]
  simp[h3,Mn,nlO]
  exact⟨q+1,hlt,Aa,ve,zGv _ _,zGv _ _,by rw[ij],by
    show wkL [AObj.cut 5 (rwO f2)] [rwO (F (q+1))]
    rw[zOO,ij];exact⟨⟨⟨rfl,rfl,rfl⟩,za _⟩,trivial⟩⟩
 have aa:¬(q:Int)<(p.length:Int):=by omega
 have Ya:q=p.length:=by omega
 subst Ya;simp[lev];refine cq (ou _) ?_;rw[<-Vd];simp[lev,nlO];simp[AV.mrg,Nat.add_comm]
end Go.Proofs.YtdflkegnmmkkoaaGreatDoor
namespace Go.Proofs.YtdflkegnmmkkoaaGreatDoor
open Go.RowKit _root_.Go.Proofs.Tryz
attribute [local simp] List.replicate List.range List.range.loop
theorem zSk(p:List It)(hs:PrSm p)(hw:zAF p=false)(L:List AObj)(cd:wkL L L)(R:ASt):ADet Tryz.prog 32 [.agg [.p (prog p)]] (L::R) (.rsl 0 (L.length+1) (zBM p).length 2) ((L++[.dead,rwO (zBM p)])::R):=by
 have rl:=fun S=>zGU p hs S
 rw[hw]at rl
 have Vd:zBM p=[(2,0)]:=by unfold zBM;rw[if_neg (by rw[hw];simp)]
 rw[Vd];refine ADet.after (S':=(L++[.cells [.p (prog p)] 24,rwO [(2,0)]])::R) ⟨zBW cd ?_,rfl⟩ ?_
 .exact⟨⟨⟨rfl,rfl,rfl⟩,za _⟩,trivial⟩
 refine ADet.merge mixed call32 func32 rfl ?_;simp[ntmps32];refine cq (rl _) ?_;simp;exact⟨by simp[AV.mrg,Nat.add_comm],rfl,rfl⟩
end Go.Proofs.YtdflkegnmmkkoaaGreatDoor
