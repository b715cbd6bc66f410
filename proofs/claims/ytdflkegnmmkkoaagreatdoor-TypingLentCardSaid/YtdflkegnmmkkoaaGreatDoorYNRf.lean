/- A part of the proof. -/
import Derived.Test.YtdflkegnmmkkoaaGreatDoorYNPe
import Derived.Test.YtdflkegnmmkkoaaGreatDoorYMWi
set_option linter.unusedVariables false
set_option linter.unusedSimpArgs false
set_option maxRecDepth 100000
set_option maxHeartbeats 32000000
namespace Go.Proofs.YtdflkegnmmkkoaaGreatDoor
open Go.RowKit _root_.Go.Proofs.Tryz
theorem zKf{s:St}{d:Int}(h:s.whole d=true):(∀x∈s.body,x.whole (d-1)=true)/\(∀x∈s.els,x.whole (d-1)=true)/\∀a∈s.arms,∀x∈a.body,x.whole (d-1)=true:=by
 rw[zC]at h;simp only[Bool.and_eq_true]at h
 obtain⟨_,_,_,_,_,_,h1,h2,h3⟩:=h
 refine⟨fun x hx=>List.all_eq_true.1 h1 x hx,fun x hx=>List.all_eq_true.1 h2 x hx,fun a ha x hx=>?_⟩
 unfold z7 at h3;simp only[Bool.and_eq_true,decide_eq_true_eq]at h3;rw[List.take_of_length_le (by omega)]at h3
 have:=List.all_eq_true.1 h3.2 a ha
 unfold Ar.whole at this;simp only[Bool.and_eq_true]at this;exact List.all_eq_true.1 this.2.2 x hx
theorem zba(p:List It)(hp:∀x∈p,x.fields.length<=20000)(s:St):∀d:Int,s.whole d=true->StmC p s:=by
 refine St.ind (p:=fun s=>∀d:Int,s.whole d=true->StmC p s) ?_ s
 intro s b1 b2 b3 d h
 obtain⟨w1,w2,w3⟩:=zKf h
 have i1:∀x∈s.body,StmC p x:=fun x hx=>b1 x hx _ (w1 x hx)
 have i2:∀x∈s.els,StmC p x:=fun x hx=>b2 x hx _ (w2 x hx)
 have i3:∀a∈s.arms,∀x∈a.body,StmC p x:=fun a ha x hx=>b3 a ha x hx _ (w3 a ha x hx)
 by_cases o1:s.op=1
 .exact zX7 p hp s d h i1 i2 i3 o1
 by_cases o2:s.op=2
 .exact zX8 p hp s d h i1 i2 i3 o2
 by_cases o3:s.op=3
 .exact zX1 p hp s d h i1 i2 i3 o3
 by_cases o5:s.op=5
 .exact zX2 p hp s d h i1 i2 i3 o5
 by_cases Ji:s.op=12
 .exact zVN p hp s d h i1 i2 i3 Ji
 by_cases o8:s.op=8
 .exact zX3 p hp s d h i1 i2 i3 o8
 by_cases Ki:s.op=10
 .exact zVL p hp s d h i1 i2 i3 Ki
 by_cases o9:s.op=9
 .exact zX5 p hp s d h i1 i2 i3 o9
 by_cases Li:s.op=11
 .exact zVM p hp s d h i1 i2 i3 Li
 exact zX6 p hp s d h i1 i2 i3 o1 o2 o3 o5 Ji o8 Ki o9 Li
attribute [local simp] List.replicate List.range List.range.loop
def zIl(p:List It):List Bool:=p.mapIdx fun q x=>zBa p q x
theorem zDz(p:List It):(zIl p).length=p.length:=by unfold zIl;simp
theorem zJn(p:List It)(q:Nat)(h:q<p.length):(zIl p)[q]'(by rw[zDz];exact h)=zBa p q p[q]:=by unfold zIl;simp
def bolE(b:Bool):List PV:=[.v (.bool b)]
theorem zX9(a b:List It):itE (a++b)=itE a++itE b:=by unfold itE;rw[List.map_append]
theorem zPm(p:List It)(q:Nat)(h:q<p.length)(fn:Bool)(hk:decide (p[q].kind=3)=fn)(ha:zBa p q p[q]=false):itE (zAI p fn (q+1))=itE (zAI p fn q)++[(.string p[q].name,itV p[q])]:=by
 rw[zAI,List.getElem?_eq_getElem h];simp only;rw[if_pos (by simp[hk,ha]),zX9]
 rfl
theorem zSa(p:List It)(q:Nat)(h:q<p.length)(fn:Bool)(hk:decide (p[q].kind=3)=(!fn)\/zBa p q p[q]=true):zAI p fn (q+1)=zAI p fn q:=by
 rw[zAI,List.getElem?_eq_getElem h];simp only;rw[if_neg]
 rcases hk with hk|hk
 .rw[hk];cases fn<;>simp
 rw[hk];simp
theorem zYA(p:List It)(Yt:p.length<=20000)(o:AObj)(R:ASt):ADet Tryz.prog 59 [.ptr 0 3 0,.agg [.p (prog p)]] ([o,.map [],.map [],.cells [.mp 0 1,.mp 0 2,nilS] 98]::R) (.p (.sl 1 ((zIl p).map bolE))) ([o,.map (itE (zAI p false p.length)),.map (itE (zAI p true p.length)),.cells [.mp 0 1,.mp 0 2,nilS] 98]::R):=by
 refine ADet.okA call59 1 0 rfl rfl fun na=>?_
 have ca:p.length<=maxLen:=okl na
 obtain⟨al,nf⟩:∃al,al=(zIl p).map bolE:=⟨_,rfl⟩
 have Ed:al.length=p.length:=by rw[nf,List.length_map,zDz]
 have halt:∀q (h:q<p.length),al.take (q+1)=al.take q++[[.v (.bool (zBa p q p[q]))]]:=fun q h=>by
  have this:al[q]? =some [.v (.bool (zBa p q p[q]))]:=by
   rw[nf,List.getElem?_map,List.getElem?_eq_getElem (by rw[zDz];exact h),zJn p q h]
   rfl
  rw[List.take_succ_eq_append_getElem (by rw[Ed];exact h),(List.getElem?_eq_some_iff.1 this).2]
 rw[<-nf];clear nf;refine ADet.intro mixed call59 func59 rfl ?_;simp[ntmps59,prog];refine zBA 4 1 (by decide) [.cells [.p (.sl 16 (p.map It.enc))] 24] (fun q:Nat=>q<=p.length) (fun q=>([.ptr 1 3 0,.any,.any,.ptr 0 0 0,.any,.osl 1 (al.take q) 0 1,.any,.any,.any,.any,.any,.any,.p (.sl 16 (p.map It.enc)),I p.length,I q]++List.replicate 33 .any)) (fun q=>[.cells [.p (.sl 16 (p.map It.enc))] 24,.tok 4 1 q]::[o,.map (itE (zAI p false q)),.map (itE (zAI p true q)),.cells [.mp 0 1,.mp 0 2,nilS] 98]::R) (fun q=>p.length-q) 0 (Nat.zero_le _) ?_ ?_ ?_ ?_
 .simp
 .simp
 .simp[zAI,itE]
 intro q hq
 by_cases hlt:q<p.length
 .have aa:(q:Int)<(p.length:Int):=by omega
  have hw:=zB hlt
  have Ea:p.length-(q+1)<p.length-q:=by omega
  have Ke:=halt q hlt
  have yl:=zLs p q hlt
  have hy:=zPm p q hlt
  have hn:=zSa p q hlt
  have Vg:=fun fn=>zHg p[q].name (zAI p fn q) 0
  have Kc:(al.take q).length=q:=by rw[List.length_take,Ed];omega
  have ra:q<=4294967295:=by omega
  generalize hx:p[q]=x at*
  generalize al.take q=rc at*
  generalize ha:zBa p q x=a at*
  by_cases h3:x.kind=3
  .have Fb:decide (x.kind=3)=true:=decide_eq_true h3
   rw[Fb]at yl
   obtain⟨j,hj⟩:=Vg true
   have kd:=hn false (.inl (by simp[h3]))
   cases a with
   |true=>
    have hn2:=hn true (.inr rfl)
    obtain⟨y,Ej⟩:=Option.isSome_iff_exists.1 yl
    rw[Ej,Option.map_some]at hj;simp[hlt,aa,hx,It.enc,h3,hj,Kc,ra]
    exact⟨q+1,hlt,Ea,⟨Ke.symm,hw⟩,⟨rfl,by rw[kd],by rw[hn2]⟩⟩
   |false=>
    have Ep:=hy true Fb rfl
    have Ej:=Option.isSome_eq_false_iff.1 yl
    rw[Option.isNone_iff_eq_none]at Ej;rw[Ej,Option.map_none]at hj;simp[hlt,aa,hx,It.enc,h3,hj,Kc,ra];exact⟨q+1,hlt,Ea,⟨Ke.symm,hw⟩,⟨rfl,by rw[kd],by rw[Ep,<-h3]⟩⟩
  have Fb:decide (x.kind=3)=false:=decide_eq_false h3
  have Kn:(x.kind==3)=false:=by simpa using h3
  rw[Fb]at yl
  obtain⟨j,hj⟩:=Vg false
  have kd:=hn true (.inl (by simp[h3]))
  cases a with
  |true=>
   have hn2:=hn false (.inr rfl)
   obtain⟨y,Ej⟩:=Option.isSome_iff_exists.1 yl
   rw[Ej,Option.map_some]at hj;simp[hlt,aa,hx,It.enc,h3,Kn,hj,Kc,ra]
   exact⟨q+1,hlt,Ea,⟨Ke.symm,hw⟩,⟨rfl,by rw[hn2],by rw[kd]⟩⟩
  |false=>
   have Ep:=hy false Fb rfl
   have Ej:=Option.isSome_eq_false_iff.1 yl
   rw[Option.isNone_iff_eq_none]at Ej;rw[Ej,Option.map_none]at hj;simp[hlt,aa,hx,It.enc,h3,Kn,hj,Kc,ra];exact⟨q+1,hlt,Ea,⟨Ke.symm,hw⟩,⟨rfl,by rw[Ep],by rw[kd]⟩⟩
 have aa:¬(q:Int)<(p.length:Int):=by omega
 have Oa:q=p.length:=by omega
 subst Oa
 have Pm:al.take p.length=al:=List.take_of_length_le (by rw[Ed];exact Nat.le_refl _)
 simp[Pm]
theorem zIm(p:List It)(pos:Int):∀(a b:List Fi) (met:List BA),zBh p pos met (a++b)=zBh p pos met a++zBh p pos (met++a.map Fi.name) b
 | [],b,met=>by simp[zBh]
 |f::a,b,met=>by simp[zBh,zIm p pos a b,List.append_assoc]
def Fi.nd1(f:Fi):Nat:=1+f.type.nd
theorem zES(p:List It)(pos:Int):∀(l:List Fi) (met:List BA),(zBh p pos met l).length<=(l.map Fi.nd1).sum
 | [],met=>Nat.le_refl _
 |f::l,met=>by
  have h1:=zu (decide (cntN met f.name=0)) 60 pos
  have h2:=zFD p pos f.type
  have h3:=zES p pos l (met++[f.name])
  simp only[zBh,List.length_append,List.map_cons,List.sum_cons,Fi.nd1];omega
theorem zbb(p:List It)(l:List Flt)(hl:l.length+1<=4294967296):KC p 67 [] l (l++zJ (zRs p zLd) 62 0):=fun S d h=>by
 have ho:=h.l
 have hf:=h.f
 simp only[nlO]at ho
 obtain⟨j,hj⟩:=zOI p zLd
 have nc:=fun b L=>(zEX p b 62 0 l hl).at h L
 rw[zDx h]at nc;unfold zRs;refine ADet.intro mixed call67 func67 rfl ?_
 cases Vc:fnIt p zLd with
 |none=>
  rw[Vc,Option.map_none]at hj;unfold zLd at hj;simp[ntmps67,ho,hf,hj];refine cq (nc false _) ?_
  simp
 |some x=>
  rw[Vc,Option.map_some]at hj;unfold zLd at hj
  have Ln:(x.result.kind==1)=decide (x.result.kind=1):=by rw[Bool.eq_iff_iff];simp
  by_cases h0:x.fields=[]
  .simp[ntmps67,ho,hf,hj,h0,Ln]
   refine cq (nc (decide (x.result.kind=1)) _) ?_;simp[h0]
  simp[ntmps67,ho,hf,hj,h0]
  refine cq (nc false _) ?_;simp[h0]
theorem zVO(p:List It)(x:It)(l:List Flt)(hl:l.length+(x.fields.map Fi.nd1).sum<=4000000000)(hx:x.fields.length<=20000):KC p 61 [itV x] l (l++zBh p x.pos [] x.fields):=fun S d h=>by
 have ca:x.fields.length<=maxLen:=by unfold maxLen;omega
 have nb:=zDx h
 obtain⟨F,hF⟩:∃F:Nat->List Flt,F=fun q=>l++zBh p x.pos [] (x.fields.take q):=⟨_,rfl⟩
 have yb:F 0=l:=by rw[hF];simp[zBh]
 have Zb:F x.fields.length=l++zBh p x.pos [] x.fields:=by rw[hF];simp
 have Jb:∀q (hq:q<x.fields.length),F (q+1)=(F q++zJ (decide (cntN ((x.fields.take q).map Fi.name) x.fields[q].name=0)) 60 x.pos)++x.fields[q].type.nm p x.pos:=fun q hq=>by
  rw[hF];simp only[List.take_succ_eq_append_getElem hq,zIm];simp[zBh]
 have Ib:∀q (hq:q<x.fields.length),(F q).length+(1+x.fields[q].type.nd)<=4000000000:=fun q hq=>by
  have e1:=zCA Fi.nd1 hq
  have e2:=zES p x.pos (x.fields.take q) []
  rw[hF];simp only[List.length_append];unfold Fi.nd1 at*;omega
 clear hF;rw[<-Zb];refine ADet.intro mixed call61 func61 rfl ?_;simp[ntmps61];refine zF (fun q:Nat=>q<=x.fields.length) (fun q=>([.ptr (d+1) 3 0,.any,.any,.ptr 0 0 0,.mp 0 1,.any,.any,.any,.any,.p (.sl 4 (x.fields.map Fi.enc)),I x.fields.length,I q]++List.replicate 24 .any)) (fun q=>[.cells (itU x) 45,.map (ctE (metC ((x.fields.take q).map Fi.name)))]::updK S d (F q)) (fun q=>x.fields.length-q) 0 (Nat.zero_le _) ?_ ?_ ?_
 .simp
 .simp[metC,ctE,yb,nb]
 intro q hq
 by_cases hlt:q<x.fields.length
 .have aa:(q:Int)<(x.fields.length:Int):=by omega
  have hw:=zB hlt ca
  have Ea:x.fields.length-(q+1)<x.fields.length-q:=by omega
  have Wa:=Jb q hlt
  have Zt:=Ib q hlt
  have Ke:(x.fields.take (q+1)).map Fi.name=(x.fields.take q).map Fi.name++[x.fields[q].name]:=by rw[List.take_succ_eq_append_getElem hlt,List.map_append];rfl
  have Xk:=zKc ((x.fields.take q).map Fi.name) x.fields[q].name
  have Hb:=zSU ((x.fields.take q).map Fi.name) x.fields[q].name
  have fj:=zL0 ((x.fields.take q).map Fi.name) x.fields[q].name
  rw[List.length_map,List.length_take,Nat.min_eq_left hq]at Hb
  have jb:=zFM x.fields[q].name (metC ((x.fields.take q).map Fi.name)) 0
  have pe:=zFM x.fields[q].name (zGM (metC ((x.fields.take q).map Fi.name)) x.fields[q].name) 0
  rw[Xk]at jb;rw[zGt,Xk]at pe;simp only[sEq_self,if_true]at pe;rw[<-fj,<-Ke]at pe
  generalize hn:cntN ((x.fields.take q).map Fi.name) x.fields[q].name=n at*
  have Le:IntKind.i64.wrap ((n:Int)+1)=((n+1:Nat):Int):=zB (n:=4294967296) (by omega) (by unfold maxLen;omega)
  rw[<-Ke]at fj
  have xa:∃j1,zAr .string (.string x.fields[q].name) (ctE (metC ((x.fields.take (q+1)).map Fi.name))) 0=some (some (j1,I (n+1:Nat))):=by
   rcases pe with⟨h1,_,_⟩|⟨j,h1,_⟩
   .omega
   exact⟨_,h1⟩
  obtain⟨j1,xa⟩:=xa
  clear pe;rw[<-fj]at jb
  have nc:=fun b L=>(zEX p b 60 x.pos (F q) (by omega)).at h L
  have Mi:=fun b L=>(zXv p x.pos x.fields[q].type (F q++zJ b 60 x.pos) (by have:=zu b 60 x.pos;simp only[List.length_append];omega)).at h L
  generalize Dg:metC ((x.fields.take (q+1)).map Fi.name)=m1 at*
  generalize Qq:metC ((x.fields.take q).map Fi.name)=m0 at*
  generalize hf:x.fields[q]=f at*
  have tr:=zJm 2 m1
  rcases jb with⟨h1,h2,h3⟩|⟨j,h2,h3⟩
  .have Nc:n=0:=by omega
   have Pd:IntKind.i64.wrap 1=1:=rfl
   subst Nc
   have Fb:ctE m0++[(.string f.name,I 1)]=ctE m1:=h3.symm
   have xa:zAr .string (.string f.name) (ctE m1) 0=some (some (j1,I 1)):=by simpa using xa
   simp[hlt,aa,hf,Fi.enc,h2,Fb,xa,Pd];refine cq (nc true _) ?_;simp;refine cq (Mi true _) ?_;simp;exact⟨q+1,hlt,Ea,hw,by rw[tr,<-List.map_take,Dg],by rw[Wa,List.append_assoc]<;>rfl⟩
  have Fb:(ctE m0).set j (.string f.name,I ((n:Int)+1))=ctE m1:=h3.symm
  have hb:((n:Int)+1==1)=decide (n=0):=by rw[Bool.eq_iff_iff];simp;omega
  have ye:IntKind.i64.wrap ((n:Int)+1)=(n:Int)+1:=Le
  have xa:zAr .string (.string f.name) (ctE m1) 0=some (some (j1,I ((n:Int)+1))):=xa
  simp[hlt,aa,hf,Fi.enc,h2,Fb,xa,ye,hb];refine cq (nc (decide (n=0)) _) ?_;simp;refine cq (Mi (decide (n=0)) _) ?_;simp;exact⟨q+1,hlt,Ea,hw,by rw[tr,<-List.map_take,Dg],by rw[Wa,List.append_assoc]<;>rfl⟩
 have aa:¬(q:Int)<(x.fields.length:Int):=by omega
 have Oa:q=x.fields.length:=by omega
 subst Oa;simp
def lev(p:List It)(fl:List Flt)(ext:List AObj):List AObj:=.cells [.p (.sl 16 (p.map It.enc))] 24:: .map (itE (zAI p false p.length)):: .map (itE (zAI p true p.length))::nlO fl.length::rwO fl::ext
theorem zbc(p:List It)(fl:List Flt)(ext:List AObj)(R:ASt):Lk p (lev p fl ext::R) 0 fl:=⟨rfl,rfl,rfl,rfl⟩
def c0F:Cf:=⟨0,0,7,6⟩
def levF(p:List It)(x:It)(σ:Nf)(b:List AObj):List AObj:=lev p σ.fl (.cells (itU x) 45::mdO σ.made::fnO c0F σ::b)
theorem zV9(p:List It)(x:It)(σ:Nf)(b:List AObj)(R:ASt):NAt p (levF p x σ b::R) c0F σ:=⟨⟨rfl,rfl,rfl,rfl⟩,rfl,rfl,fun _=>by unfold c0F;simp,fun _=>by unfold c0F;simp,by unfold c0F;simp⟩
theorem zKg(p:List It)(x:It)(σ τ:Nf)(b:List AObj)(R:ASt):updF (levF p x σ b::R) c0F τ=levF p x τ b::R:=rfl
theorem KC.lev{p:List It}{F:Nat}{args:List AV}{l l':List Flt}(h:KC p F args l l')(ext:List AObj)(R:ASt):ADet Tryz.prog F (.ptr 0 3 0::args) (lev p l ext::R) .un (lev p l' ext::R):=h _ 0 (zbc p l ext R)
theorem endK(p:List It)(x:It)(σ:Nf)(b:List AObj)(d:Int)(hw:x.ret.whole d=true)(hl:σ.fl.length+x.ret.nd<=4000000000)(L:List AObj)(R:ASt):ADet Tryz.prog 65 [.ptr 1 8 0,.ptr 1 5 0] (L::levF p x σ (.cells [.ptr 0 7 0] 103::b)::R) .un (L::levF p x (σ.add (x.ret.nm p σ.made)) (.cells [.ptr 0 7 0] 103::b)::R):=by
 have hx:=zIj p x.ret d σ hw hl ([]::L::levF p x σ (.cells [.ptr 0 7 0] 103::b)::R) c0F.up.up (((zV9 p x σ _ R).cons L).cons [])
 rw[zAt,zAt,zKg]at hx;refine ADet.intro mixed call65 func65 rfl ?_
 have g1:get2 (levF p x σ (.cells [.ptr 0 7 0] 103::b)::R) 0 8=some (.cells [.ptr 0 7 0] 103):=rfl
 have g2:get2 (levF p x σ (.cells [.ptr 0 7 0] 103::b)::R) 0 5=some (.cells (itU x) 45):=rfl
 generalize levF p x σ (.cells [.ptr 0 7 0] 103::b)=LL at*
 simp[ntmps65,g1,g2];refine cq hx ?_;simp
attribute [local simp] List.forall_mem_cons List.contains_cons List.contains_nil List.find?
theorem zJo(p:List It):∀(a b:List It) (i:Nat) (fl:List Flt),zDb p i (a++b) fl=zDb p (i+a.length) b (zDb p i a fl)
 | [],b,i,fl=>rfl
 |x::a,b,i,fl=>by
  rw[List.cons_append,zDb,zDb,zJo p a b,List.length_cons]
  congr 1
  omega
theorem zL3(p:List It)(x:It)(fl:List Flt):Near ⟨(x.fields.map Fi.name).foldl (fun m s=>mPut m s true) [],x.fields.length,0,fl⟩ ((x.body.map St.nd).sum+x.ret.nd) (zKI p x fl):=by
 have e1:=(zCY p (l:=x.body) (fun s _ σ=>zDN p s σ) ⟨(x.fields.map Fi.name).foldl (fun m s=>mPut m s true) [],x.fields.length,0,fl⟩).1
 have e2:=e1.trans (Near.add _ (zKJ p (St.nms p x.body ⟨(x.fields.map Fi.name).foldl (fun m s=>mPut m s true) [],x.fields.length,0,fl⟩).1.made x.ret))
 exact(e2.trans (zEr (St.nms p x.body ⟨(x.fields.map Fi.name).foldl (fun m s=>mPut m s true) [],x.fields.length,0,fl⟩).2 _)).le (by omega)
theorem zSb(p:List It)(q:Nat)(x:It)(fl:List Flt):(zEG p q x fl).length<=fl.length+x.nd:=by
 have h1:=zu (!zBa p q x) 60 x.pos
 have h2:=zES p x.pos x.fields []
 have h3:=zFD p x.pos x.result
 have h4:=zL3 p x (((fl++zJ (!zBa p q x) 60 x.pos)++zBh p x.pos [] x.fields)++x.result.nm p x.pos)
 have h5:=zu (decide ((zKI p x (((fl++zJ (!zBa p q x) 60 x.pos)++zBh p x.pos [] x.fields)++x.result.nm p x.pos)).count<=60)) 4 x.pos
 have h6:=h4.2.1
 have e:(x.fields.map Fi.nd1).sum=(x.fields.map Fi.nd).sum:=rfl
 unfold zEG It.nd;simp only;split
 .simp only[List.length_append]at*
  omega
 simp only[List.length_append]at*
 omega
theorem zGu(p:List It):∀(l:List It) (q:Nat) (fl:List Flt),(zDb p q l fl).length<=fl.length+(l.map It.nd).sum
 | [],q,fl=>Nat.le_refl _
 |x::l,q,fl=>by
  have h1:=zGu p l (q+1) (zEG p q x fl)
  have h2:=zSb p q x fl
  rw[zDb,List.map_cons,List.sum_cons];omega
theorem zHF(n:Nat)(l:List It):(itE l).map (fun kv=>(kv.1,AV.cut n kv.2))=itE l:=by
 unfold itE;rw[List.map_map];rfl
theorem zSc(n:Nat)(m:List Fg):(mdE m).map (fun kv=>(kv.1,AV.cut n kv.2))=mdE m:=by
 unfold mdE;rw[List.map_map];rfl
theorem zaF(n:Nat)(fl:List Flt):AObj.mrg n (rwO fl)=rwO fl:=by
 show AObj.row _ _ _ (AV.mrgs n (rowC fltE fl))=_
 rw[zUT];rfl
theorem zOQ(n:Nat)(fl:List Flt):AObj.cut n (rwO fl)=rwO fl:=by
 show AObj.row _ _ _ (AV.cuts n (rowC fltE fl))=_
 rw[zUS];rfl
theorem zYB(p:List It)(hs:PrSm p)(Td:(p.map It.nd).sum<=30000)(hw:zAc p=true)(L:List AObj)(Gd:wkL L L)(R:ASt):ADet Tryz.prog 32 [.agg [.p (prog p)]] (L::R) (.rsl 0 (L.length+4) (zB2 p).length 2) ((L++[.dead,.dead,.dead,.dead,rwO (zB2 p)])::R):=by
 have wl:=fun S=>zGk p hs S
 rw[hw]at wl;refine ADet.after (S':=(L++(lev p (zB2 p) []).map (AObj.mrg L.length))::R) ⟨zBb Gd ?_,rfl⟩ ?_
 .show wkL [AObj.mrg L.length (rwO (zB2 p))] [rwO (zB2 p)]
  rw[zaF];exact⟨⟨⟨rfl,rfl,rfl⟩,zh _⟩,trivial⟩
 refine ADet.merge mixed call32 func32 rfl ?_
 have hp:p.length<=20000:=hs.1
 have ca:p.length<=maxLen:=by unfold maxLen;omega
 have jd:∀x∈p,x.fields.length<=20000:=fun x hx=>(hs.2 x hx).2.1.1
 have au:∀x∈p,x.whole 39=true:=by
  unfold zAc z7 at hw;simp only[Bool.and_eq_true,decide_eq_true_eq]at hw;rw[List.take_of_length_le (by omega)]at hw
  exact List.all_eq_true.1 hw.2
 obtain⟨F,hF⟩:∃F:Nat->List Flt,F=fun q=>zDb p 0 (p.take q) []:=⟨_,rfl⟩
 have yb:F 0=[]:=by rw[hF];rfl
 have Zb:F p.length=zDb p 0 p []:=by rw[hF];simp
 have Jb:∀q (hq:q<p.length),F (q+1)=zEG p q p[q] (F q):=fun q hq=>by
  rw[hF];simp only[List.take_succ_eq_append_getElem hq,zJo,List.length_take,Nat.min_eq_left (Nat.le_of_lt hq),Nat.zero_add];rfl
 have Ib:∀q (hq:q<p.length),(F q).length+p[q].nd<=30000:=fun q hq=>by
  have e1:=zCA It.nd hq
  have e2:=zGu p (p.take q) 0 []
  rw[hF];simp only[List.length_nil]at e2 ⊢;omega
 have qv:(F p.length).length<=30000:=by
  have e2:=zGu p p 0 []
  rw[Zb];simp only[List.length_nil]at e2;omega
 have Be:zB2 p=F p.length++zJ (zRs p zLd) 62 0:=by unfold zB2;rw[if_pos hw,Zb]
 clear hF
 have ur:=fun o R=>zYA p hp o R
 obtain⟨al,nf⟩:∃al,al=(zIl p).map bolE:=⟨_,rfl⟩
 have Fp:∀q (h:q<p.length),al[q]? =some [.v (.bool (zBa p q p[q]))]:=fun q h=>by
  rw[nf,List.getElem?_map,List.getElem?_eq_getElem (by rw[zDz];exact h),zJn p q h]
  rfl
 have ia:al.length=p.length:=by rw[nf,List.length_map,zDz]
 rw[<-nf]at ur;clear nf
 have bu:=fun R=>(zbb p (F p.length) (by omega)).lev [] R
 simp[ntmps32];refine cq (wl _) ?_;simp;refine cq (ur _ _) ?_;simp[prog];refine zF3 32 2 (by decide) [.cells [.p (.sl 16 (p.map It.enc))] 24,.map (itE (zAI p false p.length)),.map (itE (zAI p true p.length)),nlO 0] (fun q:Nat=>q<=p.length) (fun q=>([.any,.ptr 0 0 0,.any,.ptr 0 3 0,.p (.sl 1 al)]++(List.replicate 18 .any++([.p (.sl 16 (p.map It.enc)),I p.length,I q]++List.replicate 69 .any)))) (fun q=>lev p (F q) []::L::R) (fun q=>p.length-q) (fun _=>5) 0 (Nat.zero_le _) ?_ ?_ ?_ ?_ ?_
 .intro q _;simp[lev]
 .simp
 .exact⟨⟨rfl,.inr (.inl rfl),trivial⟩,rfl,rfl,⟨rfl,.inr (.inl rfl),.inr (.inl rfl),.inr (.inr ⟨rfl,rfl⟩),trivial⟩,trivial⟩
 .simp[yb,lev,rwO,rowC]
 intro q hq
 by_cases hlt:q<p.length
 .have aa:(q:Int)<(p.length:Int):=by omega
  have ye:=zB hlt ca
  have Ea:p.length-(q+1)<p.length-q:=by omega
  have Wa:=Jb q hlt
  have Zt:=Ib q hlt
  have mn:q<al.length:=by rw[ia];exact hlt
  have cu:al[q]=[.v (.bool (zBa p q p[q]))]:=(List.getElem?_eq_some_iff.1 (Fp q hlt)).2
  have du:=jd _ (List.getElem_mem hlt)
  have eu:=au _ (List.getElem_mem hlt)
  generalize hx:p[q]=x at*
  generalize ha:zBa p q x=a at*
  have fu:x.nd=3+((x.fields.map Fi.nd1).sum+(x.result.nd+((x.body.map St.nd).sum+x.ret.nd))):=rfl
  have nc:=fun ext R=>(zEX p (!a) 60 x.pos (F q) (by omega)).lev ext R
  have rv:=zu (!a) 60 x.pos
  obtain⟨f1,Je⟩:∃f,f=F q++zJ (!a) 60 x.pos:=⟨_,rfl⟩
  rw[<-Je]at nc
  have gu:f1.length<=(F q).length+1:=by rw[Je,List.length_append];omega
  have Vc:=fun ext R=>(zVO p x f1 (by omega) du).lev ext R
  have sv:=zES p x.pos x.fields []
  obtain⟨f2,Rd⟩:∃f,f=f1++zBh p x.pos [] x.fields:=⟨_,rfl⟩
  rw[<-Rd]at Vc
  have iu:f2.length<=f1.length+(x.fields.map Fi.nd1).sum:=by rw[Rd,List.length_append];omega
  simp[hlt,aa,hx,It.enc,lev];refine dB [] (by kernel_rfl) ?_
  simp[cu,mn];refine cq (nc [.cells (itU x) 45] _) ?_;simp;refine cq (Vc [.cells (itU x) 45] _) ?_;simp[lev]
  by_cases h3:x.kind=3
  .have Mi:=fun ext R=>(zXv p x.pos x.result f2 (by omega)).lev ext R
   have tv:=zFD p x.pos x.result
   obtain⟨f3,yn⟩:∃f,f=f2++x.result.nm p x.pos:=⟨_,rfl⟩
   rw[<-yn]at Mi
   have ju:f3.length<=f2.length+x.result.nd:=by rw[yn,List.length_append];omega
   simp[h3];refine cq (Mi [.cells (itU x) 45] _) ?_;simp[lev];refine cq (zLx (L::R) (lev p f3 [.cells (itU x) 45]) 0) ?_;simp[lev]
   obtain⟨M,hM⟩:∃M:Nat->List Fg,M=fun k=>((x.fields.take k).map Fi.name).foldl (fun m s=>mPut m s true) []:=⟨_,rfl⟩
   have ku:M 0=[]:=by rw[hM];rfl
   have lu:M x.fields.length=(x.fields.map Fi.name).foldl (fun m s=>mPut m s true) []:=by rw[hM];simp
   have mu:∀k (hk:k<x.fields.length),M (k+1)=mPut (M k) x.fields[k].name true:=fun k hk=>by
    rw[hM];simp only[List.take_succ_eq_append_getElem hk,List.map_append,List.foldl_append];rfl
   clear hM
   have Gp:x.fields.length<=maxLen:=by unfold maxLen;omega
   refine zF (fun k:Nat=>k<=x.fields.length) (fun k=>([.any,.ptr 0 0 0,.any,.ptr 0 3 0,.p (.sl 1 al),I q,.ptr 0 5 0,.ptr 0 8 0]++(List.replicate 15 .any++([.p (.sl 16 (p.map It.enc)),I p.length,I q]++(List.replicate 28 .any++([.p (.sl 4 (x.fields.map Fi.enc)),I x.fields.length,I k]++List.replicate 38 .any)))))) (fun k=>levF p x ⟨M k,0,0,f3⟩ [.cells [.ptr 0 7 0] 103]::L::R) (fun k=>x.fields.length-k) 0 (Nat.zero_le _) ?_ ?_ ?_
   .simp
   .simp[levF,lev,fnO,mdO,mdE,ku,c0F]
    exact⟨⟨rfl,zh _⟩,⟨⟨rfl,rfl,rfl⟩,zh _⟩,⟨rfl,zh _⟩,rfl,⟨rfl,zh _⟩,⟨rfl,zh _⟩,trivial⟩
   intro k hk
   by_cases lk:k<x.fields.length
   .have Qm:(k:Int)<(x.fields.length:Int):=by omega
    have vr:=zB lk Gp
    have Sa:=mu k lk
    have Rm:x.fields.length-(k+1)<x.fields.length-k:=by omega
    generalize hy:x.fields[k]=y at*
    simp[lk,Qm,hy,Fi.enc,levF,lev,fnO,c0F];refine dB [] (by kernel_rfl) ?_
    rcases zDe y.name (M k) 0 with⟨g1,g2,g3⟩|⟨j,b,g1,g2,g3⟩
    .simp[g2,mdO]
     refine⟨k+1,lk,Rm,vr,zHF _ _,zHF _ _,?_⟩
     have e1:(mdE (M k)).map (fun kv=>(kv.1,AV.cut 9 kv.2))++[(.string y.name,.agg [.p (.v (.bool true))])]=mdE (M (k+1)):=by rw[zSc,Sa];rw[g3];unfold mdE;rw[List.map_append];rfl
     rw[e1]
     show wkL [nlO f3.length,AObj.cut 9 (rwO f3),.cells (itU x) 45,.map (mdE (M (k+1))),.cells [.ptr 0 3 0,.mp 0 6,I 0,I 0] 109,.cells [.ptr 0 7 0] 103] _
     rw[zOQ];exact⟨⟨rfl,zh _⟩,⟨⟨rfl,rfl,rfl⟩,zh _⟩,⟨rfl,zh _⟩,rfl,⟨rfl,zh _⟩,⟨rfl,zh _⟩,trivial⟩
    simp[g2,mdO]
    refine⟨k+1,lk,Rm,vr,zHF _ _,zHF _ _,?_⟩
    have e1:((mdE (M k)).map (fun kv=>(kv.1,AV.cut 9 kv.2))).set j (.string y.name,.agg [.p (.v (.bool true))])=mdE (M (k+1)):=by rw[zSc,Sa];rw[g3]
    rw[e1]
    show wkL [nlO f3.length,AObj.cut 9 (rwO f3),.cells (itU x) 45,.map (mdE (M (k+1))),.cells [.ptr 0 3 0,.mp 0 6,I 0,I 0] 109,.cells [.ptr 0 7 0] 103] _
    rw[zOQ];exact⟨⟨rfl,zh _⟩,⟨⟨rfl,rfl,rfl⟩,zh _⟩,⟨rfl,zh _⟩,rfl,⟨rfl,zh _⟩,⟨rfl,zh _⟩,trivial⟩
   have Qm:¬(k:Int)<(x.fields.length:Int):=by omega
   have Og:k=x.fields.length:=by omega
   subst Og;simp[levF,lev,fnO,c0F]
   obtain⟨σ,hσ⟩:∃σ:Nf,σ=⟨M x.fields.length,x.fields.length,0,f3⟩:=⟨_,rfl⟩
   obtain⟨τ,hτ⟩:∃τ,τ=(St.nms p x.body σ).1.add (x.ret.nm p (St.nms p x.body σ).1.made):=⟨_,rfl⟩
   obtain⟨g,bg⟩:∃g,g=Nf.undo (St.nms p x.body σ).2 τ:=⟨_,rfl⟩
   have ti:=eu
   unfold It.whole at ti;rw[if_neg (by omega),if_pos h3]at ti
   simp only[Bool.and_eq_true]at ti
   have nu:∀s∈x.body,s.whole 38=true:=fun s hs=>List.all_eq_true.1 ti.2.2.2.2.2 s hs
   have Sm:x.ret.whole 38=true:=ti.2.2.2.2.1
   have Fe:=(zCY p (l:=x.body) (fun s _ σ=>zDN p s σ) σ).1
   have uv:σ.fl.length=f3.length:=by rw[hσ]
   have Tg:BdN σ (x.body.map St.nd).sum:=by
    rw[hσ];exact⟨by simp only;omega,by simp only;omega,by simp only;omega⟩
   have Ub:(St.nms p x.body σ).1.fl.length+x.ret.nd<=4000000000:=by
    have:=Fe.2.1
    omega
   have ni:g=zKI p x f3:=by rw[bg,hτ,hσ,lu];rfl
   have hE:∀LL:List AObj,ADet Tryz.prog 65 (AV.ups 1 [.ptr 0 8 0,.ptr 0 5 0]) (LL::updF (levF p x σ [.cells [.ptr 0 7 0] 103]::L::R) c0F (St.nms p x.body σ).1) .un (LL::updF (levF p x σ [.cells [.ptr 0 7 0] 103]::L::R) c0F τ):=fun LL=>by
    rw[zKg,zKg,hτ];exact endK p x (St.nms p x.body σ).1 [] 38 Sm Ub LL (L::R)
   have Ba:=zSY p x.body (fun s hs=>zba p jd s 38 (nu s hs)) σ Tg 65 [.ptr 0 8 0,.ptr 0 5 0] τ _ c0F (zV9 p x σ [.cells [.ptr 0 7 0] 103] (L::R)) hE
   rw[zKg,<-bg]at Ba
   have ou:g.fl.length+1<=4294967296:=by
    have:=(zL3 p x f3).2.1
    rw[ni];simp only at this;omega
   have pu:=fun ext R=>(zEX p (decide (g.count<=60)) 4 x.pos g.fl ou).lev ext R
   have qj:F (q+1)=g.fl++zJ (decide (g.count<=60)) 4 x.pos:=by
    rw[Wa];unfold zEG;simp only;rw[ha,if_pos h3,ni,yn,Rd,Je]
   have qu:=Ba
   rw[hσ]at Ba;refine cq Ba ?_;simp[levF,lev,fnO,c0F];refine dB [] (by kernel_rfl) ?_
   have cl:decide ((g.count:Int)<=60)=decide (g.count<=60):=decide_eq_decide.2 (by omega)
   simp[cl];refine cq (pu [.cells (itU x) 45,mdO g.made,fnO c0F g,.cells [.ptr 0 7 0] 103] _) ?_;simp[lev,nlO]
   exact⟨q+1,hlt,Ea,ye,zHF _ _,zHF _ _,by rw[qj];simp,by
    rw[<-qj]
    show wkL [AObj.cut 5 (rwO (F (q+1)))] [rwO (F (q+1))]
    rw[zOQ];exact⟨⟨⟨rfl,rfl,rfl⟩,zh _⟩,trivial⟩⟩
  have Kn:(x.kind==3)=false:=by simpa using h3
  have qj:F (q+1)=f2:=by
   rw[Wa];unfold zEG;simp only;rw[ha,if_neg h3,Rd,Je]
  simp[h3,Kn,nlO]
  exact⟨q+1,hlt,Ea,ye,zHF _ _,zHF _ _,by rw[qj],by
    show wkL [AObj.cut 5 (rwO f2)] [rwO (F (q+1))]
    rw[zOQ,qj];exact⟨⟨⟨rfl,rfl,rfl⟩,zh _⟩,trivial⟩⟩
 have aa:¬(q:Int)<(p.length:Int):=by omega
 have Oa:q=p.length:=by omega
 subst Oa;simp[lev];refine cq (bu _) ?_;rw[<-Be];simp[lev,nlO];simp[AV.mrg,Nat.add_comm]
end Go.Proofs.YtdflkegnmmkkoaaGreatDoor
namespace Go.Proofs.YtdflkegnmmkkoaaGreatDoor
open Go.RowKit _root_.Go.Proofs.Tryz
attribute [local simp] List.replicate List.range List.range.loop
theorem zYC(p:List It)(hs:PrSm p)(hw:zAc p=false)(L:List AObj)(Gd:wkL L L)(R:ASt):ADet Tryz.prog 32 [.agg [.p (prog p)]] (L::R) (.rsl 0 (L.length+1) (zB2 p).length 2) ((L++[.dead,rwO (zB2 p)])::R):=by
 have wl:=fun S=>zGk p hs S
 rw[hw]at wl
 have Be:zB2 p=[(2,0)]:=by unfold zB2;rw[if_neg (by rw[hw];simp)]
 rw[Be];refine ADet.after (S':=(L++[.cells [.p (prog p)] 24,rwO [(2,0)]])::R) ⟨zBb Gd ?_,rfl⟩ ?_
 .exact⟨⟨⟨rfl,rfl,rfl⟩,zh _⟩,trivial⟩
 refine ADet.merge mixed call32 func32 rfl ?_;simp[ntmps32];refine cq (wl _) ?_;simp;exact⟨by simp[AV.mrg,Nat.add_comm],rfl,rfl⟩
end Go.Proofs.YtdflkegnmmkkoaaGreatDoor
