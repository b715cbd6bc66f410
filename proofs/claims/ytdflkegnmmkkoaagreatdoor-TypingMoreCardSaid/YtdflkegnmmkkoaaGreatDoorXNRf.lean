/- A part of the proof. -/
import Derived.Test.YtdflkegnmmkkoaaGreatDoorXNVe
import Derived.Test.YtdflkegnmmkkoaaGreatDoorXMWi
set_option linter.unusedVariables false
set_option linter.unusedSimpArgs false
set_option maxRecDepth 100000
set_option maxHeartbeats 32000000
namespace Go.Proofs.YtdflkegnmmkkoaaGreatDoor
open Go.RowKit _root_.Go.Proofs.Tryz
theorem zKk{s:St}{d:Int}(h:s.whole d=true):(∀x∈s.body,x.whole (d-1)=true)/\(∀x∈s.els,x.whole (d-1)=true)/\∀a∈s.arms,∀x∈a.body,x.whole (d-1)=true:=by
 rw[zC]at h;simp only[Bool.and_eq_true]at h
 obtain⟨_,_,_,_,_,_,h1,h2,h3⟩:=h
 refine⟨fun x hx=>List.all_eq_true.1 h1 x hx,fun x hx=>List.all_eq_true.1 h2 x hx,fun a ha x hx=>?_⟩
 unfold zv at h3;simp only[Bool.and_eq_true,decide_eq_true_eq]at h3;rw[List.take_of_length_le (by omega)]at h3
 have:=List.all_eq_true.1 h3.2 a ha
 unfold Ar.whole at this;simp only[Bool.and_eq_true]at this;exact List.all_eq_true.1 this.2.2 x hx
theorem zch(p:List It)(hp:∀x∈p,x.fields.length<=20000)(s:St):∀d:Int,s.whole d=true->StmC p s:=by
 refine St.ind (p:=fun s=>∀d:Int,s.whole d=true->StmC p s) ?_ s
 intro s b1 b2 b3 d h
 obtain⟨w1,w2,w3⟩:=zKk h
 have i1:∀x∈s.body,StmC p x:=fun x hx=>b1 x hx _ (w1 x hx)
 have i2:∀x∈s.els,StmC p x:=fun x hx=>b2 x hx _ (w2 x hx)
 have i3:∀a∈s.arms,∀x∈a.body,StmC p x:=fun a ha x hx=>b3 a ha x hx _ (w3 a ha x hx)
 by_cases o1:s.op=1
 .exact zZM p hp s d h i1 i2 i3 o1
 by_cases o2:s.op=2
 .exact zZN p hp s d h i1 i2 i3 o2
 by_cases o3:s.op=3
 .exact zZG p hp s d h i1 i2 i3 o3
 by_cases o5:s.op=5
 .exact zZH p hp s d h i1 i2 i3 o5
 by_cases Uf:s.op=12
 .exact zWJ p hp s d h i1 i2 i3 Uf
 by_cases o8:s.op=8
 .exact zZI p hp s d h i1 i2 i3 o8
 by_cases Vf:s.op=10
 .exact zWH p hp s d h i1 i2 i3 Vf
 by_cases o9:s.op=9
 .exact zZK p hp s d h i1 i2 i3 o9
 by_cases Xf:s.op=11
 .exact zWI p hp s d h i1 i2 i3 Xf
 exact zZL p hp s d h i1 i2 i3 o1 o2 o3 o5 Uf o8 Vf o9 Xf
attribute [local simp] List.replicate List.range List.range.loop
def zIl(p:List It):List Bool:=p.mapIdx fun q x=>zA5 p q x
theorem zD1(p:List It):(zIl p).length=p.length:=by unfold zIl;simp
theorem zJr(p:List It)(q:Nat)(h:q<p.length):(zIl p)[q]'(by rw[zD1];exact h)=zA5 p q p[q]:=by unfold zIl;simp
def bolE(b:Bool):List PV:=[.v (.bool b)]
theorem zYu(a b:List It):itE (a++b)=itE a++itE b:=by unfold itE;rw[List.map_append]
theorem zPx(p:List It)(q:Nat)(h:q<p.length)(fn:Bool)(hk:decide (p[q].kind=3)=fn)(ha:zA5 p q p[q]=false):itE (zAL p fn (q+1))=itE (zAL p fn q)++[(.string p[q].name,itV p[q])]:=by
 rw[zAL,List.getElem?_eq_getElem h];simp only;rw[if_pos (by simp[hk,ha]),zYu]
 rfl
theorem zSn(p:List It)(q:Nat)(h:q<p.length)(fn:Bool)(hk:decide (p[q].kind=3)=(!fn)\/zA5 p q p[q]=true):zAL p fn (q+1)=zAL p fn q:=by
 rw[zAL,List.getElem?_eq_getElem h];simp only;rw[if_neg]
 rcases hk with hk|hk
 .rw[hk];cases fn<;>simp
 rw[hk];simp
theorem zYv(p:List It)(tt:p.length<=20000)(o:AObj)(R:ASt):ADet Tryz.prog 59 [.ptr 0 3 0,.agg [.p (prog p)]] ([o,.map [],.map [],.cells [.mp 0 1,.mp 0 2,nilS] 98]::R) (.p (.sl 1 ((zIl p).map bolE))) ([o,.map (itE (zAL p false p.length)),.map (itE (zAL p true p.length)),.cells [.mp 0 1,.mp 0 2,nilS] 98]::R):=by
 refine ADet.okA call59 1 0 rfl rfl fun na=>?_
 have ca:p.length<=maxLen:=okl na
 obtain⟨al,Ze⟩:∃al,al=(zIl p).map bolE:=⟨_,rfl⟩
 have Dd:al.length=p.length:=by rw[Ze,List.length_map,zD1]
 have halt:∀q (h:q<p.length),al.take (q+1)=al.take q++[[.v (.bool (zA5 p q p[q]))]]:=fun q h=>by
  have this:al[q]? =some [.v (.bool (zA5 p q p[q]))]:=by
   rw[Ze,List.getElem?_map,List.getElem?_eq_getElem (by rw[zD1];exact h),zJr p q h]
   rfl
  rw[List.take_succ_eq_append_getElem (by rw[Dd];exact h),(List.getElem?_eq_some_iff.1 this).2]
 rw[<-Ze];clear Ze;refine ADet.intro mixed call59 func59 rfl ?_;simp[ntmps59,prog];refine zA8 4 1 (by decide) [.cells [.p (.sl 16 (p.map It.enc))] 24] (fun q:Nat=>q<=p.length) (fun q=>([.ptr 1 3 0,.any,.any,.ptr 0 0 0,.any,.osl 1 (al.take q) 0 1,.any,.any,.any,.any,.any,.any,.p (.sl 16 (p.map It.enc)),I p.length,I q]++List.replicate 33 .any)) (fun q=>[.cells [.p (.sl 16 (p.map It.enc))] 24,.tok 4 1 q]::[o,.map (itE (zAL p false q)),.map (itE (zAL p true q)),.cells [.mp 0 1,.mp 0 2,nilS] 98]::R) (fun q=>p.length-q) 0 (Nat.zero_le _) ?_ ?_ ?_ ?_
 .simp
 .simp
 .simp[zAL,itE]
 intro q hq
 by_cases hlt:q<p.length
 .have aa:(q:Int)<(p.length:Int):=by omega
  have hw:=zB hlt
  have Da:p.length-(q+1)<p.length-q:=by omega
  have De:=halt q hlt
  have ql:=zMJ p q hlt
  have hy:=zPx p q hlt
  have hn:=zSn p q hlt
  have Ng:=fun fn=>zHq p[q].name (zAL p fn q) 0
  have Jc:(al.take q).length=q:=by rw[List.length_take,Dd];omega
  have ta:q<=4294967295:=by omega
  generalize hx:p[q]=x at*
  generalize al.take q=rc at*
  generalize ha:zA5 p q x=a at*
  by_cases h3:x.kind=3
  .have Db:decide (x.kind=3)=true:=decide_eq_true h3
   rw[Db]at ql
   obtain⟨j,hj⟩:=Ng true
   have ld:=hn false (.inl (by simp[h3]))
   cases a with
   |true=>
    have hn2:=hn true (.inr rfl)
    obtain⟨y,uj⟩:=Option.isSome_iff_exists.1 ql
    rw[uj,Option.map_some]at hj;simp[hlt,aa,hx,It.enc,h3,hj,Jc,ta]
    exact⟨q+1,hlt,Da,⟨De.symm,hw⟩,⟨rfl,by rw[ld],by rw[hn2]⟩⟩
   |false=>
    have ip:=hy true Db rfl
    have uj:=Option.isSome_eq_false_iff.1 ql
    rw[Option.isNone_iff_eq_none]at uj;rw[uj,Option.map_none]at hj;simp[hlt,aa,hx,It.enc,h3,hj,Jc,ta];exact⟨q+1,hlt,Da,⟨De.symm,hw⟩,⟨rfl,by rw[ld],by rw[ip,<-h3]⟩⟩
  have Db:decide (x.kind=3)=false:=decide_eq_false h3
  have Cn:(x.kind==3)=false:=by simpa using h3
  rw[Db]at ql
  obtain⟨j,hj⟩:=Ng false
  have ld:=hn true (.inl (by simp[h3]))
  cases a with
  |true=>
   have hn2:=hn false (.inr rfl)
   obtain⟨y,uj⟩:=Option.isSome_iff_exists.1 ql
   rw[uj,Option.map_some]at hj;simp[hlt,aa,hx,It.enc,h3,Cn,hj,Jc,ta]
   exact⟨q+1,hlt,Da,⟨De.symm,hw⟩,⟨rfl,by rw[hn2],by rw[ld]⟩⟩
  |false=>
   have ip:=hy false Db rfl
   have uj:=Option.isSome_eq_false_iff.1 ql
   rw[Option.isNone_iff_eq_none]at uj;rw[uj,Option.map_none]at hj;simp[hlt,aa,hx,It.enc,h3,Cn,hj,Jc,ta];exact⟨q+1,hlt,Da,⟨De.symm,hw⟩,⟨rfl,by rw[ip],by rw[ld]⟩⟩
 have aa:¬(q:Int)<(p.length:Int):=by omega
 have Pa:q=p.length:=by omega
 subst Pa
 have Em:al.take p.length=al:=List.take_of_length_le (by rw[Dd];exact Nat.le_refl _)
 simp[Em]
theorem zIm(p:List It)(pos:Int):∀(a b:List Fi) (met:List BA),zAK p pos met (a++b)=zAK p pos met a++zAK p pos (met++a.map Fi.name) b
 | [],b,met=>by simp[zAK]
 |f::a,b,met=>by simp[zAK,zIm p pos a b,List.append_assoc]
def Fi.nd1(f:Fi):Nat:=1+f.type.nd
theorem zES(p:List It)(pos:Int):∀(l:List Fi) (met:List BA),(zAK p pos met l).length<=(l.map Fi.nd1).sum
 | [],met=>Nat.le_refl _
 |f::l,met=>by
  have h1:=zr (decide (cntN met f.name=0)) 60 pos
  have h2:=zFH p pos f.type
  have h3:=zES p pos l (met++[f.name])
  simp only[zAK,List.length_append,List.map_cons,List.sum_cons,Fi.nd1];omega
theorem zci(p:List It)(l:List Flt)(hl:l.length+1<=4294967296):KC p 67 [] l (l++zH (zIR p zIS) 62 0):=fun S d h=>by
 have ho:=h.l
 have hf:=h.f
 simp only[nlO]at ho
 obtain⟨j,hj⟩:=zOp p zIS
 have pc:=fun b L=>(zEY p b 62 0 l hl).at h L
 rw[zD6 h]at pc;unfold zIR;refine ADet.intro mixed call67 func67 rfl ?_
 cases Wc:fnIt p zIS with
 |none=>
  rw[Wc,Option.map_none]at hj;unfold zIS at hj;simp[ntmps67,ho,hf,hj];refine cq (pc false _) ?_
  simp
 |some x=>
  rw[Wc,Option.map_some]at hj;unfold zIS at hj
  have Dn:(x.result.kind==1)=decide (x.result.kind=1):=by rw[Bool.eq_iff_iff];simp
  by_cases h0:x.fields=[]
  .simp[ntmps67,ho,hf,hj,h0,Dn]
   refine cq (pc (decide (x.result.kind=1)) _) ?_;simp[h0]
  simp[ntmps67,ho,hf,hj,h0]
  refine cq (pc false _) ?_;simp[h0]
theorem zVz(p:List It)(x:It)(l:List Flt)(hl:l.length+(x.fields.map Fi.nd1).sum<=4000000000)(hx:x.fields.length<=20000):KC p 61 [itV x] l (l++zAK p x.pos [] x.fields):=fun S d h=>by
 have ca:x.fields.length<=maxLen:=by unfold maxLen;omega
 have nb:=zD6 h
 obtain⟨F,hF⟩:∃F:Nat->List Flt,F=fun q=>l++zAK p x.pos [] (x.fields.take q):=⟨_,rfl⟩
 have rb:F 0=l:=by rw[hF];simp[zAK]
 have Xb:F x.fields.length=l++zAK p x.pos [] x.fields:=by rw[hF];simp
 have Gb:∀q (hq:q<x.fields.length),F (q+1)=(F q++zH (decide (cntN ((x.fields.take q).map Fi.name) x.fields[q].name=0)) 60 x.pos)++x.fields[q].type.nm p x.pos:=fun q hq=>by
  rw[hF];simp only[List.take_succ_eq_append_getElem hq,zIm];simp[zAK]
 have Fb:∀q (hq:q<x.fields.length),(F q).length+(1+x.fields[q].type.nd)<=4000000000:=fun q hq=>by
  have e1:=zCJ Fi.nd1 hq
  have e2:=zES p x.pos (x.fields.take q) []
  rw[hF];simp only[List.length_append];unfold Fi.nd1 at*;omega
 clear hF;rw[<-Xb];refine ADet.intro mixed call61 func61 rfl ?_;simp[ntmps61];refine zF (fun q:Nat=>q<=x.fields.length) (fun q=>([.ptr (d+1) 3 0,.any,.any,.ptr 0 0 0,.mp 0 1,.any,.any,.any,.any,.p (.sl 4 (x.fields.map Fi.enc)),I x.fields.length,I q]++List.replicate 24 .any)) (fun q=>[.cells (itU x) 45,.map (ctE (metC ((x.fields.take q).map Fi.name)))]::updK S d (F q)) (fun q=>x.fields.length-q) 0 (Nat.zero_le _) ?_ ?_ ?_
 .simp
 .simp[metC,ctE,rb,nb]
 intro q hq
 by_cases hlt:q<x.fields.length
 .have aa:(q:Int)<(x.fields.length:Int):=by omega
  have hw:=zB hlt ca
  have Da:x.fields.length-(q+1)<x.fields.length-q:=by omega
  have Wa:=Gb q hlt
  have ut:=Fb q hlt
  have De:(x.fields.take (q+1)).map Fi.name=(x.fields.take q).map Fi.name++[x.fields[q].name]:=by rw[List.take_succ_eq_append_getElem hlt,List.map_append];rfl
  have Qk:=zKt ((x.fields.take q).map Fi.name) x.fields[q].name
  have Eb:=zTB ((x.fields.take q).map Fi.name) x.fields[q].name
  have Zi:=zL9 ((x.fields.take q).map Fi.name) x.fields[q].name
  rw[List.length_map,List.length_take,Nat.min_eq_left hq]at Eb
  have jb:=zFR x.fields[q].name (metC ((x.fields.take q).map Fi.name)) 0
  have je:=zFR x.fields[q].name (zGV (metC ((x.fields.take q).map Fi.name)) x.fields[q].name) 0
  rw[Qk]at jb;rw[zGx,Qk]at je;simp only[sEq_self,if_true]at je;rw[<-Zi,<-De]at je
  generalize hn:cntN ((x.fields.take q).map Fi.name) x.fields[q].name=n at*
  have Ee:IntKind.i64.wrap ((n:Int)+1)=((n+1:Nat):Int):=zB (n:=4294967296) (by omega) (by unfold maxLen;omega)
  rw[<-De]at Zi
  have ya:∃j1,zAm .string (.string x.fields[q].name) (ctE (metC ((x.fields.take (q+1)).map Fi.name))) 0=some (some (j1,I (n+1:Nat))):=by
   rcases je with⟨h1,_,_⟩|⟨j,h1,_⟩
   .omega
   exact⟨_,h1⟩
  obtain⟨j1,ya⟩:=ya
  clear je;rw[<-Zi]at jb
  have pc:=fun b L=>(zEY p b 60 x.pos (F q) (by omega)).at h L
  have Gi:=fun b L=>(zZA p x.pos x.fields[q].type (F q++zH b 60 x.pos) (by have:=zr b 60 x.pos;simp only[List.length_append];omega)).at h L
  generalize wg:metC ((x.fields.take (q+1)).map Fi.name)=m1 at*
  generalize Uq:metC ((x.fields.take q).map Fi.name)=m0 at*
  generalize hf:x.fields[q]=f at*
  have rr:=zJ0 2 m1
  rcases jb with⟨h1,h2,h3⟩|⟨j,h2,h3⟩
  .have ue:n=0:=by omega
   have Ld:IntKind.i64.wrap 1=1:=rfl
   subst ue
   have Db:ctE m0++[(.string f.name,I 1)]=ctE m1:=h3.symm
   have ya:zAm .string (.string f.name) (ctE m1) 0=some (some (j1,I 1)):=by simpa using ya
   simp[hlt,aa,hf,Fi.enc,h2,Db,ya,Ld];refine cq (pc true _) ?_;simp;refine cq (Gi true _) ?_;simp;exact⟨q+1,hlt,Da,hw,by rw[rr,<-List.map_take,wg],by rw[Wa,List.append_assoc]<;>rfl⟩
  have Db:(ctE m0).set j (.string f.name,I ((n:Int)+1))=ctE m1:=h3.symm
  have hb:((n:Int)+1==1)=decide (n=0):=by rw[Bool.eq_iff_iff];simp;omega
  have xd:IntKind.i64.wrap ((n:Int)+1)=(n:Int)+1:=Ee
  have ya:zAm .string (.string f.name) (ctE m1) 0=some (some (j1,I ((n:Int)+1))):=ya
  simp[hlt,aa,hf,Fi.enc,h2,Db,ya,xd,hb];refine cq (pc (decide (n=0)) _) ?_;simp;refine cq (Gi (decide (n=0)) _) ?_;simp;exact⟨q+1,hlt,Da,hw,by rw[rr,<-List.map_take,wg],by rw[Wa,List.append_assoc]<;>rfl⟩
 have aa:¬(q:Int)<(x.fields.length:Int):=by omega
 have Pa:q=x.fields.length:=by omega
 subst Pa;simp
def lev(p:List It)(fl:List Flt)(ext:List AObj):List AObj:=.cells [.p (.sl 16 (p.map It.enc))] 24:: .map (itE (zAL p false p.length)):: .map (itE (zAL p true p.length))::nlO fl.length::rwO fl::ext
theorem zcj(p:List It)(fl:List Flt)(ext:List AObj)(R:ASt):Lk p (lev p fl ext::R) 0 fl:=⟨rfl,rfl,rfl,rfl⟩
def c0F:Cf:=⟨0,0,7,6⟩
def levF(p:List It)(x:It)(σ:Nf)(b:List AObj):List AObj:=lev p σ.fl (.cells (itU x) 45::mdO σ.made::fnO c0F σ::b)
theorem zW5(p:List It)(x:It)(σ:Nf)(b:List AObj)(R:ASt):NAt p (levF p x σ b::R) c0F σ:=⟨⟨rfl,rfl,rfl,rfl⟩,rfl,rfl,fun _=>by unfold c0F;simp,fun _=>by unfold c0F;simp,by unfold c0F;simp⟩
theorem zKl(p:List It)(x:It)(σ τ:Nf)(b:List AObj)(R:ASt):updF (levF p x σ b::R) c0F τ=levF p x τ b::R:=rfl
theorem KC.lev{p:List It}{F:Nat}{args:List AV}{l l':List Flt}(h:KC p F args l l')(ext:List AObj)(R:ASt):ADet Tryz.prog F (.ptr 0 3 0::args) (lev p l ext::R) .un (lev p l' ext::R):=h _ 0 (zcj p l ext R)
theorem endK(p:List It)(x:It)(σ:Nf)(b:List AObj)(d:Int)(hw:x.ret.whole d=true)(hl:σ.fl.length+x.ret.nd<=4000000000)(L:List AObj)(R:ASt):ADet Tryz.prog 65 [.ptr 1 8 0,.ptr 1 5 0] (L::levF p x σ (.cells [.ptr 0 7 0] 103::b)::R) .un (L::levF p x (σ.add (x.ret.nm p σ.made)) (.cells [.ptr 0 7 0] 103::b)::R):=by
 have hx:=zIv p x.ret d σ hw hl ([]::L::levF p x σ (.cells [.ptr 0 7 0] 103::b)::R) c0F.up.up (((zW5 p x σ _ R).cons L).cons [])
 rw[zAo,zAo,zKl]at hx;refine ADet.intro mixed call65 func65 rfl ?_
 have g1:get2 (levF p x σ (.cells [.ptr 0 7 0] 103::b)::R) 0 8=some (.cells [.ptr 0 7 0] 103):=rfl
 have g2:get2 (levF p x σ (.cells [.ptr 0 7 0] 103::b)::R) 0 5=some (.cells (itU x) 45):=rfl
 generalize levF p x σ (.cells [.ptr 0 7 0] 103::b)=LL at*
 simp[ntmps65,g1,g2];refine cq hx ?_;simp
attribute [local simp] List.forall_mem_cons List.contains_cons List.contains_nil List.find?
theorem zJs(p:List It):∀(a b:List It) (i:Nat) (fl:List Flt),zCn p i (a++b) fl=zCn p (i+a.length) b (zCn p i a fl)
 | [],b,i,fl=>rfl
 |x::a,b,i,fl=>by
  rw[List.cons_append,zCn,zCn,zJs p a b,List.length_cons]
  congr 1
  omega
theorem zLy(p:List It)(x:It)(fl:List Flt):Near ⟨(x.fields.map Fi.name).foldl (fun m s=>mPut m s true) [],x.fields.length,0,fl⟩ ((x.body.map St.nd).sum+x.ret.nd) (zFW p x fl):=by
 have e1:=(zBj p (l:=x.body) (fun s _ σ=>zCS p s σ) ⟨(x.fields.map Fi.name).foldl (fun m s=>mPut m s true) [],x.fields.length,0,fl⟩).1
 have e2:=e1.trans (Near.add _ (zKS p (St.nms p x.body ⟨(x.fields.map Fi.name).foldl (fun m s=>mPut m s true) [],x.fields.length,0,fl⟩).1.made x.ret))
 exact(e2.trans (zEr (St.nms p x.body ⟨(x.fields.map Fi.name).foldl (fun m s=>mPut m s true) [],x.fields.length,0,fl⟩).2 _)).le (by omega)
theorem zSo(p:List It)(q:Nat)(x:It)(fl:List Flt):(zCa p q x fl).length<=fl.length+x.nd:=by
 have h1:=zr (!zA5 p q x) 60 x.pos
 have h2:=zES p x.pos x.fields []
 have h3:=zFH p x.pos x.result
 have h4:=zLy p x (((fl++zH (!zA5 p q x) 60 x.pos)++zAK p x.pos [] x.fields)++x.result.nm p x.pos)
 have h5:=zr (decide ((zFW p x (((fl++zH (!zA5 p q x) 60 x.pos)++zAK p x.pos [] x.fields)++x.result.nm p x.pos)).count<=60)) 4 x.pos
 have h6:=h4.2.1
 have e:(x.fields.map Fi.nd1).sum=(x.fields.map Fi.nd).sum:=rfl
 unfold zCa It.nd;simp only;split
 .simp only[List.length_append]at*
  omega
 simp only[List.length_append]at*
 omega
theorem zGv(p:List It):∀(l:List It) (q:Nat) (fl:List Flt),(zCn p q l fl).length<=fl.length+(l.map It.nd).sum
 | [],q,fl=>Nat.le_refl _
 |x::l,q,fl=>by
  have h1:=zGv p l (q+1) (zCa p q x fl)
  have h2:=zSo p q x fl
  rw[zCn,List.map_cons,List.sum_cons];omega
theorem zHH(n:Nat)(l:List It):(itE l).map (fun kv=>(kv.1,AV.cut n kv.2))=itE l:=by
 unfold itE;rw[List.map_map];rfl
theorem zSp(n:Nat)(m:List Fg):(mdE m).map (fun kv=>(kv.1,AV.cut n kv.2))=mdE m:=by
 unfold mdE;rw[List.map_map];rfl
theorem zbG(n:Nat)(fl:List Flt):AObj.mrg n (rwO fl)=rwO fl:=by
 show AObj.row _ _ _ (AV.mrgs n (rowC fltE fl))=_
 rw[zU6];rfl
theorem zOV(n:Nat)(fl:List Flt):AObj.cut n (rwO fl)=rwO fl:=by
 show AObj.row _ _ _ (AV.cuts n (rowC fltE fl))=_
 rw[zU5];rfl
theorem zSq(p:List It)(hs:PrSm p)(Cd:(p.map It.nd).sum<=30000)(hw:zAC p=true)(L:List AObj)(gd:wkL L L)(R:ASt):ADet Tryz.prog 32 [.agg [.p (prog p)]] (L::R) (.rsl 0 (L.length+4) (zAt p).length 2) ((L++[.dead,.dead,.dead,.dead,rwO (zAt p)])::R):=by
 have ml:=fun S=>zGm p hs S
 rw[hw]at ml;refine ADet.after (S':=(L++(lev p (zAt p) []).map (AObj.mrg L.length))::R) ⟨zBa gd ?_,rfl⟩ ?_
 .show wkL [AObj.mrg L.length (rwO (zAt p))] [rwO (zAt p)]
  rw[zbG];exact⟨⟨⟨rfl,rfl,rfl⟩,ze _⟩,trivial⟩
 refine ADet.merge mixed call32 func32 rfl ?_
 have hp:p.length<=20000:=hs.1
 have ca:p.length<=maxLen:=by unfold maxLen;omega
 have Nc:∀x∈p,x.fields.length<=20000:=fun x hx=>(hs.2 x hx).2.1.1
 have vt:∀x∈p,x.whole 39=true:=by
  unfold zAC zv at hw;simp only[Bool.and_eq_true,decide_eq_true_eq]at hw;rw[List.take_of_length_le (by omega)]at hw
  exact List.all_eq_true.1 hw.2
 obtain⟨F,hF⟩:∃F:Nat->List Flt,F=fun q=>zCn p 0 (p.take q) []:=⟨_,rfl⟩
 have rb:F 0=[]:=by rw[hF];rfl
 have Xb:F p.length=zCn p 0 p []:=by rw[hF];simp
 have Gb:∀q (hq:q<p.length),F (q+1)=zCa p q p[q] (F q):=fun q hq=>by
  rw[hF];simp only[List.take_succ_eq_append_getElem hq,zJs,List.length_take,Nat.min_eq_left (Nat.le_of_lt hq),Nat.zero_add];rfl
 have Fb:∀q (hq:q<p.length),(F q).length+p[q].nd<=30000:=fun q hq=>by
  have e1:=zCJ It.nd hq
  have e2:=zGv p (p.take q) 0 []
  rw[hF];simp only[List.length_nil]at e2 ⊢;omega
 have Yu:(F p.length).length<=30000:=by
  have e2:=zGv p p 0 []
  rw[Xb];simp only[List.length_nil]at e2;omega
 have Ud:zAt p=F p.length++zH (zIR p zIS) 62 0:=by unfold zAt;rw[if_pos hw,Xb]
 clear hF
 have sr:=fun o R=>zYv p hp o R
 obtain⟨al,Ze⟩:∃al,al=(zIl p).map bolE:=⟨_,rfl⟩
 have jp:∀q (h:q<p.length),al[q]? =some [.v (.bool (zA5 p q p[q]))]:=fun q h=>by
  rw[Ze,List.getElem?_map,List.getElem?_eq_getElem (by rw[zD1];exact h),zJr p q h]
  rfl
 have ia:al.length=p.length:=by rw[Ze,List.length_map,zD1]
 rw[<-Ze]at sr;clear Ze
 have wt:=fun R=>(zci p (F p.length) (by omega)).lev [] R
 simp[ntmps32];refine cq (ml _) ?_;simp;refine cq (sr _ _) ?_;simp[prog];refine zF6 32 2 (by decide) [.cells [.p (.sl 16 (p.map It.enc))] 24,.map (itE (zAL p false p.length)),.map (itE (zAL p true p.length)),nlO 0] (fun q:Nat=>q<=p.length) (fun q=>([.any,.ptr 0 0 0,.any,.ptr 0 3 0,.p (.sl 1 al)]++(List.replicate 18 .any++([.p (.sl 16 (p.map It.enc)),I p.length,I q]++List.replicate 69 .any)))) (fun q=>lev p (F q) []::L::R) (fun q=>p.length-q) (fun _=>5) 0 (Nat.zero_le _) ?_ ?_ ?_ ?_ ?_
 .intro q _;simp[lev]
 .simp
 .exact⟨⟨rfl,.inr (.inl rfl),trivial⟩,rfl,rfl,⟨rfl,.inr (.inl rfl),.inr (.inl rfl),.inr (.inr ⟨rfl,rfl⟩),trivial⟩,trivial⟩
 .simp[rb,lev,rwO,rowC]
 intro q hq
 by_cases hlt:q<p.length
 .have aa:(q:Int)<(p.length:Int):=by omega
  have xd:=zB hlt ca
  have Da:p.length-(q+1)<p.length-q:=by omega
  have Wa:=Gb q hlt
  have ut:=Fb q hlt
  have cn:q<al.length:=by rw[ia];exact hlt
  have xt:al[q]=[.v (.bool (zA5 p q p[q]))]:=(List.getElem?_eq_some_iff.1 (jp q hlt)).2
  have At:=Nc _ (List.getElem_mem hlt)
  have Bt:=vt _ (List.getElem_mem hlt)
  generalize hx:p[q]=x at*
  generalize ha:zA5 p q x=a at*
  have Ct:x.nd=3+((x.fields.map Fi.nd1).sum+(x.result.nd+((x.body.map St.nd).sum+x.ret.nd))):=rfl
  have pc:=fun ext R=>(zEY p (!a) 60 x.pos (F q) (by omega)).lev ext R
  have Zu:=zr (!a) 60 x.pos
  obtain⟨f1,pg⟩:∃f,f=F q++zH (!a) 60 x.pos:=⟨_,rfl⟩
  rw[<-pg]at pc
  have Dt:f1.length<=(F q).length+1:=by rw[pg,List.length_append];omega
  have Wc:=fun ext R=>(zVz p x f1 (by omega) At).lev ext R
  have bv:=zES p x.pos x.fields []
  obtain⟨f2,lf⟩:∃f,f=f1++zAK p x.pos [] x.fields:=⟨_,rfl⟩
  rw[<-lf]at Wc
  have Et:f2.length<=f1.length+(x.fields.map Fi.nd1).sum:=by rw[lf,List.length_append];omega
  simp[hlt,aa,hx,It.enc,lev];refine dB [] (by kernel_rfl) ?_
  simp[xt,cn];refine cq (pc [.cells (itU x) 45] _) ?_;simp;refine cq (Wc [.cells (itU x) 45] _) ?_;simp[lev]
  by_cases h3:x.kind=3
  .have Gi:=fun ext R=>(zZA p x.pos x.result f2 (by omega)).lev ext R
   have cv:=zFH p x.pos x.result
   obtain⟨f3,sn⟩:∃f,f=f2++x.result.nm p x.pos:=⟨_,rfl⟩
   rw[<-sn]at Gi
   have Ft:f3.length<=f2.length+x.result.nd:=by rw[sn,List.length_append];omega
   simp[h3];refine cq (Gi [.cells (itU x) 45] _) ?_;simp[lev];refine cq (zL6 (L::R) (lev p f3 [.cells (itU x) 45]) 0) ?_;simp[lev]
   obtain⟨M,hM⟩:∃M:Nat->List Fg,M=fun k=>((x.fields.take k).map Fi.name).foldl (fun m s=>mPut m s true) []:=⟨_,rfl⟩
   have Gt:M 0=[]:=by rw[hM];rfl
   have Ht:M x.fields.length=(x.fields.map Fi.name).foldl (fun m s=>mPut m s true) []:=by rw[hM];simp
   have Jt:∀k (hk:k<x.fields.length),M (k+1)=mPut (M k) x.fields[k].name true:=fun k hk=>by
    rw[hM];simp only[List.take_succ_eq_append_getElem hk,List.map_append,List.foldl_append];rfl
   clear hM
   have kp:x.fields.length<=maxLen:=by unfold maxLen;omega
   refine zF (fun k:Nat=>k<=x.fields.length) (fun k=>([.any,.ptr 0 0 0,.any,.ptr 0 3 0,.p (.sl 1 al),I q,.ptr 0 5 0,.ptr 0 8 0]++(List.replicate 15 .any++([.p (.sl 16 (p.map It.enc)),I p.length,I q]++(List.replicate 28 .any++([.p (.sl 4 (x.fields.map Fi.enc)),I x.fields.length,I k]++List.replicate 38 .any)))))) (fun k=>levF p x ⟨M k,0,0,f3⟩ [.cells [.ptr 0 7 0] 103]::L::R) (fun k=>x.fields.length-k) 0 (Nat.zero_le _) ?_ ?_ ?_
   .simp
   .simp[levF,lev,fnO,mdO,mdE,Gt,c0F]
    exact⟨⟨rfl,ze _⟩,⟨⟨rfl,rfl,rfl⟩,ze _⟩,⟨rfl,ze _⟩,rfl,⟨rfl,ze _⟩,⟨rfl,ze _⟩,trivial⟩
   intro k hk
   by_cases Xj:k<x.fields.length
   .have Fm:(k:Int)<(x.fields.length:Int):=by omega
    have En:=zB Xj kp
    have Sa:=Jt k Xj
    have Gm:x.fields.length-(k+1)<x.fields.length-k:=by omega
    generalize hy:x.fields[k]=y at*
    simp[Xj,Fm,hy,Fi.enc,levF,lev,fnO,c0F];refine dB [] (by kernel_rfl) ?_
    rcases zDi y.name (M k) 0 with⟨g1,g2,g3⟩|⟨j,b,g1,g2,g3⟩
    .simp[g2,mdO]
     refine⟨k+1,Xj,Gm,En,zHH _ _,zHH _ _,?_⟩
     have e1:(mdE (M k)).map (fun kv=>(kv.1,AV.cut 9 kv.2))++[(.string y.name,.agg [.p (.v (.bool true))])]=mdE (M (k+1)):=by rw[zSp,Sa];rw[g3];unfold mdE;rw[List.map_append];rfl
     rw[e1]
     show wkL [nlO f3.length,AObj.cut 9 (rwO f3),.cells (itU x) 45,.map (mdE (M (k+1))),.cells [.ptr 0 3 0,.mp 0 6,I 0,I 0] 109,.cells [.ptr 0 7 0] 103] _
     rw[zOV];exact⟨⟨rfl,ze _⟩,⟨⟨rfl,rfl,rfl⟩,ze _⟩,⟨rfl,ze _⟩,rfl,⟨rfl,ze _⟩,⟨rfl,ze _⟩,trivial⟩
    simp[g2,mdO]
    refine⟨k+1,Xj,Gm,En,zHH _ _,zHH _ _,?_⟩
    have e1:((mdE (M k)).map (fun kv=>(kv.1,AV.cut 9 kv.2))).set j (.string y.name,.agg [.p (.v (.bool true))])=mdE (M (k+1)):=by rw[zSp,Sa];rw[g3]
    rw[e1]
    show wkL [nlO f3.length,AObj.cut 9 (rwO f3),.cells (itU x) 45,.map (mdE (M (k+1))),.cells [.ptr 0 3 0,.mp 0 6,I 0,I 0] 109,.cells [.ptr 0 7 0] 103] _
    rw[zOV];exact⟨⟨rfl,ze _⟩,⟨⟨rfl,rfl,rfl⟩,ze _⟩,⟨rfl,ze _⟩,rfl,⟨rfl,ze _⟩,⟨rfl,ze _⟩,trivial⟩
   have Fm:¬(k:Int)<(x.fields.length:Int):=by omega
   have Vg:k=x.fields.length:=by omega
   subst Vg;simp[levF,lev,fnO,c0F]
   obtain⟨σ,hσ⟩:∃σ:Nf,σ=⟨M x.fields.length,x.fields.length,0,f3⟩:=⟨_,rfl⟩
   obtain⟨τ,hτ⟩:∃τ,τ=(St.nms p x.body σ).1.add (x.ret.nm p (St.nms p x.body σ).1.made):=⟨_,rfl⟩
   obtain⟨g,af⟩:∃g,g=Nf.undo (St.nms p x.body σ).2 τ:=⟨_,rfl⟩
   have li:=Bt
   unfold It.whole at li;rw[if_neg (by omega),if_pos h3]at li
   simp only[Bool.and_eq_true]at li
   have Kt:∀s∈x.body,s.whole 38=true:=fun s hs=>List.all_eq_true.1 li.2.2.2.2.2 s hs
   have Hm:x.ret.whole 38=true:=li.2.2.2.2.1
   have ye:=(zBj p (l:=x.body) (fun s _ σ=>zCS p s σ) σ).1
   have dv:σ.fl.length=f3.length:=by rw[hσ]
   have Lg:BdN σ (x.body.map St.nd).sum:=by
    rw[hσ];exact⟨by simp only;omega,by simp only;omega,by simp only;omega⟩
   have Wb:(St.nms p x.body σ).1.fl.length+x.ret.nd<=4000000000:=by
    have:=ye.2.1
    omega
   have ii:g=zFW p x f3:=by rw[af,hτ,hσ,Ht];rfl
   have hE:∀LL:List AObj,ADet Tryz.prog 65 (AV.ups 1 [.ptr 0 8 0,.ptr 0 5 0]) (LL::updF (levF p x σ [.cells [.ptr 0 7 0] 103]::L::R) c0F (St.nms p x.body σ).1) .un (LL::updF (levF p x σ [.cells [.ptr 0 7 0] 103]::L::R) c0F τ):=fun LL=>by
    rw[zKl,zKl,hτ];exact endK p x (St.nms p x.body σ).1 [] 38 Hm Wb LL (L::R)
   have Ca:=zTF p x.body (fun s hs=>zch p Nc s 38 (Kt s hs)) σ Lg 65 [.ptr 0 8 0,.ptr 0 5 0] τ _ c0F (zW5 p x σ [.cells [.ptr 0 7 0] 103] (L::R)) hE
   rw[zKl,<-af]at Ca
   have Lt:g.fl.length+1<=4294967296:=by
    have:=(zLy p x f3).2.1
    rw[ii];simp only at this;omega
   have Mt:=fun ext R=>(zEY p (decide (g.count<=60)) 4 x.pos g.fl Lt).lev ext R
   have kj:F (q+1)=g.fl++zH (decide (g.count<=60)) 4 x.pos:=by
    rw[Wa];unfold zCa;simp only;rw[ha,if_pos h3,ii,sn,lf,pg]
   have Nt:=Ca
   rw[hσ]at Ca;refine cq Ca ?_;simp[levF,lev,fnO,c0F];refine dB [] (by kernel_rfl) ?_
   have Rk:decide ((g.count:Int)<=60)=decide (g.count<=60):=decide_eq_decide.2 (by omega)
   simp[Rk];refine cq (Mt [.cells (itU x) 45,mdO g.made,fnO c0F g,.cells [.ptr 0 7 0] 103] _) ?_;simp[lev,nlO]
   exact⟨q+1,hlt,Da,xd,zHH _ _,zHH _ _,by rw[kj];simp,by
    rw[<-kj]
    show wkL [AObj.cut 5 (rwO (F (q+1)))] [rwO (F (q+1))]
    rw[zOV];exact⟨⟨⟨rfl,rfl,rfl⟩,ze _⟩,trivial⟩⟩
  have Cn:(x.kind==3)=false:=by simpa using h3
  have kj:F (q+1)=f2:=by
   rw[Wa];unfold zCa;simp only;rw[ha,if_neg h3,lf,pg]
  simp[h3,Cn,nlO]
  exact⟨q+1,hlt,Da,xd,zHH _ _,zHH _ _,by rw[kj],by
    show wkL [AObj.cut 5 (rwO f2)] [rwO (F (q+1))]
    rw[zOV,kj];exact⟨⟨⟨rfl,rfl,rfl⟩,ze _⟩,trivial⟩⟩
 have aa:¬(q:Int)<(p.length:Int):=by omega
 have Pa:q=p.length:=by omega
 subst Pa;simp[lev];refine cq (wt _) ?_;rw[<-Ud];simp[lev,nlO];simp[AV.mrg,Nat.add_comm]
end Go.Proofs.YtdflkegnmmkkoaaGreatDoor
namespace Go.Proofs.YtdflkegnmmkkoaaGreatDoor
open Go.RowKit _root_.Go.Proofs.Tryz
attribute [local simp] List.replicate List.range List.range.loop
theorem zSr(p:List It)(hs:PrSm p)(hw:zAC p=false)(L:List AObj)(gd:wkL L L)(R:ASt):ADet Tryz.prog 32 [.agg [.p (prog p)]] (L::R) (.rsl 0 (L.length+1) (zAt p).length 2) ((L++[.dead,rwO (zAt p)])::R):=by
 have ml:=fun S=>zGm p hs S
 rw[hw]at ml
 have Ud:zAt p=[(2,0)]:=by unfold zAt;rw[if_neg (by rw[hw];simp)]
 rw[Ud];refine ADet.after (S':=(L++[.cells [.p (prog p)] 24,rwO [(2,0)]])::R) ⟨zBa gd ?_,rfl⟩ ?_
 .exact⟨⟨⟨rfl,rfl,rfl⟩,ze _⟩,trivial⟩
 refine ADet.merge mixed call32 func32 rfl ?_;simp[ntmps32];refine cq (ml _) ?_;simp;exact⟨by simp[AV.mrg,Nat.add_comm],rfl,rfl⟩
end Go.Proofs.YtdflkegnmmkkoaaGreatDoor
