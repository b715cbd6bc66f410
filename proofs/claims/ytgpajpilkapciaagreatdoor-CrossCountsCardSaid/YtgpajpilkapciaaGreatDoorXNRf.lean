/- A part of the proof. -/
import Derived.Test.YtgpajpilkapciaaGreatDoorXNVe
import Derived.Test.YtgpajpilkapciaaGreatDoorXMWi
set_option linter.unusedVariables false
set_option linter.unusedSimpArgs false
set_option maxRecDepth 100000
set_option maxHeartbeats 32000000
namespace Go.Proofs.YtgpajpilkapciaaGreatDoor
open Go.RowKit _root_.Go.Proofs.Tryz
theorem zJs{s:St}{d:Int}(h:s.whole d=true):(∀x∈s.body,x.whole (d-1)=true)/\(∀x∈s.els,x.whole (d-1)=true)/\∀a∈s.arms,∀x∈a.body,x.whole (d-1)=true:=by
 rw[zB]at h;simp only[Bool.and_eq_true]at h
 obtain⟨_,_,_,_,_,_,h1,h2,h3⟩:=h
 refine⟨fun x hx=>List.all_eq_true.1 h1 x hx,fun x hx=>List.all_eq_true.1 h2 x hx,fun a ha x hx=>?_⟩
 unfold zq at h3;simp only[Bool.and_eq_true,decide_eq_true_eq]at h3;rw[List.take_of_length_le (by omega)]at h3
 have:=List.all_eq_true.1 h3.2 a ha
 unfold Ar.whole at this;simp only[Bool.and_eq_true]at this;exact List.all_eq_true.1 this.2.2 x hx
theorem zaO(p:List It)(hp:∀x∈p,x.fields.length<=20000)(s:St):∀d:Int,s.whole d=true->StmC p s:=by
 refine St.ind (p:=fun s=>∀d:Int,s.whole d=true->StmC p s) ?_ s
 intro s b1 b2 b3 d h
 obtain⟨w1,w2,w3⟩:=zJs h
 have i1:∀x∈s.body,StmC p x:=fun x hx=>b1 x hx _ (w1 x hx)
 have i2:∀x∈s.els,StmC p x:=fun x hx=>b2 x hx _ (w2 x hx)
 have i3:∀a∈s.arms,∀x∈a.body,StmC p x:=fun a ha x hx=>b3 a ha x hx _ (w3 a ha x hx)
 by_cases o1:s.op=1
 .exact zXQ p hp s d h i1 i2 i3 o1
 by_cases o2:s.op=2
 .exact zXR p hp s d h i1 i2 i3 o2
 by_cases o3:s.op=3
 .exact zXK p hp s d h i1 i2 i3 o3
 by_cases o5:s.op=5
 .exact zXL p hp s d h i1 i2 i3 o5
 by_cases ui:s.op=12
 .exact zUY p hp s d h i1 i2 i3 ui
 by_cases o8:s.op=8
 .exact zXM p hp s d h i1 i2 i3 o8
 by_cases vi:s.op=10
 .exact zUW p hp s d h i1 i2 i3 vi
 by_cases o9:s.op=9
 .exact zXO p hp s d h i1 i2 i3 o9
 by_cases wi:s.op=11
 .exact zUX p hp s d h i1 i2 i3 wi
 exact zXP p hp s d h i1 i2 i3 o1 o2 o3 o5 ui o8 vi o9 wi
attribute [local simp] List.replicate List.range List.range.loop
def zHz(p:List It):List Bool:=p.mapIdx fun q x=>zBI p q x
theorem zDZ(p:List It):(zHz p).length=p.length:=by unfold zHz;simp
theorem zIz(p:List It)(q:Nat)(h:q<p.length):(zHz p)[q]'(by rw[zDZ];exact h)=zBI p q p[q]:=by unfold zHz;simp
def bolE(b:Bool):List PV:=[.v (.bool b)]
theorem zW4(a b:List It):itE (a++b)=itE a++itE b:=by unfold itE;rw[List.map_append]
theorem zOt(p:List It)(q:Nat)(h:q<p.length)(fn:Bool)(hk:decide (p[q].kind=3)=fn)(ha:zBI p q p[q]=false):itE (zAE p fn (q+1))=itE (zAE p fn q)++[(.string p[q].name,itV p[q])]:=by
 rw[zAE,List.getElem?_eq_getElem h];simp only;rw[if_pos (by simp[hk,ha]),zW4]
 rfl
theorem zRC(p:List It)(q:Nat)(h:q<p.length)(fn:Bool)(hk:decide (p[q].kind=3)=(!fn)\/zBI p q p[q]=true):zAE p fn (q+1)=zAE p fn q:=by
 rw[zAE,List.getElem?_eq_getElem h];simp only;rw[if_neg]
 rcases hk with hk|hk
 .rw[hk];cases fn<;>simp
 rw[hk];simp
theorem zW5(p:List It)(tt:p.length<=20000)(o:AObj)(R:ASt):ADet Tryz.prog 26 [.ptr 0 3 0,.agg [.p (prog p)]] ([o,.map [],.map [],.cells [.mp 0 1,.mp 0 2,nilS] 85]::R) (.p (.sl 1 ((zHz p).map bolE))) ([o,.map (itE (zAE p false p.length)),.map (itE (zAE p true p.length)),.cells [.mp 0 1,.mp 0 2,nilS] 85]::R):=by
 refine ADet.okA call26 1 0 rfl rfl fun na=>?_
 have ca:p.length<=maxLen:=okl na
 obtain⟨al,Ze⟩:∃al,al=(zHz p).map bolE:=⟨_,rfl⟩
 have td:al.length=p.length:=by rw[Ze,List.length_map,zDZ]
 have halt:∀q (h:q<p.length),al.take (q+1)=al.take q++[[.v (.bool (zBI p q p[q]))]]:=fun q h=>by
  have this:al[q]? =some [.v (.bool (zBI p q p[q]))]:=by
   rw[Ze,List.getElem?_map,List.getElem?_eq_getElem (by rw[zDZ];exact h),zIz p q h]
   rfl
  rw[List.take_succ_eq_append_getElem (by rw[td];exact h),(List.getElem?_eq_some_iff.1 this).2]
 rw[<-Ze];clear Ze;refine ADet.intro mixed call26 func26 rfl ?_;simp[ntmps26,prog];refine zBF 4 1 (by decide) [.cells [.p (.sl 16 (p.map It.enc))] 27] (fun q:Nat=>q<=p.length) (fun q=>([.ptr 1 3 0,.any,.any,.ptr 0 0 0,.any,.osl 1 (al.take q) 0 1,.any,.any,.any,.any,.any,.any,.p (.sl 16 (p.map It.enc)),I p.length,I q]++List.replicate 33 .any)) (fun q=>[.cells [.p (.sl 16 (p.map It.enc))] 27,.tok 4 1 q]::[o,.map (itE (zAE p false q)),.map (itE (zAE p true q)),.cells [.mp 0 1,.mp 0 2,nilS] 85]::R) (fun q=>p.length-q) 0 (Nat.zero_le _) ?_ ?_ ?_ ?_
 .simp
 .simp
 .simp[zAE,itE]
 intro q hq
 by_cases hlt:q<p.length
 .have aa:(q:Int)<(p.length:Int):=by omega
  have hw:=zA hlt
  have ra:p.length-(q+1)<p.length-q:=by omega
  have Ye:=halt q hlt
  have jl:=zLR p q hlt
  have hy:=zOt p q hlt
  have hn:=zRC p q hlt
  have Eg:=fun fn=>zHE p[q].name (zAE p fn q) 0
  have ln:(al.take q).length=q:=by rw[List.length_take,td];omega
  have ta:q<=4294967295:=by omega
  generalize hx:p[q]=x at*
  generalize al.take q=rc at*
  generalize ha:zBI p q x=a at*
  by_cases h3:x.kind=3
  .have yb:decide (x.kind=3)=true:=decide_eq_true h3
   rw[yb]at jl
   obtain⟨j,hj⟩:=Eg true
   have vc:=hn false (.inl (by simp[h3]))
   cases a with
   |true=>
    have hn2:=hn true (.inr rfl)
    obtain⟨y,dj⟩:=Option.isSome_iff_exists.1 jl
    rw[dj,Option.map_some]at hj;simp[hlt,aa,hx,It.enc,h3,hj,ln,ta]
    exact⟨q+1,hlt,ra,⟨Ye.symm,hw⟩,⟨rfl,by rw[vc],by rw[hn2]⟩⟩
   |false=>
    have So:=hy true yb rfl
    have dj:=Option.isSome_eq_false_iff.1 jl
    rw[Option.isNone_iff_eq_none]at dj;rw[dj,Option.map_none]at hj;simp[hlt,aa,hx,It.enc,h3,hj,ln,ta];exact⟨q+1,hlt,ra,⟨Ye.symm,hw⟩,⟨rfl,by rw[vc],by rw[So,<-h3]⟩⟩
  have yb:decide (x.kind=3)=false:=decide_eq_false h3
  have mn:(x.kind==3)=false:=by simpa using h3
  rw[yb]at jl
  obtain⟨j,hj⟩:=Eg false
  have vc:=hn true (.inl (by simp[h3]))
  cases a with
  |true=>
   have hn2:=hn false (.inr rfl)
   obtain⟨y,dj⟩:=Option.isSome_iff_exists.1 jl
   rw[dj,Option.map_some]at hj;simp[hlt,aa,hx,It.enc,h3,mn,hj,ln,ta]
   exact⟨q+1,hlt,ra,⟨Ye.symm,hw⟩,⟨rfl,by rw[hn2],by rw[vc]⟩⟩
  |false=>
   have So:=hy false yb rfl
   have dj:=Option.isSome_eq_false_iff.1 jl
   rw[Option.isNone_iff_eq_none]at dj;rw[dj,Option.map_none]at hj;simp[hlt,aa,hx,It.enc,h3,mn,hj,ln,ta];exact⟨q+1,hlt,ra,⟨Ye.symm,hw⟩,⟨rfl,by rw[So],by rw[vc]⟩⟩
 have aa:¬(q:Int)<(p.length:Int):=by omega
 have Na:q=p.length:=by omega
 subst Na
 have um:al.take p.length=al:=List.take_of_length_le (by rw[td];exact Nat.le_refl _)
 simp[um]
theorem zH0(p:List It)(pos:Int):∀(a b:List Fi) (met:List BA),zBX p pos met (a++b)=zBX p pos met a++zBX p pos (met++a.map Fi.name) b
 | [],b,met=>by simp[zBX]
 |f::a,b,met=>by simp[zBX,zH0 p pos a b,List.append_assoc]
def Fi.nd1(f:Fi):Nat:=1+f.type.nd
theorem zDz(p:List It)(pos:Int):∀(l:List Fi) (met:List BA),(zBX p pos met l).length<=(l.map Fi.nd1).sum
 | [],met=>Nat.le_refl _
 |f::l,met=>by
  have h1:=zo (decide (cntN met f.name=0)) 60 pos
  have h2:=zEn p pos f.type
  have h3:=zDz p pos l (met++[f.name])
  simp only[zBX,List.length_append,List.map_cons,List.sum_cons,Fi.nd1];omega
theorem zaP(p:List It)(l:List Flt)(hl:l.length+1<=4294967296):KC p 34 [] l (l++zI (zQi p zKz) 62 0):=fun S d h=>by
 have ho:=h.l
 have hf:=h.f
 simp only[nlO]at ho
 obtain⟨j,hj⟩:=zNo p zKz
 have Ya:=fun b L=>(zD8 p b 62 0 l hl).at h L
 rw[zDf h]at Ya;unfold zQi;refine ADet.intro mixed call34 func34 rfl ?_
 cases Pc:fnIt p zKz with
 |none=>
  rw[Pc,Option.map_none]at hj;unfold zKz at hj;simp[ntmps34,ho,hf,hj];refine cq (Ya false _) ?_
  simp
 |some x=>
  rw[Pc,Option.map_some]at hj;unfold zKz at hj
  have Sq:(x.result.kind==1)=decide (x.result.kind=1):=by rw[Bool.eq_iff_iff];simp
  by_cases h0:x.fields=[]
  .simp[ntmps34,ho,hf,hj,h0,Sq]
   refine cq (Ya (decide (x.result.kind=1)) _) ?_;simp[h0]
  simp[ntmps34,ho,hf,hj,h0]
  refine cq (Ya false _) ?_;simp[h0]
theorem zUG(p:List It)(x:It)(l:List Flt)(hl:l.length+(x.fields.map Fi.nd1).sum<=4000000000)(hx:x.fields.length<=20000):KC p 28 [itV x] l (l++zBX p x.pos [] x.fields):=fun S d h=>by
 have ca:x.fields.length<=maxLen:=by unfold maxLen;omega
 have Sa:=zDf h
 obtain⟨F,hF⟩:∃F:Nat->List Flt,F=fun q=>l++zBX p x.pos [] (x.fields.take q):=⟨_,rfl⟩
 have mb:F 0=l:=by rw[hF];simp[zBX]
 have Qb:F x.fields.length=l++zBX p x.pos [] x.fields:=by rw[hF];simp
 have Gb:∀q (hq:q<x.fields.length),F (q+1)=(F q++zI (decide (cntN ((x.fields.take q).map Fi.name) x.fields[q].name=0)) 60 x.pos)++x.fields[q].type.nm p x.pos:=fun q hq=>by
  rw[hF];simp only[List.take_succ_eq_append_getElem hq,zH0];simp[zBX]
 have Fb:∀q (hq:q<x.fields.length),(F q).length+(1+x.fields[q].type.nd)<=4000000000:=fun q hq=>by
  have e1:=zB4 Fi.nd1 hq
  have e2:=zDz p x.pos (x.fields.take q) []
  rw[hF];simp only[List.length_append];unfold Fi.nd1 at*;omega
 clear hF;rw[<-Qb];refine ADet.intro mixed call28 func28 rfl ?_;simp[ntmps28];refine zH (fun q:Nat=>q<=x.fields.length) (fun q=>([.ptr (d+1) 3 0,.any,.any,.ptr 0 0 0,.mp 0 1,.any,.any,.any,.any,.p (.sl 4 (x.fields.map Fi.enc)),I x.fields.length,I q]++List.replicate 24 .any)) (fun q=>[.cells (itU x) 44,.map (ctE (metC ((x.fields.take q).map Fi.name)))]::updK S d (F q)) (fun q=>x.fields.length-q) 0 (Nat.zero_le _) ?_ ?_ ?_
 .simp
 .simp[metC,ctE,mb,Sa]
 intro q hq
 by_cases hlt:q<x.fields.length
 .have aa:(q:Int)<(x.fields.length:Int):=by omega
  have hw:=zA hlt ca
  have ra:x.fields.length-(q+1)<x.fields.length-q:=by omega
  have Qa:=Gb q hlt
  have ut:=Fb q hlt
  have Ye:(x.fields.take (q+1)).map Fi.name=(x.fields.take q).map Fi.name++[x.fields[q].name]:=by rw[List.take_succ_eq_append_getElem hlt,List.map_append];rfl
  have ej:=zJ1 ((x.fields.take q).map Fi.name) x.fields[q].name
  have Ab:=zRQ ((x.fields.take q).map Fi.name) x.fields[q].name
  have Pi:=zLN ((x.fields.take q).map Fi.name) x.fields[q].name
  rw[List.length_map,List.length_take,Nat.min_eq_left hq]at Ab
  have ab:=zEu x.fields[q].name (metC ((x.fields.take q).map Fi.name)) 0
  have de:=zEu x.fields[q].name (zFx (metC ((x.fields.take q).map Fi.name)) x.fields[q].name) 0
  rw[ej]at ab;rw[zGT,ej]at de;simp only[sEq_self,if_true]at de;rw[<-Pi,<-Ye]at de
  generalize hn:cntN ((x.fields.take q).map Fi.name) x.fields[q].name=n at*
  have Ee:IntKind.i64.wrap ((n:Int)+1)=((n+1:Nat):Int):=zA (n:=4294967296) (by omega) (by unfold maxLen;omega)
  rw[<-Ye]at Pi
  have nb:∃j1,zA0 .string (.string x.fields[q].name) (ctE (metC ((x.fields.take (q+1)).map Fi.name))) 0=some (some (j1,I (n+1:Nat))):=by
   rcases de with⟨h1,_,_⟩|⟨j,h1,_⟩
   .omega
   exact⟨_,h1⟩
  obtain⟨j1,nb⟩:=nb
  clear de;rw[<-Pi]at ab
  have Ya:=fun b L=>(zD8 p b 60 x.pos (F q) (by omega)).at h L
  have Fk:=fun b L=>(zXE p x.pos x.fields[q].type (F q++zI b 60 x.pos) (by have:=zo b 60 x.pos;simp only[List.length_append];omega)).at h L
  generalize ng:metC ((x.fields.take (q+1)).map Fi.name)=m1 at*
  generalize sk:metC ((x.fields.take q).map Fi.name)=m0 at*
  generalize hf:x.fields[q]=f at*
  have Tq:=zI6 2 m1
  rcases ab with⟨h1,h2,h3⟩|⟨j,h2,h3⟩
  .have rd:n=0:=by omega
   have Hd:IntKind.i64.wrap 1=1:=rfl
   subst rd
   have yb:ctE m0++[(.string f.name,I 1)]=ctE m1:=h3.symm
   have nb:zA0 .string (.string f.name) (ctE m1) 0=some (some (j1,I 1)):=by simpa using nb
   simp[hlt,aa,hf,Fi.enc,h2,yb,nb,Hd];refine cq (Ya true _) ?_;simp;refine cq (Fk true _) ?_;simp;exact⟨q+1,hlt,ra,hw,by rw[Tq,<-List.map_take,ng],by rw[Qa,List.append_assoc]<;>rfl⟩
  have yb:(ctE m0).set j (.string f.name,I ((n:Int)+1))=ctE m1:=h3.symm
  have hb:((n:Int)+1==1)=decide (n=0):=by rw[Bool.eq_iff_iff];simp;omega
  have He:IntKind.i64.wrap ((n:Int)+1)=(n:Int)+1:=Ee
  have nb:zA0 .string (.string f.name) (ctE m1) 0=some (some (j1,I ((n:Int)+1))):=nb
  simp[hlt,aa,hf,Fi.enc,h2,yb,nb,He,hb];refine cq (Ya (decide (n=0)) _) ?_;simp;refine cq (Fk (decide (n=0)) _) ?_;simp;exact⟨q+1,hlt,ra,hw,by rw[Tq,<-List.map_take,ng],by rw[Qa,List.append_assoc]<;>rfl⟩
 have aa:¬(q:Int)<(x.fields.length:Int):=by omega
 have Na:q=x.fields.length:=by omega
 subst Na;simp
def lev(p:List It)(fl:List Flt)(ext:List AObj):List AObj:=.cells [.p (.sl 16 (p.map It.enc))] 27:: .map (itE (zAE p false p.length)):: .map (itE (zAE p true p.length))::nlO fl.length::rwO fl::ext
theorem zaQ(p:List It)(fl:List Flt)(ext:List AObj)(R:ASt):Lk p (lev p fl ext::R) 0 fl:=⟨rfl,rfl,rfl,rfl⟩
def c0F:Cf:=⟨0,0,7,6⟩
def levF(p:List It)(x:It)(σ:Nf)(b:List AObj):List AObj:=lev p σ.fl (.cells (itU x) 44::mdO σ.made::fnO c0F σ::b)
theorem zVN(p:List It)(x:It)(σ:Nf)(b:List AObj)(R:ASt):NAt p (levF p x σ b::R) c0F σ:=⟨⟨rfl,rfl,rfl,rfl⟩,rfl,rfl,fun _=>by unfold c0F;simp,fun _=>by unfold c0F;simp,by unfold c0F;simp⟩
theorem zJt(p:List It)(x:It)(σ τ:Nf)(b:List AObj)(R:ASt):updF (levF p x σ b::R) c0F τ=levF p x τ b::R:=rfl
theorem KC.lev{p:List It}{F:Nat}{args:List AV}{l l':List Flt}(h:KC p F args l l')(ext:List AObj)(R:ASt):ADet Tryz.prog F (.ptr 0 3 0::args) (lev p l ext::R) .un (lev p l' ext::R):=h _ 0 (zaQ p l ext R)
theorem endK(p:List It)(x:It)(σ:Nf)(b:List AObj)(d:Int)(hw:x.ret.whole d=true)(hl:σ.fl.length+x.ret.nd<=4000000000)(L:List AObj)(R:ASt):ADet Tryz.prog 32 [.ptr 1 8 0,.ptr 1 5 0] (L::levF p x σ (.cells [.ptr 0 7 0] 91::b)::R) .un (L::levF p x (σ.add (x.ret.nm p σ.made)) (.cells [.ptr 0 7 0] 91::b)::R):=by
 have hx:=zH4 p x.ret d σ hw hl ([]::L::levF p x σ (.cells [.ptr 0 7 0] 91::b)::R) c0F.up.up (((zVN p x σ _ R).cons L).cons [])
 rw[zAk,zAk,zJt]at hx;refine ADet.intro mixed call32 func32 rfl ?_
 have g1:get2 (levF p x σ (.cells [.ptr 0 7 0] 91::b)::R) 0 8=some (.cells [.ptr 0 7 0] 91):=rfl
 have g2:get2 (levF p x σ (.cells [.ptr 0 7 0] 91::b)::R) 0 5=some (.cells (itU x) 44):=rfl
 generalize levF p x σ (.cells [.ptr 0 7 0] 91::b)=LL at*
 simp[ntmps32,g1,g2];refine cq hx ?_;simp
attribute [local simp] zf za zn zb List.forall_mem_cons List.contains_cons List.contains_nil List.find? zm zl zZ
theorem zI0(p:List It):∀(a b:List It) (i:Nat) (fl:List Flt),zDH p i (a++b) fl=zDH p (i+a.length) b (zDH p i a fl)
 | [],b,i,fl=>rfl
 |x::a,b,i,fl=>by
  rw[List.cons_append,zDH,zDH,zI0 p a b,List.length_cons]
  congr 1
  omega
theorem zLD(p:List It)(x:It)(fl:List Flt):Near ⟨(x.fields.map Fi.name).foldl (fun m s=>mPut m s true) [],x.fields.length,0,fl⟩ ((x.body.map St.nd).sum+x.ret.nd) (zJe p x fl):=by
 have e1:=(zCN p (l:=x.body) (fun s _ σ=>zC5 p s σ) ⟨(x.fields.map Fi.name).foldl (fun m s=>mPut m s true) [],x.fields.length,0,fl⟩).1
 have e2:=e1.trans (Near.add _ (zJf p (St.nms p x.body ⟨(x.fields.map Fi.name).foldl (fun m s=>mPut m s true) [],x.fields.length,0,fl⟩).1.made x.ret))
 exact(e2.trans (zER (St.nms p x.body ⟨(x.fields.map Fi.name).foldl (fun m s=>mPut m s true) [],x.fields.length,0,fl⟩).2 _)).le (by omega)
theorem zRD(p:List It)(q:Nat)(x:It)(fl:List Flt):(zDu p q x fl).length<=fl.length+x.nd:=by
 have h1:=zo (!zBI p q x) 60 x.pos
 have h2:=zDz p x.pos x.fields []
 have h3:=zEn p x.pos x.result
 have h4:=zLD p x (((fl++zI (!zBI p q x) 60 x.pos)++zBX p x.pos [] x.fields)++x.result.nm p x.pos)
 have h5:=zo (decide ((zJe p x (((fl++zI (!zBI p q x) 60 x.pos)++zBX p x.pos [] x.fields)++x.result.nm p x.pos)).count<=60)) 4 x.pos
 have h6:=h4.2.1
 have e:(x.fields.map Fi.nd1).sum=(x.fields.map Fi.nd).sum:=rfl
 unfold zDu It.nd;simp only;split
 .simp only[List.length_append]at*
  omega
 simp only[List.length_append]at*
 omega
theorem zGS(p:List It):∀(l:List It) (q:Nat) (fl:List Flt),(zDH p q l fl).length<=fl.length+(l.map It.nd).sum
 | [],q,fl=>Nat.le_refl _
 |x::l,q,fl=>by
  have h1:=zGS p l (q+1) (zDu p q x fl)
  have h2:=zRD p q x fl
  rw[zDH,List.map_cons,List.sum_cons];omega
theorem zGm(n:Nat)(l:List It):(itE l).map (fun kv=>(kv.1,AV.cut n kv.2))=itE l:=by
 unfold itE;rw[List.map_map];rfl
theorem zRE(n:Nat)(m:List Fg):(mdE m).map (fun kv=>(kv.1,AV.cut n kv.2))=mdE m:=by
 unfold mdE;rw[List.map_map];rfl
theorem zZE(n:Nat)(fl:List Flt):AObj.mrg n (rwO fl)=rwO fl:=by
 show AObj.row _ _ _ (AV.mrgs n (rowC fltE fl))=_
 rw[zTd];rfl
theorem zNY(n:Nat)(fl:List Flt):AObj.cut n (rwO fl)=rwO fl:=by
 show AObj.row _ _ _ (AV.cuts n (rowC fltE fl))=_
 rw[zM4];rfl
theorem zMR(p:List It)(hs:PrSm p)(fb:(p.map It.nd).sum<=30000)(hw:zx p=true)(L:List AObj)(Jc:wkL L L)(R:ASt):ADet Tryz.prog 18 [.agg [.p (prog p)]] (L::R) (.rsl 0 (L.length+4) (zBa p).length 2) ((L++[.dead,.dead,.dead,.dead,rwO (zBa p)])::R):=by
 have dl:=fun S=>zGL p hs S
 rw[hw]at dl;refine ADet.after (S':=(L++(lev p (zBa p) []).map (AObj.mrg L.length))::R) ⟨zBJ Jc ?_,rfl⟩ ?_
 .show wkL [AObj.mrg L.length (rwO (zBa p))] [rwO (zBa p)]
  rw[zZE];exact⟨⟨⟨rfl,rfl,rfl⟩,zS _⟩,trivial⟩
 refine ADet.merge mixed call18 func18 rfl ?_
 have hp:p.length<=20000:=hs.1
 have ca:p.length<=maxLen:=by unfold maxLen;omega
 have ic:∀x∈p,x.fields.length<=20000:=fun x hx=>(hs.2 x hx).2.1.1
 have To:∀x∈p,x.whole 39=true:=by
  unfold zx zq at hw;simp only[Bool.and_eq_true,decide_eq_true_eq]at hw;rw[List.take_of_length_le (by omega)]at hw
  exact List.all_eq_true.1 hw.2
 obtain⟨F,hF⟩:∃F:Nat->List Flt,F=fun q=>zDH p 0 (p.take q) []:=⟨_,rfl⟩
 have mb:F 0=[]:=by rw[hF];rfl
 have Qb:F p.length=zDH p 0 p []:=by rw[hF];simp
 have Gb:∀q (hq:q<p.length),F (q+1)=zDu p q p[q] (F q):=fun q hq=>by
  rw[hF];simp only[List.take_succ_eq_append_getElem hq,zI0,List.length_take,Nat.min_eq_left (Nat.le_of_lt hq),Nat.zero_add];rfl
 have Fb:∀q (hq:q<p.length),(F q).length+p[q].nd<=30000:=fun q hq=>by
  have e1:=zB4 It.nd hq
  have e2:=zGS p (p.take q) 0 []
  rw[hF];simp only[List.length_nil]at e2 ⊢;omega
 have pv:(F p.length).length<=30000:=by
  have e2:=zGS p p 0 []
  rw[Qb];simp only[List.length_nil]at e2;omega
 have re:zBa p=F p.length++zI (zQi p zKz) 62 0:=by unfold zBa;rw[if_pos hw,Qb]
 clear hF
 have Uq:=fun o R=>zW5 p hp o R
 obtain⟨al,Ze⟩:∃al,al=(zHz p).map bolE:=⟨_,rfl⟩
 have Uo:∀q (h:q<p.length),al[q]? =some [.v (.bool (zBI p q p[q]))]:=fun q h=>by
  rw[Ze,List.getElem?_map,List.getElem?_eq_getElem (by rw[zDZ];exact h),zIz p q h]
  rfl
 have ja:al.length=p.length:=by rw[Ze,List.length_map,zDZ]
 rw[<-Ze]at Uq;clear Ze
 have Vo:=fun R=>(zaP p (F p.length) (by omega)).lev [] R
 simp[ntmps18];refine cq (dl _) ?_;simp;refine cq (Uq _ _) ?_;simp[prog];refine zFb 54 2 (by decide) [.cells [.p (.sl 16 (p.map It.enc))] 27,.map (itE (zAE p false p.length)),.map (itE (zAE p true p.length)),nlO 0] (fun q:Nat=>q<=p.length) (fun q=>([.any,.ptr 0 0 0,.any,.ptr 0 3 0,.p (.sl 1 al)]++(List.replicate 18 .any++([.p (.sl 16 (p.map It.enc)),I p.length,I q]++List.replicate 69 .any)))) (fun q=>lev p (F q) []::L::R) (fun q=>p.length-q) (fun _=>5) 0 (Nat.zero_le _) ?_ ?_ ?_ ?_ ?_
 .intro q _;simp[lev]
 .simp
 .exact⟨⟨rfl,.inr (.inl rfl),trivial⟩,rfl,rfl,⟨rfl,.inr (.inl rfl),.inr (.inl rfl),.inr (.inr ⟨rfl,rfl⟩),trivial⟩,trivial⟩
 .simp[mb,lev,rwO,rowC]
 intro q hq
 by_cases hlt:q<p.length
 .have aa:(q:Int)<(p.length:Int):=by omega
  have He:=zA hlt ca
  have ra:p.length-(q+1)<p.length-q:=by omega
  have Qa:=Gb q hlt
  have ut:=Fb q hlt
  have Vm:q<al.length:=by rw[ja];exact hlt
  have vt:al[q]=[.v (.bool (zBI p q p[q]))]:=(List.getElem?_eq_some_iff.1 (Uo q hlt)).2
  have wt:=ic _ (List.getElem_mem hlt)
  have xt:=To _ (List.getElem_mem hlt)
  generalize hx:p[q]=x at*
  generalize ha:zBI p q x=a at*
  have Wo:x.nd=3+((x.fields.map Fi.nd1).sum+(x.result.nd+((x.body.map St.nd).sum+x.ret.nd))):=rfl
  have Ya:=fun ext R=>(zD8 p (!a) 60 x.pos (F q) (by omega)).lev ext R
  have qv:=zo (!a) 60 x.pos
  obtain⟨f1,Pf⟩:∃f,f=F q++zI (!a) 60 x.pos:=⟨_,rfl⟩
  rw[<-Pf]at Ya
  have At:f1.length<=(F q).length+1:=by rw[Pf,List.length_append];omega
  have Pc:=fun ext R=>(zUG p x f1 (by omega) wt).lev ext R
  have rv:=zDz p x.pos x.fields []
  obtain⟨f2,Be⟩:∃f,f=f1++zBX p x.pos [] x.fields:=⟨_,rfl⟩
  rw[<-Be]at Pc
  have Bt:f2.length<=f1.length+(x.fields.map Fi.nd1).sum:=by rw[Be,List.length_append];omega
  simp[hlt,aa,hx,It.enc,lev];refine dB [] (by kernel_rfl) ?_
  simp[vt,Vm];refine cq (Ya [.cells (itU x) 44] _) ?_;simp;refine cq (Pc [.cells (itU x) 44] _) ?_;simp[lev]
  by_cases h3:x.kind=3
  .have Fk:=fun ext R=>(zXE p x.pos x.result f2 (by omega)).lev ext R
   have sv:=zEn p x.pos x.result
   obtain⟨f3,dn⟩:∃f,f=f2++x.result.nm p x.pos:=⟨_,rfl⟩
   rw[<-dn]at Fk
   have Ct:f3.length<=f2.length+x.result.nd:=by rw[dn,List.length_append];omega
   simp[h3];refine cq (Fk [.cells (itU x) 44] _) ?_;simp[lev];refine cq (zLK (L::R) (lev p f3 [.cells (itU x) 44]) 0) ?_;simp[lev]
   obtain⟨M,hM⟩:∃M:Nat->List Fg,M=fun k=>((x.fields.take k).map Fi.name).foldl (fun m s=>mPut m s true) []:=⟨_,rfl⟩
   have Dt:M 0=[]:=by rw[hM];rfl
   have Et:M x.fields.length=(x.fields.map Fi.name).foldl (fun m s=>mPut m s true) []:=by rw[hM];simp
   have Ft:∀k (hk:k<x.fields.length),M (k+1)=mPut (M k) x.fields[k].name true:=fun k hk=>by
    rw[hM];simp only[List.take_succ_eq_append_getElem hk,List.map_append,List.foldl_append];rfl
   clear hM
   have Xo:x.fields.length<=maxLen:=by unfold maxLen;omega
   refine zH (fun k:Nat=>k<=x.fields.length) (fun k=>([.any,.ptr 0 0 0,.any,.ptr 0 3 0,.p (.sl 1 al),I q,.ptr 0 5 0,.ptr 0 8 0]++(List.replicate 15 .any++([.p (.sl 16 (p.map It.enc)),I p.length,I q]++(List.replicate 28 .any++([.p (.sl 4 (x.fields.map Fi.enc)),I x.fields.length,I k]++List.replicate 38 .any)))))) (fun k=>levF p x ⟨M k,0,0,f3⟩ [.cells [.ptr 0 7 0] 91]::L::R) (fun k=>x.fields.length-k) 0 (Nat.zero_le _) ?_ ?_ ?_
   .simp
   .simp[levF,lev,fnO,mdO,mdE,Dt,c0F]
    exact⟨⟨rfl,zS _⟩,⟨⟨rfl,rfl,rfl⟩,zS _⟩,⟨rfl,zS _⟩,rfl,⟨rfl,zS _⟩,⟨rfl,zS _⟩,trivial⟩
   intro k hk
   by_cases mh:k<x.fields.length
   .have vm:(k:Int)<(x.fields.length:Int):=by omega
    have Vq:=zA mh Xo
    have Ka:=Ft k mh
    have wm:x.fields.length-(k+1)<x.fields.length-k:=by omega
    generalize hy:x.fields[k]=y at*
    simp[mh,vm,hy,Fi.enc,levF,lev,fnO,c0F];refine dB [] (by kernel_rfl) ?_
    rcases zDK y.name (M k) 0 with⟨g1,g2,g3⟩|⟨j,b,g1,g2,g3⟩
    .simp[g2,mdO]
     refine⟨k+1,mh,wm,Vq,zGm _ _,zGm _ _,?_⟩
     have e1:(mdE (M k)).map (fun kv=>(kv.1,AV.cut 9 kv.2))++[(.string y.name,.agg [.p (.v (.bool true))])]=mdE (M (k+1)):=by rw[zRE,Ka];rw[g3];unfold mdE;rw[List.map_append];rfl
     rw[e1]
     show wkL [nlO f3.length,AObj.cut 9 (rwO f3),.cells (itU x) 44,.map (mdE (M (k+1))),.cells [.ptr 0 3 0,.mp 0 6,I 0,I 0] 97,.cells [.ptr 0 7 0] 91] _
     rw[zNY];exact⟨⟨rfl,zS _⟩,⟨⟨rfl,rfl,rfl⟩,zS _⟩,⟨rfl,zS _⟩,rfl,⟨rfl,zS _⟩,⟨rfl,zS _⟩,trivial⟩
    simp[g2,mdO]
    refine⟨k+1,mh,wm,Vq,zGm _ _,zGm _ _,?_⟩
    have e1:((mdE (M k)).map (fun kv=>(kv.1,AV.cut 9 kv.2))).set j (.string y.name,.agg [.p (.v (.bool true))])=mdE (M (k+1)):=by rw[zRE,Ka];rw[g3]
    rw[e1]
    show wkL [nlO f3.length,AObj.cut 9 (rwO f3),.cells (itU x) 44,.map (mdE (M (k+1))),.cells [.ptr 0 3 0,.mp 0 6,I 0,I 0] 97,.cells [.ptr 0 7 0] 91] _
    rw[zNY];exact⟨⟨rfl,zS _⟩,⟨⟨rfl,rfl,rfl⟩,zS _⟩,⟨rfl,zS _⟩,rfl,⟨rfl,zS _⟩,⟨rfl,zS _⟩,trivial⟩
   have vm:¬(k:Int)<(x.fields.length:Int):=by omega
   have Si:k=x.fields.length:=by omega
   subst Si;simp[levF,lev,fnO,c0F]
   obtain⟨σ,hσ⟩:∃σ:Nf,σ=⟨M x.fields.length,x.fields.length,0,f3⟩:=⟨_,rfl⟩
   obtain⟨τ,hτ⟩:∃τ,τ=(St.nms p x.body σ).1.add (x.ret.nm p (St.nms p x.body σ).1.made):=⟨_,rfl⟩
   obtain⟨g,Ld⟩:∃g,g=Nf.undo (St.nms p x.body σ).2 τ:=⟨_,rfl⟩
   have ai:=xt
   unfold It.whole at ai;rw[if_neg (by omega),if_pos h3]at ai
   simp only[Bool.and_eq_true]at ai
   have Gt:∀s∈x.body,s.whole 38=true:=fun s hs=>List.all_eq_true.1 ai.2.2.2.2.2 s hs
   have xm:x.ret.whole 38=true:=ai.2.2.2.2.1
   have Gd:=(zCN p (l:=x.body) (fun s _ σ=>zC5 p s σ) σ).1
   have tv:σ.fl.length=f3.length:=by rw[hσ]
   have ah:BdN σ (x.body.map St.nd).sum:=by
    rw[hσ];exact⟨by simp only;omega,by simp only;omega,by simp only;omega⟩
   have jb:(St.nms p x.body σ).1.fl.length+x.ret.nd<=4000000000:=by
    have:=Gd.2.1
    omega
   have Yh:g=zJe p x f3:=by rw[Ld,hτ,hσ,Et];rfl
   have hE:∀LL:List AObj,ADet Tryz.prog 32 (AV.ups 1 [.ptr 0 8 0,.ptr 0 5 0]) (LL::updF (levF p x σ [.cells [.ptr 0 7 0] 91]::L::R) c0F (St.nms p x.body σ).1) .un (LL::updF (levF p x σ [.cells [.ptr 0 7 0] 91]::L::R) c0F τ):=fun LL=>by
    rw[zJt,zJt,hτ];exact endK p x (St.nms p x.body σ).1 [] 38 xm jb LL (L::R)
   have Aa:=zRU p x.body (fun s hs=>zaO p ic s 38 (Gt s hs)) σ ah 32 [.ptr 0 8 0,.ptr 0 5 0] τ _ c0F (zVN p x σ [.cells [.ptr 0 7 0] 91] (L::R)) hE
   rw[zJt,<-Ld]at Aa
   have Wq:g.fl.length+1<=4294967296:=by
    have:=(zLD p x f3).2.1
    rw[Yh];simp only at this;omega
   have Ht:=fun ext R=>(zD8 p (decide (g.count<=60)) 4 x.pos g.fl Wq).lev ext R
   have yk:F (q+1)=g.fl++zI (decide (g.count<=60)) 4 x.pos:=by
    rw[Qa];unfold zDu;simp only;rw[ha,if_pos h3,Yh,dn,Be,Pf]
   have Jt:=Aa
   rw[hσ]at Aa;refine cq Aa ?_;simp[levF,lev,fnO,c0F];refine dB [] (by kernel_rfl) ?_
   have Gk:decide ((g.count:Int)<=60)=decide (g.count<=60):=decide_eq_decide.2 (by omega)
   simp[Gk];refine cq (Ht [.cells (itU x) 44,mdO g.made,fnO c0F g,.cells [.ptr 0 7 0] 91] _) ?_;simp[lev,nlO]
   exact⟨q+1,hlt,ra,He,zGm _ _,zGm _ _,by rw[yk];simp,by
    rw[<-yk]
    show wkL [AObj.cut 5 (rwO (F (q+1)))] [rwO (F (q+1))]
    rw[zNY];exact⟨⟨⟨rfl,rfl,rfl⟩,zS _⟩,trivial⟩⟩
  have mn:(x.kind==3)=false:=by simpa using h3
  have yk:F (q+1)=f2:=by
   rw[Qa];unfold zDu;simp only;rw[ha,if_neg h3,Be,Pf]
  simp[h3,mn,nlO]
  exact⟨q+1,hlt,ra,He,zGm _ _,zGm _ _,by rw[yk],by
    show wkL [AObj.cut 5 (rwO f2)] [rwO (F (q+1))]
    rw[zNY,yk];exact⟨⟨⟨rfl,rfl,rfl⟩,zS _⟩,trivial⟩⟩
 have aa:¬(q:Int)<(p.length:Int):=by omega
 have Na:q=p.length:=by omega
 subst Na;simp[lev];refine cq (Vo _) ?_;rw[<-re];simp[lev,nlO];simp[AV.mrg,Nat.add_comm]
end Go.Proofs.YtgpajpilkapciaaGreatDoor
namespace Go.Proofs.YtgpajpilkapciaaGreatDoor
open Go.RowKit _root_.Go.Proofs.Tryz
attribute [local simp] List.replicate List.range List.range.loop
theorem zRF(p:List It)(hs:PrSm p)(hw:zx p=false)(L:List AObj)(Jc:wkL L L)(R:ASt):ADet Tryz.prog 18 [.agg [.p (prog p)]] (L::R) (.rsl 0 (L.length+1) (zBa p).length 2) ((L++[.dead,rwO (zBa p)])::R):=by
 have dl:=fun S=>zGL p hs S
 rw[hw]at dl
 have re:zBa p=[(2,0)]:=by unfold zBa;rw[if_neg (by rw[hw];simp)]
 rw[re];refine ADet.after (S':=(L++[.cells [.p (prog p)] 27,rwO [(2,0)]])::R) ⟨zBJ Jc ?_,rfl⟩ ?_
 .exact⟨⟨⟨rfl,rfl,rfl⟩,zS _⟩,trivial⟩
 refine ADet.merge mixed call18 func18 rfl ?_;simp[ntmps18];refine cq (dl _) ?_;simp;exact⟨by simp[AV.mrg,Nat.add_comm],rfl,rfl⟩
end Go.Proofs.YtgpajpilkapciaaGreatDoor
