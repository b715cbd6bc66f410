/- A part of the proof. -/
import Derived.Test.YtgpajpilkapciaaGreatDoorXNTy
set_option linter.unusedVariables false
set_option linter.unusedSimpArgs false
set_option maxRecDepth 100000
set_option maxHeartbeats 32000000
namespace Go.Proofs.YtgpajpilkapciaaGreatDoor
open Go.RowKit _root_.Go.Proofs.Tryz
abbrev Qn:=Ty × Bool
def zE8(t:Ty)(b:Bool):Bool:=decide (t.kind=7)||(b&&decide (t.kind=6))
def zAw(k:Int)(b:Bool)(x:Ty):List Qn:=
 if k=8 then [(x,false),(x,true)]
 else if k=9\/k=11\/k=12 then [(x,false)]
 else if k=13 then [(x,true)]
 else [(x,b)]
def zDD(p:List It)(t:Ty)(b:Bool):List Qn:=
 if t.kind=4 then((zW p t.name).getD []).map fun f=>(f.type,b)else t.args.flatMap (zAw t.kind b)
abbrev zA8:=List ((BA × Bool) × Int)
def zBz(s:BA)(b:Bool):zA8->zA8 × Int
 | []=>([((s,b),1)],1)
 |((s',b'),n)::a=>if(sEq s s'&&(b==b'))=true then(((s,b),IntKind.i64.wrap (n+1))::a,IntKind.i64.wrap (n+1))else(((s',b'),n)::(zBz s b a).1,(zBz s b a).2)
def zBe{α:Type}(f:Qn->α->Option (Bool × α)):List Qn->α->Option (Bool × α)
 | [],a=>some (false,a)
 |q::qs,a=>
  match f q a with
  |some (true,a')=>some (true,a')
  |some (false,a')=>zBe f qs a'
  |none=>none
def zFR(p:List It):Nat->Qn->zA8->Option (Bool × zA8)
 |0,q,a=>none
 |n+1,(t,b),a=>
  if t.kind=4 then
   if 1<(zBz t.name b a).2 then some (false,(zBz t.name b a).1)
   else zBe (zFR p n) (zDD p t b) (zBz t.name b a).1
  else if zE8 t b=true then some (true,a)
  else zBe (zFR p n) (zDD p t b) a
def zEa(p:List It)(n:Nat)(t:Ty)(b:Bool):Option Bool:=if t.whole 40=true then(zFR p n (t,b) []).map fun r=>!r.1 else some false
theorem zJ9{p:List It}(hp:PrSm p){t:Ty}(ht:TySm t){b:Bool}{u:Ty}{c:Bool}(h:(u,c)∈zDD p t b):TySm u:=by
 unfold zDD at h;split at h
 .obtain⟨g,hg,he⟩:=List.mem_map.1 h
  cases he;unfold zW at hg
  cases hx:zU p t.name with
  |none=>rw[hx]at hg;simp at hg
  |some x=>
   rw[hx]at hg;simp only at hg;split at hg
   .exact((zFm hp hx).2.1.2 g (by simpa using hg)).2
   simp at hg
 obtain⟨x,hx,he⟩:=List.mem_flatMap.1 h
 obtain⟨_,_,_,h4⟩:=ht
 have hs:=h4 x hx
 unfold zAw at he;split at he
 .simp at he
  rcases he with⟨rfl,_⟩|⟨rfl,_⟩<;>exact hs
 split at he
 .simp at he;obtain⟨rfl,_⟩:=he;exact hs
 split at he
 .simp at he;obtain⟨rfl,_⟩:=he;exact hs
 simp at he;obtain⟨rfl,_⟩:=he;exact hs
attribute [local simp] List.replicate List.range List.range.loop
abbrev qCs(t:Ty)(b:Bool):List AV:=[U t.kind,Sg t.name,.p (.sl 3 (t.args.map Ty.enc)),B b]
abbrev qV(t:Ty)(b:Bool):AV:=.agg (qCs t b)
theorem zZd(t:Ty)(b:Bool)(S:ASt):ADet Tryz.prog 48 [qV t b] S (B (zE8 t b)) S:=by
 unfold zE8;refine ADet.intro mixed call48 func48 rfl ?_
 by_cases h7:t.kind=7
 .simp[ntmps48,h7]
 have ti:(t.kind==7)=false:=by simpa using h7
 cases b with
 |false=>simp[ntmps48,ti,h7]
 |true=>
  by_cases h6:t.kind=6
  .simp[ntmps48,h6]
  have Fl:(t.kind==6)=false:=by simpa using h6
  simp[ntmps48,ti,h7,Fl,h6]
theorem zZe(p:List It)(t:Ty)(b:Bool)(a0 a1:AObj)(S:ASt):ADet Tryz.prog 49 [qV t b,.agg [.p (prog p)]] ([a0,a1]::S) (.fn (.func 76) [] [.ptr 0 2 0,.ptr 0 3 0])
  ([a0,a1,.cells (qCs t b) 77,.cells [.p (prog p)] 27]::S):=by
 refine ADet.flat mixed call49 func49 rfl ?_;simp[ntmps49]
theorem zZf(p:List It)(t:Ty)(b:Bool)(a0 a1 a2:AObj)(S:ASt):ADet Tryz.prog 49 [qV t b,.agg [.p (prog p)]] ([a0,a1,a2]::S) (.fn (.func 76) [] [.ptr 0 3 0,.ptr 0 4 0])
  ([a0,a1,a2,.cells (qCs t b) 77,.cells [.p (prog p)] 27]::S):=by
 refine ADet.flat mixed call49 func49 rfl ?_;simp[ntmps49]
theorem ADet.lessTu{P:Program}{F:FuncId}{xs:List AV}{S S':ASt}{l l':List AV}(ta:LeAs l l')(h:ADet P F xs S (.tup l) S'):ADet P F xs S (.tup l') S':=
 ⟨h.1,fun Pr φ ys w ea hR hne=>(h.2 Pr φ ys w ea hR hne).mono fun e w' hp=>by
  obtain⟨x,Pr',φ',h1,h2,h3,h4⟩:=hp
  refine⟨x,Pr',φ',h1,h2,h3,?_⟩
  cases h4 with
  |tup k1 k2=>
   obtain⟨hl,hk⟩:=(zCr (Pr:=Pr') (φ:=φ')).2 ta
   exact .tup (hl ▸ k1) fun j c y hc hy=>by
    obtain⟨v,m1,m2⟩:=hk j c hc
    exact m2 (k2 j v y m1 hy)⟩
def jB:Bool->Option Code
 |true=>some (.exit 0)
 |false=>none
theorem zRe{p:List It}(h:PrSm p)(nm:BA):((zW p nm).getD []).length<=20000:=by
 unfold zW
 cases hx:zU p nm with
 |none=>simp
 |some x=>
  simp only;split
  .exact(zFm h hx).2.1.1
  simp
theorem zMZ(p:List It)(hp:PrSm p)(t:Ty)(ht:TySm t)(b:Bool){α:Type}(f:Qn->α->Option (Bool × α))(G:α->ASt)(i1:Nat)(hq:∀a,get2 (G a) 0 i1=some (.cells (qCs t b) 77))(pj:∀a,get2 (G a) 0 (i1+1)=some (.cells [.p (prog p)] 27))(lp:Nat)(R:Option Code->List AObj)
  (hY:∀(L:List AObj) (u:Ty) (c:Bool) (a:α) (r:Bool × α),(u,c)∈zDD p t b->f (u,c) a=some r->YDet Tryz.prog lp [qV u c] (L::R none::G a) (B (!r.1)) (L::R (jB r.1)::G r.2))
  (a:α) (r:Bool × α) (hr:zBe f (zDD p t b) a=some r):
  ADet Tryz.prog 76 [.fn (.yield lp) [] [],.ptr 1 i1 0,.ptr 1 (i1+1) 0] (R none::G a) .un (R (jB r.1)::G r.2):=by
 have hA:zDD p t b=_:=rfl
 unfold zDD at hr
 conv at hA=>rhs;unfold zDD
 refine ADet.introQ mixed call76 func76 rfl (by kernel_rfl) ?_
 by_cases h4:t.kind=4
 .rw[if_pos h4]at hr hA
  obtain⟨l,ok,fC,ca,hA,hr⟩:∃(l:List Fi) (ok:Bool),(∀S,ADet Tryz.prog 62 [.agg [.p (prog p)],Sg t.name] S (.tup [.p (.sl 4 (l.map Fi.enc)),B ok]) S)/\l.length<=20000/\zDD p t b=l.map (fun g=>(g.type,b))/\zBe f (l.map fun g=>(g.type,b)) a=some r:=by
   have hs:=zRe hp t.name
   have fC:=fun S=>zDX p hp t.name S
   cases hF:zW p t.name with
   |none=>
    rw[hF]at fC hr hs hA
    exact⟨[],false,fun S=>ADet.lessTu (.cons (.p (.nil 4)) (.refl _)) (fC S),by simp,hA,hr⟩
   |some l=>
    rw[hF]at fC hr hs hA;exact⟨l,true,fC,hs,hA,hr⟩
  simp[ntmps76,hq,pj,h4];refine cq (fC _) ?_;simp;refine zG6 (fun(x:Nat × α)=>x.1<=l.length/\zBe f ((l.drop x.1).map fun g=>(g.type,b)) x.2=some r) (fun x=>([.fn (.yield lp) [] [],.ptr 2 i1 0,.ptr 2 (i1+1) 0]++(List.replicate 20 .any++([.p (.sl 4 (l.map Fi.enc)),I l.length,I x.1]++List.replicate 63 .any)))) (fun x=>[]::R none::G x.2) (fun x=>l.length-x.1) (0,a) ⟨Nat.zero_le _,by simpa using hr⟩ ?_ ?_ ?_
  .simp
  .simp
  rintro⟨q,a'⟩ ⟨oi,Pa⟩
  simp only at oi Pa
  by_cases hlt:q<l.length
  .have aa:(q:Int)<(l.length:Int):=by omega
   have hd:l.drop q=l[q]::l.drop (q+1):=List.drop_eq_getElem_cons hlt
   have hw:=zA hlt (by unfold maxLen;omega)
   rw[hd]at Pa
   have hm:(l[q].type,b)∈zDD p t b:=by rw[hA];exact List.mem_map.2 ⟨l[q],List.getElem_mem hlt,rfl⟩
   generalize he:l[q]=g at*
   simp only[List.map_cons,zBe]at Pa
   cases Cc:f (g.type,b) a' with
   |none=>rw[Cc]at Pa;cases Pa
   |some s=>
   obtain⟨s1,a2⟩:=s
   have y:=fun L=>hY L g.type b a' _ hm Cc
   rw[Cc]at Pa;simp[hlt,aa,he,Fi.enc,hq,pj];refine cq (y _) ?_
   cases s1 with
   |true=>
    cases Pa
    simp[jB]
   |false=>
    simp[jB,-Bool.exists_bool];exact⟨q+1,a2,⟨hlt,by simpa using Pa⟩,by omega,by simp[hw]⟩
  have aa:¬(q:Int)<(l.length:Int):=by omega
  rw[List.drop_of_length_le (by omega)]at Pa
  cases Pa;simp[aa,jB]
 rw[if_neg h4]at hr hA
 have pi:(t.kind==4)=false:=by simpa using h4
 have ca:t.args.length<=20000:=by obtain⟨_,_,h,_⟩:=ht;exact h
 simp[ntmps76,hq,pj,pi];refine zG6 (fun(x:Nat × α)=>x.1<=t.args.length/\zBe f ((t.args.drop x.1).flatMap (zAw t.kind b)) x.2=some r) (fun x=>([.fn (.yield lp) [] [],.ptr 2 i1 0,.ptr 2 (i1+1) 0]++(List.replicate 37 .any++([.p (.sl 3 (t.args.map Ty.enc)),I t.args.length,I x.1]++List.replicate 46 .any)))) (fun x=>[]::R none::G x.2) (fun x=>t.args.length-x.1) (0,a) ⟨Nat.zero_le _,by simpa using hr⟩ ?_ ?_ ?_
 .simp
 .simp
 rintro⟨q,a'⟩ ⟨oi,Pa⟩
 simp only at oi Pa
 by_cases hlt:q<t.args.length
 .have aa:(q:Int)<(t.args.length:Int):=by omega
  have hd:t.args.drop q=t.args[q]::t.args.drop (q+1):=List.drop_eq_getElem_cons hlt
  have hw:=zA hlt (by unfold maxLen;omega)
  rw[hd]at Pa
  have hm:∀(c:Bool),(t.args[q],c)∈zAw t.kind b t.args[q]->(t.args[q],c)∈zDD p t b:=fun c hc=>by rw[hA];exact List.mem_flatMap.2 ⟨_,List.getElem_mem hlt,hc⟩
  generalize he:t.args[q]=x at*
  simp only[List.flatMap_cons]at Pa
  by_cases h8:t.kind=8
  .have ha:zAw t.kind b x=[(x,false),(x,true)]:=by unfold zAw;rw[if_pos h8]
   simp only[ha,List.cons_append,List.nil_append,zBe]at Pa
   cases Cc:f (x,false) a' with
   |none=>rw[Cc]at Pa;cases Pa
   |some s=>
   obtain⟨s1,a2⟩:=s
   have y:=fun L=>hY L x false a' _ (hm false (by rw[ha];simp)) Cc
   rw[Cc]at Pa;simp[hlt,aa,he,zP,hq,pj,h8];refine cq (y _) ?_
   cases s1 with
   |true=>
    cases Pa
    simp[jB]
   |false=>
    simp only at Pa
    cases hfq2:f (x,true) a2 with
    |none=>rw[hfq2]at Pa;cases Pa
    |some s=>
    obtain⟨s2,a3⟩:=s
    have y2:=fun L=>hY L x true a2 _ (hm true (by rw[ha];simp)) hfq2
    rw[hfq2]at Pa;simp[jB];refine cq (y2 _) ?_
    cases s2 with
    |true=>
     cases Pa
     simp[jB]
    |false=>
     simp[jB,-Bool.exists_bool];exact⟨q+1,a3,⟨hlt,by simpa [h8]using Pa⟩,by omega,by simp[hw]⟩
  have lm:(t.kind==8)=false:=by simpa using h8
  by_cases h9:t.kind=9
  .have ha:zAw t.kind b x=[(x,false)]:=by unfold zAw;rw[if_neg h8,if_pos (by omega)]
   simp only[ha,List.cons_append,List.nil_append,zBe]at Pa
   cases Cc:f (x,false) a' with
   |none=>rw[Cc]at Pa;cases Pa
   |some s=>
   obtain⟨s1,a2⟩:=s
   have y:=fun L=>hY L x false a' _ (hm false (by rw[ha];simp)) Cc
   rw[Cc]at Pa;simp[hlt,aa,he,zP,hq,pj,h9];refine cq (y _) ?_
   cases s1 with
   |true=>
    cases Pa
    simp[jB]
   |false=>
    simp[jB,-Bool.exists_bool];exact⟨q+1,a2,⟨hlt,by simpa [h9]using Pa⟩,by omega,by simp[hw]⟩
  have vu:(t.kind==9)=false:=by simpa using h9
  by_cases oe:t.kind=11
  .have ha:zAw t.kind b x=[(x,false)]:=by unfold zAw;rw[if_neg h8,if_pos (by omega)]
   simp only[ha,List.cons_append,List.nil_append,zBe]at Pa
   cases Cc:f (x,false) a' with
   |none=>rw[Cc]at Pa;cases Pa
   |some s=>
   obtain⟨s1,a2⟩:=s
   have y:=fun L=>hY L x false a' _ (hm false (by rw[ha];simp)) Cc
   rw[Cc]at Pa;simp[hlt,aa,he,zP,hq,pj,oe];refine cq (y _) ?_
   cases s1 with
   |true=>
    cases Pa
    simp[jB]
   |false=>
    simp[jB,-Bool.exists_bool];exact⟨q+1,a2,⟨hlt,by simpa [oe]using Pa⟩,by omega,by simp[hw]⟩
  have Yp:(t.kind==11)=false:=by simpa using oe
  by_cases uc:t.kind=12
  .have ha:zAw t.kind b x=[(x,false)]:=by unfold zAw;rw[if_neg h8,if_pos (by omega)]
   simp only[ha,List.cons_append,List.nil_append,zBe]at Pa
   cases Cc:f (x,false) a' with
   |none=>rw[Cc]at Pa;cases Pa
   |some s=>
   obtain⟨s1,a2⟩:=s
   have y:=fun L=>hY L x false a' _ (hm false (by rw[ha];simp)) Cc
   rw[Cc]at Pa;simp[hlt,aa,he,zP,hq,pj,uc];refine cq (y _) ?_
   cases s1 with
   |true=>
    cases Pa
    simp[jB]
   |false=>
    simp[jB,-Bool.exists_bool];exact⟨q+1,a2,⟨hlt,by simpa [uc]using Pa⟩,by omega,by simp[hw]⟩
  have cj:(t.kind==12)=false:=by simpa using uc
  by_cases wd:t.kind=13
  .have ha:zAw t.kind b x=[(x,true)]:=by unfold zAw;rw[if_neg h8,if_neg (by omega),if_pos wd]
   simp only[ha,List.cons_append,List.nil_append,zBe]at Pa
   cases Cc:f (x,true) a' with
   |none=>rw[Cc]at Pa;cases Pa
   |some s=>
   obtain⟨s1,a2⟩:=s
   have y:=fun L=>hY L x true a' _ (hm true (by rw[ha];simp)) Cc
   rw[Cc]at Pa;simp[hlt,aa,he,zP,hq,pj,wd];refine cq (y _) ?_
   cases s1 with
   |true=>
    cases Pa
    simp[jB]
   |false=>
    simp[jB,-Bool.exists_bool];exact⟨q+1,a2,⟨hlt,by simpa [wd]using Pa⟩,by omega,by simp[hw]⟩
  have ig:(t.kind==13)=false:=by simpa using wd
  .have ha:zAw t.kind b x=[(x,b)]:=by unfold zAw;rw[if_neg h8,if_neg (by omega),if_neg wd]
   simp only[ha,List.cons_append,List.nil_append,zBe]at Pa
   cases Cc:f (x,b) a' with
   |none=>rw[Cc]at Pa;cases Pa
   |some s=>
   obtain⟨s1,a2⟩:=s
   have y:=fun L=>hY L x b a' _ (hm b (by rw[ha];simp)) Cc
   rw[Cc]at Pa;simp[hlt,aa,he,zP,hq,pj,lm,vu,Yp,cj,ig];refine cq (y _) ?_
   cases s1 with
   |true=>
    cases Pa
    simp[jB]
   |false=>
    simp[jB,-Bool.exists_bool];exact⟨q+1,a2,⟨hlt,by simpa using Pa⟩,by omega,by simp[hw]⟩
 have aa:¬(q:Int)<(t.args.length:Int):=by omega
 rw[List.drop_of_length_le (by omega)]at Pa
 cases Pa;simp[aa,jB]
end Go.Proofs.YtgpajpilkapciaaGreatDoor
namespace Go.Proofs.YtgpajpilkapciaaGreatDoor
open Go.RowKit _root_.Go.Proofs.Tryz
theorem zBm{α:Type}(X:List (List α))(L:List α)(S:List (List α))(i:Nat):get2 (X++L::S) X.length i=L[i]?:=by
 unfold get2;simp
theorem zD1{α:Type}(X:List (List α))(L:List α)(S:List (List α))(i:Nat)(o:α):set2 (X++L::S) X.length i o=X++L.set i o::S:=by
 unfold set2;simp
def encA(a:zA8):List (Value × AV):=a.map fun x=>(.agg #[.string x.1.1,.bool x.1.2],I x.2)
theorem zKA(s t:BA)(b c:Bool)(v:AV)(es:List (Value × AV))(i:Nat):zAJ .string .bool (.string s) (.bool b) ((.agg #[.string t,.bool c],v)::es) i=if(sEq s t&&(b==c))=true then some (some (i,v))else zAJ .string .bool (.string s) (.bool b) es (i+1):=by
 have h:Instr.sameNow .string (.string s) (.string t)=some (sEq s t):=by
  show some (s.data==t.data)=_
  congr 1
  rw[Bool.eq_iff_iff,zB3,beq_iff_eq];exact⟨fun h=>ByteArray.ext h,fun h=>by rw[h]⟩
 have h2:Instr.sameNow .bool (.bool b) (.bool c)=some (b==c):=by simp only[Instr.sameNow]
 rw[zAJ];simp only[h,h2]
theorem zRf(s:BA)(b:Bool)(v:AV):∀(es:List (Value × AV)) (i:Nat),zAJ .string .bool (.string s) (.bool b) es i=some none->zAJ .string .bool (.string s) (.bool b) (es++[(.agg #[.string s,.bool b],v)]) i=some (some (i+es.length,v))
 | [],i,h=>by
  have e:sEq s s=true:=zB3.2 rfl
  simp[zKA,e]
 |(k,u)::es,i,h=>by
  cases k with
  |agg cs=>
   rw[zAJ]at h;rw[List.cons_append,zAJ];split at h
   .rename_i c d ld
    split at h
    .rename_i x y h1 h2
     split at h
     .cases h
     rename_i Jb
     first|rw[if_neg Jb]|skip
     rw[zRf s b v es (i+1) h];simp;omega
    cases h
   cases h
  |_=>simp[zAJ]at h
theorem zRg(s:BA)(b:Bool)(v u:AV):∀(es:List (Value × AV)) (i j:Nat),zAJ .string .bool (.string s) (.bool b) es i=some (some (i+j,u))->zAJ .string .bool (.string s) (.bool b) (es.set j (.agg #[.string s,.bool b],v)) i=some (some (i+j,v))
 | [],i,j,h=>by simp[zAJ]at h
 |(k,w)::es,i,j,h=>by
  have e:sEq s s=true:=zB3.2 rfl
  cases j with
  |zero=>simp[zKA,e]
  |succ j=>
   cases k with
   |agg cs=>
    rw[zAJ]at h;rw[List.set_cons_succ,zAJ];split at h
    .split at h
     .rename_i x y h1 h2
      split at h
      .simp at h
      rename_i Jb
      first|rw[if_neg Jb]|skip
      have h':zAJ .string .bool (.string s) (.bool b) es (i+1)=some (some (i+1+j,u)):=by rw[h];simp;omega
      rw[zRg s b v u es (i+1) j h'];simp;omega
     cases h
    cases h
   |_=>simp[zAJ]at h
theorem zJA(s:BA)(b:Bool):∀(a:zA8) (i:Nat),(zAJ .string .bool (.string s) (.bool b) (encA a) i=some none/\zBz s b a=(a++[((s,b),1)],1))\/
  ∃j n,zAJ .string .bool (.string s) (.bool b) (encA a) i=some (some (i+j,I n))/\j<a.length/\(zBz s b a).2=IntKind.i64.wrap (n+1)/\encA (zBz s b a).1=(encA a).set j (.agg #[.string s,.bool b],I (IntKind.i64.wrap (n+1)))/\(encA a)[j]? =some (.agg #[.string s,.bool b],I n)
 | [],i=>.inl ⟨rfl,rfl⟩
 |((t,c),n)::a,i=>by
  have e:encA (((t,c),n)::a)=(.agg #[.string t,.bool c],I n)::encA a:=rfl
  rw[e,zKA,zBz]
  by_cases h:(sEq s t&&(b==c))=true
  .rw[if_pos h,if_pos h]
   have h':=h
   simp only[Bool.and_eq_true,beq_iff_eq]at h'
   obtain⟨h1,rfl⟩:=h'
   have h1:=zB3.1 h1
   subst h1;exact .inr ⟨0,n,rfl,by simp,rfl,rfl,rfl⟩
  rw[if_neg h,if_neg h]
  rcases zJA s b a (i+1)with⟨h1,h2⟩|⟨j,m,h1,h2,h3,h4,h5⟩
  .exact .inl ⟨h1,by rw[h2];rfl⟩
  refine .inr ⟨j+1,m,by rw[h1];simp;omega,by simp;omega,h3,?_,by simpa using h5⟩
  show(Value.agg #[.string t,.bool c],I n)::encA (zBz s b a).1=_
  rw[h4];rfl
def lvA(p:List It)(t:Ty)(b:Bool)(a:zA8):List AObj:=[.cells [.p (prog p)] 27,.cells (qCs t b) 77,.map (encA a),.cells [.mp 0 2] 112,.cells [.fn (.func 47) [] [.ptr 0 3 0,.ptr 0 0 0,.ptr 0 4 0]] 113]
theorem zD2(f:Qn->zA8->Option (Bool × zA8)):∀(qs:List Qn) (a:zA8) (r:Bool × zA8),zBe f qs a=some r->zBe (fun q (x:Bool × zA8)=>if x.1=true then none else(f q x.2).map fun r=>(r.1,(r.1,r.2))) qs (false,a)=some (r.1,(r.1,r.2))
 | [],a,r,h=>by cases h;rfl
 |q::qs,a,r,h=>by
  simp only[zBe]at h ⊢;rw[if_neg (by simp)]
  cases hf:f q a with
  |none=>rw[hf]at h;cases h
  |some s=>
   obtain⟨s1,a'⟩:=s
   rw[hf]at h
   cases s1 with
   |true=>cases h;rfl
   |false=>exact zD2 f qs a' r h
attribute [local simp] List.replicate List.range List.range.loop zf za zn zb List.forall_mem_cons List.contains_cons List.contains_nil List.find? zm zl zZ
theorem zal(p:List It)(hp:PrSm p)(t0:Ty)(b0:Bool):∀(n:Nat) (t:Ty) (b:Bool) (a:zA8) (r:Bool × zA8),TySm t->zFR p n (t,b) a=some r->∀(X S:ASt),ADet Tryz.prog 47 [qV t b,.ptr X.length 3 0,.ptr X.length 0 0,.ptr X.length 4 0] (X++lvA p t0 b0 a::S) (B r.1) (X++lvA p t0 b0 r.2::S):=by
 intro n
 induction n with
 |zero=>intro t b a r ht h;cases h
 |succ n ih=>
 intro t b a r ht h X S;unfold zFR at h
 have nC:=fun S=>zZd t b S
 have Md:∀a,lvA p t0 b0 a=[.cells [.p (prog p)] 27,.cells (qCs t0 b0) 77,.map (encA a),.cells [.mp 0 2] 112,.cells [.fn (.func 47) [] [.ptr 0 3 0,.ptr 0 0 0,.ptr 0 4 0]] 113]:=fun a=>rfl
 refine ADet.introQ mixed call47 func47 rfl (by kernel_rfl) ?_
 by_cases h4:t.kind=4
 .rw[if_pos h4]at h
  have hn:zE8 t b=false:=by unfold zE8;rw[h4];cases b<;>rfl
  rw[hn]at nC
  have kr:(t.kind==4)=true:=by rw[h4];rfl
  have Ee:IntKind.i64.wrap 1=1:=by decide
  have aC:=fun a0 a1 a2 S=>zZf p t b a0 a1 a2 S
  rcases zJA t.name b a 0 with⟨e1,e2⟩|⟨j,m,e1,e2,e3,e4,e5⟩
  .rw[e2,if_neg (by simp)]at h
   have e3:=fun v=>zRf t.name b v (encA a) 0 e1
   have e4:encA (a++[((t.name,b),1)])=encA a++[(.agg #[.string t.name,.bool b],I 1)]:=by simp[encA]
   simp only[Nat.zero_add]at e3;simp[ntmps47,kr,zBm,zD1,Md];refine zQt (c:=.skip) (fun _ _ _=>trivial) (zIj [[0,1,2,3,4,5,6],[0,1,2,4,3,5,6],[0,1,2,4,5,3,6],[0,1,4,2,3,5,6],[0,1,4,2,5,3,6],[0,1,4,5,2,3,6],[1,0,2,3,4,5,6],[1,0,2,4,3,5,6],[1,0,2,4,5,3,6],[1,0,4,2,3,5,6],[1,0,4,2,5,3,6],[1,0,4,5,2,3,6]] (by kernel_rfl) ?_)
   simp[zBm,zD1,e1,e3,Ee];refine cq (nC _) ?_;simp[zBm,zD1];refine cq (aC _ _ _ _) ?_;simp;rw[awq]
   have hr:=zD2 _ _ _ _ h
   refine⟨76,[.ptr 0 3 0,.ptr 0 4 0],rfl,rfl,rfl,jB r.1,[.cells (qCs t b) 77,.cells [Sg t.name,B b] 115,.cells [B r.1] 4,.cells (qCs t b) 77,.cells [.p (prog p)] 27]::(X++lvA p t0 b0 r.2::S),fun lp R hY=>ADet.less (.any .un) ?_,?_⟩
   .have key:=zMZ p hp t ht b _ (fun x:Bool × zA8=>[.cells (qCs t b) 77,.cells [Sg t.name,B b] 115,.cells [B x.1] 4,.cells (qCs t b) 77,.cells [.p (prog p)] 27]::(X++lvA p t0 b0 x.2::S)) 3 (fun _=>rfl) (fun _=>rfl) lp R (fun L u c x s hm hf=>?_) (false,a++[((t.name,b),1)]) (r.1,(r.1,r.2)) hr
    .simp only[Md,e4]at key ⊢
     exact key
    obtain⟨x1,x2⟩:=x
    cases x1 with
    |true=>simp at hf
    |false=>
    simp only[Bool.false_eq_true,if_false]at hf
    obtain⟨⟨s1,s2⟩,hs,rfl⟩:=Option.map_eq_some_iff.1 hf
    have iC:=fun FL=>ih u c x2 _ (zJ9 hp ht hm) hs (FL::X) S
    simp only[List.length_cons,List.cons_append]at iC
    cases s1 with
    |true=>
     refine hY L [qV u c] _ _ (some (.exit 0)) _ rfl ⟨rfl,by simp,?_⟩
     simp[zGq,ROk,zBm,Md];simp only[<-Md];refine cq (iC _) ?_
     simp[ROk]
    |false=>
     refine hY L [qV u c] _ _ none _ rfl ⟨rfl,by simp,?_⟩
     simp[zGq,ROk,zBm,Md];simp only[<-Md];refine cq (iC _) ?_;simp[ROk]
   cases gl:r.1 with
   |true=>
    simp[jB,JQ]
    exact Md _
   |false=>
    simp[jB,JQ];exact Md _
  have e6:(encA a).set j (.agg #[.string t.name,.bool b],I m)=encA a:=by
   obtain⟨hj,he⟩:=List.getElem?_eq_some_iff.1 e5
   rw[<-he];exact List.set_getElem_self hj
  have e7:=fun v=>zRg t.name b v (I m) (encA a) 0 j e1
  simp only[Nat.zero_add]at e1 e7;rw[e3]at h
  have hj:j<(encA a).length:=(List.getElem?_eq_some_iff.1 e5).1
  generalize lr:IntKind.i64.wrap (m+1)=c at*
  generalize qf:(zBz t.name b a).1=a1 at*
  simp[ntmps47,kr,zBm,zD1,Md];refine zQt (c:=.skip) (fun _ _ _=>trivial) (zIj [[0,1,2,3,4,5,6],[0,1,2,4,3,5,6],[0,1,2,4,5,3,6],[0,1,4,2,3,5,6],[0,1,4,2,5,3,6],[0,1,4,5,2,3,6],[1,0,2,3,4,5,6],[1,0,2,4,3,5,6],[1,0,2,4,5,3,6],[1,0,4,2,3,5,6],[1,0,4,2,5,3,6],[1,0,4,5,2,3,6]] (by kernel_rfl) ?_)
  by_cases hc:1<c
  .rw[if_pos hc]at h
   cases h;simp[zBm,zD1,e1,e5,e6,e7,lr,hc,Md,e4]
  rw[if_neg hc]at h;simp[zBm,zD1,e1,e5,e6,e7,lr,hc];refine cq (nC _) ?_;simp[zBm,zD1];refine cq (aC _ _ _ _) ?_;simp;rw[awq]
  have hr:=zD2 _ _ _ _ h
  refine⟨76,[.ptr 0 3 0,.ptr 0 4 0],rfl,rfl,rfl,jB r.1,[.cells (qCs t b) 77,.cells [Sg t.name,B b] 115,.cells [B r.1] 4,.cells (qCs t b) 77,.cells [.p (prog p)] 27]::(X++lvA p t0 b0 r.2::S),fun lp R hY=>ADet.less (.any .un) ?_,?_⟩
  .have key:=zMZ p hp t ht b _ (fun x:Bool × zA8=>[.cells (qCs t b) 77,.cells [Sg t.name,B b] 115,.cells [B x.1] 4,.cells (qCs t b) 77,.cells [.p (prog p)] 27]::(X++lvA p t0 b0 x.2::S)) 3 (fun _=>rfl) (fun _=>rfl) lp R (fun L u c x s hm hf=>?_) (false,a1) (r.1,(r.1,r.2)) hr
   .simp only[Md,e4]at key ⊢
    exact key
   obtain⟨x1,x2⟩:=x
   cases x1 with
   |true=>simp at hf
   |false=>
   simp only[Bool.false_eq_true,if_false]at hf
   obtain⟨⟨s1,s2⟩,hs,rfl⟩:=Option.map_eq_some_iff.1 hf
   have iC:=fun FL=>ih u c x2 _ (zJ9 hp ht hm) hs (FL::X) S
   simp only[List.length_cons,List.cons_append]at iC
   cases s1 with
   |true=>
    refine hY L [qV u c] _ _ (some (.exit 0)) _ rfl ⟨rfl,by simp,?_⟩
    simp[zGq,ROk,zBm,Md];simp only[<-Md];refine cq (iC _) ?_
    simp[ROk]
   |false=>
    refine hY L [qV u c] _ _ none _ rfl ⟨rfl,by simp,?_⟩
    simp[zGq,ROk,zBm,Md];simp only[<-Md];refine cq (iC _) ?_;simp[ROk]
  cases gl:r.1 with
  |true=>
   simp[jB,JQ]
   exact Md _
  |false=>
   simp[jB,JQ];exact Md _
 rw[if_neg h4]at h
 have pi:(t.kind==4)=false:=by simpa using h4
 simp[ntmps47,pi];refine cq (nC _) ?_
 cases hn:zE8 t b with
 |true=>
  rw[hn,if_pos rfl]at h;cases h
  simp
 |false=>
 rw[hn,if_neg (by simp)]at h
 have aC:=fun a0 a1 S=>zZe p t b a0 a1 S
 simp[zBm,Md];refine cq (aC _ _ _) ?_;simp;rw[awq]
 have hr:=zD2 _ _ _ _ h
 refine⟨76,[.ptr 0 2 0,.ptr 0 3 0],rfl,rfl,rfl,jB r.1,[.cells (qCs t b) 77,.cells [B r.1] 4,.cells (qCs t b) 77,.cells [.p (prog p)] 27]::(X++lvA p t0 b0 r.2::S),fun lp R hY=>ADet.less (.any _) (zMZ p hp t ht b _ (fun x:Bool × zA8=>[.cells (qCs t b) 77,.cells [B x.1] 4,.cells (qCs t b) 77,.cells [.p (prog p)] 27]::(X++lvA p t0 b0 x.2::S)) 2 (fun _=>rfl) (fun _=>rfl) lp R (fun L u c x s hm hf=>?_) (false,a) (r.1,(r.1,r.2)) hr),?_⟩
 .obtain⟨x1,x2⟩:=x
  cases x1 with
  |true=>simp at hf
  |false=>
  simp only[Bool.false_eq_true,if_false]at hf
  obtain⟨⟨s1,s2⟩,hs,rfl⟩:=Option.map_eq_some_iff.1 hf
  have iC:=fun FL=>ih u c x2 _ (zJ9 hp ht hm) hs (FL::X) S
  simp only[List.length_cons,List.cons_append]at iC
  cases s1 with
  |true=>
   refine hY L [qV u c] _ _ (some (.exit 0)) _ rfl ⟨rfl,by simp,?_⟩
   simp[zGq,ROk,zBm,Md];simp only[<-Md];refine cq (iC _) ?_
   simp[ROk]
  |false=>
   refine hY L [qV u c] _ _ none _ rfl ⟨rfl,by simp,?_⟩
   simp[zGq,ROk,zBm,Md];simp only[<-Md];refine cq (iC _) ?_;simp[ROk]
 cases gl:r.1 with
 |true=>
  simp[jB,JQ]
  exact Md _
 |false=>
  simp[jB,JQ];exact Md _
end Go.Proofs.YtgpajpilkapciaaGreatDoor
namespace Go.Proofs.YtgpajpilkapciaaGreatDoor
open Go.RowKit _root_.Go.Proofs.Tryz
attribute [local simp] List.replicate List.range List.range.loop
theorem zXb(p:List It)(hp:PrSm p)(t:Ty)(ht:TySm t)(b:Bool)(n:Nat)(r:Bool)(h:zEa p n t b=some r)(S:ASt):ADet Tryz.prog 22 [.agg [.p (prog p)],qV t b] S (B r) S:=by
 have wC:=fun S=>zAn t ht 40 S (by omega) (by omega)
 have Po:∀S,ADet Tryz.prog 50 [tyV t] S (B (t.whole 40)) S:=fun S=>by
  refine ADet.intro mixed call50 func50 rfl ?_;simp[ntmps50];refine cq (wC _) ?_;simp
 unfold zEa at h;refine ADet.intro mixed call22 func22 rfl ?_;simp[ntmps22];refine cq (Po _) ?_
 cases hw:t.whole 40 with
 |false=>
  rw[hw,if_neg (by simp)]at h
  cases h
  simp
 |true=>
  rw[hw,if_pos rfl]at h
  obtain⟨s,hs,rfl⟩:=Option.map_eq_some_iff.1 h
  have fC:=zal p hp t b n t b [] s ht hs [] S
  simp only[List.nil_append,List.length_nil,lvA,encA,List.map_nil]at fC;simp;refine cq fC ?_;simp
theorem zam(p:List It)(hp:PrSm p)(t:Ty)(ht:TySm t)(n:Nat)(r:Bool)(h:zEa p n t false=some r)(S:ASt):ADet Tryz.prog 12 [.agg [.p (prog p)],tyV t] S (B r) S:=by
 have aC:=fun S=>zXb p hp t ht false n r h S
 refine ADet.intro mixed call12 func12 rfl ?_;simp[ntmps12];refine cq (aC _) ?_;simp
end Go.Proofs.YtgpajpilkapciaaGreatDoor
namespace Go.Proofs.YtgpajpilkapciaaGreatDoor
open Go.RowKit _root_.Go.Proofs.Tryz
variable{p:List It}
inductive NoQ (p:List It):Qn->Prop
 |never (q:Qn):zE8 q.1 q.2=true->NoQ p q
 |ask (q q':Qn):q'∈zDD p q.1 q.2->NoQ p q'->NoQ p q
inductive Cov (p:List It) (V:BA × Bool->Prop):Qn->Prop
 |name (q:Qn):q.1.kind=4->V (q.1.name,q.2)->Cov p V q
 |step (q:Qn):q.1.kind≠4->zE8 q.1 q.2=false->(∀q'∈zDD p q.1 q.2,Cov p V q')->Cov p V q
theorem Cov.mono{V V':BA × Bool->Prop}(h:∀k,V k->V' k){q:Qn}(hq:Cov p V q):Cov p V' q:=by
 induction hq with
 |name q h1 h2=>exact .name q h1 (h _ h2)
 |step q h1 h2 h3 ih=>exact .step q h1 h2 ih
def vis(a:zA8)(k:BA × Bool):Prop:=k∈a.map (·.1)
theorem zEy(s:BA)(b:Bool)(k:BA × Bool):∀(a:zA8),vis (zBz s b a).1 k ↔ vis a k\/k=(s,b)
 | []=>by simp[zBz,vis]
 |((s',b'),n)::a=>by
  have ih:=zEy s b k a
  unfold vis at ih ⊢;unfold zBz;split
  .rename_i h
   simp only[Bool.and_eq_true,beq_iff_eq]at h
   obtain⟨h1,rfl⟩:=h
   have h1:=zB3.1 h1
   subst h1;simp only[List.map_cons,List.mem_cons];constructor
   .rintro(h|h)
    .exact .inl (.inl h)
    exact .inl (.inr h)
   rintro((h|h)|h)
   .exact .inl h
   .exact .inr h
   exact .inl h
  simp only[List.map_cons,List.mem_cons,ih]
  constructor
  .rintro(h|h|h)
   .exact .inl (.inl h)
   .exact .inl (.inr h)
   exact .inr h
  rintro((h|h)|h)
  .exact .inl h
  .exact .inr (.inl h)
  exact .inr (.inr h)
theorem zNp(s:BA)(b:Bool):∀(a:zA8),¬vis a (s,b)->(zBz s b a).2=1
 | [],h=>rfl
 |((s',b'),n)::a,h=>by
  unfold vis at h;simp only[List.map_cons,List.mem_cons,not_or]at h;unfold zBz;split
  .rename_i h1
   simp only[Bool.and_eq_true,beq_iff_eq]at h1
   obtain⟨h2,rfl⟩:=h1
   have h2:=zB3.1 h2
   subst h2;exact absurd rfl h.1
  exact zNp s b a h.2
def Clo(p:List It)(V:BA × Bool->Prop)(k:BA × Bool):Prop:=∀t:Ty,t.kind=4->t.name=k.1->∀q∈zDD p t k.2,Cov p V q
def Good(p:List It)(a a':zA8):Prop:=(∀k,vis a k->vis a' k)/\∀k,vis a' k->¬vis a k->Clo p (vis a') k
theorem Good.trans{a a1 a':zA8}(h1:Good p a a1)(h2:Good p a1 a'):Good p a a':=
 ⟨fun k h=>h2.1 k (h1.1 k h),fun k h hn=>by
  by_cases hk:vis a1 k
  .intro t ht hs q hq
   exact(h1.2 k hk hn t ht hs q hq).mono h2.1
  exact h2.2 k h hk⟩
theorem zFS{p:List It}{f:Qn->zA8->Option (Bool × zA8)}(hf:∀q a a',f q a=some (false,a')->Good p a a'/\Cov p (vis a') q):∀(qs:List Qn) (a a':zA8),zBe f qs a=some (false,a')->Good p a a'/\∀q∈qs,Cov p (vis a') q
 | [],a,a',h=>by
  cases h
  exact⟨⟨fun k h=>h,fun k h hn=>absurd h hn⟩,fun q hq=>by cases hq⟩
 |q::qs,a,a',h=>by
  unfold zBe at h;split at h
  .cases h
  .rename_i a1 h1
   obtain⟨g1,c1⟩:=hf q a a1 h1
   obtain⟨g2,c2⟩:=zFS hf qs a1 a' h
   refine⟨g1.trans g2,fun x hx=>?_⟩
   rcases List.mem_cons.1 hx with rfl|hx
   .exact c1.mono g2.1
   exact c2 x hx
  cases h
theorem zRh(p:List It):∀(n:Nat) (q:Qn) (a a':zA8),zFR p n q a=some (false,a')->Good p a a'/\Cov p (vis a') q:=by
 intro n
 induction n with
 |zero=>intro q a a' h;cases h
 |succ n ih=>
  rintro⟨t,b⟩ a a' h
  unfold zFR at h;split at h
  .rename_i h4
   have Sa:vis (zBz t.name b a).1 (t.name,b):=(zEy _ _ _ _).2 (.inr rfl)
   split at h
   .rename_i hc
    cases h;refine⟨⟨fun k h=>(zEy _ _ _ _).2 (.inl h),fun k h hn=>?_⟩,.name _ h4 Sa⟩
    rcases(zEy _ _ _ _).1 h with h|h
    .exact absurd h hn
    subst h
    rw[zNp _ _ _ hn]at hc;omega
   obtain⟨g,c⟩:=zFS ih _ _ _ h
   refine⟨⟨fun k h=>g.1 k ((zEy _ _ _ _).2 (.inl h)),fun k h hn=>?_⟩,.name _ h4 (g.1 _ Sa)⟩
   by_cases hk:vis (zBz t.name b a).1 k
   .rcases(zEy _ _ _ _).1 hk with h'|h'
    .exact absurd h' hn
    subst h'
    intro t' uj hs q hq
    have e:zDD p t' b=zDD p t b:=by
     unfold zDD;rw[if_pos uj,if_pos h4,show t'.name=t.name from hs]
    exact c q (by rw[<-e];exact hq)
   exact g.2 k h hk
  rename_i h4
  split at h
  .cases h
  rename_i hn
  obtain⟨g,c⟩:=zFS ih _ _ _ h
  exact⟨g,.step _ h4 (by simpa using hn) c⟩
theorem zID{p:List It}{f:Qn->zA8->Option (Bool × zA8)}(hf:∀q a a',f q a=some (true,a')->NoQ p q):∀(qs:List Qn) (a a':zA8),zBe f qs a=some (true,a')->∃q∈qs,NoQ p q
 | [],a,a',h=>by cases h
 |q::qs,a,a',h=>by
  unfold zBe at h;split at h
  .rename_i a1 h1
   exact⟨q,List.mem_cons_self ..,hf q a a1 h1⟩
  .rename_i a1 h1
   obtain⟨x,hx,hn⟩:=zID hf qs a1 a' h
   exact⟨x,List.mem_cons_of_mem _ hx,hn⟩
  cases h
theorem zXc(p:List It):∀(n:Nat) (q:Qn) (a a':zA8),zFR p n q a=some (true,a')->NoQ p q:=by
 intro n
 induction n with
 |zero=>intro q a a' h;cases h
 |succ n ih=>
  rintro⟨t,b⟩ a a' h
  unfold zFR at h;split at h
  .split at h
   .cases h
   obtain⟨x,hx,hn⟩:=zID ih _ _ _ h
   exact .ask _ x hx hn
  split at h
  .rename_i hn
   exact .never _ hn
  obtain⟨x,hx,hn⟩:=zID ih _ _ _ h
  exact .ask _ x hx hn
theorem zUf{n:Nat}{q:Qn}{r:Bool}{a:zA8}(h:zFR p n q []=some (r,a)):r=true ↔ NoQ p q:=by
 cases r with
 |true=>exact⟨fun _=>zXc p n q [] a h,fun _=>rfl⟩
 |false=>
  refine⟨fun h=>absurd h (by simp),fun hn=>?_⟩
  obtain⟨g,c⟩:=zRh p n q [] a h
  have clo:∀k,vis a k->Clo p (vis a) k:=fun k hk=>g.2 k hk (by simp[vis])
  exfalso
  clear h
  induction hn with
  |never q hq=>
   cases c with
   |name _ h1 h2=>
    unfold zE8 at hq
    simp[h1]at hq
   |step _ h1 h2 h3=>rw[h2]at hq;cases hq
  |ask q q' hm hn ih=>
   cases c with
   |name _ h1 h2=>exact ih (clo _ h2 q.1 h1 rfl q' hm)
   |step _ h1 h2 h3=>exact ih (h3 q' hm)
def cntQ(p:List It)(a:zA8):Nat:=(p.countP fun x=>!(a.any fun e=>sEq x.name e.1.1&&(e.1.2==false)))+(p.countP fun x=>!(a.any fun e=>sEq x.name e.1.1&&(e.1.2==true)))
def InvA(a:zA8)(C:Nat):Prop:=∀e∈a,1<=e.2/\e.2<=(C:Int)
abbrev BQ:Nat:=1152921504606846976
theorem zF5(s:BA)(b:Bool)(x:BA)(c:Bool):∀(a:zA8),((zBz s b a).1.any fun e=>sEq x e.1.1&&(e.1.2==c))=((a.any fun e=>sEq x e.1.1&&(e.1.2==c))||(sEq x s&&(b==c)))
 | []=>by simp[zBz]
 |((s',b'),n)::a=>by
  have ih:=zF5 s b x c a
  unfold zBz;split
  .rename_i h
   simp only[Bool.and_eq_true,beq_iff_eq]at h
   obtain⟨h1,rfl⟩:=h
   have h1:=zB3.1 h1
   subst h1;simp only[List.any_cons];cases(sEq x s&&(b==c))<;>simp
  simp only[List.any_cons,ih]
  cases(sEq x s'&&(b'==c))<;>simp
theorem zNq{s:BA}{b:Bool}:∀{a:zA8} {C:Nat},InvA a C->C<BQ->InvA (zBz s b a).1 (C+1)/\(1<(zBz s b a).2\/((zBz s b a).2=1/\(a.any fun e=>sEq s e.1.1&&(e.1.2==b))=false))
 | [],C,h,hC=>⟨fun e he=>by simp[zBz]at he;subst he;simp;omega,.inr ⟨rfl,rfl⟩⟩
 |((s',b'),n)::a,C,h,hC=>by
  have hn:=h _ (List.mem_cons_self ..)
  have ht:InvA a C:=fun e he=>h e (List.mem_cons_of_mem _ he)
  obtain⟨i1,i2⟩:=zNq (s:=s) (b:=b) ht hC
  simp only at hn
  have hw:IntKind.i64.wrap (n+1)=n+1:=by
   have:(n+1)<=2000000000000000000:=by unfold BQ at hC;omega
   unfold IntKind.wrap;simp[IntKind.signed,IntKind.bits];omega
  unfold zBz
  by_cases hk:(sEq s s'&&(b==b'))=true
  .rw[if_pos hk]
   refine⟨fun e he=>?_,.inl (by show 1<IntKind.i64.wrap (n+1);rw[hw];omega)⟩
   rcases List.mem_cons.1 he with rfl|he
   .simp only[hw];omega
   have:=ht e he;omega
  rw[if_neg hk]
  refine⟨fun e he=>?_,?_⟩
  .rcases List.mem_cons.1 he with rfl|he
   .simp only;omega
   exact i1 e he
  rcases i2 with h1|⟨h1,h2⟩
  .exact .inl h1
  refine .inr ⟨h1,?_⟩
  have Vb:(sEq s s'&&(b'==b))=false:=by
   have e1:(b'==b)=(b==b'):=by cases b<;>cases b'<;>rfl
   rw[e1];simpa using hk
  simp only[List.any_cons,h2,Vb,Bool.or_false]
theorem zJB{α:Type}{P Q:α->Bool}:∀{l:List α} {z:α},(∀x∈l,P x=true->Q x=true)->z∈l->Q z=true->P z=false->l.countP P+1<=l.countP Q
 |x::l,z,h,hz,hQ,hP=>by
  rw[List.countP_cons,List.countP_cons]
  have hm:l.countP P<=l.countP Q:=List.countP_mono_left fun y hy=>h y (List.mem_cons_of_mem _ hy)
  rcases List.mem_cons.1 hz with rfl|hz'
  .rw[hQ,hP];simp;omega
  have:=zJB (fun y hy=>h y (List.mem_cons_of_mem _ hy)) hz' hQ hP
  have hx:=h x (List.mem_cons_self ..)
  cases hp:P x with
  |true=>rw[hx hp];simp;omega
  |false=>simp;omega
theorem zXd(p:List It)(s:BA)(b:Bool)(a:zA8):cntQ p (zBz s b a).1<=cntQ p a:=by
 unfold cntQ
 have one:∀c:Bool,(p.countP fun x=>!((zBz s b a).1.any fun e=>sEq x.name e.1.1&&(e.1.2==c)))<=p.countP fun x=>!(a.any fun e=>sEq x.name e.1.1&&(e.1.2==c)):=fun c=>
  List.countP_mono_left fun x hx h=>by
   rw[zF5]at h;simp only[Bool.not_eq_true',Bool.or_eq_false_iff]at h ⊢;exact h.1
 have h1:=one false
 have h2:=one true
 omega
theorem zXe{s:BA}{b:Bool}{a:zA8}{z:It}(hz:zU p s=some z)(hn:(a.any fun e=>sEq s e.1.1&&(e.1.2==b))=false):cntQ p (zBz s b a).1+1<=cntQ p a:=by
 have hm:z∈p:=List.mem_of_find?_eq_some hz
 have hs:=List.find?_some hz
 simp only[Bool.and_eq_true]at hs
 have Nm:z.name=s:=zB3.1 hs.2
 have one:∀c:Bool,(p.countP fun x=>!((zBz s b a).1.any fun e=>sEq x.name e.1.1&&(e.1.2==c)))<=p.countP fun x=>!(a.any fun e=>sEq x.name e.1.1&&(e.1.2==c)):=fun c=>
  List.countP_mono_left fun x hx h=>by
   rw[zF5]at h;simp only[Bool.not_eq_true',Bool.or_eq_false_iff]at h ⊢;exact h.1
 have lt:(p.countP fun x=>!((zBz s b a).1.any fun e=>sEq x.name e.1.1&&(e.1.2==b)))+1<=p.countP fun x=>!(a.any fun e=>sEq x.name e.1.1&&(e.1.2==b)):=by
  refine zJB (fun x hx h=>?_) hm ?_ ?_
  .rw[zF5]at h
   simp only[Bool.not_eq_true',Bool.or_eq_false_iff]at h ⊢;exact h.1
  .rw[Nm,hn];rfl
  rw[zF5,hs.2];simp
 unfold cntQ
 cases b with
 |false=>have:=one true;omega
 |true=>have:=one false;omega
def DQ(t:Ty)(d:Nat):Prop:=t.whole d=true\/(t.kind=0/\t.args=[])
theorem zGW{p:List It}{f:Qn->zA8->Option (Bool × zA8)}{v w:Nat}:∀(qs:List Qn),(∀q∈qs,∀(a:zA8) (C:Nat),cntQ p a<=v->InvA a C->C+3298534883329*cntQ p a+w<=1152921504606846976->∃r a' C',f q a=some (r,a')/\cntQ p a'<=cntQ p a/\InvA a' C'/\C'+3298534883329*cntQ p a'<=C+3298534883329*cntQ p a+w)->
  ∀(a:zA8) (C:Nat),cntQ p a<=v->InvA a C->C+3298534883329*cntQ p a+qs.length*w<=1152921504606846976->∃r a' C',zBe f qs a=some (r,a')/\cntQ p a'<=cntQ p a/\InvA a' C'/\C'+3298534883329*cntQ p a'<=C+3298534883329*cntQ p a+qs.length*w
 | [],hf,a,C,h1,h2,h3=>⟨false,a,C,rfl,Nat.le_refl _,h2,by simp⟩
 |q::qs,hf,a,C,h1,h2,h3=>by
  have e:(q::qs).length*w=qs.length*w+w:=by rw[List.length_cons,Nat.add_mul,Nat.one_mul]
  rw[e]at h3 ⊢
  generalize hL:qs.length*w=L at*
  obtain⟨r,a1,C1,k1,k2,k3,k4⟩:=hf q (List.mem_cons_self ..) a C h1 h2 (by omega)
  cases r with
  |true=>exact⟨true,a1,C1,by simp only[zBe,k1],k2,k3,by omega⟩
  |false=>
   obtain⟨r,a',C',m1,m2,m3,m4⟩:=zGW qs (fun x hx=>hf x (List.mem_cons_of_mem _ hx)) a1 C1 (by omega) k3 (by rw[hL];omega)
   exact⟨r,a',C',by simp only[zBe,k1];exact m1,by omega,m3,by rw[hL]at m4;omega⟩
theorem zUg(p:List It)(hp:∀x∈p,x.fields.length<=6/\∀g∈x.fields,DQ g.type 38):∀(n:Nat) (t:Ty) (d:Nat) (b:Bool) (a:zA8) (C:Nat),DQ t d->d<=40->d+1+42*cntQ p a<=n->InvA a C->C+3298534883329*cntQ p a+2^d<=1152921504606846976->
  ∃r a' C',zFR p n (t,b) a=some (r,a')/\cntQ p a'<=cntQ p a/\InvA a' C'/\C'+3298534883329*cntQ p a'<=C+3298534883329*cntQ p a+2^d:=by
 intro n
 induction n with
 |zero=>intro t d b a C h1 h2 h3;omega
 |succ n ih=>
  intro t d b a C hD hd hn hI hB
  have hw:1<=2^d:=Nat.one_le_two_pow
  unfold zFR
  by_cases h4:t.kind=4
  .rw[if_pos h4]
   obtain⟨i1,i2⟩:=zNq (s:=t.name) (b:=b) hI (by show C<1152921504606846976;omega)
   have cl:=zXd p t.name b a
   generalize wu:(zBz t.name b a).1=a1 at*
   by_cases hc:1<(zBz t.name b a).2
   .rw[if_pos hc]
    exact⟨false,a1,C+1,rfl,cl,i1,by omega⟩
   rw[if_neg hc]
   obtain⟨_,Bb⟩:(zBz t.name b a).2=1/\(a.any fun e=>sEq t.name e.1.1&&(e.1.2==b))=false:=i2.resolve_left hc
   have hA:zDD p t b=((zW p t.name).getD []).map fun f=>(f.type,b):=by unfold zDD;rw[if_pos h4]
   rw[hA]
   cases hx:zU p t.name with
   |none=>
    have:zW p t.name=none:=by unfold zW;rw[hx]
    rw[this]
    exact⟨false,a1,C+1,rfl,cl,i1,by omega⟩
   |some z=>
    have lt:=zXe hx Bb
    rw[wu]at lt
    have hz:=hp z (List.mem_of_find?_eq_some hx)
    have hl:((zW p t.name).getD []).length<=6/\∀g∈(zW p t.name).getD [],DQ g.type 38:=by
     unfold zW;rw[hx];simp only;split
     .exact hz
     exact⟨by simp,fun g hg=>by simp at hg⟩
    generalize (zW p t.name).getD []=l at*
    obtain⟨r,a',C',m1,m2,m3,m4⟩:=zGW (p:=p) (f:=zFR p n) (v:=cntQ p a-1) (w:=2^38) (l.map fun f=>(f.type,b)) (fun q hq a2 C2 g1 g2 g3=>by
     obtain⟨g,hg,rfl⟩:=List.mem_map.1 hq
     exact ih g.type 38 b a2 C2 (hl.2 g hg) (by omega) (by omega) g2 g3) a1 (C+1) (by omega) i1 (by
      rw[List.length_map]
      have:l.length*2^38<=6*2^38:=Nat.mul_le_mul_right _ hl.1
      have e:(6*2^38:Nat)=1649267441664:=by decide
      omega)
    refine⟨r,a',C',m1,by omega,m3,?_⟩
    rw[List.length_map]at m4
    have:l.length*2^38<=6*2^38:=Nat.mul_le_mul_right _ hl.1
    have e:(6*2^38:Nat)=1649267441664:=by decide
    omega
  rw[if_neg h4]
  by_cases hN:zE8 t b=true
  .rw[if_pos hN]
   exact⟨true,a,C,rfl,Nat.le_refl _,hI,by omega⟩
  rw[if_neg hN]
  have hA:zDD p t b=t.args.flatMap (zAw t.kind b):=by unfold zDD;rw[if_neg h4]
  rw[hA]
  have nil:t.args=[]->∃r a' C',zBe (zFR p n) (t.args.flatMap (zAw t.kind b)) a=some (r,a')/\cntQ p a'<=cntQ p a/\InvA a' C'/\C'+3298534883329*cntQ p a'<=C+3298534883329*cntQ p a+2^d:=fun h=>by
   rw[h];exact⟨false,a,C,rfl,Nat.le_refl _,hI,by omega⟩
  rcases hD with hD|hD
  .rcases zNE hD with h|h|⟨_,_,_,x,hx,To⟩
   .exact nil h.2
   .exact nil h.2
   have kc:1<=d:=by
    have h1:=hD
    rw[zFh]at h1;simp only[Bool.and_eq_true,decide_eq_true_eq]at h1;omega
   obtain⟨e,rfl⟩:∃e,d=e+1:=⟨d-1,by omega⟩
   have Zp:x.whole (e:Nat)=true:=by
    have:((e+1:Nat):Int)-1=(e:Int):=by omega
    rwa [this]at To
   have hq:(zAw t.kind b x).length<=2/\∀q∈zAw t.kind b x,q.1=x:=by
    unfold zAw;split
    .exact⟨by simp,fun q hq=>by simp at hq;rcases hq with rfl|rfl<;>rfl⟩
    split
    .exact⟨by simp,fun q hq=>by simp at hq;subst hq;rfl⟩
    split
    .exact⟨by simp,fun q hq=>by simp at hq;subst hq;rfl⟩
    exact⟨by simp,fun q hq=>by simp at hq;subst hq;rfl⟩
   have e2:(2:Nat)^(e+1)=2*2^e:=by rw[Nat.pow_succ,Nat.mul_comm]
   rw[e2]at hB ⊢
   have hl:(zAw t.kind b x).length*2^e<=2*2^e:=Nat.mul_le_mul_right _ hq.1
   rw[hx,List.flatMap_cons,List.flatMap_nil,List.append_nil]
   generalize zAw t.kind b x=qs at*
   obtain⟨r,a',C',m1,m2,m3,m4⟩:=zGW (p:=p) (f:=zFR p n) (v:=cntQ p a) (w:=2^e) qs (fun q oi a2 C2 g1 g2 g3=>by
    obtain⟨u,c⟩:=q
    have hu:u=x:=hq.2 _ oi
    subst hu;exact ih u e c a2 C2 (.inl Zp) (by omega) (by omega) g2 g3) a C (Nat.le_refl _) hI (by omega)
   exact⟨r,a',C',m1,m2,m3,by omega⟩
  exact nil hD.2
theorem zLT{α:Type}(p:α->Bool)(l:List α)(m:Int):zq p l m=(decide ((l.length:Int)<=m)&&l.all p):=by
 by_cases h:(l.length:Int)<=m
 .rw[zBs h];simp[h]
 simp[zq,h]
theorem zUh(hp:zx p=true):p.length<=30/\∀x∈p,x.fields.length<=6/\∀g∈x.fields,DQ g.type 38:=by
 unfold zx at hp;rw[zLT]at hp;simp only[Bool.and_eq_true,List.all_eq_true,decide_eq_true_eq]at hp;refine⟨by omega,fun x hx=>?_⟩
 have hw:=hp.2 x hx
 have key:∀k,(zq (zCi k 39) x.fields 6)=true->x.fields.length<=6/\∀g∈x.fields,DQ g.type 38:=fun k h=>by
  rw[zLT]at h;simp only[Bool.and_eq_true,List.all_eq_true,decide_eq_true_eq]at h;refine⟨by omega,fun g hg=>?_⟩
  have h2:=h.2 g hg
  unfold zCi at h2;simp only[Bool.and_eq_true,Bool.or_eq_true]at h2
  rcases h2.2 with h3|h3
  .right
   have h4:=h3.2
   unfold zBW at h4;simp only[Bool.and_eq_true,beq_iff_eq,decide_eq_true_eq]at h4;exact⟨h4.1,List.length_eq_zero_iff.1 h4.2.2⟩
  left
  exact h3
 unfold It.whole at hw;split at hw
 .simp only[Bool.and_eq_true]at hw
  exact key _ hw.2
 split at hw
 .simp only[Bool.and_eq_true]at hw
  exact key _ hw.2.1
 cases hw
theorem zMa(hD:p.length<=30/\∀x∈p,x.fields.length<=6/\∀g∈x.fields,DQ g.type 38)(t:Ty)(b:Bool):∃r:Bool,zEa p 2600 t b=some r/\(t.whole 40=true->(r=true ↔ ¬NoQ p (t,b)))/\(t.whole 40=false->r=false):=by
 unfold zEa
 cases hw:t.whole 40 with
 |false=>exact⟨false,rfl,fun h=>absurd h (by simp),fun _=>rfl⟩
 |true=>
  obtain⟨hl,hf⟩:=hD
  have hc:cntQ p []<=60:=by
   unfold cntQ
   have h1:p.countP (fun x=>!(([]:zA8).any fun e=>sEq x.name e.1.1&&(e.1.2==false)))<=p.length:=List.countP_le_length
   have h2:p.countP (fun x=>!(([]:zA8).any fun e=>sEq x.name e.1.1&&(e.1.2==true)))<=p.length:=List.countP_le_length
   omega
  obtain⟨r,a',C',h1,_⟩:=zUg p hf 2600 t 40 b [] 0 (.inl hw) (Nat.le_refl _) (by omega) (fun e he=>by cases he) (by
   have e:(2^40:Nat)=1099511627776:=by decide
   omega)
  have hi:=zUf h1
  refine⟨!r,by rw[if_pos rfl,h1];rfl,fun _=>?_,fun h=>absurd h (by simp)⟩
  rw[<-hi];cases r<;>simp
theorem zO8(hp:zx p=true)(t:Ty)(b:Bool):∃r:Bool,zEa p 2600 t b=some r/\(t.whole 40=true->(r=true ↔ ¬NoQ p (t,b)))/\(t.whole 40=false->r=false):=zMa (zUh hp) t b
def sA(p:List It)(t:Ty)(b:Bool):Bool:=(zEa p 2600 t b).getD false
theorem zan(hp:zx p=true)(t:Ty)(b:Bool):zEa p 2600 t b=some (sA p t b):=by
 obtain⟨r,h,_⟩:=zO8 hp t b
 unfold sA;rw[h];rfl
end Go.Proofs.YtgpajpilkapciaaGreatDoor
