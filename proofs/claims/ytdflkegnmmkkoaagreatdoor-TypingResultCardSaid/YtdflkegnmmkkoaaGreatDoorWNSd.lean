/- A part of the proof. -/
import Derived.Test.YtdflkegnmmkkoaaGreatDoorWMNp
import Derived.Test.YtdflkegnmmkkoaaGreatDoorWMLe
set_option linter.unusedVariables false
set_option linter.unusedSimpArgs false
set_option maxRecDepth 100000
set_option maxHeartbeats 32000000
namespace Go.Proofs.YtdflkegnmmkkoaaGreatDoor
open Go.RowKit
variable{S:ASt}{fl:List Flt}{p:List It}
def itE(l:List It):List (Value × AV):=l.map fun x=>(.string x.name,itV x)
def zAH(p:List It)(fn:Bool):Nat->List It
 |0=>[]
 |q+1=>match p[q]? with
  |some x=>if(decide (x.kind=3)==fn&& !zBL p q x)=true then zAH p fn q++[x]else zAH p fn q
  |none=>zAH p fn q
theorem zHK(s:BA):∀(l:List It) (i:Nat),∃j,zAk .string (.string s) (itE l) i=some ((l.find? fun x=>sEq x.name s).map fun x=>(j,itV x))
 | [],i=>⟨0,rfl⟩
 |x::l,i=>by
  show ∃j,zAk .string (.string s) ((.string x.name,itV x)::itE l) i=_
  rw[zj,List.find?_cons]
  have hc:sEq s x.name=sEq x.name s:=by
   by_cases h:s=x.name
   .subst h;rfl
   rw[zCX h,zCX fun e=>h e.symm]
  rw[hc]
  cases sEq x.name s with
  |true=>exact⟨i,rfl⟩
  |false=>exact zHK s l (i+1)
theorem zFf(p:List It)(fn:Bool)(s:BA):∀q,q<=p.length->(zAH p fn q).find? (fun x=>sEq x.name s)=(p.take q).find? fun x=>(decide (x.kind=3)==fn)&&sEq x.name s:=by
 intro q
 induction q with
 |zero=>intro _;rfl
 |succ q ih=>
  intro hq
  have hlt:q<p.length:=by omega
  have hx:p[q]? =some p[q]:=List.getElem?_eq_getElem hlt
  rw[zAH,hx,List.take_add_one,hx,List.find?_append];simp only[Option.toList_some];rw[<-ih (by omega)]
  generalize p[q]=x at*
  by_cases hk:(decide (x.kind=3)==fn)=true
  .rw[hk,Bool.true_and]
   cases ha:zBL p q x with
   |true=>
    simp only[Bool.not_true,Bool.false_eq_true,if_false]
    cases hf:(zAH p fn q).find? (fun x=>sEq x.name s)with
    |some y=>rfl
    |none=>
     rw[Option.none_or,List.find?_cons,hk,Bool.true_and]
     by_cases hs:sEq x.name s=true
     .have he:=zDZ.1 hs
      subst he
      exfalso
      rw[ih (by omega),List.find?_eq_none]at hf
      unfold zBL at ha
      obtain⟨y,hy,h2⟩:=List.any_eq_true.1 ha
      have:=hf y hy
      simp only[Bool.and_eq_true,beq_iff_eq]at h2 hk;rw[h2.1,hk,h2.2]at this;simp at this
     simp only[Bool.not_eq_true]at hs
     rw[hs];rfl
   |false=>
    simp only[Bool.not_false,if_true];rw[List.find?_append,List.find?_cons,List.find?_cons,hk,Bool.true_and];cases sEq x.name s<;>rfl
  simp only[Bool.not_eq_true]at hk
  rw[hk,Bool.false_and,if_neg (by simp),List.find?_cons,hk,Bool.false_and,List.find?_nil,Option.or_none]
theorem zGd(p:List It)(s:BA):∃j,zAk .string (.string s) (itE (zAH p false p.length)) 0=some ((zb p s).map fun x=>(j,itV x)):=by
 obtain⟨j,h⟩:=zHK s (zAH p false p.length) 0
 refine⟨j,?_⟩;rw[h,zFf p false s p.length (Nat.le_refl _),List.take_length];unfold zb
 have:(fun x:It=>(decide (x.kind=3)==false)&&sEq x.name s)=fun x:It=>(decide (x.kind≠3))&&sEq x.name s:=by
  funext x
  by_cases h:x.kind=3<;>simp[h]
 rw[this]
theorem zOG(p:List It)(s:BA):∃j,zAk .string (.string s) (itE (zAH p true p.length)) 0=some ((fnIt p s).map fun x=>(j,itV x)):=by
 obtain⟨j,h⟩:=zHK s (zAH p true p.length) 0
 refine⟨j,?_⟩;rw[h,zFf p true s p.length (Nat.le_refl _),List.take_length];unfold fnIt
 have:(fun x:It=>(decide (x.kind=3)==true)&&sEq x.name s)=fun x:It=>(decide (x.kind=3))&&sEq x.name s:=by
  funext x
  by_cases h:x.kind=3<;>simp[h]
 rw[this]
theorem zLk(p:List It)(q:Nat)(h:q<p.length):((zAH p (decide (p[q].kind=3)) q).find? fun x=>sEq x.name p[q].name).isSome=zBL p q p[q]:=by
 rw[zFf p _ _ q (by omega)]
 unfold zBL;rw[Bool.eq_iff_iff,List.find?_isSome,List.any_eq_true]
def mdE(m:List Fg):List (Value × AV):=m.map fun e=>(.string e.1,.agg [B e.2])
theorem zDU(s:BA):∀(m:List Fg) (i:Nat),(mGet m s=none/\zAk .string (.string s) (mdE m) i=some none/\∀b,mPut m s b=m++[(s,b)])\/∃j b,mGet m s=some b/\zAk .string (.string s) (mdE m) i=some (some (i+j,.agg [B b]))/\∀b',mdE (mPut m s b')=(mdE m).set j (.string s,.agg [B b'])
 | [],i=>.inl ⟨rfl,rfl,fun b=>rfl⟩
 |e::m,i=>by
  have hd:mdE (e::m)=(.string e.1,.agg [B e.2])::mdE m:=rfl
  rw[hd,zj,mGet]
  by_cases h:sEq s e.1=true
  .rw[if_pos h,if_pos h]
   exact .inr ⟨0,e.2,rfl,rfl,fun b'=>by rw[mPut,if_pos h];rfl⟩
  rw[if_neg h,if_neg h]
  rcases zDU s m (i+1)with⟨h1,h2,h3⟩|⟨j,b,h1,h2,h3⟩
  .exact .inl ⟨h1,h2,fun b=>by rw[mPut,if_neg h,h3];rfl⟩
  refine .inr ⟨j+1,b,h1,by rw[h2];congr 2;simp;omega,fun b'=>?_⟩
  rw[mPut,if_neg h]
  show(.string e.1,.agg [B e.2])::mdE (mPut m s b')=_
  rw[h3];rfl
structure Cf where
 d:Nat
 k:Nat
 jF:Nat
 jM:Nat
def Cf.up(c:Cf):Cf:=⟨c.d+1,c.k,c.jF,c.jM⟩
def Cf.e(c:Cf):Nat:=c.k+c.d
theorem Cf.e_up(c:Cf):c.up.e=c.e+1:=rfl
def nlO(n:Nat):AObj:=.cells [.mp 0 1,.mp 0 2,.rsl 0 4 n 2] 98
def rwO(fl:List Flt):AObj:=.row 32 2 fl.length (rowC fltE fl)
def mdO(m:List Fg):AObj:=.map (mdE m)
def fnO(c:Cf)(σ:Nf):AObj:=.cells [.ptr c.k 3 0,.mp 0 c.jM,I σ.count,I σ.opn] 109
structure Lk (p:List It) (S:ASt) (e:Nat) (fl:List Flt):Prop where
 t:get2 S e 1=some (.map (itE (zAH p false p.length)))
 f:get2 S e 2=some (.map (itE (zAH p true p.length)))
 l:get2 S e 3=some (nlO fl.length)
 r:get2 S e 4=some (rwO fl)
structure NAt (p:List It) (S:ASt) (c:Cf) (σ:Nf):Prop where
 k:Lk p S c.e σ.fl
 m:get2 S c.d c.jM=some (mdO σ.made)
 n:get2 S c.d c.jF=some (fnO c σ)
 jm:c.k=0->5<=c.jM
 jf:c.k=0->5<=c.jF
 ne:c.jF≠c.jM
def updK(S:ASt)(e:Nat)(fl:List Flt):ASt:=set2 (set2 S e 4 (rwO fl)) e 3 (nlO fl.length)
def updF(S:ASt)(c:Cf)(σ:Nf):ASt:=set2 (set2 (updK S c.e σ.fl) c.d c.jM (mdO σ.made)) c.d c.jF (fnO c σ)
theorem zJT{S T:ASt}(h:S.map List.length=T.map List.length)(k:∀d i,get2 S d i=get2 T d i):S=T:=by
 apply List.ext_getElem?
 intro d
 have hl:S.length=T.length:=by have:=congrArg List.length h;simpa using this
 rcases Nat.lt_or_ge d S.length with hd|hd
 .rw[List.getElem?_eq_getElem hd,List.getElem?_eq_getElem (by omega)]
  congr 1
  apply List.ext_getElem?
  intro i
  have:=k d i
  unfold get2 at this;rw[List.getElem?_eq_getElem hd,List.getElem?_eq_getElem (by omega)]at this
  exact this
 rw[List.getElem?_eq_none hd,List.getElem?_eq_none (by omega)]
theorem zCH{e:Nat}(h:Lk p S e fl)(Pk:List Flt)(d i:Nat):get2 (updK S e Pk) d i=if d=e/\i=3 then some (nlO Pk.length)else if d=e/\i=4 then some (rwO Pk)else get2 S d i:=by
 unfold updK
 have h3:get2 (set2 S e 4 (rwO Pk)) e 3=some (nlO fl.length):=by rw[zQ _ h.r,if_neg (by simp)];exact h.l
 rw[zQ _ h3,zQ _ h.r]
theorem zE8(S:ASt)(e:Nat)(fl:List Flt):(updK S e fl).map List.length=S.map List.length:=by unfold updK;rw[zBR,zBR]
theorem zE9(S:ASt)(c:Cf)(σ:Nf):(updF S c σ).map List.length=S.map List.length:=by unfold updF;rw[zBR,zBR,zE8]
theorem zB7{c:Cf}{σ:Nf}(h:NAt p S c σ)(τ:Nf)(d i:Nat):get2 (updF S c τ) d i=if d=c.d/\i=c.jF then some (fnO c τ)else if d=c.d/\i=c.jM then some (mdO τ.made)else if d=c.e/\i=3 then some (nlO τ.fl.length)else if d=c.e/\i=4 then some (rwO τ.fl)else get2 S d i:=by
 have hm:=h.jm
 have hf:=h.jf
 have sr:c.e=c.k+c.d:=rfl
 have hne:=h.ne
 unfold updF
 have h1:get2 (updK S c.e τ.fl) c.d c.jM=some (mdO σ.made):=by
  rw[zCH h.k,if_neg (by omega),if_neg (by omega)];exact h.m
 have h2:get2 (set2 (updK S c.e τ.fl) c.d c.jM (mdO τ.made)) c.d c.jF=some (fnO c σ):=by
  rw[zQ _ h1,if_neg (by omega),zCH h.k,if_neg (by omega),if_neg (by omega)];exact h.n
 rw[zQ _ h2,zQ _ h1,zCH h.k]
theorem NAt.updF{c:Cf}{σ:Nf}(h:NAt p S c σ)(τ:Nf):NAt p (updF S c τ) c τ:=by
 have hm:=h.jm
 have hf:=h.jf
 have sr:c.e=c.k+c.d:=rfl
 have hne:=h.ne
 refine⟨⟨?_,?_,?_,?_⟩,?_,?_,hm,hf,hne⟩
 .rw[zB7 h,if_neg (by omega),if_neg (by omega),if_neg (by omega),if_neg (by omega)];exact h.k.t
 .rw[zB7 h,if_neg (by omega),if_neg (by omega),if_neg (by omega),if_neg (by omega)];exact h.k.f
 .rw[zB7 h,if_neg (by omega),if_neg (by omega),if_pos ⟨rfl,rfl⟩]
 .rw[zB7 h,if_neg (by omega),if_neg (by omega),if_neg (by omega),if_pos ⟨rfl,rfl⟩]
 .rw[zB7 h,if_neg (by omega),if_pos ⟨rfl,rfl⟩]
 rw[zB7 h,if_pos ⟨rfl,rfl⟩]
theorem zCn{c:Cf}{σ:Nf}(h:NAt p S c σ)(τ ρ:Nf):updF (updF S c τ) c ρ=updF S c ρ:=by
 refine zJT (by rw[zE9,zE9,zE9]) fun d i=>?_
 rw[zB7 (h.updF τ),zB7 h,zB7 h]
 repeat' (first|rfl|split)
theorem zAR{c:Cf}{σ:Nf}(h:NAt p S c σ):updF S c σ=S:=by
 refine zJT (zE9 S c σ) fun d i=>?_
 rw[zB7 h];split
 .rename_i hc;rw[hc.1,hc.2,h.n]
 split
 .rename_i hc;rw[hc.1,hc.2,h.m]
 split
 .rename_i hc;rw[hc.1,hc.2,h.k.l]
 split
 .rename_i hc;rw[hc.1,hc.2,h.k.r]
 rfl
theorem Lk.cons{e:Nat}(h:Lk p S e fl)(L:List AObj):Lk p (L::S) (e+1) fl:=⟨h.t,h.f,h.l,h.r⟩
theorem NAt.cons{c:Cf}{σ:Nf}(h:NAt p S c σ)(L:List AObj):NAt p (L::S) c.up σ:=⟨h.k.cons L,h.m,h.n,h.jm,h.jf,h.ne⟩
theorem zF5(L:List AObj)(S:ASt)(e:Nat)(fl:List Flt):updK (L::S) (e+1) fl=L::updK S e fl:=by unfold updK;rw[zAy,zAy]
theorem zAl(L:List AObj)(S:ASt)(c:Cf)(σ:Nf):updF (L::S) c.up σ=L::updF S c σ:=by
 unfold updF;rw[Cf.e_up,zF5]
 show set2 (set2 (L::updK S c.e σ.fl) (c.d+1) c.jM (mdO σ.made)) (c.d+1) c.jF (fnO c.up σ)=_
 rw[zAy,zAy];rfl
theorem zIL{c:Cf}{σ:Nf}(h:NAt p S c σ)(fl:List Flt):updK S c.e fl=updF S c ⟨σ.made,σ.count,σ.opn,fl⟩:=by
 have hm:=h.jm
 have hf:=h.jf
 have sr:c.e=c.k+c.d:=rfl
 refine zJT (by rw[zE8,zE9]) fun d i=>?_
 rw[zB7 h,zCH h.k];split
 .rename_i h3
  rw[if_neg (by omega),if_neg (by omega)]
 split
 .rename_i h3
  rw[if_neg (by omega),if_neg (by omega)]
 split
 .rename_i h3;rw[h3.1,h3.2,h.n];rfl
 split
 .rename_i h3;rw[h3.1,h3.2,h.m]
 rfl
theorem Lk.updK{e:Nat}(h:Lk p S e fl)(Pk:List Flt):Lk p (updK S e Pk) e Pk:=by
 refine⟨?_,?_,?_,?_⟩
 .rw[zCH h,if_neg (by omega),if_neg (by omega)];exact h.t
 .rw[zCH h,if_neg (by omega),if_neg (by omega)];exact h.f
 .rw[zCH h,if_pos ⟨rfl,rfl⟩]
 rw[zCH h,if_neg (by omega),if_pos ⟨rfl,rfl⟩]
theorem zLl{e:Nat}(h:Lk p S e fl)(a b:List Flt):updK (updK S e a) e b=updK S e b:=by
 refine zJT (by rw[zE8,zE8,zE8]) fun d i=>?_
 rw[zCH (h.updK a),zCH h,zCH h]
 repeat' (first|rfl|split)
theorem zDo{e:Nat}(h:Lk p S e fl):updK S e fl=S:=by
 refine zJT (zE8 S e fl) fun d i=>?_
 rw[zCH h];split
 .rename_i hc;rw[hc.1,hc.2,h.l]
 split
 .rename_i hc;rw[hc.1,hc.2,h.r]
 rfl
attribute [local simp] List.replicate List.range List.range.loop List.forall_mem_cons List.contains_cons List.contains_nil List.find?
end Go.Proofs.YtdflkegnmmkkoaaGreatDoor
namespace Go.Proofs.YtdflkegnmmkkoaaGreatDoor
open Go.RowKit
end Go.Proofs.YtdflkegnmmkkoaaGreatDoor
