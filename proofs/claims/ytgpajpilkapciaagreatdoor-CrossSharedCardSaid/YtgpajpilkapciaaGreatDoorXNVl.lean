/- A part of the proof. -/
import Derived.Test.YtgpajpilkapciaaGreatDoorXMLd
import Derived.Test.YtgpajpilkapciaaGreatDoorXMNp
set_option linter.unusedVariables false
set_option linter.unusedSimpArgs false
set_option maxRecDepth 100000
set_option maxHeartbeats 32000000
namespace Go.Proofs.YtgpajpilkapciaaGreatDoor
open Go.RowKit
variable{S:ASt}{fl:List Flt}{p:List It}
def zRc(P:Program)(rs:List ResultVar)(r:AV)(S':ASt):Exit->List AV->ASt->Prop:=fun e fr S1=>
 (e= .normal\/e= .ret)/\∃vs,resA P fr S1 rs=some vs/\∃L1 L R L2,S1=L1::L::R/\(retA vs).mrg L.length=r/\wkL (L1.map (AObj.mrg L.length)) L2/\(L++L2)::R=S'
theorem zO7(P:Program)(rs:List ResultVar)(r:AV)(e:Exit)(fr:List AV)(L1 L:List AObj)(R S':ASt):zRc P rs r S' e fr (L1::L::R)=((e= .normal\/e= .ret)/\∃vs,resA P fr (L1::L::R) rs=some vs/\(retA vs).mrg L.length=r/\∃L2,wkL (L1.map (AObj.mrg L.length)) L2/\(L++L2)::R=S'):=by
 unfold zRc
 apply propext
 constructor
 .rintro⟨h,vs,h1,Es,L',R',L2,h2,h3,h4,h5⟩
  cases h2;exact⟨h,vs,h1,h3,L2,h4,h5⟩
 rintro⟨h,vs,h1,h3,L2,h4,h5⟩
 exact⟨h,vs,h1,_,_,_,L2,rfl,h3,h4,h5⟩
attribute [simp] zO7
inductive Lent (S:ASt):AV->PV->Prop
 |p (q:PV):Lent S (.p q) q
 |nil (k:Nat):Lent S (.p (.v (.slice none 0 0))) (.sl k [])
 |osl (k:Nat) (rows:List (List PV)) (d i:Nat):Lent S (.osl k rows d i) (.sl k rows)
 |rsl {d i n k:Nat} {E:TypeId} {cs:List AV} {rows:List (List PV)} (cf:Nat->AV):get2 S d i=some (.row E k n cs)->rows.length=n->(∀(r:Nat) (row:List PV),rows[r]? =some row->row.length=k)->
   (∀(r:Nat) (row:List PV) (j:Nat) (q:PV),rows[r]? =some row->row[j]? =some q->cs[r*k+j]? =some (cf (r*k+j)))->
   (∀(r:Nat) (row:List PV) (j:Nat) (q:PV),rows[r]? =some row->row[j]? =some q->Lent S ((cf (r*k+j)).up d) q)->Lent S (.rsl d i n k) (.sl k rows)
 |asl {d i n k:Nat} {t:TypeId} {cs:List AV} {rows:List (List PV)} (cf:Nat->AV):get2 S d i=some (.cells cs t)->rows.length=n->(∀(r:Nat) (row:List PV),rows[r]? =some row->row.length=k)->
   (∀(r:Nat) (row:List PV) (j:Nat) (q:PV),rows[r]? =some row->row[j]? =some q->cs[r*k+j]? =some (cf (r*k+j)))->
   (∀(r:Nat) (row:List PV) (j:Nat) (q:PV),rows[r]? =some row->row[j]? =some q->Lent S ((cf (r*k+j)).up d) q)->Lent S (.asl d i n k) (.sl k rows)
theorem Lent.rp{Pr:Prot}{φ:Fi2}{w:World}(hR:Rel Pr φ S w){v:AV}{q:PV}(h:Lent S v q):∀{x:Value},RA Pr φ v x->RP (zCz w) q x:=by
 induction h with
 |p q=>
  intro x hx
  cases hx with
  |p h=>exact h.mono hR.pr
 |nil k=>
  intro x hx
  have:=zO hx rfl
  subst this
  exact .slemp k none 0 (Nat.zero_le _)
 |osl k rows d i=>intro x hx;exact hx.sl.mono hR.pr
 | @rsl d i n k E cs rows cf hS hl hw hc _ ih=>
  intro x hx
  obtain⟨e',hE,Oa,Ad,Hg,Wc,Ab,Ea⟩:=hR.obj d i _ hS
  generalize Sf:k=k' at hx
  cases hx with
  |rnil a b c=>
   have h0:rows=[]:=List.eq_nil_of_length_eq_zero hl
   subst h0
   exact .slemp _ none 0 (Nat.zero_le _)
  | @rsl _ _ _ g cap e a1 a2 a3 a4 a5 a6 a7=>
   rw[hE]at a1;cases a1
   obtain⟨Rb,Zc⟩:=a5 Ad.symm
   obtain⟨h0,_⟩|⟨g',xs,Cb,ma,Xa,hn0,Od,yd,ld,Za⟩:=Ea
   .omega
   rw[Rb]at Cb;cases Cb;subst Zc
   have Ja:∀o,zCz w g o=xs[o]?:=fun o=>zBS ma o
   subst hl
   have key:∀(r:Nat) (row:List PV) (j:Nat) (p:PV),rows[r]? =some row->row[j]? =some p->zCz w g (0+r*k+j)=some (xs.getD (r*k+j) undef)/\RP (zCz w) p (xs.getD (r*k+j) undef):=fun r row j p hr hj=>by
    have h1:=hc r row j p hr hj
    have hlt:r*k+j<xs.size:=by
     have:=(List.getElem?_eq_some_iff.1 h1).1
     have h3:rows.length*k<=e'.cap*k:=Nat.mul_le_mul_right _ Od
     omega
    have hx:xs[r*k+j]? =some xs[r*k+j]:=Array.getElem?_eq_getElem hlt
    have hd:xs.getD (r*k+j) undef=xs[r*k+j]:=by simp[hlt]
    rw[Nat.zero_add,Ja,hd];exact⟨hx,ih r row j p hr hj (ld _ _ _ h1 hx).up⟩
   rw[<-Sf]
   exact .sl (off:=0) (fun r j=>xs.getD (r*k+j) undef) a6 a7 hw (fun r row j p hr hj=>(key r row j p hr hj).1) (fun r row j p hr hj=>(key r row j p hr hj).2)
 | @asl d i n k t cs rows cf hS hl hw hc _ ih=>
  intro x hx
  obtain⟨e',hE,Oa,g',xs,Cb,ma,Ab,ld,Za⟩:=hR.obj d i _ hS
  cases hx with
  |asl h1 h2 h3 h4=>
   rw[hE]at h1;cases h1;rw[h3]at Cb;cases Cb;subst hl
   have key:∀(r:Nat) (row:List PV) (j:Nat) (p:PV),rows[r]? =some row->row[j]? =some p->zCz w _ (0+r*k+j)=some (xs.getD (r*k+j) undef)/\RP (zCz w) p (xs.getD (r*k+j) undef):=fun r row j p hr hj=>by
    have h1:=hc r row j p hr hj
    have hlt:r*k+j<xs.size:=by
     have:=(List.getElem?_eq_some_iff.1 h1).1
     omega
    have hx:xs[r*k+j]? =some xs[r*k+j]:=Array.getElem?_eq_getElem hlt
    have hd:xs.getD (r*k+j) undef=xs[r*k+j]:=by simp[hlt]
    rw[Nat.zero_add,show zCz w _ _=xs[r*k+j]? from zBS ma _,hd]
    exact⟨hx,ih r row j p hr hj (ld _ _ _ h1 hx).up⟩
   exact .sl (off:=0) (fun r j=>xs.getD (r*k+j) undef) (Nat.le_refl _) h4 hw (fun r row j p hr hj=>(key r row j p hr hj).1) (fun r row j p hr hj=>(key r row j p hr hj).2)
inductive LentA (S:ASt):AV->AV->Prop
 |p {v:AV} {q:PV}:Lent S v q->LentA S v (.p q)
 |agg {l:List (AV × PV)}:(∀c∈l,Lent S c.1 c.2)->LentA S (.agg (l.map (·.1))) (.agg (l.map fun c=>.p c.2))
inductive LentL (S:ASt):List AV->List AV->Prop
 |nil:LentL S [] []
 |cons {a b:AV} {al bl:List AV}:LentA S a b->LentL S al bl->LentL S (a::al) (b::bl)
theorem Lent.row{d i n k:Nat}{E:TypeId}{qg:List (List AV)}{rows:List (List PV)}(hS:get2 S d i=some (.row E k n qg.flatten))(hl:rows.length=n)(vg:qg.length=n)
  (hc:∀(r:Nat) (cs:List AV) (row:List PV),qg[r]? =some cs->rows[r]? =some row->cs.length=k/\row.length=k/\∀(j:Nat) (c:AV) (q:PV),cs[j]? =some c->row[j]? =some q->Lent S (c.up d) q):Lent S (.rsl d i n k) (.sl k rows):=by
 have ca:∀cs∈qg,cs.length=k:=fun cs hm=>by
  obtain⟨r,hr,rfl⟩:=List.getElem_of_mem hm
  exact(hc r _ rows[r] (List.getElem?_eq_getElem hr) (List.getElem?_eq_getElem (by omega))).1
 have flat:∀(qg:List (List AV)),(∀cs∈qg,cs.length=k)->∀(r:Nat) (cs:List AV) (j:Nat) (c:AV),qg[r]? =some cs->cs[j]? =some c->qg.flatten[r*k+j]? =some c:=by
  intro qg
  induction qg with
  |nil=>intro _ r cs j c h;simp at h
  |cons a al ih=>
   intro hk r cs j c hr hj;rw[List.flatten_cons]
   have ha:=hk a (by simp)
   cases r with
   |zero=>
    simp at hr;subst hr;rw[Nat.zero_mul,Nat.zero_add,List.getElem?_append_left (List.getElem?_eq_some_iff.1 hj).1]
    exact hj
   |succ r=>
    rw[List.getElem?_append_right (by rw[ha,Nat.add_mul];omega),ha]
    have e:(r+1)*k+j-k=r*k+j:=by rw[Nat.add_mul];omega
    rw[e];exact ih (fun cs hm=>hk cs (List.mem_cons_of_mem _ hm)) r cs j c (by simpa using hr) hj
 refine .rsl (fun o=>qg.flatten.getD o .any) hS hl (fun r row hr=>?_) (fun r row j q hr hj=>?_) fun r row j q hr hj=>?_
 .have hlt:r<qg.length:=by have:=(List.getElem?_eq_some_iff.1 hr).1;omega
  exact(hc r _ row (List.getElem?_eq_getElem hlt) hr).2.1
 all_goals
  have hlt:r<qg.length:=by have:=(List.getElem?_eq_some_iff.1 hr).1;omega
  obtain⟨h1,h2,h3⟩:=hc r _ row (List.getElem?_eq_getElem hlt) hr
  have qd:j<qg[r].length:=by have:=(List.getElem?_eq_some_iff.1 hj).1;omega
  have hf:=flat qg ca r _ j _ (List.getElem?_eq_getElem hlt) (List.getElem?_eq_getElem qd)
  rw[List.getD,hf]
 .rfl
 exact h3 j _ q (List.getElem?_eq_getElem qd) hj
theorem zS:∀l:List AV,wkR l l
 | []=>trivial
 |a::l=>⟨.inr rfl,zS l⟩
theorem zJ8{o o':AObj}{a b:List AObj}(h:wkL [o] [o'])(k:wkL a b):wkL (o::a) (o'::b):=by
 cases o<;>cases o'<;>simp_all[wkL]
theorem zRd{A B:List AObj}(h:∀o∈A,wkL [o.cut A.length] [o]):wkL (List.map (AObj.cut A.length) (List.take A.length (A++B))) A:=by
 rw[List.take_left]
 have key:∀(m:Nat) (A:List AObj),(∀o∈A,wkL [o.cut m] [o])->wkL (A.map (AObj.cut m)) A:=by
  intro m A
  induction A with
  |nil=>intro _;exact trivial
  |cons o A ih=>intro hc;exact zJ8 (hc o (by simp)) (ih fun o ho=>hc o (List.mem_cons_of_mem _ ho))
 exact key _ A h
theorem zUd{m:Nat}{o:AObj}(h:wkL [o.cut m] [o]):wkL [o] [o]:=by
 cases o with
 |raw=>exact h.elim
 |dead=>trivial
 |cells=>exact⟨⟨rfl,zS _⟩,trivial⟩
 |tok=>exact⟨⟨rfl,rfl,rfl⟩,trivial⟩
 |map=>exact⟨rfl,trivial⟩
 |row=>exact⟨⟨⟨rfl,rfl,rfl⟩,zS _⟩,trivial⟩
theorem zF3{m:Nat}:∀{A:List AObj},(∀o∈A,wkL [o.cut m] [o])->wkL A A
 | [],_=>trivial
 |o::A,h=>zJ8 (zUd (h o (by simp))) (zF3 fun o ho=>h o (List.mem_cons_of_mem _ ho))
theorem zUe{A:List AObj}{N:Nat}(hl:A.length=N)(h:∀o∈A,wkL [o.cut N] [o]):wkT (trim N (A::S)) (A::S):=by
 subst hl
 have:=zRd (A:=A) (B:=[]) h
 rw[List.append_nil]at this;exact⟨this,rfl⟩
def itE(l:List It):List (Value × AV):=l.map fun x=>(.string x.name,itV x)
def zAE(p:List It)(fn:Bool):Nat->List It
 |0=>[]
 |q+1=>match p[q]? with
  |some x=>if(decide (x.kind=3)==fn&& !zBI p q x)=true then zAE p fn q++[x]else zAE p fn q
  |none=>zAE p fn q
theorem zHE(s:BA):∀(l:List It) (i:Nat),∃j,zA0 .string (.string s) (itE l) i=some ((l.find? fun x=>sEq x.name s).map fun x=>(j,itV x))
 | [],i=>⟨0,rfl⟩
 |x::l,i=>by
  show ∃j,zA0 .string (.string s) ((.string x.name,itV x)::itE l) i=_
  rw[zDr,List.find?_cons]
  have hc:sEq s x.name=sEq x.name s:=by
   by_cases h:s=x.name
   .subst h;rfl
   rw[zDW h,zDW fun e=>h e.symm]
  rw[hc]
  cases sEq x.name s with
  |true=>exact⟨i,rfl⟩
  |false=>exact zHE s l (i+1)
theorem zFQ(p:List It)(fn:Bool)(s:BA):∀q,q<=p.length->(zAE p fn q).find? (fun x=>sEq x.name s)=(p.take q).find? fun x=>(decide (x.kind=3)==fn)&&sEq x.name s:=by
 intro q
 induction q with
 |zero=>intro _;rfl
 |succ q ih=>
  intro hq
  have hlt:q<p.length:=by omega
  have hx:p[q]? =some p[q]:=List.getElem?_eq_getElem hlt
  rw[zAE,hx,List.take_add_one,hx,List.find?_append];simp only[Option.toList_some];rw[<-ih (by omega)]
  generalize p[q]=x at*
  by_cases hk:(decide (x.kind=3)==fn)=true
  .rw[hk,Bool.true_and]
   cases ha:zBI p q x with
   |true=>
    simp only[Bool.not_true,Bool.false_eq_true,if_false]
    cases hf:(zAE p fn q).find? (fun x=>sEq x.name s)with
    |some y=>rfl
    |none=>
     rw[Option.none_or,List.find?_cons,hk,Bool.true_and]
     by_cases hs:sEq x.name s=true
     .have he:=zB3.1 hs
      subst he
      exfalso
      rw[ih (by omega),List.find?_eq_none]at hf
      unfold zBI at ha
      obtain⟨y,hy,h2⟩:=List.any_eq_true.1 ha
      have:=hf y hy
      simp only[Bool.and_eq_true,beq_iff_eq]at h2 hk;rw[h2.1,hk,h2.2]at this;simp at this
     simp only[Bool.not_eq_true]at hs
     rw[hs];rfl
   |false=>
    simp only[Bool.not_false,if_true];rw[List.find?_append,List.find?_cons,List.find?_cons,hk,Bool.true_and];cases sEq x.name s<;>rfl
  simp only[Bool.not_eq_true]at hk
  rw[hk,Bool.false_and,if_neg (by simp),List.find?_cons,hk,Bool.false_and,List.find?_nil,Option.or_none]
theorem zGV(p:List It)(s:BA):∃j,zA0 .string (.string s) (itE (zAE p false p.length)) 0=some ((zU p s).map fun x=>(j,itV x)):=by
 obtain⟨j,h⟩:=zHE s (zAE p false p.length) 0
 refine⟨j,?_⟩;rw[h,zFQ p false s p.length (Nat.le_refl _),List.take_length];unfold zU
 have:(fun x:It=>(decide (x.kind=3)==false)&&sEq x.name s)=fun x:It=>(decide (x.kind≠3))&&sEq x.name s:=by
  funext x
  by_cases h:x.kind=3<;>simp[h]
 rw[this]
theorem zNo(p:List It)(s:BA):∃j,zA0 .string (.string s) (itE (zAE p true p.length)) 0=some ((fnIt p s).map fun x=>(j,itV x)):=by
 obtain⟨j,h⟩:=zHE s (zAE p true p.length) 0
 refine⟨j,?_⟩;rw[h,zFQ p true s p.length (Nat.le_refl _),List.take_length];unfold fnIt
 have:(fun x:It=>(decide (x.kind=3)==true)&&sEq x.name s)=fun x:It=>(decide (x.kind=3))&&sEq x.name s:=by
  funext x
  by_cases h:x.kind=3<;>simp[h]
 rw[this]
theorem zLR(p:List It)(q:Nat)(h:q<p.length):((zAE p (decide (p[q].kind=3)) q).find? fun x=>sEq x.name p[q].name).isSome=zBI p q p[q]:=by
 rw[zFQ p _ _ q (by omega)]
 unfold zBI;rw[Bool.eq_iff_iff,List.find?_isSome,List.any_eq_true]
def mdE(m:List Fg):List (Value × AV):=m.map fun e=>(.string e.1,.agg [B e.2])
theorem zDK(s:BA):∀(m:List Fg) (i:Nat),(mGet m s=none/\zA0 .string (.string s) (mdE m) i=some none/\∀b,mPut m s b=m++[(s,b)])\/∃j b,mGet m s=some b/\zA0 .string (.string s) (mdE m) i=some (some (i+j,.agg [B b]))/\∀b',mdE (mPut m s b')=(mdE m).set j (.string s,.agg [B b'])
 | [],i=>.inl ⟨rfl,rfl,fun b=>rfl⟩
 |e::m,i=>by
  have hd:mdE (e::m)=(.string e.1,.agg [B e.2])::mdE m:=rfl
  rw[hd,zDr,mGet]
  by_cases h:sEq s e.1=true
  .rw[if_pos h,if_pos h]
   exact .inr ⟨0,e.2,rfl,rfl,fun b'=>by rw[mPut,if_pos h];rfl⟩
  rw[if_neg h,if_neg h]
  rcases zDK s m (i+1)with⟨h1,h2,h3⟩|⟨j,b,h1,h2,h3⟩
  .exact .inl ⟨h1,h2,fun b=>by rw[mPut,if_neg h,h3];rfl⟩
  refine .inr ⟨j+1,b,h1,by rw[h2];congr 2;simp;omega,fun b'=>?_⟩
  rw[mPut,if_neg h]
  show(.string e.1,.agg [B e.2])::mdE (mPut m s b')=_
  rw[h3];rfl
structure Cf where
 d:Nat
 k:Nat
 jF:Nat
 jM:Nat
def Cf.up(c:Cf):Cf:=⟨c.d+1,c.k,c.jF,c.jM⟩
def Cf.e(c:Cf):Nat:=c.k+c.d
theorem Cf.e_up(c:Cf):c.up.e=c.e+1:=rfl
def nlO(n:Nat):AObj:=.cells [.mp 0 1,.mp 0 2,.rsl 0 4 n 2] 85
def rwO(fl:List Flt):AObj:=.row 54 2 fl.length (rowC fltE fl)
def mdO(m:List Fg):AObj:=.map (mdE m)
def fnO(c:Cf)(σ:Nf):AObj:=.cells [.ptr c.k 3 0,.mp 0 c.jM,I σ.count,I σ.opn] 97
structure Lk (p:List It) (S:ASt) (e:Nat) (fl:List Flt):Prop where
 t:get2 S e 1=some (.map (itE (zAE p false p.length)))
 f:get2 S e 2=some (.map (itE (zAE p true p.length)))
 l:get2 S e 3=some (nlO fl.length)
 r:get2 S e 4=some (rwO fl)
structure NAt (p:List It) (S:ASt) (c:Cf) (σ:Nf):Prop where
 k:Lk p S c.e σ.fl
 m:get2 S c.d c.jM=some (mdO σ.made)
 n:get2 S c.d c.jF=some (fnO c σ)
 jm:c.k=0->5<=c.jM
 jf:c.k=0->5<=c.jF
 ne:c.jF≠c.jM
def updK(S:ASt)(e:Nat)(fl:List Flt):ASt:=set2 (set2 S e 4 (rwO fl)) e 3 (nlO fl.length)
def updF(S:ASt)(c:Cf)(σ:Nf):ASt:=set2 (set2 (updK S c.e σ.fl) c.d c.jM (mdO σ.made)) c.d c.jF (fnO c σ)
theorem zDe{S T:ASt}(h:S.map List.length=T.map List.length)(k:∀d i,get2 S d i=get2 T d i):S=T:=by
 apply List.ext_getElem?
 intro d
 have hl:S.length=T.length:=by have:=congrArg List.length h;simpa using this
 rcases Nat.lt_or_ge d S.length with hd|hd
 .rw[List.getElem?_eq_getElem hd,List.getElem?_eq_getElem (by omega)]
  congr 1
  apply List.ext_getElem?
  intro i
  have:=k d i
  unfold get2 at this;rw[List.getElem?_eq_getElem hd,List.getElem?_eq_getElem (by omega)]at this
  exact this
 rw[List.getElem?_eq_none hd,List.getElem?_eq_none (by omega)]
theorem zB9{e:Nat}(h:Lk p S e fl)(Pk:List Flt)(d i:Nat):get2 (updK S e Pk) d i=if d=e/\i=3 then some (nlO Pk.length)else if d=e/\i=4 then some (rwO Pk)else get2 S d i:=by
 unfold updK
 have h3:get2 (set2 S e 4 (rwO Pk)) e 3=some (nlO fl.length):=by rw[zF _ h.r,if_neg (by simp)];exact h.l
 rw[zF _ h3,zF _ h.r]
theorem zEw(S:ASt)(e:Nat)(fl:List Flt):(updK S e fl).map List.length=S.map List.length:=by unfold updK;rw[zAH,zAH]
theorem zEx(S:ASt)(c:Cf)(σ:Nf):(updF S c σ).map List.length=S.map List.length:=by unfold updF;rw[zAH,zAH,zEw]
theorem zBy{c:Cf}{σ:Nf}(h:NAt p S c σ)(τ:Nf)(d i:Nat):get2 (updF S c τ) d i=if d=c.d/\i=c.jF then some (fnO c τ)else if d=c.d/\i=c.jM then some (mdO τ.made)else if d=c.e/\i=3 then some (nlO τ.fl.length)else if d=c.e/\i=4 then some (rwO τ.fl)else get2 S d i:=by
 have hm:=h.jm
 have hf:=h.jf
 have jr:c.e=c.k+c.d:=rfl
 have hne:=h.ne
 unfold updF
 have h1:get2 (updK S c.e τ.fl) c.d c.jM=some (mdO σ.made):=by
  rw[zB9 h.k,if_neg (by omega),if_neg (by omega)];exact h.m
 have h2:get2 (set2 (updK S c.e τ.fl) c.d c.jM (mdO τ.made)) c.d c.jF=some (fnO c σ):=by
  rw[zF _ h1,if_neg (by omega),zB9 h.k,if_neg (by omega),if_neg (by omega)];exact h.n
 rw[zF _ h2,zF _ h1,zB9 h.k]
theorem NAt.updF{c:Cf}{σ:Nf}(h:NAt p S c σ)(τ:Nf):NAt p (updF S c τ) c τ:=by
 have hm:=h.jm
 have hf:=h.jf
 have jr:c.e=c.k+c.d:=rfl
 have hne:=h.ne
 refine⟨⟨?_,?_,?_,?_⟩,?_,?_,hm,hf,hne⟩
 .rw[zBy h,if_neg (by omega),if_neg (by omega),if_neg (by omega),if_neg (by omega)];exact h.k.t
 .rw[zBy h,if_neg (by omega),if_neg (by omega),if_neg (by omega),if_neg (by omega)];exact h.k.f
 .rw[zBy h,if_neg (by omega),if_neg (by omega),if_pos ⟨rfl,rfl⟩]
 .rw[zBy h,if_neg (by omega),if_neg (by omega),if_neg (by omega),if_pos ⟨rfl,rfl⟩]
 .rw[zBy h,if_neg (by omega),if_pos ⟨rfl,rfl⟩]
 rw[zBy h,if_pos ⟨rfl,rfl⟩]
theorem zCk{c:Cf}{σ:Nf}(h:NAt p S c σ)(τ ρ:Nf):updF (updF S c τ) c ρ=updF S c ρ:=by
 refine zDe (by rw[zEx,zEx,zEx]) fun d i=>?_
 rw[zBy (h.updF τ),zBy h,zBy h]
 repeat' (first|rfl|split)
theorem zAQ{c:Cf}{σ:Nf}(h:NAt p S c σ):updF S c σ=S:=by
 refine zDe (zEx S c σ) fun d i=>?_
 rw[zBy h];split
 .rename_i hc;rw[hc.1,hc.2,h.n]
 split
 .rename_i hc;rw[hc.1,hc.2,h.m]
 split
 .rename_i hc;rw[hc.1,hc.2,h.k.l]
 split
 .rename_i hc;rw[hc.1,hc.2,h.k.r]
 rfl
theorem Lk.cons{e:Nat}(h:Lk p S e fl)(L:List AObj):Lk p (L::S) (e+1) fl:=⟨h.t,h.f,h.l,h.r⟩
theorem NAt.cons{c:Cf}{σ:Nf}(h:NAt p S c σ)(L:List AObj):NAt p (L::S) c.up σ:=⟨h.k.cons L,h.m,h.n,h.jm,h.jf,h.ne⟩
theorem zF4(L:List AObj)(S:ASt)(e:Nat)(fl:List Flt):updK (L::S) (e+1) fl=L::updK S e fl:=by unfold updK;rw[zAi,zAi]
theorem zAk(L:List AObj)(S:ASt)(c:Cf)(σ:Nf):updF (L::S) c.up σ=L::updF S c σ:=by
 unfold updF;rw[Cf.e_up,zF4]
 show set2 (set2 (L::updK S c.e σ.fl) (c.d+1) c.jM (mdO σ.made)) (c.d+1) c.jF (fnO c.up σ)=_
 rw[zAi,zAi];rfl
theorem zIC{c:Cf}{σ:Nf}(h:NAt p S c σ)(fl:List Flt):updK S c.e fl=updF S c ⟨σ.made,σ.count,σ.opn,fl⟩:=by
 have hm:=h.jm
 have hf:=h.jf
 have jr:c.e=c.k+c.d:=rfl
 refine zDe (by rw[zEw,zEx]) fun d i=>?_
 rw[zBy h,zB9 h.k];split
 .rename_i h3
  rw[if_neg (by omega),if_neg (by omega)]
 split
 .rename_i h3
  rw[if_neg (by omega),if_neg (by omega)]
 split
 .rename_i h3;rw[h3.1,h3.2,h.n];rfl
 split
 .rename_i h3;rw[h3.1,h3.2,h.m]
 rfl
theorem Lk.updK{e:Nat}(h:Lk p S e fl)(Pk:List Flt):Lk p (updK S e Pk) e Pk:=by
 refine⟨?_,?_,?_,?_⟩
 .rw[zB9 h,if_neg (by omega),if_neg (by omega)];exact h.t
 .rw[zB9 h,if_neg (by omega),if_neg (by omega)];exact h.f
 .rw[zB9 h,if_pos ⟨rfl,rfl⟩]
 rw[zB9 h,if_neg (by omega),if_pos ⟨rfl,rfl⟩]
theorem zLS{e:Nat}(h:Lk p S e fl)(a b:List Flt):updK (updK S e a) e b=updK S e b:=by
 refine zDe (by rw[zEw,zEw,zEw]) fun d i=>?_
 rw[zB9 (h.updK a),zB9 h,zB9 h]
 repeat' (first|rfl|split)
theorem zDf{e:Nat}(h:Lk p S e fl):updK S e fl=S:=by
 refine zDe (zEw S e fl) fun d i=>?_
 rw[zB9 h];split
 .rename_i hc;rw[hc.1,hc.2,h.l]
 split
 .rename_i hc;rw[hc.1,hc.2,h.r]
 rfl
end Go.Proofs.YtgpajpilkapciaaGreatDoor
