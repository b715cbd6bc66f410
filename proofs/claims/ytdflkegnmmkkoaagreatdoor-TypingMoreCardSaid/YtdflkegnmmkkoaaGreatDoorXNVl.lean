/- A part of the proof. -/
import Derived.Test.YtdflkegnmmkkoaaGreatDoorXMLd
import Derived.Test.YtdflkegnmmkkoaaGreatDoorXMNp
set_option linter.unusedVariables false
set_option linter.unusedSimpArgs false
set_option maxRecDepth 100000
set_option maxHeartbeats 32000000
namespace Go.Proofs.YtdflkegnmmkkoaaGreatDoor
open Go.RowKit
variable{P:Program}{S:ASt}{fl:List Flt}{p:List It}{t:TypeId}
def zTk(P:Program)(rs:List ResultVar)(r:AV)(S':ASt):Exit->List AV->ASt->Prop:=fun e fr S1=>
 (e= .normal\/e= .ret)/\∃vs,resA P fr S1 rs=some vs/\∃L1 L R L2,S1=L1::L::R/\(retA vs).mrg L.length=r/\wkL (L1.map (AObj.mrg L.length)) L2/\(L++L2)::R=S'
theorem zQa(P:Program)(rs:List ResultVar)(r:AV)(e:Exit)(fr:List AV)(L1 L:List AObj)(R S':ASt):zTk P rs r S' e fr (L1::L::R)=((e= .normal\/e= .ret)/\∃vs,resA P fr (L1::L::R) rs=some vs/\(retA vs).mrg L.length=r/\∃L2,wkL (L1.map (AObj.mrg L.length)) L2/\(L++L2)::R=S'):=by
 unfold zTk
 apply propext
 constructor
 .rintro⟨h,vs,h1,Ds,L',R',L2,h2,h3,h4,h5⟩
  cases h2;exact⟨h,vs,h1,h3,L2,h4,h5⟩
 rintro⟨h,vs,h1,h3,L2,h4,h5⟩
 exact⟨h,vs,h1,_,_,_,L2,rfl,h3,h4,h5⟩
attribute [simp] zQa
inductive Lent (S:ASt):AV->PV->Prop
 |p (q:PV):Lent S (.p q) q
 |nil (k:Nat):Lent S (.p (.v (.slice none 0 0))) (.sl k [])
 |osl (k:Nat) (rows:List (List PV)) (d i:Nat):Lent S (.osl k rows d i) (.sl k rows)
 |rsl {d i n k:Nat} {E:TypeId} {cs:List AV} {rows:List (List PV)} (cf:Nat->AV):get2 S d i=some (.row E k n cs)->rows.length=n->(∀(r:Nat) (row:List PV),rows[r]? =some row->row.length=k)->
   (∀(r:Nat) (row:List PV) (j:Nat) (q:PV),rows[r]? =some row->row[j]? =some q->cs[r*k+j]? =some (cf (r*k+j)))->
   (∀(r:Nat) (row:List PV) (j:Nat) (q:PV),rows[r]? =some row->row[j]? =some q->Lent S ((cf (r*k+j)).up d) q)->Lent S (.rsl d i n k) (.sl k rows)
 |asl {d i n k:Nat} {t:TypeId} {cs:List AV} {rows:List (List PV)} (cf:Nat->AV):get2 S d i=some (.cells cs t)->rows.length=n->(∀(r:Nat) (row:List PV),rows[r]? =some row->row.length=k)->
   (∀(r:Nat) (row:List PV) (j:Nat) (q:PV),rows[r]? =some row->row[j]? =some q->cs[r*k+j]? =some (cf (r*k+j)))->
   (∀(r:Nat) (row:List PV) (j:Nat) (q:PV),rows[r]? =some row->row[j]? =some q->Lent S ((cf (r*k+j)).up d) q)->Lent S (.asl d i n k) (.sl k rows)
theorem Lent.rp{Pr:Prot}{φ:Fi2}{w:World}(hR:Rel Pr φ S w){v:AV}{q:PV}(h:Lent S v q):∀{x:Value},RA Pr φ v x->RP (zED w) q x:=by
 induction h with
 |p q=>
  intro x hx
  cases hx with
  |p h=>exact h.mono hR.pr
 |nil k=>
  intro x hx
  have:=zS hx rfl
  subst this
  exact .slemp k none 0 (Nat.zero_le _)
 |osl k rows d i=>intro x hx;exact hx.sl.mono hR.pr
 | @rsl d i n k E cs rows cf hS hl hw hc _ ih=>
  intro x hx
  obtain⟨e',hE,Ya,Rd,th,pd,Eb,Ga⟩:=hR.obj d i _ hS
  generalize Rg:k=k' at hx
  cases hx with
  |rnil a b c=>
   have h0:rows=[]:=List.eq_nil_of_length_eq_zero hl
   subst h0
   exact .slemp _ none 0 (Nat.zero_le _)
  | @rsl _ _ _ g cap e a1 a2 a3 a4 a5 a6 a7=>
   rw[hE]at a1;cases a1
   obtain⟨Yb,Sd⟩:=a5 Rd.symm
   obtain⟨h0,_⟩|⟨g',xs,Hb,ma,cb,hn0,Qd,Fd,tc,pb⟩:=Ga
   .omega
   rw[Yb]at Hb;cases Hb;subst Sd
   have Ka:∀o,zED w g o=xs[o]?:=fun o=>zBw ma o
   subst hl
   have key:∀(r:Nat) (row:List PV) (j:Nat) (p:PV),rows[r]? =some row->row[j]? =some p->zED w g (0+r*k+j)=some (xs.getD (r*k+j) undef)/\RP (zED w) p (xs.getD (r*k+j) undef):=fun r row j p hr hj=>by
    have h1:=hc r row j p hr hj
    have hlt:r*k+j<xs.size:=by
     have:=(List.getElem?_eq_some_iff.1 h1).1
     have h3:rows.length*k<=e'.cap*k:=Nat.mul_le_mul_right _ Qd
     omega
    have hx:xs[r*k+j]? =some xs[r*k+j]:=Array.getElem?_eq_getElem hlt
    have hd:xs.getD (r*k+j) undef=xs[r*k+j]:=by simp[hlt]
    rw[Nat.zero_add,Ka,hd];exact⟨hx,ih r row j p hr hj (tc _ _ _ h1 hx).up⟩
   rw[<-Rg]
   exact .sl (off:=0) (fun r j=>xs.getD (r*k+j) undef) a6 a7 hw (fun r row j p hr hj=>(key r row j p hr hj).1) (fun r row j p hr hj=>(key r row j p hr hj).2)
 | @asl d i n k t cs rows cf hS hl hw hc _ ih=>
  intro x hx
  obtain⟨e',hE,Ya,g',xs,Hb,ma,Eb,tc,pb⟩:=hR.obj d i _ hS
  cases hx with
  |asl h1 h2 h3 h4=>
   rw[hE]at h1;cases h1;rw[h3]at Hb;cases Hb;subst hl
   have key:∀(r:Nat) (row:List PV) (j:Nat) (p:PV),rows[r]? =some row->row[j]? =some p->zED w _ (0+r*k+j)=some (xs.getD (r*k+j) undef)/\RP (zED w) p (xs.getD (r*k+j) undef):=fun r row j p hr hj=>by
    have h1:=hc r row j p hr hj
    have hlt:r*k+j<xs.size:=by
     have:=(List.getElem?_eq_some_iff.1 h1).1
     omega
    have hx:xs[r*k+j]? =some xs[r*k+j]:=Array.getElem?_eq_getElem hlt
    have hd:xs.getD (r*k+j) undef=xs[r*k+j]:=by simp[hlt]
    rw[Nat.zero_add,show zED w _ _=xs[r*k+j]? from zBw ma _,hd]
    exact⟨hx,ih r row j p hr hj (tc _ _ _ h1 hx).up⟩
   exact .sl (off:=0) (fun r j=>xs.getD (r*k+j) undef) (Nat.le_refl _) h4 hw (fun r row j p hr hj=>(key r row j p hr hj).1) (fun r row j p hr hj=>(key r row j p hr hj).2)
inductive LentA (S:ASt):AV->AV->Prop
 |p {v:AV} {q:PV}:Lent S v q->LentA S v (.p q)
 |agg {l:List (AV × PV)}:(∀c∈l,Lent S c.1 c.2)->LentA S (.agg (l.map (·.1))) (.agg (l.map fun c=>.p c.2))
inductive LentL (S:ASt):List AV->List AV->Prop
 |nil:LentL S [] []
 |cons {a b:AV} {al bl:List AV}:LentA S a b->LentL S al bl->LentL S (a::al) (b::bl)
theorem Lent.row{d i n k:Nat}{E:TypeId}{Ag:List (List AV)}{rows:List (List PV)}(hS:get2 S d i=some (.row E k n Ag.flatten))(hl:rows.length=n)(we:Ag.length=n)
  (hc:∀(r:Nat) (cs:List AV) (row:List PV),Ag[r]? =some cs->rows[r]? =some row->cs.length=k/\row.length=k/\∀(j:Nat) (c:AV) (q:PV),cs[j]? =some c->row[j]? =some q->Lent S (c.up d) q):Lent S (.rsl d i n k) (.sl k rows):=by
 have ca:∀cs∈Ag,cs.length=k:=fun cs hm=>by
  obtain⟨r,hr,rfl⟩:=List.getElem_of_mem hm
  exact(hc r _ rows[r] (List.getElem?_eq_getElem hr) (List.getElem?_eq_getElem (by omega))).1
 have flat:∀(Ag:List (List AV)),(∀cs∈Ag,cs.length=k)->∀(r:Nat) (cs:List AV) (j:Nat) (c:AV),Ag[r]? =some cs->cs[j]? =some c->Ag.flatten[r*k+j]? =some c:=by
  intro Ag
  induction Ag with
  |nil=>intro _ r cs j c h;simp at h
  |cons a al ih=>
   intro hk r cs j c hr hj;rw[List.flatten_cons]
   have ha:=hk a (by simp)
   cases r with
   |zero=>
    simp at hr;subst hr;rw[Nat.zero_mul,Nat.zero_add,List.getElem?_append_left (List.getElem?_eq_some_iff.1 hj).1]
    exact hj
   |succ r=>
    rw[List.getElem?_append_right (by rw[ha,Nat.add_mul];omega),ha]
    have e:(r+1)*k+j-k=r*k+j:=by rw[Nat.add_mul];omega
    rw[e];exact ih (fun cs hm=>hk cs (List.mem_cons_of_mem _ hm)) r cs j c (by simpa using hr) hj
 refine .rsl (fun o=>Ag.flatten.getD o .any) hS hl (fun r row hr=>?_) (fun r row j q hr hj=>?_) fun r row j q hr hj=>?_
 .have hlt:r<Ag.length:=by have:=(List.getElem?_eq_some_iff.1 hr).1;omega
  exact(hc r _ row (List.getElem?_eq_getElem hlt) hr).2.1
 all_goals
  have hlt:r<Ag.length:=by have:=(List.getElem?_eq_some_iff.1 hr).1;omega
  obtain⟨h1,h2,h3⟩:=hc r _ row (List.getElem?_eq_getElem hlt) hr
  have Dh:j<Ag[r].length:=by have:=(List.getElem?_eq_some_iff.1 hj).1;omega
  have hf:=flat Ag ca r _ j _ (List.getElem?_eq_getElem hlt) (List.getElem?_eq_getElem Dh)
  rw[List.getD,hf]
 .rfl
 exact h3 j _ q (List.getElem?_eq_getElem Dh) hj
theorem ze:∀l:List AV,wkR l l
 | []=>trivial
 |a::l=>⟨.inr rfl,ze l⟩
theorem zK0{o o':AObj}{a b:List AObj}(h:wkL [o] [o'])(k:wkL a b):wkL (o::a) (o'::b):=by
 cases o<;>cases o'<;>simp_all[wkL]
theorem zZl{A B:List AObj}(h:∀o∈A,wkL [o.cut A.length] [o]):wkL (List.map (AObj.cut A.length) (List.take A.length (A++B))) A:=by
 rw[List.take_left]
 have key:∀(m:Nat) (A:List AObj),(∀o∈A,wkL [o.cut m] [o])->wkL (A.map (AObj.cut m)) A:=by
  intro m A
  induction A with
  |nil=>intro _;exact trivial
  |cons o A ih=>intro hc;exact zK0 (hc o (by simp)) (ih fun o ho=>hc o (List.mem_cons_of_mem _ ho))
 exact key _ A h
theorem zWf{m:Nat}{o:AObj}(h:wkL [o.cut m] [o]):wkL [o] [o]:=by
 cases o with
 |raw=>exact h.elim
 |dead=>trivial
 |cells=>exact⟨⟨rfl,ze _⟩,trivial⟩
 |tok=>exact⟨⟨rfl,rfl,rfl⟩,trivial⟩
 |map=>exact⟨rfl,trivial⟩
 |row=>exact⟨⟨⟨rfl,rfl,rfl⟩,ze _⟩,trivial⟩
theorem zI9{m:Nat}:∀{A:List AObj},(∀o∈A,wkL [o.cut m] [o])->wkL A A
 | [],_=>trivial
 |o::A,h=>zK0 (zWf (h o (by simp))) (zI9 fun o ho=>h o (List.mem_cons_of_mem _ ho))
theorem zWg{A:List AObj}{N:Nat}(hl:A.length=N)(h:∀o∈A,wkL [o.cut N] [o]):wkT (trim N (A::S)) (A::S):=by
 subst hl
 have:=zZl (A:=A) (B:=[]) h
 rw[List.append_nil]at this;exact⟨this,rfl⟩
def itE(l:List It):List (Value × AV):=l.map fun x=>(.string x.name,itV x)
def zAL(p:List It)(fn:Bool):Nat->List It
 |0=>[]
 |q+1=>match p[q]? with
  |some x=>if(decide (x.kind=3)==fn&& !zA5 p q x)=true then zAL p fn q++[x]else zAL p fn q
  |none=>zAL p fn q
theorem zHq(s:BA):∀(l:List It) (i:Nat),∃j,zAm .string (.string s) (itE l) i=some ((l.find? fun x=>sEq x.name s).map fun x=>(j,itV x))
 | [],i=>⟨0,rfl⟩
 |x::l,i=>by
  show ∃j,zAm .string (.string s) ((.string x.name,itV x)::itE l) i=_
  rw[zj,List.find?_cons]
  have hc:sEq s x.name=sEq x.name s:=by
   by_cases h:s=x.name
   .subst h;rfl
   rw[zCg h,zCg fun e=>h e.symm]
  rw[hc]
  cases sEq x.name s with
  |true=>exact⟨i,rfl⟩
  |false=>exact zHq s l (i+1)
theorem zFx(p:List It)(fn:Bool)(s:BA):∀q,q<=p.length->(zAL p fn q).find? (fun x=>sEq x.name s)=(p.take q).find? fun x=>(decide (x.kind=3)==fn)&&sEq x.name s:=by
 intro q
 induction q with
 |zero=>intro _;rfl
 |succ q ih=>
  intro hq
  have hlt:q<p.length:=by omega
  have hx:p[q]? =some p[q]:=List.getElem?_eq_getElem hlt
  rw[zAL,hx,List.take_add_one,hx,List.find?_append];simp only[Option.toList_some];rw[<-ih (by omega)]
  generalize p[q]=x at*
  by_cases hk:(decide (x.kind=3)==fn)=true
  .rw[hk,Bool.true_and]
   cases ha:zA5 p q x with
   |true=>
    simp only[Bool.not_true,Bool.false_eq_true,if_false]
    cases hf:(zAL p fn q).find? (fun x=>sEq x.name s)with
    |some y=>rfl
    |none=>
     rw[Option.none_or,List.find?_cons,hk,Bool.true_and]
     by_cases hs:sEq x.name s=true
     .have he:=zCR.1 hs
      subst he
      exfalso
      rw[ih (by omega),List.find?_eq_none]at hf
      unfold zA5 at ha
      obtain⟨y,hy,h2⟩:=List.any_eq_true.1 ha
      have:=hf y hy
      simp only[Bool.and_eq_true,beq_iff_eq]at h2 hk;rw[h2.1,hk,h2.2]at this;simp at this
     simp only[Bool.not_eq_true]at hs
     rw[hs];rfl
   |false=>
    simp only[Bool.not_false,if_true];rw[List.find?_append,List.find?_cons,List.find?_cons,hk,Bool.true_and];cases sEq x.name s<;>rfl
  simp only[Bool.not_eq_true]at hk
  rw[hk,Bool.false_and,if_neg (by simp),List.find?_cons,hk,Bool.false_and,List.find?_nil,Option.or_none]
theorem zG2(p:List It)(s:BA):∃j,zAm .string (.string s) (itE (zAL p false p.length)) 0=some ((zK p s).map fun x=>(j,itV x)):=by
 obtain⟨j,h⟩:=zHq s (zAL p false p.length) 0
 refine⟨j,?_⟩;rw[h,zFx p false s p.length (Nat.le_refl _),List.take_length];unfold zK
 have:(fun x:It=>(decide (x.kind=3)==false)&&sEq x.name s)=fun x:It=>(decide (x.kind≠3))&&sEq x.name s:=by
  funext x
  by_cases h:x.kind=3<;>simp[h]
 rw[this]
theorem zOp(p:List It)(s:BA):∃j,zAm .string (.string s) (itE (zAL p true p.length)) 0=some ((fnIt p s).map fun x=>(j,itV x)):=by
 obtain⟨j,h⟩:=zHq s (zAL p true p.length) 0
 refine⟨j,?_⟩;rw[h,zFx p true s p.length (Nat.le_refl _),List.take_length];unfold fnIt
 have:(fun x:It=>(decide (x.kind=3)==true)&&sEq x.name s)=fun x:It=>(decide (x.kind=3))&&sEq x.name s:=by
  funext x
  by_cases h:x.kind=3<;>simp[h]
 rw[this]
theorem zMJ(p:List It)(q:Nat)(h:q<p.length):((zAL p (decide (p[q].kind=3)) q).find? fun x=>sEq x.name p[q].name).isSome=zA5 p q p[q]:=by
 rw[zFx p _ _ q (by omega)]
 unfold zA5;rw[Bool.eq_iff_iff,List.find?_isSome,List.any_eq_true]
def mdE(m:List Fg):List (Value × AV):=m.map fun e=>(.string e.1,.agg [B e.2])
theorem zDi(s:BA):∀(m:List Fg) (i:Nat),(mGet m s=none/\zAm .string (.string s) (mdE m) i=some none/\∀b,mPut m s b=m++[(s,b)])\/∃j b,mGet m s=some b/\zAm .string (.string s) (mdE m) i=some (some (i+j,.agg [B b]))/\∀b',mdE (mPut m s b')=(mdE m).set j (.string s,.agg [B b'])
 | [],i=>.inl ⟨rfl,rfl,fun b=>rfl⟩
 |e::m,i=>by
  have hd:mdE (e::m)=(.string e.1,.agg [B e.2])::mdE m:=rfl
  rw[hd,zj,mGet]
  by_cases h:sEq s e.1=true
  .rw[if_pos h,if_pos h]
   exact .inr ⟨0,e.2,rfl,rfl,fun b'=>by rw[mPut,if_pos h];rfl⟩
  rw[if_neg h,if_neg h]
  rcases zDi s m (i+1)with⟨h1,h2,h3⟩|⟨j,b,h1,h2,h3⟩
  .exact .inl ⟨h1,h2,fun b=>by rw[mPut,if_neg h,h3];rfl⟩
  refine .inr ⟨j+1,b,h1,by rw[h2];congr 2;simp;omega,fun b'=>?_⟩
  rw[mPut,if_neg h]
  show(.string e.1,.agg [B e.2])::mdE (mPut m s b')=_
  rw[h3];rfl
structure Cf where
 d:Nat
 k:Nat
 jF:Nat
 jM:Nat
def Cf.up(c:Cf):Cf:=⟨c.d+1,c.k,c.jF,c.jM⟩
def Cf.e(c:Cf):Nat:=c.k+c.d
theorem Cf.e_up(c:Cf):c.up.e=c.e+1:=rfl
def nlO(n:Nat):AObj:=.cells [.mp 0 1,.mp 0 2,.rsl 0 4 n 2] 98
def rwO(fl:List Flt):AObj:=.row 32 2 fl.length (rowC fltE fl)
def mdO(m:List Fg):AObj:=.map (mdE m)
def fnO(c:Cf)(σ:Nf):AObj:=.cells [.ptr c.k 3 0,.mp 0 c.jM,I σ.count,I σ.opn] 109
structure Lk (p:List It) (S:ASt) (e:Nat) (fl:List Flt):Prop where
 t:get2 S e 1=some (.map (itE (zAL p false p.length)))
 f:get2 S e 2=some (.map (itE (zAL p true p.length)))
 l:get2 S e 3=some (nlO fl.length)
 r:get2 S e 4=some (rwO fl)
structure NAt (p:List It) (S:ASt) (c:Cf) (σ:Nf):Prop where
 k:Lk p S c.e σ.fl
 m:get2 S c.d c.jM=some (mdO σ.made)
 n:get2 S c.d c.jF=some (fnO c σ)
 jm:c.k=0->5<=c.jM
 jf:c.k=0->5<=c.jF
 ne:c.jF≠c.jM
def updK(S:ASt)(e:Nat)(fl:List Flt):ASt:=set2 (set2 S e 4 (rwO fl)) e 3 (nlO fl.length)
def updF(S:ASt)(c:Cf)(σ:Nf):ASt:=set2 (set2 (updK S c.e σ.fl) c.d c.jM (mdO σ.made)) c.d c.jF (fnO c σ)
theorem zJ4{S T:ASt}(h:S.map List.length=T.map List.length)(k:∀d i,get2 S d i=get2 T d i):S=T:=by
 apply List.ext_getElem?
 intro d
 have hl:S.length=T.length:=by have:=congrArg List.length h;simpa using this
 rcases Nat.lt_or_ge d S.length with hd|hd
 .rw[List.getElem?_eq_getElem hd,List.getElem?_eq_getElem (by omega)]
  congr 1
  apply List.ext_getElem?
  intro i
  have:=k d i
  unfold get2 at this;rw[List.getElem?_eq_getElem hd,List.getElem?_eq_getElem (by omega)]at this
  exact this
 rw[List.getElem?_eq_none hd,List.getElem?_eq_none (by omega)]
theorem zCN{e:Nat}(h:Lk p S e fl)(fl':List Flt)(d i:Nat):get2 (updK S e fl') d i=if d=e/\i=3 then some (nlO fl'.length)else if d=e/\i=4 then some (rwO fl')else get2 S d i:=by
 unfold updK
 have h3:get2 (set2 S e 4 (rwO fl')) e 3=some (nlO fl.length):=by rw[zQ _ h.r,if_neg (by simp)];exact h.l
 rw[zQ _ h3,zQ _ h.r]
theorem zFU(S:ASt)(e:Nat)(fl:List Flt):(updK S e fl).map List.length=S.map List.length:=by unfold updK;rw[zBr,zBr]
theorem zFV(S:ASt)(c:Cf)(σ:Nf):(updF S c σ).map List.length=S.map List.length:=by unfold updF;rw[zBr,zBr,zFU]
theorem zCH{c:Cf}{σ:Nf}(h:NAt p S c σ)(τ:Nf)(d i:Nat):get2 (updF S c τ) d i=if d=c.d/\i=c.jF then some (fnO c τ)else if d=c.d/\i=c.jM then some (mdO τ.made)else if d=c.e/\i=3 then some (nlO τ.fl.length)else if d=c.e/\i=4 then some (rwO τ.fl)else get2 S d i:=by
 have hm:=h.jm
 have hf:=h.jf
 have Gr:c.e=c.k+c.d:=rfl
 have hne:=h.ne
 unfold updF
 have h1:get2 (updK S c.e τ.fl) c.d c.jM=some (mdO σ.made):=by
  rw[zCN h.k,if_neg (by omega),if_neg (by omega)];exact h.m
 have h2:get2 (set2 (updK S c.e τ.fl) c.d c.jM (mdO τ.made)) c.d c.jF=some (fnO c σ):=by
  rw[zQ _ h1,if_neg (by omega),zCN h.k,if_neg (by omega),if_neg (by omega)];exact h.n
 rw[zQ _ h2,zQ _ h1,zCN h.k]
theorem NAt.updF{c:Cf}{σ:Nf}(h:NAt p S c σ)(τ:Nf):NAt p (updF S c τ) c τ:=by
 have hm:=h.jm
 have hf:=h.jf
 have Gr:c.e=c.k+c.d:=rfl
 have hne:=h.ne
 refine⟨⟨?_,?_,?_,?_⟩,?_,?_,hm,hf,hne⟩
 .rw[zCH h,if_neg (by omega),if_neg (by omega),if_neg (by omega),if_neg (by omega)];exact h.k.t
 .rw[zCH h,if_neg (by omega),if_neg (by omega),if_neg (by omega),if_neg (by omega)];exact h.k.f
 .rw[zCH h,if_neg (by omega),if_neg (by omega),if_pos ⟨rfl,rfl⟩]
 .rw[zCH h,if_neg (by omega),if_neg (by omega),if_neg (by omega),if_pos ⟨rfl,rfl⟩]
 .rw[zCH h,if_neg (by omega),if_pos ⟨rfl,rfl⟩]
 rw[zCH h,if_pos ⟨rfl,rfl⟩]
theorem zC3{c:Cf}{σ:Nf}(h:NAt p S c σ)(τ ρ:Nf):updF (updF S c τ) c ρ=updF S c ρ:=by
 refine zJ4 (by rw[zFV,zFV,zFV]) fun d i=>?_
 rw[zCH (h.updF τ),zCH h,zCH h]
 repeat' (first|rfl|split)
theorem zAV{c:Cf}{σ:Nf}(h:NAt p S c σ):updF S c σ=S:=by
 refine zJ4 (zFV S c σ) fun d i=>?_
 rw[zCH h];split
 .rename_i hc;rw[hc.1,hc.2,h.n]
 split
 .rename_i hc;rw[hc.1,hc.2,h.m]
 split
 .rename_i hc;rw[hc.1,hc.2,h.k.l]
 split
 .rename_i hc;rw[hc.1,hc.2,h.k.r]
 rfl
theorem Lk.cons{e:Nat}(h:Lk p S e fl)(L:List AObj):Lk p (L::S) (e+1) fl:=⟨h.t,h.f,h.l,h.r⟩
theorem NAt.cons{c:Cf}{σ:Nf}(h:NAt p S c σ)(L:List AObj):NAt p (L::S) c.up σ:=⟨h.k.cons L,h.m,h.n,h.jm,h.jf,h.ne⟩
theorem zGf(L:List AObj)(S:ASt)(e:Nat)(fl:List Flt):updK (L::S) (e+1) fl=L::updK S e fl:=by unfold updK;rw[zBH,zBH]
theorem zAo(L:List AObj)(S:ASt)(c:Cf)(σ:Nf):updF (L::S) c.up σ=L::updF S c σ:=by
 unfold updF;rw[Cf.e_up,zGf]
 show set2 (set2 (L::updK S c.e σ.fl) (c.d+1) c.jM (mdO σ.made)) (c.d+1) c.jF (fnO c.up σ)=_
 rw[zBH,zBH];rfl
theorem zJA{c:Cf}{σ:Nf}(h:NAt p S c σ)(fl:List Flt):updK S c.e fl=updF S c ⟨σ.made,σ.count,σ.opn,fl⟩:=by
 have hm:=h.jm
 have hf:=h.jf
 have Gr:c.e=c.k+c.d:=rfl
 refine zJ4 (by rw[zFU,zFV]) fun d i=>?_
 rw[zCH h,zCN h.k];split
 .rename_i h3
  rw[if_neg (by omega),if_neg (by omega)]
 split
 .rename_i h3
  rw[if_neg (by omega),if_neg (by omega)]
 split
 .rename_i h3;rw[h3.1,h3.2,h.n];rfl
 split
 .rename_i h3;rw[h3.1,h3.2,h.m]
 rfl
theorem Lk.updK{e:Nat}(h:Lk p S e fl)(fl':List Flt):Lk p (updK S e fl') e fl':=by
 refine⟨?_,?_,?_,?_⟩
 .rw[zCN h,if_neg (by omega),if_neg (by omega)];exact h.t
 .rw[zCN h,if_neg (by omega),if_neg (by omega)];exact h.f
 .rw[zCN h,if_pos ⟨rfl,rfl⟩]
 rw[zCN h,if_neg (by omega),if_pos ⟨rfl,rfl⟩]
theorem zMK{e:Nat}(h:Lk p S e fl)(a b:List Flt):updK (updK S e a) e b=updK S e b:=by
 refine zJ4 (by rw[zFU,zFU,zFU]) fun d i=>?_
 rw[zCN (h.updK a),zCN h,zCN h]
 repeat' (first|rfl|split)
theorem zD6{e:Nat}(h:Lk p S e fl):updK S e fl=S:=by
 refine zJ4 (zFU S e fl) fun d i=>?_
 rw[zCN h];split
 .rename_i hc;rw[hc.1,hc.2,h.l]
 split
 .rename_i hc;rw[hc.1,hc.2,h.r]
 rfl
attribute [local simp] List.replicate List.range List.range.loop List.forall_mem_cons List.contains_cons List.contains_nil List.find?
theorem zt{α β:Type}(s:Sem α)(f:α->Sem β)(a:α)(h:zJ P s=some a):zJ P (s>>=f)=zJ P (f a):=by
 induction s with
 |pure b=>simp[zJ]at h;subst h;rfl
 |program k ih=>exact ih P (by simpa [zJ]using h)
 |mark m k ih=>exact ih (by simpa [zJ]using h)
 |_=>simp[zJ]at h
theorem zML{α:Type}(a:α):zJ P (Pure.pure a:Sem α)=some a:=rfl
theorem zDW{d:TypeDesc}(h:P.underlying t=some d):zJ P (underlying t)=some d:=by
 unfold underlying;rw[zt _ _ P rfl,h];rfl
theorem zMM{k:IntKind}(h:P.underlying t=some (.int k)){cs:Array Value}{off:Nat}{v:Value}(hx:cs[off]? =some v):zJ P (part t cs off)=some v:=by
 unfold part
 have h1:zJ P (isAgg t)=some false:=by
  unfold isAgg;rw[zt _ _ _ (zDW h)];rfl
 rw[zt _ _ _ h1];simp[hx];rfl
theorem zOq{k kk:IntKind}(h:P.underlying t=some (.int k))(n:Nat)(a b:Int):zJ P (Op.equalIn (n+1) t (.int kk a) (.int kk b))=some (a==b):=by
 rw[Op.equalIn,zt _ _ _ (zDW h)];simp[zML]
theorem zNW{f0 f1:Field}{k0 k1 k2 k3:IntKind}(hu:P.underlying t=some (.struct #[f0,f1]))(h0:P.underlying f0.type=some (.int k0))(h1:P.underlying f1.type=some (.int k1))(n0:f0.name≠ "_")(n1:f1.name≠ "_")(o0:f0.offset=0)(o1:f1.offset=1)(hs:P.stoodInHeld t=false)(a b c d:Int):
  zJ P (Op.equal t (.agg #[.int k2 a,.int k3 b]) (.agg #[.int k2 c,.int k3 d]))=some (a==c&&b==d):=by
 unfold Op.equal;rw[show Op.maxDepth=9998+1+1 from rfl,Op.equalIn,zt _ _ _ (zDW hu)]
 have p0:=fun(x y:Value)=>zMM h0 (cs:=#[x,y]) (off:=0) (v:=x) rfl
 have p1:=fun(x y:Value)=>zMM h1 (cs:=#[x,y]) (off:=1) (v:=y) rfl
 have c0:=zOq h0 (kk:=k2) 9998 a c
 have c1:=zOq h1 (kk:=k3) 9998 b d
 simp only;rw[zt _ _ P rfl,hs];simp[n0,n1,o0,o1]
 generalize (a==c)=x at*
 generalize (b==d)=y at*
 rw[zt _ _ _ (p0 _ _),zt _ _ _ (p0 _ _),zt _ _ _ c0];cases x
 .rfl
 simp only[Bool.true_eq_false,if_false,pure_bind,bind_assoc,Bool.true_and]
 rw[zt _ _ _ (p1 _ _),zt _ _ _ (p1 _ _),zt _ _ _ c1];cases y<;>rfl
theorem zMN(a b c d:Int):zJ Tryz.prog (Op.equal 32 (.agg #[.int .i64 a,.int .i64 b]) (.agg #[.int .i64 c,.int .i64 d]))=some (a==c&&b==d):=by
 obtain⟨f0,f1,hu,h0,h1,n0,n1,o0,o1,hs⟩:=zF3 (by kernel_rfl:keyS Tryz.prog 32=some (.int .i64,.int .i64))
 exact zNW hu h0 h1 n0 n1 o0 o1 hs a b c d
theorem zZm(x y:Operand)(a b c d:Int):zJ Tryz.prog (do eqGuard .neq 32 x y (.agg #[.int .i64 a,.int .i64 b]) (.agg #[.int .i64 c,.int .i64 d]);binOp .neq 32 (.agg #[.int .i64 a,.int .i64 b]) (.agg #[.int .i64 c,.int .i64 d]):Sem Value)=some (.bool (!(a==c&&b==d))):=by
 have h1:zJ Tryz.prog (eqGuard .neq 32 x y (.agg #[.int .i64 a,.int .i64 b]) (.agg #[.int .i64 c,.int .i64 d]))=some ():=by kernel_rfl
 rw[zt _ _ _ h1]
 show zJ Tryz.prog (Op.equal 32 (.agg #[.int .i64 a,.int .i64 b]) (.agg #[.int .i64 c,.int .i64 d])>>=fun r=>pure (Value.bool (!r)))=_
 rw[zt _ _ _ (zMN a b c d)];rfl
theorem zcC(a b c d:Int)(dst:Option Tmp)(x y:Operand)(k ty:TypeId)(pos:String)(after:Array Edge)(guard:Option (Nat × Bool))(fr:List AV)(hx:evA fr x= .agg [I a,I b])(hy:evA fr y= .agg [I c,I d]):genP Tryz.prog ⟨dst,.binOp .neq 32 x y k,ty,pos,after,guard⟩ fr=some (B (!(a==c&&b==d))):=by
 have Tk:∀a b:Int,zEc [I a,I b]=some [.int .i64 a,.int .i64 b]:=fun _ _=>rfl
 have v1:zAu (evA fr x)=some (.agg #[.int .i64 a,.int .i64 b]):=by rw[hx];simp[zAu,Tk]
 have v2:zAu (evA fr y)=some (.agg #[.int .i64 c,.int .i64 d]):=by rw[hy];simp[zAu,Tk]
 have h1:(zGh (.binOp .neq 32 x y k)&&zN fr (Op.operands (.binOp .neq 32 x y k)).toList)=true:=by
  show(true&&zN fr [x,y])=true
  rw[Bool.true_and,zN,zN,zN,v1,v2];rfl
 have h2:zJ Tryz.prog (execOp (fun z=>(zAu (evA fr z)).getD undef) ⟨dst,.binOp .neq 32 x y k,ty,pos,after,guard⟩)=some (.value (.bool (!(a==c&&b==d)))):=by
  have e1:(zAu (evA fr x)).getD undef= .agg #[.int .i64 a,.int .i64 b]:=by rw[v1];rfl
  have e2:(zAu (evA fr y)).getD undef= .agg #[.int .i64 c,.int .i64 d]:=by rw[v2];rfl
  unfold execOp;simp only[e1,e2];exact zBh _ _ _ (zZm x y a b c d)
 unfold genP;simp only;rw[if_pos h1,h2];rfl
theorem zNX(l:List Flt)(hl:l.length<=4294967296)(S:ASt):ADet Tryz.prog 14 [.p (.sl 2 (l.map fltE)),.p (.sl 2 (l.map fltE))] S (B true) S:=by
 have ca:l.length<=maxLen:=by unfold maxLen;omega
 refine ADet.intro mixed Tryz.call14 Tryz.func14 rfl ?_;simp[Tryz.ntmps14];refine zF (fun q:Nat=>q<=l.length) (fun q=>([.p (.sl 2 (l.map fltE)),.p (.sl 2 (l.map fltE)),.any,.any,B false,I q]++List.replicate 20 .any)) (fun _=>[]::S) (fun q=>l.length-q) 0 (Nat.zero_le _) ?_ ?_ ?_
 .simp
 .simp
 intro q hq
 by_cases hlt:q<l.length
 .have aa:(q:Int)<(l.length:Int):=by omega
  have xd:=zB hlt ca
  have Da:l.length-(q+1)<l.length-q:=by omega
  generalize hf:l[q]=f at*
  have hne:=zcC f.1 f.2 f.1 f.2
  simp only[beq_self_eq_true,Bool.and_self,Bool.not_true]at hne;simp[hlt,aa];refine dB [] (by kernel_rfl) ?_
  simp[hlt,aa,hf,fltE,hne];exact⟨q+1,hlt,Da,xd⟩
 have aa:¬(q:Int)<(l.length:Int):=by omega
 simp[hlt,aa]
end Go.Proofs.YtdflkegnmmkkoaaGreatDoor
namespace Go.Proofs.YtdflkegnmmkkoaaGreatDoor
open Go.RowKit
end Go.Proofs.YtdflkegnmmkkoaaGreatDoor
