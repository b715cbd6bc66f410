/- A part of the proof. -/
import Derived.Test.YtdflkegnmmkkoaaGreatDoorYMLd
import Derived.Test.YtdflkegnmmkkoaaGreatDoorYMWp
set_option linter.unusedVariables false
set_option linter.unusedSimpArgs false
set_option maxRecDepth 100000
set_option maxHeartbeats 32000000
namespace Go.Proofs.YtdflkegnmmkkoaaGreatDoor
open Go.RowKit
def zSN(P:Program)(rs:List ResultVar)(r:AV)(S':ASt):Exit->List AV->ASt->Prop:=fun e fr S1=>
 (e= .normal\/e= .ret)/\∃vs,resA P fr S1 rs=some vs/\∃L1 L R L2,S1=L1::L::R/\(retA vs).mrg L.length=r/\wkL (L1.map (AObj.mrg L.length)) L2/\(L++L2)::R=S'
theorem zPf(P:Program)(rs:List ResultVar)(r:AV)(e:Exit)(fr:List AV)(L1 L:List AObj)(R S':ASt):zSN P rs r S' e fr (L1::L::R)=((e= .normal\/e= .ret)/\∃vs,resA P fr (L1::L::R) rs=some vs/\(retA vs).mrg L.length=r/\∃L2,wkL (L1.map (AObj.mrg L.length)) L2/\(L++L2)::R=S'):=by
 unfold zSN
 apply propext
 constructor
 .rintro⟨h,vs,h1,Ks,L',R',L2,h2,h3,h4,h5⟩
  cases h2;exact⟨h,vs,h1,h3,L2,h4,h5⟩
 rintro⟨h,vs,h1,h3,L2,h4,h5⟩
 exact⟨h,vs,h1,_,_,_,L2,rfl,h3,h4,h5⟩
attribute [simp] zPf
inductive Lent (S:ASt):AV->PV->Prop
 |p (q:PV):Lent S (.p q) q
 |nil (k:Nat):Lent S (.p (.v (.slice none 0 0))) (.sl k [])
 |osl (k:Nat) (rows:List (List PV)) (d i:Nat):Lent S (.osl k rows d i) (.sl k rows)
 |rsl {d i n k:Nat} {E:TypeId} {cs:List AV} {rows:List (List PV)} (cf:Nat->AV):get2 S d i=some (.row E k n cs)->rows.length=n->(∀(r:Nat) (row:List PV),rows[r]? =some row->row.length=k)->
   (∀(r:Nat) (row:List PV) (j:Nat) (q:PV),rows[r]? =some row->row[j]? =some q->cs[r*k+j]? =some (cf (r*k+j)))->
   (∀(r:Nat) (row:List PV) (j:Nat) (q:PV),rows[r]? =some row->row[j]? =some q->Lent S ((cf (r*k+j)).up d) q)->Lent S (.rsl d i n k) (.sl k rows)
 |asl {d i n k:Nat} {t:TypeId} {cs:List AV} {rows:List (List PV)} (cf:Nat->AV):get2 S d i=some (.cells cs t)->rows.length=n->(∀(r:Nat) (row:List PV),rows[r]? =some row->row.length=k)->
   (∀(r:Nat) (row:List PV) (j:Nat) (q:PV),rows[r]? =some row->row[j]? =some q->cs[r*k+j]? =some (cf (r*k+j)))->
   (∀(r:Nat) (row:List PV) (j:Nat) (q:PV),rows[r]? =some row->row[j]? =some q->Lent S ((cf (r*k+j)).up d) q)->Lent S (.asl d i n k) (.sl k rows)
theorem Lent.rp{S:ASt}{Pr:Prot}{φ:Fi2}{w:World}(hR:Rel Pr φ S w){v:AV}{q:PV}(h:Lent S v q):∀{x:Value},RA Pr φ v x->RP (zCx w) q x:=by
 induction h with
 |p q=>
  intro x hx
  cases hx with
  |p h=>exact h.mono hR.pr
 |nil k=>
  intro x hx
  have:=zR hx rfl
  subst this
  exact .slemp k none 0 (Nat.zero_le _)
 |osl k rows d i=>intro x hx;exact hx.sl.mono hR.pr
 | @rsl d i n k E cs rows cf hS hl hw hc _ ih=>
  intro x hx
  obtain⟨e',hE,Xa,Yd,wh,od,Hb,Ha⟩:=hR.obj d i _ hS
  generalize jg:k=k' at hx
  cases hx with
  |rnil a b c=>
   have h0:rows=[]:=List.eq_nil_of_length_eq_zero hl
   subst h0
   exact .slemp _ none 0 (Nat.zero_le _)
  | @rsl _ _ _ g cap e a1 a2 a3 a4 a5 a6 a7=>
   rw[hE]at a1;cases a1
   obtain⟨ac,Zd⟩:=a5 Yd.symm
   obtain⟨h0,_⟩|⟨g',xs,Lb,oa,cb,hn0,Xd,Id,qc,rb⟩:=Ha
   .omega
   rw[ac]at Lb;cases Lb;subst Zd
   have Ka:∀o,zCx w g o=xs[o]?:=fun o=>zBt oa o
   subst hl
   have key:∀(r:Nat) (row:List PV) (j:Nat) (p:PV),rows[r]? =some row->row[j]? =some p->zCx w g (0+r*k+j)=some (xs.getD (r*k+j) undef)/\RP (zCx w) p (xs.getD (r*k+j) undef):=fun r row j p hr hj=>by
    have h1:=hc r row j p hr hj
    have hlt:r*k+j<xs.size:=by
     have:=(List.getElem?_eq_some_iff.1 h1).1
     have h3:rows.length*k<=e'.cap*k:=Nat.mul_le_mul_right _ Xd
     omega
    have hx:xs[r*k+j]? =some xs[r*k+j]:=Array.getElem?_eq_getElem hlt
    have hd:xs.getD (r*k+j) undef=xs[r*k+j]:=by simp[hlt]
    rw[Nat.zero_add,Ka,hd];exact⟨hx,ih r row j p hr hj (qc _ _ _ h1 hx).up⟩
   rw[<-jg]
   exact .sl (off:=0) (fun r j=>xs.getD (r*k+j) undef) a6 a7 hw (fun r row j p hr hj=>(key r row j p hr hj).1) (fun r row j p hr hj=>(key r row j p hr hj).2)
 | @asl d i n k t cs rows cf hS hl hw hc _ ih=>
  intro x hx
  obtain⟨e',hE,Xa,g',xs,Lb,oa,Hb,qc,rb⟩:=hR.obj d i _ hS
  cases hx with
  |asl h1 h2 h3 h4=>
   rw[hE]at h1;cases h1;rw[h3]at Lb;cases Lb;subst hl
   have key:∀(r:Nat) (row:List PV) (j:Nat) (p:PV),rows[r]? =some row->row[j]? =some p->zCx w _ (0+r*k+j)=some (xs.getD (r*k+j) undef)/\RP (zCx w) p (xs.getD (r*k+j) undef):=fun r row j p hr hj=>by
    have h1:=hc r row j p hr hj
    have hlt:r*k+j<xs.size:=by
     have:=(List.getElem?_eq_some_iff.1 h1).1
     omega
    have hx:xs[r*k+j]? =some xs[r*k+j]:=Array.getElem?_eq_getElem hlt
    have hd:xs.getD (r*k+j) undef=xs[r*k+j]:=by simp[hlt]
    rw[Nat.zero_add,show zCx w _ _=xs[r*k+j]? from zBt oa _,hd]
    exact⟨hx,ih r row j p hr hj (qc _ _ _ h1 hx).up⟩
   exact .sl (off:=0) (fun r j=>xs.getD (r*k+j) undef) (Nat.le_refl _) h4 hw (fun r row j p hr hj=>(key r row j p hr hj).1) (fun r row j p hr hj=>(key r row j p hr hj).2)
inductive LentA (S:ASt):AV->AV->Prop
 |p {v:AV} {q:PV}:Lent S v q->LentA S v (.p q)
 |agg {l:List (AV × PV)}:(∀c∈l,Lent S c.1 c.2)->LentA S (.agg (l.map (·.1))) (.agg (l.map fun c=>.p c.2))
inductive LentL (S:ASt):List AV->List AV->Prop
 |nil:LentL S [] []
 |cons {a b:AV} {al bl:List AV}:LentA S a b->LentL S al bl->LentL S (a::al) (b::bl)
theorem Lent.row{S:ASt}{d i n k:Nat}{E:TypeId}{Cg:List (List AV)}{rows:List (List PV)}(hS:get2 S d i=some (.row E k n Cg.flatten))(hl:rows.length=n)(Ee:Cg.length=n)
  (hc:∀(r:Nat) (cs:List AV) (row:List PV),Cg[r]? =some cs->rows[r]? =some row->cs.length=k/\row.length=k/\∀(j:Nat) (c:AV) (q:PV),cs[j]? =some c->row[j]? =some q->Lent S (c.up d) q):Lent S (.rsl d i n k) (.sl k rows):=by
 have ca:∀cs∈Cg,cs.length=k:=fun cs hm=>by
  obtain⟨r,hr,rfl⟩:=List.getElem_of_mem hm
  exact(hc r _ rows[r] (List.getElem?_eq_getElem hr) (List.getElem?_eq_getElem (by omega))).1
 have flat:∀(Cg:List (List AV)),(∀cs∈Cg,cs.length=k)->∀(r:Nat) (cs:List AV) (j:Nat) (c:AV),Cg[r]? =some cs->cs[j]? =some c->Cg.flatten[r*k+j]? =some c:=by
  intro Cg
  induction Cg with
  |nil=>intro _ r cs j c h;simp at h
  |cons a al ih=>
   intro hk r cs j c hr hj;rw[List.flatten_cons]
   have ha:=hk a (by simp)
   cases r with
   |zero=>
    simp at hr;subst hr;rw[Nat.zero_mul,Nat.zero_add,List.getElem?_append_left (List.getElem?_eq_some_iff.1 hj).1]
    exact hj
   |succ r=>
    rw[List.getElem?_append_right (by rw[ha,Nat.add_mul];omega),ha]
    have e:(r+1)*k+j-k=r*k+j:=by rw[Nat.add_mul];omega
    rw[e];exact ih (fun cs hm=>hk cs (List.mem_cons_of_mem _ hm)) r cs j c (by simpa using hr) hj
 refine .rsl (fun o=>Cg.flatten.getD o .any) hS hl (fun r row hr=>?_) (fun r row j q hr hj=>?_) fun r row j q hr hj=>?_
 .have hlt:r<Cg.length:=by have:=(List.getElem?_eq_some_iff.1 hr).1;omega
  exact(hc r _ row (List.getElem?_eq_getElem hlt) hr).2.1
 all_goals
  have hlt:r<Cg.length:=by have:=(List.getElem?_eq_some_iff.1 hr).1;omega
  obtain⟨h1,h2,h3⟩:=hc r _ row (List.getElem?_eq_getElem hlt) hr
  have Hh:j<Cg[r].length:=by have:=(List.getElem?_eq_some_iff.1 hj).1;omega
  have hf:=flat Cg ca r _ j _ (List.getElem?_eq_getElem hlt) (List.getElem?_eq_getElem Hh)
  rw[List.getD,hf]
 .rfl
 exact h3 j _ q (List.getElem?_eq_getElem Hh) hj
theorem zh:∀l:List AV,wkR l l
 | []=>trivial
 |a::l=>⟨.inr rfl,zh l⟩
theorem zKZ{o o':AObj}{a b:List AObj}(h:wkL [o] [o'])(k:wkL a b):wkL (o::a) (o'::b):=by
 cases o<;>cases o'<;>simp_all[wkL]
theorem zXt{A B:List AObj}(h:∀o∈A,wkL [o.cut A.length] [o]):wkL (List.map (AObj.cut A.length) (List.take A.length (A++B))) A:=by
 rw[List.take_left]
 have key:∀(m:Nat) (A:List AObj),(∀o∈A,wkL [o.cut m] [o])->wkL (A.map (AObj.cut m)) A:=by
  intro m A
  induction A with
  |nil=>intro _;exact trivial
  |cons o A ih=>intro hc;exact zKZ (hc o (by simp)) (ih fun o ho=>hc o (List.mem_cons_of_mem _ ho))
 exact key _ A h
theorem zVI{m:Nat}{o:AObj}(h:wkL [o.cut m] [o]):wkL [o] [o]:=by
 cases o with
 |raw=>exact h.elim
 |dead=>trivial
 |cells=>exact⟨⟨rfl,zh _⟩,trivial⟩
 |tok=>exact⟨⟨rfl,rfl,rfl⟩,trivial⟩
 |map=>exact⟨rfl,trivial⟩
 |row=>exact⟨⟨⟨rfl,rfl,rfl⟩,zh _⟩,trivial⟩
theorem zIa{m:Nat}:∀{A:List AObj},(∀o∈A,wkL [o.cut m] [o])->wkL A A
 | [],_=>trivial
 |o::A,h=>zKZ (zVI (h o (by simp))) (zIa fun o ho=>h o (List.mem_cons_of_mem _ ho))
theorem zVJ{A:List AObj}{N:Nat}{S:ASt}(hl:A.length=N)(h:∀o∈A,wkL [o.cut N] [o]):wkT (trim N (A::S)) (A::S):=by
 subst hl
 have:=zXt (A:=A) (B:=[]) h
 rw[List.append_nil]at this;exact⟨this,rfl⟩
end Go.Proofs.YtdflkegnmmkkoaaGreatDoor
