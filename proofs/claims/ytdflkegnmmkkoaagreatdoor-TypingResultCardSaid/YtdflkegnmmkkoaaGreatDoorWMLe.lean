/- A part of the proof. -/
import Derived.Test.YtdflkegnmmkkoaaGreatDoorWMLd
import Derived.Test.YtdflkegnmmkkoaaGreatDoorWMWp
set_option linter.unusedVariables false
set_option linter.unusedSimpArgs false
set_option maxRecDepth 100000
set_option maxHeartbeats 32000000
namespace Go.Proofs.YtdflkegnmmkkoaaGreatDoor
open Go.RowKit
theorem zX4{L A B:List AObj}{R:ASt}(h:wkL A B):wkS ((L++A)::R) ((L++B)::R):=by
 obtain⟨h1,h2⟩:=zVz h
 refine⟨by simp[h1],fun d i o ho=>?_⟩
 cases d with
 |succ d=>exact⟨o,ho,zJj o⟩
 |zero=>
  have ya:(L++B)[i]? =some o:=ho
  rcases Nat.lt_or_ge i L.length with hi|hi
  .rw[List.getElem?_append_left hi]at ya
   exact⟨o,by show(L++A)[i]? =some o;rw[List.getElem?_append_left hi];exact ya,zJj o⟩
  rw[List.getElem?_append_right hi]at ya
  obtain⟨o0,k1,k2⟩:=h2 _ o ya
  exact⟨o0,by show(L++A)[i]? =some o0;rw[List.getElem?_append_right hi];exact k1,k2⟩
def zMu(P:Program)(rs:List ResultVar)(r:AV)(S':ASt):Exit->List AV->ASt->Prop:=fun e fr S1=>
 (e= .normal\/e= .ret)/\∃vs,resA P fr S1 rs=some vs/\∃L1 L R L2,S1=L1::L::R/\(retA vs).mrg L.length=r/\wkL (L1.map (AObj.mrg L.length)) L2/\(L++L2)::R=S'
theorem zPk(P:Program)(rs:List ResultVar)(r:AV)(e:Exit)(fr:List AV)(L1 L:List AObj)(R S':ASt):zMu P rs r S' e fr (L1::L::R)=((e= .normal\/e= .ret)/\∃vs,resA P fr (L1::L::R) rs=some vs/\(retA vs).mrg L.length=r/\∃L2,wkL (L1.map (AObj.mrg L.length)) L2/\(L++L2)::R=S'):=by
 unfold zMu
 apply propext
 constructor
 .rintro⟨h,vs,h1,Ys,L',R',L2,h2,h3,h4,h5⟩
  cases h2;exact⟨h,vs,h1,h3,L2,h4,h5⟩
 rintro⟨h,vs,h1,h3,L2,h4,h5⟩
 exact⟨h,vs,h1,_,_,_,L2,rfl,h3,h4,h5⟩
attribute [simp] zPk
theorem ADet.mergeW{P:Program}{K:FuncId}{args:List AV}{S S':ASt}{r:AV}{fn:Func}{c:Code}(hm:P.follows .mixedOrders=true)(hK:∀xs w,(callFunc K xs).run P w= .ok (.enter K xs) w)(hf:P.funcs[K]? =some fn)(hb:fn.body=some c)
  (h:awp P c (AV.ups 1 args++List.replicate (fn.ntmps-args.length) .un) ([]::S) (zMu P fn.results.toList r S')):ADet P K args S r S':=by
 refine⟨hK,fun Pr φ xs w da hR hne=>?_⟩
 refine calls_of_wp hf hb ?_
 have nb:RF Pr ([]::φ) (AV.ups 1 args++List.replicate (fn.ntmps-args.length) .un) {tmps:=xs++Array.replicate (fn.ntmps-xs.size) undef,defers:=[]}:=by
  refine⟨by simp[zAK,da.1],fun t v x hv hx=>?_⟩
  rcases Nat.lt_or_ge t args.length with ht|ht
  .rw[List.getElem?_append_left (by rw[zAK];exact ht),zBt]at hv
   obtain⟨v0,h0,rfl⟩:=Option.map_eq_some_iff.1 hv
   simp only at hx;rw[Array.getElem?_append_left (by rw[<-da.1];exact ht)]at hx
   exact RA.up (k:=1) (da.2 t v0 x h0 hx)
  rw[List.getElem?_append_right (by rw[zAK];exact ht)]at hv
  simp only at hx;rw[Array.getElem?_append_right (by rw[<-da.1];exact ht)]at hx
  rw[List.getElem?_replicate]at hv;rw[Array.getElem?_replicate]at hx;split at hv
  .split at hx
   .cases hv;cases hx;exact .un
   cases hx
  cases hv
 refine wp_mono (zCx hm c _ Pr ([]::φ) _ _ ([]::S) w nb (zCS hR) (by simp) h) fun e a' w' hp=>?_
 obtain⟨ja,S1,Pr',φ',⟨he,vs,h1,L1,L,R,L2,rfl,h2,hw,h3⟩,h4,h5,h6,h7⟩:=hp
 obtain⟨x,hx,ta⟩:=zB3 (P:=P) (fn:=fn) h4 h5 h1
 have Db:φ'≠ []:=zL h6 (by simp)
 obtain⟨l1,φ0,rfl⟩:=List.exists_cons_of_ne_nil Db
 have be:=zCq h6
 have Dk:φ0≠ []:=fun h0=>by have:=h5.shape;rw[h0]at this;simp at this
 obtain⟨l,φ1,rfl⟩:=List.exists_cons_of_ne_nil Dk
 have ca:l.length=L.length:=by have:=h5.shape;simp at this;exact this.2.1
 have hF:=zMP l l1 φ1
 have wo:Stp Pr φ w Pr' ((l++l1)::φ1) w':=by
  refine⟨be.pl,be.fl.trans hF,fun d i e g a b=>?_,be.fr,?_,be.pn⟩
  .obtain⟨d1,i1,a1,_,_⟩:=zCN a
   rcases h6.fresh _ _ _ g a1 b with⟨d0,i0,e1,k1,k2⟩|k1
   .cases d0 with
    |zero=>simp[get2]at k1
    |succ d0=>exact .inl ⟨d0,i0,e1,k1,k2⟩
   exact .inr k1
  have:=be.len;simpa using this
 have ce:=hx.mrg
 rw[ca,h2]at ce
 have cm:=zEH (zRT h5) (zX4 hw)
 rw[h3]at cm
 have key:a'.defers=[]/\∃v,(results fn a'.tmps).run P w'= .ok v w'/\∃x Pr' φ',Ending.returned v= .returned x/\Stp Pr φ w Pr' φ' w'/\Rel Pr' φ' S' w'/\RA Pr' φ' r x:=
  ⟨h7,x,ta,x,Pr',_,rfl,wo,cm,ce⟩
 rcases he with rfl|rfl
 .exact key
 exact key
inductive Lent (S:ASt):AV->PV->Prop
 |p (q:PV):Lent S (.p q) q
 |nil (k:Nat):Lent S (.p (.v (.slice none 0 0))) (.sl k [])
 |osl (k:Nat) (rows:List (List PV)) (d i:Nat):Lent S (.osl k rows d i) (.sl k rows)
 |rsl {d i n k:Nat} {E:TypeId} {cs:List AV} {rows:List (List PV)} (cf:Nat->AV):get2 S d i=some (.row E k n cs)->rows.length=n->(∀(r:Nat) (row:List PV),rows[r]? =some row->row.length=k)->
   (∀(r:Nat) (row:List PV) (j:Nat) (q:PV),rows[r]? =some row->row[j]? =some q->cs[r*k+j]? =some (cf (r*k+j)))->
   (∀(r:Nat) (row:List PV) (j:Nat) (q:PV),rows[r]? =some row->row[j]? =some q->Lent S ((cf (r*k+j)).up d) q)->Lent S (.rsl d i n k) (.sl k rows)
 |asl {d i n k:Nat} {t:TypeId} {cs:List AV} {rows:List (List PV)} (cf:Nat->AV):get2 S d i=some (.cells cs t)->rows.length=n->(∀(r:Nat) (row:List PV),rows[r]? =some row->row.length=k)->
   (∀(r:Nat) (row:List PV) (j:Nat) (q:PV),rows[r]? =some row->row[j]? =some q->cs[r*k+j]? =some (cf (r*k+j)))->
   (∀(r:Nat) (row:List PV) (j:Nat) (q:PV),rows[r]? =some row->row[j]? =some q->Lent S ((cf (r*k+j)).up d) q)->Lent S (.asl d i n k) (.sl k rows)
theorem Lent.rp{S:ASt}{Pr:Prot}{φ:Fi2}{w:World}(hR:Rel Pr φ S w){v:AV}{q:PV}(h:Lent S v q):∀{x:Value},RA Pr φ v x->RP (zDh w) q x:=by
 induction h with
 |p q=>
  intro x hx
  cases hx with
  |p h=>exact h.mono hR.pr
 |nil k=>
  intro x hx
  have:=zT hx rfl
  subst this
  exact .slemp k none 0 (Nat.zero_le _)
 |osl k rows d i=>intro x hx;exact hx.sl.mono hR.pr
 | @rsl d i n k E cs rows cf hS hl hw hc _ ih=>
  intro x hx
  obtain⟨e',hE,Va,Jd,Tg,jd,kb,Fa⟩:=hR.obj d i _ hS
  generalize yf:k=k' at hx
  cases hx with
  |rnil a b c=>
   have h0:rows=[]:=List.eq_nil_of_length_eq_zero hl
   subst h0
   exact .slemp _ none 0 (Nat.zero_le _)
  | @rsl _ _ _ g cap e a1 a2 a3 a4 a5 a6 a7=>
   rw[hE]at a1;cases a1
   obtain⟨Zb,qd⟩:=a5 Jd.symm
   obtain⟨h0,_⟩|⟨g',xs,Gb,ma,cb,hn0,Rd,Id,qc,mb⟩:=Fa
   .omega
   rw[Zb]at Gb;cases Gb;subst qd
   have La:∀o,zDh w g o=xs[o]?:=fun o=>zBb ma o
   subst hl
   have key:∀(r:Nat) (row:List PV) (j:Nat) (p:PV),rows[r]? =some row->row[j]? =some p->zDh w g (0+r*k+j)=some (xs.getD (r*k+j) undef)/\RP (zDh w) p (xs.getD (r*k+j) undef):=fun r row j p hr hj=>by
    have h1:=hc r row j p hr hj
    have hlt:r*k+j<xs.size:=by
     have:=(List.getElem?_eq_some_iff.1 h1).1
     have h3:rows.length*k<=e'.cap*k:=Nat.mul_le_mul_right _ Rd
     omega
    have hx:xs[r*k+j]? =some xs[r*k+j]:=Array.getElem?_eq_getElem hlt
    have hd:xs.getD (r*k+j) undef=xs[r*k+j]:=by simp[hlt]
    rw[Nat.zero_add,La,hd];exact⟨hx,ih r row j p hr hj (qc _ _ _ h1 hx).up⟩
   rw[<-yf]
   exact .sl (off:=0) (fun r j=>xs.getD (r*k+j) undef) a6 a7 hw (fun r row j p hr hj=>(key r row j p hr hj).1) (fun r row j p hr hj=>(key r row j p hr hj).2)
 | @asl d i n k t cs rows cf hS hl hw hc _ ih=>
  intro x hx
  obtain⟨e',hE,Va,g',xs,Gb,ma,kb,qc,mb⟩:=hR.obj d i _ hS
  cases hx with
  |asl h1 h2 h3 h4=>
   rw[hE]at h1;cases h1;rw[h3]at Gb;cases Gb;subst hl
   have key:∀(r:Nat) (row:List PV) (j:Nat) (p:PV),rows[r]? =some row->row[j]? =some p->zDh w _ (0+r*k+j)=some (xs.getD (r*k+j) undef)/\RP (zDh w) p (xs.getD (r*k+j) undef):=fun r row j p hr hj=>by
    have h1:=hc r row j p hr hj
    have hlt:r*k+j<xs.size:=by
     have:=(List.getElem?_eq_some_iff.1 h1).1
     omega
    have hx:xs[r*k+j]? =some xs[r*k+j]:=Array.getElem?_eq_getElem hlt
    have hd:xs.getD (r*k+j) undef=xs[r*k+j]:=by simp[hlt]
    rw[Nat.zero_add,show zDh w _ _=xs[r*k+j]? from zBb ma _,hd]
    exact⟨hx,ih r row j p hr hj (qc _ _ _ h1 hx).up⟩
   exact .sl (off:=0) (fun r j=>xs.getD (r*k+j) undef) (Nat.le_refl _) h4 hw (fun r row j p hr hj=>(key r row j p hr hj).1) (fun r row j p hr hj=>(key r row j p hr hj).2)
inductive LentA (S:ASt):AV->AV->Prop
 |p {v:AV} {q:PV}:Lent S v q->LentA S v (.p q)
 |agg {l:List (AV × PV)}:(∀c∈l,Lent S c.1 c.2)->LentA S (.agg (l.map (·.1))) (.agg (l.map fun c=>.p c.2))
inductive LentL (S:ASt):List AV->List AV->Prop
 |nil:LentL S [] []
 |cons {a b:AV} {al bl:List AV}:LentA S a b->LentL S al bl->LentL S (a::al) (b::bl)
theorem Lent.row{S:ASt}{d i n k:Nat}{E:TypeId}{Ag:List (List AV)}{rows:List (List PV)}(hS:get2 S d i=some (.row E k n Ag.flatten))(hl:rows.length=n)(Be:Ag.length=n)
  (hc:∀(r:Nat) (cs:List AV) (row:List PV),Ag[r]? =some cs->rows[r]? =some row->cs.length=k/\row.length=k/\∀(j:Nat) (c:AV) (q:PV),cs[j]? =some c->row[j]? =some q->Lent S (c.up d) q):Lent S (.rsl d i n k) (.sl k rows):=by
 have ca:∀cs∈Ag,cs.length=k:=fun cs hm=>by
  obtain⟨r,hr,rfl⟩:=List.getElem_of_mem hm
  exact(hc r _ rows[r] (List.getElem?_eq_getElem hr) (List.getElem?_eq_getElem (by omega))).1
 have flat:∀(Ag:List (List AV)),(∀cs∈Ag,cs.length=k)->∀(r:Nat) (cs:List AV) (j:Nat) (c:AV),Ag[r]? =some cs->cs[j]? =some c->Ag.flatten[r*k+j]? =some c:=by
  intro Ag
  induction Ag with
  |nil=>intro _ r cs j c h;simp at h
  |cons a al ih=>
   intro hk r cs j c hr hj;rw[List.flatten_cons]
   have ha:=hk a (by simp)
   cases r with
   |zero=>
    simp at hr;subst hr;rw[Nat.zero_mul,Nat.zero_add,List.getElem?_append_left (List.getElem?_eq_some_iff.1 hj).1]
    exact hj
   |succ r=>
    rw[List.getElem?_append_right (by rw[ha,Nat.add_mul];omega),ha]
    have e:(r+1)*k+j-k=r*k+j:=by rw[Nat.add_mul];omega
    rw[e];exact ih (fun cs hm=>hk cs (List.mem_cons_of_mem _ hm)) r cs j c (by simpa using hr) hj
 refine .rsl (fun o=>Ag.flatten.getD o .any) hS hl (fun r row hr=>?_) (fun r row j q hr hj=>?_) fun r row j q hr hj=>?_
 .have hlt:r<Ag.length:=by have:=(List.getElem?_eq_some_iff.1 hr).1;omega
  exact(hc r _ row (List.getElem?_eq_getElem hlt) hr).2.1
 all_goals
  have hlt:r<Ag.length:=by have:=(List.getElem?_eq_some_iff.1 hr).1;omega
  obtain⟨h1,h2,h3⟩:=hc r _ row (List.getElem?_eq_getElem hlt) hr
  have Jh:j<Ag[r].length:=by have:=(List.getElem?_eq_some_iff.1 hj).1;omega
  have hf:=flat Ag ca r _ j _ (List.getElem?_eq_getElem hlt) (List.getElem?_eq_getElem Jh)
  rw[List.getD,hf]
 .rfl
 exact h3 j _ q (List.getElem?_eq_getElem Jh) hj
theorem za:∀l:List AV,wkR l l
 | []=>trivial
 |a::l=>⟨.inr rfl,za l⟩
theorem zKR{o o':AObj}{a b:List AObj}(h:wkL [o] [o'])(k:wkL a b):wkL (o::a) (o'::b):=by
 cases o<;>cases o'<;>simp_all[wkL]
theorem zX5{A B:List AObj}(h:∀o∈A,wkL [o.cut A.length] [o]):wkL (List.map (AObj.cut A.length) (List.take A.length (A++B))) A:=by
 rw[List.take_left]
 have key:∀(m:Nat) (A:List AObj),(∀o∈A,wkL [o.cut m] [o])->wkL (A.map (AObj.cut m)) A:=by
  intro m A
  induction A with
  |nil=>intro _;exact trivial
  |cons o A ih=>intro hc;exact zKR (hc o (by simp)) (ih fun o ho=>hc o (List.mem_cons_of_mem _ ho))
 exact key _ A h
theorem zVP{m:Nat}{o:AObj}(h:wkL [o.cut m] [o]):wkL [o] [o]:=by
 cases o with
 |raw=>exact h.elim
 |dead=>trivial
 |cells=>exact⟨⟨rfl,za _⟩,trivial⟩
 |tok=>exact⟨⟨rfl,rfl,rfl⟩,trivial⟩
 |map=>exact⟨rfl,trivial⟩
 |row=>exact⟨⟨⟨rfl,rfl,rfl⟩,za _⟩,trivial⟩
theorem zIK{m:Nat}:∀{A:List AObj},(∀o∈A,wkL [o.cut m] [o])->wkL A A
 | [],_=>trivial
 |o::A,h=>zKR (zVP (h o (by simp))) (zIK fun o ho=>h o (List.mem_cons_of_mem _ ho))
theorem zVQ{A:List AObj}{N:Nat}{S:ASt}(hl:A.length=N)(h:∀o∈A,wkL [o.cut N] [o]):wkT (trim N (A::S)) (A::S):=by
 subst hl
 have:=zX5 (A:=A) (B:=[]) h
 rw[List.append_nil]at this;exact⟨this,rfl⟩
end Go.Proofs.YtdflkegnmmkkoaaGreatDoor
